/- Several texts in one: MoT GxPtr RuGp RuZ. Condition: none. -/
import Derived.Test.YtapciiffpnociacGreatW19
import Derived.Test.YtapciiffpnociacGreatW11
import Derived.Test.YtapciiffpnociacGreatW17
import Derived.Test.YtapciiffpnociacGreatW18
import Derived.Test.YtapciiffpnociacGreatW10
namespace Go.Proofs.YtapciiffpnociacGreat
structure Stp where
 fact:Fct
 rule:Int
 vars:List Int
def kW (r:Rul):Nat:=if r.fold=0 then r.terms.length else r.terms.length - 1
def isW (r:Rul) (f:Fct) (w:List Int):Bool:=decide ((aW r w).take (kW r)=f.args.take (kW r))
def wayOf (r:Rul) (f:Fct) (ways:List (List Int)):List Int:=ways.getD (ways.findIdx (isW r f)) []
def takeG (r:Rul) (n:Int) (ways:List (List Int)):List Fct→List Fct→List Stp→Bool × List Fct × List Stp
 | [],S,hw=>(true,S,hw)
 | f::l,S,hw=>if hasF S f then takeG r n ways l S hw else if S.length=60 then (false,S,hw)
  else takeG r n ways l (b9 (S++[f])) (hw++[⟨f,n,wayOf r f ways⟩])
theorem aW_len (r:Rul) (w:List Int):(aW r w).length=r.terms.length:=List.length_map _
theorem kW_le (r:Rul):kW r≤r.terms.length:=by unfold kW;split <;> omega
theorem head_way {r:Rul} {ways:List (List Int)} {f:Fct} (h:f∈headsD r ways) (hf:r.fold≠0→0 < r.terms.length):f.args.length=r.terms.length∧∃ w∈ways,isW r f w=true:=by
 rw [headsD_eq] at h
 obtain⟨w,hw,h⟩:=List.mem_filterMap.1 h
 unfold headD at h
 split at h
 ·rename_i h0
  simp only [Option.some.injEq] at h
  subst h
  exact⟨aW_len r w,w,hw,decide_eq_true rfl⟩
 ·rename_i h0
  split at h
  ·simp only [Option.some.injEq] at h
   subst h
   have hl:=hf h0
   have h1:(pW r w).1=(aW r w).take (r.terms.length - 1):=rfl
   have h2:(pW r w).1.length=r.terms.length - 1:=by rw [h1,List.length_take,aW_len];omega
   refine⟨?_,w,hw,decide_eq_true ?_⟩
   ·rw [List.length_append,h2,List.length_singleton];omega
   ·unfold kW
    rw [if_neg h0,← h1]
    show _=List.take _ _
    rw [List.take_append_of_le_length (by rw [h2];exact Nat.le_refl _),List.take_of_length_le (by rw [h2];exact Nat.le_refl _)]
  ·cases h
theorem wayOf_mem {r:Rul} {f:Fct} {ways:List (List Int)} (h:∃ w∈ways,isW r f w=true):wayOf r f ways∈ways∧isW r f (wayOf r f ways)=true:=by
 obtain⟨w,hw,h⟩:=h
 have hlt:=List.findIdx_lt_length_of_exists (xs:=ways) (p:=isW r f) ⟨w,hw,h⟩
 unfold wayOf
 rw [List.getD_eq_getElem?_getD,List.getElem?_eq_getElem hlt]
 exact⟨List.getElem_mem hlt,List.findIdx_getElem (w:=hlt)⟩
structure StpOk (p:Prg) (lv:List Int) (n:Int) (given:List Fct) (hw:List Stp) (T:List Fct) (i:Nat) (h:Stp):Prop where
 lo:0≤h.rule
 hi:h.rule.toNat < p.rules.length
 level:lv.getD (p.rules[h.rule.toNat]'hi).pred.toNat 0 < n
 way:h.vars∈rawW T (p.rules[h.rule.toNat]'hi)
 head:h.fact∈hdW T (p.rules[h.rule.toNat]'hi)
 is:isW (p.rules[h.rule.toNat]'hi) h.fact h.vars=true
 ahead:(p.rules[h.rule.toNat]'hi).fold=0→∀ l∈(p.rules[h.rule.toNat]'hi).body,l.kind=1→(⟨l.pred,l.terms.map (vA h.vars)⟩:Fct)∈given∨∃ g∈hw.take i,g.fact=⟨l.pred,l.terms.map (vA h.vars)⟩
structure HwOk (given S:List Fct) (hw:List Stp):Prop where
 all:∀ x,x∈S↔x∈given∨∃ h∈hw,h.fact=x
 nodup:(hw.map (·.fact)).Nodup
 new:∀ h∈hw,h.fact ∉ given
def HwM (p:Prg) (lv:List Int) (n:Int) (given:List Fct) (hw:List Stp) (T:List Fct):Prop:=∀ i h,hw[i]? = some h→StpOk p lv n given hw T i h
theorem HwM.more {p:Prg} {lv:List Int} {n:Int} {given:List Fct} {hw:List Stp} {T:List Fct} (h:HwM p lv n given hw T) {s:Stp} (hs:StpOk p lv n given hw T hw.length s):HwM p lv n given (hw++[s]) T:=by
 have key:∀ i,i≤hw.length→(hw++[s]).take i=hw.take i:=fun i hi=>List.take_append_of_le_length hi
 intro i g hg
 by_cases hi:i < hw.length
 ·rw [List.getElem?_append_left hi] at hg
  have h1:=h i g hg
  exact⟨h1.lo,h1.hi,h1.level,h1.way,h1.head,h1.is,fun h0 l hl hk=>by rw [key i (by omega)];exact h1.ahead h0 l hl hk⟩
 ·rw [List.getElem?_append_right (by omega)] at hg
  have hi0:i - hw.length=0:=by
   apply Classical.byContradiction
   intro hn
   rw [List.getElem?_eq_none (by rw [List.length_singleton];omega)] at hg
   cases hg
  have hi1:i=hw.length:=by omega
  rw [hi0] at hg
  simp only [List.getElem?_cons_zero,Option.some.injEq] at hg
  subst hg
  subst hi1
  exact⟨hs.lo,hs.hi,hs.level,hs.way,hs.head,hs.is,fun h0 l hl hk=>by rw [key _ (Nat.le_refl _)];have:=hs.ahead h0 l hl hk;exact this⟩
theorem HwOk.more {given S:List Fct} {hw:List Stp} (h:HwOk given S hw) {s:Stp} (hs:s.fact ∉ S):HwOk given (b9 (S++[s.fact])) (hw++[s]):=by
 have hn:s.fact ∉ given∧∀ g∈hw,g.fact≠s.fact:=⟨fun hc=>hs ((h.all _).2 (.inl hc)),fun g hg he=>hs ((h.all _).2 (.inr ⟨g,hg,he⟩))⟩
 refine⟨fun x=>?_,?_,fun g hg=>?_⟩
 ·rw [(bw _).2,List.mem_append,List.mem_singleton,h.all]
  constructor
  ·rintro ((h1|⟨g,h1,h2⟩)|h1)
   ·exact .inl h1
   ·exact .inr ⟨g,List.mem_append_left _ h1,h2⟩
   ·exact .inr ⟨s,List.mem_append_right _ (List.mem_singleton.2 rfl),h1.symm⟩
  ·rintro (h1|⟨g,h1,h2⟩)
   ·exact .inl (.inl h1)
   ·rcases List.mem_append.1 h1 with h1|h1
    ·exact .inl (.inr ⟨g,h1,h2⟩)
    ·rw [List.mem_singleton] at h1
     subst h1
     exact .inr h2.symm
 ·rw [List.map_append]
  refine List.nodup_append.2 ⟨h.nodup,by simp,fun x hx y hy he=>?_⟩
  rw [List.map_singleton,List.mem_singleton] at hy
  obtain⟨g,hg,rfl⟩:=List.mem_map.1 hx
  exact hn.2 g hg (he.trans hy)
 ·rcases List.mem_append.1 hg with hg|hg
  ·exact h.new g hg
  ·rw [List.mem_singleton] at hg
   subst hg
   exact hn.1
structure BldOk (p:Prg) (lv:List Int) (n:Nat) (given m0 S:List Fct) (hw:List Stp):Prop where
 inv:InvM (lvV p lv n m0) m0 S
 hwk:HwOk given S hw
 stp:∀ T,Good (lvV p lv n m0) m0 T→HwM p lv (n + 1) given hw T
theorem take_spec {p:Prg} (hp:PrgR p) {lv:List Int} (hl:LvFit p lv) {n:Nat} {given m0:List Fct} {i:Nat} (hi:i < p.rules.length) (hlv:lv.getD (p.rules[i]).pred.toNat 0=n) {S0:List Fct} {hw0:List Stp} (h0:BldOk p lv n given m0 S0 hw0) (hm:manyW S0 p.rules[i]=true) :
  ∀ (heads S:List Fct) (hw:List Stp),(∀ f∈heads,f∈hdW S0 p.rules[i])→BldOk p lv n given m0 S hw→(∀ x∈S0,x∈S)→(∀ g∈hw0,g∈hw)→S0.length≤S.length →
   ((takeG p.rules[i] i (rawW S0 p.rules[i]) heads S hw).1=true→BldOk p lv n given m0 (takeG p.rules[i] i (rawW S0 p.rules[i]) heads S hw).2.1 (takeG p.rules[i] i (rawW S0 p.rules[i]) heads S hw).2.2 ∧
    (∀ x∈S,x∈(takeG p.rules[i] i (rawW S0 p.rules[i]) heads S hw).2.1)∧(∀ x∈heads,x∈(takeG p.rules[i] i (rawW S0 p.rules[i]) heads S hw).2.1)∧S.length≤(takeG p.rules[i] i (rawW S0 p.rules[i]) heads S hw).2.1.length) ∧
   ((takeG p.rules[i] i (rawW S0 p.rules[i]) heads S hw).1=false→¬ ∃ M,Fit (lvV p lv n m0) m0 M)
 | [],S,hw,_,h,_,_,_=>⟨fun _=>⟨h,fun _ h=>h,fun _ h=>by simp at h,Nat.le_refl _⟩,fun hf=>by simp [takeG] at hf⟩
 | f::l,S,hw,hh,h,hs,hsh,hlen=>by
  have hV:=lvV_ok hp hl n m0
  have hrs:p.rules[i]∈(lvV p lv n m0).rs:=List.mem_filter.2 ⟨List.getElem_mem hi,decide_eq_true hlv⟩
  have hf0:=hh f (List.mem_cons_self ..)
  have hl':=fun g hg=>hh g (List.mem_cons_of_mem _ hg)
  unfold takeG
  by_cases hin:hasF S f=true
  ·rw [if_pos hin]
   obtain⟨a,b⟩:=take_spec hp hl hi hlv h0 hm l S hw hl' h hs hsh hlen
   refine⟨fun ht=>?_,b⟩
   obtain⟨a1,a2,a3,a4⟩:=a ht
   refine⟨a1,a2,fun x hx=>?_,a4⟩
   rcases List.mem_cons.1 hx with rfl|hx
   ·exact a2 x (hasF_iff.1 hin)
   ·exact a3 x hx
  ·rw [if_neg hin]
   have hnin:f ∉ S:=fun hc=>hin (hasF_iff.2 hc)
   by_cases h60:S.length=60
   ·rw [if_pos h60]
    refine⟨fun ht=>by simp at ht,fun _=>no_room hV h.inv (H:=[f]) (fun x hx=>?_) (by simp) (fun x hx=>?_) (by rw [h60];simp)⟩
    ·rw [List.mem_singleton] at hx
     subst hx
     exact⟨_,hrs,S0,h0.inv,hf0⟩
    ·rw [List.mem_singleton] at hx
     subst hx
     exact hnin
   ·rw [if_neg h60]
    obtain⟨w1,w2⟩:=bw (S++[f])
    have hle:=setF_lenle (S++[f])
    rw [List.length_append,List.length_singleton] at hle
    have hSl:=h.inv.len
    have hinv:InvM (lvV p lv n m0) m0 (b9 (S++[f])):=inv_put hV h.inv (fun x hx=>by
     rw [List.mem_singleton] at hx
     subst hx
     exact⟨_,hrs,S0,h0.inv,hf0⟩) (by omega)
    have hgrow:S.length + 1≤(b9 (S++[f])).length:=by
     have:=nodup_len (a:=f::S) (b:=b9 (S++[f])) (List.nodup_cons.2 ⟨hnin,h.inv.strict.nodup⟩) fun x hx=>by
      rw [w2,List.mem_append,List.mem_singleton]
      rcases List.mem_cons.1 hx with h|h
      ·exact .inr h
      ·exact .inl h
     rw [List.length_cons] at this
     exact this
    have hr:=hp.rul _ (List.getElem_mem hi)
    obtain⟨wm,wi⟩:=wayOf_mem (head_way (((bw _).2 f).1 hf0) fun hf=>(hr.folded hf).1).2
    have hb:BldOk p lv n given m0 (b9 (S++[f])) (hw++[⟨f,i,wayOf p.rules[i] f (rawW S0 p.rules[i])⟩]):=by
     refine⟨hinv,h.hwk.more (s:=⟨f,i,wayOf p.rules[i] f (rawW S0 p.rules[i])⟩) hnin,fun T hT=>(h.stp T hT).more ?_⟩
     have hsub:=h0.inv.least T hT
     have hk:∀ l∈(p.rules[i]).body,l.kind≤2→liftN (p.rules[i]).fold l=1→∀ x:Fct,x.pred=l.pred→(x∈S0↔x∈T):=by
      intro l hlb hk2 hlift x hx
      have:=hl.fit _ (List.getElem_mem hi) l hlb hk2
      have hlt:lv.getD x.pred.toNat 0 < (n:Int):=by rw [hx];omega
      exact (h0.inv.a.2 x hlt).trans (hT.a.2 x hlt).symm
     obtain⟨_,g2,g3⟩:=ways_grow hr hp.ar h0.inv.a.1 hT.a.1 h0.inv.strict.nodup hT.strict.nodup hsub hk (hT.few _ hrs)
     have hnat:((i:Int)).toNat=i:=Int.toNat_natCast i
     refine⟨Int.natCast_nonneg i,by rw [hnat];exact hi,?_,?_,?_,?_,?_⟩
     ·simp only [hnat];omega
     ·simp only [hnat];exact g2 _ wm
     ·simp only [hnat];exact heads_grow g2 g3 f hf0
     ·simp only [hnat];exact wi
     ·simp only [hnat]
      intro hfold l hlb hk1
      have hraw:=raw_sub wm
      have sS:=rulS_mk hr hp.ar h0.inv.a.1
      obtain⟨_,_,p3⟩:=ways_perm h0.inv.strict.nodup sS.ok.lit sS.bd
      have hh:=((p3 _).1 hraw).2 l hlb
      unfold holdE at hh
      rw [if_pos hk1] at hh
      have hmem:=hasF_iff.1 hh
      rcases (h0.hwk.all _).1 hmem with hg|⟨g,hg,he⟩
      ·exact .inl hg
      ·exact .inr ⟨g,by rw [List.take_of_length_le (Nat.le_refl _)];exact hsh g hg,he⟩
    obtain⟨a,b⟩:=take_spec hp hl hi hlv h0 hm l _ _ hl' hb (fun x hx=>(w2 x).2 (List.mem_append_left _ (hs x hx))) (fun g hg=>List.mem_append_left _ (hsh g hg)) (by omega)
    refine⟨fun ht=>?_,b⟩
    obtain⟨a1,a2,a3,a4⟩:=a ht
    refine⟨a1,fun x hx=>a2 x ((w2 x).2 (List.mem_append_left _ hx)),fun x hx=>?_,by omega⟩
    rcases List.mem_cons.1 hx with rfl|hx
    ·exact a2 x ((w2 x).2 (List.mem_append_right _ (List.mem_singleton.2 rfl)))
    ·exact a3 x hx
end Go.Proofs.YtapciiffpnociacGreat
namespace Go.Proofs.YtapciiffpnociacGreat
open Go Go.RowKit
def CellOk (S:Nat→Prop) (H:Hp) (s:SV) (d:D):Prop:=s = .d d∨(∃ i te es xs,s = .row i∧S i∧Hp.get H i=some (.row te es xs)∧d = .slice es xs)∨(s = .nils∧∃ es,d = .slice es [])
def BlkOk (S:Nat→Prop) (H:Hp) (id:Nat) (ds:List D):Prop:=S id∧∃ ty cs,Hp.get H id=some (.blk ty cs)∧∀ j (h:j < ds.length),∃ s,cs[j]? = some s∧CellOk S H s ds[j]
theorem mem_eq:∀ {H:Hp},(H.map (·.1)).Nodup→∀ {p q:Nat × HB},p∈H→q∈H→p.1=q.1→p=q
 | [],_,_,_,h,_,_=>by simp at h
 | x::H,hn,p,q,hp,hq,he=>by
  obtain⟨h1,h2⟩:=List.nodup_cons.1 hn
  rcases List.mem_cons.1 hp with rfl|hp'
  ·rcases List.mem_cons.1 hq with rfl|hq'
   ·rfl
   ·exact absurd (List.mem_map.2 ⟨q,hq',he.symm⟩) h1
  ·rcases List.mem_cons.1 hq with rfl|hq'
   ·exact absurd (List.mem_map.2 ⟨p,hp',he⟩) h1
   ·exact mem_eq h2 hp' hq' he
theorem Hp.mem_del {i:Nat}:∀ {H:Hp} {p:Nat × HB},p∈H→p.1≠i→p∈Hp.del H i
 | [],_,h,_=>by simp at h
 | (d,s)::H,p,hp,hne=>by
  simp only [Hp.del]
  cases hb:Nat.beq d i with
  | true =>
   have:=Nat.eq_of_beq_eq_true hb
   rcases List.mem_cons.1 hp with rfl|hp'
   ·exact absurd this hne
   ·exact hp'
  | false =>
   rcases List.mem_cons.1 hp with rfl|hp'
   ·exact List.mem_cons_self ..
   ·exact List.mem_cons_of_mem _ (Hp.mem_del hp' hne)
section
variable {Γ : Ctx} {k : Nat} {L : Sl} {H : Hp} {a : Act} {w : World} {e : Env} {S : Nat → Prop} {X' : Nat → Prop}
theorem cell_rep (m:Models Γ k L H e a w) (h1:∀ b,X' b→Γ.X e H b) (h2:∀ p∈H,S p.1→∀ b,HB.owned e p=some b→¬ X' b) {s:SV} {d:D} (h:CellOk S H s d) {v:Value} (hr:Rel (Γ.X e H) e w s v):RepC X' w v d:=by
 rcases h with rfl|⟨i,te,es,xs,rfl,hS,hH,rfl⟩|⟨rfl,es,rfl⟩
 ·exact RepC.keep (Nat.le_refl _) (fun _ _ _=>rfl) (fun b _ h=>h1 b h) hr
 ·rw [hr.2.1]
  refine RepC.keep (Nat.le_refl _) (fun _ _ _=>rfl) (fun b _ h=>?_) (row_data m hH)
  rcases h1 b h with ho|ho
  ·exact .inl ho
  ·obtain⟨p,hp,hpb⟩:=List.mem_filterMap.1 ho
   have hne:p.1≠i:=by
    intro hpi
    have:=mem_eq m.ids hp (Hp.mem_of hH) hpi
    subst this
    exact h2 _ hp hS b hpb h
   exact .inr (List.mem_filterMap.2 ⟨p,Hp.mem_del hp hne,hpb⟩)
 ·rw [show v = .slice none 0 0 from hr];exact .nil
theorem ptr_rep (m:Models Γ k L H e a w) (h1:∀ b,X' b→Γ.X e H b) (h2:∀ p∈H,S p.1→∀ b,HB.owned e p=some b→¬ X' b) {id:Nat} {ds:List D} (h:BlkOk S H id ds) {v:Value} (hv:v = .pointer (some ⟨e.β id,0,none⟩)):RepC X' w v (.ptr ds):=by
 obtain⟨hS,ty,cs,hH,hc⟩:=h
 have hmem:=Hp.mem_of hH
 obtain⟨us,g1,g2,_⟩:=(m.heap _ hmem).2
 subst hv
 have hcell:∀ j (hj:j < ds.length),∃ u,us[j]? = some u∧RepC X' w u ds[j]:=by
  intro j hj
  obtain⟨s,q1,q2⟩:=hc j hj
  obtain⟨u,q3,q4⟩:=RelL.get _ _ g2 j s q1
  exact⟨u,q3,cell_rep m h1 h2 q2 q4⟩
 refine .ptr (fun j=>us.getD j undef) (h2 _ hmem hS _ rfl) (lt_of_heap g1) (fun j hj=>?_) (fun j hj=>?_)
 ·obtain⟨u,q3,_⟩:=hcell j hj
  rw [cell_of_row w _ _ _ ty (0,0) g1,Nat.zero_add]
  simp [List.getD,q3]
 ·obtain⟨u,q3,q4⟩:=hcell j hj
  simp only [List.getD,q3,Option.getD_some]
  exact q4
theorem ptrs_rep (m:Models Γ k L H e a w) (h1:∀ b,X' b→Γ.X e H b) (h2:∀ p∈H,S p.1→∀ b,HB.owned e p=some b→¬ X' b) {i n cap:Nat} {te:TypeId} {cs:List SV} {dss:List (List D)} (hS:S i) (hH:Hp.get H i=some (.blk te cs)) (hn:dss.length=n)
  (hc:∀ j (h:j < dss.length),∃ id,cs[j]? = some (.loc id 0)∧BlkOk S H id dss[j]) {v:Value} (hr:Rel (Γ.X e H) e w (.sl i 0 n cap) v):RepC X' w v (.slice 1 (dss.map fun ds=>[.ptr ds])):=by
 obtain⟨_,hnc,hcm,o,rfl,ho⟩:=hr
 have hmem:=Hp.mem_of hH
 obtain⟨us,g1,g2,_⟩:=(m.heap _ hmem).2
 have hcell:∀ j (hj:j < dss.length),∃ u,us[j]? = some u∧RepC X' w u (.ptr dss[j]):=by
  intro j hj
  obtain⟨id,q1,q2⟩:=hc j hj
  obtain⟨u,q3,q4⟩:=RelL.get _ _ g2 j _ q1
  exact⟨u,q3,ptr_rep m h1 h2 q2 q4.2⟩
 subst hn
 refine .slice (fun i' _=>us.getD i' undef) (by simp) hnc hcm (h2 _ hmem hS _ rfl) (lt_of_heap g1) (fun i' hi=>by simp) (fun i' hi j hj=>?_) (fun i' hi j hj=>?_)
 ·rw [List.length_map] at hi
  simp only [List.getElem_map,List.length_cons,List.length_nil,Nat.zero_add,Nat.lt_one_iff] at hj
  subst hj
  obtain⟨u,q3,_⟩:=hcell i' hi
  have:o=0:=ho (by omega)
  subst this
  rw [cell_of_row w _ _ _ te (0,0) g1,Nat.zero_add,Nat.mul_one]
  simp [List.getD,q3]
 ·rw [List.length_map] at hi
  simp only [List.getElem_map,List.length_cons,List.length_nil,Nat.zero_add,Nat.lt_one_iff] at hj
  subst hj
  obtain⟨u,q3,q4⟩:=hcell i' hi
  simp only [List.getD,q3,Option.getD_some,List.getElem_map,List.getElem_cons_zero]
  exact q4
end
theorem FnP.use_at {dr:Bool} {P:Program} {τ:List (Nat × TI)} {τok:TabOk P τ} {f:FuncId} {args:List SV} {R:SV→Prop} (hc:FnP dr P τ τok f args R) (e:Env) {w:World} (O:Nat→Prop) (hO:∀ b,O b→b < w.heap.size) (hlow:SV.lowL 0 args=true)
  (vs:List Value) (hr:RelL O e w args vs) :
  Calls P f vs.toArray w (fun en w'=>∃ r v,R r∧en = .returned v∧Beld dr w.heap.size w w'∧r.low 0=true∧Rel O e w' r v):=by
 have hX:∀ e' b,Ctx.X ⟨P,τ,τok,O,w,fun b=>b∈a7 (e.ren id 0) [],0,0,(e.ren id 0).an,none,noPan,true,dr⟩ e' [] b↔O b:=by
  intro e' b
  unfold Ctx.X
  simp [a7]
 refine (hc.2 O (e.ren id 0) w vs ⟨fun _=>Iff.rfl,by simp,by simp,by simp [a7],by simp [a7],rfl,rfl,rfl,fun _=>Nat.le_refl _,Nat.le_refl _,fun _ _ _=>rfl,fun b hb=>⟨hO b hb,by simp [a7]⟩,fun j hj=>absurd hj (Nat.not_lt_zero j),fun j hj=>absurd hj (Nat.not_lt_zero j)⟩ ?_).mono ?_
 ·exact RelL.keep (Nat.le_refl _) (fun _ _ _=>rfl) (fun b _ hy=>(hX _ b).1 hy) _ _ (RelL.env _ _ hlow hr)
 ·rintro en w' ⟨k',r,H',e',v,⟨rfl,hlr,hR⟩,rfl,hH,hrel⟩
  refine⟨r,v,hR,rfl,⟨⟨hH.os,hH.tape,hH.output,hH.size,fun b hb=>hH.block b hb (by simp [a7])⟩,hH.drawn⟩,hlr,?_⟩
  exact Rel.keep (Nat.le_refl _) (fun _ _ _=>rfl) (fun b _ hy=>(hX _ b).2 hy) _ _ (Rel.env _ _ hlr hrel)
theorem sure_rel {X Y:Nat→Prop} {e e':Env} {w w':World} {s:SV} {u v:Value} (hu:s.sure=some u) (hr:Rel X e w s v):Rel Y e' w' s v:=by
 cases s with
 | d x =>
  cases x with
  | int i n=>cases hr;exact .int (by assumption)
  | bool b=>cases hr;exact .bool
  | str s=>cases hr;exact .str (by assumption)
  | slice=>simp [SV.sure] at hu
  | ptr=>simp [SV.sure] at hu
 | _=>simp [SV.sure] at hu
section
variable {Γ : Ctx} {k : Nat} {L : Sl} {H : Hp} {K : c6} {ops : List Oper} {rest : List Oper}
theorem ds_lend {f:FuncId} {xs:List Operand} {ts:Array TypeId} {ty:TypeId} {pos:String} {af:Array Edge} {g:Option (Nat × Bool)} {d:Nat} {args:List SV} {r:SV} {u:Value} (hw:bk ops L g=some true)
  (hl:∀ e a w,Models Γ k L H e a w→RelL Γ.O e w args (xs.map a.eval)) (hc:FnP Γ.dr Γ.P Γ.τ Γ.τok f args (fun s=>s=r)) (hu:r.sure=some u) (hlow:SV.lowL 0 args=true) (hd:Nat.blt d Γ.n=true)
  (hk:DS false Γ ops rest K k ((d,r)::L) H) :
  DS false Γ ops (⟨some d,.call { callee:=.value (.func f),args:=xs.toArray,argTypes:=ts },ty,pos,af,g⟩::rest) K k L H:=by
 refine dl_run hw fun e a w m=>?_
 unfold Oper.wp
 rw [run_callOp hc.1]
 rw [Oper.upon_enter]
 refine (hc.use_at (τ:=Γ.τ) (τok:=Γ.τok) e Γ.O (fun b hb=>Nat.lt_of_lt_of_le (m.obound b hb).1 m.size) hlow _ (hl e a w m)).mono ?_
 rintro en w' ⟨r',v,rfl,rfl,hb,hlr,hrel⟩
 exact⟨k,_,H,e,(m.below hb).put (Nat.le_of_ble_eq_true hd) (sure_rel hu hrel),hk⟩
theorem ent_frz {S:Nat→Prop} {i n cap:Nat} {te:TypeId} {cs:List SV} {dss:List (List D)} (t:Nat) {H':Hp} (hL:L.get t = .sl i 0 n cap) (hS:S i) (hH:Hp.get H i=some (.blk te cs)) (hn:dss.length=n)
  (hc:∀ j (h:j < dss.length),∃ id,cs[j]? = some (.loc id 0)∧BlkOk S H id dss[j]) (hsub:∀ p∈H',p∈H∧¬ S p.1) (hid:(H'.map (·.1)).Nodup) (hown:∀ e,(a7 e H).Nodup→(a7 e H').Nodup) :
  Ent Γ k L H k ((t,.d (.slice 1 (dss.map fun ds=>[.ptr ds])))::L) H':=by
 intro e a w m
 have hX:∀ b,Γ.X e H' b→Γ.X e H b:=fun b hb=>hb.imp id fun hb=>by
  obtain⟨p,hp,ho⟩:=List.mem_filterMap.1 hb
  exact List.mem_filterMap.2 ⟨p,(hsub p hp).1,ho⟩
 have hX2:∀ p∈H,S p.1→∀ b,HB.owned e p=some b→¬ Γ.X e H' b:=by
  intro p hp hSp b hb hx
  rcases hx with hx|hx
  ·exact (m.mine b (List.mem_filterMap.2 ⟨p,hp,hb⟩)).2 hx
  ·obtain⟨q,hq,hqb⟩:=List.mem_filterMap.1 hx
   exact m.owned_ne (hsub q hq).1 hp (fun he=>(hsub q hq).2 (he▸hSp)) hqb hb
 refine⟨e,⟨⟨m.top,fun p hp=>⟨(m.heap p (hsub p hp).1).1,HRel.keep (Nat.le_refl _) (fun _ _ _=>rfl) (fun b _ hy=>hX b hy) p (fun _ _=>rfl) (m.heap p (hsub p hp).1).2⟩,hid,hown e m.nodup,fun b hb=>m.mine b (by
  obtain⟨p,hp,ho⟩:=List.mem_filterMap.1 hb
  exact List.mem_filterMap.2 ⟨p,(hsub p hp).1,ho⟩),m.os,m.tape,m.output,m.drawn,m.size,m.block,m.obound,m.jle,m.anchor⟩,m.defers,m.len,fun t'=>?_⟩⟩
 rw [Sl.get_cons]
 split
 ·rename_i ht
  subst ht
  have hs:=m.slot t
  rw [hL] at hs
  exact ptrs_rep m hX hX2 hS hH hn hc hs
 ·exact Rel.keep (Nat.le_refl _) (fun _ _ _=>rfl) (fun b _ hy=>hX b hy) _ _ (m.slot t')
end
section
variable {Γ : Ctx} {k : Nat} {L : Sl} {H : Hp} {K : c6} {ops : List Oper} {rest : List Oper} {t t' ty : TypeId} {x y : Operand}
theorem ds_append_ptr {d te t2 i off n cap es j te2:Nat} {cs:List SV} {sv:SV} {pos:String} {af:Array Edge} {g:Option (Nat × Bool)}
  (ht:Γ.sh t = .slice te) (hkn:(Γ.sh te).known=true) (hes:Γ.cells te=es) (hpos:Nat.blt 0 es=true) (hz:Nat.beq (bg Γ.τ te).zero.length (Γ.cells te)=true) (hzo:zeroOk (bg Γ.τ te).zero=true)
  (hx:bi L x = .sl i off n cap) (hH:Hp.get H i=some (.blk te cs)) (hfit:off + cap≤cs.length) (hy:bi L y = .sl j 0 1 1) (hHj:Hp.get H j=some (.blk te2 [sv])) (he1:es=1) (hw:bk ops L g=some true) (hd:Nat.blt d Γ.n=true)
  (hroom:(n + 1) * (bg Γ.τ te).bytes≤140737488355328) (h63:n + 1≤maxLen)
  (hk1:n + 1≤cap→DS false Γ ops rest K k ((d,.sl i off (n + 1) cap)::L) (Hp.set H i (.blk te (splice cs (off + n) [sv]))))
  (hk2:∀ cap',cap < n + 1→n + 1≤cap'→cap'≤maxLen→DS false Γ ops rest K (k + 1) ((d,.sl k 0 (n + 1) cap')::L) ((k,.blk te ((cs.drop off).take n++[sv]++List.replicate (cap' - (n + 1)) .junk))::H)) :
  DS false Γ ops (⟨some d,.call { callee:=.builtin .append,args:=#[x,y],argTypes:=#[t,t] },t2,pos,af,g⟩::rest) K k L H:=by
 have hfit:off + cap * es≤cs.length:=by rw [he1,Nat.mul_one];exact hfit
 refine dl_run hw fun e a w m=>?_
 obtain⟨inf,zv,hi,hzz,hs,hb,hzc⟩:=Ctx.info (Sh.known_ne hkn)
 have hut:=Ctx.slice ht
 obtain⟨hdom,hnc,hcm,o',hvx,ho'⟩:=evT m hx (cSV_sl · _ _ _ _)
 obtain⟨_,_,_,oy,hvy,hoy⟩:=evT m hy (cSV_sl · _ _ _ _)
 have hoy0:=hoy (by omega)
 subst hoy0
 obtain⟨us,hhj,hjs,honej⟩:=(m.heap _ (Hp.mem_of hHj)).2
 have hul1:=RelL.length _ _ hjs
 obtain⟨vs,hh,hcs,hone⟩:=(m.heap _ (Hp.mem_of hH)).2
 have hvl:=RelL.length _ _ hcs
 have hsz:inf.size=es:=by rw [hs,hes]
 have hpos':=Nat.le_of_ble_eq_true hpos
 have u1:us.length=1 * es:=by rw [← hul1,he1];rfl
 have u2:∀ q u,us[q]? = some u→w.cell? ((⟨e.β j,0,none⟩:Addr).add q)=some u:=by
  intro q u hq
  rw [Addr.add_at,cell_of_row w _ _ _ te2 (0,0) hhj]
  simpa using hq
 have u3:=honej
 have hul:[sv].length=us.length:=hul1
 have huflat:RelL (Γ.X e H) e w [sv] us:=hjs
 by_cases hcap:n + 1≤cap
 ·have hoo:o' = off:=ho' (by omega)
  subst hoo
  have hfit2:o' + n * inf.size + us.length≤vs.toArray.size:=by
   rw [u1,hsz,List.size_toArray,← hvl,Nat.add_assoc,← Nat.add_mul]
   exact Nat.le_trans (Nat.add_le_add_left (Nat.mul_le_mul_right _ hcap) _) hfit
  have hrun:=run_append_room_at (P:=Γ.P) w t t2 te inf hut hi (e.β i) o' n cap te vs.toArray hh ⟨e.β j,0,none⟩ 1 1 us (by rw [hsz];exact u1) u2 u3 hcap hfit2
  have hop:(execOp a.eval ⟨some d,.call { callee:=.builtin .append,args:=#[x,y],argTypes:=#[t,t] },t2,pos,af,g⟩).run Γ.P w = .ok (.value (.slice (some ⟨e.β i,o',none⟩) (n + 1) cap)) (w.setRow (e.β i) (vs.toArray.toList.take (o' + n * inf.size)++us++vs.toArray.toList.drop (o' + n * inf.size + us.length)).toArray):=by
   simp only [execOp,resolve,invoke,builtin,Sem.run_bind,Sem.run_pure,Result.andThen_ok,List.map_toArray,List.map_cons,List.map_nil,hvx,hvy,hrun]
  unfold Oper.wp
  rw [hop]
  have m2:Models Γ (lo k) L (Hp.set H i (.blk te (splice cs (o' + n * es) ([sv])))) e a (w.setRow (e.β i) (vs.toArray.toList.take (o' + n * inf.size)++us++vs.toArray.toList.drop (o' + n * inf.size + us.length)).toArray):=by
   refine m.turn (b':=.blk te (splice cs (o' + n * es) ([sv]))) hH ?_ rfl rfl rfl (fun _=>Nat.le_refl _) (fun c _ hc=>setRow_other w _ c _ (fun h=>hc (by simp [HB.owned,h]))) rfl ?_
   ·simp [World.setRow]
   ·refine⟨_,setRow_heap w (e.β i) vs.toArray _ te (0,0) hh,?_,fun v hv=>?_⟩
    ·have hkeep:∀ b,b < w.heap.size→¬ Γ.X e H b→(w.setRow (e.β i) (vs.toArray.toList.take (o' + n * inf.size)++us++vs.toArray.toList.drop (o' + n * inf.size + us.length)).toArray).heap[b]? = w.heap[b]?:=fun b _ hb=>setRow_other w _ b _ (fun h=>hb (.inr (List.mem_filterMap.2 ⟨_,Hp.mem_of hH,by simp [HB.owned,h]⟩)))
     refine RelL.keep (by simp [World.setRow]) hkeep (fun _ _ h=>h) _ _ ?_
     unfold splice
     rw [hsz,hul]
     exact RelL.append _ _ _ _ (RelL.append _ _ _ _ (RelL.take _ _ hcs _) huflat) (RelL.drop _ _ hcs _)
    ·simp only [List.mem_append] at hv
     rcases hv with (hv|hv)|hv
     ·exact hone v (List.mem_of_mem_take hv)
     ·exact u3 v hv
     ·exact hone v (List.mem_of_mem_drop hv)
  exact⟨_,_,_,_,m2.put (s:=.sl i o' (n + 1) cap) (Nat.le_of_ble_eq_true hd) ⟨hdom,hcap,hcm,o',rfl,fun _=>rfl⟩,by rw [he1,Nat.mul_one];exact hk1 hcap⟩
 ·have hlt:cap < n + 1:=by omega
  have hol:((vs.drop off).take (n * es)).length=n * inf.size:=by
   rw [List.length_take,List.length_drop,← hvl,hsz]
   have:n * es≤cap * es:=Nat.mul_le_mul_right _ hnc
   omega
  have holds:∀ j v,((vs.drop off).take (n * es))[j]? = some v→w.cell? ((⟨e.β i,o',none⟩:Addr).add j)=some v:=by
   intro j v hj
   have hjl:j < n * es:=by
    rw [List.getElem?_take] at hj
    split at hj
    ·assumption
    ·cases hj
   have hn0:0 < cap:=by
    rcases Nat.eq_zero_or_pos n with h|h
    ·rw [h,Nat.zero_mul] at hjl;omega
    ·omega
   have hoo:=ho' hn0
   subst hoo
   rw [List.getElem?_take,if_pos hjl,List.getElem?_drop] at hj
   rw [Addr.add_at,cell_of_row w _ _ _ te (0,0) hh]
   simpa using hj
  have h63':((n + 1:Nat):Int)≤9223372036854775807:=by unfold maxLen at h63;omega
  have hrun:=run_append_grow (P:=Γ.P) w t t2 te inf zv hut hi hzz ⟨e.β i,o',none⟩ n cap ((vs.drop off).take (n * es)) hol holds ⟨e.β j,0,none⟩ 1 1 us (by rw [hsz];exact u1) u2 hlt h63' (growslice_fits hlt (by rw [hb];exact hroom))
  have hge:=grownCap_ge w (n + 1) cap te
  have hcm':grownCap w (n + 1) cap te≤maxLen:=grownCap_le_maxLen w (n + 1) cap te h63
  generalize grownCap w (n + 1) cap te=c' at hrun hge hcm'
  have hop:(execOp a.eval ⟨some d,.call { callee:=.builtin .append,args:=#[x,y],argTypes:=#[t,t] },t2,pos,af,g⟩).run Γ.P w = .ok (.value (.slice (some ⟨w.heap.size,0,none⟩) (n + 1) c'))
    (w.drew.alloc (.cells (((vs.drop off).take (n * es)).toArray++us.toArray++Builtin.zeroCells zv.cells (c' - (n + 1))) te)):=by
   simp only [execOp,resolve,invoke,builtin,Sem.run_bind,Sem.run_pure,Result.andThen_ok,List.map_toArray,List.map_cons,List.map_nil,hvx,hvy,hrun]
  unfold Oper.wp
  rw [hop]
  have m1:Models Γ (lo k) L H e a w.drew:=m.below ((Beld.refl _ _ _).drew)
  have hzsz:zv.cells.size=es:=by rw [← Array.length_toList,hzc,Nat.eq_of_beq_eq_true hz,hes]
  have m2:=(m1.alloc (lo_not k) (cs:=(cs.drop off).take (n * es)++[sv]++List.replicate ((c' - (n + 1)) * es) .junk)
   (vs:=(vs.drop off).take (n * es)++us++(Builtin.zeroCells zv.cells (c' - (n + 1))).toList) te
   (RelL.append _ _ _ _ (RelL.append _ _ _ _ (RelL.take _ _ (RelL.drop _ _ (RelL.keep (w:=w) (w':=w.drew) (Nat.le_refl _) (fun _ _ _=>rfl) (fun _ _ h=>h) _ _ hcs) _) _) (RelL.keep (w:=w) (w':=w.drew) (Nat.le_refl _) (fun _ _ _=>rfl) (fun _ _ h=>h) _ _ huflat)) (junk_rel _ _ (by rw [Array.length_toList,size_zeroCells,hzsz])))
   (fun v hv=>by
    simp only [List.mem_append] at hv
    rcases hv with (hv|hv)|hv
    ·exact hone v (List.mem_of_mem_drop (List.mem_of_mem_take hv))
    ·exact u3 v hv
    ·have:=zeroCells_mem hv
     rw [hzc] at this
     exact (zeroOk_spec (X:=Γ.X e H) (e:=e) (w:=w) _ hzo).2 v this)).cast (with1_lo k)
  have harr:((vs.drop off).take (n * es)++us++(Builtin.zeroCells zv.cells (c' - (n + 1))).toList).toArray=((vs.drop off).take (n * es)).toArray++us.toArray++Builtin.zeroCells zv.cells (c' - (n + 1)):=by simp
  rw [harr] at m2
  refine⟨_,_,_,_,m2.put (s:=.sl k 0 (n + 1) c') (Nat.le_of_ble_eq_true hd) ⟨.inr rfl,hge,hcm',0,?_,fun _=>rfl⟩,by rw [he1,Nat.mul_one,Nat.mul_one];exact hk2 c' hlt hge hcm'⟩
  show _=Value.slice (some ⟨(e.bind k w.heap.size).β k,0,none⟩) (n + 1) c'
  rw [show (e.bind k w.heap.size).β k=w.heap.size from if_pos rfl]
theorem ds_append_ptr0 {d te t2 es j te2:Nat} {sv:SV} {pos:String} {af:Array Edge} {g:Option (Nat × Bool)}
  (ht:Γ.sh t = .slice te) (hkn:(Γ.sh te).known=true) (hes:Γ.cells te=es) (hpos:Nat.blt 0 es=true) (hz:Nat.beq (bg Γ.τ te).zero.length (Γ.cells te)=true) (hzo:zeroOk (bg Γ.τ te).zero=true)
  (hx:bi L x = .nils) (hy:bi L y = .sl j 0 1 1) (hHj:Hp.get H j=some (.blk te2 [sv])) (he1:es=1) (hw:bk ops L g=some true) (hd:Nat.blt d Γ.n=true)
  (hroom:(bg Γ.τ te).bytes≤140737488355328)
  (hk2:∀ cap',1≤cap'→cap'≤maxLen→DS false Γ ops rest K (k + 1) ((d,.sl k 0 1 cap')::L) ((k,.blk te ([sv]++List.replicate (cap' - 1) .junk))::H)) :
  DS false Γ ops (⟨some d,.call { callee:=.builtin .append,args:=#[x,y],argTypes:=#[t,t] },t2,pos,af,g⟩::rest) K k L H:=by
 refine dl_run hw fun e a w m=>?_
 obtain⟨inf,zv,hi,hzz,hs,hb,hzc⟩:=Ctx.info (Sh.known_ne hkn)
 have hut:=Ctx.slice ht
 have hvx:=evNils m hx
 obtain⟨_,_,_,oy,hvy,hoy⟩:=evT m hy (cSV_sl · _ _ _ _)
 have hoy0:=hoy (by omega)
 subst hoy0
 obtain⟨us,hhj,hjs,honej⟩:=(m.heap _ (Hp.mem_of hHj)).2
 have hul1:=RelL.length _ _ hjs
 have hsz:inf.size=es:=by rw [hs,hes]
 have hpos':=Nat.le_of_ble_eq_true hpos
 have u1:us.length=1 * es:=by rw [← hul1,he1];rfl
 have u2:∀ q u,us[q]? = some u→w.cell? ((⟨e.β j,0,none⟩:Addr).add q)=some u:=by
  intro q u hq
  rw [Addr.add_at,cell_of_row w _ _ _ te2 (0,0) hhj]
  simpa using hq
 have u3:=honej
 have hul:[sv].length=us.length:=hul1
 have huflat:RelL (Γ.X e H) e w [sv] us:=hjs
 have hrun:=run_append_nil (P:=Γ.P) (w:=w) t t2 te inf zv hut hi hzz ⟨e.β j,0,none⟩ 1 1 us (by rw [hsz];exact u1) u2 (by omega) (by omega) (by rw [hb];omega)
 have hge:=grownCap_ge w 1 0 te
 have hcm':grownCap w 1 0 te≤maxLen:=grownCap_le_maxLen w 1 0 te (by unfold maxLen;omega)
 generalize grownCap w 1 0 te=c' at hrun hge hcm'
 have hop:(execOp a.eval ⟨some d,.call { callee:=.builtin .append,args:=#[x,y],argTypes:=#[t,t] },t2,pos,af,g⟩).run Γ.P w = .ok (.value (.slice (some ⟨w.heap.size,0,none⟩) 1 c'))
   (w.drew.alloc (.cells (us.toArray++Builtin.zeroCells zv.cells (c' - 1)) te)):=by
  simp only [execOp,resolve,invoke,builtin,Sem.run_bind,Sem.run_pure,Result.andThen_ok,List.map_toArray,List.map_cons,List.map_nil,hvx,hvy,hrun]
 unfold Oper.wp
 rw [hop]
 have m1:Models Γ (lo k) L H e a w.drew:=m.below ((Beld.refl _ _ _).drew)
 have hzsz:zv.cells.size=es:=by rw [← Array.length_toList,hzc,Nat.eq_of_beq_eq_true hz,hes]
 have m2:=(m1.alloc (lo_not k) (cs:=[sv]++List.replicate ((c' - 1) * es) .junk)
  (vs:=us++(Builtin.zeroCells zv.cells (c' - 1)).toList) te
  (RelL.append _ _ _ _ (RelL.keep (w:=w) (w':=w.drew) (Nat.le_refl _) (fun _ _ _=>rfl) (fun _ _ h=>h) _ _ huflat) (junk_rel _ _ (by rw [Array.length_toList,size_zeroCells,hzsz])))
  (fun v hv=>by
   simp only [List.mem_append] at hv
   rcases hv with hv|hv
   ·exact u3 v hv
   ·have:=zeroCells_mem hv
    rw [hzc] at this
    exact (zeroOk_spec (X:=Γ.X e H) (e:=e) (w:=w) _ hzo).2 v this)).cast (with1_lo k)
 have harr:(us++(Builtin.zeroCells zv.cells (c' - 1)).toList).toArray=us.toArray++Builtin.zeroCells zv.cells (c' - 1):=by simp
 rw [harr] at m2
 refine⟨_,_,_,_,m2.put (s:=.sl k 0 1 c') (Nat.le_of_ble_eq_true hd) ⟨.inr rfl,hge,hcm',0,?_,fun _=>rfl⟩,by rw [he1,Nat.mul_one];exact hk2 c' hge hcm'⟩
 show _=Value.slice (some ⟨(e.bind k w.heap.size).β k,0,none⟩) 1 c'
 rw [show (e.bind k w.heap.size).β k=w.heap.size from if_pos rfl]
end
def encG (g:Gr):List D:=[.ptr [.slice 1 (g.1.map bf),.slice 1 (g.2.map bf)]]
def elG (g:Gr):SV:=.d (.ptr [.slice 1 (g.1.map bf),.slice 1 (g.2.map bf)])
theorem ptr_pd {X e w} {ds:List D} {v:Value} (h:RepC X w v (.ptr ds)):Rel X e w (.pd ds) v:=by
 cases h with
 | ptr c hX hb hcell hrep=>exact⟨_,_,rfl,hb,hX,fun j hj=>⟨c j,hcell j hj,hrep j hj⟩⟩
theorem ent_pd {Γ:Ctx} {k:Nat} {L:Sl} {H:Hp} (t:Nat) {ds:List D} (hL:L.get t = .d (.ptr ds)):Ent Γ k L H k ((t,.pd ds)::L) H:=by
 intro e a w m
 refine⟨e,⟨m.toHeap,m.defers,m.len,fun t'=>?_⟩⟩
 rw [Sl.get_cons]
 split
 ·rename_i ht
  subst ht
  have hs:=m.slot t
  rw [hL] at hs
  exact ptr_pd hs
 ·exact m.slot t'
attribute [local irreducible] DW DS DL DQ Ev FnOk FnP thenD b7 DT
set_option maxHeartbeats 8000000 in
theorem made1_fn (a:List Int) (last:Nat) (ha:last≤a.length) (g:Gr):Fn 95 ([elG g]++[.pd [.slice 1 (a.map bf)],.pd [.int .i64 last]]) (fun r=>r = .d (.bool (decide (g.1=a.take last)))):=by
 refine au _ Tryz.func95 rfl rfl (by kernel_rfl) ?_
 intro O w0 E0 β0
 have la:(a.map bf).length=a.length:=List.length_map _
 have w1:=equalI_fn g.1 (a.take last)
 refine bl (ent_pd 0 rfl) ?_
 repeat' (first|refine z0 ?_|apply ag|refine z5 ?_|refine z10 ?_|apply ae|refine z16 ?_|refine z20 ?_|apply ak|apply aa|refine z22 ?_ (hc:=by apply w1)|fail)
 exact db rfl rfl
set_option maxHeartbeats 8000000 in
theorem indexG_fn {f:FuncId} {caps:List SV} (p:Gr→Bool) (l:List (Gr)) (hcap:SV.lowL 0 caps=true) (hp:∀ x∈l,Fn f (elG x::caps) (fun r=>r = .d (.bool (p x)))):Fn 94 [.d (.slice 1 (l.map encG)),.fn f caps] (fun r=>r = .d (.int .i64 (idxF p l))):=by
 refine au _ Tryz.func94 rfl rfl (by kernel_rfl) ?_
 intro O w0 E0 β0
 refine da (t:=0) rfl fun hb=>?_
 repeat' (first|refine z0 ?_|apply ag|apply ae|refine z16 ?_|apply ah|apply aa)
 refine bh (ι:=Nat) (fun i=>⟨0,[(0,.d (.slice 1 (l.map encG))),(1,.fn f caps),(7,.d (.int .i64 l.length)),(8,.d (.int .i64 i))],[]⟩)
  (fun i=>i≤l.length∧∀ j (hj:j < l.length),j < i→p l[j]=false) (fun i=>l.length - i) 0 ⟨Nat.zero_le _,fun j _ h=>absurd h (Nat.not_lt_zero j)⟩
  (aj id ⟨rfl,congrArg (SV.fn f) (SV.renL_id caps).symm,by simp;rfl,rfl,trivial⟩ trivial (by simp [Sl.low,SV.low,hcap]) rfl rfl rfl rfl rfl) ?_
 rintro i ⟨h1,h2⟩
 repeat' (first|refine z0 ?_|apply ag|apply ae|refine z16 ?_|apply aa)
 refine cw rfl (fun h=>?_) (fun h=>?_)
 ·have hi:i < l.length:=by omega
  have hpx:=hp l[i] (List.getElem_mem hi)
  repeat' (first|refine z0 ?_|apply ag|apply ae|refine z16 ?_|apply ah|apply ai|apply aa|(apply ds_callV;exact rfl;exact rfl;exact rfl;exact rfl;apply hpx;exact rfl;(assumption);exact rfl;rintro _ rfl))
  refine bu rfl (fun hb=>?_) (fun hb=>?_)
  ·repeat' (first|refine z0 ?_|apply ag|apply ae|refine z16 ?_|apply ak|apply aa|apply av|apply bq)
   exact cb rfl (idxF_hit h2 hi hb).symm
  ·repeat' (first|refine z0 ?_|apply ag|refine z16 ?_|apply ai|apply aa|apply aw)
   exact⟨i + 1,⟨hi,none_step h2 hi hb⟩,aj id ⟨rfl,congrArg (SV.fn f) (SV.renL_id caps).symm,rfl,rfl,trivial⟩ trivial (by simp [Sl.low,SV.low,hcap]) rfl rfl rfl rfl rfl,by omega⟩
 ·repeat' (first|refine z0 ?_|apply ag|apply ae|refine z16 ?_|apply aq|apply ak|apply aa|apply ap|refine z17 ?_|fail)
  exact cb rfl (idxF_none fun j hj=>h2 j hj (by omega)).symm
end Go.Proofs.YtapciiffpnociacGreat
namespace Go.Proofs.YtapciiffpnociacGreat
open Go Go.RowKit
section
variable {Γ : Ctx} {k : Nat} {L : Sl} {H : Hp} {K : c6} {ops : List Oper} {rest : List Oper} {q : Bool} {x y : Operand}
theorem ds_min {d t t2 ty:Nat} {pos:String} {af:Array Edge} {g:Option (Nat × Bool)} {m n:Int} (hx:bi L x = .d (.int .i64 m)) (hy:bi L y = .d (.int .i64 n)) (hxo:opOkB x=true) (hyo:opOkB y=true) (hw:bk ops L g=some true) (hd:Nat.blt d Γ.n=true)
  (hk:DS q Γ ops rest K k ((d,.d (.int .i64 (minI m n)))::L) H):DS q Γ ops (⟨some d,.call { callee:=.builtin .min,args:=#[x,y],argTypes:=#[t,t2] },ty,pos,af,g⟩::rest) K k L H:=by
 refine ds_ev (s:=.d (.int .i64 (minI m n))) (fun e a w m'=>⟨.int .i64 (minI m n),fun _ _ _ _ w' _=>?_,RepC.int ?_⟩) hw hd hk
 ·simp [execOp,resolve,invoke,builtin,evI m' hx,evI m' hy,Builtin.min_,Builtin.min2,minI]
 ·have h1:=evIw m' hxo hx
  have h2:=evIw m' hyo hy
  unfold minI;split <;> assumption
theorem ds_max {d t t2 ty:Nat} {pos:String} {af:Array Edge} {g:Option (Nat × Bool)} {m n:Int} (hx:bi L x = .d (.int .i64 m)) (hy:bi L y = .d (.int .i64 n)) (hxo:opOkB x=true) (hyo:opOkB y=true) (hw:bk ops L g=some true) (hd:Nat.blt d Γ.n=true)
  (hk:DS q Γ ops rest K k ((d,.d (.int .i64 (maxI m n)))::L) H):DS q Γ ops (⟨some d,.call { callee:=.builtin .max,args:=#[x,y],argTypes:=#[t,t2] },ty,pos,af,g⟩::rest) K k L H:=by
 refine ds_ev (s:=.d (.int .i64 (maxI m n))) (fun e a w m'=>⟨.int .i64 (maxI m n),fun _ _ _ _ w' _=>?_,RepC.int ?_⟩) hw hd hk
 ·simp [execOp,resolve,invoke,builtin,evI m' hx,evI m' hy,Builtin.max_,Builtin.max2,maxI]
 ·have h1:=evIw m' hxo hx
  have h2:=evIw m' hyo hy
  unfold maxI;split <;> assumption
end
theorem fold_take {f:Int→Int→Int} {x:Int} {l:List Int} {i:Nat} (hi:i < l.length):(l.take (i + 1)).foldl f x=f ((l.take i).foldl f x) l[i]:=by
 rw [List.take_succ_eq_append_getElem hi,List.foldl_append];rfl
theorem sumI_take {l:List Int} {i:Nat} (hi:i < l.length):(l.take (i + 1)).sum=(l.take i).sum + l[i]:=by
 rw [List.take_succ_eq_append_getElem hi,List.sum_append];simp
theorem sum_bd:∀ (l:List Int),(∀ x∈l,-1000000≤x∧x≤1000000)→-1000000 * (l.length:Int)≤l.sum∧l.sum≤1000000 * (l.length:Int)
 | [],_=>by simp
 | x::l,h=>by
  have h1:=sum_bd l fun y hy=>h y (List.mem_cons_of_mem _ hy)
  have h2:=h x (List.mem_cons_self ..)
  rw [List.sum_cons,List.length_cons];omega
attribute [local irreducible] DW DS DL DQ Ev FnOk FnP thenD b7 DT
set_option maxHeartbeats 8000000 in
theorem min_fn (x:Int) (l:List Int):Fn 136 [.d (.slice 1 ((x::l).map bf))] (fun r=>r = .d (.int .i64 (minL (x::l)))):=by
 refine au _ Tryz.func136 rfl rfl (by kernel_rfl) ?_
 intro O w0 E0 β0
 have la:((x::l).map bf).length=l.length + 1:=List.length_map _
 refine dw_len (t:=0) rfl (fun hk=>?_)
 repeat' (first|refine z0 ?_|apply ag|apply ae|refine z16 ?_|apply ah|apply ai|refine z19 ?_|apply aa)
 all_goals try (exfalso;omega)
 refine bh (ι:=Nat) (fun i=>⟨0,[(0,.d (.slice 1 ((x::l).map bf))),(3,.d (.int .i64 ((l.take i).foldl minI x))),(4,.d (.int .i64 ((i + 1:Nat):Int)))],[]⟩)
  (fun i=>i≤l.length) (fun i=>l.length - i) 0 (Nat.zero_le _) (aj id ⟨rfl,rfl,rfl,trivial⟩ trivial rfl rfl rfl rfl rfl rfl) ?_
 intro i g1
 dsimp only at g1 ⊢
 by_cases hi:i < l.length
 ·have hst:=fold_take (f:=minI) (x:=x) hi
  repeat' (first|(refine ds_min rfl rfl rfl rfl rfl rfl ?_)|(first|refine z0 ?_|apply ag|apply ae|refine z16 ?_|apply ah|apply ai|apply aq|apply ak|apply aa|apply ap|apply aw|refine z17 ?_|(refine z23 ?_ ?_ <;> intro hg)|fail))
  all_goals try (exfalso;omega)
  exact⟨i + 1,hi,aj id ⟨rfl,by rw [hst];rfl,rfl,trivial⟩ trivial rfl rfl rfl rfl rfl rfl,by omega⟩
 ·rw [List.take_of_length_le (by omega)]
  repeat' (first|refine z0 ?_|apply ag|apply ae|refine z16 ?_|apply ah|apply ai|apply aq|apply ak|apply aa|apply ap|refine z17 ?_|(refine z23 ?_ ?_ <;> intro hg)|fail)
  all_goals try (exfalso;omega)
  exact⟨.inl rfl,_,rfl,rfl,rfl⟩
set_option maxHeartbeats 8000000 in
theorem max_fn (x:Int) (l:List Int):Fn 137 [.d (.slice 1 ((x::l).map bf))] (fun r=>r = .d (.int .i64 (maxL (x::l)))):=by
 refine au _ Tryz.func137 rfl rfl (by kernel_rfl) ?_
 intro O w0 E0 β0
 have la:((x::l).map bf).length=l.length + 1:=List.length_map _
 refine dw_len (t:=0) rfl (fun hk=>?_)
 repeat' (first|refine z0 ?_|apply ag|apply ae|refine z16 ?_|apply ah|apply ai|refine z19 ?_|apply aa)
 all_goals try (exfalso;omega)
 refine bh (ι:=Nat) (fun i=>⟨0,[(0,.d (.slice 1 ((x::l).map bf))),(3,.d (.int .i64 ((l.take i).foldl maxI x))),(4,.d (.int .i64 ((i + 1:Nat):Int)))],[]⟩)
  (fun i=>i≤l.length) (fun i=>l.length - i) 0 (Nat.zero_le _) (aj id ⟨rfl,rfl,rfl,trivial⟩ trivial rfl rfl rfl rfl rfl rfl) ?_
 intro i g1
 dsimp only at g1 ⊢
 by_cases hi:i < l.length
 ·have hst:=fold_take (f:=maxI) (x:=x) hi
  repeat' (first|(refine ds_max rfl rfl rfl rfl rfl rfl ?_)|(first|refine z0 ?_|apply ag|apply ae|refine z16 ?_|apply ah|apply ai|apply aq|apply ak|apply aa|apply ap|apply aw|refine z17 ?_|(refine z23 ?_ ?_ <;> intro hg)|fail))
  all_goals try (exfalso;omega)
  exact⟨i + 1,hi,aj id ⟨rfl,by rw [hst];rfl,rfl,trivial⟩ trivial rfl rfl rfl rfl rfl rfl,by omega⟩
 ·rw [List.take_of_length_le (by omega)]
  repeat' (first|refine z0 ?_|apply ag|apply ae|refine z16 ?_|apply ah|apply ai|apply aq|apply ak|apply aa|apply ap|refine z17 ?_|(refine z23 ?_ ?_ <;> intro hg)|fail)
  all_goals try (exfalso;omega)
  exact⟨.inl rfl,_,rfl,rfl,rfl⟩
set_option maxHeartbeats 8000000 in
theorem folded_fn (fold:Int) (l:List Int) (hl:l≠[]) (hn:∀ x∈l,-1000000≤x∧x≤1000000) (hlen:l.length≤1000000):Fn 96 [.d (.int .i64 fold),.d (.slice 1 (l.map bf))] (fun r=>r = .tup [.d (.int .i64 (valP fold l)),.d (.bool (okP fold l))]):=by
 refine au _ Tryz.func96 rfl rfl (by kernel_rfl) ?_
 intro O w0 E0 β0
 have la:(l.map bf).length=l.length:=List.length_map _
 have w3:=min_fn (l.headD 0) l.tail
 have w4:=max_fn (l.headD 0) l.tail
 rw [show l.headD 0::l.tail=l by cases l with|nil=>exact absurd rfl hl|cons x l=>rfl] at w3 w4
 have w5:=snumber_fn l.sum
 repeat' ((fail_if_success (apply dw_stopR 8));(first|refine z0 ?_|apply ag|apply ae|refine z16 ?_|apply ah|apply ai|apply ak|apply aa|apply av|apply aw|apply bq|refine z21 ?_ (hc:=by apply w3)|refine z21 ?_ (hc:=by apply w4)|(refine z23 ?_ ?_ <;> intro hg)|fail))
 ·exact⟨.inl rfl,.tup [.d (.int .i64 (l.map bf).length),.d (.bool true)],rfl,rfl,by unfold valP okP;simp_all⟩
 ·exact⟨.inl rfl,.tup [.d (.int .i64 (minL l)),.d (.bool true)],rfl,rfl,by unfold valP okP;simp_all⟩
 ·exact⟨.inl rfl,.tup [.d (.int .i64 (maxL l)),.d (.bool true)],rfl,rfl,by unfold valP okP;simp_all⟩
 refine dw_len (t:=1) rfl (fun hk=>?_)
 repeat' fail
 refine bh (ι:=Nat) (fun i=>⟨0,[(1,.d (.slice 1 (l.map bf))),(6,.d (.int .i64 (l.take i).sum)),(22,.d (.slice 1 (l.map bf))),(23,.d (.int .i64 l.length)),(24,.d (.int .i64 i))],[]⟩)
  (fun i=>i≤l.length) (fun i=>l.length - i) 0 (Nat.zero_le _) (aj id ⟨rfl,rfl,rfl,by rw [← la];rfl,rfl,trivial⟩ trivial rfl rfl rfl rfl rfl rfl) ?_
 intro i g1
 dsimp only at g1 ⊢
 by_cases hi:i < l.length
 ·have hst:=sumI_take hi
  have hb:=sum_bd (l.take (i + 1)) fun x hx=>hn x (List.mem_of_mem_take hx)
  have hx:=hn l[i] (List.getElem_mem hi)
  rw [List.length_take] at hb
  repeat' (first|refine z0 ?_|apply ag|apply ae|refine z16 ?_|apply ah|apply ai|apply aq|apply aa|apply ap|apply aw|refine z17 ?_|(refine z23 ?_ ?_ <;> intro hg)|fail)
  all_goals try (exfalso;omega)
  exact⟨i + 1,hi,aj id ⟨rfl,by rw [hst];rfl,rfl,rfl,rfl,trivial⟩ trivial rfl rfl rfl rfl rfl rfl,by omega⟩
 ·rw [List.take_of_length_le (by omega)]
  repeat' (first|refine z0 ?_|apply ag|apply ae|refine z16 ?_|apply ah|apply ai|apply aq|apply ak|apply aa|apply ap|apply aw|refine z17 ?_|refine z21 ?_ (hc:=by apply w5)|(refine z23 ?_ ?_ <;> intro hg)|fail)
  all_goals try (exfalso;omega)
  exact⟨.inl rfl,.tup [.d (.int .i64 l.sum),.d (.bool (numB l.sum))],rfl,rfl,by unfold valP okP;simp_all⟩
end Go.Proofs.YtapciiffpnociacGreat
