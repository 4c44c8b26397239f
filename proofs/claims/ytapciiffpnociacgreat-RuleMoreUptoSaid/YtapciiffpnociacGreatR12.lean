/- Several texts in one: GxSrt RelS RelK RelU RuP RuA RuQ RuB RuR. Condition: none. -/
import Derived.Test.YtapciiffpnociacGreatR11
import Derived.Shelf.SlSortCmp.NoneTotal
import Derived.Test.YtapciiffpnociacGreatR08
import Derived.Test.YtapciiffpnociacGreatR09
import Derived.Test.YtapciiffpnociacGreatR10
namespace Go.Proofs.YtapciiffpnociacGreat
open Go Go.RowKit Go.Sort Go.Shelf
section
variable {β : Type}
structure Held (X:Nat→Prop) (w:World) (es:Nat) (enc:β→List D) where
 x:β
 vs:List Value
 len:vs.length=es
 one:∀ v∈vs,v.oneCell' = true
 rep:∀ j (hj:j < (enc x).length),∃ v,vs[j]? = some v∧RepC X w v (enc x)[j]
theorem flatK_toList {α:Type} [Inhabited α] (enc:α→List Value) (k:Nat) (hk:∀ x,(enc x).length=k) (d:Array α) (t:Nat) (ht:t < d.size * k) :
  (flatK enc k d).toList[t]? = (enc (d[t / k]'(Nat.div_lt_of_lt_mul (by rw [Nat.mul_comm];exact ht))))[t % k]?:=by
 have h0:0 < k:=Nat.pos_of_ne_zero fun h=>by subst h;simp at ht
 have h1:t / k < d.size:=Nat.div_lt_of_lt_mul (by rw [Nat.mul_comm];exact ht)
 have h2:t % k < (enc d[t / k]).length:=by rw [hk];exact Nat.mod_lt _ h0
 rw [Array.getElem?_toList,Array.getElem?_eq_getElem (by simpa using ht),List.getElem?_eq_getElem h2]
 simp only [flatK,Array.getElem_map,Array.getElem_range]
 rw [getElem!_pos d _ h1,getElem!_pos (enc d[t / k]) _ h2]
theorem sortK_heap {α:Type} [Inhabited α] {w:World} {g n:Nat} {os:Array Obj} {cur:Array Value} {e:TypeId} {fr:Nat × Nat} (enc:α→List Value) (k:Nat) (d:Array α) (hb:w.heap[g]? = some (.cells cur e fr)) :
  (sortWorldK enc k w g 0 n d os).heap[g]? = some (.cells (putCells id 0 (flatK enc k d) cur) e fr):=by
 have hg:g < w.heap.size:=(Array.getElem?_eq_some_iff.1 hb).1
 unfold sortWorldK putRowK
 rw [heap_grow_old _ _ (by simpa using hg)]
 simp [putRow,mapBlock,Sort.ahead,Array.getElem?_modify,hb,onCells]
theorem sortK_other {α:Type} [Inhabited α] {w:World} {g n:Nat} {os:Array Obj} (enc:α→List Value) (k:Nat) (d:Array α) {b:Nat} (hb:b < w.heap.size) (hne:b≠g) :
  (sortWorldK enc k w g 0 n d os).heap[b]? = w.heap[b]?:=by
 unfold sortWorldK putRowK
 rw [heap_grow_old _ _ (by simpa using hb)]
 have:g≠b:=fun h=>hne h.symm
 simp [putRow,mapBlock,Sort.ahead,Array.getElem?_modify,this]
theorem sortK_size {α:Type} [Inhabited α] {w:World} {g n:Nat} {os:Array Obj} (enc:α→List Value) (k:Nat) (d:Array α):w.heap.size≤(sortWorldK enc k w g 0 n d os).heap.size:=by
 unfold sortWorldK putRowK
 simp
theorem take_putCellsK (cur F:Array Value) (h:F.size≤cur.size):(putCells id 0 F cur).toList.take F.size=F.toList:=by
 apply List.ext_getElem?
 intro j
 by_cases hj:j < F.size
 ·rw [List.getElem?_take_of_lt hj,Array.getElem?_toList,Array.getElem?_toList]
  simp [putCells,hj,show j < cur.size by omega]
 ·rw [List.getElem?_take_eq_none (by omega),List.getElem?_eq_none (by simp;omega)]
theorem grown_eq {W w':World} (hos:w'.os=W.os) (ht:w'.tape=W.tape) (ho:w'.output=W.output) (hd:W.drawn≤w'.drawn) (hs:W.heap.size≤w'.heap.size) (hb:∀ b,b < W.heap.size→w'.heap[b]? = W.heap[b]?) :
  ∃ q os',w' = grow (W.drewN q) os':=by
 refine⟨w'.drawn - W.drawn,w'.heap.extract W.heap.size,?_⟩
 obtain⟨heap,tape,drawn,os,output⟩:=w'
 simp only at hos ht ho hd hs hb
 subst hos;subst ht;subst ho
 unfold grow World.drewN
 simp only [World.mk.injEq,true_and,and_true]
 refine⟨?_,by omega⟩
 apply Array.ext_getElem?
 intro i
 rw [Array.getElem?_append]
 split
 ·rename_i h;exact hb i h
 ·rename_i h
  rw [Array.getElem?_extract]
  split
  ·congr 1;omega
  ·rw [Array.getElem?_eq_none (by omega)]
theorem flatten_get {α γ:Type} {f:α→List γ} {k:Nat} (hk:∀ x,(f x).length=k):∀ (d:List α) (i j:Nat) (hi:i < d.length),j < k→(d.map f).flatten[i * k + j]? = (f (d[i]'hi))[j]?
 | [],_,_,hi,_=>by simp at hi
 | x::d,0,j,_,hj=>by
  rw [List.map_cons,List.flatten_cons,Nat.zero_mul,Nat.zero_add,List.getElem?_append_left (by rw [hk];exact hj)];rfl
 | x::d,i + 1,j,hi,hj=>by
  have h1:(i + 1) * k + j=k + (i * k + j):=by rw [Nat.add_mul];omega
  rw [List.map_cons,List.flatten_cons,h1,List.getElem?_append_right (by rw [hk];omega),hk,Nat.add_sub_cancel_left,flatten_get hk d i j (by simpa using hi) hj];rfl
theorem flatten_len {α γ:Type} {f:α→List γ} {k:Nat} (hk:∀ x,(f x).length=k):∀ (d:List α),(d.map f).flatten.length=d.length * k
 | []=>by simp
 | x::d=>by rw [List.map_cons,List.flatten_cons,List.length_append,hk,flatten_len hk d,List.length_cons,Nat.add_mul];omega
theorem flatK_list {α:Type} [Inhabited α] (enc:α→List Value) (k:Nat) (hk:∀ x,(enc x).length=k) (d:Array α):(flatK enc k d).toList=(d.toList.map enc).flatten:=by
 apply List.ext_getElem?
 intro t
 by_cases ht:t < d.size * k
 ·have h0:0 < k:=Nat.pos_of_ne_zero fun h=>by subst h;simp at ht
  have h1:t / k < d.size:=Nat.div_lt_of_lt_mul (by rw [Nat.mul_comm];exact ht)
  rw [flatK_toList enc k hk d t ht]
  have h2:=flatten_get hk d.toList (t / k) (t % k) (by simpa using h1) (Nat.mod_lt _ h0)
  rw [Nat.div_add_mod'] at h2
  rw [h2]
  simp
 ·rw [List.getElem?_eq_none (by simp;omega),List.getElem?_eq_none (by rw [flatten_len hk];simp;omega)]
theorem held_of {X:Nat→Prop} {w:World} {es:Nat} {enc:β→List D} (hes:∀ x,(enc x).length=es):∀ (l:List β) (us:List Value),us.length=l.length * es→(∀ v∈us,v.oneCell' = true) →
  (∀ i (hi:i < l.length) j (hj:j < (enc l[i]).length),∃ v,us[i * es + j]? = some v∧RepC X w v ((enc l[i])[j]'hj))→∃ d:List (Held X w es enc),d.map Held.x=l∧(d.map Held.vs).flatten=us
 | [],us,h,_,_=>⟨[],rfl,by simp at h;subst h;rfl⟩
 | x::l,us,h,h1,h2=>by
  have hl:us.length=es + l.length * es:=by rw [h,List.length_cons,Nat.add_mul];omega
  obtain⟨d,g1,g2⟩:=held_of (X:=X) (w:=w) hes l (us.drop es) (by rw [List.length_drop];omega) (fun v hv=>h1 v (List.mem_of_mem_drop hv)) (fun i hi j hj=>by
   obtain⟨v,q1,q2⟩:=h2 (i + 1) (by simpa using hi) j (by simpa using hj)
   refine⟨v,?_,q2⟩
   rw [List.getElem?_drop,← q1]
   congr 1
   rw [Nat.add_mul];omega)
  refine⟨⟨x,us.take es,by rw [List.length_take];omega,fun v hv=>h1 v (List.mem_of_mem_take hv),fun j hj=>?_⟩::d,by rw [List.map_cons,g1],by rw [List.map_cons,List.flatten_cons,g2,List.take_append_drop]⟩
  obtain⟨v,q1,q2⟩:=h2 0 (by simp) j (by simpa using hj)
  refine⟨v,?_,q2⟩
  rw [List.getElem?_take,if_pos (by rw [← hes x];exact hj)]
  simpa using q1
theorem lowL_d:∀ (ds:List D),SV.lowL 0 (ds.map .d)=true
 | []=>rfl
 | d::ds=>by simp [SV.lowL,SV.low,lowL_d ds]
theorem relL_d {X:Nat→Prop} {e:Env} {w:World}:∀ (ds:List D) (vs:List Value),vs.length=ds.length→(∀ j (hj:j < ds.length),∃ v,vs[j]? = some v∧RepC X w v ds[j])→RelL X e w (ds.map .d) vs
 | [],[],_,_=>trivial
 | [],_::_,h,_=>by simp at h
 | _::_,[],h,_=>by simp at h
 | d::ds,v::vs,h,hr=>⟨by obtain⟨v',h1,h2⟩:=hr 0 (by simp);cases h1;exact h2,relL_d ds vs (by simpa using h) fun j hj=>by
   obtain⟨v',h1,h2⟩:=hr (j + 1) (by simpa using hj);exact⟨v',by simpa using h1,by simpa using h2⟩⟩
variable {P : Program} {τ : List (Nat × TI)} {τok : TabOk P τ} {ρ : Ren}
theorem sort_rowK (L:SlLaysF0.n6 P ρ) (es:Nat) (aE:∀ w,(isAgg (ρ.t 24)).run P w = .ok true w) (zE:∀ w,(Go.sizeOf (ρ.t 24)).run P w = .ok es w) (enc:β→List D) (hes:∀ x,(enc x).length=es) (cf:β→β→Int) (hO:SWO (ltOf cf)) (g:Nat)
  (hc:∀ a b,FnP true P τ τok g [.agg ((enc a).map .d),.agg ((enc b).map .d)] (fun r=>r = .d (.int .i64 (cf a b)))) (te:TypeId) (l:List β) (hl:l.length < 4611686018427387904)
  {X:Nat→Prop} {e:Env} {w:World} {i:Nat} (hXo:∀ c,HB.owned e (i,.row te es (l.map enc))=some c→X c) (hXl:∀ b,X b→b < w.heap.size) (hrow:HRel X e w (i,.row te es (l.map enc))) :
  Calls P (ρ.f 6) #[e.η i,.func (.func g) #[] #[]] w fun en w'=>en = .returned (.tuple #[])∧w.heap.size≤w'.heap.size∧w'.os=w.os∧w'.tape=w.tape∧w'.output=w.output ∧
   (∀ c,c < w.heap.size→HB.owned e (i,.row te es (l.map enc))≠some c→w'.heap[c]? = w.heap[c]?)∧∃ l':List β,l'.Perm l∧l'.Pairwise (fun a b=>cf b a ≥ 0)∧HRel X e w' (i,.row te es (l'.map enc)):=by
 obtain⟨us,hown,hlen,hone2,hrep⟩:=hrow
 by_cases hne:l=[]
 ·subst hne
  obtain⟨p,cap,hv⟩:∃ p cap,e.η i = .slice p 0 cap:=by
   rcases hown.2 with ⟨hv,_⟩|⟨gb,cap,cur,hv,_⟩
   ·exact⟨_,_,hv⟩
   ·exact⟨_,_,hv⟩
  rw [hv]
  refine (AnyF.slices_SortFunc_none { L with } p cap _ w).mono ?_
  rintro en w' ⟨rfl,rfl⟩
  exact⟨rfl,Nat.le_refl _,rfl,rfl,rfl,fun _ _ _=>rfl,[],.refl _,.nil,us,hown,hlen,hone2,hrep⟩
 ·have hpos:0 < l.length:=List.length_pos_iff.2 hne
  have lm:(l.map enc).length=l.length:=List.length_map _
  obtain⟨hul,hcase⟩:=hown
  rw [lm] at hul hcase
  rcases hcase with ⟨_,h⟩|⟨gb,cap,cur,hv,_,hblk,hnc,hcm,hcs,htk⟩
  ·omega
  have hgb:gb < w.heap.size:=(Array.getElem?_eq_some_iff.1 hblk).1
  have howned:∀ (m:List (List D)),HB.owned e (i,.row te es m)=some gb:=fun m=>by simp [HB.owned,hv,Value.ownBlock]
  have hXg:X gb:=hXo gb (howned _)
  obtain⟨d,d1,d2⟩:=held_of (X:=X) (w:=w) (enc:=enc) hes l us hul hone2 (fun i hi j hj=>by
   obtain⟨v,q1,q2⟩:=hrep i (by rw [lm];exact hi) j (by simpa using hj)
   exact⟨v,q1,by simpa using q2⟩)
  have hdl:d.length=l.length:=by rw [← d1,List.length_map]
  haveI:Inhabited (Held X w es enc):=⟨d[0]'(by omega)⟩
  have hkv:∀ x:Held X w es enc,x.vs.length=es:=fun x=>x.len
  have hF:(flatK Held.vs es d.toArray).toList=us:=by rw [flatK_list _ _ hkv,← d2]
  have hHold:HoldsK (Held.vs (X:=X) (w:=w) (es:=es) (enc:=enc)) es w gb 0 d.toArray:=by
   intro t ht
   have ht':t < l.length * es:=by simpa [hdl] using ht
   have hc1:cur[t]? = us[t]?:=by
    rw [← htk,List.getElem?_take,if_pos ht',Array.getElem?_toList]
   refine⟨?_,by simp [World.frozen?,hblk]⟩
   simp only [World.cell?,hblk,Nat.zero_add]
   simp only [Option.isSome_none,Bool.false_eq_true,if_false]
   rw [hc1,← hF,Array.getElem?_toList,Array.getElem?_eq_getElem ht,getElem!_pos _ t ht]
   rfl
  have hcmp:CmpLays P g #[] (Held.vs (X:=X) (w:=w) (es:=es) (enc:=enc)) es (fun x y=>cf x.x y.x) gb 0 d.toArray.size w:=by
   intro m os dk hdk x y
   generalize hW:sortWorldK Held.vs es w gb 0 m dk os=W
   have hWs:w.heap.size≤W.heap.size:=hW▸sortK_size _ _ _
   have hWb:∀ b,b < w.heap.size→¬ X b→W.heap[b]? = w.heap[b]?:=fun b hb hx=>hW▸sortK_other _ _ _ hb fun h=>hx (h▸hXg)
   have hXW:∀ b,X b→b < W.heap.size:=fun b hb=>Nat.lt_of_lt_of_le (hXl b hb) hWs
   have hel:∀ z:Held X w es enc,RelL X e W ((enc z.x).map .d) z.vs:=fun z=>relL_d _ _ (by rw [z.len,hes]) fun j hj=>by
    obtain⟨v,q1,q2⟩:=z.rep j hj
    exact⟨v,q1,RepC.keep hWs hWb (fun _ _ h=>h) q2⟩
   have hk:=(hc x.x y.x).2 X (e.ren id 0) W [.agg x.vs.toArray,.agg y.vs.toArray] ⟨fun _=>Iff.rfl,by simp,by simp,by simp [ownedL],by simp [ownedL],rfl,rfl,rfl,fun _=>Nat.le_refl _,Nat.le_refl _,fun _ _ _=>rfl,fun b hb=>⟨hXW b hb,by simp [ownedL]⟩,fun j hj=>absurd hj (Nat.not_lt_zero j),fun j hj=>absurd hj (Nat.not_lt_zero j)⟩ ?_
   ·refine hk.mono ?_
    rintro en w' ⟨k',r,H',e',v,⟨rfl,hlr,rfl⟩,rfl,hH2,hrel⟩
    refine⟨?_,grown_eq hH2.os hH2.tape hH2.output (hH2.drawn rfl) hH2.size fun b hb=>hH2.block b hb (by simp [ownedL])⟩
    cases hrel
    rfl
   ·have hXX:∀ b,Ctx.X ⟨P,τ,τok,X,W,fun b=>b∈ownedL (e.ren id 0) [],0,0,(e.ren id 0).an,none,noPan,true,true⟩ (e.ren id 0) [] b↔X b:=fun b=>by unfold Ctx.X;simp [ownedL]
    refine RelL.keep (Nat.le_refl _) (fun _ _ _=>rfl) (fun b _ h=>(hXX b).1 h) _ _ (X:=X) (w:=W) ?_
    exact⟨⟨x.vs,rfl,RelL.env _ _ (lowL_d _) (hel x)⟩,⟨y.vs,rfl,RelL.env _ _ (lowL_d _) (hel y)⟩,trivial⟩
  have hOα:SWO (ltOf fun x y:Held X w es enc=>cf x.x y.x):=⟨fun x=>hO.irrefl x.x,fun x y z=>hO.trans x.x y.x z.x,fun x y z=>hO.ntrans x.x y.x z.x⟩
  have eg:∀ args w,(callFunc g args).run P w = .ok (.enter g args) w:=run_call ((if h:l.length=0 then by omega else (hc (l[0]'hpos) (l[0]'hpos)).1))
  have hs:=AnyQ.slices_SortFunc L es aE zE (Held.vs (X:=X) (w:=w) (es:=es) (enc:=enc)) hkv (fun x=>x.one) (fun x y=>cf x.x y.x) hOα g #[] gb 0 cap d.toArray w eg hcmp hHold hgb (by simpa [hdl] using hl)
  have hsz:d.toArray.size=l.length:=by simpa using hdl
  rw [hsz] at hs
  rw [hv]
  refine hs.mono ?_
  rintro en w' ⟨rfl,d',m,os,hp,hso,rfl⟩
  have hd's:d'.size=l.length:=hp.1.trans hsz
  have hperm:d'.toList.Perm d:=by
   have:=hp.2.2
   rwa [show d'.extract 0 l.length=d' by rw [← hd's];simp,show d.toArray.extract 0 l.length=d.toArray by rw [← hsz];simp] at this
  refine⟨rfl,sortK_size _ _ _,rfl,rfl,rfl,fun c hc hne=>sortK_other _ _ _ hc fun h=>hne (by rw [howned,h]),d'.toList.map Held.x,d1▸hperm.map _,?_,?_⟩
  ·rw [List.pairwise_map,List.pairwise_iff_getElem]
   intro i j hi hj hij
   have h1:=hso i j (Nat.zero_le _) hij (by simpa [hd's] using hj)
   rw [getElem!_pos d' i (by simpa using hi),getElem!_pos d' j (by simpa using hj)] at h1
   have h2:¬ cf d'[j].x d'[i].x < 0:=of_decide_eq_false h1
   simp only [Array.getElem_toList]
   omega
  ·have hl':(d'.toList.map Held.x).length=l.length:=by simp [hd's]
   have hFs:(flatK Held.vs es d').size=l.length * es:=by rw [size_flatK,hd's]
   have hFl:(flatK Held.vs es d').toList=(d'.toList.map Held.vs).flatten:=flatK_list _ _ hkv _
   refine⟨(d'.toList.map Held.vs).flatten,⟨?_,.inr ⟨gb,cap,_,hv▸?_,Nat.zero_le _,sortK_heap _ _ _ hblk,?_,hcm,by simp [putCells,hcs],?_⟩⟩,?_,?_,?_⟩
   ·rw [flatten_len hkv];simp
   ·simp [hd's]
   ·simp [hd's];exact hnc
   ·rw [List.length_map,hl',← hFs,take_putCellsK _ _ (by rw [hFs,hcs];exact Nat.mul_le_mul_right _ hnc),hFl]
   ·intro i hi;simp [hes]
   ·intro v hvm
    obtain⟨u,hu,hvu⟩:=List.mem_flatten.1 hvm
    obtain⟨x,_,rfl⟩:=List.mem_map.1 hu
    exact x.one v hvu
   ·intro i hi j hj
    have hi':i < d'.toList.length:=by simpa using hi
    have hj':j < es:=by simpa [hes] using hj
    obtain⟨v,q1,q2⟩:=(d'.toList[i]).rep j (by rw [hes];exact hj')
    refine⟨v,by rw [flatten_get hkv d'.toList i j hi' hj'];exact q1,?_⟩
    have q3:RepC X w v (((d'.toList.map Held.x).map enc)[i][j]):=by simpa using q2
    exact RepC.keep (sortK_size _ _ _) (fun b hb hx=>sortK_other _ _ _ hb fun h=>hx (h▸hXg)) (fun b _ h=>h) q3
def SortC (P:Program) (f g:FuncId) (te es:Nat) (enc:β→List D) (cf:β→β→Int):Prop :=
 ∀ (l:List β),l.length < 4611686018427387904→∀ (X:Nat→Prop) (e:Env) (w:World) (i:Nat),(∀ c,HB.owned e (i,.row te es (l.map enc))=some c→X c)→(∀ b,X b→b < w.heap.size)→HRel X e w (i,.row te es (l.map enc)) →
  Calls P f #[e.η i,.func (.func g) #[] #[]] w fun en w'=>en = .returned (.tuple #[])∧w.heap.size≤w'.heap.size∧w'.os=w.os∧w'.tape=w.tape∧w'.output=w.output ∧
   (∀ c,c < w.heap.size→HB.owned e (i,.row te es (l.map enc))≠some c→w'.heap[c]? = w.heap[c]?)∧∃ l':List β,l'.Perm l∧l'.Pairwise (fun a b=>cf b a ≥ 0)∧HRel X e w' (i,.row te es (l'.map enc))
end
section
variable {Γ : Ctx} {k : Nat} {L : Sl} {H : Hp} {K : Next'} {ops : List Oper} {rest : List Oper} {β : Type}
theorem ds_sort [NoDr Γ] {f g0:FuncId} {te es:Nat} {enc:β→List D} {cf:β→β→Int} (hS:SortC Γ.P f g0 te es enc cf) (l:List β) {d i:Nat} {x y:Operand} {ts:Array TypeId} {ty:TypeId} {pos:String} {af:Array Edge} {g:Option (Nat × Bool)}
  (hcall:callable Γ.P f=true) (hx:opSV L x = .row i) (hH:Hp.get H i=some (.row te es (l.map enc))) (hy:opSV L y = .fn g0 []) (hyo:opOkB y=true) (hw:wantedSV ops L g=some true) (hd:Nat.blt d Γ.n=true) (hl:l.length < 4611686018427387904)
  (hk:∀ l':List β,l'.Perm l→l'.Pairwise (fun a b=>cf b a ≥ 0)→DS false Γ ops rest K k ((d,.tup [])::L) (Hp.set H i (.row te es (l'.map enc)))) :
  DS false Γ ops (⟨some d,.call { callee:=.value (.func f),args:=#[x,y],argTypes:=ts },ty,pos,af,g⟩::rest) K k L H:=by
 refine dl_run hw fun e a w m=>?_
 unfold Oper.wp
 have hrun:=run_callOp hcall a [x,y] ts (some d) ty pos af g w
 rw [show #[x,y]=[x,y].toArray from rfl,hrun,Oper.upon_enter]
 obtain⟨hdom,hv,_⟩:=evT m hx (cSV_row · _)
 have hr:=m.op y (opOkB_spec hyo)
 rw [hy] at hr
 obtain⟨us,hu,hus⟩:=hr
 cases us with
 | cons u us=>exact hus.elim
 | nil =>
  have hmem:=Hp.mem_of hH
  have hown:∀ c,HB.owned e (i,.row te es (l.map enc))=some c→Γ.X e H c:=fun c hc=>.inr (List.mem_filterMap.2 ⟨_,hmem,hc⟩)
  have hXl:∀ b,Γ.X e H b→b < w.heap.size:=fun b hb=>hb.elim (fun h=>Nat.lt_of_lt_of_le (m.obound b h).1 m.size) (m.lt b)
  have hs:=hS l hl (Γ.X e H) e w i hown hXl (m.heap _ hmem).2
  simp only [List.map_cons,List.map_nil,hv,hu]
  refine hs.mono ?_
  rintro en w' ⟨rfl,h1,h2,h3,h4,h5,l',h6,h7,h8⟩
  exact⟨k,_,_,e,(m.turn (b':=.row te es (l'.map enc)) hH h1 h2 h3 h4 NoDr.any h5 rfl h8).put (s:=.tup []) (Nat.le_of_ble_eq_true hd) ⟨[],rfl,trivial⟩,hk l' h6 h7⟩
end
open Go Go.RowKit
theorem sortFacts_c:SortC Tryz.prog 133 63 48 2 encFct ordF:=fun l hl _ _ _ _ h1 h2 h3 =>
 sort_rowK (ρ:=Tryz.sortFacts_ren) Tryz.sortFacts 2 Tryz.isAgg48 Tryz.sizeOf48 encFct (fun _=>rfl) ordF swoF 63 (fun a b=>orderF_fnD true a b) 48 l hl h1 h2 h3
attribute [local irreducible] DW DS DL DQ Ev FnOk FnP thenD inBlockD DT
def cmpG (p:Fct):List Fct→List Fct
 | []=>[]
 | y::l=>if ordF y p=0 then cmpG y l else y::cmpG y l
def cmpF:List Fct→List Fct
 | []=>[]
 | x::l=>x::cmpG x l
theorem cmpG_snoc:∀ (l:List Fct) (p y:Fct),cmpG p (l++[y])=cmpG p l++(if ordF y ((p::l).getLast (by simp))=0 then [] else [y])
 | [],p,y=>by
  show (if ordF y p=0 then cmpG y [] else y::cmpG y [])=[]++_
  rfl
 | x::l,p,y=>by
  rw [List.cons_append]
  simp only [cmpG]
  rw [cmpG_snoc l x y,List.getLast_cons (by simp:x::l≠[])]
  split <;> simp
theorem cmpF_take {l:List Fct} {n:Nat} (h0:0 < n) (hn:n < l.length):cmpF (l.take (n + 1))=cmpF (l.take n)++(if ordF l[n] (l[n - 1]'(by omega))=0 then [] else [l[n]]):=by
 rw [List.take_succ_eq_append_getElem hn]
 have hne:l.take n≠[]:=by
  intro h
  have:=congrArg List.length h
  rw [List.length_take,List.length_nil] at this
  omega
 obtain⟨x,r,hx⟩:=List.exists_cons_of_ne_nil hne
 have hl:(l.take n).getLast hne=l[n - 1]'(by omega):=by
  rw [List.getLast_eq_getElem,List.getElem_take]
  have:(l.take n).length - 1=n - 1:=by rw [List.length_take,Nat.min_eq_left (by omega)]
  simp only [this]
 simp only [hx,List.cons_append,cmpF]
 rw [cmpG_snoc]
 have:(x::r).getLast (by simp)=l[n - 1]'(by omega):=by rw [← hl];congr 1;exact hx.symm
 rw [this]
theorem cmpF_one {l:List Fct} (h:l.length≤1):cmpF l=l:=by
 match l,h with
 | [],_=>rfl
 | [x],_=>rfl
set_option maxHeartbeats 8000000 in
theorem compact_fn (l:List Fct) (hl:l.length≤4398046511104):FnOk false Tryz.prog tab tab_ok 134 [.row 0,.fn 135 []] 0 1 [(0,.row 48 2 (l.map encFct))] (fun _ r H=>r = .d (.slice 2 ((cmpF l).map encFct))∧H=[]):=by
 refine fn_enterF _ Tryz.func134 rfl rfl (by kernel_rfl) ?_
 intro O w0 E0 β0
 have ll:(l.map encFct).length=l.length:=List.length_map _
 by_cases h2:l.length < 2
 ·rw [cmpF_one (by omega)]
  repeat' (first|refine z0 ?_|apply ds_nil|apply dw_seq2|refine z16 ?_|apply dw_block|apply dw_skip|apply thenD_n|(refine z23 ?_ ?_ <;> intro hg)|fail)
  all_goals try (exfalso;omega)
  refine dw_ent (ent_seal 4 rfl rfl rfl) ?_
  repeat' (first|apply dw_ret|apply thenD_r)
  exact⟨.inl rfl,_,rfl,0,[],trivial,rfl,rfl,rfl,rfl,rfl,rfl⟩
 ·repeat' (first|refine z0 ?_|apply ds_nil|apply dw_seq2|refine z16 ?_|apply dw_block|apply dw_skip|apply thenD_n|(refine z23 ?_ ?_ <;> intro hg)|fail)
  all_goals try (exfalso;omega)
  refine ds_loop (ι:=Nat) (fun i=>⟨1,[(0,.row 0),(1,.fn 135 []),(5,.d (.int .i64 i))],[(0,.row 48 2 (l.map encFct))]⟩)
   (fun i=>1≤i∧i≤l.length∧cmpF (l.take i)=l.take i) (fun i=>l.length - i) 1 ⟨by omega,by omega,cmpF_one (by rw [List.length_take];omega)⟩ (ent_ren id ⟨rfl,rfl,rfl,trivial⟩ ⟨rfl,trivial⟩ rfl rfl rfl rfl rfl rfl) ?_
  rintro i ⟨g0,g1,g2⟩
  by_cases hi:i < l.length
  ·have hs:Fn 135 [elFct l[i],elFct (l[((i:Int) - 1).toNat]'(by omega))] (fun r=>r = .d (.bool (decide (ordF l[i] (l[i - 1]'(by omega))=0)))):=by
    have e:((i:Int) - 1).toNat=i - 1:=by omega
    simp only [e]
    exact rsame_fn _ _
   have ht:=cmpF_take (by omega:0 < i) hi
   cases hb:decide (ordF l[i] (l[i - 1]'(by omega))=0) with
   | false =>
    have hb':=of_decide_eq_false hb
    rw [hb] at hs
    rw [if_neg hb',g2,← List.take_succ_eq_append_getElem hi] at ht
    repeat' (first|refine z0 ?_|apply ds_nil|refine z5 ?_|refine z10 ?_|apply dw_seq2|refine z16 ?_|refine z20 ?_|apply dw_block|apply dw_skip|apply dw_exit|refine z19 ?_|apply thenD_n|apply thenD_e|apply inB_n|refine z17 ?_|(apply dt_callV;exact rfl;exact rfl;exact rfl;exact rfl;apply hs;exact rfl;(exact rfl);exact rfl;exact rfl;exact⟨_,rfl⟩;rintro _ rfl)|(refine z23 ?_ ?_ <;> intro hg)|fail)
    all_goals try (exfalso;omega)
    exact⟨i + 1,⟨by omega,by omega,ht⟩,ent_ren id ⟨rfl,rfl,rfl,trivial⟩ ⟨rfl,trivial⟩ rfl rfl rfl rfl rfl rfl,by show l.length - (i + 1) < l.length - i;omega⟩
   | true =>
    have hb':=of_decide_eq_true hb
    rw [hb] at hs
    rw [if_pos hb',List.append_nil] at ht
    repeat' (first|refine z0 ?_|apply ds_nil|refine z5 ?_|refine z10 ?_|apply dw_seq2|refine z16 ?_|refine z20 ?_|apply dw_block|apply dw_skip|apply dw_exit|refine z18 ?_|apply thenD_n|apply thenD_e|refine z17 ?_|(apply dt_callV;exact rfl;exact rfl;exact rfl;exact rfl;apply hs;exact rfl;(exact rfl);exact rfl;exact rfl;exact⟨_,rfl⟩;rintro _ rfl)|(refine z23 ?_ ?_ <;> intro hg)|fail)
    all_goals try (exfalso;omega)
    refine ds_loop (ι:=Nat × Nat × List Fct) (fun x=>⟨1,[(0,.row 0),(1,.fn 135 []),(5,.d (.int .i64 x.1)),(6,.rsl 0 2 i ((l.map encFct).length - i)),(7,.d (.int .i64 x.2.1))],[(0,.row 48 2 (x.2.2.map encFct))]⟩)
     (fun x=>x.2.2.length=l.length∧1≤x.2.1∧x.2.1≤l.length - i∧i≤x.1∧x.1 + 1≤i + x.2.1∧x.2.2.take x.1=cmpF (l.take (i + x.2.1))∧∀ p,i + x.2.1≤p + 1→x.2.2[p]? = l[p]?) (fun x=>l.length - i - x.2.1)
     (i,1,l) ⟨rfl,by dsimp only;omega,by dsimp only;omega,by dsimp only;omega,by dsimp only;omega,by rw [ht,g2],fun _ _=>rfl⟩ (ent_ren id ⟨rfl,rfl,rfl,rfl,rfl,trivial⟩ ⟨rfl,trivial⟩ rfl rfl rfl rfl rfl rfl) ?_
    rintro⟨u,k,o⟩ ⟨q1,q2,q3,q4,q5,q6,q7⟩
    dsimp only at q1 q2 q3 q4 q5 q6 q7 ⊢
    have lo:(o.map encFct).length=o.length:=List.length_map _
    clear hs
    by_cases hk:k < l.length - i
    ·have o1:o[i + k]'(by omega)=l[i + k]'(by omega):=by
      have:=q7 (i + k) (by omega)
      rw [List.getElem?_eq_getElem (by omega),List.getElem?_eq_getElem (by omega)] at this
      exact Option.some.inj this
     have o2:o[i + k - 1]'(by omega)=l[i + k - 1]'(by omega):=by
      have:=q7 (i + k - 1) (by omega)
      rw [List.getElem?_eq_getElem (by omega),List.getElem?_eq_getElem (by omega)] at this
      exact Option.some.inj this
     have hs:Fn 135 [elFct (o[i + k]'(by omega)),elFct (o[i + ((k:Int) - 1).toNat]'(by omega))] (fun r=>r = .d (.bool (decide (ordF (l[i + k]'(by omega)) (l[i + k - 1]'(by omega))=0)))):=by
      have e:i + ((k:Int) - 1).toNat=i + k - 1:=by omega
      simp only [e,o1,o2]
      exact rsame_fn _ _
     have hc:=cmpF_take (l:=l) (n:=i + k) (by omega) (by omega)
     cases hb2:decide (ordF (l[i + k]'(by omega)) (l[i + k - 1]'(by omega))=0) with
     | true =>
      have hb3:=of_decide_eq_true hb2
      rw [hb2] at hs
      rw [if_pos hb3,List.append_nil] at hc
      repeat' (first|refine z0 ?_|apply ds_nil|refine z5 ?_|refine z10 ?_|apply dw_seq2|refine z16 ?_|refine z20 ?_|apply dw_block|apply dw_skip|apply dw_exit|refine z19 ?_|apply thenD_n|apply thenD_e|apply inB_n|refine z17 ?_|(apply dt_callV;exact rfl;exact rfl;exact rfl;exact rfl;apply hs;exact rfl;(exact rfl);exact rfl;exact rfl;exact⟨_,rfl⟩;rintro _ rfl)|(refine z23 ?_ ?_ <;> intro hg)|fail)
      all_goals try (exfalso;omega)
      exact⟨(u,k + 1,o),⟨q1,by dsimp only;omega,by dsimp only;omega,by dsimp only;omega,by dsimp only;omega,by dsimp only;rw [q6];exact hc.symm,fun p hp=>q7 p (by dsimp only at hp;omega)⟩,ent_ren id ⟨rfl,rfl,rfl,rfl,rfl,trivial⟩ ⟨rfl,trivial⟩ rfl rfl rfl rfl rfl rfl,by show l.length - i - (k + 1) < l.length - i - k;omega⟩
     | false =>
      have hb3:=of_decide_eq_false hb2
      rw [hb2] at hs
      rw [if_neg hb3] at hc
      repeat' (first|refine z0 ?_|apply ds_nil|(apply ds_stP;exact rfl;exact rfl;(apply hv_get;(omega));exact rfl;exact rfl;(exact hv_set rfl);exact rfl;exact rfl;exact rfl;exact rfl;exact rfl;exact rfl)|refine z5 ?_|refine z10 ?_|apply dw_seq2|refine z16 ?_|refine z20 ?_|apply dw_block|apply dw_skip|apply dw_exit|refine z18 ?_|apply thenD_n|apply thenD_e|apply inB_n|refine z17 ?_|(apply dt_callV;exact rfl;exact rfl;exact rfl;exact rfl;apply hs;exact rfl;(exact rfl);exact rfl;exact rfl;exact⟨_,rfl⟩;rintro _ rfl)|(refine z23 ?_ ?_ <;> intro hg)|fail)
      all_goals try (exfalso;omega)
      refine⟨(u + 1,k + 1,o.set u (o[i + k]'(by omega))),⟨by dsimp only;rw [List.length_set];exact q1,by dsimp only;omega,by dsimp only;omega,by dsimp only;omega,by dsimp only;omega,?_,fun p hp=>?_⟩,ent_ren id ⟨rfl,rfl,rfl,rfl,rfl,trivial⟩ ⟨rfl,trivial⟩ rfl rfl rfl rfl rfl rfl,by show l.length - i - (k + 1) < l.length - i - k;omega⟩
      ·dsimp only
       rw [List.take_succ_eq_append_getElem (by rw [List.length_set];omega),List.getElem_set_self,List.take_set,List.set_eq_of_length_le (by rw [List.length_take];omega),q6,o1]
       exact hc.symm
      ·dsimp only at hp ⊢
       rw [List.getElem?_set_ne (by omega)]
       exact q7 p (by omega)
    ·repeat' (first|refine z0 ?_|apply ds_nil|refine z5 ?_|apply dw_seq2|refine z16 ?_|refine z20 ?_|apply dw_block|apply dw_skip|apply dw_exit|apply thenD_n|apply thenD_e|refine z17 ?_|(refine z23 ?_ ?_ <;> intro hg)|fail)
     all_goals try (exfalso;omega)
     have hke:i + k=l.length:=by omega
     rw [hke,List.take_of_length_le (Nat.le_refl _)] at q6
     refine ds_clear [.int .i64 0,.slice 1 []] rfl rfl rfl rfl ⟨.inl rfl,.inr ⟨rfl,1,rfl⟩,trivial⟩ rfl rfl (by omega) (by omega) (by omega) rfl rfl ?_
     repeat' (first|refine z0 ?_|apply ds_nil|apply dw_seq2|refine z16 ?_|apply thenD_n)
     all_goals try (exfalso;omega)
     refine dw_ent (ent_cut (n:=u) 4 rfl rfl (by simp only [List.length_append,List.length_take,List.length_replicate,List.length_drop];omega) rfl) ?_
     refine dw_ent (ent_seal 4 rfl rfl rfl) ?_
     repeat' (first|apply dw_ret|apply thenD_r|apply inB_r)
     refine⟨.inl rfl,_,rfl,0,[],trivial,rfl,rfl,rfl,rfl,?_,rfl⟩
     refine congrArg (fun z=>SV.d (.slice 2 z)) ?_
     have hu:((o.map encFct).take u).length=u:=by rw [List.length_take];omega
     show List.take u ((o.map encFct).take u++List.replicate _ _++List.drop _ (o.map encFct))=_
     rw [List.append_assoc,List.take_append_of_le_length (by omega),List.take_of_length_le (by omega),← List.map_take,q6]
  ·rw [List.take_of_length_le (by omega)] at g2
   rw [g2]
   repeat' (first|refine z0 ?_|apply ds_nil|refine z5 ?_|apply dw_seq2|refine z16 ?_|refine z20 ?_|apply dw_block|apply dw_skip|apply dw_exit|apply thenD_n|apply thenD_e|refine z17 ?_|(refine z23 ?_ ?_ <;> intro hg)|fail)
   all_goals try (exfalso;omega)
   refine dw_ent (ent_seal 4 rfl rfl rfl) ?_
   repeat' (apply dw_ret)
   exact⟨.inl rfl,_,rfl,0,[],trivial,rfl,rfl,rfl,rfl,rfl,rfl⟩
def Strict (l:List Fct):Prop:=l.Pairwise fun x y=>ordF x y < 0
theorem lt_irrefl {x:Fct} (h:ordF x x < 0):False:=by rw [ordF_self] at h;omega
theorem lt_asymm {x y:Fct} (h:ordF x y < 0) (g:ordF y x < 0):False:=lt_irrefl (ordF_trans h g)
theorem strict_ext:∀ {a b:List Fct},Strict a→Strict b→(∀ x,x∈a↔x∈b)→a=b
 | [],[],_,_,_=>rfl
 | [],y::b,_,_,h=>by have:=(h y).2 List.mem_cons_self;simp at this
 | x::a,[],_,_,h=>by have:=(h x).1 List.mem_cons_self;simp at this
 | x::a,y::b,ha,hb,h=>by
  obtain⟨a1,a2⟩:=List.pairwise_cons.1 ha
  obtain⟨b1,b2⟩:=List.pairwise_cons.1 hb
  have hxy:x=y:=by
   rcases List.mem_cons.1 ((h x).1 List.mem_cons_self) with h1|h1
   ·exact h1
   ·rcases List.mem_cons.1 ((h y).2 List.mem_cons_self) with h2|h2
    ·exact h2.symm
    ·exact (lt_asymm (b1 x h1) (a1 y h2)).elim
  subst hxy
  rw [strict_ext a2 b2 fun z=>?_]
  constructor
  ·intro hz
   rcases List.mem_cons.1 ((h z).1 (List.mem_cons_of_mem _ hz)) with h1|h1
   ·subst h1;exact (lt_irrefl (a1 z hz)).elim
   ·exact h1
  ·intro hz
   rcases List.mem_cons.1 ((h z).2 (List.mem_cons_of_mem _ hz)) with h1|h1
   ·subst h1;exact (lt_irrefl (b1 z hz)).elim
   ·exact h1
theorem cmpG_spec:∀ (l:List Fct) (p:Fct),(p::l).Pairwise (fun a b=>ordF b a ≥ 0)→Strict (p::cmpG p l)∧∀ x,x∈p::cmpG p l↔x∈p::l
 | [],p,_=>⟨List.pairwise_cons.2 ⟨fun x hx=>by simp [cmpG] at hx,.nil⟩,fun x=>Iff.rfl⟩
 | y::l,p,h=>by
  obtain⟨h1,h2⟩:=List.pairwise_cons.1 h
  obtain⟨i1,i2⟩:=cmpG_spec l y h2
  unfold cmpG
  split
  ·rename_i h3
   have:=ordF_eq0 h3
   subst this
   refine⟨i1,fun x=>(i2 x).trans ⟨fun hx=>List.mem_cons_of_mem _ hx,fun hx=>?_⟩⟩
   rcases List.mem_cons.1 hx with rfl|hx
   ·exact List.mem_cons_self
   ·exact hx
  ·rename_i h3
   have hpy:ordF p y < 0:=by have:=h1 y List.mem_cons_self;rw [ordF_anti];omega
   refine⟨List.pairwise_cons.2 ⟨fun z hz=>?_,i1⟩,fun x=>?_⟩
   ·rcases List.mem_cons.1 hz with rfl|hz
    ·exact hpy
    ·exact ordF_trans hpy ((List.pairwise_cons.1 i1).1 z hz)
   ·rw [List.mem_cons,List.mem_cons (a:=x) (b:=p),i2 x]
theorem cmpF_spec {s:List Fct} (h:s.Pairwise (fun a b=>ordF b a ≥ 0)):Strict (cmpF s)∧∀ x,x∈cmpF s↔x∈s:=by
 match s,h with
 | [],_=>exact⟨.nil,fun _=>Iff.rfl⟩
 | p::l,h=>exact cmpG_spec l p h
theorem kFrom_spec {l:List Fct} {f:Fct}:∀ (n:Nat),n≤l.length→kFrom l f n≤n∧(∀ j (hj:j < l.length),kFrom l f n≤j→j < n→0 < ordF l[j] f)∧(∀ j (hj:j < l.length),j + 1=kFrom l f n→¬ 0 < ordF l[j] f)
 | 0,_=>⟨Nat.le_refl _,fun j _ _ h=>by omega,fun j _ h=>by simp [kFrom] at h⟩
 | n + 1,hn=>by
  obtain⟨i1,i2,i3⟩:=kFrom_spec (l:=l) (f:=f) n (by omega)
  rw [kFrom_succ (by omega)]
  split
  ·rename_i h
   refine⟨by omega,fun j hj h1 h2=>?_,i3⟩
   by_cases hjn:j=n
   ·subst hjn;exact h
   ·exact i2 j hj h1 (by omega)
  ·rename_i h
   refine⟨Nat.le_refl _,fun j hj h1 h2=>by omega,fun j hj h1=>?_⟩
   have:j=n:=by omega
   subst this
   exact h
theorem hasF_iff {l:List Fct} {f:Fct}:hasF l f=true↔f∈l:=by
 unfold hasF
 rw [List.any_eq_true]
 constructor
 ·rintro⟨x,hx,h⟩;rw [← ordF_eq0 (of_decide_eq_true h)];exact hx
 ·intro h;exact⟨f,h,decide_eq_true (ordF_self f)⟩
theorem insF_spec {l:List Fct} {f:Fct} (h:Strict l):Strict (insF l f)∧∀ x,x∈insF l f↔x∈l∨x=f:=by
 unfold insF
 split
 ·rename_i hh
  have:=hasF_iff.1 hh
  exact⟨h,fun x=>⟨.inl,fun hx=>hx.elim id fun e=>e▸this⟩⟩
 ·rename_i hh
  have hf:f ∉ l:=fun hm=>hh (hasF_iff.2 hm)
  obtain⟨k1,k2,k3⟩:=kFrom_spec (l:=l) (f:=f) l.length (Nat.le_refl _)
  generalize kFrom l f l.length=k at k1 k2 k3
  have hpi:=List.pairwise_iff_getElem.1 h
  have hlo:∀ j (hj:j < l.length),j < k→ordF l[j] f < 0:=by
   intro j hj hjk
   have hk1:k - 1 < l.length:=by omega
   have h1:=k3 (k - 1) hk1 (by omega)
   have hne:ordF l[k - 1] f≠0:=fun e=>hf (ordF_eq0 e▸List.getElem_mem hk1)
   have h2:ordF l[k - 1] f < 0:=by omega
   by_cases hjk1:j=k - 1
   ·subst hjk1;exact h2
   ·exact ordF_trans (hpi j (k - 1) hj hk1 (by omega)) h2
  have hhi:∀ j (hj:j < l.length),k≤j→ordF f l[j] < 0:=fun j hj hjk=>by have:=k2 j hj hjk hj;rw [ordF_anti];omega
  have htk:∀ x∈l.take k,ordF x f < 0:=by
   intro x hx
   obtain⟨j,hj,rfl⟩:=List.mem_iff_getElem.1 hx
   rw [List.length_take] at hj
   rw [List.getElem_take]
   exact hlo j (by omega) (by omega)
  have hdk:∀ x∈l.drop k,ordF f x < 0:=by
   intro x hx
   obtain⟨j,hj,rfl⟩:=List.mem_iff_getElem.1 hx
   rw [List.length_drop] at hj
   rw [List.getElem_drop]
   exact hhi (k + j) (by omega) (by omega)
  refine⟨List.pairwise_append.2 ⟨h.sublist (List.take_sublist _ _),List.pairwise_cons.2 ⟨hdk,h.sublist (List.drop_sublist _ _)⟩,fun x hx y hy=>?_⟩,fun x=>?_⟩
  ·rcases List.mem_cons.1 hy with rfl|hy
   ·exact htk x hx
   ·exact ordF_trans (htk x hx) (hdk y hy)
  ·rw [List.mem_append,List.mem_cons]
   constructor
   ·rintro (hx|rfl|hx)
    ·exact .inl (List.mem_of_mem_take hx)
    ·exact .inr rfl
    ·exact .inl (List.mem_of_mem_drop hx)
   ·rintro (hx|rfl)
    ·have:=hx
     rw [← List.take_append_drop k l] at this
     rcases List.mem_append.1 this with h1|h1
     ·exact .inl h1
     ·exact .inr (.inr h1)
    ·exact .inr (.inl rfl)
theorem setF_spec':∀ (l o:List Fct),Strict o→Strict (l.foldl insF o)∧∀ x,x∈l.foldl insF o↔x∈o∨x∈l
 | [],o,h=>⟨h,fun x=>by simp⟩
 | y::l,o,h=>by
  obtain⟨i1,i2⟩:=insF_spec (f:=y) h
  obtain⟨j1,j2⟩:=setF_spec' l (insF o y) i1
  refine⟨j1,fun x=>?_⟩
  rw [List.foldl_cons,j2,i2,List.mem_cons,or_assoc]
theorem setF_spec (l:List Fct):Strict (setF' l)∧∀ x,x∈setF' l↔x∈l:=by
 obtain⟨h1,h2⟩:=setF_spec' l [] .nil
 exact⟨h1,fun x=>(h2 x).trans (by simp)⟩
theorem keep_set {s l:List Fct} (hp:s.Perm l) (hs:s.Pairwise (fun a b=>ordF b a ≥ 0)):cmpF s=setF' l :=
 strict_ext (cmpF_spec hs).1 (setF_spec l).1 fun x=>by rw [(cmpF_spec hs).2,(setF_spec l).2,hp.mem_iff]
abbrev RE:=List (Option Int)
def vOf (e:RE) (t:Trm):Option Int:=if t.var < 0 then some t.n else e.getD t.var.toNat none
def vA (a:List Int) (t:Trm):Int:=if t.var < 0 then t.n else a.getD t.var.toNat 0
def hasE (e:RE):List Bool:=e.map Option.isSome
def outE (e:RE):List Int:=e.map fun x=>x.getD 0
def extE (e:RE) (a:List Int):Prop:=a.length=e.length∧∀ (v:Nat) (x:Int),e[v]? = some (some x)→a[v]? = some x
def matchE:RE→List Trm→List Int→Option RE
 | e,t::ts,n::ns=>match vOf e t with
  | some x=>if x=n then matchE e ts ns else none
  | none=>matchE (e.set t.var.toNat (some n)) ts ns
 | e,_,_=>some e
theorem hasE_len (e:RE):(hasE e).length=e.length:=List.length_map _
theorem outE_len (e:RE):(outE e).length=e.length:=List.length_map _
theorem isT_hasE (e:RE) (t:Trm):isT (hasE e) t=(vOf e t).isSome:=by
 unfold isT vOf hasE
 by_cases h:t.var < 0
 ·simp [h]
 ·simp only [h,decide_false,Bool.false_or,if_false,List.getD,List.getElem?_map]
  cases e[t.var.toNat]? <;> rfl
theorem vOf_out {e:RE} {t:Trm} {x:Int} (h:vOf e t=some x):vA (outE e) t=x:=by
 unfold vOf at h
 unfold vA outE
 by_cases hv:t.var < 0
 ·simp [hv] at h ⊢;exact h
 ·simp only [hv,if_false,List.getD,List.getElem?_map] at h ⊢
  cases he:e[t.var.toNat]? with
  | none=>rw [he] at h;simp at h
  | some y=>rw [he] at h;simp at h;subst h;rfl
theorem vOf_ext {e:RE} {a:List Int} {t:Trm} {x:Int} (h:extE e a) (hx:vOf e t=some x):vA a t=x:=by
 unfold vOf at hx
 unfold vA
 by_cases hv:t.var < 0
 ·simp [hv] at hx ⊢;exact hx
 ·simp only [hv,if_false,List.getD] at hx ⊢
  cases he:e[t.var.toNat]? with
  | none=>rw [he] at hx;simp at hx
  | some y =>
   rw [he] at hx
   simp at hx
   subst hx
   rw [h.2 _ _ he];rfl
theorem vA_same {e:RE} {a:List Int} {t:Trm} (h:extE e a) (hx:(vOf e t).isSome=true):vA a t=vA (outE e) t:=by
 obtain⟨x,hx⟩:=Option.isSome_iff_exists.1 hx
 rw [vOf_ext h hx,vOf_out hx]
theorem set_ext' {e:RE} {a:List Int} {t:Trm} {n:Int} (ho:okT e.length t) (hn:vOf e t=none):extE (e.set t.var.toNat (some n)) a↔extE e a∧vA a t=n:=by
 unfold vOf at hn
 unfold okT at ho
 have hv:¬ t.var < 0:=fun h=>by simp [h] at hn
 simp only [hv,if_false,List.getD] at hn
 have hlt:t.var.toNat < e.length:=by omega
 have he:e[t.var.toNat]? = some none:=by
  rw [List.getElem?_eq_getElem hlt] at hn ⊢
  simpa using hn
 unfold extE vA
 rw [List.length_set]
 simp only [hv,if_false]
 constructor
 ·rintro⟨h1,h2⟩
  have h3:=h2 t.var.toNat n (by rw [List.getElem?_set_self hlt])
  refine⟨⟨h1,fun v x hx=>?_⟩,by rw [List.getD,h3];rfl⟩
  by_cases hq:t.var.toNat=v
  ·subst hq;rw [he] at hx;cases hx
  ·exact h2 v x (by rw [List.getElem?_set_ne hq];exact hx)
 ·rintro⟨⟨h1,h2⟩,h3⟩
  refine⟨h1,fun v x hx=>?_⟩
  by_cases hq:t.var.toNat=v
  ·subst hq
   rw [List.getElem?_set_self hlt] at hx
   simp at hx
   subst hx
   rw [List.getD,List.getElem?_eq_getElem (by omega)] at h3
   rw [List.getElem?_eq_getElem (by omega)]
   simpa using h3
  ·exact h2 v x (by rw [List.getElem?_set_ne hq] at hx;exact hx)
theorem set_has {e:RE} {t:Trm} {n:Int} (hn:vOf e t=none):hasE (e.set t.var.toNat (some n))=setT (hasE e) t:=by
 have hv:¬ t.var < 0:=fun h=>by unfold vOf at hn;simp [h] at hn
 unfold hasE setT
 rw [if_neg hv,List.map_set];rfl
theorem matchE_some:∀ {ts:List Trm} {ns:List Int} {e e':RE},ts.length=ns.length→(∀ t∈ts,okT e.length t)→matchE e ts ns=some e' →
  e'.length=e.length∧(∀ a,extE e' a↔extE e a∧ts.map (vA a)=ns)∧hasE e' = ts.foldl setT (hasE e)
 | [],[],e,e',_,_,h=>by
  simp only [matchE,Option.some.injEq] at h
  subst h
  exact⟨rfl,fun a=>by simp,rfl⟩
 | t::ts,n::ns,e,e',hl,ho,h=>by
  have hl':ts.length=ns.length:=by simpa using hl
  rw [matchE] at h
  cases hv:vOf e t with
  | some x =>
   rw [hv] at h
   simp only at h
   split at h
   ·rename_i hx
    subst hx
    obtain⟨h1,h2,h3⟩:=matchE_some hl' (fun y hy=>ho y (List.mem_cons_of_mem _ hy)) h
    refine⟨h1,fun a=>?_,?_⟩
    ·rw [h2,List.map_cons,List.cons.injEq]
     exact⟨fun⟨g1,g2⟩=>⟨g1,vOf_ext g1 hv,g2⟩,fun⟨g1,_,g2⟩=>⟨g1,g2⟩⟩
    ·rw [h3,List.foldl_cons,setT_same (by rw [isT_hasE,hv];rfl)]
   ·cases h
  | none =>
   rw [hv] at h
   simp only at h
   obtain⟨h1,h2,h3⟩:=matchE_some hl' (fun y hy=>by rw [List.length_set];exact ho y (List.mem_cons_of_mem _ hy)) h
   refine⟨by rw [h1,List.length_set],fun a=>?_,?_⟩
   ·rw [h2,set_ext' (ho t (List.mem_cons_self ..)) hv,List.map_cons,List.cons.injEq,and_assoc]
   ·rw [h3,List.foldl_cons,set_has hv]
 | [],_::_,_,_,hl,_,_=>by simp at hl
 | _::_,[],_,_,hl,_,_=>by simp at hl
theorem matchE_none:∀ {ts:List Trm} {ns:List Int} {e:RE},ts.length=ns.length→(∀ t∈ts,okT e.length t)→matchE e ts ns=none→∀ a,extE e a→ts.map (vA a)≠ns
 | [],[],e,_,_,h,_,_=>by simp [matchE] at h
 | t::ts,n::ns,e,hl,ho,h,a,ha=>by
  have hl':ts.length=ns.length:=by simpa using hl
  rw [matchE] at h
  intro hm
  rw [List.map_cons,List.cons.injEq] at hm
  cases hv:vOf e t with
  | some x =>
   rw [hv] at h
   simp only at h
   split at h
   ·exact matchE_none hl' (fun y hy=>ho y (List.mem_cons_of_mem _ hy)) h a ha hm.2
   ·rename_i hx
    exact hx ((vOf_ext ha hv).symm.trans hm.1)
  | none =>
   rw [hv] at h
   simp only at h
   exact matchE_none hl' (fun y hy=>by rw [List.length_set];exact ho y (List.mem_cons_of_mem _ hy)) h a ((set_ext' (ho t (List.mem_cons_self ..)) hv).2 ⟨ha,hm.1⟩) hm.2
 | [],_::_,_,hl,_,_,_,_=>by simp at hl
 | _::_,[],_,hl,_,_,_,_=>by simp at hl
def testE (op a b:Int):Bool:=if op=1 then decide (a < b) else if op=2 then decide (a≤b) else if op=3 then decide (a=b) else decide (a≠b)
def calcE (op a b:Int):Int:=if op=5 then a + b else if op=6 then a - b else a * b
def calcL (l:Ltl) (a:List Int):Int:=calcE l.op ((l.terms.map (vA a)).getD 0 0) ((l.terms.map (vA a)).getD 1 0)
def holdE (S:List Fct) (l:Ltl) (a:List Int):Bool :=
 if l.kind=1 then hasF S ⟨l.pred,l.terms.map (vA a)⟩
 else if l.kind=2 then !hasF S ⟨l.pred,l.terms.map (vA a)⟩
 else if l.kind=3 then testE l.op ((l.terms.map (vA a)).getD 0 0) ((l.terms.map (vA a)).getD 1 0)
 else numB (calcL l a) && decide (calcL l a=(l.terms.map (vA a)).getD 2 0)
theorem map_same {e:RE} {a:List Int} (h:extE e a) {ts:List Trm} (hr:∀ t∈ts,(vOf e t).isSome=true):ts.map (vA a)=ts.map (vA (outE e)) :=
 List.map_congr_left fun t ht=>vA_same h (hr t ht)
theorem holdE_same {S:List Fct} {l:Ltl} {e:RE} {a:List Int} (h:extE e a) (hr:∀ t∈l.terms,(vOf e t).isSome=true):holdE S l a=holdE S l (outE e):=by
 unfold holdE calcL
 rw [map_same h hr]
structure okL (S:List Fct) (v:Nat) (l:Ltl):Prop where
 kind:1≤l.kind∧l.kind≤4
 terms:∀ t∈l.terms,okT v t
 test2:l.kind=3→l.terms.length=2
 calc3:l.kind=4→l.terms.length=3
 facts:l.kind=1→∀ x∈S,x.pred=l.pred→x.args.length=l.terms.length
def closedB (body:List Ltl) (bs:List Bool):Prop:=∀ l∈body,firesB bs l=true→∀ t∈litTs l,isT bs t=true
def Bd (body:List Ltl) (bs:List Bool):Prop:=∀ cs,leB bs cs→closedB body cs→∀ v,v < cs.length→cs.getD v false=true
theorem full_out {e:RE} (h:∀ v,v < (hasE e).length→(hasE e).getD v false=true) (a:List Int):extE e a↔a=outE e:=by
 rw [hasE_len] at h
 have he:∀ v,v < e.length→∃ x,e[v]? = some (some x):=fun v hv=>by
  have:=h v hv
  unfold hasE at this
  rw [List.getD,List.getElem?_map,List.getElem?_eq_getElem hv] at this
  simp at this
  obtain⟨x,hx⟩:=Option.isSome_iff_exists.1 this
  exact⟨x,by rw [List.getElem?_eq_getElem hv,hx]⟩
 constructor
 ·rintro⟨h1,h2⟩
  refine List.ext_getElem? fun v=>?_
  by_cases hv:v < e.length
  ·obtain⟨x,hx⟩:=he v hv
   rw [h2 v x hx]
   unfold outE
   rw [List.getElem?_map,hx];rfl
  ·rw [List.getElem?_eq_none (by omega),List.getElem?_eq_none (by rw [outE_len];omega)]
 ·rintro rfl
  refine⟨outE_len e,fun v x hx=>?_⟩
  unfold outE
  rw [List.getElem?_map,hx];rfl
theorem full_some {e:RE} (h:∀ v,v < (hasE e).length→(hasE e).getD v false=true) {t:Trm} (ho:okT e.length t):(vOf e t).isSome=true:=by
 rw [← isT_hasE]
 unfold isT
 unfold okT at ho
 by_cases hv:t.var < 0
 ·rw [decide_eq_true hv];rfl
 ·rw [h _ (by rw [hasE_len];omega),Bool.or_true]
theorem numB_iff {n:Int}:numB n=true↔-1000000≤n∧n≤1000000:=by unfold numB inR;simp
def needT (l:Ltl):List Trm:=if l.kind=4 then l.terms.take 2 else l.terms
def rdyL (e:RE) (l:Ltl):Bool:=(needT l).all fun t=>(vOf e t).isSome
def nextE (e:RE) (left:List Ltl):Nat:=if left.findIdx (rdyL e) < left.length then left.findIdx (rdyL e) else left.findIdx fun l=>decide (l.kind=1)
def litW (S:List Fct) (go:RE→List (List Int)) (l:Ltl) (e:RE):List (List Int) :=
 if l.kind=1 then S.flatMap fun x=>if x.pred=l.pred then (match matchE e l.terms x.args with|some e'=>go e'|none=>[]) else []
 else if l.kind=4 then (if numB (calcL l (outE e)) then (match matchE e (l.terms.drop 2) [calcL l (outE e)] with|some e'=>go e'|none=>[]) else [])
 else if holdE S l (outE e) then go e else []
def findE (S:List Fct):Nat→List Ltl→RE→List (List Int)
 | _,[],e=>[outE e]
 | 0,_::_,_=>[]
 | k + 1,l0::ls,e=>match (l0::ls)[nextE e (l0::ls)]? with
  | none=>[]
  | some l=>litW S (findE S k ((l0::ls).eraseIdx (nextE e (l0::ls)))) l e
theorem mem_erase {α:Type} {l:List α} {i:Nat} (h:i < l.length) (x:α):x∈l↔x=l[i]∨x∈l.eraseIdx i:=by
 rw [List.mem_eraseIdx_iff_getElem]
 constructor
 ·intro hx
  obtain⟨j,hj,rfl⟩:=List.mem_iff_getElem.1 hx
  by_cases hq:j=i
  ·subst hq;exact .inl rfl
  ·exact .inr ⟨j,hj,hq,rfl⟩
 ·rintro (rfl|⟨j,hj,_,rfl⟩)
  ·exact List.getElem_mem h
  ·exact List.getElem_mem hj
theorem next_lt {S:List Fct} {e:RE} {left:List Ltl} (h0:left≠[]) (hok:∀ l∈left,okL S e.length l) (hB:Bd left (hasE e)):nextE e left < left.length:=by
 unfold nextE
 split
 ·assumption
 ·rename_i h1
  refine List.findIdx_lt_length_of_exists ?_
  apply Classical.byContradiction
  intro h2
  have h1':∀ l∈left,rdyL e l=false:=by
   intro l hl
   cases h:rdyL e l with
   | false=>rfl
   | true=>exact absurd (List.findIdx_lt_length_of_exists ⟨l,hl,h⟩) h1
  have hcl:closedB left (hasE e):=by
   intro l hl hf
   exfalso
   unfold firesB at hf
   rw [Bool.or_eq_true,Bool.and_eq_true] at hf
   rcases hf with hf|⟨hf,hg⟩
   ·exact h2 ⟨l,hl,hf⟩
   ·have:=h1' l hl
    unfold rdyL needT at this
    rw [if_pos (of_decide_eq_true hf)] at this
    have hg':(l.terms.take 2).all (fun t=>(vOf e t).isSome)=true:=by
     rw [List.all_eq_true] at hg ⊢
     intro t ht
     rw [← isT_hasE];exact hg t ht
    rw [hg'] at this;cases this
  have hfull:=hB _ (leB.refl _) hcl
  obtain⟨l,hl⟩:=List.exists_mem_of_ne_nil left h0
  have:=h1' l hl
  unfold rdyL at this
  have hall:(needT l).all (fun t=>(vOf e t).isSome)=true:=by
   rw [List.all_eq_true]
   intro t ht
   refine full_some hfull ((hok l hl).terms t ?_)
   unfold needT at ht
   split at ht
   ·exact List.mem_of_mem_take ht
   ·exact ht
  rw [hall] at this;cases this
theorem next_is {e:RE} {left:List Ltl} (h:nextE e left < left.length):rdyL e (left[nextE e left])=true∨(left[nextE e left]).kind=1:=by
 unfold nextE at h ⊢
 split
 ·left;exact List.findIdx_getElem
 ·rename_i h1
  rw [if_neg h1] at h
  right
  have:=List.findIdx_getElem (xs:=left) (p:=fun l=>decide (l.kind=1)) (w:=h)
  exact of_decide_eq_true this
theorem Bd_rest {left:List Ltl} {i:Nat} (hi:i < left.length) {bs cs:List Bool} (hB:Bd left bs) (hle:leB bs cs) (hd:(∀ t∈litTs left[i],isT cs t=true)∨∀ ds,firesB ds left[i]=false):Bd (left.eraseIdx i) cs:=by
 intro ds h1 h2
 refine hB ds (hle.trans h1) fun l hl hf t ht=>?_
 rcases (mem_erase hi l).1 hl with rfl|hl
 ·rcases hd with hd|hd
  ·exact isT_mono h1 (hd t ht)
  ·rw [hd ds] at hf;cases hf
 ·exact h2 l hl hf t ht
theorem holdE_calc {S:List Fct} {l:Ltl} {a:List Int} (h4:l.kind=4) (h3:l.terms.length=3):holdE S l a=true↔numB (calcL l a)=true∧(l.terms.drop 2).map (vA a)=[calcL l a]:=by
 unfold holdE
 rw [if_neg (by omega),if_neg (by omega),if_neg (by omega),Bool.and_eq_true,decide_eq_true_eq]
 match hl:l.terms,h3 with
 | [t1,t2,t3],_ =>
  simp only [List.map_cons,List.map_nil,List.drop_succ_cons,List.drop_zero,List.getD_cons_succ,List.getD_cons_zero,List.cons.injEq,and_true]
  exact and_congr Iff.rfl eq_comm
theorem calcL_same {l:Ltl} {e:RE} {a:List Int} (h:extE e a) (h3:l.terms.length=3) (hr:∀ t∈l.terms.take 2,(vOf e t).isSome=true):calcL l a=calcL l (outE e):=by
 unfold calcL
 match hl:l.terms,h3 with
 | [t1,t2,t3],_ =>
  rw [hl] at hr
  simp only [List.map_cons,List.getD_cons_zero,List.getD_cons_succ]
  rw [vA_same h (hr t1 (by simp)),vA_same h (hr t2 (by simp))]
theorem litW_mem {S:List Fct} {go:RE→List (List Int)} {l:Ltl} {e:RE} (hok:okL S e.length l) (hr:rdyL e l=true∨l.kind=1) (a:List Int) {P:List Int→Prop}
  (hgo:∀ e',e'.length=e.length→leB (hasE e) (hasE e')→((∀ t∈litTs l,isT (hasE e') t=true)∨∀ ds,firesB ds l=false)→(a∈go e'↔extE e' a∧P a)) :
  a∈litW S go l e↔(extE e a∧holdE S l a=true)∧P a:=by
 unfold litW
 by_cases h1:l.kind=1
 ·rw [if_pos h1,List.mem_flatMap]
  have hlit:litTs l=l.terms:=by unfold litTs;rw [if_pos h1]
  have hho:holdE S l a=true↔(⟨l.pred,l.terms.map (vA a)⟩:Fct)∈S:=by unfold holdE;rw [if_pos h1,hasF_iff]
  constructor
  ·rintro⟨x,hx,ha⟩
   split at ha
   ·rename_i hp
    have hlen:=(hok.facts h1 x hx hp).symm
    split at ha
    ·rename_i e' he'
     obtain⟨g1,g2,g3⟩:=matchE_some hlen hok.terms he'
     have g4:=(hgo e' g1 (by rw [g3];exact setTs_le _ _) (.inl (by rw [hlit,g3];exact setTs_is (by rw [hasE_len];exact hok.terms)))).1 ha
     obtain⟨g5,g6⟩:=(g2 a).1 g4.1
     refine⟨⟨g5,hho.2 ?_⟩,g4.2⟩
     rw [g6,← hp];exact hx
    ·simp at ha
   ·simp at ha
  ·rintro⟨⟨ha,hh⟩,hP⟩
   refine⟨_,hho.1 hh,?_⟩
   rw [if_pos rfl]
   have hlen:l.terms.length=(l.terms.map (vA a)).length:=(List.length_map _).symm
   cases he':matchE e l.terms (l.terms.map (vA a)) with
   | none=>exact absurd rfl (matchE_none hlen hok.terms he' a ha)
   | some e' =>
    obtain⟨g1,g2,g3⟩:=matchE_some hlen hok.terms he'
    exact (hgo e' g1 (by rw [g3];exact setTs_le _ _) (.inl (by rw [hlit,g3];exact setTs_is (by rw [hasE_len];exact hok.terms)))).2 ⟨(g2 a).2 ⟨ha,rfl⟩,hP⟩
 ·rw [if_neg h1]
  have hr:=hr.resolve_right h1
  unfold rdyL needT at hr
  by_cases h4:l.kind=4
  ·rw [if_pos h4] at hr ⊢
   have h3:=hok.calc3 h4
   have hr':∀ t∈l.terms.take 2,(vOf e t).isSome=true:=List.all_eq_true.1 hr
   have hdl:(l.terms.drop 2).length=[calcL l (outE e)].length:=by rw [List.length_drop,h3];rfl
   have hdo:∀ t∈l.terms.drop 2,okT e.length t:=fun t ht=>hok.terms t (List.mem_of_mem_drop ht)
   have hlit:litTs l=l.terms.drop 2:=by unfold litTs;rw [if_neg h1]
   rw [holdE_calc h4 h3]
   constructor
   ·intro ha
    split at ha
    ·rename_i hn
     split at ha
     ·rename_i e' he'
      obtain⟨g1,g2,g3⟩:=matchE_some hdl hdo he'
      have g4:=(hgo e' g1 (by rw [g3];exact setTs_le _ _) (.inl (by rw [hlit,g3];exact setTs_is (by rw [hasE_len];exact hdo)))).1 ha
      obtain⟨g5,g6⟩:=(g2 a).1 g4.1
      rw [calcL_same g5 h3 hr']
      exact⟨⟨g5,hn,g6⟩,g4.2⟩
     ·simp at ha
    ·simp at ha
   ·rintro⟨⟨ha,hn,hm⟩,hP⟩
    rw [calcL_same ha h3 hr'] at hn hm
    rw [if_pos hn]
    cases he':matchE e (l.terms.drop 2) [calcL l (outE e)] with
    | none=>exact absurd hm (matchE_none hdl hdo he' a ha)
    | some e' =>
     obtain⟨g1,g2,g3⟩:=matchE_some hdl hdo he'
     exact (hgo e' g1 (by rw [g3];exact setTs_le _ _) (.inl (by rw [hlit,g3];exact setTs_is (by rw [hasE_len];exact hdo)))).2 ⟨(g2 a).2 ⟨ha,hm⟩,hP⟩
  ·rw [if_neg h4] at hr ⊢
   have hr':∀ t∈l.terms,(vOf e t).isSome=true:=List.all_eq_true.1 hr
   have hnf:∀ ds,firesB ds l=false:=fun ds=>by unfold firesB;rw [decide_eq_false h1,decide_eq_false h4];rfl
   have hg:=hgo e rfl (leB.refl _) (.inr hnf)
   constructor
   ·intro ha
    split at ha
    ·rename_i hh
     obtain⟨g1,g2⟩:=hg.1 ha
     exact⟨⟨g1,by rw [holdE_same g1 hr'];exact hh⟩,g2⟩
    ·simp at ha
   ·rintro⟨⟨ha,hh⟩,hP⟩
    rw [if_pos (by rw [← holdE_same ha hr'];exact hh)]
    exact hg.2 ⟨ha,hP⟩
theorem findE_mem (S:List Fct):∀ (k:Nat) (left:List Ltl) (e:RE),left.length≤k→(∀ l∈left,okL S e.length l)→Bd left (hasE e)→∀ a,a∈findE S k left e↔extE e a∧∀ l∈left,holdE S l a=true
 | k,[],e,_,_,hB,a=>by
  have h:findE S k [] e=[outE e]:=by cases k <;> rfl
  rw [h,List.mem_singleton,full_out (hB _ (leB.refl _) (by intro l hl;simp at hl))]
  simp
 | 0,_::_,_,hk,_,_,_=>by simp at hk
 | k + 1,l0::ls,e,hk,hok,hB,a=>by
  have hlt:=next_lt (by simp) hok hB
  have hnx:=next_is hlt
  rw [findE]
  generalize hi:nextE e (l0::ls)=i at hlt hnx
  rw [List.getElem?_eq_getElem hlt]
  generalize hL:l0::ls=left at *
  have hlen:(left.eraseIdx i).length≤k:=by rw [List.length_eraseIdx,if_pos hlt];omega
  have hsub:∀ l∈left.eraseIdx i,l∈left:=fun l hl=>(mem_erase hlt l).2 (.inr hl)
  simp only
  rw [litW_mem (P:=fun a=>∀ l∈left.eraseIdx i,holdE S l a=true) (hok _ (List.getElem_mem hlt)) hnx a fun e' g1 g2 g3=>findE_mem S k (left.eraseIdx i) e' hlen (fun l hl=>by rw [g1];exact hok l (hsub l hl)) (Bd_rest hlt hB g2 g3) a]
  constructor
  ·rintro⟨⟨g1,g2⟩,g3⟩
   exact⟨g1,fun l hl=>((mem_erase hlt l).1 hl).elim (fun h=>h▸g2) (g3 l)⟩
  ·rintro⟨g1,g2⟩
   exact⟨⟨g1,g2 _ (List.getElem_mem hlt)⟩,fun l hl=>g2 l (hsub l hl)⟩
theorem litW_nodup {S:List Fct} {go:RE→List (List Int)} {l:Ltl} {e:RE} (hS:S.Nodup) (hok:okL S e.length l) (hgo:∀ e',e'.length=e.length→leB (hasE e) (hasE e')→((∀ t∈litTs l,isT (hasE e') t=true)∨∀ ds,firesB ds l=false)→(go e').Nodup∧∀ a∈go e',extE e' a):(litW S go l e).Nodup:=by
 unfold litW
 by_cases h1:l.kind=1
 ·rw [if_pos h1]
  have hlit:litTs l=l.terms:=by unfold litTs;rw [if_pos h1]
  have key:∀ x∈S,x.pred=l.pred→∀ e',matchE e l.terms x.args=some e'→(go e').Nodup∧∀ a∈go e',l.terms.map (vA a)=x.args:=by
   intro x hx hp e' he'
   obtain⟨g1,g2,g3⟩:=matchE_some (hok.facts h1 x hx hp).symm hok.terms he'
   obtain⟨g4,g5⟩:=hgo e' g1 (by rw [g3];exact setTs_le _ _) (.inl (by rw [hlit,g3];exact setTs_is (by rw [hasE_len];exact hok.terms)))
   exact⟨g4,fun a ha=>((g2 a).1 (g5 a ha)).2⟩
  refine List.pairwise_flatMap.2 ⟨fun x hx=>?_,hS.imp_of_mem fun {x y} hx hy hne u hu v hv=>?_⟩
  ·split
   ·rename_i hp
    split
    ·rename_i e' he';exact (key x hx hp e' he').1
    ·exact .nil
   ·exact .nil
  ·rintro rfl
   split at hu
   ·rename_i hp
    split at hu
    ·rename_i e' he'
     split at hv
     ·rename_i hq
      split at hv
      ·rename_i f' hf'
       have g1:=(key x hx hp e' he').2 u hu
       have g2:=(key y hy hq f' hf').2 u hv
       apply hne
       obtain⟨xp,xa⟩:=x
       obtain⟨yp,ya⟩:=y
       simp only at hp hq g1 g2
       rw [hp,hq,← g1,← g2]
      ·simp at hv
     ·simp at hv
    ·simp at hu
   ·simp at hu
 ·rw [if_neg h1]
  by_cases h4:l.kind=4
  ·rw [if_pos h4]
   have h3:=hok.calc3 h4
   have hdl:(l.terms.drop 2).length=[calcL l (outE e)].length:=by rw [List.length_drop,h3];rfl
   have hdo:∀ t∈l.terms.drop 2,okT e.length t:=fun t ht=>hok.terms t (List.mem_of_mem_drop ht)
   have hlit:litTs l=l.terms.drop 2:=by unfold litTs;rw [if_neg h1]
   split
   ·split
    ·rename_i e' he'
     obtain⟨g1,g2,g3⟩:=matchE_some hdl hdo he'
     exact (hgo e' g1 (by rw [g3];exact setTs_le _ _) (.inl (by rw [hlit,g3];exact setTs_is (by rw [hasE_len];exact hdo)))).1
    ·exact .nil
   ·exact .nil
  ·rw [if_neg h4]
   have hnf:∀ ds,firesB ds l=false:=fun ds=>by unfold firesB;rw [decide_eq_false h1,decide_eq_false h4];rfl
   split
   ·exact (hgo e rfl (leB.refl _) (.inr hnf)).1
   ·exact .nil
theorem findE_nodup (S:List Fct) (hS:S.Nodup):∀ (k:Nat) (left:List Ltl) (e:RE),left.length≤k→(∀ l∈left,okL S e.length l)→Bd left (hasE e)→(findE S k left e).Nodup
 | k,[],e,_,_,_=>by
  have h:findE S k [] e=[outE e]:=by cases k <;> rfl
  rw [h];exact List.nodup_cons.2 ⟨by simp,.nil⟩
 | 0,_::_,_,hk,_,_=>by simp at hk
 | k + 1,l0::ls,e,hk,hok,hB=>by
  have hlt:=next_lt (by simp) hok hB
  rw [findE]
  generalize hi:nextE e (l0::ls)=i at hlt
  rw [List.getElem?_eq_getElem hlt]
  generalize hL:l0::ls=left at *
  have hlen:(left.eraseIdx i).length≤k:=by rw [List.length_eraseIdx,if_pos hlt];omega
  have hsub:∀ l∈left.eraseIdx i,l∈left:=fun l hl=>(mem_erase hlt l).2 (.inr hl)
  exact litW_nodup hS (hok _ (List.getElem_mem hlt)) fun e' g1 g2 g3=>⟨findE_nodup S hS k _ e' hlen (fun l hl=>by rw [g1];exact hok l (hsub l hl)) (Bd_rest hlt hB g2 g3),
   fun a ha=>((findE_mem S k _ e' hlen (fun l hl=>by rw [g1];exact hok l (hsub l hl)) (Bd_rest hlt hB g2 g3) a).1 ha).1⟩

def recL (e:RE) (l:Ltl):Option RE :=
 if l.kind=4∧(l.terms.take 2).all (fun t=>(vOf e t).isSome)=true∧(l.terms.drop 2).all (fun t=>(vOf e t).isSome)=false then
  (if numB (calcL l (outE e)) then some ((l.terms.drop 2).foldl (fun e t=>e.set t.var.toNat (some (calcL l (outE e)))) e) else none)
 else some e
def recP (body:List Ltl) (e:RE):Option RE:=body.foldlM recL e
def recN (body:List Ltl):Nat→RE→Option RE
 | 0,e=>some e
 | n + 1,e=>(recP body e).bind (recN body n)
def wrongE (S:List Fct) (body:List Ltl) (e:RE):Bool:=body.any fun l=>l.terms.all (fun t=>(vOf e t).isSome) && !holdE S l (outE e)
def fromE (S:List Fct) (body:List Ltl):List Ltl→RE→List (List Int)
 | [],e=>match recN body (body.length + 1) e with
  | none=>[]
  | some e'=>if wrongE S body e' then [] else [outE e']
 | l::ys,e=>match recN body (body.length + 1) e with
  | none=>[]
  | some e'=>if wrongE S body e' then [] else litW S (fromE S body ys) l e'
theorem drop2 {l:Ltl} (h3:l.terms.length=3):∃ t1 t2 t3,l.terms=[t1,t2,t3]:=by
 match h:l.terms,h3 with
 | [t1,t2,t3],_=>exact⟨t1,t2,t3,rfl⟩
theorem recL_some {S:List Fct} {e e':RE} {l:Ltl} (hok:okL S e.length l) (h:recL e l=some e') :
  e'.length=e.length∧(∀ a,holdE S l a=true→(extE e' a↔extE e a))∧hasE e' = (if l.kind=4 then bLit (hasE e) l else hasE e)∧∀ a,extE e' a→extE e a:=by
 unfold recL at h
 by_cases h4:l.kind=4
 ·have h3:=hok.calc3 h4
  obtain⟨t1,t2,t3,hT⟩:=drop2 h3
  have o3:okT e.length t3:=hok.terms t3 (by rw [hT];simp)
  have hdr:l.terms.drop 2=[t3]:=by rw [hT];rfl
  have hlit:litTs l=[t3]:=by unfold litTs;rw [if_neg (by omega),hdr]
  rw [if_pos h4]
  by_cases h12:(l.terms.take 2).all (fun t=>(vOf e t).isSome)=true
  ·have hfire:firesB (hasE e) l=true:=by
    unfold firesB
    rw [decide_eq_true h4,Bool.true_and,Bool.or_eq_true]
    right
    rw [List.all_eq_true] at h12 ⊢
    intro t ht
    rw [isT_hasE];exact h12 t ht
   have hbl:bLit (hasE e) l=setT (hasE e) t3:=by unfold bLit;rw [if_pos hfire,hlit];rfl
   cases hv:vOf e t3 with
   | some x =>
    rw [if_neg (by rw [hdr];simp [hv])] at h
    simp only [Option.some.injEq] at h
    subst h
    exact⟨rfl,fun a _=>Iff.rfl,by rw [hbl,setT_same (by rw [isT_hasE,hv];rfl)],fun a ha=>ha⟩
   | none =>
    rw [if_pos ⟨h4,h12,by rw [hdr];simp [hv]⟩] at h
    split at h
    ·rw [hdr] at h
     simp only [List.foldl_cons,List.foldl_nil,Option.some.injEq] at h
     subst h
     have hx:=fun a=>set_ext' (a:=a) (n:=calcL l (outE e)) o3 hv
     refine⟨List.length_set ..,fun a ha=>?_,by rw [set_has hv,hbl],fun a ha=>((hx a).1 ha).1⟩
     rw [hx a]
     refine⟨fun g=>g.1,fun g=>⟨g,?_⟩⟩
     have:=((holdE_calc h4 h3).1 ha).2
     rw [hdr,calcL_same g h3 (List.all_eq_true.1 h12)] at this
     simpa using this
    ·cases h
  ·rw [if_neg (by rintro⟨_,g,_⟩;exact h12 g)] at h
   simp only [Option.some.injEq] at h
   subst h
   refine⟨rfl,fun a _=>Iff.rfl,?_,fun a ha=>ha⟩
   have hnf:¬ firesB (hasE e) l=true:=by
    unfold firesB
    rw [decide_eq_false (by omega),Bool.false_or,Bool.and_eq_true]
    rintro⟨_,g⟩
    apply h12
    rw [List.all_eq_true] at g ⊢
    intro t ht
    rw [← isT_hasE];exact g t ht
   unfold bLit;rw [if_neg hnf]
 ·rw [if_neg (by rintro⟨g,_⟩;exact h4 g)] at h
  simp only [Option.some.injEq] at h
  subst h
  rw [if_neg h4]
  exact⟨rfl,fun a _=>Iff.rfl,rfl,fun a ha=>ha⟩
theorem recL_none {S:List Fct} {e:RE} {l:Ltl} (hok:okL S e.length l) (h:recL e l=none) (a:List Int) (ha:extE e a):holdE S l a=false:=by
 unfold recL at h
 split at h
 ·rename_i hc
  obtain⟨h4,h12,_⟩:=hc
  split at h
  ·cases h
  ·rename_i hn
   have h3:=hok.calc3 h4
   cases hh:holdE S l a with
   | false=>rfl
   | true =>
    have:=((holdE_calc h4 h3).1 hh).1
    rw [calcL_same ha h3 (List.all_eq_true.1 h12)] at this
    exact absurd this hn
 ·cases h
def calcs (body:List Ltl):List Ltl:=body.filter fun l=>decide (l.kind=4)
theorem calcs_round (l:Ltl) (body:List Ltl) (bs:List Bool):bRound (calcs (l::body)) bs=bRound (calcs body) (if l.kind=4 then bLit bs l else bs):=by
 unfold calcs
 rw [List.filter_cons]
 by_cases h:l.kind=4
 ·simp only [h,decide_true,if_true];rfl
 ·simp only [h,decide_false,if_false];rfl
theorem recP_some {S:List Fct}:∀ {body:List Ltl} {e e':RE},(∀ l∈body,okL S e.length l)→recP body e=some e' →
  e'.length=e.length∧(∀ a,(∀ l∈body,holdE S l a=true)→(extE e' a↔extE e a))∧hasE e' = bRound (calcs body) (hasE e)∧∀ a,extE e' a→extE e a
 | [],e,e',_,h=>by
  simp only [recP,List.foldlM_nil] at h
  cases h
  exact⟨rfl,fun a _=>Iff.rfl,rfl,fun a ha=>ha⟩
 | l::body,e,e',hok,h=>by
  simp only [recP,List.foldlM_cons] at h
  cases h1:recL e l with
  | none=>rw [h1] at h;cases h
  | some e1 =>
   rw [h1] at h
   obtain⟨g1,g2,g3,g4⟩:=recL_some (hok l (List.mem_cons_self ..)) h1
   obtain⟨k1,k2,k3,k4⟩:=recP_some (body:=body) (e:=e1) (fun x hx=>by rw [g1];exact hok x (List.mem_cons_of_mem _ hx)) h
   refine⟨k1.trans g1,fun a ha=>?_,by rw [k3,g3,calcs_round],fun a ha=>g4 a (k4 a ha)⟩
   rw [k2 a fun x hx=>ha x (List.mem_cons_of_mem _ hx),g2 a (ha l (List.mem_cons_self ..))]
theorem recP_none {S:List Fct}:∀ {body:List Ltl} {e:RE},(∀ l∈body,okL S e.length l)→recP body e=none→∀ a,extE e a→¬ ∀ l∈body,holdE S l a=true
 | [],e,_,h,_,_,_=>by simp [recP] at h
 | l::body,e,hok,h,a,ha,hall=>by
  simp only [recP,List.foldlM_cons] at h
  cases h1:recL e l with
  | none =>
   have:=recL_none (hok l (List.mem_cons_self ..)) h1 a ha
   rw [hall l (List.mem_cons_self ..)] at this;cases this
  | some e1 =>
   rw [h1] at h
   obtain⟨g1,g2,_,_⟩:=recL_some (hok l (List.mem_cons_self ..)) h1
   exact recP_none (body:=body) (e:=e1) (fun x hx=>by rw [g1];exact hok x (List.mem_cons_of_mem _ hx)) h a ((g2 a (hall l (List.mem_cons_self ..))).2 ha) fun x hx=>hall x (List.mem_cons_of_mem _ hx)
theorem recN_some {S:List Fct} {body:List Ltl}:∀ {n:Nat} {e e':RE},(∀ l∈body,okL S e.length l)→recN body n e=some e' →
  e'.length=e.length∧(∀ a,(∀ l∈body,holdE S l a=true)→(extE e' a↔extE e a))∧hasE e' = bIter (calcs body) n (hasE e)∧∀ a,extE e' a→extE e a
 | 0,e,e',_,h=>by
  simp only [recN,Option.some.injEq] at h
  subst h
  exact⟨rfl,fun a _=>Iff.rfl,rfl,fun a ha=>ha⟩
 | n + 1,e,e',hok,h=>by
  rw [recN,Option.bind_eq_some_iff] at h
  obtain⟨e1,h1,h2⟩:=h
  obtain⟨g1,g2,g3,g4⟩:=recP_some hok h1
  obtain⟨k1,k2,k3,k4⟩:=recN_some (fun x hx=>by rw [g1];exact hok x hx) h2
  refine⟨k1.trans g1,fun a ha=>by rw [k2 a ha,g2 a ha],by rw [k3,g3];rfl,fun a ha=>g4 a (k4 a ha)⟩
theorem recN_none {S:List Fct} {body:List Ltl}:∀ {n:Nat} {e:RE},(∀ l∈body,okL S e.length l)→recN body n e=none→∀ a,extE e a→¬ ∀ l∈body,holdE S l a=true
 | 0,e,_,h,_,_,_=>by simp [recN] at h
 | n + 1,e,hok,h,a,ha,hall=>by
  rw [recN] at h
  cases h1:recP body e with
  | none=>exact recP_none hok h1 a ha hall
  | some e1 =>
   rw [h1] at h
   obtain⟨g1,g2,_,_⟩:=recP_some hok h1
   exact recN_none (fun x hx=>by rw [g1];exact hok x hx) h a ((g2 a hall).2 ha) hall
theorem recN_closed {S:List Fct} {body:List Ltl} {e e':RE} (hok:∀ l∈body,okL S e.length l) (h:recN body (body.length + 1) e=some e'):closedB (calcs body) (hasE e'):=by
 obtain⟨_,_,h3,_⟩:=recN_some hok h
 have hsub:∀ l∈calcs body,l∈body:=fun l hl=>(List.mem_filter.1 hl).1
 have hokT:∀ l∈calcs body,∀ t∈litTs l,okT (hasE e).length t:=by
  intro l hl t ht
  rw [hasE_len]
  refine (hok l (hsub l hl)).terms t ?_
  unfold litTs at ht
  split at ht
  ·exact ht
  ·exact List.mem_of_mem_drop ht
 have hle:(calcs body).length≤body.length:=List.length_filter_le _ _
 have hr:=bRound_rest hokT
 have hfix:bRound (calcs body) (hasE e')=hasE e':=by
  obtain⟨d,hd⟩:=Nat.exists_eq_add_of_le (show (calcs body).length≤body.length + 1 by omega)
  rw [h3,hd,bIter_add,bIter_fix hr,hr]
 intro l hl hf t ht
 rw [← hfix]
 exact bRound_done (fun l hl t ht=>by
  have:=hokT l hl t ht
  rw [hasE_len] at this ⊢
  rw [(recN_some hok h).1];exact this) l hl hf t ht
theorem wrong_false {S:List Fct} {body:List Ltl} {e:RE} {a:List Int} (ha:extE e a) (hall:∀ l∈body,holdE S l a=true):wrongE S body e=false:=by
 unfold wrongE
 rw [List.any_eq_false]
 intro l hl hc
 rw [Bool.and_eq_true,List.all_eq_true] at hc
 have:=holdE_same (S:=S) ha hc.1
 rw [hall l hl] at this
 rw [← this] at hc
 exact absurd hc.2 (by simp)
theorem fromE_spec (S:List Fct) (hS:S.Nodup) (body:List Ltl):∀ (ys:List Ltl) (e:RE),(∀ l∈ys,l∈body∧l.kind=1)→(∀ l∈body,okL S e.length l)→Bd body (hasE e)→(∀ l∈body,l.kind=1→l∈ys∨∀ t∈l.terms,isT (hasE e) t=true) →
  (∀ a,a∈fromE S body ys e↔extE e a∧∀ l∈body,holdE S l a=true)∧(fromE S body ys e).Nodup
 | [],e,_,hok,hB,hy=>by
  rw [fromE]
  cases hr:recN body (body.length + 1) e with
  | none=>exact⟨fun a=>⟨fun h=>by simp at h,fun⟨h1,h2⟩=>absurd h2 (recN_none hok hr a h1)⟩,.nil⟩
  | some e' =>
   simp only
   obtain⟨g1,g2,g3,g4⟩:=recN_some hok hr
   have hcl:=recN_closed hok hr
   have hle:leB (hasE e) (hasE e'):=by
    rw [g3]
    have:∀ n bs,leB bs (bIter (calcs body) n bs):=by
     intro n
     induction n with
     | zero=>intro bs;exact leB.refl _
     | succ n ih=>intro bs;exact (bRound_le _ _).trans (ih _)
    exact this _ _
   have hfull:∀ v,v < (hasE e').length→(hasE e').getD v false=true:=by
    refine hB _ hle fun l hl hf t ht=>?_
    by_cases h1:l.kind=1
    ·have hl1:litTs l=l.terms:=by unfold litTs;rw [if_pos h1]
     rw [hl1] at ht
     rcases hy l hl h1 with h|h
     ·simp at h
     ·exact isT_mono hle (h t ht)
    ·have h4:l.kind=4:=by
      unfold firesB at hf
      rw [decide_eq_false h1,Bool.false_or,Bool.and_eq_true] at hf
      exact of_decide_eq_true hf.1
     exact hcl l (List.mem_filter.2 ⟨hl,decide_eq_true h4⟩) hf t ht
   have hsome:∀ l∈body,∀ t∈l.terms,(vOf e' t).isSome=true:=fun l hl t ht=>full_some hfull (by rw [g1];exact (hok l hl).terms t ht)
   split
   ·rename_i hw
    refine⟨fun a=>⟨fun h=>by simp at h,fun⟨h1,h2⟩=>?_⟩,.nil⟩
    rw [wrong_false ((g2 a h2).2 h1) h2] at hw;cases hw
   ·rename_i hw
    refine⟨fun a=>?_,List.nodup_cons.2 ⟨by simp,.nil⟩⟩
    rw [List.mem_singleton]
    constructor
    ·rintro rfl
     have hx:=(full_out hfull (outE e')).2 rfl
     refine⟨g4 _ hx,fun l hl=>?_⟩
     cases hh:holdE S l (outE e') with
     | true=>rfl
     | false =>
      exfalso;apply hw
      unfold wrongE
      rw [List.any_eq_true]
      exact⟨l,hl,by rw [hh,Bool.and_eq_true,List.all_eq_true];exact⟨fun t ht=>hsome l hl t ht,rfl⟩⟩
    ·rintro⟨h1,h2⟩
     exact (full_out hfull a).1 ((g2 a h2).2 h1)
 | l::ys,e,hys,hok,hB,hy=>by
  rw [fromE]
  cases hr:recN body (body.length + 1) e with
  | none=>exact⟨fun a=>⟨fun h=>by simp at h,fun⟨h1,h2⟩=>absurd h2 (recN_none hok hr a h1)⟩,.nil⟩
  | some e' =>
   simp only
   obtain⟨g1,g2,g3,g4⟩:=recN_some hok hr
   have hle:leB (hasE e) (hasE e'):=by
    rw [g3]
    have:∀ n bs,leB bs (bIter (calcs body) n bs):=by
     intro n
     induction n with
     | zero=>intro bs;exact leB.refl _
     | succ n ih=>intro bs;exact (bRound_le _ _).trans (ih _)
    exact this _ _
   obtain⟨hl,hl1⟩:=hys l (List.mem_cons_self ..)
   have hlit:litTs l=l.terms:=by unfold litTs;rw [if_pos hl1]
   split
   ·rename_i hw
    refine⟨fun a=>⟨fun h=>by simp at h,fun⟨h1,h2⟩=>?_⟩,.nil⟩
    rw [wrong_false ((g2 a h2).2 h1) h2] at hw;cases hw
   ·have ih:∀ e'',e''.length=e'.length→leB (hasE e') (hasE e'')→((∀ t∈litTs l,isT (hasE e'') t=true)∨∀ ds,firesB ds l=false)→(∀ a,a∈fromE S body ys e''↔extE e'' a∧∀ l∈body,holdE S l a=true)∧(fromE S body ys e'').Nodup:=by
     intro e'' k1 k2 k3
     refine fromE_spec S hS body ys e'' (fun x hx=>hys x (List.mem_cons_of_mem _ hx)) (fun x hx=>by rw [k1,g1];exact hok x hx) (fun cs c1 c2=>hB cs ((hle.trans k2).trans c1) c2) fun x hx hx1=>?_
     rcases hy x hx hx1 with h|h
     ·rcases List.mem_cons.1 h with rfl|h
      ·right
       rcases k3 with k3|k3
       ·rw [hlit] at k3;exact k3
       ·have:=k3 []
        unfold firesB at this
        rw [decide_eq_true hl1] at this
        simp at this
      ·exact .inl h
     ·exact .inr fun t ht=>isT_mono (hle.trans k2) (h t ht)
    have hok':okL S e'.length l:=by rw [g1];exact hok l hl
    refine⟨fun a=>?_,litW_nodup hS hok' fun e'' k1 k2 k3=>⟨(ih e'' k1 k2 k3).2,fun a ha=>(((ih e'' k1 k2 k3).1 a).1 ha).1⟩⟩
    rw [litW_mem (P:=fun a=>∀ l∈body,holdE S l a=true) hok' (.inr hl1) a fun e'' k1 k2 k3=>(ih e'' k1 k2 k3).1 a]
    constructor
    ·rintro⟨⟨h1,_⟩,h2⟩;exact⟨(g2 a h2).1 h1,h2⟩
    ·rintro⟨h1,h2⟩;exact⟨⟨(g2 a h2).2 h1,h2 l hl⟩,h2⟩
end Go.Proofs.YtapciiffpnociacGreat
