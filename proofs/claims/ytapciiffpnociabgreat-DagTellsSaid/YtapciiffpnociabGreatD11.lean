/- Several texts in one: GxSrt RelS RelK RelL RelU RelW GxRng GxItr RelV RelX RelB RelC RelM RelY DagA. Condition: none. -/
import Derived.Test.YtapciiffpnociabGreatD10
import Derived.Shelf.SlSortCmp.NoneTotal
import Derived.Test.YtapciiffpnociabGreatD01
import Derived.Test.YtapciiffpnociabGreatD09
namespace Go.Proofs.YtapciiffpnociabGreat
open Go Go.RowKit Go.Sort Go.Shelf
section
variable {β : Type}
structure Held (X:Nat→Prop) (w:World) (es:Nat) (enc:β→List D) where
 x:β
 vs:List Value
 len:vs.length=es
 one:∀ v∈vs,v.oneCell' = true
 rep:∀ j (hj:j < (enc x).length),∃ v,vs[j]? = some v∧RepC X w v (enc x)[j]
theorem flatK_toList {α:Type} [Inhabited α] (enc:α→List Value) (k:Nat) (hk:∀ x,(enc x).length=k) (d:Array α) (t:Nat) (ht:t < d.size * k) :
  (flatK enc k d).toList[t]? = (enc (d[t / k]'(Nat.div_lt_of_lt_mul (by rw [Nat.mul_comm];exact ht))))[t % k]?:=by
 have h0:0 < k:=Nat.pos_of_ne_zero fun h=>by subst h;simp at ht
 have h1:t / k < d.size:=Nat.div_lt_of_lt_mul (by rw [Nat.mul_comm];exact ht)
 have h2:t % k < (enc d[t / k]).length:=by rw [hk];exact Nat.mod_lt _ h0
 rw [Array.getElem?_toList,Array.getElem?_eq_getElem (by simpa using ht),List.getElem?_eq_getElem h2]
 simp only [flatK,Array.getElem_map,Array.getElem_range]
 rw [getElem!_pos d _ h1,getElem!_pos (enc d[t / k]) _ h2]
theorem sortK_heap {α:Type} [Inhabited α] {w:World} {g n:Nat} {os:Array Obj} {cur:Array Value} {e:TypeId} {fr:Nat × Nat} (enc:α→List Value) (k:Nat) (d:Array α) (hb:w.heap[g]? = some (.cells cur e fr)) :
  (sortWorldK enc k w g 0 n d os).heap[g]? = some (.cells (putCells id 0 (flatK enc k d) cur) e fr):=by
 have hg:g < w.heap.size:=(Array.getElem?_eq_some_iff.1 hb).1
 unfold sortWorldK putRowK
 rw [heap_grow_old _ _ (by simpa using hg)]
 simp [putRow,mapBlock,Sort.ahead,Array.getElem?_modify,hb,onCells]
theorem sortK_other {α:Type} [Inhabited α] {w:World} {g n:Nat} {os:Array Obj} (enc:α→List Value) (k:Nat) (d:Array α) {b:Nat} (hb:b < w.heap.size) (hne:b≠g) :
  (sortWorldK enc k w g 0 n d os).heap[b]? = w.heap[b]?:=by
 unfold sortWorldK putRowK
 rw [heap_grow_old _ _ (by simpa using hb)]
 have:g≠b:=fun h=>hne h.symm
 simp [putRow,mapBlock,Sort.ahead,Array.getElem?_modify,this]
theorem sortK_size {α:Type} [Inhabited α] {w:World} {g n:Nat} {os:Array Obj} (enc:α→List Value) (k:Nat) (d:Array α):w.heap.size≤(sortWorldK enc k w g 0 n d os).heap.size:=by
 unfold sortWorldK putRowK
 simp
theorem take_putCellsK (cur F:Array Value) (h:F.size≤cur.size):(putCells id 0 F cur).toList.take F.size=F.toList:=by
 apply List.ext_getElem?
 intro j
 by_cases hj:j < F.size
 ·rw [List.getElem?_take_of_lt hj,Array.getElem?_toList,Array.getElem?_toList]
  simp [putCells,hj,show j < cur.size by omega]
 ·rw [List.getElem?_take_eq_none (by omega),List.getElem?_eq_none (by simp;omega)]
theorem grown_eq {W w':World} (hos:w'.os=W.os) (ht:w'.tape=W.tape) (ho:w'.output=W.output) (hd:W.drawn≤w'.drawn) (hs:W.heap.size≤w'.heap.size) (hb:∀ b,b < W.heap.size→w'.heap[b]? = W.heap[b]?) :
  ∃ q os',w' = grow (W.drewN q) os':=by
 refine⟨w'.drawn - W.drawn,w'.heap.extract W.heap.size,?_⟩
 obtain⟨heap,tape,drawn,os,output⟩:=w'
 simp only at hos ht ho hd hs hb
 subst hos;subst ht;subst ho
 unfold grow World.drewN
 simp only [World.mk.injEq,true_and,and_true]
 refine⟨?_,by omega⟩
 apply Array.ext_getElem?
 intro i
 rw [Array.getElem?_append]
 split
 ·rename_i h;exact hb i h
 ·rename_i h
  rw [Array.getElem?_extract]
  split
  ·congr 1;omega
  ·rw [Array.getElem?_eq_none (by omega)]
theorem flatten_get {α γ:Type} {f:α→List γ} {k:Nat} (hk:∀ x,(f x).length=k):∀ (d:List α) (i j:Nat) (hi:i < d.length),j < k→(d.map f).flatten[i * k + j]? = (f (d[i]'hi))[j]?
 | [],_,_,hi,_=>by simp at hi
 | x::d,0,j,_,hj=>by
  rw [List.map_cons,List.flatten_cons,Nat.zero_mul,Nat.zero_add,List.getElem?_append_left (by rw [hk];exact hj)];rfl
 | x::d,i + 1,j,hi,hj=>by
  have h1:(i + 1) * k + j=k + (i * k + j):=by rw [Nat.add_mul];omega
  rw [List.map_cons,List.flatten_cons,h1,List.getElem?_append_right (by rw [hk];omega),hk,Nat.add_sub_cancel_left,flatten_get hk d i j (by simpa using hi) hj];rfl
theorem flatten_len {α γ:Type} {f:α→List γ} {k:Nat} (hk:∀ x,(f x).length=k):∀ (d:List α),(d.map f).flatten.length=d.length * k
 | []=>by simp
 | x::d=>by rw [List.map_cons,List.flatten_cons,List.length_append,hk,flatten_len hk d,List.length_cons,Nat.add_mul];omega
theorem flatK_list {α:Type} [Inhabited α] (enc:α→List Value) (k:Nat) (hk:∀ x,(enc x).length=k) (d:Array α):(flatK enc k d).toList=(d.toList.map enc).flatten:=by
 apply List.ext_getElem?
 intro t
 by_cases ht:t < d.size * k
 ·have h0:0 < k:=Nat.pos_of_ne_zero fun h=>by subst h;simp at ht
  have h1:t / k < d.size:=Nat.div_lt_of_lt_mul (by rw [Nat.mul_comm];exact ht)
  rw [flatK_toList enc k hk d t ht]
  have h2:=flatten_get hk d.toList (t / k) (t % k) (by simpa using h1) (Nat.mod_lt _ h0)
  rw [Nat.div_add_mod'] at h2
  rw [h2]
  simp
 ·rw [List.getElem?_eq_none (by simp;omega),List.getElem?_eq_none (by rw [flatten_len hk];simp;omega)]
theorem held_of {X:Nat→Prop} {w:World} {es:Nat} {enc:β→List D} (hes:∀ x,(enc x).length=es):∀ (l:List β) (us:List Value),us.length=l.length * es→(∀ v∈us,v.oneCell' = true) →
  (∀ i (hi:i < l.length) j (hj:j < (enc l[i]).length),∃ v,us[i * es + j]? = some v∧RepC X w v ((enc l[i])[j]'hj))→∃ d:List (Held X w es enc),d.map Held.x=l∧(d.map Held.vs).flatten=us
 | [],us,h,_,_=>⟨[],rfl,by simp at h;subst h;rfl⟩
 | x::l,us,h,h1,h2=>by
  have hl:us.length=es + l.length * es:=by rw [h,List.length_cons,Nat.add_mul];omega
  obtain⟨d,g1,g2⟩:=held_of (X:=X) (w:=w) hes l (us.drop es) (by rw [List.length_drop];omega) (fun v hv=>h1 v (List.mem_of_mem_drop hv)) (fun i hi j hj=>by
   obtain⟨v,q1,q2⟩:=h2 (i + 1) (by simpa using hi) j (by simpa using hj)
   refine⟨v,?_,q2⟩
   rw [List.getElem?_drop,← q1]
   congr 1
   rw [Nat.add_mul];omega)
  refine⟨⟨x,us.take es,by rw [List.length_take];omega,fun v hv=>h1 v (List.mem_of_mem_take hv),fun j hj=>?_⟩::d,by rw [List.map_cons,g1],by rw [List.map_cons,List.flatten_cons,g2,List.take_append_drop]⟩
  obtain⟨v,q1,q2⟩:=h2 0 (by simp) j (by simpa using hj)
  refine⟨v,?_,q2⟩
  rw [List.getElem?_take,if_pos (by rw [← hes x];exact hj)]
  simpa using q1
theorem lowL_d:∀ (ds:List D),SV.lowL 0 (ds.map .d)=true
 | []=>rfl
 | d::ds=>by simp [SV.lowL,SV.low,lowL_d ds]
theorem relL_d {X:Nat→Prop} {e:Env} {w:World}:∀ (ds:List D) (vs:List Value),vs.length=ds.length→(∀ j (hj:j < ds.length),∃ v,vs[j]? = some v∧RepC X w v ds[j])→RelL X e w (ds.map .d) vs
 | [],[],_,_=>trivial
 | [],_::_,h,_=>by simp at h
 | _::_,[],h,_=>by simp at h
 | d::ds,v::vs,h,hr=>⟨by obtain⟨v',h1,h2⟩:=hr 0 (by simp);cases h1;exact h2,relL_d ds vs (by simpa using h) fun j hj=>by
   obtain⟨v',h1,h2⟩:=hr (j + 1) (by simpa using hj);exact⟨v',by simpa using h1,by simpa using h2⟩⟩
variable {P : Program} {τ : List (Nat × TI)} {τok : TabOk P τ} {ρ : Ren}
theorem sort_rowK (L:SlLaysF0.n6 P ρ) (es:Nat) (aE:∀ w,(isAgg (ρ.t 24)).run P w = .ok true w) (zE:∀ w,(Go.sizeOf (ρ.t 24)).run P w = .ok es w) (enc:β→List D) (hes:∀ x,(enc x).length=es) (cf:β→β→Int) (hO:SWO (ltOf cf)) (g:Nat)
  (hc:∀ a b,FnP true P τ τok g [.agg ((enc a).map .d),.agg ((enc b).map .d)] (fun r=>r = .d (.int .i64 (cf a b)))) (te:TypeId) (l:List β) (hl:l.length < 4611686018427387904)
  {X:Nat→Prop} {e:Env} {w:World} {i:Nat} (hXo:∀ c,HB.owned e (i,.row te es (l.map enc))=some c→X c) (hXl:∀ b,X b→b < w.heap.size) (hrow:HRel X e w (i,.row te es (l.map enc))) :
  Calls P (ρ.f 6) #[e.η i,.func (.func g) #[] #[]] w fun en w'=>en = .returned (.tuple #[])∧w.heap.size≤w'.heap.size∧w'.os=w.os∧w'.tape=w.tape∧w'.output=w.output ∧
   (∀ c,c < w.heap.size→HB.owned e (i,.row te es (l.map enc))≠some c→w'.heap[c]? = w.heap[c]?)∧∃ l':List β,l'.Perm l∧l'.Pairwise (fun a b=>cf b a ≥ 0)∧HRel X e w' (i,.row te es (l'.map enc)):=by
 obtain⟨us,hown,hlen,hone2,hrep⟩:=hrow
 by_cases hne:l=[]
 ·subst hne
  obtain⟨p,cap,hv⟩:∃ p cap,e.η i = .slice p 0 cap:=by
   rcases hown.2 with ⟨hv,_⟩|⟨gb,cap,cur,hv,_⟩
   ·exact⟨_,_,hv⟩
   ·exact⟨_,_,hv⟩
  rw [hv]
  refine (AnyF.slices_SortFunc_none { L with } p cap _ w).mono ?_
  rintro en w' ⟨rfl,rfl⟩
  exact⟨rfl,Nat.le_refl _,rfl,rfl,rfl,fun _ _ _=>rfl,[],.refl _,.nil,us,hown,hlen,hone2,hrep⟩
 ·have hpos:0 < l.length:=List.length_pos_iff.2 hne
  have lm:(l.map enc).length=l.length:=List.length_map _
  obtain⟨hul,hcase⟩:=hown
  rw [lm] at hul hcase
  rcases hcase with ⟨_,h⟩|⟨gb,cap,cur,hv,_,hblk,hnc,hcm,hcs,htk⟩
  ·omega
  have hgb:gb < w.heap.size:=(Array.getElem?_eq_some_iff.1 hblk).1
  have howned:∀ (m:List (List D)),HB.owned e (i,.row te es m)=some gb:=fun m=>by simp [HB.owned,hv,Value.ownBlock]
  have hXg:X gb:=hXo gb (howned _)
  obtain⟨d,d1,d2⟩:=held_of (X:=X) (w:=w) (enc:=enc) hes l us hul hone2 (fun i hi j hj=>by
   obtain⟨v,q1,q2⟩:=hrep i (by rw [lm];exact hi) j (by simpa using hj)
   exact⟨v,q1,by simpa using q2⟩)
  have hdl:d.length=l.length:=by rw [← d1,List.length_map]
  haveI:Inhabited (Held X w es enc):=⟨d[0]'(by omega)⟩
  have hkv:∀ x:Held X w es enc,x.vs.length=es:=fun x=>x.len
  have hF:(flatK Held.vs es d.toArray).toList=us:=by rw [flatK_list _ _ hkv,← d2]
  have hHold:HoldsK (Held.vs (X:=X) (w:=w) (es:=es) (enc:=enc)) es w gb 0 d.toArray:=by
   intro t ht
   have ht':t < l.length * es:=by simpa [hdl] using ht
   have hc1:cur[t]? = us[t]?:=by
    rw [← htk,List.getElem?_take,if_pos ht',Array.getElem?_toList]
   refine⟨?_,by simp [World.frozen?,hblk]⟩
   simp only [World.cell?,hblk,Nat.zero_add]
   simp only [Option.isSome_none,Bool.false_eq_true,if_false]
   rw [hc1,← hF,Array.getElem?_toList,Array.getElem?_eq_getElem ht,getElem!_pos _ t ht]
   rfl
  have hcmp:CmpLays P g #[] (Held.vs (X:=X) (w:=w) (es:=es) (enc:=enc)) es (fun x y=>cf x.x y.x) gb 0 d.toArray.size w:=by
   intro m os dk hdk x y
   generalize hW:sortWorldK Held.vs es w gb 0 m dk os=W
   have hWs:w.heap.size≤W.heap.size:=hW▸sortK_size _ _ _
   have hWb:∀ b,b < w.heap.size→¬ X b→W.heap[b]? = w.heap[b]?:=fun b hb hx=>hW▸sortK_other _ _ _ hb fun h=>hx (h▸hXg)
   have hXW:∀ b,X b→b < W.heap.size:=fun b hb=>Nat.lt_of_lt_of_le (hXl b hb) hWs
   have hel:∀ z:Held X w es enc,RelL X e W ((enc z.x).map .d) z.vs:=fun z=>relL_d _ _ (by rw [z.len,hes]) fun j hj=>by
    obtain⟨v,q1,q2⟩:=z.rep j hj
    exact⟨v,q1,RepC.keep hWs hWb (fun _ _ h=>h) q2⟩
   have hk:=(hc x.x y.x).2 X (e.ren id 0) W [.agg x.vs.toArray,.agg y.vs.toArray] ⟨fun _=>Iff.rfl,by simp,by simp,by simp [ownedL],by simp [ownedL],rfl,rfl,rfl,fun _=>Nat.le_refl _,Nat.le_refl _,fun _ _ _=>rfl,fun b hb=>⟨hXW b hb,by simp [ownedL]⟩,fun j hj=>absurd hj (Nat.not_lt_zero j),fun j hj=>absurd hj (Nat.not_lt_zero j)⟩ ?_
   ·refine hk.mono ?_
    rintro en w' ⟨k',r,H',e',v,⟨rfl,hlr,rfl⟩,rfl,hH2,hrel⟩
    refine⟨?_,grown_eq hH2.os hH2.tape hH2.output (hH2.drawn rfl) hH2.size fun b hb=>hH2.block b hb (by simp [ownedL])⟩
    cases hrel
    rfl
   ·have hXX:∀ b,Ctx.X ⟨P,τ,τok,X,W,fun b=>b∈ownedL (e.ren id 0) [],0,0,(e.ren id 0).an,none,noPan,true,true⟩ (e.ren id 0) [] b↔X b:=fun b=>by unfold Ctx.X;simp [ownedL]
    refine RelL.keep (Nat.le_refl _) (fun _ _ _=>rfl) (fun b _ h=>(hXX b).1 h) _ _ (X:=X) (w:=W) ?_
    exact⟨⟨x.vs,rfl,RelL.env _ _ (lowL_d _) (hel x)⟩,⟨y.vs,rfl,RelL.env _ _ (lowL_d _) (hel y)⟩,trivial⟩
  have hOα:SWO (ltOf fun x y:Held X w es enc=>cf x.x y.x):=⟨fun x=>hO.irrefl x.x,fun x y z=>hO.trans x.x y.x z.x,fun x y z=>hO.ntrans x.x y.x z.x⟩
  have eg:∀ args w,(callFunc g args).run P w = .ok (.enter g args) w:=run_call ((if h:l.length=0 then by omega else (hc (l[0]'hpos) (l[0]'hpos)).1))
  have hs:=AnyQ.slices_SortFunc L es aE zE (Held.vs (X:=X) (w:=w) (es:=es) (enc:=enc)) hkv (fun x=>x.one) (fun x y=>cf x.x y.x) hOα g #[] gb 0 cap d.toArray w eg hcmp hHold hgb (by simpa [hdl] using hl)
  have hsz:d.toArray.size=l.length:=by simpa using hdl
  rw [hsz] at hs
  rw [hv]
  refine hs.mono ?_
  rintro en w' ⟨rfl,d',m,os,hp,hso,rfl⟩
  have hd's:d'.size=l.length:=hp.1.trans hsz
  have hperm:d'.toList.Perm d:=by
   have:=hp.2.2
   rwa [show d'.extract 0 l.length=d' by rw [← hd's];simp,show d.toArray.extract 0 l.length=d.toArray by rw [← hsz];simp] at this
  refine⟨rfl,sortK_size _ _ _,rfl,rfl,rfl,fun c hc hne=>sortK_other _ _ _ hc fun h=>hne (by rw [howned,h]),d'.toList.map Held.x,d1▸hperm.map _,?_,?_⟩
  ·rw [List.pairwise_map,List.pairwise_iff_getElem]
   intro i j hi hj hij
   have h1:=hso i j (Nat.zero_le _) hij (by simpa [hd's] using hj)
   rw [getElem!_pos d' i (by simpa using hi),getElem!_pos d' j (by simpa using hj)] at h1
   have h2:¬ cf d'[j].x d'[i].x < 0:=of_decide_eq_false h1
   simp only [Array.getElem_toList]
   omega
  ·have hl':(d'.toList.map Held.x).length=l.length:=by simp [hd's]
   have hFs:(flatK Held.vs es d').size=l.length * es:=by rw [size_flatK,hd's]
   have hFl:(flatK Held.vs es d').toList=(d'.toList.map Held.vs).flatten:=flatK_list _ _ hkv _
   refine⟨(d'.toList.map Held.vs).flatten,⟨?_,.inr ⟨gb,cap,_,hv▸?_,Nat.zero_le _,sortK_heap _ _ _ hblk,?_,hcm,by simp [putCells,hcs],?_⟩⟩,?_,?_,?_⟩
   ·rw [flatten_len hkv];simp
   ·simp [hd's]
   ·simp [hd's];exact hnc
   ·rw [List.length_map,hl',← hFs,take_putCellsK _ _ (by rw [hFs,hcs];exact Nat.mul_le_mul_right _ hnc),hFl]
   ·intro i hi;simp [hes]
   ·intro v hvm
    obtain⟨u,hu,hvu⟩:=List.mem_flatten.1 hvm
    obtain⟨x,_,rfl⟩:=List.mem_map.1 hu
    exact x.one v hvu
   ·intro i hi j hj
    have hi':i < d'.toList.length:=by simpa using hi
    have hj':j < es:=by simpa [hes] using hj
    obtain⟨v,q1,q2⟩:=(d'.toList[i]).rep j (by rw [hes];exact hj')
    refine⟨v,by rw [flatten_get hkv d'.toList i j hi' hj'];exact q1,?_⟩
    have q3:RepC X w v (((d'.toList.map Held.x).map enc)[i][j]):=by simpa using q2
    exact RepC.keep (sortK_size _ _ _) (fun b hb hx=>sortK_other _ _ _ hb fun h=>hx (h▸hXg)) (fun b _ h=>h) q3
def SortC (P:Program) (f g:FuncId) (te es:Nat) (enc:β→List D) (cf:β→β→Int):Prop :=
 ∀ (l:List β),l.length < 4611686018427387904→∀ (X:Nat→Prop) (e:Env) (w:World) (i:Nat),(∀ c,HB.owned e (i,.row te es (l.map enc))=some c→X c)→(∀ b,X b→b < w.heap.size)→HRel X e w (i,.row te es (l.map enc)) →
  Calls P f #[e.η i,.func (.func g) #[] #[]] w fun en w'=>en = .returned (.tuple #[])∧w.heap.size≤w'.heap.size∧w'.os=w.os∧w'.tape=w.tape∧w'.output=w.output ∧
   (∀ c,c < w.heap.size→HB.owned e (i,.row te es (l.map enc))≠some c→w'.heap[c]? = w.heap[c]?)∧∃ l':List β,l'.Perm l∧l'.Pairwise (fun a b=>cf b a ≥ 0)∧HRel X e w' (i,.row te es (l'.map enc))
end
section
variable {Γ : Ctx} {k : Nat} {L : Sl} {H : Hp} {K : Next'} {ops : List Oper} {rest : List Oper} {β : Type}
theorem ds_sort [NoDr Γ] {f g0:FuncId} {te es:Nat} {enc:β→List D} {cf:β→β→Int} (hS:SortC Γ.P f g0 te es enc cf) (l:List β) {d i:Nat} {x y:Operand} {ts:Array TypeId} {ty:TypeId} {pos:String} {af:Array Edge} {g:Option (Nat × Bool)}
  (hcall:callable Γ.P f=true) (hx:opSV L x = .row i) (hH:Hp.get H i=some (.row te es (l.map enc))) (hy:opSV L y = .fn g0 []) (hyo:opOkB y=true) (hw:wantedSV ops L g=some true) (hd:Nat.blt d Γ.n=true) (hl:l.length < 4611686018427387904)
  (hk:∀ l':List β,l'.Perm l→l'.Pairwise (fun a b=>cf b a ≥ 0)→DS false Γ ops rest K k ((d,.tup [])::L) (Hp.set H i (.row te es (l'.map enc)))) :
  DS false Γ ops (⟨some d,.call { callee:=.value (.func f),args:=#[x,y],argTypes:=ts },ty,pos,af,g⟩::rest) K k L H:=by
 refine dl_run hw fun e a w m=>?_
 unfold Oper.wp
 have hrun:=run_callOp hcall a [x,y] ts (some d) ty pos af g w
 rw [show #[x,y]=[x,y].toArray from rfl,hrun,Oper.upon_enter]
 obtain⟨hdom,hv,_⟩:=evT m hx (cSV_row · _)
 have hr:=m.op y (opOkB_spec hyo)
 rw [hy] at hr
 obtain⟨us,hu,hus⟩:=hr
 cases us with
 | cons u us=>exact hus.elim
 | nil =>
  have hmem:=Hp.mem_of hH
  have hown:∀ c,HB.owned e (i,.row te es (l.map enc))=some c→Γ.X e H c:=fun c hc=>.inr (List.mem_filterMap.2 ⟨_,hmem,hc⟩)
  have hXl:∀ b,Γ.X e H b→b < w.heap.size:=fun b hb=>hb.elim (fun h=>Nat.lt_of_lt_of_le (m.obound b h).1 m.size) (m.lt b)
  have hs:=hS l hl (Γ.X e H) e w i hown hXl (m.heap _ hmem).2
  simp only [List.map_cons,List.map_nil,hv,hu]
  refine hs.mono ?_
  rintro en w' ⟨rfl,h1,h2,h3,h4,h5,l',h6,h7,h8⟩
  exact⟨k,_,_,e,(m.turn (b':=.row te es (l'.map enc)) hH h1 h2 h3 h4 NoDr.any h5 rfl h8).put (s:=.tup []) (Nat.le_of_ble_eq_true hd) ⟨[],rfl,trivial⟩,hk l' h6 h7⟩
end
open Go Go.RowKit
theorem sortFacts_c:SortC Tryz.prog 193 115 95 2 encFct ordF:=fun l hl _ _ _ _ h1 h2 h3 =>
 sort_rowK (ρ:=Tryz.sortFacts_ren) Tryz.sortFacts 2 Tryz.isAgg95 Tryz.sizeOf95 encFct (fun _=>rfl) ordF swoF 115 (fun a b=>orderF_fnD true a b) 95 l hl h1 h2 h3
attribute [local irreducible] DW DS DL DQ Ev FnOk FnP thenD inBlockD DT
def cmpG (p:Fct):List Fct→List Fct
 | []=>[]
 | y::l=>if ordF y p=0 then cmpG y l else y::cmpG y l
def cmpF:List Fct→List Fct
 | []=>[]
 | x::l=>x::cmpG x l
theorem cmpG_snoc:∀ (l:List Fct) (p y:Fct),cmpG p (l++[y])=cmpG p l++(if ordF y ((p::l).getLast (by simp))=0 then [] else [y])
 | [],p,y=>by
  show (if ordF y p=0 then cmpG y [] else y::cmpG y [])=[]++_
  rfl
 | x::l,p,y=>by
  rw [List.cons_append]
  simp only [cmpG]
  rw [cmpG_snoc l x y,List.getLast_cons (by simp:x::l≠[])]
  split <;> simp
theorem cmpF_take {l:List Fct} {n:Nat} (h0:0 < n) (hn:n < l.length):cmpF (l.take (n + 1))=cmpF (l.take n)++(if ordF l[n] (l[n - 1]'(by omega))=0 then [] else [l[n]]):=by
 rw [List.take_succ_eq_append_getElem hn]
 have hne:l.take n≠[]:=by
  intro h
  have:=congrArg List.length h
  rw [List.length_take,List.length_nil] at this
  omega
 obtain⟨x,r,hx⟩:=List.exists_cons_of_ne_nil hne
 have hl:(l.take n).getLast hne=l[n - 1]'(by omega):=by
  rw [List.getLast_eq_getElem,List.getElem_take]
  have:(l.take n).length - 1=n - 1:=by rw [List.length_take,Nat.min_eq_left (by omega)]
  simp only [this]
 simp only [hx,List.cons_append,cmpF]
 rw [cmpG_snoc]
 have:(x::r).getLast (by simp)=l[n - 1]'(by omega):=by rw [← hl];congr 1;exact hx.symm
 rw [this]
theorem cmpF_one {l:List Fct} (h:l.length≤1):cmpF l=l:=by
 match l,h with
 | [],_=>rfl
 | [x],_=>rfl
set_option maxHeartbeats 8000000 in
theorem compact_fn (l:List Fct) (hl:l.length≤4398046511104):FnOk false Tryz.prog tab tab_ok 194 [.row 0,.fn 195 []] 0 1 [(0,.row 95 2 (l.map encFct))] (fun _ r H=>r = .d (.slice 2 ((cmpF l).map encFct))∧H=[]):=by
 refine fn_enterF _ Tryz.func194 rfl rfl (by kernel_rfl) ?_
 intro O w0 E0 β0
 have ll:(l.map encFct).length=l.length:=List.length_map _
 by_cases h2:l.length < 2
 ·rw [cmpF_one (by omega)]
  repeat' (first|refine z0 ?_|apply ds_nil|apply dw_seq2|refine z16 ?_|apply dw_block|apply dw_skip|apply thenD_n|(refine z23 ?_ ?_ <;> intro hg)|fail)
  all_goals try (exfalso;omega)
  refine dw_ent (ent_seal 4 rfl rfl rfl) ?_
  repeat' (first|apply dw_ret|apply thenD_r)
  exact⟨.inl rfl,_,rfl,0,[],trivial,rfl,rfl,rfl,rfl,rfl,rfl⟩
 ·repeat' (first|refine z0 ?_|apply ds_nil|apply dw_seq2|refine z16 ?_|apply dw_block|apply dw_skip|apply thenD_n|(refine z23 ?_ ?_ <;> intro hg)|fail)
  all_goals try (exfalso;omega)
  refine ds_loop (ι:=Nat) (fun i=>⟨1,[(0,.row 0),(1,.fn 195 []),(5,.d (.int .i64 i))],[(0,.row 95 2 (l.map encFct))]⟩)
   (fun i=>1≤i∧i≤l.length∧cmpF (l.take i)=l.take i) (fun i=>l.length - i) 1 ⟨by omega,by omega,cmpF_one (by rw [List.length_take];omega)⟩ (ent_ren id ⟨rfl,rfl,rfl,trivial⟩ ⟨rfl,trivial⟩ rfl rfl rfl rfl rfl rfl) ?_
  rintro i ⟨g0,g1,g2⟩
  by_cases hi:i < l.length
  ·have hs:Fn 195 [elFct l[i],elFct (l[((i:Int) - 1).toNat]'(by omega))] (fun r=>r = .d (.bool (decide (ordF l[i] (l[i - 1]'(by omega))=0)))):=by
    have e:((i:Int) - 1).toNat=i - 1:=by omega
    simp only [e]
    exact rsame_fn _ _
   have ht:=cmpF_take (by omega:0 < i) hi
   cases hb:decide (ordF l[i] (l[i - 1]'(by omega))=0) with
   | false =>
    have hb':=of_decide_eq_false hb
    rw [hb] at hs
    rw [if_neg hb',g2,← List.take_succ_eq_append_getElem hi] at ht
    repeat' (first|refine z0 ?_|apply ds_nil|refine z5 ?_|refine z10 ?_|apply dw_seq2|refine z16 ?_|refine z20 ?_|apply dw_block|apply dw_skip|apply dw_exit|refine z19 ?_|apply thenD_n|apply thenD_e|apply inB_n|refine z17 ?_|(apply dt_callV;exact rfl;exact rfl;exact rfl;exact rfl;apply hs;exact rfl;(exact rfl);exact rfl;exact rfl;exact⟨_,rfl⟩;rintro _ rfl)|(refine z23 ?_ ?_ <;> intro hg)|fail)
    all_goals try (exfalso;omega)
    exact⟨i + 1,⟨by omega,by omega,ht⟩,ent_ren id ⟨rfl,rfl,rfl,trivial⟩ ⟨rfl,trivial⟩ rfl rfl rfl rfl rfl rfl,by show l.length - (i + 1) < l.length - i;omega⟩
   | true =>
    have hb':=of_decide_eq_true hb
    rw [hb] at hs
    rw [if_pos hb',List.append_nil] at ht
    repeat' (first|refine z0 ?_|apply ds_nil|refine z5 ?_|refine z10 ?_|apply dw_seq2|refine z16 ?_|refine z20 ?_|apply dw_block|apply dw_skip|apply dw_exit|refine z18 ?_|apply thenD_n|apply thenD_e|refine z17 ?_|(apply dt_callV;exact rfl;exact rfl;exact rfl;exact rfl;apply hs;exact rfl;(exact rfl);exact rfl;exact rfl;exact⟨_,rfl⟩;rintro _ rfl)|(refine z23 ?_ ?_ <;> intro hg)|fail)
    all_goals try (exfalso;omega)
    refine ds_loop (ι:=Nat × Nat × List Fct) (fun x=>⟨1,[(0,.row 0),(1,.fn 195 []),(5,.d (.int .i64 x.1)),(6,.rsl 0 2 i ((l.map encFct).length - i)),(7,.d (.int .i64 x.2.1))],[(0,.row 95 2 (x.2.2.map encFct))]⟩)
     (fun x=>x.2.2.length=l.length∧1≤x.2.1∧x.2.1≤l.length - i∧i≤x.1∧x.1 + 1≤i + x.2.1∧x.2.2.take x.1=cmpF (l.take (i + x.2.1))∧∀ p,i + x.2.1≤p + 1→x.2.2[p]? = l[p]?) (fun x=>l.length - i - x.2.1)
     (i,1,l) ⟨rfl,by dsimp only;omega,by dsimp only;omega,by dsimp only;omega,by dsimp only;omega,by rw [ht,g2],fun _ _=>rfl⟩ (ent_ren id ⟨rfl,rfl,rfl,rfl,rfl,trivial⟩ ⟨rfl,trivial⟩ rfl rfl rfl rfl rfl rfl) ?_
    rintro⟨u,k,o⟩ ⟨q1,q2,q3,q4,q5,q6,q7⟩
    dsimp only at q1 q2 q3 q4 q5 q6 q7 ⊢
    have lo:(o.map encFct).length=o.length:=List.length_map _
    clear hs
    by_cases hk:k < l.length - i
    ·have o1:o[i + k]'(by omega)=l[i + k]'(by omega):=by
      have:=q7 (i + k) (by omega)
      rw [List.getElem?_eq_getElem (by omega),List.getElem?_eq_getElem (by omega)] at this
      exact Option.some.inj this
     have o2:o[i + k - 1]'(by omega)=l[i + k - 1]'(by omega):=by
      have:=q7 (i + k - 1) (by omega)
      rw [List.getElem?_eq_getElem (by omega),List.getElem?_eq_getElem (by omega)] at this
      exact Option.some.inj this
     have hs:Fn 195 [elFct (o[i + k]'(by omega)),elFct (o[i + ((k:Int) - 1).toNat]'(by omega))] (fun r=>r = .d (.bool (decide (ordF (l[i + k]'(by omega)) (l[i + k - 1]'(by omega))=0)))):=by
      have e:i + ((k:Int) - 1).toNat=i + k - 1:=by omega
      simp only [e,o1,o2]
      exact rsame_fn _ _
     have hc:=cmpF_take (l:=l) (n:=i + k) (by omega) (by omega)
     cases hb2:decide (ordF (l[i + k]'(by omega)) (l[i + k - 1]'(by omega))=0) with
     | true =>
      have hb3:=of_decide_eq_true hb2
      rw [hb2] at hs
      rw [if_pos hb3,List.append_nil] at hc
      repeat' (first|refine z0 ?_|apply ds_nil|refine z5 ?_|refine z10 ?_|apply dw_seq2|refine z16 ?_|refine z20 ?_|apply dw_block|apply dw_skip|apply dw_exit|refine z19 ?_|apply thenD_n|apply thenD_e|apply inB_n|refine z17 ?_|(apply dt_callV;exact rfl;exact rfl;exact rfl;exact rfl;apply hs;exact rfl;(exact rfl);exact rfl;exact rfl;exact⟨_,rfl⟩;rintro _ rfl)|(refine z23 ?_ ?_ <;> intro hg)|fail)
      all_goals try (exfalso;omega)
      exact⟨(u,k + 1,o),⟨q1,by dsimp only;omega,by dsimp only;omega,by dsimp only;omega,by dsimp only;omega,by dsimp only;rw [q6];exact hc.symm,fun p hp=>q7 p (by dsimp only at hp;omega)⟩,ent_ren id ⟨rfl,rfl,rfl,rfl,rfl,trivial⟩ ⟨rfl,trivial⟩ rfl rfl rfl rfl rfl rfl,by show l.length - i - (k + 1) < l.length - i - k;omega⟩
     | false =>
      have hb3:=of_decide_eq_false hb2
      rw [hb2] at hs
      rw [if_neg hb3] at hc
      repeat' (first|refine z0 ?_|apply ds_nil|(apply ds_stP;exact rfl;exact rfl;(apply hv_get;(omega));exact rfl;exact rfl;(exact hv_set rfl);exact rfl;exact rfl;exact rfl;exact rfl;exact rfl;exact rfl)|refine z5 ?_|refine z10 ?_|apply dw_seq2|refine z16 ?_|refine z20 ?_|apply dw_block|apply dw_skip|apply dw_exit|refine z18 ?_|apply thenD_n|apply thenD_e|apply inB_n|refine z17 ?_|(apply dt_callV;exact rfl;exact rfl;exact rfl;exact rfl;apply hs;exact rfl;(exact rfl);exact rfl;exact rfl;exact⟨_,rfl⟩;rintro _ rfl)|(refine z23 ?_ ?_ <;> intro hg)|fail)
      all_goals try (exfalso;omega)
      refine⟨(u + 1,k + 1,o.set u (o[i + k]'(by omega))),⟨by dsimp only;rw [List.length_set];exact q1,by dsimp only;omega,by dsimp only;omega,by dsimp only;omega,by dsimp only;omega,?_,fun p hp=>?_⟩,ent_ren id ⟨rfl,rfl,rfl,rfl,rfl,trivial⟩ ⟨rfl,trivial⟩ rfl rfl rfl rfl rfl rfl,by show l.length - i - (k + 1) < l.length - i - k;omega⟩
      ·dsimp only
       rw [List.take_succ_eq_append_getElem (by rw [List.length_set];omega),List.getElem_set_self,List.take_set,List.set_eq_of_length_le (by rw [List.length_take];omega),q6,o1]
       exact hc.symm
      ·dsimp only at hp ⊢
       rw [List.getElem?_set_ne (by omega)]
       exact q7 p (by omega)
    ·repeat' (first|refine z0 ?_|apply ds_nil|refine z5 ?_|apply dw_seq2|refine z16 ?_|refine z20 ?_|apply dw_block|apply dw_skip|apply dw_exit|apply thenD_n|apply thenD_e|refine z17 ?_|(refine z23 ?_ ?_ <;> intro hg)|fail)
     all_goals try (exfalso;omega)
     have hke:i + k=l.length:=by omega
     rw [hke,List.take_of_length_le (Nat.le_refl _)] at q6
     refine ds_clear [.int .i64 0,.slice 1 []] rfl rfl rfl rfl ⟨.inl rfl,.inr ⟨rfl,1,rfl⟩,trivial⟩ rfl rfl (by omega) (by omega) (by omega) rfl rfl ?_
     repeat' (first|refine z0 ?_|apply ds_nil|apply dw_seq2|refine z16 ?_|apply thenD_n)
     all_goals try (exfalso;omega)
     refine dw_ent (ent_cut (n:=u) 4 rfl rfl (by simp only [List.length_append,List.length_take,List.length_replicate,List.length_drop];omega) rfl) ?_
     refine dw_ent (ent_seal 4 rfl rfl rfl) ?_
     repeat' (first|apply dw_ret|apply thenD_r|apply inB_r)
     refine⟨.inl rfl,_,rfl,0,[],trivial,rfl,rfl,rfl,rfl,?_,rfl⟩
     refine congrArg (fun z=>SV.d (.slice 2 z)) ?_
     have hu:((o.map encFct).take u).length=u:=by rw [List.length_take];omega
     show List.take u ((o.map encFct).take u++List.replicate _ _++List.drop _ (o.map encFct))=_
     rw [List.append_assoc,List.take_append_of_le_length (by omega),List.take_of_length_le (by omega),← List.map_take,q6]
  ·rw [List.take_of_length_le (by omega)] at g2
   rw [g2]
   repeat' (first|refine z0 ?_|apply ds_nil|refine z5 ?_|apply dw_seq2|refine z16 ?_|refine z20 ?_|apply dw_block|apply dw_skip|apply dw_exit|apply thenD_n|apply thenD_e|refine z17 ?_|(refine z23 ?_ ?_ <;> intro hg)|fail)
   all_goals try (exfalso;omega)
   refine dw_ent (ent_seal 4 rfl rfl rfl) ?_
   repeat' (apply dw_ret)
   exact⟨.inl rfl,_,rfl,0,[],trivial,rfl,rfl,rfl,rfl,rfl,rfl⟩
set_option maxHeartbeats 8000000 in
theorem keep_fn (l:List Fct) (g:FuncId) (caps:List SV) (pr:Fct→Bool) (hlow:SV.lowL 0 caps=true) (hl:l.length≤4398046511104) (hargs:∀ x∈l,x.args.length≤17592186044416) (hg:∀ x∈l,Fn g ([elFct x]++caps) (fun r=>r = .d (.bool (pr x)))) :
  Fn 145 [.d (.slice 2 (l.map encFct)),.fn g caps] (fun r=>∃ s:List Fct,s.Perm (l.filter pr)∧s.Pairwise (fun a b=>ordF b a ≥ 0)∧r = .d (.slice 2 ((cmpF s).map encFct))):=by
 refine fnp_enter' _ Tryz.func145 rfl rfl (by kernel_rfl) ?_
 intro O w0 E0 β0
 have ll:(l.map encFct).length=l.length:=List.length_map _
 have hlows:∀ k,SV.lowL k caps=true:=fun k=>SV.lowL_mono k caps hlow
 repeat' ((fail_if_success (apply dw_stop 0));(first|refine z0 ?_|apply ds_nil|apply dw_seq2|refine z16 ?_|apply dw_block|apply thenD_n))
 refine dw_ent (ent_nilrow (t:=5) 95 2 rfl) ?_
 repeat' fail
 refine ds_loop (ι:=Nat × List Fct) (fun x=>⟨1,[(1,.fn g caps),(5,.row 0),(8,.d (.slice 2 (l.map encFct))),(9,.d (.int .i64 l.length)),(10,.d (.int .i64 x.1))],[(0,.row 95 2 (x.2.map encFct))]⟩)
  (fun x=>x.1≤l.length∧x.2=(l.take x.1).filter pr) (fun x=>l.length - x.1) (0,[]) ⟨Nat.zero_le _,rfl⟩ (ent_ren id ⟨(SV.ren_id _).symm,rfl,rfl,by rw [← ll];rfl,rfl,trivial⟩ ⟨rfl,trivial⟩ (by simp [Sl.low,SV.low,hlows]) rfl rfl rfl rfl rfl) ?_
 rintro⟨i,o⟩ ⟨g1,g2⟩
 dsimp only at g1 g2 ⊢
 have lo:(o.map encFct).length=o.length:=List.length_map _
 have hol:o.length≤i:=by rw [g2];have:=List.length_filter_le pr (l.take i);rw [List.length_take] at this;omega
 by_cases hi:i < l.length
 ·have hm:=List.getElem_mem hi
  have hx:=hg _ hm
  have hw:=own_fn l[i] (hargs _ hm)
  have hll:SV.lowL 0 ([elFct l[i]]++caps)=true:=by simp [SV.lowL,SV.low,hlow]
  have hstep:(l.take (i + 1)).filter pr=o++(if pr l[i] then [l[i]] else []):=by
   rw [List.take_succ_eq_append_getElem hi,List.filter_append,← g2]
   congr 1
   simp [List.filter_cons]
  cases hb:pr l[i] with
  | true =>
   rw [hb] at hx
   rw [hb,if_pos rfl] at hstep
   repeat' (first|refine z0 ?_|apply ds_nil|apply dw_seq2|refine z16 ?_|apply dw_block|apply dw_skip|apply dw_exit|refine z18 ?_|apply thenD_n|apply thenD_e|apply inB_n|refine z17 ?_|(apply ds_callV;exact rfl;exact rfl;exact rfl;exact rfl;apply hx;exact rfl;(assumption);exact rfl;rintro _ rfl)|refine z21 ?_ (hc:=by apply hw)|refine z1 ?_|refine z3 ?_|refine z4 ?_|refine z2 ?_|(refine z23 ?_ ?_ <;> intro hg)|fail)
   all_goals try (exfalso;omega)
   exact⟨(i + 1,o++[l[i]]),⟨by dsimp only;omega,hstep.symm⟩,ent_ren (fun j=>match j with|0=>2|j=>j) ⟨(SV.ren_low0 _ (.fn g caps) hlow).symm,rfl,rfl,rfl,rfl,trivial⟩ ⟨by rw [List.map_append];rfl,trivial⟩ (by simp [Sl.low,SV.low,hlows]) rfl rfl rfl rfl rfl,by show l.length - (i + 1) < l.length - i;omega⟩
  | false =>
   rw [hb] at hx
   rw [hb,if_neg (by simp),List.append_nil] at hstep
   repeat' (first|refine z0 ?_|apply ds_nil|apply dw_seq2|refine z16 ?_|apply dw_block|apply dw_skip|apply dw_exit|refine z19 ?_|apply thenD_n|apply thenD_e|apply inB_n|refine z17 ?_|(apply ds_callV;exact rfl;exact rfl;exact rfl;exact rfl;apply hx;exact rfl;(assumption);exact rfl;rintro _ rfl)|refine z1 ?_|refine z3 ?_|(refine z23 ?_ ?_ <;> intro hg)|fail)
   all_goals try (exfalso;omega)
   exact⟨(i + 1,o),⟨by dsimp only;omega,hstep.symm⟩,ent_ren id ⟨(SV.ren_low0 _ (.fn g caps) hlow).symm,rfl,rfl,rfl,rfl,trivial⟩ ⟨rfl,trivial⟩ (by simp [Sl.low,SV.low,hlows]) rfl rfl rfl rfl rfl,by show l.length - (i + 1) < l.length - i;omega⟩
 ·rw [List.take_of_length_le (by omega)] at g2
  repeat' (first|refine z0 ?_|apply ds_nil|apply dw_seq2|refine z16 ?_|apply dw_block|apply dw_skip|apply dw_exit|apply thenD_n|apply thenD_e|refine z17 ?_|refine z1 ?_|refine z3 ?_|(refine z23 ?_ ?_ <;> intro hg)|fail)
  all_goals try (exfalso;omega)
  refine ds_sort sortFacts_c o (by kernel_rfl) rfl rfl rfl rfl rfl rfl (by omega) ?_
  intro s hp hs
  have hsl:s.length≤4398046511104:=by rw [hp.length_eq];omega
  refine ds_ent (ent_ren (k':=1) (L':=[(5,.row 0)]) (H':=[(0,.row 95 2 (s.map encFct))]) id ⟨rfl,trivial⟩ ⟨rfl,trivial⟩ rfl rfl rfl rfl rfl rfl) ?_
  repeat' (first|refine z0 ?_|apply ds_nil|apply dw_seq2|refine z16 ?_|apply thenD_n)
  all_goals try (exfalso;omega)
  (refine ds_callF id (compact_fn s hsl) rfl rfl rfl rfl ⟨rfl,trivial⟩ rfl rfl rfl rfl rfl rfl ?_ ?_)
  ·rintro k2 r H2 ⟨rfl,rfl⟩;exact⟨rfl,rfl⟩
  rintro k2 r H2 ⟨rfl,rfl⟩
  change DS _ _ _ _ _ _ _ _
  repeat' (first|refine z0 ?_|apply ds_nil|apply dw_ret|apply thenD_n)
  exact⟨.inl rfl,_,rfl,rfl,s,g2▸hp,hs,rfl⟩
def Strict (l:List Fct):Prop:=l.Pairwise fun x y=>ordF x y < 0
theorem lt_irrefl {x:Fct} (h:ordF x x < 0):False:=by rw [ordF_self] at h;omega
theorem lt_asymm {x y:Fct} (h:ordF x y < 0) (g:ordF y x < 0):False:=lt_irrefl (ordF_trans h g)
theorem strict_ext:∀ {a b:List Fct},Strict a→Strict b→(∀ x,x∈a↔x∈b)→a=b
 | [],[],_,_,_=>rfl
 | [],y::b,_,_,h=>by have:=(h y).2 List.mem_cons_self;simp at this
 | x::a,[],_,_,h=>by have:=(h x).1 List.mem_cons_self;simp at this
 | x::a,y::b,ha,hb,h=>by
  obtain⟨a1,a2⟩:=List.pairwise_cons.1 ha
  obtain⟨b1,b2⟩:=List.pairwise_cons.1 hb
  have hxy:x=y:=by
   rcases List.mem_cons.1 ((h x).1 List.mem_cons_self) with h1|h1
   ·exact h1
   ·rcases List.mem_cons.1 ((h y).2 List.mem_cons_self) with h2|h2
    ·exact h2.symm
    ·exact (lt_asymm (b1 x h1) (a1 y h2)).elim
  subst hxy
  rw [strict_ext a2 b2 fun z=>?_]
  constructor
  ·intro hz
   rcases List.mem_cons.1 ((h z).1 (List.mem_cons_of_mem _ hz)) with h1|h1
   ·subst h1;exact (lt_irrefl (a1 z hz)).elim
   ·exact h1
  ·intro hz
   rcases List.mem_cons.1 ((h z).2 (List.mem_cons_of_mem _ hz)) with h1|h1
   ·subst h1;exact (lt_irrefl (b1 z hz)).elim
   ·exact h1
theorem cmpG_spec:∀ (l:List Fct) (p:Fct),(p::l).Pairwise (fun a b=>ordF b a ≥ 0)→Strict (p::cmpG p l)∧∀ x,x∈p::cmpG p l↔x∈p::l
 | [],p,_=>⟨List.pairwise_cons.2 ⟨fun x hx=>by simp [cmpG] at hx,.nil⟩,fun x=>Iff.rfl⟩
 | y::l,p,h=>by
  obtain⟨h1,h2⟩:=List.pairwise_cons.1 h
  obtain⟨i1,i2⟩:=cmpG_spec l y h2
  unfold cmpG
  split
  ·rename_i h3
   have:=ordF_eq0 h3
   subst this
   refine⟨i1,fun x=>(i2 x).trans ⟨fun hx=>List.mem_cons_of_mem _ hx,fun hx=>?_⟩⟩
   rcases List.mem_cons.1 hx with rfl|hx
   ·exact List.mem_cons_self
   ·exact hx
  ·rename_i h3
   have hpy:ordF p y < 0:=by have:=h1 y List.mem_cons_self;rw [ordF_anti];omega
   refine⟨List.pairwise_cons.2 ⟨fun z hz=>?_,i1⟩,fun x=>?_⟩
   ·rcases List.mem_cons.1 hz with rfl|hz
    ·exact hpy
    ·exact ordF_trans hpy ((List.pairwise_cons.1 i1).1 z hz)
   ·rw [List.mem_cons,List.mem_cons (a:=x) (b:=p),i2 x]
theorem cmpF_spec {s:List Fct} (h:s.Pairwise (fun a b=>ordF b a ≥ 0)):Strict (cmpF s)∧∀ x,x∈cmpF s↔x∈s:=by
 match s,h with
 | [],_=>exact⟨.nil,fun _=>Iff.rfl⟩
 | p::l,h=>exact cmpG_spec l p h
theorem kFrom_spec {l:List Fct} {f:Fct}:∀ (n:Nat),n≤l.length→kFrom l f n≤n∧(∀ j (hj:j < l.length),kFrom l f n≤j→j < n→0 < ordF l[j] f)∧(∀ j (hj:j < l.length),j + 1=kFrom l f n→¬ 0 < ordF l[j] f)
 | 0,_=>⟨Nat.le_refl _,fun j _ _ h=>by omega,fun j _ h=>by simp [kFrom] at h⟩
 | n + 1,hn=>by
  obtain⟨i1,i2,i3⟩:=kFrom_spec (l:=l) (f:=f) n (by omega)
  rw [kFrom_succ (by omega)]
  split
  ·rename_i h
   refine⟨by omega,fun j hj h1 h2=>?_,i3⟩
   by_cases hjn:j=n
   ·subst hjn;exact h
   ·exact i2 j hj h1 (by omega)
  ·rename_i h
   refine⟨Nat.le_refl _,fun j hj h1 h2=>by omega,fun j hj h1=>?_⟩
   have:j=n:=by omega
   subst this
   exact h
theorem hasF_iff {l:List Fct} {f:Fct}:hasF l f=true↔f∈l:=by
 unfold hasF
 rw [List.any_eq_true]
 constructor
 ·rintro⟨x,hx,h⟩;rw [← ordF_eq0 (of_decide_eq_true h)];exact hx
 ·intro h;exact⟨f,h,decide_eq_true (ordF_self f)⟩
theorem insF_spec {l:List Fct} {f:Fct} (h:Strict l):Strict (insF l f)∧∀ x,x∈insF l f↔x∈l∨x=f:=by
 unfold insF
 split
 ·rename_i hh
  have:=hasF_iff.1 hh
  exact⟨h,fun x=>⟨.inl,fun hx=>hx.elim id fun e=>e▸this⟩⟩
 ·rename_i hh
  have hf:f ∉ l:=fun hm=>hh (hasF_iff.2 hm)
  obtain⟨k1,k2,k3⟩:=kFrom_spec (l:=l) (f:=f) l.length (Nat.le_refl _)
  generalize kFrom l f l.length=k at k1 k2 k3
  have hpi:=List.pairwise_iff_getElem.1 h
  have hlo:∀ j (hj:j < l.length),j < k→ordF l[j] f < 0:=by
   intro j hj hjk
   have hk1:k - 1 < l.length:=by omega
   have h1:=k3 (k - 1) hk1 (by omega)
   have hne:ordF l[k - 1] f≠0:=fun e=>hf (ordF_eq0 e▸List.getElem_mem hk1)
   have h2:ordF l[k - 1] f < 0:=by omega
   by_cases hjk1:j=k - 1
   ·subst hjk1;exact h2
   ·exact ordF_trans (hpi j (k - 1) hj hk1 (by omega)) h2
  have hhi:∀ j (hj:j < l.length),k≤j→ordF f l[j] < 0:=fun j hj hjk=>by have:=k2 j hj hjk hj;rw [ordF_anti];omega
  have htk:∀ x∈l.take k,ordF x f < 0:=by
   intro x hx
   obtain⟨j,hj,rfl⟩:=List.mem_iff_getElem.1 hx
   rw [List.length_take] at hj
   rw [List.getElem_take]
   exact hlo j (by omega) (by omega)
  have hdk:∀ x∈l.drop k,ordF f x < 0:=by
   intro x hx
   obtain⟨j,hj,rfl⟩:=List.mem_iff_getElem.1 hx
   rw [List.length_drop] at hj
   rw [List.getElem_drop]
   exact hhi (k + j) (by omega) (by omega)
  refine⟨List.pairwise_append.2 ⟨h.sublist (List.take_sublist _ _),List.pairwise_cons.2 ⟨hdk,h.sublist (List.drop_sublist _ _)⟩,fun x hx y hy=>?_⟩,fun x=>?_⟩
  ·rcases List.mem_cons.1 hy with rfl|hy
   ·exact htk x hx
   ·exact ordF_trans (htk x hx) (hdk y hy)
  ·rw [List.mem_append,List.mem_cons]
   constructor
   ·rintro (hx|rfl|hx)
    ·exact .inl (List.mem_of_mem_take hx)
    ·exact .inr rfl
    ·exact .inl (List.mem_of_mem_drop hx)
   ·rintro (hx|rfl)
    ·have:=hx
     rw [← List.take_append_drop k l] at this
     rcases List.mem_append.1 this with h1|h1
     ·exact .inl h1
     ·exact .inr (.inr h1)
    ·exact .inr (.inl rfl)
theorem setF_spec':∀ (l o:List Fct),Strict o→Strict (l.foldl insF o)∧∀ x,x∈l.foldl insF o↔x∈o∨x∈l
 | [],o,h=>⟨h,fun x=>by simp⟩
 | y::l,o,h=>by
  obtain⟨i1,i2⟩:=insF_spec (f:=y) h
  obtain⟨j1,j2⟩:=setF_spec' l (insF o y) i1
  refine⟨j1,fun x=>?_⟩
  rw [List.foldl_cons,j2,i2,List.mem_cons,or_assoc]
theorem setF_spec (l:List Fct):Strict (setF' l)∧∀ x,x∈setF' l↔x∈l:=by
 obtain⟨h1,h2⟩:=setF_spec' l [] .nil
 exact⟨h1,fun x=>(h2 x).trans (by simp)⟩
theorem keep_set {s l:List Fct} (hp:s.Perm l) (hs:s.Pairwise (fun a b=>ordF b a ≥ 0)):cmpF s=setF' l :=
 strict_ext (cmpF_spec hs).1 (setF_spec l).1 fun x=>by rw [(cmpF_spec hs).2,(setF_spec l).2,hp.mem_iff]
theorem half_u64 (i j:Nat) (h:i + j≤9223372036854775807):shrN .u64 (IntKind.u64.wrap ((i:Int) + j)) 1=(((i + j) / 2:Nat):Int):=by
 have hw:IntKind.u64.wrap ((i:Int) + j)=(i:Int) + j:=by simp [IntKind.wrap,IntKind.bits,IntKind.signed];omega
 rw [hw]
 unfold shrN
 rw [show (2:Int) ^ min (1:Int).toNat IntKind.u64.bits=2 from by decide,Int.fdiv_eq_ediv_of_nonneg _ (by decide)]
 omega
end Go.Proofs.YtapciiffpnociabGreat
namespace Go.Proofs.YtapciiffpnociabGreat
open Go Go.RowKit
def Kepts (L:Sl):Sl→Prop
 | []=>True
 | (t,s)::r=>Sl.get L t=s∧Kepts L r
def params:List Nat→List SV→Sl→Sl
 | p::ps,s::ss,L=>params ps ss ((p,s)::L)
 | _,_,L=>L
theorem Heap.widen {Γ:Ctx} {k:Nat→Prop} {H:Hp} {e:Env} {w:World} {l:Nat} (h:Heap Γ k H e w) (hl:¬ Γ.O l):Heap ⟨Γ.P,Γ.τ,Γ.τok,Γ.O,Γ.w0,fun b=>Γ.E0 b∨b=l,Γ.n,Γ.J,Γ.β0,Γ.rd,Γ.pan,Γ.mks,Γ.dr⟩ k H e w where
 top:=h.top
 heap:=h.heap
 ids:=h.ids
 nodup:=h.nodup
 mine b hb:=⟨(h.mine b hb).1.imp .inl id,(h.mine b hb).2⟩
 os:=h.os
 tape:=h.tape
 output:=h.output
 drawn:=h.drawn
 size:=h.size
 block b h1 h2:=h.block b h1 fun h=>h2 (.inl h)
 obound b hb:=⟨(h.obound b hb).1,fun hx=>hx.elim (h.obound b hb).2 fun hx=>hl (hx▸hb)⟩
 jle:=h.jle
 anchor:=h.anchor
end Go.Proofs.YtapciiffpnociabGreat
namespace Go.Proofs.YtapciiffpnociabGreat
open Go Go.RowKit
def SV.flat:SV→Bool
 | .val _=>true
 | .junk=>true
 | .d (.int _ _)=>true
 | .d (.bool _)=>true
 | _=>false
theorem Rel.flat {X e w X' e' w'}:∀ (s:SV) (v:Value),s.flat=true→Rel X e w s v→Rel X' e' w' s v
 | .val _,_,_,h=>h
 | .junk,_,_,_=>trivial
 | .d (.int _ _),_,_,h=>by
  have h':RepC _ _ _ _:=h
  cases h' with
  | int g=>exact RepC.int g
 | .d (.bool _),_,_,h=>by
  have h:RepC _ _ _ _:=h
  cases h
  exact RepC.bool
 | .d (.str _),_,h,_=>nomatch h
 | .d (.slice _ _),_,h,_=>nomatch h
 | .nils,_,h,_=>nomatch h
 | .pd _,_,h,_=>nomatch h
 | .loc _ _,_,h,_=>nomatch h
 | .row _,_,h,_=>nomatch h
 | .mp _,_,h,_=>nomatch h
 | .md _ _,_,h,_=>nomatch h
 | .prow _ _ _ _,_,h,_=>nomatch h
 | .sl _ _ _ _,_,h,_=>nomatch h
 | .rsl _ _ _ _,_,h,_=>nomatch h
 | .fn _ _,_,h,_=>nomatch h
 | .agg _,_,h,_=>nomatch h
 | .tup _,_,h,_=>nomatch h
def flatB:Sl→Bool
 | []=>true
 | (_,s)::r=>s.flat && flatB r
theorem flat_get:∀ {L:Sl},flatB L=true→∀ t,(L.get t).flat=true
 | [],_,_=>rfl
 | (d,s)::r,h,t=>by
  simp only [flatB,Bool.and_eq_true] at h
  rw [Sl.get_cons]
  split
  ·exact h.1
  ·exact flat_get h.2 t
theorem kepts_get {L:Sl}:∀ {L':Sl},Kepts L L'→∀ t,L'.get t = .junk∨L'.get t=L.get t
 | [],_,_=>.inl rfl
 | (d,s)::r,h,t=>by
  rw [Sl.get_cons]
  split
  ·rename_i hd;subst hd;exact .inr h.1.symm
  ·exact kepts_get h.2 t
structure Flat (N:Nat) (L:Sl) (a:Act):Prop where
 len:a.tmps.size=N
 defers:a.defers=[]
 slot:∀ t X e w,Rel X e w (L.get t) (a.tmps.getD t undef)
abbrev Γit (P:Program) (τ:List (Nat × TI)) (τok:TabOk P τ) (O:Nat→Prop) (W:World) (N:Nat):Ctx:=⟨P,τ,τok,O,W,fun _=>False,N,0,fun _=>(0,undef),none,noPan,false,false⟩
section
variable {P : Program} {τ : List (Nat × TI)} {τok : TabOk P τ} {O : Nat → Prop} {N : Nat} {L : Sl}
theorem Models.flatten {W:World} {k:Nat→Prop} {H:Hp} {e:Env} {a:Act} {w:World} (m:Models (Γit P τ τok O W N) k L H e a w) {Ls:Sl} (hK:Kepts L Ls) (hf:flatB Ls=true):Flat N Ls a where
 len:=m.len
 defers:=by
  obtain⟨rs,h1,h0,_⟩:=m.defers
  rw [h1,h0 rfl];rfl
 slot t X e' w':=by
  have hg:=flat_get hf t
  rcases kepts_get hK t with h|h
  ·rw [h];trivial
  ·rw [h] at hg ⊢;exact Rel.flat _ _ hg (m.slot t)
end
section
variable {Γ : Ctx} {k : Nat} {L : Sl} {H : Hp} {K : Next'} {ops : List Oper} {rest : List Oper} {x y : Operand} {t ty : TypeId}
end
section
variable {Γ : Ctx} {k : Nat} {L : Sl} {H : Hp} {R : Exit → Act → World → Prop}
end
section
variable {Γ : Ctx} {k : Nat} {L : Sl} {H : Hp} {R : Exit → Act → World → Prop}
end
theorem FnP.imp {dr:Bool} {P:Program} {τ:List (Nat × TI)} {τok:TabOk P τ} {f:FuncId} {args:List SV} {R R':SV→Prop} (h:FnP dr P τ τok f args R) (g:∀ r,R r→R' r):FnP dr P τ τok f args R' :=
 ⟨h.1,fun O e w vs hH hr=>(h.2 O e w vs hH hr).mono fun _ _ ⟨k',r,H',e',v,⟨a,b,c⟩,d⟩=>⟨k',r,H',e',v,⟨a,b,g r c⟩,d⟩⟩
attribute [local irreducible] DW DS DL DQ Ev FnOk FnP thenD inBlockD DT
theorem keepS_fn (l:List Fct) (g:FuncId) (caps:List SV) (pr:Fct→Bool) (hlow:SV.lowL 0 caps=true) (hl:l.length≤4398046511104) (hargs:∀ x∈l,x.args.length≤17592186044416) (hg:∀ x∈l,Fn g ([elFct x]++caps) (fun r=>r = .d (.bool (pr x)))) :
  Fn 145 [.d (.slice 2 (l.map encFct)),.fn g caps] (fun r=>r = .d (.slice 2 ((setF' (l.filter pr)).map encFct))) :=
 FnP.imp (keep_fn l g caps pr hlow hl hargs hg) fun r ⟨s,h1,h2,h3⟩=>by rw [h3,keep_set h1 h2]
set_option maxHeartbeats 8000000 in
theorem set_fn (l:List Fct) (hl:l.length≤4398046511104) (hargs:∀ x∈l,x.args.length≤17592186044416):Fn 97 [.d (.slice 2 (l.map encFct))] (fun r=>r = .d (.slice 2 ((setF' l).map encFct))):=by
 refine fnp_enter' _ Tryz.func97 rfl rfl (by kernel_rfl) ?_
 intro O w0 E0 β0
 have hk:=keepS_fn l 146 [] (fun _=>true) rfl hl hargs (fun x _=>setAny_fn x)
 rw [show l.filter (fun _=>true)=l from List.filter_eq_self.2 fun _ _=>rfl] at hk
 repeat' (first|refine z0 ?_|apply ds_nil|apply dw_seq2|refine z16 ?_|apply dw_ret|apply thenD_n|refine z21 ?_ (hc:=by apply hk)|fail)
 exact⟨.inl rfl,_,rfl,rfl,rfl⟩




theorem ent_freezeL {Γ:Ctx} {k:Nat} {L:Sl} {H:Hp} (t i:Nat) {ty:TypeId} {ds:List D} (hL:L.get t = .loc i 0) (hH:Hp.get H i=some (.blk ty (ds.map .d))):Ent Γ k L H k ((t,.pd ds)::L) (Hp.del H i):=by
 intro e a w m
 obtain⟨m2,hX⟩:=m.del i
 have hmem:=Hp.mem_of hH
 refine⟨e,m2.toHeap,m2.defers,m2.len,fun t'=>?_⟩
 rw [Sl.get_cons]
 split
 ·rename_i ht
  subst ht
  have hs:=m.slot t
  rw [hL] at hs
  obtain⟨_,hv⟩:=hs
  obtain⟨us,g1,g2,_⟩:=(m.heap _ hmem).2
  have hown:HB.owned e (i,.blk ty (ds.map .d))=some (e.β i):=rfl
  refine⟨e.β i,0,hv,lt_of_heap g1,fun hx=>?_,fun j hj=>?_⟩
  ·rcases hx with hx|hx
   ·exact (m.mine _ (List.mem_filterMap.2 ⟨_,hmem,hown⟩)).2 hx
   ·obtain⟨p,hp,hpg⟩:=List.mem_filterMap.1 hx
    have hd:=Hp.del_mem (i:=i) H m.ids p hp
    exact m.owned_ne hd.1 hmem hd.2 hpg hown
  ·obtain⟨u,g3,g4⟩:=RelL.get _ _ g2 j (.d ds[j]) (by rw [List.getElem?_map,List.getElem?_eq_getElem hj];rfl)
   refine⟨u,?_,RepC.keep (Nat.le_refl _) (fun _ _ _=>rfl) (fun b _ h=>hX b h) g4⟩
   rw [cell_of_row w _ _ _ ty (0,0) g1,Nat.zero_add];simpa using g3
 ·exact m2.slot t'
def posU (l:List Upd) (i:UId):Nat:=l.countP fun u=>decide (ordId u.id i < 0)
theorem posU_at {l:List Upd} {i:UId} {n:Nat} (hn:n≤l.length) (h1:∀ p (hp:p < l.length),p < n→ordId l[p].id i < 0) (h2:∀ p (hp:p < l.length),n≤p→0≤ordId l[p].id i):posU l i=n:=by
 unfold posU
 rw [← List.take_append_drop n l,List.countP_append]
 have e1:(l.take n).countP (fun u=>decide (ordId u.id i < 0))=(l.take n).length:=List.countP_eq_length.2 fun u hu=>by
  obtain⟨p,hp,rfl⟩:=List.mem_iff_getElem.1 hu
  rw [List.length_take] at hp
  rw [List.getElem_take]
  exact decide_eq_true (h1 p (by omega) (by omega))
 have e2:(l.drop n).countP (fun u=>decide (ordId u.id i < 0))=0:=List.countP_eq_zero.2 fun u hu=>by
  obtain⟨p,hp,rfl⟩:=List.mem_iff_getElem.1 hu
  rw [List.length_drop] at hp
  rw [List.getElem_drop]
  have:=h2 (n + p) (by omega) (by omega)
  simp only [decide_eq_true_eq]
  omega
 rw [e1,e2,List.length_take]
 omega
theorem strU_below {l:List Upd} {i:UId} {h:Nat} (hs:StrU l) (hml:h < l.length) (hg:ordId l[h].id i < 0):∀ p (hp:p < l.length),p < h + 1→ordId l[p].id i < 0:=by
 intro p hp hlt
 by_cases he:p=h
 ·subst he;exact hg
 ·exact ordId_trans (List.pairwise_iff_getElem.1 hs p h hp hml (by omega)) hg
theorem strU_above {l:List Upd} {i:UId} {h:Nat} (hs:StrU l) (hml:h < l.length) (hg:0≤ordId l[h].id i):∀ p (hp:p < l.length),h≤p→0≤ordId l[p].id i:=by
 intro p hp hlt
 by_cases he:p=h
 ·subst he;exact hg
 ·have h1:=List.pairwise_iff_getElem.1 hs h p hml hp (by omega)
  apply Classical.byContradiction
  intro hc
  have h3:=ordId_trans h1 (by omega:ordId l[p].id i < 0)
  omega
theorem foundU_at {l:List Upd} {i:UId} {n:Nat} (hs:StrU l) (h1:∀ p (hp:p < l.length),p < n→ordId l[p].id i < 0) (h2:∀ p (hp:p < l.length),n≤p→0≤ordId l[p].id i):hasU l i=(if h:n < l.length then decide (ordId l[n].id i=0) else false):=by
 rw [Bool.eq_iff_iff,hasU_iff]
 have hpi:=List.pairwise_iff_getElem.1 hs
 constructor
 ·rintro⟨u,hu,rfl⟩
  obtain⟨p,hp,rfl⟩:=List.mem_iff_getElem.1 hu
  have hpi':¬ p < n:=fun h=>ordId_irr (h1 p hp h)
  rw [dif_pos (by omega)]
  by_cases he:p=n
  ·subst he;exact decide_eq_true (ordId_self _)
  ·have:=hpi n p (by omega) hp (by omega)
   have:=h2 n (by omega) (Nat.le_refl _)
   omega
 ·intro h
  split at h
  ·rename_i hi
   exact⟨_,List.getElem_mem hi,ordId_eq (of_decide_eq_true h)⟩
  ·cases h
set_option maxHeartbeats 8000000 in
theorem dorder_fn (a b:Upd):Fn 87 [elUpd a,elUpd b] (fun r=>r = .d (.int .i64 (ordId a.id b.id))):=by
 refine fnp_enter' _ Tryz.func87 rfl rfl (by kernel_rfl) ?_
 intro O w0 E0 β0
 have w:=order_fn a.id b.id
 repeat' (first|refine z0 ?_|apply ds_nil|apply dw_seq2|refine z16 ?_|apply dw_ret|apply thenD_n|refine z21 ?_ (hc:=by apply w)|refine z1 ?_|fail)
 exact ret_i rfl rfl
set_option maxHeartbeats 8000000 in
theorem at1_fn (u:Upd) (i:UId):Fn 179 [elUpd u,elId i] (fun r=>r = .d (.int .i64 (ordId u.id i))):=by
 refine fnp_enter' _ Tryz.func179 rfl rfl (by kernel_rfl) ?_
 intro O w0 E0 β0
 have w:=order_fn u.id i
 repeat' (first|refine z0 ?_|apply ds_nil|apply dw_seq2|refine z16 ?_|apply dw_ret|apply thenD_n|refine z21 ?_ (hc:=by apply w)|refine z1 ?_|fail)
 exact ret_i rfl rfl
set_option maxHeartbeats 8000000 in
theorem bsearchU_fn (l:List Upd) (f:UId) (hl:l.length≤1000000) (hs:StrU l):Fn 178 [.d (.slice 5 (l.map encUpd)),elId f,.fn 179 []] (fun r=>r = .tup [.d (.int .i64 (posU l f)),.d (.bool (hasU l f))]):=by
 refine fnp_enter' _ Tryz.func178 rfl rfl (by kernel_rfl) ?_
 intro O w0 E0 β0
 have ll:(l.map encUpd).length=l.length:=List.length_map _
 repeat' (first|refine z0 ?_|apply ds_nil|apply dw_seq2|refine z16 ?_|apply dw_block|apply thenD_n|refine z1 ?_|fail)
 refine ds_loop (ι:=Nat × Nat) (fun x=>⟨1,[(0,.d (.slice 5 (l.map encUpd))),(2,.fn 179 []),(4,.loc 0 0),(8,.d (.int .i64 l.length)),(9,.d (.int .i64 x.1)),(10,.d (.int .i64 x.2))],[(0,.blk 31 [.d (.int .i64 f.author),.d (.int .i64 f.number)])]⟩)
  (fun x=>x.1≤x.2∧x.2≤l.length∧(∀ p (hp:p < l.length),p < x.1→ordId l[p].id f < 0)∧(∀ p (hp:p < l.length),x.2≤p→0≤ordId l[p].id f)) (fun x=>x.2 - x.1)
  (0,l.length) ⟨Nat.zero_le _,Nat.le_refl _,fun p _ h=>absurd h (Nat.not_lt_zero p),fun p hp h=>by omega⟩ (ent_ren id ⟨rfl,rfl,rfl,by rw [← ll];rfl,rfl,by rw [← ll];rfl,trivial⟩ ⟨rfl,trivial⟩ rfl rfl rfl rfl rfl rfl) ?_
 rintro⟨i,j⟩ ⟨g1,g2,g3,g4⟩
 dsimp only at g1 g2 g3 g4 ⊢
 by_cases hij:i < j
 ·have he:=half_u64 i j (by omega)
  have hm1:i≤(i + j) / 2:=by omega
  have hm2:(i + j) / 2 < j:=by omega
  have hml:(i + j) / 2 < l.length:=by omega
  have hw:=at1_fn (l[(i + j) / 2]'hml) f
  repeat' ((fail_if_success (apply dw_stopS 5));(first|refine z0 ?_|apply ds_nil|refine z5 ?_|refine z14 ?_|refine z10 ?_|apply dw_seq2|refine z16 ?_|refine z20 ?_|apply dw_block|apply dw_skip|apply dw_exit|apply dw_ret|apply thenD_n|apply thenD_e|refine z17 ?_|(refine z23 ?_ ?_ <;> intro hg)|((fail_if_success (apply dt_known;exact rfl));apply dt_guardP;exact rfl;exact rfl;exact rfl;all_goals intro hg)))
  all_goals try (exfalso;omega)
  refine dw_ent (k':=1) (L':=[(11,.d (.int .i64 (((i + j) / 2:Nat):Int))),(0,.d (.slice 5 (l.map encUpd))),(2,.fn 179 []),(4,.loc 0 0),(8,.d (.int .i64 l.length)),(9,.d (.int .i64 i)),(10,.d (.int .i64 j))]) (H':=[(0,.blk 31 [.d (.int .i64 f.author),.d (.int .i64 f.number)])]) ?_ ?_
  ·rw [← he]
   exact ent_ren id ⟨rfl,rfl,rfl,rfl,rfl,rfl,rfl,trivial⟩ ⟨rfl,trivial⟩ rfl rfl rfl rfl rfl rfl
  generalize (i + j) / 2=h at *
  repeat' (first|refine z0 ?_|apply ds_nil|refine z5 ?_|refine z10 ?_|apply dw_seq2|refine z16 ?_|refine z20 ?_|apply thenD_n|apply inB_n|(apply dt_callV;exact rfl;exact rfl;exact rfl;exact rfl;apply hw;exact rfl;(exact rfl);exact rfl;exact rfl;exact⟨_,rfl⟩;rintro _ rfl)|(refine z23 ?_ ?_ <;> intro hg)|fail)
  all_goals try (exfalso;omega)
  all_goals first
   | exact⟨(h + 1,j),⟨by dsimp only;omega,g2,strU_below hs hml hg,g4⟩,ent_ren id ⟨rfl,rfl,rfl,rfl,rfl,rfl,trivial⟩ ⟨rfl,trivial⟩ rfl rfl rfl rfl rfl rfl,by show j - (h + 1) < j - i;omega⟩
   | exact⟨(i,h),⟨hm1,by dsimp only;omega,g3,strU_above hs hml (Int.not_lt.1 hg)⟩,ent_ren id ⟨rfl,rfl,rfl,rfl,rfl,rfl,trivial⟩ ⟨rfl,trivial⟩ rfl rfl rfl rfl rfl rfl,by show h - i < j - i;omega⟩
 ·have hij':i=j:=by omega
  subst hij'
  have hf:=foundU_at hs g3 g4
  rw [posU_at g2 g3 g4]
  by_cases hil:i < l.length
  ·rw [dif_pos hil] at hf
   have hw:=at1_fn l[i] f
   rw [hf]
   repeat' (first|refine z0 ?_|apply ds_nil|refine z5 ?_|refine z14 ?_|refine z10 ?_|apply dw_seq2|refine z16 ?_|refine z20 ?_|apply dw_block|apply dw_skip|apply dw_exit|apply dw_ret|apply thenD_n|apply thenD_e|refine z17 ?_|(apply dt_callV;exact rfl;exact rfl;exact rfl;exact rfl;apply hw;exact rfl;(exact rfl);exact rfl;exact rfl;exact⟨_,rfl⟩;rintro _ rfl)|(refine z23 ?_ ?_ <;> intro hg)|((fail_if_success (apply dt_known;exact rfl));apply dt_guardP;exact rfl;exact rfl;exact rfl;all_goals intro hg))
   all_goals try (exfalso;omega)
   all_goals exact⟨.inl rfl,_,rfl,rfl,rfl⟩
  ·rw [dif_neg hil] at hf
   rw [hf]
   repeat' (first|refine z0 ?_|apply ds_nil|refine z5 ?_|refine z14 ?_|refine z10 ?_|apply dw_seq2|refine z16 ?_|refine z20 ?_|apply dw_block|apply dw_skip|apply dw_exit|apply dw_ret|apply thenD_n|apply thenD_e|refine z17 ?_|(refine z23 ?_ ?_ <;> intro hg)|((fail_if_success (apply dt_known;exact rfl));apply dt_guardP;exact rfl;exact rfl;exact rfl;all_goals intro hg))
   all_goals try (exfalso;omega)
   exact⟨.inl rfl,_,rfl,rfl,rfl⟩
set_option maxHeartbeats 8000000 in
theorem at_fn (l:List Upd) (i:UId) (hl:l.length≤1000000) (hs:StrU l):Fn 135 [.d (.slice 5 (l.map encUpd)),elId i] (fun r=>r = .tup [.d (.int .i64 (posU l i)),.d (.bool (hasU l i))]):=by
 refine fnp_enter' _ Tryz.func135 rfl rfl (by kernel_rfl) ?_
 intro O w0 E0 β0
 have w:=bsearchU_fn l i hl hs
 repeat' (first|refine z0 ?_|apply ds_nil|apply dw_seq2|refine z16 ?_|apply dw_ret|apply thenD_n|refine z21 ?_ (hc:=by apply w)|refine z1 ?_|fail)
 exact⟨.inl rfl,_,rfl,rfl,rfl⟩
set_option maxHeartbeats 8000000 in
theorem dhas_fn (l:List Upd) (i:UId) (hl:l.length≤1000000) (hs:StrU l):Fn 90 [.d (.slice 5 (l.map encUpd)),elId i] (fun r=>r = .d (.bool (hasU l i))):=by
 refine fnp_enter' _ Tryz.func90 rfl rfl (by kernel_rfl) ?_
 intro O w0 E0 β0
 have w:=at_fn l i hl hs
 repeat' (first|refine z0 ?_|apply ds_nil|apply dw_seq2|refine z16 ?_|apply dw_ret|apply thenD_n|refine z21 ?_ (hc:=by apply w)|refine z1 ?_|fail)
 exact ret_b rfl rfl
set_option maxHeartbeats 8000000 in
theorem growId_fn (n:Nat) (hn:n≤1000000):FnOk false Tryz.prog tab tab_ok 214 [.nils,.d (.int .i64 n)] 0 0 [] (fun _ r H=>r = .row 0∧H=[(0,.row 31 2 [])]):=by
 refine fn_enterR _ Tryz.func214 rfl rfl (by kernel_rfl) ?_
 intro O w0 E0 β0
 by_cases h0:n=0
 ·subst h0
  repeat' (first|refine z0 ?_|apply ds_nil|apply dw_seq2|refine z16 ?_|apply dw_skip|refine z19 ?_|apply thenD_n)
  all_goals try (exfalso;omega)
  refine ds_ev (ev_cap_nils rfl rfl) rfl rfl ?_
  repeat' (first|refine z0 ?_|apply ds_nil|apply dw_seq2|refine z16 ?_|apply dw_skip|refine z19 ?_|apply thenD_n)
  all_goals try (exfalso;omega)
  refine dw_ent (ent_nilrow (t:=4) 31 2 rfl) ?_
  repeat' (apply dw_ret)
  exact⟨.inl rfl,_,rfl,id,1,.row 0,[(0,.row 31 2 [])],rfl,⟨rfl,trivial⟩,rfl,rfl,rfl,rfl,rfl,rfl,rfl,rfl⟩
 ·repeat' (first|refine z0 ?_|apply ds_nil|apply dw_seq2|refine z16 ?_|apply dw_skip|refine z19 ?_|apply thenD_n)
  all_goals try (exfalso;omega)
  refine ds_ev (ev_cap_nils rfl rfl) rfl rfl ?_
  repeat' (first|refine z0 ?_|apply ds_nil|apply dw_seq2|refine z16 ?_|apply dw_skip|apply dw_ret|apply thenD_n|(refine z23 ?_ ?_ <;> intro hg)|fail)
  all_goals try (exfalso;omega)
  refine ds_ev (ev_cap_nils rfl rfl) rfl rfl ?_
  repeat' refine z0 ?_
  all_goals try (exfalso;omega)
  refine ds_apmk (n:=n) (es:=2) (te:=31) [.int .i64 0,.int .i64 0] rfl rfl (by omega) rfl rfl rfl rfl ⟨.inl rfl,.inl rfl,trivial⟩ rfl rfl (by omega) (by omega) ?_ (by unfold maxLen;omega) rfl rfl ?_
  ·show n * 16≤_
   omega
  repeat' (first|refine z0 ?_|apply ds_nil|apply dw_seq2|refine z16 ?_|apply thenD_n)
  all_goals try (exfalso;omega)
  refine dw_ent (ent_cut (n:=0) 4 rfl rfl (Nat.zero_le _) rfl) ?_
  repeat' (apply dw_ret)
  exact⟨.inl rfl,_,rfl,fun j=>match j with|0=>1|j=>j,1,.row 0,[(0,.row 31 2 [])],rfl,⟨rfl,trivial⟩,rfl,rfl,rfl,rfl,rfl,rfl,rfl,rfl⟩
set_option maxHeartbeats 8000000 in
theorem concatId_fn (ls:List (List (UId))) (h:(ls.map List.length).sum≤1000000) (h2:ls.length≤1000000):Fn 180 [.d (.slice 1 (ls.map fun l=>[.slice 2 (l.map encId)]))] (fun r=>r = .d (.slice 2 (ls.flatten.map encId))):=by
 refine fnp_enter' _ Tryz.func180 rfl rfl (by kernel_rfl) ?_
 intro O w0 E0 β0
 have ll:(ls.map fun l=>[D.slice 2 (l.map encId)]).length=ls.length:=List.length_map _
 repeat' (first|refine z0 ?_|apply ds_nil|apply dw_seq2|refine z16 ?_|apply dw_block|apply thenD_n)
 refine ds_loop (ι:=Nat) (fun i=>⟨0,[(0,.d (.slice 1 (ls.map fun l=>[.slice 2 (l.map encId)]))),(3,.d (.int .i64 (((ls.take i).map List.length).sum:Nat))),(9,.d (.slice 1 (ls.map fun l=>[.slice 2 (l.map encId)]))),(10,.d (.int .i64 ls.length)),(11,.d (.int .i64 i))],[]⟩)
  (fun i=>i≤ls.length) (fun i=>ls.length - i) 0 (Nat.zero_le _) (ent_ren id ⟨rfl,rfl,rfl,by rw [← ll];rfl,rfl,trivial⟩ trivial rfl rfl rfl rfl rfl rfl) ?_
 intro i g1
 by_cases hi:i < ls.length
 ·have h3:=sum_takeL hi
  have h4:=sum_leL ls (i + 1)
  have h5:(ls[i].map encId).length=ls[i].length:=List.length_map _
  repeat' (first|refine z0 ?_|apply ds_nil|apply dw_seq2|refine z16 ?_|apply dw_block|apply dw_skip|apply dw_exit|refine z19 ?_|apply thenD_n|apply thenD_e|apply inB_n|refine z17 ?_|(refine z23 ?_ ?_ <;> intro hg)|fail)
  all_goals try (exfalso;omega)
  exact⟨i + 1,by omega,ent_ren id ⟨rfl,congrArg (fun z=>SV.d (.int .i64 z)) (by rw [h3,h5];omega),rfl,rfl,rfl,trivial⟩ trivial rfl rfl rfl rfl rfl rfl,by omega⟩
 ·rw [List.take_of_length_le (by omega)]
  repeat' (first|refine z0 ?_|apply ds_nil|apply dw_seq2|refine z16 ?_|apply dw_block|apply dw_skip|apply dw_exit|refine z19 ?_|apply thenD_n|apply thenD_e|apply inB_n|refine z17 ?_|(refine z23 ?_ ?_ <;> intro hg)|fail)
  all_goals try (exfalso;omega)
  refine ds_callF id (growId_fn (ls.map List.length).sum h) rfl rfl rfl rfl trivial rfl rfl rfl rfl rfl rfl ?_ ?_
  ·rintro k2 r H2 ⟨rfl,rfl⟩;exact⟨rfl,rfl⟩
  rintro k2 r H2 ⟨rfl,rfl⟩
  change DS _ _ _ _ _ _ _ _
  repeat' (first|refine z0 ?_|apply ds_nil|apply dw_seq2|refine z16 ?_|apply dw_block|apply thenD_n)
  refine ds_loop (ι:=Nat) (fun i=>⟨1,[(6,.row 0),(25,.d (.slice 1 (ls.map fun l=>[.slice 2 (l.map encId)]))),(26,.d (.int .i64 ls.length)),(27,.d (.int .i64 i))],[(0,.row 31 2 ((ls.take i).flatten.map encId))]⟩)
   (fun i=>i≤ls.length) (fun i=>ls.length - i) 0 (Nat.zero_le _) (ent_ren id ⟨rfl,rfl,by rw [← ll];rfl,rfl,trivial⟩ ⟨rfl,trivial⟩ rfl rfl rfl rfl rfl rfl) ?_
  clear hi g1
  intro i g1
  by_cases hi:i < ls.length
  ·have h3:=sum_takeL hi
   have h4:=sum_leL ls (i + 1)
   have h5:(ls[i].map encId).length=ls[i].length:=List.length_map _
   have h6:((ls.take i).flatten.map encId).length=((ls.take i).map List.length).sum:=by rw [List.length_map,List.length_flatten]
   have h7:(ls.take (i + 1)).flatten=(ls.take i).flatten++ls[i]:=by rw [List.take_succ_eq_append_getElem hi,List.flatten_append];simp
   repeat' (first|refine z0 ?_|apply ds_nil|apply dw_seq2|refine z16 ?_|apply dw_block|apply dw_skip|apply dw_exit|apply dw_ret|apply thenD_n|apply thenD_e|apply inB_n|refine z17 ?_|refine z2 ?_|(refine z23 ?_ ?_ <;> intro hg)|fail)
   all_goals try (exfalso;omega)
   exact⟨i + 1,by omega,ent_ren (fun _=>1) ⟨rfl,rfl,rfl,rfl,trivial⟩ ⟨by rw [h7,List.map_append];rfl,trivial⟩ rfl rfl rfl rfl rfl rfl,by omega⟩
  ·rw [List.take_of_length_le (by omega)]
   repeat' (first|refine z0 ?_|apply ds_nil|apply dw_seq2|refine z16 ?_|apply dw_block|apply dw_skip|apply dw_exit|apply thenD_n|apply thenD_e|apply inB_n|refine z17 ?_|refine z2 ?_|(refine z23 ?_ ?_ <;> intro hg)|fail)
   all_goals try (exfalso;omega)
   refine dw_ent (ent_seal 2 rfl rfl rfl) ?_
   repeat' (apply dw_ret)
   exact⟨.inl rfl,_,rfl,rfl,rfl⟩
set_option maxHeartbeats 8000000 in
theorem under_fn (u:Upd) (h:u.parents.length + u.takes.length≤1000000):Fn 136 [elUpd u] (fun r=>r = .d (.slice 2 ((underU u).map encId))):=by
 refine fnp_enter' _ Tryz.func136 rfl rfl (by kernel_rfl) ?_
 intro O w0 E0 β0
 have hc:Fn 180 [.d (.slice 1 [[.slice 2 (u.parents.map encId)],[.slice 2 (u.takes.map encId)]])] (fun r=>r = .d (.slice 2 ((underU u).map encId))):=by
  have h:=concatId_fn [u.parents,u.takes] (by simpa using h) (by simp)
  rw [show [u.parents,u.takes].flatten=underU u by simp [underU]] at h
  exact h
 repeat' (first|refine z0 ?_|apply ds_nil|apply dw_seq2|refine z16 ?_|apply dw_ret|apply thenD_n|refine z21 ?_ (hc:=by apply hc)|refine z1 ?_|refine z4 ?_|fail)
 exact⟨.inl rfl,_,rfl,rfl,rfl⟩
set_option maxHeartbeats 8000000 in
theorem ready1_fn (l:List Upd) (i:UId) (hl:l.length≤1000000) (hs:StrU l):Fn 137 ([elId i]++[.pd [.slice 5 (l.map encUpd)]]) (fun r=>r = .d (.bool (!hasU l i))):=by
 refine fnp_enter' _ Tryz.func137 rfl rfl (by kernel_rfl) ?_
 intro O w0 E0 β0
 have w:=dhas_fn l i hl hs
 repeat' (first|refine z0 ?_|apply ds_nil|apply dw_seq2|refine z16 ?_|apply dw_ret|apply thenD_n|refine z21 ?_ (hc:=by apply w)|refine z1 ?_|fail)
 exact ret_b rfl rfl
set_option maxHeartbeats 8000000 in
theorem dready_fn (l:List Upd) (u:Upd) (hl:l.length≤1000000) (hs:StrU l) (h:u.parents.length + u.takes.length≤1000000):Fn 92 [.d (.slice 5 (l.map encUpd)),elUpd u] (fun r=>r = .d (.bool (readyU l u))):=by
 refine fnp_enter' _ Tryz.func92 rfl rfl (by kernel_rfl) ?_
 intro O w0 E0 β0
 have w1:=under_fn u h
 have w2:=containsFuncId_fn (caps:=[.pd [.slice 5 (l.map encUpd)]]) (fun i=>!hasU l i) (underU u) rfl (fun i _=>ready1_fn l i hl hs)
 have he:(!((underU u).any fun i=>!hasU l i))=readyU l u:=by unfold readyU;rw [List.all_eq_not_any_not]
 rw [← he]
 repeat' ((fail_if_success (apply dw_stopS 1));(first|refine z0 ?_|apply ds_nil|apply dw_seq2|refine z16 ?_|apply thenD_n|refine z1 ?_|fail))
 refine dw_ent (ent_freezeL (ds:=[.slice 5 (l.map encUpd)]) 2 0 rfl rfl) ?_
 repeat' (first|refine z0 ?_|apply ds_nil|apply dw_seq2|refine z16 ?_|apply dw_ret|apply thenD_n|refine z21 ?_ (hc:=by apply w1)|refine z21 ?_ (hc:=by apply w2)|fail)
 exact ret_b rfl rfl
end Go.Proofs.YtapciiffpnociabGreat
