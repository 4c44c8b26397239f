/- Several texts in one: GxSrt RelS GxWin GxVew RelK RelU MoP ScoA. Condition: none. -/
import Derived.Test.YtapciiffpnociacGreatW10
import Derived.Shelf.SlSortCmp.NoneTotal
import Derived.Test.YtapciiffpnociacGreatW09
import Derived.Test.YtapciiffpnociacGreatW08
namespace Go.Proofs.YtapciiffpnociacGreat
open Go Go.RowKit Go.Sort Go.Shelf
section
variable {β : Type}
structure Held (X:Nat→Prop) (w:World) (es:Nat) (enc:β→List D) where
 x:β
 vs:List Value
 len:vs.length=es
 one:∀ v∈vs,v.oneCell' = true
 rep:∀ j (hj:j < (enc x).length),∃ v,vs[j]? = some v∧RepC X w v (enc x)[j]
theorem flatK_toList {α:Type} [Inhabited α] (enc:α→List Value) (k:Nat) (hk:∀ x,(enc x).length=k) (d:Array α) (t:Nat) (ht:t < d.size * k) :
  (flatK enc k d).toList[t]? = (enc (d[t / k]'(Nat.div_lt_of_lt_mul (by rw [Nat.mul_comm];exact ht))))[t % k]?:=by
 have h0:0 < k:=Nat.pos_of_ne_zero fun h=>by subst h;simp at ht
 have h1:t / k < d.size:=Nat.div_lt_of_lt_mul (by rw [Nat.mul_comm];exact ht)
 have h2:t % k < (enc d[t / k]).length:=by rw [hk];exact Nat.mod_lt _ h0
 rw [Array.getElem?_toList,Array.getElem?_eq_getElem (by simpa using ht),List.getElem?_eq_getElem h2]
 simp only [flatK,Array.getElem_map,Array.getElem_range]
 rw [getElem!_pos d _ h1,getElem!_pos (enc d[t / k]) _ h2]
theorem sortK_heap {α:Type} [Inhabited α] {w:World} {g n:Nat} {os:Array Obj} {cur:Array Value} {e:TypeId} {fr:Nat × Nat} (enc:α→List Value) (k:Nat) (d:Array α) (hb:w.heap[g]? = some (.cells cur e fr)) :
  (sortWorldK enc k w g 0 n d os).heap[g]? = some (.cells (putCells id 0 (flatK enc k d) cur) e fr):=by
 have hg:g < w.heap.size:=(Array.getElem?_eq_some_iff.1 hb).1
 unfold sortWorldK putRowK
 rw [heap_grow_old _ _ (by simpa using hg)]
 simp [putRow,mapBlock,Sort.ahead,Array.getElem?_modify,hb,onCells]
theorem sortK_other {α:Type} [Inhabited α] {w:World} {g n:Nat} {os:Array Obj} (enc:α→List Value) (k:Nat) (d:Array α) {b:Nat} (hb:b < w.heap.size) (hne:b≠g) :
  (sortWorldK enc k w g 0 n d os).heap[b]? = w.heap[b]?:=by
 unfold sortWorldK putRowK
 rw [heap_grow_old _ _ (by simpa using hb)]
 have:g≠b:=fun h=>hne h.symm
 simp [putRow,mapBlock,Sort.ahead,Array.getElem?_modify,this]
theorem sortK_size {α:Type} [Inhabited α] {w:World} {g n:Nat} {os:Array Obj} (enc:α→List Value) (k:Nat) (d:Array α):w.heap.size≤(sortWorldK enc k w g 0 n d os).heap.size:=by
 unfold sortWorldK putRowK
 simp
theorem take_putCellsK (cur F:Array Value) (h:F.size≤cur.size):(putCells id 0 F cur).toList.take F.size=F.toList:=by
 apply List.ext_getElem?
 intro j
 by_cases hj:j < F.size
 ·rw [List.getElem?_take_of_lt hj,Array.getElem?_toList,Array.getElem?_toList]
  simp [putCells,hj,show j < cur.size by omega]
 ·rw [List.getElem?_take_eq_none (by omega),List.getElem?_eq_none (by simp;omega)]
theorem grown_eq {W w':World} (hos:w'.os=W.os) (ht:w'.tape=W.tape) (ho:w'.output=W.output) (hd:W.drawn≤w'.drawn) (hs:W.heap.size≤w'.heap.size) (hb:∀ b,b < W.heap.size→w'.heap[b]? = W.heap[b]?) :
  ∃ q os',w' = grow (W.drewN q) os':=by
 refine⟨w'.drawn - W.drawn,w'.heap.extract W.heap.size,?_⟩
 obtain⟨heap,tape,drawn,os,output⟩:=w'
 simp only at hos ht ho hd hs hb
 subst hos;subst ht;subst ho
 unfold grow World.drewN
 simp only [World.mk.injEq,true_and,and_true]
 refine⟨?_,by omega⟩
 apply Array.ext_getElem?
 intro i
 rw [Array.getElem?_append]
 split
 ·rename_i h;exact hb i h
 ·rename_i h
  rw [Array.getElem?_extract]
  split
  ·congr 1;omega
  ·rw [Array.getElem?_eq_none (by omega)]
theorem flatten_get {α γ:Type} {f:α→List γ} {k:Nat} (hk:∀ x,(f x).length=k):∀ (d:List α) (i j:Nat) (hi:i < d.length),j < k→(d.map f).flatten[i * k + j]? = (f (d[i]'hi))[j]?
 | [],_,_,hi,_=>by simp at hi
 | x::d,0,j,_,hj=>by
  rw [List.map_cons,List.flatten_cons,Nat.zero_mul,Nat.zero_add,List.getElem?_append_left (by rw [hk];exact hj)];rfl
 | x::d,i + 1,j,hi,hj=>by
  have h1:(i + 1) * k + j=k + (i * k + j):=by rw [Nat.add_mul];omega
  rw [List.map_cons,List.flatten_cons,h1,List.getElem?_append_right (by rw [hk];omega),hk,Nat.add_sub_cancel_left,flatten_get hk d i j (by simpa using hi) hj];rfl
theorem flatten_len {α γ:Type} {f:α→List γ} {k:Nat} (hk:∀ x,(f x).length=k):∀ (d:List α),(d.map f).flatten.length=d.length * k
 | []=>by simp
 | x::d=>by rw [List.map_cons,List.flatten_cons,List.length_append,hk,flatten_len hk d,List.length_cons,Nat.add_mul];omega
theorem flatK_list {α:Type} [Inhabited α] (enc:α→List Value) (k:Nat) (hk:∀ x,(enc x).length=k) (d:Array α):(flatK enc k d).toList=(d.toList.map enc).flatten:=by
 apply List.ext_getElem?
 intro t
 by_cases ht:t < d.size * k
 ·have h0:0 < k:=Nat.pos_of_ne_zero fun h=>by subst h;simp at ht
  have h1:t / k < d.size:=Nat.div_lt_of_lt_mul (by rw [Nat.mul_comm];exact ht)
  rw [flatK_toList enc k hk d t ht]
  have h2:=flatten_get hk d.toList (t / k) (t % k) (by simpa using h1) (Nat.mod_lt _ h0)
  rw [Nat.div_add_mod'] at h2
  rw [h2]
  simp
 ·rw [List.getElem?_eq_none (by simp;omega),List.getElem?_eq_none (by rw [flatten_len hk];simp;omega)]
theorem held_of {X:Nat→Prop} {w:World} {es:Nat} {enc:β→List D} (hes:∀ x,(enc x).length=es):∀ (l:List β) (us:List Value),us.length=l.length * es→(∀ v∈us,v.oneCell' = true) →
  (∀ i (hi:i < l.length) j (hj:j < (enc l[i]).length),∃ v,us[i * es + j]? = some v∧RepC X w v ((enc l[i])[j]'hj))→∃ d:List (Held X w es enc),d.map Held.x=l∧(d.map Held.vs).flatten=us
 | [],us,h,_,_=>⟨[],rfl,by simp at h;subst h;rfl⟩
 | x::l,us,h,h1,h2=>by
  have hl:us.length=es + l.length * es:=by rw [h,List.length_cons,Nat.add_mul];omega
  obtain⟨d,g1,g2⟩:=held_of (X:=X) (w:=w) hes l (us.drop es) (by rw [List.length_drop];omega) (fun v hv=>h1 v (List.mem_of_mem_drop hv)) (fun i hi j hj=>by
   obtain⟨v,q1,q2⟩:=h2 (i + 1) (by simpa using hi) j (by simpa using hj)
   refine⟨v,?_,q2⟩
   rw [List.getElem?_drop,← q1]
   congr 1
   rw [Nat.add_mul];omega)
  refine⟨⟨x,us.take es,by rw [List.length_take];omega,fun v hv=>h1 v (List.mem_of_mem_take hv),fun j hj=>?_⟩::d,by rw [List.map_cons,g1],by rw [List.map_cons,List.flatten_cons,g2,List.take_append_drop]⟩
  obtain⟨v,q1,q2⟩:=h2 0 (by simp) j (by simpa using hj)
  refine⟨v,?_,q2⟩
  rw [List.getElem?_take,if_pos (by rw [← hes x];exact hj)]
  simpa using q1
theorem lowL_d:∀ (ds:List D),SV.lowL 0 (ds.map .d)=true
 | []=>rfl
 | d::ds=>by simp [SV.lowL,SV.low,lowL_d ds]
theorem relL_d {X:Nat→Prop} {e:Env} {w:World}:∀ (ds:List D) (vs:List Value),vs.length=ds.length→(∀ j (hj:j < ds.length),∃ v,vs[j]? = some v∧RepC X w v ds[j])→RelL X e w (ds.map .d) vs
 | [],[],_,_=>trivial
 | [],_::_,h,_=>by simp at h
 | _::_,[],h,_=>by simp at h
 | d::ds,v::vs,h,hr=>⟨by obtain⟨v',h1,h2⟩:=hr 0 (by simp);cases h1;exact h2,relL_d ds vs (by simpa using h) fun j hj=>by
   obtain⟨v',h1,h2⟩:=hr (j + 1) (by simpa using hj);exact⟨v',by simpa using h1,by simpa using h2⟩⟩
variable {P : Program} {τ : List (Nat × TI)} {τok : TabOk P τ} {ρ : Ren}
theorem sort_rowK (L:SlLaysF0.n6 P ρ) (es:Nat) (aE:∀ w,(isAgg (ρ.t 24)).run P w = .ok true w) (zE:∀ w,(Go.sizeOf (ρ.t 24)).run P w = .ok es w) (enc:β→List D) (hes:∀ x,(enc x).length=es) (cf:β→β→Int) (hO:SWO (ltOf cf)) (g:Nat)
  (hc:∀ a b,FnP true P τ τok g [.agg ((enc a).map .d),.agg ((enc b).map .d)] (fun r=>r = .d (.int .i64 (cf a b)))) (te:TypeId) (l:List β) (hl:l.length < 4611686018427387904)
  {X:Nat→Prop} {e:Env} {w:World} {i:Nat} (hXo:∀ c,HB.owned e (i,.row te es (l.map enc))=some c→X c) (hXl:∀ b,X b→b < w.heap.size) (hrow:HRel X e w (i,.row te es (l.map enc))) :
  Calls P (ρ.f 6) #[e.η i,.func (.func g) #[] #[]] w fun en w'=>en = .returned (.tuple #[])∧w.heap.size≤w'.heap.size∧w'.os=w.os∧w'.tape=w.tape∧w'.output=w.output ∧
   (∀ c,c < w.heap.size→HB.owned e (i,.row te es (l.map enc))≠some c→w'.heap[c]? = w.heap[c]?)∧∃ l':List β,l'.Perm l∧l'.Pairwise (fun a b=>cf b a ≥ 0)∧HRel X e w' (i,.row te es (l'.map enc)):=by
 obtain⟨us,hown,hlen,hone2,hrep⟩:=hrow
 by_cases hne:l=[]
 ·subst hne
  obtain⟨p,cap,hv⟩:∃ p cap,e.η i = .slice p 0 cap:=by
   rcases hown.2 with ⟨hv,_⟩|⟨gb,cap,cur,hv,_⟩
   ·exact⟨_,_,hv⟩
   ·exact⟨_,_,hv⟩
  rw [hv]
  refine (AnyF.slices_SortFunc_none { L with } p cap _ w).mono ?_
  rintro en w' ⟨rfl,rfl⟩
  exact⟨rfl,Nat.le_refl _,rfl,rfl,rfl,fun _ _ _=>rfl,[],.refl _,.nil,us,hown,hlen,hone2,hrep⟩
 ·have hpos:0 < l.length:=List.length_pos_iff.2 hne
  have lm:(l.map enc).length=l.length:=List.length_map _
  obtain⟨hul,hcase⟩:=hown
  rw [lm] at hul hcase
  rcases hcase with ⟨_,h⟩|⟨gb,cap,cur,hv,_,hblk,hnc,hcm,hcs,htk⟩
  ·omega
  have hgb:gb < w.heap.size:=(Array.getElem?_eq_some_iff.1 hblk).1
  have howned:∀ (m:List (List D)),HB.owned e (i,.row te es m)=some gb:=fun m=>by simp [HB.owned,hv,Value.ownBlock]
  have hXg:X gb:=hXo gb (howned _)
  obtain⟨d,d1,d2⟩:=held_of (X:=X) (w:=w) (enc:=enc) hes l us hul hone2 (fun i hi j hj=>by
   obtain⟨v,q1,q2⟩:=hrep i (by rw [lm];exact hi) j (by simpa using hj)
   exact⟨v,q1,by simpa using q2⟩)
  have hdl:d.length=l.length:=by rw [← d1,List.length_map]
  haveI:Inhabited (Held X w es enc):=⟨d[0]'(by omega)⟩
  have hkv:∀ x:Held X w es enc,x.vs.length=es:=fun x=>x.len
  have hF:(flatK Held.vs es d.toArray).toList=us:=by rw [flatK_list _ _ hkv,← d2]
  have hHold:HoldsK (Held.vs (X:=X) (w:=w) (es:=es) (enc:=enc)) es w gb 0 d.toArray:=by
   intro t ht
   have ht':t < l.length * es:=by simpa [hdl] using ht
   have hc1:cur[t]? = us[t]?:=by
    rw [← htk,List.getElem?_take,if_pos ht',Array.getElem?_toList]
   refine⟨?_,by simp [World.frozen?,hblk]⟩
   simp only [World.cell?,hblk,Nat.zero_add]
   simp only [Option.isSome_none,Bool.false_eq_true,if_false]
   rw [hc1,← hF,Array.getElem?_toList,Array.getElem?_eq_getElem ht,getElem!_pos _ t ht]
   rfl
  have hcmp:CmpLays P g #[] (Held.vs (X:=X) (w:=w) (es:=es) (enc:=enc)) es (fun x y=>cf x.x y.x) gb 0 d.toArray.size w:=by
   intro m os dk hdk x y
   generalize hW:sortWorldK Held.vs es w gb 0 m dk os=W
   have hWs:w.heap.size≤W.heap.size:=hW▸sortK_size _ _ _
   have hWb:∀ b,b < w.heap.size→¬ X b→W.heap[b]? = w.heap[b]?:=fun b hb hx=>hW▸sortK_other _ _ _ hb fun h=>hx (h▸hXg)
   have hXW:∀ b,X b→b < W.heap.size:=fun b hb=>Nat.lt_of_lt_of_le (hXl b hb) hWs
   have hel:∀ z:Held X w es enc,RelL X e W ((enc z.x).map .d) z.vs:=fun z=>relL_d _ _ (by rw [z.len,hes]) fun j hj=>by
    obtain⟨v,q1,q2⟩:=z.rep j hj
    exact⟨v,q1,RepC.keep hWs hWb (fun _ _ h=>h) q2⟩
   have hk:=(hc x.x y.x).2 X (e.ren id 0) W [.agg x.vs.toArray,.agg y.vs.toArray] ⟨fun _=>Iff.rfl,by simp,by simp,by simp [a7],by simp [a7],rfl,rfl,rfl,fun _=>Nat.le_refl _,Nat.le_refl _,fun _ _ _=>rfl,fun b hb=>⟨hXW b hb,by simp [a7]⟩,fun j hj=>absurd hj (Nat.not_lt_zero j),fun j hj=>absurd hj (Nat.not_lt_zero j)⟩ ?_
   ·refine hk.mono ?_
    rintro en w' ⟨k',r,H',e',v,⟨rfl,hlr,rfl⟩,rfl,hH2,hrel⟩
    refine⟨?_,grown_eq hH2.os hH2.tape hH2.output (hH2.drawn rfl) hH2.size fun b hb=>hH2.block b hb (by simp [a7])⟩
    cases hrel
    rfl
   ·have hXX:∀ b,Ctx.X ⟨P,τ,τok,X,W,fun b=>b∈a7 (e.ren id 0) [],0,0,(e.ren id 0).an,none,noPan,true,true⟩ (e.ren id 0) [] b↔X b:=fun b=>by unfold Ctx.X;simp [a7]
    refine RelL.keep (Nat.le_refl _) (fun _ _ _=>rfl) (fun b _ h=>(hXX b).1 h) _ _ (X:=X) (w:=W) ?_
    exact⟨⟨x.vs,rfl,RelL.env _ _ (lowL_d _) (hel x)⟩,⟨y.vs,rfl,RelL.env _ _ (lowL_d _) (hel y)⟩,trivial⟩
  have hOα:SWO (ltOf fun x y:Held X w es enc=>cf x.x y.x):=⟨fun x=>hO.irrefl x.x,fun x y z=>hO.trans x.x y.x z.x,fun x y z=>hO.ntrans x.x y.x z.x⟩
  have eg:∀ args w,(callFunc g args).run P w = .ok (.enter g args) w:=run_call ((if h:l.length=0 then by omega else (hc (l[0]'hpos) (l[0]'hpos)).1))
  have hs:=AnyQ.slices_SortFunc L es aE zE (Held.vs (X:=X) (w:=w) (es:=es) (enc:=enc)) hkv (fun x=>x.one) (fun x y=>cf x.x y.x) hOα g #[] gb 0 cap d.toArray w eg hcmp hHold hgb (by simpa [hdl] using hl)
  have hsz:d.toArray.size=l.length:=by simpa using hdl
  rw [hsz] at hs
  rw [hv]
  refine hs.mono ?_
  rintro en w' ⟨rfl,d',m,os,hp,hso,rfl⟩
  have hd's:d'.size=l.length:=hp.1.trans hsz
  have hperm:d'.toList.Perm d:=by
   have:=hp.2.2
   rwa [show d'.extract 0 l.length=d' by rw [← hd's];simp,show d.toArray.extract 0 l.length=d.toArray by rw [← hsz];simp] at this
  refine⟨rfl,sortK_size _ _ _,rfl,rfl,rfl,fun c hc hne=>sortK_other _ _ _ hc fun h=>hne (by rw [howned,h]),d'.toList.map Held.x,d1▸hperm.map _,?_,?_⟩
  ·rw [List.pairwise_map,List.pairwise_iff_getElem]
   intro i j hi hj hij
   have h1:=hso i j (Nat.zero_le _) hij (by simpa [hd's] using hj)
   rw [getElem!_pos d' i (by simpa using hi),getElem!_pos d' j (by simpa using hj)] at h1
   have h2:¬ cf d'[j].x d'[i].x < 0:=of_decide_eq_false h1
   simp only [Array.getElem_toList]
   omega
  ·have hl':(d'.toList.map Held.x).length=l.length:=by simp [hd's]
   have hFs:(flatK Held.vs es d').size=l.length * es:=by rw [size_flatK,hd's]
   have hFl:(flatK Held.vs es d').toList=(d'.toList.map Held.vs).flatten:=flatK_list _ _ hkv _
   refine⟨(d'.toList.map Held.vs).flatten,⟨?_,.inr ⟨gb,cap,_,hv▸?_,Nat.zero_le _,sortK_heap _ _ _ hblk,?_,hcm,by simp [putCells,hcs],?_⟩⟩,?_,?_,?_⟩
   ·rw [flatten_len hkv];simp
   ·simp [hd's]
   ·simp [hd's];exact hnc
   ·rw [List.length_map,hl',← hFs,take_putCellsK _ _ (by rw [hFs,hcs];exact Nat.mul_le_mul_right _ hnc),hFl]
   ·intro i hi;simp [hes]
   ·intro v hvm
    obtain⟨u,hu,hvu⟩:=List.mem_flatten.1 hvm
    obtain⟨x,_,rfl⟩:=List.mem_map.1 hu
    exact x.one v hvu
   ·intro i hi j hj
    have hi':i < d'.toList.length:=by simpa using hi
    have hj':j < es:=by simpa [hes] using hj
    obtain⟨v,q1,q2⟩:=(d'.toList[i]).rep j (by rw [hes];exact hj')
    refine⟨v,by rw [flatten_get hkv d'.toList i j hi' hj'];exact q1,?_⟩
    have q3:RepC X w v (((d'.toList.map Held.x).map enc)[i][j]):=by simpa using q2
    exact RepC.keep (sortK_size _ _ _) (fun b hb hx=>sortK_other _ _ _ hb fun h=>hx (h▸hXg)) (fun b _ h=>h) q3
def SortC (P:Program) (f g:FuncId) (te es:Nat) (enc:β→List D) (cf:β→β→Int):Prop :=
 ∀ (l:List β),l.length < 4611686018427387904→∀ (X:Nat→Prop) (e:Env) (w:World) (i:Nat),(∀ c,HB.owned e (i,.row te es (l.map enc))=some c→X c)→(∀ b,X b→b < w.heap.size)→HRel X e w (i,.row te es (l.map enc)) →
  Calls P f #[e.η i,.func (.func g) #[] #[]] w fun en w'=>en = .returned (.tuple #[])∧w.heap.size≤w'.heap.size∧w'.os=w.os∧w'.tape=w.tape∧w'.output=w.output ∧
   (∀ c,c < w.heap.size→HB.owned e (i,.row te es (l.map enc))≠some c→w'.heap[c]? = w.heap[c]?)∧∃ l':List β,l'.Perm l∧l'.Pairwise (fun a b=>cf b a ≥ 0)∧HRel X e w' (i,.row te es (l'.map enc))
end
section
variable {Γ : Ctx} {k : Nat} {L : Sl} {H : Hp} {K : c6} {ops : List Oper} {rest : List Oper} {β : Type}
theorem ds_sort [NoDr Γ] {f g0:FuncId} {te es:Nat} {enc:β→List D} {cf:β→β→Int} (hS:SortC Γ.P f g0 te es enc cf) (l:List β) {d i:Nat} {x y:Operand} {ts:Array TypeId} {ty:TypeId} {pos:String} {af:Array Edge} {g:Option (Nat × Bool)}
  (hcall:callable Γ.P f=true) (hx:bi L x = .row i) (hH:Hp.get H i=some (.row te es (l.map enc))) (hy:bi L y = .fn g0 []) (hyo:opOkB y=true) (hw:bk ops L g=some true) (hd:Nat.blt d Γ.n=true) (hl:l.length < 4611686018427387904)
  (hk:∀ l':List β,l'.Perm l→l'.Pairwise (fun a b=>cf b a ≥ 0)→DS false Γ ops rest K k ((d,.tup [])::L) (Hp.set H i (.row te es (l'.map enc)))) :
  DS false Γ ops (⟨some d,.call { callee:=.value (.func f),args:=#[x,y],argTypes:=ts },ty,pos,af,g⟩::rest) K k L H:=by
 refine dl_run hw fun e a w m=>?_
 unfold Oper.wp
 have hrun:=run_callOp hcall a [x,y] ts (some d) ty pos af g w
 rw [show #[x,y]=[x,y].toArray from rfl,hrun,Oper.upon_enter]
 obtain⟨hdom,hv,_⟩:=evT m hx (cSV_row · _)
 have hr:=m.op y (cq hyo)
 rw [hy] at hr
 obtain⟨us,hu,hus⟩:=hr
 cases us with
 | cons u us=>exact hus.elim
 | nil =>
  have hmem:=Hp.mem_of hH
  have hown:∀ c,HB.owned e (i,.row te es (l.map enc))=some c→Γ.X e H c:=fun c hc=>.inr (List.mem_filterMap.2 ⟨_,hmem,hc⟩)
  have hXl:∀ b,Γ.X e H b→b < w.heap.size:=fun b hb=>hb.elim (fun h=>Nat.lt_of_lt_of_le (m.obound b h).1 m.size) (m.lt b)
  have hs:=hS l hl (Γ.X e H) e w i hown hXl (m.heap _ hmem).2
  simp only [List.map_cons,List.map_nil,hv,hu]
  refine hs.mono ?_
  rintro en w' ⟨rfl,h1,h2,h3,h4,h5,l',h6,h7,h8⟩
  exact⟨k,_,_,e,(m.turn (b':=.row te es (l'.map enc)) hH h1 h2 h3 h4 NoDr.any h5 rfl h8).put (s:=.tup []) (Nat.le_of_ble_eq_true hd) ⟨[],rfl,trivial⟩,hk l' h6 h7⟩
end
open Go Go.RowKit
theorem sortFacts_c:SortC Tryz.prog 133 63 48 2 ay c9:=fun l hl _ _ _ _ h1 h2 h3 =>
 sort_rowK (ρ:=Tryz.sortFacts_ren) Tryz.sortFacts 2 Tryz.isAgg48 Tryz.sizeOf48 ay (fun _=>rfl) c9 swoF 63 (fun a b=>orderF_fnD true a b) 48 l hl h1 h2 h3
end Go.Proofs.YtapciiffpnociacGreat
namespace Go.Proofs.YtapciiffpnociacGreat
open Go Go.RowKit
mutual
theorem SV.ren_low0 (ρ:Nat→Nat):∀ (s:SV),s.low 0=true→s.ren ρ=s
 | .junk,_=>rfl
 | .d _,_=>rfl
 | .nils,_=>rfl
 | .pd _,_=>rfl
 | .loc _ _,h=>by simp [SV.low,Nat.blt] at h
 | .row _,h=>by simp [SV.low,Nat.blt] at h
 | .mp _,h=>by simp [SV.low,Nat.blt] at h
 | .md _ _,_=>rfl
 | .prow _ _ _ _,h=>by simp [SV.low,Nat.blt] at h
 | .sl _ _ _ _,h=>by simp [SV.low,Nat.blt] at h
 | .rsl _ _ _ _,h=>by simp [SV.low,Nat.blt] at h
 | .fn f caps,h=>by simp only [SV.ren,SV.renL_low0 ρ caps h]
 | .agg ss,h=>by simp only [SV.ren,SV.renL_low0 ρ ss h]
 | .tup ss,h=>by simp only [SV.ren,SV.renL_low0 ρ ss h]
 | .val _,_=>rfl
theorem SV.renL_low0 (ρ:Nat→Nat):∀ (ss:List SV),SV.lowL 0 ss=true→SV.renL ρ ss=ss
 | [],_=>rfl
 | s::ss,h=>by
  simp only [SV.lowL,Bool.and_eq_true] at h
  simp only [SV.renL,SV.ren_low0 ρ s h.1,SV.renL_low0 ρ ss h.2]
end
mutual
theorem SV.low_mono (k:Nat):∀ (s:SV),s.low 0=true→s.low k=true
 | .junk,_=>rfl
 | .d _,_=>rfl
 | .nils,_=>rfl
 | .pd _,_=>rfl
 | .loc _ _,h=>by simp [SV.low,Nat.blt] at h
 | .row _,h=>by simp [SV.low,Nat.blt] at h
 | .mp _,h=>by simp [SV.low,Nat.blt] at h
 | .md _ _,_=>rfl
 | .prow _ _ _ _,h=>by simp [SV.low,Nat.blt] at h
 | .sl _ _ _ _,h=>by simp [SV.low,Nat.blt] at h
 | .rsl _ _ _ _,h=>by simp [SV.low,Nat.blt] at h
 | .fn f caps,h=>SV.lowL_mono k caps h
 | .agg ss,h=>SV.lowL_mono k ss h
 | .tup ss,h=>SV.lowL_mono k ss h
 | .val _,_=>rfl
theorem SV.lowL_mono (k:Nat):∀ (ss:List SV),SV.lowL 0 ss=true→SV.lowL k ss=true
 | [],_=>rfl
 | s::ss,h=>by
  simp only [SV.lowL,Bool.and_eq_true] at h ⊢
  exact⟨SV.low_mono k s h.1,SV.lowL_mono k ss h.2⟩
end
theorem lowL_junk {k:Nat}:∀ (n:Nat),SV.lowL k (List.replicate n .junk)=true
 | 0=>rfl
 | n + 1=>by
  rw [List.replicate_succ]
  simp only [SV.lowL,Bool.and_eq_true]
  exact⟨rfl,lowL_junk n⟩
section
variable {P : Program} (w : World)
theorem run_append_room_at (t ty e:TypeId) (i:TypeInfo) (ht:P.underlying t=some (.slice e)) (hi:P.info? e=some i)
  (g o sLen sCap:Nat) (tb:TypeId) (cur:Array Value) (hg:w.heap[g]? = some (.cells cur tb (0,0)))
  (a:Addr) (m c:Nat) (news:List Value) (hl:news.length=m * i.size) (hnews:∀ j u,news[j]? = some u→w.cell? (a.add j)=some u) (h1:∀ u∈news,u.oneCell' = true)
  (hroom:sLen + m≤sCap) (hfit:o + sLen * i.size + news.length≤cur.size) :
  (Builtin.append_ #[t,t] ty #[.slice (some ⟨g,o,none⟩) sLen sCap,.slice (some a) m c]).run P w =
   .ok (.slice (some ⟨g,o,none⟩) (sLen + m) sCap) (w.setRow g (cur.toList.take (o + sLen * i.size)++news++cur.toList.drop (o + sLen * i.size + news.length)).toArray):=by
 have hf:=run_firstCells_some (P:=P) w i.size m a m c news hl hnews
 have hst:=run_storeCells_at P g (o + sLen * i.size) tb news 0 cur w hg (by simpa using hfit) h1
 simp only [Nat.add_zero] at hst
 simp [Builtin.append_,run_underlying ht,sizeOf,typeInfo,hi,Builtin.lenOf,hroom,hf,Addr.add_lit,hst]
end
theorem zeroCells_mem {z:Array Value} {n:Nat} {v:Value} (h:v∈(Builtin.zeroCells z n).toList):v∈z.toList:=by
 unfold Builtin.zeroCells at h
 simp only [Array.toList_map,Array.toList_range,List.mem_map,List.mem_range] at h
 obtain⟨i,hi,rfl⟩:=h
 have hpos:0 < z.size:=by
  rcases Nat.eq_zero_or_pos z.size with h0|h0
  ·rw [h0,Nat.mul_zero] at hi;omega
  ·exact h0
 have:=Nat.mod_lt i hpos
 simp [this]
theorem junk_rel {X e w}:∀ (n:Nat) (vs:List Value),vs.length=n→RelL X e w (List.replicate n .junk) vs
 | 0,[],_=>trivial
 | n + 1,[],h=>by simp at h
 | 0,_::_,h=>by simp at h
 | n + 1,v::vs,h=>⟨trivial,junk_rel n vs (by simpa using h)⟩
section
variable {Γ : Ctx} {k : Nat} {L : Sl} {H : Hp} {K : c6} {ops : List Oper} {rest : List Oper} {t t' ty : TypeId} {x y : Operand}
theorem ds_bs_sl {d te es len:Nat} {pos:String} {af:Array Edge} {g:Option (Nat × Bool)} {ps:List (Nat × Operand)} {cs':List SV} (ht:Γ.sh t = .slice te) (hkn:(Γ.sh te).known=true) (hes:Γ.cells te=es) (hpos:Nat.blt 0 es=true) (hz:zeroOk (bg Γ.τ te).zero=true) (hzl:Nat.beq (bg Γ.τ te).zero.length (Γ.cells te)=true) (hok:partsOk ps=true)
  (hlen:Nat.ble (len * es) 16777216=true) (hf:fillSV (fun i=>some (i * es,es)) (initSV (zeroSV Γ.τ te) (len * es)) (partsSV L ps)=some cs') (hw:bk ops L g=some true) (hd:Nat.blt d Γ.n=true)
  (hk:DS false Γ ops rest K (k + 1) ((d,.sl k 0 len len)::L) ((k,.blk te cs')::H))  :DS false Γ ops (⟨some d,.buildSlice t len ps.toArray,ty,pos,af,g⟩::rest) K k L H:=by
 refine dl_run hw fun e a w m=>?_
 obtain⟨vs',f2,f3,hrun⟩:=run_buildSlice (ty:=ty) ht hkn hes hpos hz hzl hok hlen hf m
 unfold Oper.wp
 rw [hrun]
 have m2:=(m.alloc (lo_not k) te f2 f3).cast (with1_lo k)
 rw [Array.toArray_toList] at m2
 have hlm:len≤maxLen:=by
  have h1:=Nat.le_of_ble_eq_true hlen
  have h2:=Nat.le_of_ble_eq_true hpos
  have:len≤len * es:=Nat.le_mul_of_pos_right _ h2
  unfold maxLen;omega
 refine⟨_,_,_,_,m2.put (s:=.sl k 0 len len) (Nat.le_of_ble_eq_true hd) ⟨.inr rfl,Nat.le_refl _,hlm,0,?_,fun _=>rfl⟩,hk⟩
 show _=Value.slice (some ⟨(e.bind k w.heap.size).β k,0,none⟩) len len
 rw [show (e.bind k w.heap.size).β k=w.heap.size from if_pos rfl]
end
end Go.Proofs.YtapciiffpnociacGreat
namespace Go.Proofs.YtapciiffpnociacGreat
open Go Go.RowKit
section
variable {Γ : Ctx} {k : Nat} {L : Sl} {H H' : Hp} {Q : Post} {c : Code}
theorem ent_cut {i es n:Nat} {te:TypeId} {xs:List (List D)} (t:Nat) (hL:L.get t = .rsl i es 0 n) (hH:Hp.get H i=some (.row te es xs)) (hn:n≤xs.length) (hD:delF H i some=some H') :
  Ent Γ k L H (k + 1) ((t,.row k)::L) ((k,.row te es (xs.take n))::H'):=by
 rw [delF_eq] at hD
 cases hD
 intro e a w m
 have hs:=m.slot t
 rw [hL] at hs
 obtain⟨hd,hone,hcase⟩:=hs
 have hze:¬ e.dom k:=fun h=>lo_not k ((m.top k).1 h)
 obtain⟨vs,ho,hes,hone2,hrep⟩:=(m.heap _ (Hp.mem_of hH)).2
 generalize hv:a.tmps.getD t undef=v at hone hcase
 have hηk:(e.bindRow k v).η k=v:=if_pos rfl
 have hlen:(xs.take n).length=n:=by rw [List.length_take];omega
 have hown:w.ownsRow 0 te es v n (vs.take (n * es))∧v.ownBlock=(e.η i).ownBlock:=by
  have hvl:(vs.take (n * es)).length=n * es:=by rw [List.length_take,ho.1];exact Nat.min_eq_left (Nat.mul_le_mul_right _ hn)
  rcases hcase with ⟨hη,rfl,_,rfl⟩|⟨g,n0,cap,o,hη,_,hmx,hnc,rfl,hoo⟩
  ·exact⟨⟨hvl,.inl ⟨rfl,rfl⟩⟩,by rw [hη]⟩
  ·have h0:=hoo (.inr rfl)
   rw [Nat.zero_mul] at h0
   subst h0
   rcases ho.2 with ⟨hη2,_⟩|⟨g',cap',cur,hη2,hb,hh,h1,h2,h3,h4⟩
   ·rw [hη] at hη2;cases hη2
   ·rw [hη] at hη2
    cases hη2
    refine⟨⟨hvl,.inr ⟨g,cap,cur,by simp,hb,hh,by omega,h2,h3,?_⟩⟩,by rw [hη];rfl⟩
    rw [← h4,List.take_take,Nat.min_eq_left (Nat.mul_le_mul_right _ hn)]
 have m2:=m.trade (hb:=.row te es (xs.take n)) hH (lo_not k) (e':=e.bindRow k v) (w':=w) (fun i=>or_congr (m.top i) Iff.rfl) (e.bindRow_ext _ _ hze) (Nat.le_refl _) rfl rfl rfl (fun _=>Nat.le_refl _)
  (fun _ _ _=>rfl) (fun c hc=>by simp only [HB.owned,hηk] at hc;exact .inl (by simp only [HB.owned];rw [← hown.2];exact hc)) (fun hX=>by
   refine⟨vs.take (n * es),by rw [hηk,hlen];exact hown.1,fun j hj=>?_,fun u hu=>hone2 u (List.mem_of_mem_take hu),fun j hj q hq=>?_⟩
   ·rw [List.getElem_take];exact hes j _
   ·have hj':j < n:=by omega
    have hx:(xs.take n)[j]=xs[j]'(by omega):=List.getElem_take
    have hq':q < (xs[j]'(by omega)).length:=by rw [← hx];exact hq
    obtain⟨u,p1,p2⟩:=hrep j (by omega) q hq'
    have hqe:q < es:=by rw [← hes j (by omega)];exact hq'
    refine⟨u,?_,?_⟩
    ·rw [List.getElem?_take,if_pos,p1]
     have:(j + 1) * es≤n * es:=Nat.mul_le_mul_right _ hj'
     rw [Nat.add_mul,Nat.one_mul] at this
     omega
    ·have p3:RepC (Γ.X e H) w u ((xs.take n)[j][q]):=by simpa [hx] using p2
     exact RepC.keep (Nat.le_refl _) (fun _ _ _=>rfl) hX p3)
 have m3:=m2.cast (with1_lo k)
 refine⟨_,⟨m3.toHeap,m3.defers,m3.len,fun t'=>?_⟩⟩
 rw [Sl.get_cons]
 split
 ·rename_i ht
  subst ht
  rw [hv]
  exact⟨.inr rfl,hηk.symm,hone⟩
 ·exact m3.slot t'
end
section
variable {Γ : Ctx} {kk : Nat → Prop} {L : Sl} {H : Hp} {a : Act} {w : World} {e : Env}
theorem mid_get {α:Type} (xs ys:List α) (j p:Nat) (h:j + ys.length≤xs.length):(xs.take j++ys++xs.drop (j + ys.length))[p]? = if p < j then xs[p]? else if p < j + ys.length then ys[p - j]? else xs[p]?:=by
 have h1:(xs.take j).length=j:=by rw [List.length_take];omega
 by_cases hp:p < j
 ·rw [if_pos hp,List.append_assoc,List.getElem?_append_left (by omega),List.getElem?_take,if_pos hp]
 ·rw [if_neg hp]
  by_cases hq:p < j + ys.length
  ·rw [if_pos hq,List.append_assoc,List.getElem?_append_right (by omega),h1,List.getElem?_append_left (by omega)]
  ·rw [if_neg hq,List.getElem?_append_right (by rw [List.length_append];omega),List.length_append,h1,List.getElem?_drop]
   congr 1;omega
theorem row_write (m:Models Γ kk L H e a w) {i es j g0 n0 cap:Nat} {tb:TypeId} {xs ys:List (List D)} {N:List Value} {cur:Array Value} (hH:Hp.get H i=some (.row tb es xs)) (hj:j + ys.length≤xs.length)
  (hN:N.length=ys.length * es) (hyl:∀ p (hp:p < ys.length),(ys[p]'hp).length=es) (h1:∀ v∈N,v.oneCell' = true) (hr:∀ p (hp:p < ys.length) q (hq:q < (ys[p]'hp).length),∃ v,N[p * es + q]? = some v∧RepC (Γ.X e H) w v ((ys[p]'hp)[q]'hq))
  (hη:e.η i = .slice (some ⟨g0,0,none⟩) n0 cap) (hg:w.heap[g0]? = some (.cells cur tb (0,0))) :
  j * es + N.length≤cur.size∧Models Γ kk L (Hp.set H i (.row tb es (xs.take j++ys++xs.drop (j + ys.length)))) e a (w.setRow g0 (cur.toList.take (j * es)++N++cur.toList.drop (j * es + N.length)).toArray):=by
 have hmem:=Hp.mem_of hH
 obtain⟨vs,ho,hes,hone,hrep⟩:=(m.heap _ hmem).2
 rcases ho.2 with ⟨h2,_⟩|⟨g',cap',cur',h2,hb0,hg',hnc,hcm,hcs,htake⟩
 ·rw [hη] at h2;cases h2
 rw [hη] at h2
 cases h2
 rw [hg] at hg'
 cases hg'
 have hlen:vs.length=xs.length * es:=ho.1
 have hjr:j * es + N.length≤xs.length * es:=by rw [hN,← Nat.add_mul];exact Nat.mul_le_mul_right _ hj
 have hcl:xs.length * es≤cur.size:=by rw [hcs];exact Nat.mul_le_mul_right _ hnc
 have hown:∀ zs,HB.owned e (i,.row tb es zs)=some g0:=fun zs=>by simp [HB.owned,hη,Value.ownBlock]
 have hxl:(xs.take j++ys++xs.drop (j + ys.length)).length=xs.length:=by simp only [List.length_append,List.length_take,List.length_drop];omega
 refine⟨by omega,m.turn (b':=.row tb es (xs.take j++ys++xs.drop (j + ys.length))) hH ?_ rfl rfl rfl (fun _=>Nat.le_refl _) (fun c _ hc=>setRow_other w _ c _ (fun h=>hc (by rw [hown,h]))) (by rw [hown,hown]) ?_⟩
 ·simp [World.setRow]
 ·have hgo:(w.setRow g0 (cur.toList.take (j * es)++N++cur.toList.drop (j * es + N.length)).toArray).heap[g0]? = some (.cells (cur.toList.take (j * es)++N++cur.toList.drop (j * es + N.length)).toArray tb (0,0)):=setRow_heap w g0 cur _ tb (0,0) hg
  have hkeep:∀ b,b < w.heap.size→¬ Γ.X e H b→(w.setRow g0 (cur.toList.take (j * es)++N++cur.toList.drop (j * es + N.length)).toArray).heap[b]? = w.heap[b]?:=fun b _ hb=>setRow_other w _ b _ (fun h=>hb (.inr (List.mem_filterMap.2 ⟨_,hmem,by rw [hown,h]⟩)))
  refine⟨vs.take (j * es)++N++vs.drop (j * es + N.length),⟨?_,.inr ⟨g0,cap,_,?_,hb0,hgo,?_,hcm,?_,?_⟩⟩,fun p hp=>?_,fun v hv=>?_,fun p hp q hq=>?_⟩
  ·rw [hxl];simp only [List.length_append,List.length_take,List.length_drop];omega
  ·rw [hxl];exact hη
  ·rw [hxl];exact hnc
  ·rw [← hcs]
   simp only [List.size_toArray,List.length_append,List.length_take,List.length_drop,Array.length_toList]
   omega
  ·rw [hxl]
   apply List.ext_getElem?
   intro p
   rw [List.getElem?_take]
   by_cases hp':p < xs.length * es
   ·have hcv:cur.toList[p]? = vs[p]?:=by rw [← htake,List.getElem?_take,if_pos hp']
    rw [if_pos hp',mid_get _ _ _ _ (by have:=Array.length_toList (xs:=cur);omega),mid_get _ _ _ _ (by omega),hcv]
   ·rw [if_neg hp',List.getElem?_eq_none (by
     have:vs.length≤p:=by omega
     have h9:(vs.take (j * es)++N++vs.drop (j * es + N.length)).length=vs.length:=by simp only [List.length_append,List.length_take,List.length_drop];omega
     omega)]
  ·have hgt:=mid_get xs ys j p hj
   rw [List.getElem?_eq_getElem hp] at hgt
   split at hgt
   ·obtain⟨h3,h4⟩:=List.getElem?_eq_some_iff.1 hgt.symm;rw [← h4];exact hes p h3
   ·split at hgt
    ·obtain⟨h3,h4⟩:=List.getElem?_eq_some_iff.1 hgt.symm;rw [← h4];exact hyl _ h3
    ·obtain⟨h3,h4⟩:=List.getElem?_eq_some_iff.1 hgt.symm;rw [← h4];exact hes p h3
  ·simp only [List.mem_append] at hv
   rcases hv with (hv|hv)|hv
   ·exact hone v (List.mem_of_mem_take hv)
   ·exact h1 v hv
   ·exact hone v (List.mem_of_mem_drop hv)
  ·have hgt:=mid_get xs ys j p hj
   rw [List.getElem?_eq_getElem hp] at hgt
   have hpx:p < xs.length:=by omega
   generalize hz:(xs.take j++ys++xs.drop (j + ys.length))[p]=z at hgt hq
   have key:∀ {v:Value} {x:D},RepC (Γ.X e H) w v x→RepC (Γ.X e H) (w.setRow g0 (cur.toList.take (j * es)++N++cur.toList.drop (j * es + N.length)).toArray) v x:=fun h=>RepC.keep (by simp [World.setRow]) hkeep (fun _ _ h=>h) h
   have hle:∀ c,p < c→q < es→p * es + q < c * es:=fun c hc hqe=>by
    have:(p + 1) * es≤c * es:=Nat.mul_le_mul_right _ hc
    rw [Nat.add_mul] at this;omega
   split at hgt
   ·rename_i hpj
    obtain⟨h3,h4⟩:=List.getElem?_eq_some_iff.1 hgt.symm
    subst h4
    obtain⟨v,p1,p2⟩:=hrep p h3 q hq
    have hqe:q < es:=by rw [← hes p h3];exact hq
    exact⟨v,by rw [mid_get _ _ _ _ (by omega),if_pos (hle j hpj hqe)];exact p1,key p2⟩
   ·rename_i hpj
    split at hgt
    ·rename_i hpy
     obtain⟨h3,h4⟩:=List.getElem?_eq_some_iff.1 hgt.symm
     subst h4
     obtain⟨v,p1,p2⟩:=hr (p - j) h3 q hq
     have hqe:q < es:=by rw [← hyl (p - j) h3];exact hq
     have e1:p * es=j * es + (p - j) * es:=by rw [← Nat.add_mul];congr 1;omega
     have e2:(p - j) * es + q < N.length:=by
      rw [hN]
      have:(p - j + 1) * es≤ys.length * es:=Nat.mul_le_mul_right _ (by omega)
      rw [Nat.add_mul] at this;omega
     exact⟨v,by rw [mid_get _ _ _ _ (by omega),if_neg (by omega),if_pos (by omega),show p * es + q - j * es=(p - j) * es + q by omega];exact p1,key p2⟩
    ·rename_i hpy
     obtain⟨h3,h4⟩:=List.getElem?_eq_some_iff.1 hgt.symm
     subst h4
     obtain⟨v,p1,p2⟩:=hrep p h3 q hq
     have e1:(j + ys.length) * es≤p * es:=Nat.mul_le_mul_right _ (by omega)
     rw [Nat.add_mul] at e1
     exact⟨v,by rw [mid_get _ _ _ _ (by omega),if_neg (by omega),if_neg (by omega)];exact p1,key p2⟩
end
theorem flatten_rep {α:Type} (z:List α):∀ (n i j:Nat),i < n→j < z.length→(List.replicate n z).flatten[i * z.length + j]? = z[j]?
 | 0,_,_,h,_=>by omega
 | n + 1,0,j,_,hj=>by rw [List.replicate_succ,List.flatten_cons,Nat.zero_mul,Nat.zero_add,List.getElem?_append_left hj]
 | n + 1,i + 1,j,hi,hj=>by
  have h1:(i + 1) * z.length + j=z.length + (i * z.length + j):=by rw [Nat.add_mul];omega
  rw [List.replicate_succ,List.flatten_cons,h1,List.getElem?_append_right (by omega),Nat.add_sub_cancel_left,flatten_rep z n i j (by omega) hj]
def zeroIs:List Value→List D→Prop
 | [],[]=>True
 | v::vs,d::ds=>(cSV v = .d d∨(cSV v = .nils∧∃ es,d = .slice es []))∧zeroIs vs ds
 | _,_=>False
theorem zeroIs_spec {X:Nat→Prop} {e:Env} {w:World}:∀ {vs:List Value} {ds:List D},zeroIs vs ds→RelL X e w (vs.map cSV) vs→vs.length=ds.length∧∀ q (hq:q < ds.length),∃ v,vs[q]? = some v∧RepC X w v ds[q]
 | [],[],_,_=>⟨rfl,fun q hq=>by simp at hq⟩
 | [],_::_,h,_=>h.elim
 | _::_,[],h,_=>h.elim
 | v::vs,d::ds,⟨h1,h2⟩,⟨g1,g2⟩=>by
  obtain⟨i1,i2⟩:=zeroIs_spec h2 g2
  refine⟨by simp [i1],fun q hq=>?_⟩
  cases q with
  | zero =>
   refine⟨v,rfl,?_⟩
   rcases h1 with h1|⟨h1,es,h3⟩
   ·rw [h1] at g1;exact g1
   ·rw [h1] at g1
    have g1:v = .slice none 0 0:=g1
    subst g1
    show RepC X w _ d
    rw [h3];exact .nil
  | succ q =>
   obtain⟨u,u1,u2⟩:=i2 q (by simpa using hq)
   exact⟨u,by simpa using u1,by simpa using u2⟩
theorem zeroCells_list (z:Array Value) (n:Nat) (hz:0 < z.size):(Builtin.zeroCells z n).toList=(List.replicate n z.toList).flatten:=by
 apply List.ext_getElem?
 intro p
 have hfl:((List.replicate n z.toList)).flatten.length=n * z.size:=by simp
 by_cases hp:p < n * z.size
 ·have h1:p / z.size < n:=Nat.div_lt_of_lt_mul (by rw [Nat.mul_comm];exact hp)
  have h2:=flatten_rep z.toList n (p / z.size) (p % z.size) h1 (by rw [Array.length_toList];exact Nat.mod_lt _ hz)
  rw [Array.length_toList,Nat.div_add_mod'] at h2
  rw [h2]
  simp [Builtin.zeroCells,hp,getElem!_pos,Nat.mod_lt _ hz]
 ·rw [List.getElem?_eq_none (by simp [Builtin.zeroCells];omega),List.getElem?_eq_none (by omega)]
section
variable {Γ : Ctx} {k : Nat} {L : Sl} {H H' : Hp} {K : c6} {ops : List Oper} {rest : List Oper} {t : TypeId}
theorem ds_clear (zs:List D) {tb te ty:TypeId} {pos:String} {af:Array Edge} {g:Option (Nat × Bool)} {i es j n:Nat} {xs:List (List D)} {x:Operand} (hx:bi L x = .rsl i es j n) (hH:Hp.get H i=some (.row tb es xs)) (ht:(bg Γ.τ t).sh = .slice te) (hkn:(bg Γ.τ te).sh.known=true)
  (hz:zeroIs (bg Γ.τ te).zero zs) (hzok:zeroOk (bg Γ.τ te).zero=true) (hzl:(bg Γ.τ te).zero.length=es) (he:0 < es) (hpos:0 < n) (hjn:j + n≤xs.length) (hw:bk ops L g=some true)
  (hS:setF H i (.row tb es (xs.take j++List.replicate n zs++xs.drop (j + n))) some=some H') (hk:DS false Γ ops rest K k L H') :
  DS false Γ ops (⟨none,.call { callee:=.builtin .clear,args:=#[x],argTypes:=#[t] },ty,pos,af,g⟩::rest) K k L H:=by
 rw [setF_eq] at hS
 cases hS
 refine dl_run hw fun e a w m=>?_
 obtain⟨inf,z,hi,hzz,hs,_,hzc⟩:=Ctx.info (Sh.known_ne hkn)
 obtain⟨_,_,hcs⟩:=evT m hx (cSV_rsl · _ _ _ _)
 have hzsz:z.cells.size=es:=by rw [← Array.length_toList,hzc,hzl]
 rcases hcs with ⟨_,_,_,rfl⟩|⟨g0,n0,cap,o,hη,hkc,hmx,hnc,hv,ho⟩
 ·omega
 have:=ho (.inl (by omega))
 subst this
 obtain⟨vs,hown,hes',_,_⟩:=(m.heap _ (Hp.mem_of hH)).2
 rcases hown.2 with ⟨h2,_⟩|⟨g',cap',cur,h2,_,hg,_,_,hcsz,_⟩
 ·rw [hη] at h2;cases h2
 rw [hη] at h2
 cases h2
 have hzr:=zeroOk_spec (X:=Γ.X e H) (e:=e) (w:=w) _ hzok
 obtain⟨zl,zr⟩:=zeroIs_spec hz hzr.1
 have hN:=zeroCells_list z.cells n (by omega)
 have hNl:(Builtin.zeroCells z.cells n).toList.length=n * es:=by simp [Builtin.zeroCells,hzsz]
 have hyl:(List.replicate n zs).length=n:=List.length_replicate
 have hone:∀ v∈(Builtin.zeroCells z.cells n).toList,v.oneCell' = true:=fun v hv=>hzr.2 v (by rw [← hzc];exact zeroCells_mem hv)
 obtain⟨hfit,m2⟩:=row_write m hH (j:=j) (ys:=List.replicate n zs) (N:=(Builtin.zeroCells z.cells n).toList) (by rw [hyl];exact hjn) (by rw [hNl,hyl]) (fun p hp=>by rw [List.getElem_replicate,← zl,hzl]) hone (fun p hp q hq=>by
  have hq':q < zs.length:=by simpa using hq
  obtain⟨v,q1,q2⟩:=zr q hq'
  refine⟨v,?_,by simpa using q2⟩
  have hqe:q < es:=by rw [← hzl,zl];exact hq'
  rw [hN,← hzsz,← Array.length_toList,flatten_rep _ _ _ _ (by simpa using hp) (by rw [Array.length_toList,hzsz];exact hqe),hzc]
  exact q1) hη hg
 rw [hyl] at m2
 have hst:=run_storeCells_at Γ.P g0 (j * es) tb (Builtin.zeroCells z.cells n).toList 0 cur w hg (by simpa using hfit) hone
 have hrun:(execOp a.eval ⟨none,.call { callee:=.builtin .clear,args:=#[x],argTypes:=#[t] },ty,pos,af,g⟩).run Γ.P w = .ok (.value (.tuple #[])) (w.setRow g0 (cur.toList.take (j * es)++(Builtin.zeroCells z.cells n).toList++cur.toList.drop (j * es + (Builtin.zeroCells z.cells n).toList.length)).toArray):=by
  have hzv:(zeroValue te).run Γ.P w = .ok z w:=by
   simp [zeroValue,typeInfo,hi,hzz]
  obtain⟨n',rfl⟩:∃ n',n=n' + 1:=⟨n - 1,by omega⟩
  simp only [Nat.add_zero] at hst
  simp [execOp,resolve,invoke,builtin,hv,Builtin.clear_,run_underlying (Ctx.slice ht),hzv,hst]
 unfold Oper.wp
 rw [hrun]
 exact⟨k,L,_,e,m2,hk⟩
end
theorem run_append_make {P:Program} (w:World) (t ti ty e:TypeId) (i:TypeInfo) (z:Value) (ht:P.underlying t=some (.slice e)) (hti:P.underlying ti=some (.int .i64)) (hi:P.info? e=some i) (hz:i.zero=some z)
  (n:Nat) (h0:0 < n) (h63:(n:Int)≤9223372036854775807) (h48:n * i.bytes≤281474976710656) (hs:i.size≠0) :
  (Builtin.append_ #[t,ti] ty #[.slice none 0 0,.int .i64 n]).run P w =
   .ok (.slice (some ⟨w.heap.size,0,none⟩) n (grownCap w n 0 e)) (w.drew.alloc (.cells (Builtin.zeroCells z.cells n++Builtin.zeroCells z.cells (grownCap w n 0 e - n)) e)):=by
 have hn:n≠0:=by omega
 have h63':¬ (9223372036854775807 < (n:Int)):=by omega
 have h48':¬ (281474976710656 < Builtin.nextslicecap n 0 * i.bytes):=by rw [nextslicecap_zero h0];omega
 have hw:IntKind.i64.wrap (n:Int)=n:=by simp [IntKind.wrap,IntKind.bits,IntKind.signed];omega
 have hl:¬ ((n:Int) < 0):=by omega
 have hb:¬ (281474976710656 < (n:Int) * (i.bytes:Int)):=by
  have:((n * i.bytes:Nat):Int)≤281474976710656:=by omega
  rw [Int.natCast_mul] at this;omega
 simp [Builtin.append_,asInt,asIntOf,run_underlying ht,run_underlying hti,sizeOf,typeInfo,zeroValue,hi,hz,hw,hl,hb,hn,h63',h48',Question.forced,run_firstCells_none,newRow,grownCap]
 intro h
 exact absurd h (Nat.mul_ne_zero hn hs)
section
variable {Γ : Ctx} {k : Nat} {L : Sl} {H : Hp} {K : c6} {ops : List Oper} {rest : List Oper} {t : TypeId}
theorem evNils {kk:Nat→Prop} {a:Act} {w:World} {e:Env} (m:Models Γ kk L H e a w) {x:Operand} (hx:bi L x = .nils):a.eval x = .slice none 0 0:=by
 have hok:opOk x:=by
  cases x with
  | const v=>simp only [bi] at hx;unfold cSV at hx;split at hx <;> simp_all [opOk,cOk]
  | _=>trivial
 have:=m.op x hok
 rw [hx] at this;exact this
theorem ds_apmk (zs:List D) {d n es:Nat} {te ti ty:TypeId} {pos:String} {af:Array Edge} {g:Option (Nat × Bool)} {x y:Operand} {m':Int} (hx:bi L x = .nils) (hy:bi L y = .d (.int .i64 m')) (hn:m' = (n:Int)) (ht:(bg Γ.τ t).sh = .slice te) (hti:(bg Γ.τ ti).sh = .int .i64)
  (hkn:(bg Γ.τ te).sh.known=true) (hes:(bg Γ.τ te).cells=es) (hz:zeroIs (bg Γ.τ te).zero zs) (hzok:zeroOk (bg Γ.τ te).zero=true) (hzl:(bg Γ.τ te).zero.length=es) (he:0 < es) (h0:0 < n) (hroom:n * (bg Γ.τ te).bytes≤281474976710656) (h63:n≤maxLen)
  (hw:bk ops L g=some true) (hd:Nat.blt d Γ.n=true) (hk:DS false Γ ops rest K (k + 1) ((d,.row k)::L) ((k,.row te es (List.replicate n zs))::H)) :
  DS false Γ ops (⟨some d,.call { callee:=.builtin .append,args:=#[x,y],argTypes:=#[t,ti] },ty,pos,af,g⟩::rest) K k L H:=by
 subst hn
 refine dl_run hw fun e a w m=>?_
 obtain⟨inf,z,hi,hzz,hs,hb,hzc⟩:=Ctx.info (Sh.known_ne hkn)
 have hzsz:z.cells.size=es:=by rw [← Array.length_toList,hzc,hzl]
 have hti':Γ.P.underlying ti=some (.int .i64):=by
  have hti2:Γ.sh ti = .int .i64:=hti
  obtain⟨u,inf,z,h1,_,_,h4,_⟩:=ti_parts (Γ.ti (t:=ti) (by rw [hti2];intro h;cases h))
  rw [h1]
  have h5:shOf Γ.P u = .int .i64:=h4▸hti2
  cases u <;> simp [shOf] at h5 ⊢
  exact h5
 have hrun:=run_append_make (P:=Γ.P) w t ti ty te inf z (Ctx.slice ht) hti' hi hzz n h0 (by unfold maxLen at h63;omega) (by rw [hb];exact hroom) (by rw [hs];have:Γ.cells te=es:=hes;omega)
 have hge:=grownCap_ge w n 0 te
 have hcm:=grownCap_le_maxLen w n 0 te h63
 generalize grownCap w n 0 te=c at hrun hge hcm
 have hop:(execOp a.eval ⟨some d,.call { callee:=.builtin .append,args:=#[x,y],argTypes:=#[t,ti] },ty,pos,af,g⟩).run Γ.P w = .ok (.value (.slice (some ⟨w.heap.size,0,none⟩) n c)) (w.drew.alloc (.cells (Builtin.zeroCells z.cells n++Builtin.zeroCells z.cells (c - n)) te)):=by
  simp only [execOp,resolve,invoke,builtin,Sem.run_bind,Sem.run_pure,Result.andThen_ok,List.map_toArray,List.map_cons,List.map_nil,evNils m hx,evI m hy,hrun]
 unfold Oper.wp
 rw [hop]
 have m1:Models Γ (lo k) L H e a w.drew:=m.below ((Beld.refl _ _ _).drew)
 have hze:¬ e.dom k:=fun h=>lo_not k ((m.top k).1 h)
 have hη:(e.bindRow k (.slice (some ⟨w.heap.size,0,none⟩) n c)).η k = .slice (some ⟨w.heap.size,0,none⟩) n c:=if_pos rfl
 have hNl:(Builtin.zeroCells z.cells n).toList.length=n * es:=by simp [Builtin.zeroCells,hzsz]
 have hfl:=zeroCells_list z.cells n (by omega)
 have m2:=m1.new (lo_not k) (hb:=.row te es (List.replicate n zs)) (e':=e.bindRow k (.slice (some ⟨w.heap.size,0,none⟩) n c)) (w':=w.drew.alloc (.cells (Builtin.zeroCells z.cells n++Builtin.zeroCells z.cells (c - n)) te)) (fun i=>or_congr (m.top i) Iff.rfl) (e.bindRow_ext _ _ hze) (below_alloc Γ.dr _ _)
  (fun b hb=>by simp only [HB.owned,hη,Value.ownBlock,Option.some.injEq] at hb;subst hb;exact Nat.le_refl _) (fun hX=>by
   have hzr:=zeroOk_spec (X:=Γ.X (e.bindRow k (.slice (some ⟨w.heap.size,0,none⟩) n c)) ((k,.row te es (List.replicate n zs))::H)) (e:=e) (w:=w.drew.alloc (.cells (Builtin.zeroCells z.cells n++Builtin.zeroCells z.cells (c - n)) te)) _ hzok
   obtain⟨zl,zr⟩:=zeroIs_spec hz hzr.1
   refine⟨(Builtin.zeroCells z.cells n).toList,⟨by rw [hNl,List.length_replicate],.inr ⟨w.heap.size,c,_,by rw [hη,List.length_replicate],Nat.zero_le _,heap_alloc_new w.drew _,by rw [List.length_replicate];exact hge,hcm,?_,?_⟩⟩,fun p hp=>by rw [List.getElem_replicate,← zl,hzl],fun v hv=>hzr.2 v (by rw [← hzc];exact zeroCells_mem hv),fun p hp q hq=>?_⟩
   ·simp [Builtin.zeroCells,hzsz,← Nat.add_mul];congr 1;omega
   ·rw [List.length_replicate,Array.toList_append,List.take_append_of_le_length (by rw [hNl];exact Nat.le_refl _),List.take_of_length_le (by rw [hNl];exact Nat.le_refl _)]
   ·have hq':q < zs.length:=by simpa using hq
    obtain⟨v,q1,q2⟩:=zr q hq'
    refine⟨v,?_,by simpa using q2⟩
    have hqe:q < es:=by rw [← hzl,zl];exact hq'
    rw [hfl,← hzsz,← Array.length_toList,flatten_rep _ _ _ _ (by simpa using hp) (by rw [Array.length_toList,hzsz];exact hqe),hzc]
    exact q1)
 have m3:=m2.cast (with1_lo k)
 exact⟨k + 1,_,_,_,m3.put (s:=.row k) (v:=.slice (some ⟨w.heap.size,0,none⟩) n c) (Nat.le_of_ble_eq_true hd) ⟨.inr rfl,hη.symm,rfl⟩,hk⟩
theorem ev_cap_nils {kk:Nat→Prop} {te ty:TypeId} {x:Operand} (ht:Γ.sh t = .slice te) (hx:bi L x = .nils):Ev Γ kk L H (.call { callee:=.builtin .cap,args:=#[x],argTypes:=#[t] }) ty (.d (.int .i64 0)):=by
 intro e a w m
 have hv:=evNils m hx
 refine⟨.int .i64 0,fun _ _ _ _ w' _=>?_,.int (by decide)⟩
 simp [execOp,resolve,invoke,builtin,hv,Builtin.cap_,goInt,run_underlying (Ctx.slice ht)]
end
attribute [local irreducible] DW DS DL DQ Ev FnOk FnP thenD b7 DT
def cmpG (p:Fct):List Fct→List Fct
 | []=>[]
 | y::l=>if c9 y p=0 then cmpG y l else y::cmpG y l
def cmpF:List Fct→List Fct
 | []=>[]
 | x::l=>x::cmpG x l
theorem cmpG_snoc:∀ (l:List Fct) (p y:Fct),cmpG p (l++[y])=cmpG p l++(if c9 y ((p::l).getLast (by simp))=0 then [] else [y])
 | [],p,y=>by
  show (if c9 y p=0 then cmpG y [] else y::cmpG y [])=[]++_
  rfl
 | x::l,p,y=>by
  rw [List.cons_append]
  simp only [cmpG]
  rw [cmpG_snoc l x y,List.getLast_cons (by simp:x::l≠[])]
  split <;> simp
theorem cmpF_take {l:List Fct} {n:Nat} (h0:0 < n) (hn:n < l.length):cmpF (l.take (n + 1))=cmpF (l.take n)++(if c9 l[n] (l[n - 1]'(by omega))=0 then [] else [l[n]]):=by
 rw [List.take_succ_eq_append_getElem hn]
 have hne:l.take n≠[]:=by
  intro h
  have:=congrArg List.length h
  rw [List.length_take,List.length_nil] at this
  omega
 obtain⟨x,r,hx⟩:=List.exists_cons_of_ne_nil hne
 have hl:(l.take n).getLast hne=l[n - 1]'(by omega):=by
  rw [List.getLast_eq_getElem,List.getElem_take]
  have:(l.take n).length - 1=n - 1:=by rw [List.length_take,Nat.min_eq_left (by omega)]
  simp only [this]
 simp only [hx,List.cons_append,cmpF]
 rw [cmpG_snoc]
 have:(x::r).getLast (by simp)=l[n - 1]'(by omega):=by rw [← hl];congr 1;exact hx.symm
 rw [this]
theorem cmpF_one {l:List Fct} (h:l.length≤1):cmpF l=l:=by
 match l,h with
 | [],_=>rfl
 | [x],_=>rfl
set_option maxHeartbeats 8000000 in
theorem compact_fn (l:List Fct) (hl:l.length≤4398046511104):FnOk false Tryz.prog tab b8 134 [.row 0,.fn 135 []] 0 1 [(0,.row 48 2 (l.map ay))] (fun _ r H=>r = .d (.slice 2 ((cmpF l).map ay))∧H=[]):=by
 refine fn_enterF _ Tryz.func134 rfl rfl (by kernel_rfl) ?_
 intro O w0 E0 β0
 have ll:(l.map ay).length=l.length:=List.length_map _
 by_cases h2:l.length < 2
 ·rw [cmpF_one (by omega)]
  repeat' (first|refine z0 ?_|apply ag|apply ae|refine z16 ?_|apply ah|apply ai|apply aa|(refine z23 ?_ ?_ <;> intro hg)|fail)
  all_goals try (exfalso;omega)
  refine bl (cg 4 rfl rfl rfl) ?_
  repeat' (first|apply ak|apply av)
  exact⟨.inl rfl,_,rfl,0,[],trivial,rfl,rfl,rfl,rfl,rfl,rfl⟩
 ·repeat' (first|refine z0 ?_|apply ag|apply ae|refine z16 ?_|apply ah|apply ai|apply aa|(refine z23 ?_ ?_ <;> intro hg)|fail)
  all_goals try (exfalso;omega)
  refine bh (ι:=Nat) (fun i=>⟨1,[(0,.row 0),(1,.fn 135 []),(5,.d (.int .i64 i))],[(0,.row 48 2 (l.map ay))]⟩)
   (fun i=>1≤i∧i≤l.length∧cmpF (l.take i)=l.take i) (fun i=>l.length - i) 1 ⟨by omega,by omega,cmpF_one (by rw [List.length_take];omega)⟩ (aj id ⟨rfl,rfl,rfl,trivial⟩ ⟨rfl,trivial⟩ rfl rfl rfl rfl rfl rfl) ?_
  rintro i ⟨g0,g1,g2⟩
  by_cases hi:i < l.length
  ·have hs:Fn 135 [elFct l[i],elFct (l[((i:Int) - 1).toNat]'(by omega))] (fun r=>r = .d (.bool (decide (c9 l[i] (l[i - 1]'(by omega))=0)))):=by
    have e:((i:Int) - 1).toNat=i - 1:=by omega
    simp only [e]
    exact rsame_fn _ _
   have ht:=cmpF_take (by omega:0 < i) hi
   cases hb:decide (c9 l[i] (l[i - 1]'(by omega))=0) with
   | false =>
    have hb':=of_decide_eq_false hb
    rw [hb] at hs
    rw [if_neg hb',g2,← List.take_succ_eq_append_getElem hi] at ht
    repeat' (first|refine z0 ?_|apply ag|refine z5 ?_|refine z10 ?_|apply ae|refine z16 ?_|refine z20 ?_|apply ah|apply ai|apply aq|refine z19 ?_|apply aa|apply ap|apply aw|refine z17 ?_|(apply dt_callV;exact rfl;exact rfl;exact rfl;exact rfl;apply hs;exact rfl;(exact rfl);exact rfl;exact rfl;exact⟨_,rfl⟩;rintro _ rfl)|(refine z23 ?_ ?_ <;> intro hg)|fail)
    all_goals try (exfalso;omega)
    exact⟨i + 1,⟨by omega,by omega,ht⟩,aj id ⟨rfl,rfl,rfl,trivial⟩ ⟨rfl,trivial⟩ rfl rfl rfl rfl rfl rfl,by show l.length - (i + 1) < l.length - i;omega⟩
   | true =>
    have hb':=of_decide_eq_true hb
    rw [hb] at hs
    rw [if_pos hb',List.append_nil] at ht
    repeat' (first|refine z0 ?_|apply ag|refine z5 ?_|refine z10 ?_|apply ae|refine z16 ?_|refine z20 ?_|apply ah|apply ai|apply aq|refine z18 ?_|apply aa|apply ap|refine z17 ?_|(apply dt_callV;exact rfl;exact rfl;exact rfl;exact rfl;apply hs;exact rfl;(exact rfl);exact rfl;exact rfl;exact⟨_,rfl⟩;rintro _ rfl)|(refine z23 ?_ ?_ <;> intro hg)|fail)
    all_goals try (exfalso;omega)
    refine bh (ι:=Nat × Nat × List Fct) (fun x=>⟨1,[(0,.row 0),(1,.fn 135 []),(5,.d (.int .i64 x.1)),(6,.rsl 0 2 i ((l.map ay).length - i)),(7,.d (.int .i64 x.2.1))],[(0,.row 48 2 (x.2.2.map ay))]⟩)
     (fun x=>x.2.2.length=l.length∧1≤x.2.1∧x.2.1≤l.length - i∧i≤x.1∧x.1 + 1≤i + x.2.1∧x.2.2.take x.1=cmpF (l.take (i + x.2.1))∧∀ p,i + x.2.1≤p + 1→x.2.2[p]? = l[p]?) (fun x=>l.length - i - x.2.1)
     (i,1,l) ⟨rfl,by dsimp only;omega,by dsimp only;omega,by dsimp only;omega,by dsimp only;omega,by rw [ht,g2],fun _ _=>rfl⟩ (aj id ⟨rfl,rfl,rfl,rfl,rfl,trivial⟩ ⟨rfl,trivial⟩ rfl rfl rfl rfl rfl rfl) ?_
    rintro⟨u,k,o⟩ ⟨q1,q2,q3,q4,q5,q6,q7⟩
    dsimp only at q1 q2 q3 q4 q5 q6 q7 ⊢
    have lo:(o.map ay).length=o.length:=List.length_map _
    clear hs
    by_cases hk:k < l.length - i
    ·have o1:o[i + k]'(by omega)=l[i + k]'(by omega):=by
      have:=q7 (i + k) (by omega)
      rw [List.getElem?_eq_getElem (by omega),List.getElem?_eq_getElem (by omega)] at this
      exact Option.some.inj this
     have o2:o[i + k - 1]'(by omega)=l[i + k - 1]'(by omega):=by
      have:=q7 (i + k - 1) (by omega)
      rw [List.getElem?_eq_getElem (by omega),List.getElem?_eq_getElem (by omega)] at this
      exact Option.some.inj this
     have hs:Fn 135 [elFct (o[i + k]'(by omega)),elFct (o[i + ((k:Int) - 1).toNat]'(by omega))] (fun r=>r = .d (.bool (decide (c9 (l[i + k]'(by omega)) (l[i + k - 1]'(by omega))=0)))):=by
      have e:i + ((k:Int) - 1).toNat=i + k - 1:=by omega
      simp only [e,o1,o2]
      exact rsame_fn _ _
     have hc:=cmpF_take (l:=l) (n:=i + k) (by omega) (by omega)
     cases hb2:decide (c9 (l[i + k]'(by omega)) (l[i + k - 1]'(by omega))=0) with
     | true =>
      have hb3:=of_decide_eq_true hb2
      rw [hb2] at hs
      rw [if_pos hb3,List.append_nil] at hc
      repeat' (first|refine z0 ?_|apply ag|refine z5 ?_|refine z10 ?_|apply ae|refine z16 ?_|refine z20 ?_|apply ah|apply ai|apply aq|refine z19 ?_|apply aa|apply ap|apply aw|refine z17 ?_|(apply dt_callV;exact rfl;exact rfl;exact rfl;exact rfl;apply hs;exact rfl;(exact rfl);exact rfl;exact rfl;exact⟨_,rfl⟩;rintro _ rfl)|(refine z23 ?_ ?_ <;> intro hg)|fail)
      all_goals try (exfalso;omega)
      exact⟨(u,k + 1,o),⟨q1,by dsimp only;omega,by dsimp only;omega,by dsimp only;omega,by dsimp only;omega,by dsimp only;rw [q6];exact hc.symm,fun p hp=>q7 p (by dsimp only at hp;omega)⟩,aj id ⟨rfl,rfl,rfl,rfl,rfl,trivial⟩ ⟨rfl,trivial⟩ rfl rfl rfl rfl rfl rfl,by show l.length - i - (k + 1) < l.length - i - k;omega⟩
     | false =>
      have hb3:=of_decide_eq_false hb2
      rw [hb2] at hs
      rw [if_neg hb3] at hc
      repeat' (first|refine z0 ?_|apply ag|(apply ds_stP;exact rfl;exact rfl;(apply hv_get;(omega));exact rfl;exact rfl;(exact hv_set rfl);exact rfl;exact rfl;exact rfl;exact rfl;exact rfl;exact rfl)|refine z5 ?_|refine z10 ?_|apply ae|refine z16 ?_|refine z20 ?_|apply ah|apply ai|apply aq|refine z18 ?_|apply aa|apply ap|apply aw|refine z17 ?_|(apply dt_callV;exact rfl;exact rfl;exact rfl;exact rfl;apply hs;exact rfl;(exact rfl);exact rfl;exact rfl;exact⟨_,rfl⟩;rintro _ rfl)|(refine z23 ?_ ?_ <;> intro hg)|fail)
      all_goals try (exfalso;omega)
      refine⟨(u + 1,k + 1,o.set u (o[i + k]'(by omega))),⟨by dsimp only;rw [List.length_set];exact q1,by dsimp only;omega,by dsimp only;omega,by dsimp only;omega,by dsimp only;omega,?_,fun p hp=>?_⟩,aj id ⟨rfl,rfl,rfl,rfl,rfl,trivial⟩ ⟨rfl,trivial⟩ rfl rfl rfl rfl rfl rfl,by show l.length - i - (k + 1) < l.length - i - k;omega⟩
      ·dsimp only
       rw [List.take_succ_eq_append_getElem (by rw [List.length_set];omega),List.getElem_set_self,List.take_set,List.set_eq_of_length_le (by rw [List.length_take];omega),q6,o1]
       exact hc.symm
      ·dsimp only at hp ⊢
       rw [List.getElem?_set_ne (by omega)]
       exact q7 p (by omega)
    ·repeat' (first|refine z0 ?_|apply ag|refine z5 ?_|apply ae|refine z16 ?_|refine z20 ?_|apply ah|apply ai|apply aq|apply aa|apply ap|refine z17 ?_|(refine z23 ?_ ?_ <;> intro hg)|fail)
     all_goals try (exfalso;omega)
     have hke:i + k=l.length:=by omega
     rw [hke,List.take_of_length_le (Nat.le_refl _)] at q6
     refine ds_clear [.int .i64 0,.slice 1 []] rfl rfl rfl rfl ⟨.inl rfl,.inr ⟨rfl,1,rfl⟩,trivial⟩ rfl rfl (by omega) (by omega) (by omega) rfl rfl ?_
     repeat' (first|refine z0 ?_|apply ag|apply ae|refine z16 ?_|apply aa)
     all_goals try (exfalso;omega)
     refine bl (ent_cut (n:=u) 4 rfl rfl (by simp only [List.length_append,List.length_take,List.length_replicate,List.length_drop];omega) rfl) ?_
     refine bl (cg 4 rfl rfl rfl) ?_
     repeat' (first|apply ak|apply av|apply bq)
     refine⟨.inl rfl,_,rfl,0,[],trivial,rfl,rfl,rfl,rfl,?_,rfl⟩
     refine congrArg (fun z=>SV.d (.slice 2 z)) ?_
     have hu:((o.map ay).take u).length=u:=by rw [List.length_take];omega
     show List.take u ((o.map ay).take u++List.replicate _ _++List.drop _ (o.map ay))=_
     rw [List.append_assoc,List.take_append_of_le_length (by omega),List.take_of_length_le (by omega),← List.map_take,q6]
  ·rw [List.take_of_length_le (by omega)] at g2
   rw [g2]
   repeat' (first|refine z0 ?_|apply ag|refine z5 ?_|apply ae|refine z16 ?_|refine z20 ?_|apply ah|apply ai|apply aq|apply aa|apply ap|refine z17 ?_|(refine z23 ?_ ?_ <;> intro hg)|fail)
   all_goals try (exfalso;omega)
   refine bl (cg 4 rfl rfl rfl) ?_
   repeat' (apply ak)
   exact⟨.inl rfl,_,rfl,0,[],trivial,rfl,rfl,rfl,rfl,rfl,rfl⟩
def Strict (l:List Fct):Prop:=l.Pairwise fun x y=>c9 x y < 0
theorem lt_irrefl {x:Fct} (h:c9 x x < 0):False:=by rw [ordF_self] at h;omega
theorem lt_asymm {x y:Fct} (h:c9 x y < 0) (g:c9 y x < 0):False:=lt_irrefl (ordF_trans h g)
theorem strict_ext:∀ {a b:List Fct},Strict a→Strict b→(∀ x,x∈a↔x∈b)→a=b
 | [],[],_,_,_=>rfl
 | [],y::b,_,_,h=>by have:=(h y).2 List.mem_cons_self;simp at this
 | x::a,[],_,_,h=>by have:=(h x).1 List.mem_cons_self;simp at this
 | x::a,y::b,ha,hb,h=>by
  obtain⟨a1,a2⟩:=List.pairwise_cons.1 ha
  obtain⟨b1,b2⟩:=List.pairwise_cons.1 hb
  have hxy:x=y:=by
   rcases List.mem_cons.1 ((h x).1 List.mem_cons_self) with h1|h1
   ·exact h1
   ·rcases List.mem_cons.1 ((h y).2 List.mem_cons_self) with h2|h2
    ·exact h2.symm
    ·exact (lt_asymm (b1 x h1) (a1 y h2)).elim
  subst hxy
  rw [strict_ext a2 b2 fun z=>?_]
  constructor
  ·intro hz
   rcases List.mem_cons.1 ((h z).1 (List.mem_cons_of_mem _ hz)) with h1|h1
   ·subst h1;exact (lt_irrefl (a1 z hz)).elim
   ·exact h1
  ·intro hz
   rcases List.mem_cons.1 ((h z).2 (List.mem_cons_of_mem _ hz)) with h1|h1
   ·subst h1;exact (lt_irrefl (b1 z hz)).elim
   ·exact h1
theorem cmpG_spec:∀ (l:List Fct) (p:Fct),(p::l).Pairwise (fun a b=>c9 b a ≥ 0)→Strict (p::cmpG p l)∧∀ x,x∈p::cmpG p l↔x∈p::l
 | [],p,_=>⟨List.pairwise_cons.2 ⟨fun x hx=>by simp [cmpG] at hx,.nil⟩,fun x=>Iff.rfl⟩
 | y::l,p,h=>by
  obtain⟨h1,h2⟩:=List.pairwise_cons.1 h
  obtain⟨i1,i2⟩:=cmpG_spec l y h2
  unfold cmpG
  split
  ·rename_i h3
   have:=ordF_eq0 h3
   subst this
   refine⟨i1,fun x=>(i2 x).trans ⟨fun hx=>List.mem_cons_of_mem _ hx,fun hx=>?_⟩⟩
   rcases List.mem_cons.1 hx with rfl|hx
   ·exact List.mem_cons_self
   ·exact hx
  ·rename_i h3
   have hpy:c9 p y < 0:=by have:=h1 y List.mem_cons_self;rw [ordF_anti];omega
   refine⟨List.pairwise_cons.2 ⟨fun z hz=>?_,i1⟩,fun x=>?_⟩
   ·rcases List.mem_cons.1 hz with rfl|hz
    ·exact hpy
    ·exact ordF_trans hpy ((List.pairwise_cons.1 i1).1 z hz)
   ·rw [List.mem_cons,List.mem_cons (a:=x) (b:=p),i2 x]
theorem cmpF_spec {s:List Fct} (h:s.Pairwise (fun a b=>c9 b a ≥ 0)):Strict (cmpF s)∧∀ x,x∈cmpF s↔x∈s:=by
 match s,h with
 | [],_=>exact⟨.nil,fun _=>Iff.rfl⟩
 | p::l,h=>exact cmpG_spec l p h
theorem kFrom_spec {l:List Fct} {f:Fct}:∀ (n:Nat),n≤l.length→kFrom l f n≤n∧(∀ j (hj:j < l.length),kFrom l f n≤j→j < n→0 < c9 l[j] f)∧(∀ j (hj:j < l.length),j + 1=kFrom l f n→¬ 0 < c9 l[j] f)
 | 0,_=>⟨Nat.le_refl _,fun j _ _ h=>by omega,fun j _ h=>by simp [kFrom] at h⟩
 | n + 1,hn=>by
  obtain⟨i1,i2,i3⟩:=kFrom_spec (l:=l) (f:=f) n (by omega)
  rw [kFrom_succ (by omega)]
  split
  ·rename_i h
   refine⟨by omega,fun j hj h1 h2=>?_,i3⟩
   by_cases hjn:j=n
   ·subst hjn;exact h
   ·exact i2 j hj h1 (by omega)
  ·rename_i h
   refine⟨Nat.le_refl _,fun j hj h1 h2=>by omega,fun j hj h1=>?_⟩
   have:j=n:=by omega
   subst this
   exact h
theorem hasF_iff {l:List Fct} {f:Fct}:hasF l f=true↔f∈l:=by
 unfold hasF
 rw [List.any_eq_true]
 constructor
 ·rintro⟨x,hx,h⟩;rw [← ordF_eq0 (of_decide_eq_true h)];exact hx
 ·intro h;exact⟨f,h,decide_eq_true (ordF_self f)⟩
theorem insF_spec {l:List Fct} {f:Fct} (h:Strict l):Strict (insF l f)∧∀ x,x∈insF l f↔x∈l∨x=f:=by
 unfold insF
 split
 ·rename_i hh
  have:=hasF_iff.1 hh
  exact⟨h,fun x=>⟨.inl,fun hx=>hx.elim id fun e=>e▸this⟩⟩
 ·rename_i hh
  have hf:f ∉ l:=fun hm=>hh (hasF_iff.2 hm)
  obtain⟨k1,k2,k3⟩:=kFrom_spec (l:=l) (f:=f) l.length (Nat.le_refl _)
  generalize kFrom l f l.length=k at k1 k2 k3
  have hpi:=List.pairwise_iff_getElem.1 h
  have hlo:∀ j (hj:j < l.length),j < k→c9 l[j] f < 0:=by
   intro j hj hjk
   have hk1:k - 1 < l.length:=by omega
   have h1:=k3 (k - 1) hk1 (by omega)
   have hne:c9 l[k - 1] f≠0:=fun e=>hf (ordF_eq0 e▸List.getElem_mem hk1)
   have h2:c9 l[k - 1] f < 0:=by omega
   by_cases hjk1:j=k - 1
   ·subst hjk1;exact h2
   ·exact ordF_trans (hpi j (k - 1) hj hk1 (by omega)) h2
  have hhi:∀ j (hj:j < l.length),k≤j→c9 f l[j] < 0:=fun j hj hjk=>by have:=k2 j hj hjk hj;rw [ordF_anti];omega
  have htk:∀ x∈l.take k,c9 x f < 0:=by
   intro x hx
   obtain⟨j,hj,rfl⟩:=List.mem_iff_getElem.1 hx
   rw [List.length_take] at hj
   rw [List.getElem_take]
   exact hlo j (by omega) (by omega)
  have hdk:∀ x∈l.drop k,c9 f x < 0:=by
   intro x hx
   obtain⟨j,hj,rfl⟩:=List.mem_iff_getElem.1 hx
   rw [List.length_drop] at hj
   rw [List.getElem_drop]
   exact hhi (k + j) (by omega) (by omega)
  refine⟨List.pairwise_append.2 ⟨h.sublist (List.take_sublist _ _),List.pairwise_cons.2 ⟨hdk,h.sublist (List.drop_sublist _ _)⟩,fun x hx y hy=>?_⟩,fun x=>?_⟩
  ·rcases List.mem_cons.1 hy with rfl|hy
   ·exact htk x hx
   ·exact ordF_trans (htk x hx) (hdk y hy)
  ·rw [List.mem_append,List.mem_cons]
   constructor
   ·rintro (hx|rfl|hx)
    ·exact .inl (List.mem_of_mem_take hx)
    ·exact .inr rfl
    ·exact .inl (List.mem_of_mem_drop hx)
   ·rintro (hx|rfl)
    ·have:=hx
     rw [← List.take_append_drop k l] at this
     rcases List.mem_append.1 this with h1|h1
     ·exact .inl h1
     ·exact .inr (.inr h1)
    ·exact .inr (.inl rfl)
theorem setF_spec':∀ (l o:List Fct),Strict o→Strict (l.foldl insF o)∧∀ x,x∈l.foldl insF o↔x∈o∨x∈l
 | [],o,h=>⟨h,fun x=>by simp⟩
 | y::l,o,h=>by
  obtain⟨i1,i2⟩:=insF_spec (f:=y) h
  obtain⟨j1,j2⟩:=setF_spec' l (insF o y) i1
  refine⟨j1,fun x=>?_⟩
  rw [List.foldl_cons,j2,i2,List.mem_cons,or_assoc]
theorem bw (l:List Fct):Strict (b9 l)∧∀ x,x∈b9 l↔x∈l:=by
 obtain⟨h1,h2⟩:=setF_spec' l [] .nil
 exact⟨h1,fun x=>(h2 x).trans (by simp)⟩
theorem keep_set {s l:List Fct} (hp:s.Perm l) (hs:s.Pairwise (fun a b=>c9 b a ≥ 0)):cmpF s=b9 l :=
 strict_ext (cmpF_spec hs).1 (bw l).1 fun x=>by rw [(cmpF_spec hs).2,(bw l).2,hp.mem_iff]
structure Lv (ρ:Type) where
 rs:List ρ
 hd:List Fct→ρ→List Fct
 mw:List Fct→ρ→Bool
 A:List Fct→Prop
structure LvOk {ρ:Type} (V:Lv ρ):Prop where
 mono:∀ S T,V.A S→V.A T→Strict S→Strict T→(∀ x∈S,x∈T)→∀ r∈V.rs,V.mw T r=true→V.mw S r=true∧∀ x∈V.hd S r,x∈V.hd T r
 grow:∀ S T,V.A S→(∀ x∈S,x∈T)→(∀ x∈T,x∈S∨∃ r∈V.rs,∃ S',V.A S'∧Strict S'∧x∈V.hd S' r)→V.A T
structure Good {ρ:Type} (V:Lv ρ) (m0 T:List Fct):Prop where
 strict:Strict T
 a:V.A T
 sub:∀ x∈m0,x∈T
 few:∀ r∈V.rs,V.mw T r=true
 cl:∀ r∈V.rs,∀ x∈V.hd T r,x∈T
structure Fit {ρ:Type} (V:Lv ρ) (m0 M:List Fct):Prop where
 good:Good V m0 M
 len:M.length≤60
 least:∀ T,Good V m0 T→∀ x∈M,x∈T
structure InvM {ρ:Type} (V:Lv ρ) (m0 m:List Fct):Prop where
 strict:Strict m
 a:V.A m
 sub:∀ x∈m0,x∈m
 len:m.length≤60
 least:∀ T,Good V m0 T→∀ x∈m,x∈T
theorem Strict.nodup {l:List Fct} (h:Strict l):l.Nodup:=h.imp fun h he=>by subst he;exact lt_irrefl h
theorem nodup_len {α:Type}:∀ {a b:List α},a.Nodup→(∀ x∈a,x∈b)→a.length≤b.length
 | [],_,_,_=>Nat.zero_le _
 | x::a,b,hn,hs=>by
  obtain⟨h1,h2⟩:=List.nodup_cons.1 hn
  obtain⟨s,t,rfl⟩:=List.append_of_mem (hs x (List.mem_cons_self ..))
  have:=nodup_len (b:=s++t) h2 fun y hy=>by
   have hy':=hs y (List.mem_cons_of_mem _ hy)
   rcases List.mem_append.1 hy' with h|h
   ·exact List.mem_append_left _ h
   ·rcases List.mem_cons.1 h with rfl|h
    ·exact absurd hy h1
    ·exact List.mem_append_right _ h
  simp only [List.length_append,List.length_cons] at this ⊢
  omega
theorem setF_lenle (l:List Fct):(b9 l).length≤l.length:=by
 have h:=setF_len l []
 rw [List.length_nil,Nat.add_zero] at h
 exact h
section
variable {ρ : Type} {V : Lv ρ} {m0 m m' : List Fct}
theorem Fit.unique {M M':List Fct} (h:Fit V m0 M) (h':Fit V m0 M'):M=M' :=
 strict_ext h.good.strict h'.good.strict fun x=>⟨h.least M' h'.good x,h'.least M h.good x⟩
theorem inv_first (h:Strict m0) (ha:V.A m0) (hl:m0.length≤60):InvM V m0 m0:=⟨h,ha,fun _ h=>h,hl,fun _ hT=>hT.sub⟩
theorem no_many (hV:LvOk V) (h:InvM V m0 m) {r:ρ} (hr:r∈V.rs) (hm:V.mw m r=false):¬ ∃ M,Fit V m0 M:=by
 rintro⟨M,hM⟩
 have:=(hV.mono m M h.a hM.good.a h.strict hM.good.strict (h.least M hM.good) r hr (hM.good.few r hr)).1
 rw [hm] at this;cases this
theorem head_in (hV:LvOk V) (h:InvM V m0 m) {r:ρ} (hr:r∈V.rs) {x:Fct} (hx:x∈V.hd m r) {T:List Fct} (hT:Good V m0 T):x∈T :=
 hT.cl r hr x ((hV.mono m T h.a hT.a h.strict hT.strict (h.least T hT) r hr (hT.few r hr)).2 x hx)
theorem inv_put (hV:LvOk V) (h:InvM V m0 m) {H:List Fct} (hH:∀ x∈H,∃ r∈V.rs,∃ m',InvM V m0 m'∧x∈V.hd m' r) (hl:(b9 (m++H)).length≤60):InvM V m0 (b9 (m++H)):=by
 obtain⟨h1,h2⟩:=bw (m++H)
 refine⟨h1,?_,fun x hx=>(h2 x).2 (List.mem_append_left _ (h.sub x hx)),hl,fun T hT x hx=>?_⟩
 ·refine hV.grow m _ h.a (fun x hx=>(h2 x).2 (List.mem_append_left _ hx)) fun x hx=>?_
  rcases List.mem_append.1 ((h2 x).1 hx) with hx|hx
  ·exact .inl hx
  ·obtain⟨r,hr,m',hm',hx⟩:=hH x hx
   exact .inr ⟨r,hr,m',hm'.a,hm'.strict,hx⟩
 ·rcases List.mem_append.1 ((h2 x).1 hx) with hx|hx
  ·exact h.least T hT x hx
  ·obtain⟨r,hr,m',hm',hx⟩:=hH x hx
   exact head_in hV hm' hr hx hT
theorem no_room (hV:LvOk V) (h:InvM V m0 m) {H:List Fct} (hH:∀ x∈H,∃ r∈V.rs,∃ m',InvM V m0 m'∧x∈V.hd m' r) (hn:H.Nodup) (hd:∀ x∈H,x ∉ m) (hl:60 < m.length + H.length):¬ ∃ M,Fit V m0 M:=by
 rintro⟨M,hM⟩
 have:(m++H).length≤M.length:=by
  refine nodup_len (List.nodup_append.2 ⟨h.strict.nodup,hn,fun x hx y hy he=>?_⟩) fun x hx=>?_
  ·subst he;exact hd x hy hx
  ·rcases List.mem_append.1 hx with hx|hx
   ·exact h.least M hM.good x hx
   ·obtain⟨r,hr,m',hm',hx⟩:=hH x hx
    exact head_in hV hm' hr hx hM.good
 have h2:=hM.len
 rw [List.length_append] at this
 omega
theorem fit_done (h:InvM V m0 m) (hf:∀ r∈V.rs,V.mw m r=true) (hc:∀ r∈V.rs,∀ x∈V.hd m r,x∈m):Fit V m0 m :=
 ⟨⟨h.strict,h.a,h.sub,hf,hc⟩,h.len,h.least⟩
theorem same_len {a b:List Fct} (ha:Strict a) (hb:Strict b) (hs:∀ x∈a,x∈b) (hl:b.length≤a.length):a=b:=by
 refine strict_ext ha hb fun x=>⟨hs x,fun hx=>?_⟩
 apply Classical.byContradiction
 intro hn
 have:=nodup_len (a:=x::a) (b:=b) (List.nodup_cons.2 ⟨hn,ha.nodup⟩) fun y hy=>by
  rcases List.mem_cons.1 hy with rfl|hy
  ·exact hx
  ·exact hs y hy
 rw [List.length_cons] at this
 omega
end
theorem arity_at {p:Prg} {n:Int} (h0:0≤n) (h:n < (p.arity.length:Int)):p.arity.getD n.toNat 0=p.arity[n.toNat]'(by omega):=by
 rw [List.getD,List.getElem?_eq_getElem (by omega)];rfl
theorem inR_spec {n a b:Int} (h:inR n a b=true):a≤n∧n≤b:=by
 unfold inR at h;simpa using h
set_option maxHeartbeats 8000000 in
theorem lit_fn (p:Prg) (l:Ltl) (vars:Int) (h0:0≤vars) (h8:vars≤8):Fn 157 [elPrg p,elLtl l,.d (.int .i64 vars)] (fun r=>r = .d (.int .i64 (litE p.arity vars l))):=by
 refine au _ Tryz.func157 rfl rfl (by kernel_rfl) ?_
 intro O w0 E0 β0
 obtain⟨kind,op,pred,terms⟩:=l
 have la:(p.arity.map bf).length=p.arity.length:=List.length_map _
 have lb:(terms.map bm).length=terms.length:=List.length_map _
 refine dw_lenA 0 0 rfl rfl (fun hk=>?_)
 refine dw_lenA 1 3 rfl rfl (fun hk2=>?_)
 have ht:=terms_fn terms vars h0 h8
 have w1:=swithin_fn kind 1 4
 have ho:=op_fn kind op
 unfold litE
 dsimp only [elLtl]
 by_cases hk1:inR kind 1 4=true
 ·have hk':=inR_spec hk1
  rw [hk1] at w1
  rw [hk1,if_neg (show ¬ (true=false) by decide)]
  generalize opB kind op=bo at ho ⊢
  by_cases hn:kind=1∨kind=2
  ·have w2:=swithin_fn pred 0 (((p.arity.map bf).length:Int) - 1)
   rw [if_pos hn,← la]
   by_cases hp:inR pred 0 (((p.arity.map bf).length:Int) - 1)=true
   ·have hp':=inR_spec hp
    have hA:=arity_at (p:=p) (n:=pred) (by omega) (by omega)
    rw [hp] at w2 ⊢
    rw [if_neg (show ¬ (true=false) by decide),hA]
    clear hk1 hp hA
    rcases hn with rfl|rfl
    all_goals repeat' (first|refine z0 ?_|refine z12 ?_|apply ag|refine z5 ?_|refine z10 ?_|apply ae|refine z16 ?_|refine z20 ?_|apply ah|apply ai|apply ak|refine z19 ?_|apply aa|apply av|apply aw|apply bq|refine z21 ?_ (hc:=by apply w1)|refine z21 ?_ (hc:=by apply w2)|refine z21 ?_ (hc:=by apply ho)|refine z21 ?_ (hc:=by apply ht)|refine z1 ?_|(refine z23 ?_ ?_ <;> intro hg)|(apply bu;exact rfl;all_goals intro hg))
    all_goals first
     | exact cb rfl (by simp_all <;> omega)
     | exact cb rfl rfl
   ·rw [Bool.not_eq_true] at hp
    rw [hp] at w2 ⊢
    rw [if_pos rfl]
    clear hk1 hp
    rcases hn with rfl|rfl
    all_goals repeat' (first|refine z0 ?_|refine z12 ?_|apply ag|apply ae|refine z16 ?_|apply ah|apply ak|refine z18 ?_|refine z19 ?_|apply aa|apply av|apply bq|refine z21 ?_ (hc:=by apply w1)|refine z21 ?_ (hc:=by apply w2)|refine z21 ?_ (hc:=by apply ho)|refine z1 ?_|(apply bu;exact rfl;all_goals intro hg))
    all_goals first
     | exact cb rfl (by simp_all <;> omega)
  ·rw [if_neg hn]
   clear hk1
   rcases (show kind=3∨kind=4 by omega) with rfl|rfl
   all_goals repeat' (first|refine z0 ?_|refine z12 ?_|apply ag|refine z5 ?_|refine z14 ?_|refine z10 ?_|apply ae|refine z16 ?_|refine z20 ?_|apply ah|apply ai|apply ak|refine z18 ?_|refine z19 ?_|apply aa|apply av|apply aw|apply bq|refine z21 ?_ (hc:=by apply w1)|refine z21 ?_ (hc:=by apply ho)|refine z21 ?_ (hc:=by apply ht)|refine z1 ?_|(refine z23 ?_ ?_ <;> intro hg)|(apply bu;exact rfl;all_goals intro hg)|((fail_if_success (apply a8;exact rfl));apply a6;exact rfl;exact rfl;exact rfl;all_goals intro hg))
   all_goals first
    | exact cb rfl (by simp_all <;> omega)
 ·rw [Bool.not_eq_true] at hk1
  rw [hk1] at w1 ⊢
  rw [if_pos rfl]
  repeat' (first|refine z0 ?_|refine z12 ?_|apply ag|apply ae|refine z16 ?_|apply ah|apply ak|refine z18 ?_|apply aa|apply av|apply bq|refine z21 ?_ (hc:=by apply w1)|refine z1 ?_|((fail_if_success (apply a8;exact rfl));apply a6;exact rfl;exact rfl;exact rfl;all_goals intro hg))
  all_goals exact cb rfl rfl
end Go.Proofs.YtapciiffpnociacGreat
