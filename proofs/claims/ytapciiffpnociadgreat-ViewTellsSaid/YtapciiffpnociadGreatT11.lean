/- Several texts in one: GxLaw GxSrt RelS RelK RelL RelU RelW. Condition: none. -/
import Derived.Test.YtapciiffpnociadGreatT10
import Derived.Carry
import Derived.ChangeSame
import Derived.SizedLaws
import Derived.JoinedCond
import Derived.Shelf.SlSortCmp.NoneTotal
import Derived.Test.YtapciiffpnociadGreatT01
import Derived.Test.YtapciiffpnociadGreatT09
set_option maxHeartbeats 8000000
open Array renaming getElem?_eq_getElem→D3,getElem?_modify→Ee,getElem?_toList→Br
open Bool renaming and_eq_true→Ae
open List renaming append_nil→Bt,cons_append→C6,ext_getElem?→Ci,flatten_cons→D4,getElem?_eq_getElem→Ad,getElem?_eq_none→A8,getElem?_take→Bi,getElem_mem→Aj,getElem_take→Dp,length_append→Af,length_cons→Bj,length_drop→A7,length_map→Aa,length_set→Ba,length_take→Aq,map_cons→A3,mem_append→Cj,mem_append_left→Ax,mem_append_right→B1,mem_cons→Bh,mem_cons_of_mem→Ag,mem_cons_self→Ac,mem_of_mem_drop→B2,mem_of_mem_take→Bq,take_append_drop→Ds,take_of_length_le→Ai,take_succ_eq_append_getElem→An
open Nat renaming add_mul→Bo,div_lt_of_lt_mul→E6,le_of_ble_eq_true→Ab,le_refl→Ah,lt_of_lt_of_le→A0,mul_comm→Hh,not_lt_zero→A9,pos_of_ne_zero→G6,zero_le→Ak
namespace Go.Proofs.YtapciiffpnociadGreat
section
open Go Go.RowKit Go.ChangeShapes Go.WideShapes
def RT.arg:RT->List D->SV
 | .struct _,xs=>.agg (xs.map .d)
 | _,[x]=>.d x
 | _,_=>.junk
def ArgsDR (R:Nat):List RT->List SV->Prop
 | [],az=>az=[]
 | r::rs,az=>∃ xs l,az=r.arg xs::l/\TyDR R r xs/\ArgsDR R rs l
abbrev ArgsD:=ArgsDR reachBytes
def rtsB (P:Program):List RT->List TypeId->Bool
 | [],[]=>true
 | r::rs,t::ts=>rtB P r t && rtsB P rs ts
 | _,_=>false
section
variable {H : Type} {enc : TypeId×Value -> H} {P : Program} {R : Nat}
theorem repL_agg {W:World} {e:Env}:∀ (cs:List Value) (xs:List D),RepL W cs xs->RelL (λ_=>False) e W (xs.map .d) cs
 | [],[],_=>trivial
 | [],_::_,h=>by have:=h.1;simp at this
 | _::_,[],h=>by have:=h.1;simp at this
 | c::cs,x::xs,h=>by
  obtain⟨h1,h2⟩:=h
  refine⟨?_,repL_agg cs xs ⟨by simpa using h1,λj u hj=>by simpa using h2 (j+1) u (by simpa using hj)⟩⟩
  obtain⟨y,hy,hr⟩:=h2 0 c rfl
  simp at hy
  subst hy
  exact hr
theorem repL_one {W:World} {e:Env} {v:Value} {x:D} (h:RepL W [v] [x]):Rel (λ_=>False) e W (.d x) v:=by
 obtain⟨y,hy,hr⟩:=h.2 0 v rfl;simp at hy;subst hy;exact hr
theorem rtB_bool {t:TypeId} (h:rtB P .bool t=true):P.underlying t=some .bool:=by
 unfold rtB at h;split at h<;>first|assumption|cases h
theorem rtB_str {t:TypeId} (h:rtB P .str t=true):P.underlying t=some .string:=by
 unfold rtB at h;split at h<;>first|assumption|cases h
theorem rtB_int {t:TypeId} {k:IntKind} (h:rtB P (.int k) t=true):P.underlying t=some (.int k):=by
 unfold rtB at h;split at h
 ·rename_i k' hk;rw [hk,qk h]
 ·cases h
theorem rtB_slice {t:TypeId} {c b:Nat} {e:RT} (h:rtB P (.slice c b e) t=true):∃ te,P.underlying t=some (.slice te):=by
 unfold rtB at h;split at h
 ·rename_i te ht;exact⟨te,ht⟩
 ·cases h
theorem rtB_struct {t:TypeId} {fs:List RT} (h:rtB P (.struct fs) t=true):∃ fl,P.underlying t=some (.struct fl):=by
 unfold rtB at h;split at h
 ·rename_i te ht;exact⟨te,ht⟩
 ·cases h
theorem arg_open {W:World} {e:Env} {base:Nat}:∀ (r:RT) (t:TypeId) (v:Value) (d:DataW H) (ps:List MemPlace),rtB P r t=true->DataW.Trod enc P W 0 (λ_=>true) true t v d ps->Value.okWide P W .any base t v ->
  (∀ n∈d.weights P t,n<=R)->∃ xs,TyDR R r xs/\Rel (λ_=>False) e W (r.arg xs) v:=by
 intro r t v d ps hb ⟨fuel,hd⟩ hok hw;obtain⟨xs,h1,h2⟩:=open_rt r t fuel v.cells.toList (d,ps) hb hd hw;refine⟨xs,h1,?_⟩
 cases r with
 | bool =>
  obtain⟨b,rfl⟩:=okWide_bool (rtB_bool hb) hok;obtain⟨b',rfl⟩:=h1;exact repL_one h2
 | int k =>
  obtain⟨b,rfl⟩:=okWide_int (rtB_int hb) hok;obtain⟨b',_,rfl⟩:=h1;exact repL_one h2
 | str =>
  obtain⟨b,rfl⟩:=okWide_string (rtB_str hb) hok;obtain⟨b',_,rfl⟩:=h1;exact repL_one h2
 | slice c b el =>
  obtain⟨te,ht⟩:=rtB_slice hb;obtain⟨a,n,cap,rfl⟩:=okWide_slice ht hok;obtain⟨l,_,_,rfl,_⟩:=h1;exact repL_one h2
 | struct fs =>
  obtain⟨fl,ht⟩:=rtB_struct hb;obtain⟨cs,rfl,_⟩:=okWide_struct ht hok;exact⟨cs.toList,by simp,repL_agg _ _ h2⟩
theorem args_open {W:World} {e:Env} {base:Nat}:∀ (rs:List RT) (ts:List TypeId) (vs:List Value) (ds:List (DataW H)) (ps:List MemPlace),rtsB P rs ts=true->DataW.TrodAll enc P W 0 (λ_=>true) true ts vs ds ps ->
  (∀ (j:Nat) t v,ts[j]?=some t->vs[j]?=some v->Value.okWide P W .any base t v)->(∀ n∈DataW.weightsEach P ts ds,n<=R)->∃ az,ArgsDR R rs az/\RelL (λ_=>False) e W az vs
 | [],[],vs,ds,ps,_,h,_,_=>by
  obtain⟨rfl,rfl,rfl⟩:=trodAll_nil h
  exact⟨[],rfl,trivial⟩
 | [],_::_,_,_,_,hb,_,_,_=>by simp [rtsB] at hb
 | _::_,[],_,_,_,hb,_,_,_=>by simp [rtsB] at hb
 | r::rs,t::ts,vs,ds,ps,hb,h,hok,hw=>by
  obtain⟨v,vs',d,ds',p,q,rfl,rfl,rfl,h1,h2⟩:=trodAll_cons h
  simp only [rtsB,Ae] at hb
  simp only [DataW.weightsEach,Cj] at hw
  obtain⟨xs,g1,g2⟩:=arg_open (e:=e) r t v d p hb.1 h1 (hok 0 t v rfl rfl) λn hn=>hw n (.inl hn)
  obtain⟨az,g3,g4⟩:=args_open (e:=e) rs ts vs' ds' q hb.2 h2 (λj t v ht hv=>hok (j+1) t v (by simpa using ht) (by simpa using hv)) λn hn=>hw n (.inr hn)
  exact⟨r.arg xs::az,⟨xs,az,rfl,g1,g3⟩,g2,g4⟩
def readB (P:Program) (ts:List TypeId):Bool:=ts.all λt=>P.readableRec t && Nat.blt t P.types.size
theorem args_again {W W':World} {spare:Nat->Bool} (hl:laidOutB P=true) (hb:Below W.heap.size W W'):∀ (ts:List TypeId) (vs:List Value) (ds:List (DataW H)) (ps:List MemPlace),readB P ts=true ->
  DataW.TrodAll enc P W 0 (λ_=>true) true ts vs ds ps->(∀ p∈ps,p.block<W.heap.size)->(∀ p∈ps,spare p.block=true)->DataW.TrodAll enc P W' 0 spare true ts vs ds ps
 | [],vs,ds,ps,_,h,_,_=>by
  obtain⟨rfl,rfl,rfl⟩:=trodAll_nil h
  rfl
 | t::ts,vs,ds,ps,hr,h,hlt,hsp=>by
  obtain⟨v,vs',d,ds',p,q,rfl,rfl,rfl,h1,h2⟩:=trodAll_cons h
  simp only [readB,List.all_cons,Ae] at hr
  refine⟨p,q,?_,args_again hl hb ts vs' ds' q (by simpa [readB] using hr.2) h2 (λx hx=>hlt x (B1 _ hx)) (λx hx=>hsp x (B1 _ hx)),rfl⟩
  exact WideElems.Trod_stays hl hr.1.1 (Ab hr.1.2) h1 (λx hx=>hb.same (hlt x (Ax _ hx))) λx hx=>hsp x (Ax _ hx)
theorem law_post {f:Func} {s:ChangeSpec} {apart fresh handsOn:Bool} {W W':World} {args:Array Value} {ds gs:List (DataW H)} {before:List MemPlace} {tb:TypeId}
  (hv:s.vars=[]) (hW:DataW.Whole enc P f.params.toList s.vars apart W args.toList ds gs before) (hfn:gs=[]->s.fn H (ds++gs) = { results:=[.lit (.bool true)],args:=ds })
  (hres:f.resultTypes = #[tb]) (htb:P.underlying tb=some .bool) (hl:laidOutB P=true) (hr:readB P f.params.toList=true) (hb:Below W.heap.size W W') :
  s.post enc P f apart fresh handsOn false W args (.bool true) W':=by
 have hW0:=hW;have hlt:=λp hp=>hW.lt p hp
 obtain⟨p,q,hA,hV,rfl,hfz,hnd⟩:=hW;rw [hv] at hV;obtain⟨rfl,rfl⟩:=trodVars_none hV;have hfn:=hfn rfl;refine⟨ds,[],p++[],[],p,[],hW0,?_,?_,?_,hb.frame _,λh=>by cases h⟩
 ·rw [hres,hfn];exact trodAll_mk1 (shut_bool htb true)
 ·rw [hfn];exact args_again hl hb _ _ _ _ hr hA (λx hx=>hlt x (Ax _ hx)) λx hx=>by simpa using hlt x (Ax _ hx)
 ·rw [hv,hfn];rfl
theorem ctxX_nil {τ τok} {e:Env} {W:World} {n J β0}:∀ b,Ctx.X ⟨P,τ,τok,λ_=>False,W,λb=>b∈ah e [],n,J,β0,none,dl,true,false⟩ e [] b->False:=by
 rintro b (h|h)
 ·exact h
 ·simp [ah] at h
theorem law_calls {τ:List (Nat×TI)} {τok:dz P τ} {f:FuncId} {rs:List RT} {ts:List TypeId} {args:Array Value} {ds:List (DataW H)} {ps:List MemPlace} {W:World} {base:Nat}
  (hc:∀ az,ArgsDR R rs az->FnP false P τ τok f az (λr=>r = .d (.bool true))) (hb:rtsB P rs ts=true) (hA:DataW.TrodAll enc P W 0 (λ_=>true) true ts args.toList ds ps)
  (hok:∀ (j:Nat) t v,ts[j]?=some t->args.toList[j]?=some v->Value.okWide P W .any base t v) (hw:∀ n∈DataW.weightsEach P ts ds,n<=R) :
  Calls P f args W λen W'=>en = .returned (.bool true)/\Below W.heap.size W W':=by
 let e:Env:=⟨λ_=>0,λ_=>undef,lo 0⟩
 obtain⟨az,h1,h2⟩:=args_open (e:=e) rs ts args.toList ds ps hb hA hok hw;have hk:=(hc az h1).2 (λ_=>False) e W args.toList ?_ ?_
 ·rw [Array.toArray_toList] at hk;refine Calls.mono hk ?_;rintro en W' ⟨k',r,H',e',v,⟨rfl,_,rfl⟩,rfl,hH,hr⟩;have hr':RepC _ W' v (.bool true):=hr;cases hr';exact⟨rfl,⟨hH.os,hH.tape,hH.output,hH.size,λb hb=>hH.block b hb (by simp [ah])⟩⟩
 ·exact { top:=λ_=>Iff.rfl,heap:=(λp hp=>nomatch hp),ids:=.nil,nodup:=.nil,mine:=(λb hb=>nomatch hb),os:=rfl,tape:=rfl,output:=rfl,drawn:=(λ_=>Ah _),size:=Ah _,block:=(λ_ _ _=>rfl),obound:=(λ_ h=>h.elim),jle:=(λ_ h=>nomatch h),anchor:=(λ_ h=>nomatch h) }
 ·exact RelL.keep (Ah _) (λ_ _ _=>rfl) (λb _ hy=>ctxX_nil b hy) _ _ h2
theorem law_lifted {C:Checked} {τ:List (Nat×TI)} {τok:dz C.prog τ} {os:Os} (started:os.Started) {f:FuncId} {fn:Func} {s:ChangeSpec} {conds:List PathCond} {apart fresh handsOn:Bool} {rs:List RT} {tb:TypeId}
  (own:ownKnob C.prog.godebug=none) (noInit:C.prog.inits.idxOf? f=none) (hfn:C.prog.funcs[f]?=some fn)
  (witness:∃ (w:World) (tape:Tape) (i:Input),w.os=os/\(w.forCall tape i).Shaped C.prog/\i.vars=[]/\Input.okWide C.prog (w.forCall tape i) .any w.heap.size f i /\
   s.pre6 enc C.prog fn conds apart (w.forCall tape i).memory i.args/\({}:Assume).holds C.prog (lone (Frame.enter C.prog f i.args .normal) [] (w.forCall tape i)))
  (hv:s.vars=[]) (hvt:s.plain.varTypes C.prog=[]) (hs:∀ (ds:List (DataW H)),ds.length=fn.params.toList.length->s.fn H ds = { results:=[.lit (.bool true)],args:=ds })
  (hres:fn.resultTypes = #[tb]) (htb:C.prog.underlying tb=some .bool) (hl:laidOutB C.prog=true) (hr:readB C.prog fn.params.toList=true) (hb:rtsB C.prog rs fn.params.toList=true)
  (hc:∀ az,ArgsD rs az->FnP false C.prog τ τok f az (λr=>r = .d (.bool true))) :
  ReturnsInHanded {} C os f .any (s.pre6 enc C.prog fn conds apart) (s.post enc C.prog fn apart fresh handsOn false):=by
 refine returnsInHanded_of_change_sized own started noInit hfn witness ?_;intro W base args ds gs before hval hW _ hwt _;obtain⟨p,q,hA,hV,hpq,hfz,hnd⟩:=id hW;rw [hv] at hV;obtain⟨rfl,rfl⟩:=trodVars_none hV;rw [hvt,Bt,Bt] at hwt;have hlen:∀ (ts:List TypeId) (vs:List Value) (ds:List (DataW H)) (ps:List MemPlace),DataW.TrodAll enc C.prog W 0 (λ_=>true) true ts vs ds ps->ds.length=ts.length:=by
  intro ts;induction ts with
  | nil=>intro vs ds ps h;obtain⟨rfl,rfl,rfl⟩:=trodAll_nil h;rfl
  | cons t ts ih =>
   intro vs ds ps h;obtain⟨v,vs',d,ds',p,q,rfl,rfl,rfl,h1,h2⟩:=trodAll_cons h;simp [ih _ _ _ h2]
 refine (law_calls hc hb hA (λj t v ht hv=>hval j t v (by simpa using ht) (by simpa using hv)) (λn hn=>by simpa using List.all_eq_true.1 hwt n hn)).mono ?_;rintro en W' ⟨rfl,hbl⟩;exact⟨_,rfl,law_post hv hW (λ_=>by rw [Bt];exact hs ds (hlen _ _ _ _ hA)) hres htb hl hr hbl⟩
end
end
section
open Go Go.RowKit Go.Sort Go.Shelf
section
variable {β : Type}
structure Held (X:Nat->Prop) (w:World) (es:Nat) (enc:β->List D) where
 x:β
 vs:List Value
 len:vs.length=es
 one:∀ v∈vs,v.oneCell'=true
 rep:∀ j (hj:j<(enc x).length),∃ v,vs[j]?=some v/\RepC X w v (enc x)[j]
theorem flatK_toList {α:Type} [Inhabited α] (enc:α->List Value) (k:Nat) (hk:∀ x,(enc x).length=k) (d:Array α) (t:Nat) (ht:t<d.size*k) :
  (flatK enc k d).toList[t]?=(enc (d[t / k]'(E6 (by rw [Hh];exact ht))))[t % k]?:=by
 have h0:0<k:=G6 λh=>by subst h;simp at ht
 have h1:t / k<d.size:=E6 (by rw [Hh];exact ht);have h2:t % k<(enc d[t / k]).length:=by rw [hk];exact Nat.mod_lt _ h0
 rw [Br,D3 (by simpa using ht),Ad h2];simp only [flatK,Array.getElem_map,Array.getElem_range];rw [getElem!_pos d _ h1,getElem!_pos (enc d[t / k]) _ h2]
theorem sortK_heap {α:Type} [Inhabited α] {w:World} {g n:Nat} {os:Array Obj} {cur:Array Value} {e:TypeId} {fr:Nat×Nat} (enc:α->List Value) (k:Nat) (d:Array α) (hb:w.heap[g]?=some (.cells cur e fr)) :
  (sortWorldK enc k w g 0 n d os).heap[g]?=some (.cells (putCells id 0 (flatK enc k d) cur) e fr):=by
 have hg:g<w.heap.size:=(Array.getElem?_eq_some_iff.1 hb).1;unfold sortWorldK putRowK;rw [heap_grow_old _ _ (by simpa using hg)];simp [putRow,mapBlock,Sort.ahead,Ee,hb,onCells]
theorem vw {α:Type} [Inhabited α] {w:World} {g n:Nat} {os:Array Obj} (enc:α->List Value) (k:Nat) (d:Array α) {b:Nat} (hb:b<w.heap.size) (hne:b≠g) :
  (sortWorldK enc k w g 0 n d os).heap[b]?=w.heap[b]?:=by
 unfold sortWorldK putRowK;rw [heap_grow_old _ _ (by simpa using hb)];have:g≠b:=λh=>hne h.symm
 simp [putRow,mapBlock,Sort.ahead,Ee,this]
theorem sortK_size {α:Type} [Inhabited α] {w:World} {g n:Nat} {os:Array Obj} (enc:α->List Value) (k:Nat) (d:Array α):w.heap.size<=(sortWorldK enc k w g 0 n d os).heap.size:=by
 unfold sortWorldK putRowK;simp
theorem take_putCellsK (cur F:Array Value) (h:F.size<=cur.size):(putCells id 0 F cur).toList.take F.size=F.toList:=by
 apply Ci;intro j;by_cases hj:j<F.size
 ·rw [List.getElem?_take_of_lt hj,Br,Br];simp [putCells,hj,show j<cur.size by omega]
 ·rw [List.getElem?_take_eq_none (by omega),A8 (by simp;omega)]
theorem grown_eq {W w':World} (hos:w'.os=W.os) (ht:w'.tape=W.tape) (ho:w'.output=W.output) (hd:W.drawn<=w'.drawn) (hs:W.heap.size<=w'.heap.size) (hb:∀ b,b<W.heap.size->w'.heap[b]?=W.heap[b]?) :
  ∃ q os',w'=grow (W.drewN q) os':=by
 refine⟨w'.drawn-W.drawn,w'.heap.extract W.heap.size,?_⟩
 obtain⟨heap,tape,drawn,os,output⟩:=w';simp only at hos ht ho hd hs hb;subst hos;subst ht;subst ho;unfold grow World.drewN;simp only [World.mk.injEq,true_and,and_true];refine⟨?_,by omega⟩
 apply Array.ext_getElem?;intro i;rw [Array.getElem?_append];split
 ·rename_i h;exact hb i h
 ·rename_i h;rw [Array.getElem?_extract];split
  ·congr 1;omega
  ·rw [Array.getElem?_eq_none (by omega)]
theorem xw {α γ:Type} {f:α->List γ} {k:Nat} (hk:∀ x,(f x).length=k):∀ (d:List α) (i j:Nat) (hi:i<d.length),j<k->(d.map f).flatten[i*k+j]?=(f (d[i]'hi))[j]?
 | [],_,_,hi,_=>by simp at hi
 | x::d,0,j,_,hj=>by
  rw [A3,D4,Nat.zero_mul,Nat.zero_add,List.getElem?_append_left (by rw [hk];exact hj)];rfl
 | x::d,i+1,j,hi,hj=>by
  have h1:(i+1)*k+j=k+(i*k+j):=by rw [Bo];omega
  rw [A3,D4,h1,List.getElem?_append_right (by rw [hk];omega),hk,Nat.add_sub_cancel_left,xw hk d i j (by simpa using hi) hj];rfl
theorem xv {α γ:Type} {f:α->List γ} {k:Nat} (hk:∀ x,(f x).length=k):∀ (d:List α),(d.map f).flatten.length=d.length*k
 | []=>by simp
 | x::d=>by rw [A3,D4,Af,hk,xv hk d,Bj,Bo];omega
theorem flatK_list {α:Type} [Inhabited α] (enc:α->List Value) (k:Nat) (hk:∀ x,(enc x).length=k) (d:Array α):(flatK enc k d).toList=(d.toList.map enc).flatten:=by
 apply Ci;intro t;by_cases ht:t<d.size*k
 ·have h0:0<k:=G6 λh=>by subst h;simp at ht
  have h1:t / k<d.size:=E6 (by rw [Hh];exact ht);rw [flatK_toList enc k hk d t ht];have h2:=xw hk d.toList (t / k) (t % k) (by simpa using h1) (Nat.mod_lt _ h0);rw [Nat.div_add_mod'] at h2;rw [h2];simp
 ·rw [A8 (by simp;omega),A8 (by rw [xv hk];simp;omega)]
theorem held_of {X:Nat->Prop} {w:World} {es:Nat} {enc:β->List D} (hes:∀ x,(enc x).length=es):∀ (l:List β) (us:List Value),us.length=l.length*es->(∀ v∈us,v.oneCell'=true) ->
  (∀ i (hi:i<l.length) j (hj:j<(enc l[i]).length),∃ v,us[i*es+j]?=some v/\RepC X w v ((enc l[i])[j]'hj))->∃ d:List (Held X w es enc),d.map Held.x=l/\(d.map Held.vs).flatten=us
 | [],us,h,_,_=>⟨[],rfl,by simp at h;subst h;rfl⟩
 | x::l,us,h,h1,h2=>by
  have hl:us.length=es+l.length*es:=by rw [h,Bj,Bo];omega
  obtain⟨d,g1,g2⟩:=held_of (X:=X) (w:=w) hes l (us.drop es) (by rw [A7];omega) (λv hv=>h1 v (B2 hv)) (λi hi j hj=>by
   obtain⟨v,q1,q2⟩:=h2 (i+1) (by simpa using hi) j (by simpa using hj);refine⟨v,?_,q2⟩
   rw [List.getElem?_drop,<- q1];congr 1;rw [Bo];omega)
  refine⟨⟨x,us.take es,by rw [Aq];omega,λv hv=>h1 v (Bq hv),λj hj=>?_⟩::d,by rw [A3,g1],by rw [A3,D4,g2,Ds]⟩
  obtain⟨v,q1,q2⟩:=h2 0 (by simp) j (by simpa using hj);refine⟨v,?_,q2⟩
  rw [Bi,if_pos (by rw [<- hes x];exact hj)];simpa using q1
theorem lowL_d:∀ (ds:List D),SV.lowL 0 (ds.map .d)=true
 | []=>rfl
 | d::ds=>by simp [SV.lowL,SV.low,lowL_d ds]
theorem relL_d {X:Nat->Prop} {e:Env} {w:World}:∀ (ds:List D) (vs:List Value),vs.length=ds.length->(∀ j (hj:j<ds.length),∃ v,vs[j]?=some v/\RepC X w v ds[j])->RelL X e w (ds.map .d) vs
 | [],[],_,_=>trivial
 | [],_::_,h,_=>by simp at h
 | _::_,[],h,_=>by simp at h
 | d::ds,v::vs,h,hr=>⟨by obtain⟨v',h1,h2⟩:=hr 0 (by simp);cases h1;exact h2,relL_d ds vs (by simpa using h) λj hj=>by
   obtain⟨v',h1,h2⟩:=hr (j+1) (by simpa using hj);exact⟨v',by simpa using h1,by simpa using h2⟩⟩
variable {P : Program} {τ : List (Nat×TI)} {τok : dz P τ} {ρ : Ren}
theorem sort_rowK (L:SlLaysF0.n6 P ρ) (es:Nat) (aE:∀ w,(isAgg (ρ.t 24)).run P w = .ok true w) (zE:∀ w,(Go.sizeOf (ρ.t 24)).run P w = .ok es w) (enc:β->List D) (hes:∀ x,(enc x).length=es) (cf:β->β->Int) (hO:SWO (ltOf cf)) (g:Nat)
  (hc:∀ a b,FnP true P τ τok g [.agg ((enc a).map .d),.agg ((enc b).map .d)] (λr=>r = .d (.int .i64 (cf a b)))) (te:TypeId) (l:List β) (hl:l.length<4611686018427387904)
  {X:Nat->Prop} {e:Env} {w:World} {i:Nat} (hXo:∀ c,HB.owned e (i,.row te es (l.map enc))=some c->X c) (hXl:∀ b,X b->b<w.heap.size) (hrow:HRel X e w (i,.row te es (l.map enc))) :
  Calls P (ρ.f 6) #[e.η i,.func (.func g) #[] #[]] w λen w'=>en = .returned (.tuple #[])/\w.heap.size<=w'.heap.size/\w'.os=w.os/\w'.tape=w.tape/\w'.output=w.output /\
   (∀ c,c<w.heap.size->HB.owned e (i,.row te es (l.map enc))≠some c->w'.heap[c]?=w.heap[c]?)/\∃ l':List β,l'.Perm l/\l'.Pairwise (λa b=>cf b a ≥ 0)/\HRel X e w' (i,.row te es (l'.map enc)):=by
 obtain⟨us,hown,hlen,hone2,hrep⟩:=hrow;by_cases hne:l=[]
 ·subst hne;obtain⟨p,cap,hv⟩:∃ p cap,e.η i = .slice p 0 cap:=by
   rcases hown.2 with ⟨hv,_⟩|⟨gb,cap,cur,hv,_⟩
   ·exact⟨_,_,hv⟩
   ·exact⟨_,_,hv⟩
  rw [hv];refine (AnyF.slices_SortFunc_none { L with } p cap _ w).mono ?_;rintro en w' ⟨rfl,rfl⟩;exact⟨rfl,Ah _,rfl,rfl,rfl,λ_ _ _=>rfl,[],.refl _,.nil,us,hown,hlen,hone2,hrep⟩
 ·have hpos:0<l.length:=List.length_pos_iff.2 hne;have lm:(l.map enc).length=l.length:=Aa _;obtain⟨hul,hcase⟩:=hown;rw [lm] at hul hcase;rcases hcase with ⟨_,h⟩|⟨gb,cap,cur,hv,_,hblk,hnc,hcm,hcs,htk⟩
  ·omega
  have hgb:gb<w.heap.size:=(Array.getElem?_eq_some_iff.1 hblk).1;have howned:∀ (m:List (List D)),HB.owned e (i,.row te es m)=some gb:=λm=>by simp [HB.owned,hv,Value.ownBlock]
  have hXg:X gb:=hXo gb (howned _);obtain⟨d,d1,d2⟩:=held_of (X:=X) (w:=w) (enc:=enc) hes l us hul hone2 (λi hi j hj=>by
   obtain⟨v,q1,q2⟩:=hrep i (by rw [lm];exact hi) j (by simpa using hj);exact⟨v,q1,by simpa using q2⟩)
  have hdl:d.length=l.length:=by rw [<- d1,Aa]
  haveI:Inhabited (Held X w es enc):=⟨d[0]'(by omega)⟩
  have hkv:∀ x:Held X w es enc,x.vs.length=es:=λx=>x.len
  have hF:(flatK Held.vs es d.toArray).toList=us:=by rw [flatK_list _ _ hkv,<- d2]
  have hHold:HoldsK (Held.vs (X:=X) (w:=w) (es:=es) (enc:=enc)) es w gb 0 d.toArray:=by
   intro t ht;have ht':t<l.length*es:=by simpa [hdl] using ht
   have hc1:cur[t]?=us[t]?:=by
    rw [<- htk,Bi,if_pos ht',Br]
   refine⟨?_,by simp [World.frozen?,hblk]⟩
   simp only [World.cell?,hblk,Nat.zero_add];simp only [Option.isSome_none,Bool.false_eq_true,if_false];rw [hc1,<- hF,Br,D3 ht,getElem!_pos _ t ht];rfl
  have hcmp:CmpLays P g #[] (Held.vs (X:=X) (w:=w) (es:=es) (enc:=enc)) es (λx y=>cf x.x y.x) gb 0 d.toArray.size w:=by
   intro m os dk hdk x y;generalize hW:sortWorldK Held.vs es w gb 0 m dk os=W;have hWs:w.heap.size<=W.heap.size:=hW▸sortK_size _ _ _;have hWb:∀ b,b<w.heap.size->¬ X b->W.heap[b]?=w.heap[b]?:=λb hb hx=>hW▸vw _ _ _ hb λh=>hx (h▸hXg)
   have hXW:∀ b,X b->b<W.heap.size:=λb hb=>A0 (hXl b hb) hWs
   have hel:∀ z:Held X w es enc,RelL X e W ((enc z.x).map .d) z.vs:=λz=>relL_d _ _ (by rw [z.len,hes]) λj hj=>by
    obtain⟨v,q1,q2⟩:=z.rep j hj;exact⟨v,q1,RepC.keep hWs hWb (λ_ _ h=>h) q2⟩
   have hk:=(hc x.x y.x).2 X (e.ren id 0) W [.agg x.vs.toArray,.agg y.vs.toArray] ⟨λ_=>Iff.rfl,by simp,by simp,by simp [ah],by simp [ah],rfl,rfl,rfl,λ_=>Ah _,Ah _,λ_ _ _=>rfl,λb hb=>⟨hXW b hb,by simp [ah]⟩,λj hj=>absurd hj (A9 j),λj hj=>absurd hj (A9 j)⟩ ?_
   ·refine hk.mono ?_;rintro en w' ⟨k',r,H',e',v,⟨rfl,hlr,rfl⟩,rfl,hH2,hrel⟩;refine⟨?_,grown_eq hH2.os hH2.tape hH2.output (hH2.drawn rfl) hH2.size λb hb=>hH2.block b hb (by simp [ah])⟩
    cases hrel;rfl
   ·have hXX:∀ b,Ctx.X ⟨P,τ,τok,X,W,λb=>b∈ah (e.ren id 0) [],0,0,(e.ren id 0).an,none,dl,true,true⟩ (e.ren id 0) [] b↔X b:=λb=>by unfold Ctx.X;simp [ah]
    refine RelL.keep (Ah _) (λ_ _ _=>rfl) (λb _ h=>(hXX b).1 h) _ _ (X:=X) (w:=W) ?_;exact⟨⟨x.vs,rfl,RelL.env _ _ (lowL_d _) (hel x)⟩,⟨y.vs,rfl,RelL.env _ _ (lowL_d _) (hel y)⟩,trivial⟩
  have hOα:SWO (ltOf λx y:Held X w es enc=>cf x.x y.x):=⟨λx=>hO.irrefl x.x,λx y z=>hO.trans x.x y.x z.x,λx y z=>hO.ntrans x.x y.x z.x⟩
  have eg:∀ args w,(callFunc g args).run P w = .ok (.enter g args) w:=wq ((if h:l.length=0 then by omega else (hc (l[0]'hpos) (l[0]'hpos)).1));have hs:=AnyQ.slices_SortFunc L es aE zE (Held.vs (X:=X) (w:=w) (es:=es) (enc:=enc)) hkv (λx=>x.one) (λx y=>cf x.x y.x) hOα g #[] gb 0 cap d.toArray w eg hcmp hHold hgb (by simpa [hdl] using hl);have hsz:d.toArray.size=l.length:=by simpa using hdl
  rw [hsz] at hs;rw [hv];refine hs.mono ?_;rintro en w' ⟨rfl,d',m,os,hp,hso,rfl⟩;have hd's:d'.size=l.length:=hp.1.trans hsz;have hperm:d'.toList.Perm d:=by
   have:=hp.2.2
   rwa [show d'.extract 0 l.length=d' by rw [<- hd's];simp,show d.toArray.extract 0 l.length=d.toArray by rw [<- hsz];simp] at this
  refine⟨rfl,sortK_size _ _ _,rfl,rfl,rfl,λc hc hne=>vw _ _ _ hc λh=>hne (by rw [howned,h]),d'.toList.map Held.x,d1▸hperm.map _,?_,?_⟩
  ·rw [List.pairwise_map,List.pairwise_iff_getElem];intro i j hi hj hij;have h1:=hso i j (Ak _) hij (by simpa [hd's] using hj);rw [getElem!_pos d' i (by simpa using hi),getElem!_pos d' j (by simpa using hj)] at h1;have h2:¬ cf d'[j].x d'[i].x<0:=of_decide_eq_false h1;simp only [Array.getElem_toList];omega
  ·have hl':(d'.toList.map Held.x).length=l.length:=by simp [hd's]
   have hFs:(flatK Held.vs es d').size=l.length*es:=by rw [size_flatK,hd's]
   have hFl:(flatK Held.vs es d').toList=(d'.toList.map Held.vs).flatten:=flatK_list _ _ hkv _;refine⟨(d'.toList.map Held.vs).flatten,⟨?_,.inr ⟨gb,cap,_,hv▸?_,Ak _,sortK_heap _ _ _ hblk,?_,hcm,by simp [putCells,hcs],?_⟩⟩,?_,?_,?_⟩
   ·rw [xv hkv];simp
   ·simp [hd's]
   ·simp [hd's];exact hnc
   ·rw [Aa,hl',<- hFs,take_putCellsK _ _ (by rw [hFs,hcs];exact Nat.mul_le_mul_right _ hnc),hFl]
   ·intro i hi;simp [hes]
   ·intro v hvm;obtain⟨u,hu,hvu⟩:=List.mem_flatten.1 hvm;obtain⟨x,_,rfl⟩:=List.mem_map.1 hu;exact x.one v hvu
   ·intro i hi j hj;have hi':i<d'.toList.length:=by simpa using hi
    have hj':j<es:=by simpa [hes] using hj
    obtain⟨v,q1,q2⟩:=(d'.toList[i]).rep j (by rw [hes];exact hj');refine⟨v,by rw [xw hkv d'.toList i j hi' hj'];exact q1,?_⟩
    have q3:RepC X w v (((d'.toList.map Held.x).map enc)[i][j]):=by simpa using q2
    exact RepC.keep (sortK_size _ _ _) (λb hb hx=>vw _ _ _ hb λh=>hx (h▸hXg)) (λb _ h=>h) q3
def SortC (P:Program) (f g:FuncId) (te es:Nat) (enc:β->List D) (cf:β->β->Int):Prop :=
 ∀ (l:List β),l.length<4611686018427387904->∀ (X:Nat->Prop) (e:Env) (w:World) (i:Nat),(∀ c,HB.owned e (i,.row te es (l.map enc))=some c->X c)->(∀ b,X b->b<w.heap.size)->HRel X e w (i,.row te es (l.map enc)) ->
  Calls P f #[e.η i,.func (.func g) #[] #[]] w λen w'=>en = .returned (.tuple #[])/\w.heap.size<=w'.heap.size/\w'.os=w.os/\w'.tape=w.tape/\w'.output=w.output /\
   (∀ c,c<w.heap.size->HB.owned e (i,.row te es (l.map enc))≠some c->w'.heap[c]?=w.heap[c]?)/\∃ l':List β,l'.Perm l/\l'.Pairwise (λa b=>cf b a ≥ 0)/\HRel X e w' (i,.row te es (l'.map enc))
end
section
variable {Γ : Ctx} {k : Nat} {L : Sl} {H : Hp} {K : cy} {ops : List Oper} {rest : List Oper} {β : Type}
theorem ds_sort [NoDr Γ] {f g0:FuncId} {te es:Nat} {enc:β->List D} {cf:β->β->Int} (hS:SortC Γ.P f g0 te es enc cf) (l:List β) {d i:Nat} {x y:Operand} {ts:Array TypeId} {ty:TypeId} {pos:String} {af:Array Edge} {g:Option (Nat×Bool)}
  (hcall:fj Γ.P f=true) (hx:ap L x = .row i) (hH:Hp.get H i=some (.row te es (l.map enc))) (hy:ap L y = .fn g0 []) (hyo:dh y=true) (hw:au ops L g=some true) (hd:Nat.blt d Γ.n=true) (hl:l.length<4611686018427387904)
  (hk:∀ l':List β,l'.Perm l->l'.Pairwise (λa b=>cf b a ≥ 0)->DS false Γ ops rest K k ((d,.tup [])::L) (Hp.set H i (.row te es (l'.map enc)))) :
  DS false Γ ops (⟨some d,.call { callee:=.value (.func f),args:=#[x,y],argTypes:=ts },ty,pos,af,g⟩::rest) K k L H:=by
 refine gp hw λe a w m=>?_
 unfold Oper.wp;have hrun:=j9 hcall a [x,y] ts (some d) ty pos af g w;rw [show #[x,y]=[x,y].toArray from rfl,hrun,Oper.upon_enter];obtain⟨hdom,hv,_⟩:=evT m hx (l9 · _);have hr:=m.op y (ce hyo);rw [hy] at hr;obtain⟨us,hu,hus⟩:=hr;cases us with
 | cons u us=>exact hus.elim
 | nil =>
  have hmem:=Hp.mem_of hH;have hown:∀ c,HB.owned e (i,.row te es (l.map enc))=some c->Γ.X e H c:=λc hc=>.inr (List.mem_filterMap.2 ⟨_,hmem,hc⟩)
  have hXl:∀ b,Γ.X e H b->b<w.heap.size:=λb hb=>hb.elim (λh=>A0 (m.obound b h).1 m.size) (m.lt b)
  have hs:=hS l hl (Γ.X e H) e w i hown hXl (m.heap _ hmem).2;simp only [A3,List.map_nil,hv,hu];refine hs.mono ?_;rintro en w' ⟨rfl,h1,h2,h3,h4,h5,l',h6,h7,h8⟩;exact⟨k,_,_,e,(m.turn (b':=.row te es (l'.map enc)) hH h1 h2 h3 h4 NoDr.any h5 rfl h8).put (s:=.tup []) (Ab hd) ⟨[],rfl,trivial⟩,hk l' h6 h7⟩
end
open Go Go.RowKit
theorem sortFacts_c:SortC Tryz.prog 133 52 37 2 ae de:=λl hl _ _ _ _ h1 h2 h3 =>
 sort_rowK (ρ:=Tryz.sortFacts_ren) Tryz.sortFacts 2 Tryz.isAgg37 Tryz.sizeOf37 ae (λ_=>rfl) de swoF 52 (λa b=>orderF_fnD true a b) 37 l hl h1 h2 h3
attribute [local irreducible] DW DS DL DQ Ev FnOk FnP ef bt DT
def cmpG (p:Fct):List Fct->List Fct
 | []=>[]
 | y::l=>if de y p=0 then cmpG y l else y::cmpG y l
def cmpF:List Fct->List Fct
 | []=>[]
 | x::l=>x::cmpG x l
theorem cmpG_snoc:∀ (l:List Fct) (p y:Fct),cmpG p (l++[y])=cmpG p l++(if de y ((p::l).getLast (by simp))=0 then [] else [y])
 | [],p,y=>by
  show (if de y p=0 then cmpG y [] else y::cmpG y [])=[]++_
  rfl
 | x::l,p,y=>by
  rw [C6]
  simp only [cmpG]
  rw [cmpG_snoc l x y,List.getLast_cons (by simp:x::l≠[])]
  split<;>simp
theorem cmpF_take {l:List Fct} {n:Nat} (h0:0<n) (hn:n<l.length):cmpF (l.take (n+1))=cmpF (l.take n)++(if de l[n] (l[n-1]'(by omega))=0 then [] else [l[n]]):=by
 rw [An hn];have hne:l.take n≠[]:=by
  intro h;have:=congrArg List.length h
  rw [Aq,List.length_nil] at this;omega
 obtain⟨x,r,hx⟩:=List.exists_cons_of_ne_nil hne;have hl:(l.take n).getLast hne=l[n-1]'(by omega):=by
  rw [List.getLast_eq_getElem,Dp];have:(l.take n).length-1=n-1:=by rw [Aq,Nat.min_eq_left (by omega)]
  simp only [this]
 simp only [hx,C6,cmpF];rw [cmpG_snoc];have:(x::r).getLast (by simp)=l[n-1]'(by omega):=by rw [<- hl];congr 1;exact hx.symm
 rw [this]
theorem cmpF_one {l:List Fct} (h:l.length<=1):cmpF l=l:=by
 match l,h with
 | [],_=>rfl
 | [x],_=>rfl
theorem compact_fn (l:List Fct) (hl:l.length<=4398046511104):FnOk false Tryz.prog tab b9 134 [.row 0,.fn 108 []] 0 1 [(0,.row 37 2 (l.map ae))] (λ_ r H=>r = .d (.slice 2 ((cmpF l).map ae))/\H=[]):=by
 refine fn_enterF _ Tryz.func134 rfl rfl (by kernel_rfl) ?_;intro O w0 E0 β0;have ll:(l.map ae).length=l.length:=Aa _;by_cases h2:l.length<2
 ·rw [cmpF_one (by omega)];repeat' (first|refine zs ?_|(refine zm ?_ ?_<;>intro hg)|(exfalso;omega))
  refine ak (bh 4 rfl rfl rfl) ?_;repeat' (first|refine zr ?_|fail)
  exact⟨.inl rfl,_,rfl,0,[],trivial,rfl,rfl,rfl,rfl,rfl,rfl⟩
 ·repeat' (first|refine zs ?_|(refine zm ?_ ?_<;>intro hg)|(exfalso;omega))
  refine ag (ι:=Nat) (λi=>⟨1,[(0,.row 0),(1,.fn 108 []),(5,.d (.int .i64 i))],[(0,.row 37 2 (l.map ae))]⟩)
   (λi=>1<=i/\i<=l.length/\cmpF (l.take i)=l.take i) (λi=>l.length-i) 1 ⟨by omega,by omega,cmpF_one (by rw [Aq];omega)⟩ (er id) ?_
  rintro i ⟨g0,g1,g2⟩;by_cases hi:i<l.length
  ·have hs:Fn 108 [fi l[i],fi (l[((i:Int)-1).toNat]'(by omega))] (λr=>r = .d (.bool (decide (de l[i] (l[i-1]'(by omega))=0)))):=by
    have e:((i:Int)-1).toNat=i-1:=by omega
    simp only [e];exact rsame_fn _ _
   have ht:=cmpF_take (by omega:0<i) hi;cases hb:decide (de l[i] (l[i-1]'(by omega))=0) with
   | false =>
    have hb':=of_decide_eq_false hb;rw [hb] at hs;rw [if_neg hb',g2,<- An hi] at ht;repeat' (first|refine zs ?_|(apply jd;exact rfl;exact rfl;exact rfl;exact rfl;apply hs;exact rfl;(exact rfl);exact rfl;exact rfl;exact⟨_,rfl⟩;rintro _ rfl)|(refine zm ?_ ?_<;>intro hg)|(exfalso;omega))
    exact⟨i+1,⟨by omega,by omega,ht⟩,er id,by show l.length-(i+1)<l.length-i;omega⟩
   | true =>
    have hb':=of_decide_eq_true hb;rw [hb] at hs;rw [if_pos hb',Bt] at ht;repeat' (first|refine zs ?_|(apply jd;exact rfl;exact rfl;exact rfl;exact rfl;apply hs;exact rfl;(exact rfl);exact rfl;exact rfl;exact⟨_,rfl⟩;rintro _ rfl)|(refine zm ?_ ?_<;>intro hg)|(exfalso;omega))
    refine ag (ι:=Nat×Nat×List Fct) (λx=>⟨1,[(0,.row 0),(1,.fn 108 []),(5,.d (.int .i64 x.1)),(6,.rsl 0 2 i ((l.map ae).length-i)),(7,.d (.int .i64 x.2.1))],[(0,.row 37 2 (x.2.2.map ae))]⟩)
     (λx=>x.2.2.length=l.length/\1<=x.2.1/\x.2.1<=l.length-i/\i<=x.1/\x.1+1<=i+x.2.1/\x.2.2.take x.1=cmpF (l.take (i+x.2.1))/\∀ p,i+x.2.1<=p+1->x.2.2[p]?=l[p]?) (λx=>l.length-i-x.2.1)
     (i,1,l) ⟨rfl,by dsimp only;omega,by dsimp only;omega,by dsimp only;omega,by dsimp only;omega,by rw [ht,g2],λ_ _=>rfl⟩ (er id) ?_
    rintro⟨u,k,o⟩ ⟨q1,q2,q3,q4,q5,q6,q7⟩;dsimp only at q1 q2 q3 q4 q5 q6 q7 ⊢;have lo:(o.map ae).length=o.length:=Aa _;clear hs;by_cases hk:k<l.length-i
    ·have o1:o[i+k]'(by omega)=l[i+k]'(by omega):=by
      have:=q7 (i+k) (by omega)
      rw [Ad (by omega),Ad (by omega)] at this;exact Option.some.inj this
     have o2:o[i+k-1]'(by omega)=l[i+k-1]'(by omega):=by
      have:=q7 (i+k-1) (by omega)
      rw [Ad (by omega),Ad (by omega)] at this;exact Option.some.inj this
     have hs:Fn 108 [fi (o[i+k]'(by omega)),fi (o[i+((k:Int)-1).toNat]'(by omega))] (λr=>r = .d (.bool (decide (de (l[i+k]'(by omega)) (l[i+k-1]'(by omega))=0)))):=by
      have e:i+((k:Int)-1).toNat=i+k-1:=by omega
      simp only [e,o1,o2];exact rsame_fn _ _
     have hc:=cmpF_take (l:=l) (n:=i+k) (by omega) (by omega);cases hb2:decide (de (l[i+k]'(by omega)) (l[i+k-1]'(by omega))=0) with
     | true =>
      have hb3:=of_decide_eq_true hb2;rw [hb2] at hs;rw [if_pos hb3,Bt] at hc;repeat' (first|refine zs ?_|(apply jd;exact rfl;exact rfl;exact rfl;exact rfl;apply hs;exact rfl;(exact rfl);exact rfl;exact rfl;exact⟨_,rfl⟩;rintro _ rfl)|(refine zm ?_ ?_<;>intro hg)|(exfalso;omega))
      exact⟨(u,k+1,o),⟨q1,by dsimp only;omega,by dsimp only;omega,by dsimp only;omega,by dsimp only;omega,by dsimp only;rw [q6];exact hc.symm,λp hp=>q7 p (by dsimp only at hp;omega)⟩,er id,by show l.length-i-(k+1)<l.length-i-k;omega⟩
     | false =>
      have hb3:=of_decide_eq_false hb2;rw [hb2] at hs;rw [if_neg hb3] at hc;repeat' (first|refine z0 ?_|apply gy|(apply kh;exact rfl;exact rfl;(apply iq;(omega));exact rfl;exact rfl;(exact kb rfl);exact rfl;exact rfl;exact rfl;exact rfl;exact rfl;exact rfl)|refine zs ?_|(apply jd;exact rfl;exact rfl;exact rfl;exact rfl;apply hs;exact rfl;(exact rfl);exact rfl;exact rfl;exact⟨_,rfl⟩;rintro _ rfl)|(refine zm ?_ ?_<;>intro hg)|(exfalso;omega))
      refine⟨(u+1,k+1,o.set u (o[i+k]'(by omega))),⟨by dsimp only;rw [Ba];exact q1,by dsimp only;omega,by dsimp only;omega,by dsimp only;omega,by dsimp only;omega,?_,λp hp=>?_⟩,er id,by show l.length-i-(k+1)<l.length-i-k;omega⟩
      ·dsimp only;rw [An (by rw [Ba];omega),List.getElem_set_self,List.take_set,List.set_eq_of_length_le (by rw [Aq];omega),q6,o1];exact hc.symm
      ·dsimp only at hp ⊢;rw [List.getElem?_set_ne (by omega)];exact q7 p (by omega)
    ·repeat' (first|refine zs ?_|(refine zm ?_ ?_<;>intro hg)|(exfalso;omega))
     have hke:i+k=l.length:=by omega
     rw [hke,Ai (Ah _)] at q6;refine ds_clear [.int .i64 0,.slice 1 []] rfl rfl rfl rfl ⟨.inl rfl,.inr ⟨rfl,1,rfl⟩,trivial⟩ rfl rfl (by omega) (by omega) (by omega) rfl rfl ?_;repeat' (first|refine zs ?_|(exfalso;omega))
     refine ak (yy (n:=u) 4 rfl rfl (by simp only [Af,Aq,List.length_replicate,A7];omega) rfl) ?_;refine ak (bh 4 rfl rfl rfl) ?_;repeat' (first|refine zr ?_|fail)
     refine⟨.inl rfl,_,rfl,0,[],trivial,rfl,rfl,rfl,rfl,?_,rfl⟩
     refine congrArg (λz=>SV.d (.slice 2 z)) ?_;have hu:((o.map ae).take u).length=u:=by rw [Aq];omega
     show List.take u ((o.map ae).take u++List.replicate _ _++List.drop _ (o.map ae))=_;rw [List.append_assoc,List.take_append_of_le_length (by omega),Ai (by omega),<- List.map_take,q6]
  ·rw [Ai (by omega)] at g2;rw [g2];repeat' (first|refine zs ?_|(refine zm ?_ ?_<;>intro hg)|(exfalso;omega))
   refine ak (bh 4 rfl rfl rfl) ?_;repeat' (apply c9)
   exact⟨.inl rfl,_,rfl,0,[],trivial,rfl,rfl,rfl,rfl,rfl,rfl⟩
theorem keep_fn (l:List Fct) (g:FuncId) (caps:List SV) (pr:Fct->Bool) (hlow:SV.lowL 0 caps=true) (hl:l.length<=4398046511104) (hargs:∀ x∈l,x.args.length<=17592186044416) (hg:∀ x∈l,Fn g ([fi x]++caps) (λr=>r = .d (.bool (pr x)))) :
  Fn 73 [.d (.slice 2 (l.map ae)),.fn g caps] (λr=>∃ s:List Fct,s.Perm (l.filter pr)/\s.Pairwise (λa b=>de b a ≥ 0)/\r = .d (.slice 2 ((cmpF s).map ae))):=by
 refine fqE Tryz.func73 ?_;intro O w0 E0 β0;have ll:(l.map ae).length=l.length:=Aa _;have hlows:∀ k,SV.lowL k caps=true:=λk=>SV.lowL_mono k caps hlow
 repeat' ((fail_if_success (apply dw_stop 0));(first|refine zs ?_|fail))
 refine ak (cd (t:=5) 37 2 rfl) ?_;repeat' fail
 refine ag (ι:=Nat×List Fct) (λx=>⟨1,[(1,.fn g caps),(5,.row 0),(8,.d (.slice 2 (l.map ae))),(9,.d (.int .i64 l.length)),(10,.d (.int .i64 x.1))],[(0,.row 37 2 (x.2.map ae))]⟩)
  (λx=>x.1<=l.length/\x.2=(l.take x.1).filter pr) (λx=>l.length-x.1) (0,[]) ⟨Ak _,rfl⟩ (ai id ⟨(SV.ren_id _).symm,rfl,rfl,by rw [<- ll];rfl,rfl,trivial⟩ ⟨rfl,trivial⟩ (by simp [Sl.low,SV.low,hlows]) rfl rfl rfl rfl rfl) ?_
 rintro⟨i,o⟩ ⟨g1,g2⟩;dsimp only at g1 g2 ⊢;have lo:(o.map ae).length=o.length:=Aa _;have hol:o.length<=i:=by rw [g2];have:=List.length_filter_le pr (l.take i);rw [Aq] at this;omega
 by_cases hi:i<l.length
 ·have hm:=Aj hi;have hx:=hg _ hm;have hw:=own_fn l[i] (hargs _ hm);have hll:SV.lowL 0 ([fi l[i]]++caps)=true:=by simp [SV.lowL,SV.low,hlow]
  have hstep:(l.take (i+1)).filter pr=o++(if pr l[i] then [l[i]] else []):=by
   rw [An hi,List.filter_append,<- g2];congr 1;simp [List.filter_cons]
  cases hb:pr l[i] with
  | true =>
   rw [hb] at hx;rw [hb,if_pos rfl] at hstep;repeat' (first|refine zs ?_|(apply ki;exact rfl;exact rfl;exact rfl;exact rfl;apply hx;exact rfl;(assumption);exact rfl;rintro _ rfl)|refine z21 ?_ (hc:=by apply hw)|(refine zm ?_ ?_<;>intro hg)|(exfalso;omega))
   exact⟨(i+1,o++[l[i]]),⟨by dsimp only;omega,hstep.symm⟩,ai (λj=>match j with|0=>2|j=>j) ⟨(SV.ren_low0 _ (.fn g caps) hlow).symm,rfl,rfl,rfl,rfl,trivial⟩ ⟨by rw [List.map_append];rfl,trivial⟩ (by simp [Sl.low,SV.low,hlows]) rfl rfl rfl rfl rfl,by show l.length-(i+1)<l.length-i;omega⟩
  | false =>
   rw [hb] at hx;rw [hb,if_neg (by simp),Bt] at hstep;repeat' (first|refine zs ?_|(apply ki;exact rfl;exact rfl;exact rfl;exact rfl;apply hx;exact rfl;(assumption);exact rfl;rintro _ rfl)|(refine zm ?_ ?_<;>intro hg)|(exfalso;omega))
   exact⟨(i+1,o),⟨by dsimp only;omega,hstep.symm⟩,ai id ⟨(SV.ren_low0 _ (.fn g caps) hlow).symm,rfl,rfl,rfl,rfl,trivial⟩ ⟨rfl,trivial⟩ (by simp [Sl.low,SV.low,hlows]) rfl rfl rfl rfl rfl,by show l.length-(i+1)<l.length-i;omega⟩
 ·rw [Ai (by omega)] at g2;repeat' (first|refine zs ?_|(refine zm ?_ ?_<;>intro hg)|(exfalso;omega))
  refine ds_sort sortFacts_c o (by kernel_rfl) rfl rfl rfl rfl rfl rfl (by omega) ?_;intro s hp hs;have hsl:s.length<=4398046511104:=by rw [hp.length_eq];omega
  refine mc (ai (k':=1) (L':=[(5,.row 0)]) (H':=[(0,.row 37 2 (s.map ae))]) id ⟨rfl,trivial⟩ ⟨rfl,trivial⟩ rfl rfl rfl rfl rfl rfl) ?_;repeat' (first|refine zs ?_|(exfalso;omega))
  (refine bg id (compact_fn s hsl) rfl rfl rfl rfl ⟨rfl,trivial⟩ rfl rfl rfl rfl rfl rfl ?_ ?_)
  ·rintro k2 r H2 ⟨rfl,rfl⟩;exact⟨rfl,rfl⟩
  rintro k2 r H2 ⟨rfl,rfl⟩;change DS _ _ _ _ _ _ _ _;repeat' (first|refine zr ?_|fail)
  exact⟨.inl rfl,_,rfl,rfl,s,g2▸hp,hs,rfl⟩
def Strict (l:List Fct):Prop:=l.Pairwise λx y=>de x y<0
theorem lt_irrefl {x:Fct} (h:de x x<0):False:=by rw [mo] at h;omega
theorem lt_asymm {x y:Fct} (h:de x y<0) (g:de y x<0):False:=lt_irrefl (mb h g)
theorem j7:∀ {a b:List Fct},Strict a->Strict b->(∀ x,x∈a↔x∈b)->a=b
 | [],[],_,_,_=>rfl
 | [],y::b,_,_,h=>by have:=(h y).2 Ac;simp at this
 | x::a,[],_,_,h=>by have:=(h x).1 Ac;simp at this
 | x::a,y::b,ha,hb,h=>by
  obtain⟨a1,a2⟩:=List.pairwise_cons.1 ha;obtain⟨b1,b2⟩:=List.pairwise_cons.1 hb;have hxy:x=y:=by
   rcases List.mem_cons.1 ((h x).1 Ac) with h1|h1
   ·exact h1
   ·rcases List.mem_cons.1 ((h y).2 Ac) with h2|h2
    ·exact h2.symm
    ·exact (lt_asymm (b1 x h1) (a1 y h2)).elim
  subst hxy;rw [j7 a2 b2 λz=>?_];constructor
  ·intro hz;rcases List.mem_cons.1 ((h z).1 (Ag _ hz)) with h1|h1
   ·subst h1;exact (lt_irrefl (a1 z hz)).elim
   ·exact h1
  ·intro hz;rcases List.mem_cons.1 ((h z).2 (Ag _ hz)) with h1|h1
   ·subst h1;exact (lt_irrefl (b1 z hz)).elim
   ·exact h1
theorem cmpG_spec:∀ (l:List Fct) (p:Fct),(p::l).Pairwise (λa b=>de b a ≥ 0)->Strict (p::cmpG p l)/\∀ x,x∈p::cmpG p l↔x∈p::l
 | [],p,_=>⟨List.pairwise_cons.2 ⟨λx hx=>by simp [cmpG] at hx,.nil⟩,λx=>Iff.rfl⟩
 | y::l,p,h=>by
  obtain⟨h1,h2⟩:=List.pairwise_cons.1 h;obtain⟨i1,i2⟩:=cmpG_spec l y h2;unfold cmpG;split
  ·rename_i h3;have:=qq h3
   subst this;refine⟨i1,λx=>(i2 x).trans ⟨λhx=>Ag _ hx,λhx=>?_⟩⟩
   rcases List.mem_cons.1 hx with rfl|hx
   ·exact Ac
   ·exact hx
  ·rename_i h3;have hpy:de p y<0:=by have:=h1 y Ac;rw [p7];omega
   refine⟨List.pairwise_cons.2 ⟨λz hz=>?_,i1⟩,λx=>?_⟩
   ·rcases List.mem_cons.1 hz with rfl|hz
    ·exact hpy
    ·exact mb hpy ((List.pairwise_cons.1 i1).1 z hz)
   ·rw [Bh,Bh (a:=x) (b:=p),i2 x]
theorem cmpF_spec {s:List Fct} (h:s.Pairwise (λa b=>de b a ≥ 0)):Strict (cmpF s)/\∀ x,x∈cmpF s↔x∈s:=by
 match s,h with
 | [],_=>exact⟨.nil,λ_=>Iff.rfl⟩
 | p::l,h=>exact cmpG_spec l p h
theorem kFrom_spec {l:List Fct} {f:Fct}:∀ (n:Nat),n<=l.length->qt l f n<=n/\(∀ j (hj:j<l.length),qt l f n<=j->j<n->0<de l[j] f)/\(∀ j (hj:j<l.length),j+1=qt l f n->¬ 0<de l[j] f)
 | 0,_=>⟨Ah _,λj _ _ h=>by omega,λj _ h=>by simp [qt] at h⟩
 | n+1,hn=>by
  obtain⟨i1,i2,i3⟩:=kFrom_spec (l:=l) (f:=f) n (by omega);rw [kFrom_succ (by omega)];split
  ·rename_i h;refine⟨by omega,λj hj h1 h2=>?_,i3⟩
   by_cases hjn:j=n
   ·subst hjn;exact h
   ·exact i2 j hj h1 (by omega)
  ·rename_i h;refine⟨Ah _,λj hj h1 h2=>by omega,λj hj h1=>?_⟩
   have:j=n:=by omega
   subst this;exact h
theorem hasF_iff {l:List Fct} {f:Fct}:hasF l f=true↔f∈l:=by
 unfold hasF;rw [List.any_eq_true];constructor
 ·rintro⟨x,hx,h⟩;rw [<- qq (of_decide_eq_true h)];exact hx
 ·intro h;exact⟨f,h,decide_eq_true (mo f)⟩
theorem insF_spec {l:List Fct} {f:Fct} (h:Strict l):Strict (uq l f)/\∀ x,x∈uq l f↔x∈l∨x=f:=by
 unfold uq;split
 ·rename_i hh;have:=hasF_iff.1 hh
  exact⟨h,λx=>⟨.inl,λhx=>hx.elim id λe=>e▸this⟩⟩
 ·rename_i hh;have hf:f ∉ l:=λhm=>hh (hasF_iff.2 hm)
  obtain⟨k1,k2,k3⟩:=kFrom_spec (l:=l) (f:=f) l.length (Ah _);generalize qt l f l.length=k at k1 k2 k3;have hpi:=List.pairwise_iff_getElem.1 h;have hlo:∀ j (hj:j<l.length),j<k->de l[j] f<0:=by
   intro j hj hjk;have hk1:k-1<l.length:=by omega
   have h1:=k3 (k-1) hk1 (by omega);have hne:de l[k-1] f≠0:=λe=>hf (qq e▸Aj hk1)
   have h2:de l[k-1] f<0:=by omega
   by_cases hjk1:j=k-1
   ·subst hjk1;exact h2
   ·exact mb (hpi j (k-1) hj hk1 (by omega)) h2
  have hhi:∀ j (hj:j<l.length),k<=j->de f l[j]<0:=λj hj hjk=>by have:=k2 j hj hjk hj;rw [p7];omega
  have htk:∀ x∈l.take k,de x f<0:=by
   intro x hx;obtain⟨j,hj,rfl⟩:=List.mem_iff_getElem.1 hx;rw [Aq] at hj;rw [Dp];exact hlo j (by omega) (by omega)
  have hdk:∀ x∈l.drop k,de f x<0:=by
   intro x hx;obtain⟨j,hj,rfl⟩:=List.mem_iff_getElem.1 hx;rw [A7] at hj;rw [List.getElem_drop];exact hhi (k+j) (by omega) (by omega)
  refine⟨List.pairwise_append.2 ⟨h.sublist (List.take_sublist _ _),List.pairwise_cons.2 ⟨hdk,h.sublist (List.drop_sublist _ _)⟩,λx hx y hy=>?_⟩,λx=>?_⟩
  ·rcases List.mem_cons.1 hy with rfl|hy
   ·exact htk x hx
   ·exact mb (htk x hx) (hdk y hy)
  ·rw [Cj,Bh];constructor
   ·rintro (hx|rfl|hx)
    ·exact .inl (Bq hx)
    ·exact .inr rfl
    ·exact .inl (B2 hx)
   ·rintro (hx|rfl)
    ·have:=hx
     rw [<- Ds k l] at this;rcases List.mem_append.1 this with h1|h1
     ·exact .inl h1
     ·exact .inr (.inr h1)
    ·exact .inr (.inl rfl)
theorem setF_spec':∀ (l o:List Fct),Strict o->Strict (l.foldl uq o)/\∀ x,x∈l.foldl uq o↔x∈o∨x∈l
 | [],o,h=>⟨h,λx=>by simp⟩
 | y::l,o,h=>by
  obtain⟨i1,i2⟩:=insF_spec (f:=y) h
  obtain⟨j1,j2⟩:=setF_spec' l (uq o y) i1
  refine⟨j1,λx=>?_⟩
  rw [List.foldl_cons,j2,i2,Bh,or_assoc]
theorem bp (l:List Fct):Strict (a8 l)/\∀ x,x∈a8 l↔x∈l:=by
 obtain⟨h1,h2⟩:=setF_spec' l [] .nil;exact⟨h1,λx=>(h2 x).trans (by simp)⟩
theorem keep_set {s l:List Fct} (hp:s.Perm l) (hs:s.Pairwise (λa b=>de b a ≥ 0)):cmpF s=a8 l :=
 j7 (cmpF_spec hs).1 (bp l).1 λx=>by rw [(cmpF_spec hs).2,(bp l).2,hp.mem_iff]
theorem half_u64 (i j:Nat) (h:i+j<=9223372036854775807):shrN .u64 (IntKind.u64.wrap ((i:Int)+j)) 1=(((i+j) / 2:Nat):Int):=by
 have hw:IntKind.u64.wrap ((i:Int)+j)=(i:Int)+j:=by simp [IntKind.wrap,IntKind.bits,IntKind.signed];omega
 rw [hw];unfold shrN;rw [show (2:Int) ^ min (1:Int).toNat IntKind.u64.bits=2 from by decide,Int.fdiv_eq_ediv_of_nonneg _ (by decide)];omega
theorem found_at {l:List Fct} {f:Fct} {i:Nat} (hs:Strict l) (h1:∀ p (hp:p<l.length),p<i->de l[p] f<0) (h2:∀ p (hp:p<l.length),i<=p->0<=de l[p] f):hasF l f=(if h:i<l.length then decide (de l[i] f=0) else false):=by
 rw [Bool.eq_iff_iff,hasF_iff];have hpi:=List.pairwise_iff_getElem.1 hs;constructor
 ·intro hm;obtain⟨p,hp,rfl⟩:=List.mem_iff_getElem.1 hm;have hpi':¬ p<i:=λh=>lt_irrefl (h1 p hp h)
  rw [dif_pos (by omega)];by_cases he:p=i
  ·subst he;exact decide_eq_true (mo _)
  ·have:=hpi i p (by omega) hp (by omega)
   have:=h2 i (by omega) (Ah _)
   omega
 ·intro h;split at h
  ·rename_i hi;rw [<- qq (of_decide_eq_true h)];exact Aj hi
  ·cases h
theorem below_step {l:List Fct} {f:Fct} {h i:Nat} (hs:Strict l) (hml:h<l.length) (_:∀ p (hp:p<l.length),p<i->de l[p] f<0) (hg:de l[h] f<0):∀ p (hp:p<l.length),p<h+1->de l[p] f<0:=by
 intro p hp hlt;by_cases he:p=h
 ·subst he;exact hg
 ·exact mb (List.pairwise_iff_getElem.1 hs p h hp hml (by omega)) hg
theorem above_step {l:List Fct} {f:Fct} {h:Nat} (hs:Strict l) (hml:h<l.length) (hg:0<=de l[h] f):∀ p (hp:p<l.length),h<=p->0<=de l[p] f:=by
 intro p hp hlt;by_cases he:p=h
 ·subst he;exact hg
 ·have h1:=List.pairwise_iff_getElem.1 hs h p hml hp (by omega);have h2:=p7 l[p] l[h];exact ordF_le (by omega) hg
theorem bsearch_fn (l:List Fct) (f:Fct) (hl:l.length<=4398046511104) (hs:Strict l):Fn 129 [.d (.slice 2 (l.map ae)),fi f,.fn 52 []] (λr=>∃ n:Int,r = .tup [.d (.int .i64 n),.d (.bool (hasF l f))]):=by
 refine fqE Tryz.func129 ?_;intro O w0 E0 β0;have ll:(l.map ae).length=l.length:=Aa _;repeat' (first|refine zs ?_|fail)
 refine ag (ι:=Nat×Nat) (λx=>⟨1,[(0,.d (.slice 2 (l.map ae))),(2,.fn 52 []),(4,.loc 0 0),(8,.d (.int .i64 l.length)),(9,.d (.int .i64 x.1)),(10,.d (.int .i64 x.2))],[(0,.blk 37 [.d (.int .i64 f.pred),.d (.slice 1 (f.args.map aq))])]⟩)
  (λx=>x.1<=x.2/\x.2<=l.length/\(∀ p (hp:p<l.length),p<x.1->de l[p] f<0)/\(∀ p (hp:p<l.length),x.2<=p->0<=de l[p] f)) (λx=>x.2-x.1)
  (0,l.length) ⟨Ak _,Ah _,λp _ h=>absurd h (A9 p),λp hp h=>by omega⟩ (ai id ⟨rfl,rfl,rfl,by rw [<- ll];rfl,rfl,by rw [<- ll];rfl,trivial⟩ ⟨rfl,trivial⟩ rfl rfl rfl rfl rfl rfl) ?_
 rintro⟨i,j⟩ ⟨g1,g2,g3,g4⟩;dsimp only at g1 g2 g3 g4 ⊢;by_cases hij:i<j
 ·have he:=half_u64 i j (by omega);have hm1:i<=(i+j) / 2:=by omega
  have hm2:(i+j) / 2<j:=by omega
  have hml:(i+j) / 2<l.length:=by omega
  have hw:=yq (l[(i+j) / 2]'hml) f;repeat' ((fail_if_success (apply eo 5));(first|refine zr ?_|(refine zm ?_ ?_<;>intro hg)|fail))
  all_goals try (exfalso;omega)
  refine ak (k':=1) (L':=[(11,.d (.int .i64 (((i+j) / 2:Nat):Int))),(0,.d (.slice 2 (l.map ae))),(2,.fn 52 []),(4,.loc 0 0),(8,.d (.int .i64 l.length)),(9,.d (.int .i64 i)),(10,.d (.int .i64 j))]) (H':=[(0,.blk 37 [.d (.int .i64 f.pred),.d (.slice 1 (f.args.map aq))])]) ?_ ?_
  ·rw [<- he];exact er id
  generalize (i+j) / 2=h at *;repeat' (first|refine zs ?_|(apply jd;exact rfl;exact rfl;exact rfl;exact rfl;apply hw;exact rfl;(exact rfl);exact rfl;exact rfl;exact⟨_,rfl⟩;rintro _ rfl)|(refine zm ?_ ?_<;>intro hg)|(exfalso;omega))
  all_goals first
   | exact⟨(h+1,j),⟨by dsimp only;omega,g2,below_step hs hml g3 hg,g4⟩,er id,by show j-(h+1)<j-i;omega⟩
   | exact⟨(i,h),⟨hm1,by dsimp only;omega,g3,above_step hs hml (Int.not_lt.1 hg)⟩,er id,by show h-i<j-i;omega⟩
 ·have hij':i=j:=by omega
  subst hij';have hf:=found_at hs g3 g4;by_cases hil:i<l.length
  ·rw [dif_pos hil] at hf;have hw:=yq l[i] f;rw [hf];repeat' (first|refine zr ?_|(apply jd;exact rfl;exact rfl;exact rfl;exact rfl;apply hw;exact rfl;(exact rfl);exact rfl;exact rfl;exact⟨_,rfl⟩;rintro _ rfl)|(refine zm ?_ ?_<;>intro hg)|(exfalso;omega))
   all_goals exact⟨.inl rfl,_,rfl,rfl,_,rfl⟩
  ·rw [dif_neg hil] at hf;rw [hf];repeat' (first|refine zr ?_|(refine zm ?_ ?_<;>intro hg)|(exfalso;omega))
   exact⟨.inl rfl,_,rfl,rfl,_,rfl⟩
theorem in_fn (l:List Fct) (f:Fct) (hl:l.length<=4398046511104) (hs:Strict l):Fn 71 [.d (.slice 2 (l.map ae)),fi f] (λr=>r = .d (.bool (hasF l f))):=by
 refine fqE Tryz.func71 ?_;intro O w0 E0 β0;have hb:=bsearch_fn l f hl hs;repeat' (first|refine zs ?_|fail)
 refine yz rfl rfl hb rfl rfl rfl ?_;rintro r ⟨n,rfl⟩;repeat' (first|refine zr ?_|fail)
 exact⟨.inl rfl,_,rfl,rfl,rfl⟩
end
end Go.Proofs.YtapciiffpnociadGreat
