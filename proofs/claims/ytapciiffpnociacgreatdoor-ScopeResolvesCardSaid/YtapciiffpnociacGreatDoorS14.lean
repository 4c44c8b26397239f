/- Several texts in one: ScrB GxWin GxVew GxPtr GxShw ScoG ScoH Tool ScrF ScrG TreI. Condition: none. -/
import Derived.Test.YtapciiffpnociacGreatDoorS13
import Derived.Test.YtapciiffpnociacGreatDoorS08
import Derived.Test.YtapciiffpnociacGreatDoorS11
namespace Go.Proofs.YtapciiffpnociacGreatDoor
open Go Go.RowKit
namespace SS
def withV (x:SS) (vs:List ByteArray):SS:=⟨x.names,x.arity,x.rules,vs,x.at_,x.e⟩
def addS (vs:List ByteArray) (s:ByteArray):List ByteArray:=if s=⟨#[]⟩ then vs else if placeT s vs=vs.length then vs++[s] else vs
theorem addS_len (vs:List ByteArray) (s:ByteArray):(addS vs s).length≤vs.length + 1:=by
 unfold addS
 split
 ·omega
 ·split
  ·simp
  ·omega
theorem term_ok {x:SS} {vs:List ByteArray} {a:Int} {t:TTm} (h:numB t.n=true):(x.withV vs).term a t=x.withV (addS vs t.var):=by
 unfold term num addS
 rw [if_pos h]
 by_cases hv:t.var=⟨#[]⟩
 ·rw [if_pos hv,if_pos hv]
 ·rw [if_neg hv,if_neg hv]
  unfold addV
  show (if placeT t.var vs=vs.length then _ else _)=_
  split <;> rfl
theorem term_bad {x:SS} {a:Int} {t:TTm} (h:numB t.n=false) (h0:x.e=0):(x.term a t).at_=a∧(x.term a t).e=3:=by
 have hw:x.wrong a 3=⟨x.names,x.arity,x.rules,x.vars,a,3⟩:=by unfold wrong;rw [if_pos h0]
 unfold term num
 rw [h,hw,if_neg Bool.false_ne_true]
 split
 ·exact⟨rfl,rfl⟩
 ·unfold addV
  split <;> exact⟨rfl,rfl⟩
end SS
abbrev rsR (x:SS) (vs:List ByteArray) (rest:Hp):Hp:=(0,.blk 95 [.row 1,.row 2,.row 3,.mp 4,.mp 5])::(1,.row 3 1 (x.arity.map encI))::(2,.row 9 1 (x.names.map encT))::(3,.row 48 5 (x.rules.map encRul))::(4,.map true (kvT 0 x.names))::(5,.map true (kvT 0 vs))::rest
attribute [local irreducible] DW DS DL DQ Ev FnOk FnP FnOkE thenD inBlockD
set_option maxHeartbeats 8000000 in
theorem sterms_fn (x:SS) (a:Int) (l:List TTm) (hl:l.length≤100000) (hv:x.vars.length≤100000) (h0:x.e=0):FnOkE false Tryz.prog tab tab_ok 82 [.loc 0 0,.d (.int .i64 a),.d (.slice 2 (l.map encTTm))] 6 6 (rsH x)
  (fun k r H=>(x.terms a l).e=0∧k=6∧r = .d (.slice 2 ((x.trms a l).map encTrm))∧H=rsH (x.terms a l)) (wrongE (x.terms a l)):=by
 refine fn_enterRE _ Tryz.func82 rfl rfl (by kernel_rfl) ?_
 intro O w0 E0 β0
 have ll:(l.map encTTm).length=l.length:=List.length_map _
 repeat' (first|refine z0 ?_|apply ds_nil|apply dw_seq2|refine z16 ?_|apply dw_block|apply thenD_n)
 refine dw_ent (ent_nilrow (t:=7) 104 2 rfl) ?_
 refine ds_loop (ι:=Nat × List ByteArray × List Trm) (fun y=>⟨7,[(0,.loc 0 0),(1,.d (.int .i64 a)),(7,.row 6),(13,.d (.slice 2 (l.map encTTm))),(14,.d (.int .i64 l.length)),(15,.d (.int .i64 y.1))],rsR x y.2.1 [(6,.row 104 2 (y.2.2.map encTrm))]⟩)
  (fun y=>y.1≤l.length∧x.terms a l=(x.withV y.2.1).terms a (l.drop y.1)∧x.trms a l=y.2.2++(x.withV y.2.1).trms a (l.drop y.1)∧y.2.2.length=y.1∧y.2.1.length≤x.vars.length + y.1) (fun y=>l.length - y.1) (0,x.vars,[]) ⟨Nat.zero_le _,rfl,rfl,rfl,Nat.le_refl _⟩
  (ent_ren id ⟨rfl,rfl,rfl,rfl,by rw [← ll];rfl,rfl,trivial⟩ ⟨rfl,rfl,rfl,rfl,rfl,rfl,rfl,trivial⟩ rfl rfl rfl rfl rfl rfl) ?_
 rintro⟨i,vs,acc⟩ ⟨hi,ht,hr,hac,hvs⟩
 dsimp only at hi ht hr hac hvs ⊢
 by_cases hil:i < l.length
 ·rw [List.drop_eq_getElem_cons hil] at ht hr
  have lac:(acc.map encTrm).length=acc.length:=List.length_map _
  obtain⟨t,htt⟩:∃ t,t=l[i]:=⟨_,rfl⟩
  rw [← htt] at ht hr
  replace ht:x.terms a l=((x.withV vs).term a t).terms a (l.drop (i + 1)):=ht
  replace hr:x.trms a l=acc++(x.withV vs).trm t::((x.withV vs).term a t).trms a (l.drop (i + 1)):=hr
  have w1:=snumber_fn t.n
  cases hn:numB t.n with
  | false =>
   obtain⟨q1,q2⟩:=SS.term_bad (x:=x.withV vs) (a:=a) hn h0
   obtain⟨q3,q4⟩:=SS.keep_terms (l.drop (i + 1)) ((x.withV vs).term a t) a (by rw [q2];decide)
   rw [q1,← ht] at q3
   rw [q2,← ht] at q4
   rw [hn] at w1
   have w2:=sfail_fn a 3
   clear ht hr
   clear q1 q2
   subst htt
   repeat' (first|refine z0 ?_|apply ds_nil|apply dw_seq2|refine z16 ?_|apply dw_block|apply dw_skip|apply dw_exit|refine z18 ?_|apply thenD_n|apply thenD_e|refine z17 ?_|refine z21 ?_ (hc:=by apply w1)|refine z1 ?_|refine z3 ?_|(refine z23 ?_ ?_ <;> intro hg)|fail)
   all_goals try (exfalso;omega)
   refine ds_callE id w2 rfl rfl rfl rfl trivial rfl rfl rfl rfl rfl rfl ?_ ?_ ?_
   ·rintro v ⟨rfl,ha,he⟩;exact⟨by rw [q4];decide,by rw [q3,q4],by rw [q3];exact ha,by rw [q4];exact he⟩
   ·rintro k2 res H2 h;exact h.elim
   ·rintro k2 res H2 h;exact h.elim
  | true =>
   rw [SS.term_ok hn] at ht hr
   rw [hn] at w1
   have hap:(acc++[(x.withV vs).trm t]).map encTrm=acc.map encTrm++[encTrm ((x.withV vs).trm t)]:=List.map_append
   have hr2:x.trms a l=(acc++[(x.withV vs).trm t])++(x.withV (SS.addS vs t.var)).trms a (l.drop (i + 1)):=by rw [hr];simp
   have hvs2:=SS.addS_len vs t.var
   clear hr
   by_cases hvar:t.var=⟨#[]⟩
   ·have ha:SS.addS vs t.var=vs:=by unfold SS.addS;rw [if_pos hvar]
    have htm:(x.withV vs).trm t=⟨-1,t.n⟩:=by unfold SS.trm;rw [if_pos hvar]
    rw [ha] at ht hr2
    rw [htm] at hr2 hap
    clear htm ha hvs2
    subst htt
    repeat' (first|refine z0 ?_|apply ds_nil|refine z5 ?_|apply dw_seq2|refine z16 ?_|refine z20 ?_|apply dw_block|apply dw_skip|apply dw_exit|refine z19 ?_|apply thenD_n|apply thenD_e|apply inB_n|refine z17 ?_|refine z21 ?_ (hc:=by apply w1)|refine z1 ?_|refine z3 ?_|refine z4 ?_|refine z2 ?_|(refine z23 ?_ ?_ <;> intro hg)|fail)
    all_goals try (exfalso;first|omega|exact absurd hvar (by assumption))
    exact⟨(i + 1,vs,acc++[⟨-1,l[i].n⟩]),⟨by show i + 1≤l.length;omega,ht,hr2,by show (acc++_).length=i + 1;rw [List.length_append,hac];rfl,by show vs.length≤x.vars.length + (i + 1);omega⟩,ent_ren (fun x=>match x with|6=>_|x=>x) ⟨rfl,rfl,rfl,rfl,rfl,rfl,trivial⟩ ⟨rfl,rfl,rfl,rfl,rfl,rfl,by dsimp only;rw [hap];rfl,trivial⟩ rfl rfl rfl rfl rfl rfl,by show l.length - (i + 1) < l.length - i;omega⟩
   ·have hgt:=kvT_get t.var vs 0
    rw [Nat.zero_add] at hgt
    have hpl:=placeT_le t.var vs
    obtain⟨p,hpp⟩:∃ p,p=placeT t.var vs:=⟨_,rfl⟩
    have htm:(x.withV vs).trm t=⟨p,t.n⟩:=by unfold SS.trm;rw [if_neg hvar,hpp];rfl
    rw [htm] at hr2 hap
    rw [← hpp] at hgt hpl
    have lk:=kvT_len vs 0
    subst htt
    repeat' (first|refine z0 ?_|apply ds_nil|refine z5 ?_|apply dw_seq2|refine z16 ?_|refine z20 ?_|apply dw_block|apply dw_skip|apply dw_exit|refine z19 ?_|apply thenD_n|apply thenD_e|apply inB_n|refine z17 ?_|refine z21 ?_ (hc:=by apply w1)|refine z1 ?_|refine z3 ?_|refine z4 ?_|refine z2 ?_|(refine z23 ?_ ?_ <;> intro hg)|fail)
    all_goals try (exfalso;first|omega|exact absurd (by assumption) hvar|exact absurd hvar (by assumption))
    refine dt_lookupOk 5 (kd:=true) (kvs:=kvT 0 vs) (key:=.str l[i].var) mapS_t rfl rfl rfl rfl rfl rfl rfl rfl ?_
    rw [hgt]
    by_cases hp:p < vs.length
    ·rw [if_pos hp]
     dsimp only [Option.getD,Option.isSome]
     have ha:SS.addS vs l[i].var=vs:=by unfold SS.addS;rw [if_neg hvar,if_neg (by omega)]
     rw [ha] at ht hr2
     clear hgt htm
     repeat' (first|refine z0 ?_|apply ds_nil|refine z5 ?_|refine z10 ?_|apply dw_seq2|refine z16 ?_|apply dw_skip|refine z19 ?_|apply thenD_n|apply inB_n|refine z3 ?_|refine z4 ?_|refine z2 ?_|fail)
     exact⟨(i + 1,vs,acc++[⟨p,l[i].n⟩]),⟨by show i + 1≤l.length;omega,ht,hr2,by show (acc++_).length=i + 1;rw [List.length_append,hac];rfl,by show vs.length≤x.vars.length + (i + 1);omega⟩,ent_ren (fun x=>match x with|6=>_|x=>x) ⟨rfl,rfl,rfl,rfl,rfl,rfl,trivial⟩ ⟨rfl,rfl,rfl,rfl,rfl,rfl,by dsimp only;rw [hap];rfl,trivial⟩ rfl rfl rfl rfl rfl rfl,by show l.length - (i + 1) < l.length - i;omega⟩
    ·rw [if_neg hp]
     dsimp only [Option.getD,Option.isSome]
     have hpn:p=vs.length:=by omega
     have ha:SS.addS vs l[i].var=vs++[l[i].var]:=by unfold SS.addS;rw [if_neg hvar,if_pos (by omega)]
     have hset:=kvT_set l[i].var vs 0 (by omega)
     rw [Nat.zero_add] at hset
     rw [ha] at ht hr2 hvs2
     clear hgt htm
     repeat' ((fail_if_success (apply dw_stopT 12));(first|refine z0 ?_|apply ds_nil|refine z5 ?_|refine z10 ?_|apply dw_seq2|refine z16 ?_|refine z18 ?_|apply thenD_n))
     refine ds_lenMap 5 (kd:=true) (kvs:=kvT 0 vs) mapS_t rfl rfl (by omega) rfl rfl ?_
     rw [lk]
     repeat' ((fail_if_success (apply dw_stopT 12));(first|refine z0 ?_|apply ds_nil|apply thenD_n))
     refine dw_tail 7 (by kernel_rfl) (by kernel_rfl) (by kernel_rfl) rfl rfl rfl ?_
     repeat' (first|refine z5 ?_|refine z10 ?_|fail)
     refine ds_mapSet 5 (kd:=true) (kvs:=kvT 0 vs) (key:=.str l[i].var) (n:=(vs.length:Nat)) mapS_t rfl rfl rfl rfl rfl rfl rfl rfl rfl ?_
     rw [hset]
     repeat' (first|refine z0 ?_|apply ds_nil|refine z16 ?_|apply thenD_n|apply inB_n|refine z3 ?_|refine z4 ?_|refine z2 ?_|fail)
     subst hpn
     exact⟨(i + 1,vs++[l[i].var],acc++[⟨(vs.length:Nat),l[i].n⟩]),⟨by show i + 1≤l.length;omega,ht,hr2,by show (acc++_).length=i + 1;rw [List.length_append,hac];rfl,by show (vs++_).length≤x.vars.length + (i + 1);omega⟩,ent_ren (fun x=>match x with|6=>_|x=>x) ⟨rfl,rfl,rfl,rfl,rfl,rfl,trivial⟩ ⟨rfl,rfl,rfl,rfl,rfl,rfl,by dsimp only;rw [hap];rfl,trivial⟩ rfl rfl rfl rfl rfl rfl,by show l.length - (i + 1) < l.length - i;omega⟩
 ·have hie:i=l.length:=by omega
  rw [hie,List.drop_of_length_le (Nat.le_refl _)] at ht hr
  have ht:x.terms a l=x.withV vs:=ht
  have hr:x.trms a l=acc:=by rw [hr];exact List.append_nil _
  rw [ht,hr]
  repeat' (first|refine z0 ?_|apply ds_nil|apply dw_seq2|refine z16 ?_|apply dw_block|apply dw_skip|apply dw_exit|apply thenD_n|apply thenD_e|refine z17 ?_|refine z1 ?_|refine z3 ?_|(refine z23 ?_ ?_ <;> intro hg)|fail)
  all_goals try (exfalso;omega)
  refine dw_ent (ent_seal 6 rfl rfl rfl) ?_
  repeat' (apply dw_ret)
  exact⟨.inl rfl,_,rfl,id,6,_,rsR x vs [],rfl,⟨rfl,rfl,rfl,rfl,rfl,rfl,trivial⟩,rfl,rfl,rfl,rfl,rfl,rfl,h0,rfl,rfl,rfl⟩
end Go.Proofs.YtapciiffpnociacGreatDoor
namespace Go.Proofs.YtapciiffpnociacGreatDoor
open Go Go.RowKit
def flatD (xs:List (List D)):List SV:=xs.flatten.map .d
theorem flatD_len {es:Nat}:∀ {xs:List (List D)},(∀ x∈xs,x.length=es)→(flatD xs).length=xs.length * es
 | [],_=>by simp [flatD]
 | x::xs,h=>by
  have h1:=flatD_len (xs:=xs) fun y hy=>h y (List.mem_cons_of_mem _ hy)
  have h2:=h x (List.mem_cons_self ..)
  simp only [flatD,List.flatten_cons,List.map_append,List.length_append,List.length_map,List.length_cons,Nat.add_mul] at h1 ⊢
  omega
section
variable {P : Program} (w : World)
end
section
variable {Γ : Ctx} {k : Nat} {L : Sl} {H : Hp} {K : Next'} {ops : List Oper} {rest : List Oper} {t t' ty : TypeId} {x y : Operand}
end
end Go.Proofs.YtapciiffpnociacGreatDoor
namespace Go.Proofs.YtapciiffpnociacGreatDoor
open Go Go.RowKit
section
variable {Γ : Ctx} {k : Nat} {L : Sl} {H H' : Hp} {Q : Post} {c : Code}
end
section
variable {Γ : Ctx} {kk : Nat → Prop} {L : Sl} {H : Hp} {a : Act} {w : World} {e : Env}
end
section
variable {Γ : Ctx} {k : Nat} {L : Sl} {H H' : Hp} {K : Next'} {ops : List Oper} {rest : List Oper} {t : TypeId}
end
section
variable {Γ : Ctx} {k : Nat} {L : Sl} {H : Hp} {K : Next'} {ops : List Oper} {rest : List Oper} {t : TypeId}
end
end Go.Proofs.YtapciiffpnociacGreatDoor
namespace Go.Proofs.YtapciiffpnociacGreatDoor
open Go Go.RowKit
section
variable {Γ : Ctx} {k : Nat} {L : Sl} {H : Hp} {a : Act} {w : World} {e : Env} {S : Nat → Prop} {X' : Nat → Prop}
end
theorem FnP.use_at {dr:Bool} {P:Program} {τ:List (Nat × TI)} {τok:TabOk P τ} {f:FuncId} {args:List SV} {R:SV→Prop} (hc:FnP dr P τ τok f args R) (e:Env) {w:World} (O:Nat→Prop) (hO:∀ b,O b→b < w.heap.size) (hlow:SV.lowL 0 args=true)
  (vs:List Value) (hr:RelL O e w args vs) :
  Calls P f vs.toArray w (fun en w'=>∃ r v,R r∧en = .returned v∧Beld dr w.heap.size w w'∧r.low 0=true∧Rel O e w' r v):=by
 have hX:∀ e' b,Ctx.X ⟨P,τ,τok,O,w,fun b=>b∈ownedL (e.ren id 0) [],0,0,(e.ren id 0).an,none,noPan,true,dr⟩ e' [] b↔O b:=by
  intro e' b
  unfold Ctx.X
  simp [ownedL]
 refine (hc.2 O (e.ren id 0) w vs ⟨fun _=>Iff.rfl,by simp,by simp,by simp [ownedL],by simp [ownedL],rfl,rfl,rfl,fun _=>Nat.le_refl _,Nat.le_refl _,fun _ _ _=>rfl,fun b hb=>⟨hO b hb,by simp [ownedL]⟩,fun j hj=>absurd hj (Nat.not_lt_zero j),fun j hj=>absurd hj (Nat.not_lt_zero j)⟩ ?_).mono ?_
 ·exact RelL.keep (Nat.le_refl _) (fun _ _ _=>rfl) (fun b _ hy=>(hX _ b).1 hy) _ _ (RelL.env _ _ hlow hr)
 ·rintro en w' ⟨k',r,H',e',v,⟨rfl,hlr,hR⟩,rfl,hH,hrel⟩
  refine⟨r,v,hR,rfl,⟨⟨hH.os,hH.tape,hH.output,hH.size,fun b hb=>hH.block b hb (by simp [ownedL])⟩,hH.drawn⟩,hlr,?_⟩
  exact Rel.keep (Nat.le_refl _) (fun _ _ _=>rfl) (fun b _ hy=>(hX _ b).2 hy) _ _ (Rel.env _ _ hlr hrel)
section
variable {Γ : Ctx} {k : Nat} {L : Sl} {H : Hp} {K : Next'} {ops : List Oper} {rest : List Oper}
end
section
variable {Γ : Ctx} {k : Nat} {L : Sl} {H : Hp} {K : Next'} {ops : List Oper} {rest : List Oper} {t t' ty : TypeId} {x y : Operand}
end
end Go.Proofs.YtapciiffpnociacGreatDoor
namespace Go.Proofs.YtapciiffpnociacGreatDoor
open Go Go.RowKit
def shC (H:Hp):SV→Option D
 | .d x=>some x
 | .row j=>match Hp.get H j with|some (.row _ es xs)=>some (.slice es xs)|_=>none
 | _=>none
def shCs (H:Hp):List SV→Option (List D)
 | []=>some []
 | s::l=>match shC H s,shCs H l with|some d,some ds=>some (d::ds)|_,_=>none
def shQ (H:Hp) (i:Nat):Option D:=match Hp.get H i with|some (.blk _ cs)=>(match shCs H cs with|some ds=>some (.ptr ds)|none=>none)|_=>none
def shC2 (H:Hp):SV→Option D
 | .loc i 0=>shQ H i
 | s=>shC H s
def shCs2 (H:Hp):List SV→Option (List D)
 | []=>some []
 | s::l=>match shC2 H s,shCs2 H l with|some d,some ds=>some (d::ds)|_,_=>none
def shP (H:Hp) (i:Nat):SV:=match Hp.get H i with|some (.blk _ cs)=>(match shCs2 H cs with|some ds=>.pd ds|none=>.loc i 0)|_=>.loc i 0
def shR (H:Hp) (j:Nat):SV:=match Hp.get H j with|some (.row _ es xs)=>.d (.slice es xs)|_=>.row j
def shK (H:Hp):SV→SV
 | .row j=>shR H j
 | .loc i 0=>shP H i
 | s=>s
def shKs (H:Hp):List SV→List SV
 | []=>[]
 | s::l=>shK H s::shKs H l
def shS (H:Hp):SV→SV
 | .fn f caps=>.fn f (shKs H caps)
 | s=>shK H s
def shL (H:Hp):List SV→List SV
 | []=>[]
 | s::l=>shS H s::shL H l
def scalTs:List SV→Bool
 | []=>true
 | s::l=>scalB s && scalTs l
def scalT:SV→Bool
 | .tup l=>scalTs l
 | s=>scalB s
theorem scalTs_rel {X Y:Nat→Prop} {e e':Env} {w w':World}:∀ {l:List SV} {vs:List Value},scalTs l=true→RelL X e w l vs→RelL Y e' w' l vs
 | [],[],_,_=>trivial
 | [],_::_,_,h=>h
 | _::_,[],_,h=>h
 | s::l,v::vs,h,g=>by
  simp only [scalTs,Bool.and_eq_true] at h
  exact⟨scal_rel h.1 g.1,scalTs_rel h.2 g.2⟩
theorem scalT_rel {X Y:Nat→Prop} {e e':Env} {w w':World} {s:SV} {v:Value} (h:scalT s=true) (hr:Rel X e w s v):Rel Y e' w' s v:=by
 cases s with
 | tup l =>
  obtain⟨vs,h1,h2⟩:=hr
  exact⟨vs,h1,scalTs_rel h h2⟩
 | d x=>exact scal_rel (s:=.d x) h hr
 | _=>cases h
section
variable {Γ : Ctx} {k : Nat → Prop} {L : Sl} {H : Hp} {a : Act} {w : World} {e : Env}
theorem row_out (m:Models Γ k L H e a w) {i es:Nat} {te:TypeId} {xs:List (List D)} (hH:Hp.get H i=some (.row te es xs)):RepC Γ.O w (e.η i) (.slice es xs) :=
 RepC.keep (Nat.le_refl _) (fun _ _ _=>rfl) (fun _ _ h=>.inl h) (row_data m hH)
theorem shC_rel (m:Models Γ k L H e a w) {s:SV} {d:D} {v:Value} (h:shC H s=some d) (hr:Rel (Γ.X e H) e w s v):RepC Γ.O w v d:=by
 unfold shC at h
 split at h
 ·cases h
  exact RepC.keep (Nat.le_refl _) (fun _ _ _=>rfl) (fun _ _ h=>.inl h) hr
 ·split at h
  ·rename_i hH
   cases h
   rw [hr.2.1]
   exact row_out m hH
  ·cases h
 ·cases h
theorem shCs_rel (m:Models Γ k L H e a w):∀ {cs:List SV} {ds:List D} {vs:List Value},shCs H cs=some ds→RelL (Γ.X e H) e w cs vs→∀ j (h:j < ds.length),∃ u,vs[j]? = some u∧RepC Γ.O w u ds[j]
 | [],ds,_,h,_,j,hj=>by cases h;exact absurd hj (Nat.not_lt_zero j)
 | _::_,_,[],_,g,_,_=>g.elim
 | s::cs,ds,v::vs,h,g,j,hj=>by
  unfold shCs at h
  split at h
  ·rename_i d ds' h1 h2
   cases h
   cases j with
   | zero=>exact⟨v,rfl,shC_rel m h1 g.1⟩
   | succ j=>exact shCs_rel m h2 g.2 j (by simpa using hj)
  ·cases h
theorem shC2_rel (m:Models Γ k L H e a w) {s:SV} {d:D} {v:Value} (h:shC2 H s=some d) (hr:Rel (Γ.X e H) e w s v):RepC Γ.O w v d:=by
 unfold shC2 at h
 split at h
 ·unfold shQ at h
  split at h
  ·rename_i ty cs hH
   split at h
   ·rename_i ds hds
    cases h
    obtain⟨vs,h1,h2,_⟩:=(m.heap _ (Hp.mem_of hH)).2
    have hown:e.β _∈ownedL e H:=List.mem_filterMap.2 ⟨_,Hp.mem_of hH,rfl⟩
    rw [hr.2]
    refine .ptr (fun j=>vs.getD j undef) (m.mine _ hown).2 (Array.getElem?_eq_some_iff.1 h1).1 (fun j hj=>?_) (fun j hj=>?_)
    ·obtain⟨u,u1,u2⟩:=shCs_rel m hds h2 j hj
     simp [World.cell?,h1,u1]
    ·obtain⟨u,u1,u2⟩:=shCs_rel m hds h2 j hj
     simp only [List.getD,u1,Option.getD_some]
     exact u2
   ·cases h
  ·cases h
 ·exact shC_rel m h hr
theorem shCs2_rel (m:Models Γ k L H e a w):∀ {cs:List SV} {ds:List D} {vs:List Value},shCs2 H cs=some ds→RelL (Γ.X e H) e w cs vs→∀ j (h:j < ds.length),∃ u,vs[j]? = some u∧RepC Γ.O w u ds[j]
 | [],ds,_,h,_,j,hj=>by cases h;exact absurd hj (Nat.not_lt_zero j)
 | _::_,_,[],_,g,_,_=>g.elim
 | s::cs,ds,v::vs,h,g,j,hj=>by
  unfold shCs2 at h
  split at h
  ·rename_i d ds' h1 h2
   cases h
   cases j with
   | zero=>exact⟨v,rfl,shC2_rel m h1 g.1⟩
   | succ j=>exact shCs2_rel m h2 g.2 j (by simpa using hj)
  ·cases h
theorem shK_rel (m:Models Γ k L H e a w) {s:SV} {v:Value} (hr:Rel (Γ.X e H) e w s v):Rel Γ.O e w (shK H s) v:=by
 have hk:Rel Γ.O e w s v:=Rel.keep (Nat.le_refl _) (fun _ _ _=>rfl) (fun _ _ h=>.inl h) _ _ hr
 unfold shK
 split
 ·rename_i j
  unfold shR
  split
  ·rename_i hH
   rw [hr.2.1]
   exact row_out m hH
  ·exact hk
 ·rename_i i
  unfold shP
  split
  ·rename_i ty cs hH
   split
   ·rename_i ds hds
    obtain⟨vs,h1,h2,_⟩:=(m.heap _ (Hp.mem_of hH)).2
    have hown:e.β i∈ownedL e H:=List.mem_filterMap.2 ⟨_,Hp.mem_of hH,rfl⟩
    refine⟨e.β i,0,hr.2,(Array.getElem?_eq_some_iff.1 h1).1,(m.mine _ hown).2,fun j hj=>?_⟩
    obtain⟨u,u1,u2⟩:=shCs2_rel m hds h2 j hj
    refine⟨u,?_,u2⟩
    simp [World.cell?,h1,u1]
   ·exact hk
  ·exact hk
 ·exact hk
theorem shKs_rel (m:Models Γ k L H e a w):∀ {l:List SV} {vs:List Value},RelL (Γ.X e H) e w l vs→RelL Γ.O e w (shKs H l) vs
 | [],[],_=>trivial
 | [],_::_,h=>h
 | _::_,[],h=>h
 | _::_,_::_,h=>⟨shK_rel m h.1,shKs_rel m h.2⟩
theorem shS_rel (m:Models Γ k L H e a w) {s:SV} {v:Value} (hr:Rel (Γ.X e H) e w s v):Rel Γ.O e w (shS H s) v:=by
 unfold shS
 split
 ·obtain⟨vs,h1,h2⟩:=hr
  exact⟨vs,h1,shKs_rel m h2⟩
 ·exact shK_rel m hr
theorem shL_rel (m:Models Γ k L H e a w):∀ {l:List SV} {vs:List Value},RelL (Γ.X e H) e w l vs→RelL Γ.O e w (shL H l) vs
 | [],[],_=>trivial
 | [],_::_,h=>h
 | _::_,[],h=>h
 | _::_,_::_,h=>⟨shS_rel m h.1,shL_rel m h.2⟩
end
section
variable {Γ : Ctx} {k : Nat} {L : Sl} {H : Hp} {K : Next'} {ops : List Oper} {rest : List Oper}
end
theorem FnP.shown {dr:Bool} {P:Program} {τ:List (Nat × TI)} {τok:TabOk P τ} {f:FuncId} {args args':List SV} {J k:Nat} {H:Hp} {R:SV→Prop} (hc:FnP dr P τ τok f args' R) (ha:shL H args=args') (hlow:SV.lowL 0 args' = true) (hs:∀ r,R r→scalT r=true) :
  FnOk dr P τ τok f args J k H (fun k2 r H2=>k2=k∧R r∧H2=H):=by
 refine⟨hc.1,fun O e w vs hH hr=>?_⟩
 have m:Models ⟨P,τ,τok,O,w,fun b=>b∈ownedL e H,0,J,e.an,none,noPan,true,dr⟩ (lo k) [] H e { tmps:=#[],defers:=[] } w:=⟨hH,.nil,rfl,fun _=>trivial⟩
 refine (hc.use_at (τ:=τ) (τok:=τok) e O (fun b hb=>Nat.lt_of_lt_of_le (m.obound b hb).1 m.size) hlow _ (ha▸shL_rel m hr)).mono ?_
 rintro en w' ⟨r,v,hR,rfl,hb,hlr,hrel⟩
 exact⟨k,r,H,e,v,⟨rfl,hR,rfl⟩,rfl,(m.below hb).toHeap,scalT_rel (hs r hR) hrel⟩
theorem FnP.shownR {dr:Bool} {P:Program} {τ:List (Nat × TI)} {τok:TabOk P τ} {f:FuncId} {args args':List SV} {J k:Nat} {H:Hp} {R:SV→Prop} (hc:FnP dr P τ τok f args' R) (ha:shL H args=args') (hlow:SV.lowL 0 args' = true) (hs:∀ r,R r→scalT r=true) :
  FnOk dr P τ τok f args J k H (fun _ r H2=>R r∧H2=H):=by
 obtain⟨h1,h2⟩:=FnP.shown (J:=J) (k:=k) (H:=H) hc ha hlow hs
 refine⟨h1,fun O e w vs hH hr=>(h2 O e w vs hH hr).mono ?_⟩
 rintro en w' ⟨k',r,H',e',v,⟨_,hR,hH'⟩,h⟩
 exact⟨k',r,H',e',v,⟨hR,hH'⟩,h⟩
attribute [local irreducible] DW DS DL DQ Ev FnOk FnP thenD inBlockD DT
set_option maxHeartbeats 8000000 in
theorem rrule_fn (p:Prg) (r:Rul):Fn 18 [elPrg p,elRul r] (fun x=>x = .d (.int .i64 (ruleE p.arity r))):=by
 refine fnp_enter' _ Tryz.func18 rfl rfl (by kernel_rfl) ?_
 intro O w0 E0 β0
 have la:(p.arity.map encI).length=p.arity.length:=List.length_map _
 have lb:(r.terms.map encTrm).length=r.terms.length:=List.length_map _
 have lc:(r.body.map encLtl).length=r.body.length:=List.length_map _
 refine dw_lenA 0 0 rfl rfl (fun hk=>?_)
 refine dw_lenA 1 1 rfl rfl (fun hk2=>?_)
 refine dw_lenA 1 3 rfl rfl (fun hk3=>?_)
 have w1:=sbetween_fn r.pred 0 (((p.arity.map encI).length:Int) - 1)
 have w2:=sbetween_fn r.vars 0 8
 have w3:=sbetween_fn r.fold 0 4
 have hR:ruleE p.arity r=ruleE p.arity r:=rfl
 conv at hR=>rhs;unfold ruleE
 rw [hR]
 rw [← la,← lb,← lc]
 by_cases hp:inR r.pred 0 (((p.arity.map encI).length:Int) - 1)=true
 ·have hp':=inR_spec hp
  have hA:=arity_at (p:=p) (n:=r.pred) (by omega) (by omega)
  rw [hp] at w1 ⊢
  rw [if_neg (show ¬ (true=false) by decide),hA]
  by_cases hv:inR r.vars 0 8=true
  ·have hv':=inR_spec hv
   rw [hv] at w2 ⊢
   rw [if_neg (show ¬ (true=false) by decide)]
   have w4:=rterms_fn r.terms r.vars hv'.1 hv'.2
   clear hv hp hA hR
   generalize termsE r.vars r.terms=te at w4 ⊢
   by_cases hfo:inR r.fold 0 4=true
   ·have hf':=inR_spec hfo
    rw [hfo] at w3 ⊢
    rw [if_neg (show ¬ (true=false) by decide)]
    repeat' (first|refine z0 ?_|refine z12 ?_|apply ds_nil|refine z5 ?_|refine z10 ?_|apply dw_seq2|refine z16 ?_|refine z20 ?_|apply dw_block|apply dw_skip|apply dw_ret|refine z18 ?_|refine z19 ?_|apply thenD_n|apply thenD_r|refine z21 ?_ (hc:=by apply w1)|refine z21 ?_ (hc:=by apply w2)|refine z21 ?_ (hc:=by apply w3)|refine z21 ?_ (hc:=by apply w4)|refine z1 ?_|(refine z23 ?_ ?_ <;> intro hg)|((fail_if_success (apply ds_known;exact rfl));apply ds_guardP;exact rfl;exact rfl;exact rfl;all_goals intro hg))
    all_goals try (refine ret_i rfl ?_;(repeat' split) <;> (first|rfl|(exfalso;omega)))
    all_goals
     have hb4:r.body.length≤4:=by omega
     have hfin:∀ e,firstL (litE p.arity r.vars) r.body=e→(if (((r.terms.map encTrm).length:Nat):Int)≠p.arity[r.pred.toNat]'(by omega) then 1 else if te≠0 then te else if r.fold≠0∧((r.terms.map encTrm).length=0∨(r.body.map encLtl).length=0) then 1 else if 4 < (r.body.map encLtl).length then 2 else if firstL (litE p.arity r.vars) r.body≠0 then firstL (litE p.arity r.vars) r.body else if safeB r=false then 4 else 0)=if e≠0 then e else if safeB r=false then 4 else 0:=by
      rintro e rfl
      (repeat' split) <;> (first|rfl|(exfalso;omega))
     generalize (if (((r.terms.map encTrm).length:Nat):Int)≠p.arity[r.pred.toNat]'(by omega) then 1 else if te≠0 then te else if r.fold≠0∧((r.terms.map encTrm).length=0∨(r.body.map encLtl).length=0) then 1 else if 4 < (r.body.map encLtl).length then 2 else if firstL (litE p.arity r.vars) r.body≠0 then firstL (litE p.arity r.vars) r.body else if safeB r=false then 4 else 0)=res at hfin ⊢
     refine ds_loop (ι:=Nat) (fun i=>⟨2,[(2,.loc 0 0),(3,.loc 1 0),(4,.d (.int .i64 0)),(5,.d (.int .i64 (p.arity.map encI).length)),(7,.d (.int .i64 i))],[(0,prgB p),(1,ruleB r)]⟩)
      (fun i=>i≤r.body.length∧firstL (litE p.arity r.vars) r.body=firstL (litE p.arity r.vars) (r.body.drop i)) (fun i=>r.body.length - i) 0 ⟨Nat.zero_le _,rfl⟩ (ent_ren id ⟨rfl,rfl,rfl,rfl,rfl,trivial⟩ ⟨rfl,rfl,trivial⟩ rfl rfl rfl rfl rfl rfl) ?_
     rintro i ⟨g1,g2⟩
     by_cases hi:i < r.body.length
     ·rw [firstL_step hi] at g2
      repeat' ((fail_if_success (apply dw_stopR 21));(first|refine z0 ?_|apply ds_nil|apply dw_seq2|refine z16 ?_|apply dw_block|apply dw_skip|apply dw_exit|apply thenD_n|apply thenD_e|refine z17 ?_|refine z1 ?_|refine z3 ?_|(refine z23 ?_ ?_ <;> intro hg)|fail))
      all_goals try (exfalso;omega)
      generalize r.body[i]=l at g2 ⊢
      have hret:∀ e,litE p.arity r.vars l=e→e≠0→e=res:=by
       rintro e rfl he
       rw [if_pos he] at g2
       rw [hfin _ g2,if_pos he]
      obtain⟨NX,hN,hnext⟩:∃ NX:Prop,(NX→firstL (litE p.arity r.vars) r.body=firstL (litE p.arity r.vars) (r.body.drop (i + 1)))∧(litE p.arity r.vars l=0→NX):=by
       refine⟨_,id,fun he=>?_⟩
       rw [if_neg (by rw [he];decide)] at g2
       exact g2
      clear hfin g2
      refine dw_ent (ent_ren (k':=3) (L':=[(2,.loc 0 0),(3,.loc 1 0),(4,.d (.int .i64 0)),(5,.d (.int .i64 (p.arity.map encI).length)),(7,.d (.int .i64 i)),(8,.loc 2 0)]) (H':=[(0,prgB p),(1,ruleB r),(2,litB l)]) id ⟨rfl,rfl,rfl,rfl,rfl,rfl,trivial⟩ ⟨rfl,rfl,rfl,trivial⟩ rfl rfl rfl rfl rfl rfl) ?_
      obtain⟨kind,op,pred,terms⟩:=l
      have lt:(terms.map encTrm).length=terms.length:=List.length_map _
      have wt:=rterms_fn terms r.vars hv'.1 hv'.2
      have k1:=sbetween_fn kind 1 4
      have wp:=sbetween_fn pred 0 (((p.arity.map encI).length:Int) - 1)
      have wo3:=sbetween_fn op 1 4
      have wo4:=sbetween_fn op 5 7
      unfold litE opB at hret hnext
      dsimp only [litB] at hret hnext ⊢
      rw [← la,← lt] at hret hnext
      generalize termsE r.vars terms=tl at wt hret hnext
      generalize inR op 1 4=o3 at wo3 hret hnext
      generalize inR op 5 7=o4 at wo4 hret hnext
      by_cases hk1:inR kind 1 4=true
      ·have hk':=inR_spec hk1
       rw [hk1] at hret hnext k1
       by_cases hpp:inR pred 0 (((p.arity.map encI).length:Int) - 1)=true
       ·have hpp':=inR_spec hpp
        have hA':=arity_at (p:=p) (n:=pred) (by omega) (by omega)
        rw [hpp] at hret hnext wp
        rw [hA'] at hret hnext
        clear hpp hA' hk1
        rcases (show kind=1∨kind=2∨kind=3∨kind=4 by omega) with rfl|rfl|rfl|rfl
        all_goals repeat' (first|refine z0 ?_|refine z12 ?_|apply ds_nil|refine z5 ?_|refine z10 ?_|apply dw_seq2|refine z16 ?_|refine z20 ?_|apply dw_skip|apply dw_ret|refine z18 ?_|refine z19 ?_|apply thenD_n|apply thenD_r|apply inB_n|apply inB_r|refine z21 ?_ (hc:=by apply k1)|refine z21 ?_ (hc:=by apply wp)|refine z21 ?_ (hc:=by apply wo3)|refine z21 ?_ (hc:=by apply wo4)|refine z21 ?_ (hc:=by apply wt)|(refine z23 ?_ ?_ <;> intro hg)|(apply dw_cond;exact rfl;all_goals intro hg)|((fail_if_success (apply ds_known;exact rfl));apply ds_guardP;exact rfl;exact rfl;exact rfl;all_goals intro hg)|((fail_if_success (apply ds_known;exact rfl));apply ds_guardB;exact rfl;exact rfl;exact rfl;all_goals intro hg))
        all_goals first
         | (exfalso;omega)
         | (refine ret_i rfl (hret _ ?_ ?_) <;> (clear hret hnext hN k1 wp wo3 wo4 wt w1 w2 w3 w4;(repeat' split) <;> (first|rfl|assumption|decide|(exfalso;omega)|contradiction|(exfalso;simp_all;done))))
         | (refine⟨i + 1,⟨by omega,hN (hnext ?_)⟩,ent_ren id ⟨rfl,rfl,rfl,rfl,rfl,trivial⟩ ⟨rfl,rfl,trivial⟩ rfl rfl rfl rfl rfl rfl,by show r.body.length - (i + 1) < r.body.length - i;omega⟩;(clear hret hnext hN k1 wp wo3 wo4 wt w1 w2 w3 w4;(repeat' split) <;> (first|omega|contradiction|(exfalso;simp_all;done))))
       ·rw [Bool.not_eq_true] at hpp
        rw [hpp] at hret hnext wp
        clear hpp hk1
        rcases (show kind=1∨kind=2∨kind=3∨kind=4 by omega) with rfl|rfl|rfl|rfl
        all_goals repeat' (first|refine z0 ?_|refine z12 ?_|apply ds_nil|apply dw_seq2|refine z16 ?_|apply dw_skip|apply dw_ret|refine z18 ?_|refine z19 ?_|apply thenD_n|apply thenD_r|apply inB_n|apply inB_r|refine z21 ?_ (hc:=by apply k1)|refine z21 ?_ (hc:=by apply wp)|refine z21 ?_ (hc:=by apply wo3)|refine z21 ?_ (hc:=by apply wo4)|refine z21 ?_ (hc:=by apply wt)|(refine z23 ?_ ?_ <;> intro hg)|(apply dw_cond;exact rfl;all_goals intro hg)|((fail_if_success (apply ds_known;exact rfl));apply ds_guardP;exact rfl;exact rfl;exact rfl;all_goals intro hg)|((fail_if_success (apply ds_known;exact rfl));apply ds_guardB;exact rfl;exact rfl;exact rfl;all_goals intro hg))
        all_goals first
         | (exfalso;omega)
         | (refine ret_i rfl (hret _ ?_ ?_) <;> (clear hret hnext hN k1 wp wo3 wo4 wt w1 w2 w3 w4;(repeat' split) <;> (first|rfl|assumption|decide|(exfalso;omega)|contradiction|(exfalso;simp_all;done))))
         | (refine⟨i + 1,⟨by omega,hN (hnext ?_)⟩,ent_ren id ⟨rfl,rfl,rfl,rfl,rfl,trivial⟩ ⟨rfl,rfl,trivial⟩ rfl rfl rfl rfl rfl rfl,by show r.body.length - (i + 1) < r.body.length - i;omega⟩;(clear hret hnext hN k1 wp wo3 wo4 wt w1 w2 w3 w4;(repeat' split) <;> (first|omega|contradiction|(exfalso;simp_all;done))))
      ·rw [Bool.not_eq_true] at hk1
       rw [hk1] at hret k1
       repeat' (first|refine z0 ?_|apply ds_nil|apply dw_seq2|refine z16 ?_|apply dw_ret|refine z18 ?_|apply thenD_n|apply thenD_r|apply inB_r|refine z21 ?_ (hc:=by apply k1)|fail)
       all_goals exact ret_i rfl (hret _ rfl (by decide))
     ·rw [firstL_end (by omega)] at g2
      have hall:=firstL_zero g2
      have w7:=safe_fn r hb4 hv'.1 hv'.2 (fun l hl=>(litE_ok hv'.1 (hall l hl)).1) (fun l hl=>(litE_ok hv'.1 (hall l hl)).2)
      rw [hfin 0 g2,if_neg (by decide)]
      generalize safeB r=sb at w7 ⊢
      repeat' (first|refine z0 ?_|apply ds_nil|apply dw_seq2|refine z16 ?_|apply dw_block|apply dw_skip|apply dw_exit|apply dw_ret|apply thenD_n|apply thenD_e|apply thenD_r|refine z17 ?_|refine z21 ?_ (hc:=by apply w7)|refine z1 ?_|refine z3 ?_|(refine z23 ?_ ?_ <;> intro hg)|(apply dw_cond;exact rfl;all_goals intro hg))
      all_goals first
       | (exfalso;omega)
       | (refine ret_i rfl ?_;simp_all;done)
   ·rw [Bool.not_eq_true] at hfo
    rw [hfo] at w3 ⊢
    repeat' (first|refine z0 ?_|apply ds_nil|refine z5 ?_|refine z10 ?_|apply dw_seq2|refine z16 ?_|refine z20 ?_|apply dw_skip|apply dw_ret|refine z18 ?_|refine z19 ?_|apply thenD_n|apply thenD_r|refine z21 ?_ (hc:=by apply w1)|refine z21 ?_ (hc:=by apply w2)|refine z21 ?_ (hc:=by apply w3)|refine z21 ?_ (hc:=by apply w4)|refine z1 ?_|(refine z23 ?_ ?_ <;> intro hg)|fail)
    all_goals (refine ret_i rfl ?_;(repeat' split) <;> (first|rfl|(exfalso;omega)|contradiction))
  ·rw [Bool.not_eq_true] at hv
   rw [hv] at w2 ⊢
   repeat' (first|refine z0 ?_|apply ds_nil|refine z5 ?_|refine z10 ?_|apply dw_seq2|refine z16 ?_|refine z20 ?_|apply dw_skip|apply dw_ret|refine z18 ?_|refine z19 ?_|apply thenD_n|apply thenD_r|refine z21 ?_ (hc:=by apply w1)|refine z21 ?_ (hc:=by apply w2)|refine z1 ?_|(refine z23 ?_ ?_ <;> intro hg)|fail)
   all_goals (refine ret_i rfl ?_;(repeat' split) <;> (first|rfl|(exfalso;omega)|contradiction))
 ·rw [Bool.not_eq_true] at hp
  rw [hp] at w1 ⊢
  rw [if_pos rfl]
  repeat' (first|refine z0 ?_|apply ds_nil|apply dw_seq2|refine z16 ?_|apply dw_ret|refine z18 ?_|apply thenD_n|apply thenD_r|refine z21 ?_ (hc:=by apply w1)|refine z1 ?_|fail)
  all_goals exact ret_i rfl rfl
set_option maxHeartbeats 8000000 in
theorem rcheck_fn (p:Prg):Fn 6 [elPrg p] (fun x=>x = .d (.int .i64 (progE nameR p))):=by
 refine fnp_enter' _ Tryz.func6 rfl rfl (by kernel_rfl) ?_
 intro O w0 E0 β0
 have la:(p.arity.map encI).length=p.arity.length:=List.length_map _
 have lb:(p.names.map encT).length=p.names.length:=List.length_map _
 have lc:(p.rules.map encRul).length=p.rules.length:=List.length_map _
 refine dw_lenA 0 0 rfl rfl (fun hk=>?_)
 refine dw_lenA 0 1 rfl rfl (fun hk1=>?_)
 refine dw_lenA 0 2 rfl rfl (fun hk2=>?_)
 unfold progE
 by_cases h1:10 < p.arity.length∨12 < p.rules.length
 ·rw [if_pos h1]
  repeat' (first|refine z0 ?_|refine z12 ?_|apply ds_nil|apply dw_seq2|refine z16 ?_|apply dw_block|apply dw_skip|apply dw_ret|refine z18 ?_|apply thenD_n|apply thenD_r|refine z1 ?_|(refine z23 ?_ ?_ <;> intro hg)|((fail_if_success (apply ds_known;exact rfl));apply ds_guardP;exact rfl;exact rfl;exact rfl;all_goals intro hg))
  all_goals first
   | (exfalso;omega)
   | exact ret_i rfl rfl
 ·rw [if_neg h1]
  by_cases h2:p.names.length≠p.arity.length
  ·rw [if_pos h2]
   repeat' (first|refine z0 ?_|refine z12 ?_|apply ds_nil|apply dw_seq2|refine z16 ?_|apply dw_block|apply dw_skip|apply dw_ret|refine z18 ?_|apply thenD_n|apply thenD_r|refine z1 ?_|(refine z23 ?_ ?_ <;> intro hg)|((fail_if_success (apply ds_known;exact rfl));apply ds_guardP;exact rfl;exact rfl;exact rfl;all_goals intro hg))
   all_goals first
    | (exfalso;omega)
    | exact ret_i rfl rfl
  ·rw [if_neg h2]
   generalize hres:(if firstI (nameE nameR p) 0 p.names.length≠0 then firstI (nameE nameR p) 0 p.names.length else firstL (ruleE p.arity) p.rules)=res
   repeat' (first|refine z0 ?_|refine z12 ?_|apply ds_nil|apply dw_seq2|refine z16 ?_|apply dw_block|apply dw_skip|apply dw_ret|refine z18 ?_|apply thenD_n|apply thenD_r|refine z1 ?_|(refine z23 ?_ ?_ <;> intro hg)|((fail_if_success (apply ds_known;exact rfl));apply ds_guardP;exact rfl;exact rfl;exact rfl;all_goals intro hg))
   all_goals try (exfalso;omega)
   refine ds_loop (ι:=Nat) (fun i=>⟨1,[(1,.loc 0 0),(2,.d (.int .i64 0)),(3,.d (.int .i64 i))],[(0,prgB p)]⟩)
    (fun i=>i≤p.names.length∧firstI (nameE nameR p) 0 p.names.length=firstI (nameE nameR p) i (p.names.length - i)) (fun i=>p.names.length - i) 0 ⟨Nat.zero_le _,rfl⟩ (ent_ren id ⟨rfl,rfl,rfl,trivial⟩ ⟨rfl,trivial⟩ rfl rfl rfl rfl rfl rfl) ?_
   rintro i ⟨g1,g2⟩
   by_cases hi:i < p.names.length
   ·have ha:p.arity.getD i 0=p.arity[i]'(by omega):=by rw [List.getD,List.getElem?_eq_getElem (by omega)];rfl
    have hn:p.names.getD i ⟨#[]⟩=p.names[i]:=by rw [List.getD,List.getElem?_eq_getElem hi];rfl
    rw [firstI_step hi,show nameE nameR p i=if inR (p.arity.getD i 0) 0 3=false then 3 else if nameR (p.names.getD i ⟨#[]⟩)=false then 1 else if (p.names.take i).any (fun s=>decide (s=p.names.getD i ⟨#[]⟩)) then 6 else 0 from rfl,ha,hn] at g2
    have wn:=isName_fn p.names[i]
    have wa:=sbetween_fn (p.arity[i]'(by omega)) 0 3
    generalize inR (p.arity[i]'(by omega)) 0 3=ba at g2 wa
    generalize nameR p.names[i]=bn at g2 wn
    have hret:∀ e,e≠0→firstI (nameE nameR p) 0 p.names.length=e→e=res:=by
     rintro e he h
     rw [← hres,h,if_pos he]
    cases ba with
    | false =>
     repeat' (first|refine z0 ?_|apply ds_nil|apply dw_seq2|refine z16 ?_|apply dw_block|apply dw_skip|apply dw_exit|apply dw_ret|refine z18 ?_|apply thenD_n|apply thenD_e|apply thenD_r|apply inB_r|refine z17 ?_|refine z21 ?_ (hc:=by apply wa)|(refine z23 ?_ ?_ <;> intro hg)|fail)
     all_goals first
      | (exfalso;omega)
      | exact ret_i rfl (hret 3 (by decide) g2)
    | true =>
     cases bn with
     | false =>
      repeat' (first|refine z0 ?_|apply ds_nil|apply dw_seq2|refine z16 ?_|apply dw_block|apply dw_skip|apply dw_exit|apply dw_ret|refine z18 ?_|refine z19 ?_|apply thenD_n|apply thenD_e|apply thenD_r|apply inB_r|refine z17 ?_|refine z21 ?_ (hc:=by apply wa)|refine z21 ?_ (hc:=by apply wn)|(refine z23 ?_ ?_ <;> intro hg)|fail)
      all_goals first
       | (exfalso;omega)
       | exact ret_i rfl (hret 1 (by decide) g2)
     | true =>
      have lt:(p.names.take i).length=i:=by simp;omega
      repeat' (first|refine z0 ?_|apply ds_nil|apply dw_seq2|refine z16 ?_|apply dw_block|apply dw_skip|apply dw_exit|refine z19 ?_|apply thenD_n|apply thenD_e|refine z17 ?_|refine z21 ?_ (hc:=by apply wa)|refine z21 ?_ (hc:=by apply wn)|(refine z23 ?_ ?_ <;> intro hg)|fail)
      all_goals try (exfalso;omega)
      refine ds_loop (ι:=Nat) (fun j=>⟨1,[(1,.loc 0 0),(2,.d (.int .i64 0)),(3,.d (.int .i64 i)),(4,.d (.int .i64 j))],[(0,prgB p)]⟩)
       (fun j=>j≤i∧(p.names.take i).any (fun s=>decide (s=p.names[i]))=((p.names.take i).drop j).any (fun s=>decide (s=p.names[i]))) (fun j=>i - j) 0 ⟨Nat.zero_le _,rfl⟩ (ent_ren id ⟨rfl,rfl,rfl,rfl,trivial⟩ ⟨rfl,trivial⟩ rfl rfl rfl rfl rfl rfl) ?_
      rintro j ⟨e1,e2⟩
      by_cases hj:j < i
      ·rw [List.drop_eq_getElem_cons (by omega),List.any_cons,List.getElem_take] at e2
       repeat' (first|refine z0 ?_|apply ds_nil|refine z5 ?_|refine z10 ?_|apply dw_seq2|refine z16 ?_|refine z20 ?_|apply dw_block|apply dw_skip|apply dw_exit|apply dw_ret|apply thenD_n|apply thenD_e|apply thenD_r|apply inB_n|apply inB_r|refine z17 ?_|(refine z23 ?_ ?_ <;> intro hg)|fail)
       all_goals try (exfalso;omega)
       ·have hh:p.names[j]'(by omega)=p.names[i]:=by assumption
        rw [decide_eq_true hh,Bool.true_or] at e2
        rw [e2] at g2
        exact ret_i rfl (hret 6 (by decide) g2)
       ·have hh:¬ p.names[j]'(by omega)=p.names[i]:=by assumption
        rw [decide_eq_false hh,Bool.false_or] at e2
        exact⟨j + 1,⟨by omega,e2⟩,ent_ren id ⟨rfl,rfl,rfl,rfl,trivial⟩ ⟨rfl,trivial⟩ rfl rfl rfl rfl rfl rfl,by show i - (j + 1) < i - j;omega⟩
      ·rw [List.drop_of_length_le (by omega)] at e2
       rw [e2] at g2
       repeat' (first|refine z0 ?_|apply ds_nil|refine z5 ?_|refine z10 ?_|apply dw_seq2|refine z16 ?_|refine z20 ?_|apply dw_block|apply dw_skip|apply dw_exit|apply dw_ret|apply thenD_n|apply thenD_e|apply thenD_r|apply inB_n|apply inB_r|refine z17 ?_|(refine z23 ?_ ?_ <;> intro hg)|fail)
       all_goals try (exfalso;omega)
       exact⟨i + 1,⟨by omega,g2⟩,ent_ren id ⟨rfl,rfl,rfl,trivial⟩ ⟨rfl,trivial⟩ rfl rfl rfl rfl rfl rfl,by show p.names.length - (i + 1) < p.names.length - i;omega⟩
   ·rw [firstI_end (by omega)] at g2
    have hres:firstL (ruleE p.arity) p.rules=res:=by rw [← hres,g2,if_neg (by decide)]
    repeat' (first|refine z0 ?_|apply ds_nil|apply dw_seq2|refine z16 ?_|apply dw_block|apply dw_skip|apply dw_exit|apply thenD_n|apply thenD_e|refine z17 ?_|(refine z23 ?_ ?_ <;> intro hg)|fail)
    all_goals try (exfalso;omega)
    refine ds_loop (ι:=Nat) (fun j=>⟨1,[(1,.loc 0 0),(2,.d (.int .i64 0)),(5,.d (.int .i64 j))],[(0,prgB p)]⟩)
     (fun j=>j≤p.rules.length∧res=firstL (ruleE p.arity) (p.rules.drop j)) (fun j=>p.rules.length - j) 0 ⟨Nat.zero_le _,hres.symm⟩ (ent_ren id ⟨rfl,rfl,rfl,trivial⟩ ⟨rfl,trivial⟩ rfl rfl rfl rfl rfl rfl) ?_
    rintro j ⟨e1,e2⟩
    by_cases hj:j < p.rules.length
    ·rw [firstL_step hj] at e2
     have w6:=rrule_fn p p.rules[j]
     generalize ruleE p.arity p.rules[j]=le at w6 e2
     repeat' (first|refine z0 ?_|apply ds_nil|refine z5 ?_|refine z10 ?_|apply dw_seq2|refine z16 ?_|refine z20 ?_|apply dw_block|apply dw_skip|apply dw_exit|apply dw_ret|apply thenD_n|apply thenD_e|apply thenD_r|apply inB_n|apply inB_r|refine z17 ?_|refine z22 ?_ (hc:=by apply w6)|(refine z23 ?_ ?_ <;> intro hg)|fail)
     all_goals first
      | (exfalso;omega)
      | (refine ret_i rfl ?_;rw [e2,if_pos (by assumption)];done)
      | exact⟨j + 1,⟨by omega,by rw [e2,if_neg (by assumption)]⟩,ent_ren id ⟨rfl,rfl,rfl,trivial⟩ ⟨rfl,trivial⟩ rfl rfl rfl rfl rfl rfl,by show p.rules.length - (j + 1) < p.rules.length - j;omega⟩
    ·rw [firstL_end (by omega)] at e2
     repeat' (first|refine z0 ?_|apply ds_nil|refine z5 ?_|apply dw_seq2|refine z16 ?_|refine z20 ?_|apply dw_block|apply dw_skip|apply dw_exit|apply dw_ret|apply thenD_n|apply thenD_e|refine z17 ?_|(refine z23 ?_ ?_ <;> intro hg)|fail)
     all_goals first
      | (exfalso;omega)
      | exact ret_i rfl e2.symm
end Go.Proofs.YtapciiffpnociacGreatDoor
namespace Go.Proofs.YtapciiffpnociacGreatDoor

open Go Go.RowKit
abbrev dsR (x:SS) (rest:Hp):Hp:=(0,.blk 55 [.row 1,.row 2,.row 3,.row 4,.d (.int .i64 x.at_),.d (.int .i64 x.e)])::(1,.row 3 1 (x.arity.map encI))::(2,.row 9 1 (x.names.map encT))::(3,.row 48 5 (x.rules.map encRul))::(4,.row 9 1 (x.vars.map encT))::rest
attribute [local irreducible] DW DS DL DQ Ev FnOk FnP FnOkE thenD inBlockD
set_option maxHeartbeats 8000000 in
theorem placeOf_fn (l:List ByteArray) (s:ByteArray):Fn 60 [.d (.slice 1 (l.map encT)),.d (.str s)] (fun r=>r = .d (.int .i64 (placeT s l:Nat))):=by
 refine fnp_enter' _ Tryz.func60 rfl rfl (by kernel_rfl) ?_
 intro O w0 E0 β0
 have ll:(l.map encT).length=l.length:=List.length_map _
 refine dw_len_map (t:=0) (l:=l) (f:=encT) rfl (fun hml=>?_)
 repeat' (first|refine z0 ?_|apply ds_nil|apply dw_seq2|refine z16 ?_|apply dw_block|apply thenD_n)
 refine ds_loop (ι:=Nat) (fun i=>⟨0,[(0,.d (.slice 1 (l.map encT))),(1,.d (.str s)),(5,.d (.int .i64 i))],[]⟩) (fun i=>i≤l.length∧placeT s l=i + placeT s (l.drop i)) (fun i=>l.length - i) 0 ⟨Nat.zero_le _,by rw [List.drop_zero,Nat.zero_add]⟩ (ent_ren id ⟨rfl,rfl,rfl,trivial⟩ trivial rfl rfl rfl rfl rfl rfl) ?_
 rintro i ⟨hi,hp⟩
 dsimp only at hi hp ⊢
 by_cases hil:i < l.length
 ·rw [placeT_drop hil] at hp
  by_cases hs:l[i]=s
  ·rw [if_pos hs] at hp
   rw [hp]
   repeat' (first|refine z0 ?_|apply ds_nil|apply dw_seq2|refine z16 ?_|apply dw_block|apply dw_skip|apply dw_exit|apply dw_ret|apply thenD_n|apply thenD_e|apply thenD_r|apply inB_n|apply inB_r|refine z17 ?_|(refine z23 ?_ ?_ <;> intro hg)|fail)
   all_goals try (exfalso;first|omega|exact absurd hs (by assumption))
   exact ret_i rfl (by omega)
  ·rw [if_neg hs] at hp
   repeat' (first|refine z0 ?_|apply ds_nil|apply dw_seq2|refine z16 ?_|apply dw_block|apply dw_skip|apply dw_exit|apply thenD_n|apply thenD_e|apply inB_n|refine z17 ?_|(refine z23 ?_ ?_ <;> intro hg)|fail)
   all_goals try (exfalso;first|omega|exact absurd (by assumption) hs)
   exact⟨i + 1,⟨by omega,by omega⟩,ent_ren id ⟨rfl,rfl,rfl,trivial⟩ trivial rfl rfl rfl rfl rfl rfl,by show l.length - (i + 1) < l.length - i;omega⟩
 ·rw [List.drop_of_length_le (by omega)] at hp
  have hp:placeT s l=i:=hp
  rw [hp]
  repeat' (first|refine z0 ?_|apply ds_nil|apply dw_seq2|refine z16 ?_|apply dw_block|apply dw_skip|apply dw_exit|apply dw_ret|apply thenD_n|apply thenD_e|apply thenD_r|apply inB_n|apply inB_r|refine z17 ?_|(refine z23 ?_ ?_ <;> intro hg)|fail)
  all_goals try (exfalso;omega)
  exact ret_i rfl (by omega)
set_option maxHeartbeats 8000000 in
theorem dwrong_fn (x:SS) (a e:Int):FnOk false Tryz.prog tab tab_ok 61 [.loc 0 0,.d (.int .i64 a),.d (.int .i64 e)] 5 5 (dsR x []) (fun k r H=>k=5∧r = .tup []∧H=dsR (x.wrong a e) []):=by
 refine fn_enterR _ Tryz.func61 rfl rfl (by kernel_rfl) ?_
 intro O w0 E0 β0
 by_cases he:x.e=0
 ·have hw:x.wrong a e=⟨x.names,x.arity,x.rules,x.vars,a,e⟩:=by unfold SS.wrong;rw [if_pos he]
  rw [hw]
  repeat' (first|refine z0 ?_|apply ds_nil|apply dw_seq2|refine z16 ?_|apply dw_skip|apply thenD_n|refine z3 ?_|(refine z23 ?_ ?_ <;> intro hg)|fail)
  all_goals try (exfalso;exact absurd he (by assumption))
  exact⟨.inr rfl,_,rfl,id,5,_,dsR ⟨x.names,x.arity,x.rules,x.vars,a,e⟩ [],rfl,⟨rfl,rfl,rfl,rfl,rfl,trivial⟩,rfl,rfl,rfl,rfl,rfl,rfl,rfl,rfl,rfl⟩
 ·have hw:x.wrong a e=x:=by unfold SS.wrong;rw [if_neg he]
  rw [hw]
  repeat' (first|refine z0 ?_|apply ds_nil|apply dw_seq2|refine z16 ?_|apply dw_skip|apply thenD_n|refine z3 ?_|(refine z23 ?_ ?_ <;> intro hg)|fail)
  all_goals try (exfalso;exact absurd (by assumption) he)
  exact⟨.inr rfl,_,rfl,id,5,_,dsR x [],rfl,⟨rfl,rfl,rfl,rfl,rfl,trivial⟩,rfl,rfl,rfl,rfl,rfl,rfl,rfl,rfl,rfl⟩
set_option maxHeartbeats 8000000 in
theorem dpred_fn (x:SS) (a:Int) (s:ByteArray) (n:Int) (hx:x.Fit 100000):FnOk false Tryz.prog tab tab_ok 28 [.loc 0 0,.d (.int .i64 a),.d (.str s),.d (.int .i64 n)] 1 5 (dsR x []) (fun k r H=>k=5∧r = .d (.int .i64 (placeT s x.names:Nat))∧H=dsR (x.pred a s n) []):=by
 refine fn_enterR _ Tryz.func28 rfl rfl (by kernel_rfl) ?_
 intro O w0 E0 β0
 have ln:(x.names.map encT).length=x.names.length:=List.length_map _
 have la:(x.arity.map encI).length=x.arity.length:=List.length_map _
 obtain⟨hx1,hx2⟩:=hx
 have w1:=placeOf_fn x.names s
 have hpl:=placeT_le s x.names
 obtain⟨hf1,hpl2,_,_⟩:=SS.addP_fit (x:=x) (n:=100000) ⟨hx1,hx2⟩ s n
 obtain⟨y,hy⟩:∃ y,y=x.addP s n:=⟨_,rfl⟩
 obtain⟨p,hpp⟩:∃ p,p=placeT s x.names:=⟨_,rfl⟩
 rw [← hy] at hf1 hpl2
 rw [← hpp] at w1 hpl2 hpl ⊢
 obtain⟨hf2,hf3⟩:=hf1
 have lay:(y.arity.map encI).length=y.arity.length:=List.length_map _
 have hpy:p < y.arity.length:=by omega
 have hget:y.arity.getD p 0=y.arity[p]:=by rw [List.getD_eq_getElem?_getD,List.getElem?_eq_getElem hpy];rfl
 have hpr:x.pred a s n=if y.arity[p]=n then y else y.wrong a 1:=by unfold SS.pred;rw [← hy,← hpp,hget]
 repeat' (first|refine z0 ?_|apply ds_nil|apply dw_seq2|refine z16 ?_|apply thenD_n)
 refine ds_callS 2 w1 rfl rfl (by rintro _ rfl;rfl) rfl rfl rfl rfl ?_
 rintro _ rfl
 repeat' ((fail_if_success (apply dw_stopR 2));(first|refine z0 ?_|apply ds_nil|apply thenD_n))
 refine dw_cut (ι:=Unit) (fun _=>⟨5,[(0,.loc 0 0),(1,.d (.int .i64 a)),(3,.d (.int .i64 n)),(9,.d (.int .i64 (p:Nat)))],dsR y []⟩) (fun _=>True) ?_ ?_
 ·by_cases hp:p < x.names.length
  ·have hyx:y=x:=by rw [hy];unfold SS.addP;rw [if_neg (by omega)]
   clear hpr hget hy
   subst hyx
   repeat' (first|refine z0 ?_|apply ds_nil|apply dw_seq2|refine z16 ?_|apply dw_skip|apply thenD_n|refine z3 ?_|refine z4 ?_|refine z2 ?_|(refine z23 ?_ ?_ <;> intro hg)|fail)
   all_goals try (exfalso;omega)
   exact⟨(),trivial,ent_ren id ⟨rfl,rfl,rfl,rfl,trivial⟩ ⟨rfl,rfl,rfl,rfl,rfl,trivial⟩ rfl rfl rfl rfl rfl rfl⟩
  ·have hpn:p=x.names.length:=by omega
   have hyx:y=⟨x.names++[s],x.arity++[n],x.rules,x.vars,x.at_,x.e⟩:=by rw [hy];unfold SS.addP;rw [if_pos (by omega)]
   have e1:y.names.map encT=x.names.map encT++[encT s]:=by rw [hyx];exact List.map_append
   have e2:y.arity.map encI=x.arity.map encI++[encI n]:=by rw [hyx];exact List.map_append
   have e3:y.rules=x.rules:=by rw [hyx]
   have e4:y.vars=x.vars:=by rw [hyx]
   have e5:y.at_=x.at_∧y.e=x.e:=by rw [hyx];exact⟨rfl,rfl⟩
   clear hpr hget hy hyx
   repeat' (first|refine z0 ?_|apply ds_nil|apply dw_seq2|refine z16 ?_|apply dw_skip|apply thenD_n|refine z3 ?_|refine z4 ?_|refine z2 ?_|(refine z23 ?_ ?_ <;> intro hg)|fail)
   all_goals try (exfalso;omega)
   exact⟨(),trivial,ent_ren (fun x=>match x with|0=>0|1=>_|2=>_|x=>x) ⟨rfl,rfl,rfl,rfl,trivial⟩ ⟨by dsimp only;rw [e5.1,e5.2];rfl,by dsimp only;rw [e2];rfl,by dsimp only;rw [e1];rfl,by dsimp only;rw [e3];rfl,by dsimp only;rw [e4];rfl,trivial⟩ rfl rfl rfl rfl rfl rfl⟩
 ·intro _ _
  clear hy
  by_cases hq:y.arity[p]=n
  ·rw [if_pos hq] at hpr
   rw [hpr]
   repeat' (first|refine z0 ?_|apply ds_nil|apply dw_seq2|refine z16 ?_|apply dw_skip|apply dw_ret|apply thenD_n|(refine z23 ?_ ?_ <;> intro hg)|fail)
   all_goals try (exfalso;first|exact absurd hq (by assumption)|exact absurd (by assumption) hq)
   exact⟨.inl rfl,_,rfl,id,5,_,dsR y [],rfl,⟨rfl,rfl,rfl,rfl,rfl,trivial⟩,rfl,rfl,rfl,rfl,rfl,rfl,rfl,rfl,rfl⟩
  ·rw [if_neg hq] at hpr
   have w2:=dwrong_fn y a 1
   rw [← hpr] at w2
   repeat' (first|refine z0 ?_|apply ds_nil|apply dw_seq2|refine z16 ?_|apply dw_skip|apply thenD_n|(refine z23 ?_ ?_ <;> intro hg)|fail)
   all_goals try (exfalso;first|exact absurd hq (by assumption)|exact absurd (by assumption) hq)
   (refine ds_callF id (w2) rfl rfl rfl rfl ⟨rfl,rfl,rfl,rfl,rfl,trivial⟩ rfl rfl rfl rfl rfl rfl ?_ ?_)
   ·rintro k2 res H2 ⟨rfl,rfl,rfl⟩;exact⟨rfl,rfl⟩
   rintro k2 res H2 ⟨rfl,rfl,rfl⟩
   change DS _ _ _ _ _ _ _ _
   clear w2
   repeat' (first|refine z0 ?_|apply ds_nil|apply dw_seq2|refine z16 ?_|apply dw_ret|apply thenD_n)
   exact⟨.inl rfl,_,rfl,id,5,_,dsR (x.pred a s n) [],rfl,⟨rfl,rfl,rfl,rfl,rfl,trivial⟩,rfl,rfl,rfl,rfl,rfl,rfl,rfl,rfl,rfl⟩
set_option maxHeartbeats 8000000 in
theorem dterms_fn (x:SS) (a:Int) (l:List TTm) (hl:l.length≤100000) (hv:x.vars.length≤100000):FnOk false Tryz.prog tab tab_ok 29 [.loc 0 0,.d (.int .i64 a),.d (.slice 2 (l.map encTTm))] 1 5 (dsR x [])
  (fun k r H=>k=5∧r = .d (.slice 2 ((x.trms a l).map encTrm))∧H=dsR (x.terms a l) []):=by
 refine fn_enterR _ Tryz.func29 rfl rfl (by kernel_rfl) ?_
 intro O w0 E0 β0
 have ll:(l.map encTTm).length=l.length:=List.length_map _
 repeat' (first|refine z0 ?_|apply ds_nil|apply dw_seq2|refine z16 ?_|apply dw_block|apply thenD_n)
 refine dw_ent (ent_nilrow (t:=7) 104 2 rfl) ?_
 refine ds_loop (ι:=Nat × SS × List Trm) (fun z=>⟨6,[(0,.loc 0 0),(1,.d (.int .i64 a)),(2,.d (.slice 2 (l.map encTTm))),(7,.row 5),(8,.d (.int .i64 z.1))],dsR z.2.1 [(5,.row 104 2 (z.2.2.map encTrm))]⟩)
  (fun z=>z.1≤l.length∧x.terms a l=z.2.1.terms a (l.drop z.1)∧x.trms a l=z.2.2++z.2.1.trms a (l.drop z.1)∧z.2.2.length=z.1∧z.2.1.vars.length≤x.vars.length + z.1) (fun z=>l.length - z.1) (0,x,[]) ⟨Nat.zero_le _,rfl,rfl,rfl,Nat.le_refl _⟩
  (ent_ren id ⟨rfl,rfl,rfl,rfl,rfl,trivial⟩ ⟨rfl,rfl,rfl,rfl,rfl,rfl,trivial⟩ rfl rfl rfl rfl rfl rfl) ?_
 rintro⟨i,y,acc⟩ ⟨hi,ht,hr,hac,hvs⟩
 dsimp only at hi ht hr hac hvs ⊢
 have lac:(acc.map encTrm).length=acc.length:=List.length_map _
 by_cases hil:i < l.length
 ·rw [List.drop_eq_getElem_cons hil] at ht hr
  obtain⟨n1,n2,n3,n4⟩:=SS.num_names y a l[i]
  obtain⟨_,_,_,hvt⟩:=SS.term_names y a l[i]
  replace ht:x.terms a l=(y.term a l[i]).terms a (l.drop (i + 1)):=ht
  replace hr:x.trms a l=(acc++[y.trm l[i]])++(y.term a l[i]).trms a (l.drop (i + 1)):=by
   rw [hr]
   show acc++y.trm l[i]::(y.term a l[i]).trms a (l.drop (i + 1))=_
   simp
  have w1:=sisNumber_fn l[i].n
  have hnum:y.num a l[i]=if numB l[i].n=true then y else y.wrong a 3:=rfl
  have hterm:y.term a l[i]=if l[i].var=⟨#[]⟩ then y.num a l[i] else (y.num a l[i]).addV l[i].var:=rfl
  have htrm:y.trm l[i]=⟨if l[i].var=⟨#[]⟩ then -1 else placeT l[i].var (y.num a l[i]).vars,l[i].n⟩:=by unfold SS.trm;rw [n4]
  obtain⟨u,hu⟩:∃ u,u=y.num a l[i]:=⟨_,rfl⟩
  rw [← hu] at hnum hterm htrm n4
  have huv:u.vars.length≤x.vars.length + i:=by rw [n4];exact hvs
  repeat' ((fail_if_success (apply dw_stopR 6));(first|refine z0 ?_|apply ds_nil|apply dw_seq2|refine z16 ?_|apply dw_block|apply dw_skip|apply dw_exit|apply thenD_n|apply thenD_e|refine z17 ?_|refine z1 ?_|refine z3 ?_|(refine z23 ?_ ?_ <;> intro hg)|fail))
  all_goals try (exfalso;omega)
  refine dw_cut (ι:=Unit) (fun _=>⟨7,[(0,.loc 0 0),(1,.d (.int .i64 a)),(2,.d (.slice 2 (l.map encTTm))),(7,.row 5),(8,.d (.int .i64 i)),(9,.loc 6 0)],dsR u [(5,.row 104 2 (acc.map encTrm)),(6,.blk 104 [.d (.int .i64 (-1)),.d (.int .i64 l[i].n)])]⟩) (fun _=>True) ?_ ?_
  ·cases hn:numB l[i].n with
   | true =>
    rw [hn,if_pos rfl] at hnum
    rw [hn] at w1
    rw [hnum]
    clear ht hr hterm htrm hu
    repeat' (first|refine z0 ?_|apply ds_nil|apply dw_seq2|refine z16 ?_|apply dw_skip|refine z19 ?_|apply thenD_n|refine z21 ?_ (hc:=by apply w1)|fail)
    exact⟨(),trivial,ent_ren id ⟨rfl,rfl,rfl,rfl,rfl,rfl,trivial⟩ ⟨rfl,rfl,rfl,rfl,rfl,rfl,rfl,trivial⟩ rfl rfl rfl rfl rfl rfl⟩
   | false =>
    rw [hn,if_neg Bool.false_ne_true] at hnum
    rw [hn] at w1
    have w2:=dwrong_fn y a 3
    rw [← hnum] at w2
    clear ht hr hterm htrm hu
    repeat' (first|refine z0 ?_|apply ds_nil|apply dw_seq2|refine z16 ?_|refine z18 ?_|apply thenD_n|refine z21 ?_ (hc:=by apply w1)|fail)
    (refine ds_callF id (w2) rfl rfl rfl rfl ⟨rfl,rfl,rfl,rfl,rfl,trivial⟩ rfl rfl rfl rfl rfl rfl ?_ ?_)
    ·rintro k2 res H2 ⟨rfl,rfl,rfl⟩;exact⟨rfl,rfl⟩
    rintro k2 res H2 ⟨rfl,rfl,rfl⟩
    change DS _ _ _ _ _ _ _ _
    clear w2
    repeat' (first|apply ds_nil|apply thenD_n)
    exact⟨(),trivial,ent_ren id ⟨rfl,rfl,rfl,rfl,rfl,rfl,trivial⟩ ⟨rfl,rfl,rfl,rfl,rfl,rfl,rfl,trivial⟩ rfl rfl rfl rfl rfl rfl⟩
  ·intro _ _
   clear hnum hu w1 n1 n2 n3
   have hap:(acc++[y.trm l[i]]).map encTrm=acc.map encTrm++[encTrm (y.trm l[i])]:=List.map_append
   obtain⟨y',hy'⟩:∃ y',y' = y.term a l[i]:=⟨_,rfl⟩
   rw [← hy'] at ht hr hterm hvt
   obtain⟨tm,htm⟩:∃ tm,tm=y.trm l[i]:=⟨_,rfl⟩
   rw [← htm] at hr hap htrm
   clear hy' htm
   by_cases hvar:l[i].var=⟨#[]⟩
   ·rw [if_pos hvar] at hterm htrm
    subst hterm
    subst htrm
    repeat' (first|refine z0 ?_|apply ds_nil|refine z5 ?_|apply dw_seq2|refine z16 ?_|refine z20 ?_|apply dw_skip|apply thenD_n|apply inB_n|refine z4 ?_|refine z2 ?_|(refine z23 ?_ ?_ <;> intro hg)|fail)
    all_goals try (exfalso;first|omega|exact absurd hvar (by assumption)|exact absurd (by assumption) hvar)
    exact⟨(i + 1,y',acc++[⟨-1,l[i].n⟩]),⟨by show i + 1≤l.length;omega,ht,hr,by show (acc++_).length=i + 1;rw [List.length_append,hac];rfl,by show y'.vars.length≤x.vars.length + (i + 1);omega⟩,ent_ren (fun x=>match x with|5=>_|x=>x) ⟨rfl,rfl,rfl,rfl,rfl,trivial⟩ ⟨rfl,rfl,rfl,rfl,rfl,by dsimp only;rw [hap];rfl,trivial⟩ rfl rfl rfl rfl rfl rfl,by show l.length - (i + 1) < l.length - i;omega⟩
   ·rw [if_neg hvar] at hterm htrm
    have hpl:=placeT_le l[i].var u.vars
    have lu:(u.vars.map encT).length=u.vars.length:=List.length_map _
    have w3:FnOk false Tryz.prog tab tab_ok 60 [.row 0,.d (.str l[i].var)] 1 1 [(0,.row 9 1 (u.vars.map encT))] (fun _ r H2=>r = .d (.int .i64 (placeT l[i].var u.vars:Nat))∧H2=[(0,.row 9 1 (u.vars.map encT))]):=FnP.shownR (placeOf_fn u.vars l[i].var) rfl rfl (by rintro _ rfl;rfl)
    obtain⟨p,hp⟩:∃ p,p=placeT l[i].var u.vars:=⟨_,rfl⟩
    have hadd:u.addV l[i].var=if p=u.vars.length then ⟨u.names,u.arity,u.rules,u.vars++[l[i].var],u.at_,u.e⟩ else u:=by rw [hp];rfl
    rw [← hp] at w3 htrm hpl
    repeat' (first|refine z0 ?_|apply ds_nil|refine z5 ?_|apply dw_seq2|refine z16 ?_|refine z20 ?_|apply dw_skip|apply thenD_n|apply inB_n|refine z4 ?_|refine z2 ?_|(refine z23 ?_ ?_ <;> intro hg)|fail)
    all_goals try (exfalso;first|omega|exact absurd hvar (by assumption)|exact absurd (by assumption) hvar)
    refine dt_callR (fun j=>match j with|0=>4|j=>j) w3 (by rintro _ rfl;exact⟨rfl,rfl⟩) ⟨_,rfl⟩ rfl rfl rfl rfl ⟨rfl,trivial⟩ rfl rfl rfl rfl rfl rfl rfl rfl rfl ?_
    rintro _ rfl
    by_cases hpn:p=u.vars.length
    ·rw [if_pos hpn] at hadd
     rw [hadd] at hterm
     have e1:y'.vars.map encT=u.vars.map encT++[encT l[i].var]:=by rw [hterm];exact List.map_append
     subst htrm
     repeat' ((fail_if_success (apply dw_stopT 11));(first|refine z0 ?_|apply ds_nil|refine z5 ?_|refine z6 ?_|refine z10 ?_|apply dw_seq2|refine z16 ?_|refine z20 ?_|apply dw_skip|apply thenD_n|apply inB_n|refine z4 ?_|refine z2 ?_|(refine z23 ?_ ?_ <;> intro hg)|fail))
     all_goals try (exfalso;omega)
     refine dw_tail 12 (by kernel_rfl) (by kernel_rfl) (by kernel_rfl) rfl rfl rfl ?_
     repeat' (first|refine z0 ?_|apply ds_nil|refine z5 ?_|refine z9 ?_|refine z11 ?_|refine z16 ?_|apply thenD_n|apply inB_n|refine z3 ?_|refine z4 ?_|refine z2 ?_|fail)
     exact⟨(i + 1,y',acc++[⟨p,l[i].n⟩]),⟨by show i + 1≤l.length;omega,ht,hr,by show (acc++_).length=i + 1;rw [List.length_append,hac];rfl,by show y'.vars.length≤x.vars.length + (i + 1);omega⟩,ent_ren (fun x=>match x with|4=>_|5=>_|x=>x) ⟨rfl,rfl,rfl,rfl,rfl,trivial⟩ ⟨by dsimp only;rw [hterm];rfl,by dsimp only;rw [hterm];rfl,by dsimp only;rw [hterm];rfl,by dsimp only;rw [hterm];rfl,by dsimp only;rw [e1];rfl,by dsimp only;rw [hap];rfl,trivial⟩ rfl rfl rfl rfl rfl rfl,by show l.length - (i + 1) < l.length - i;omega⟩
    ·rw [if_neg hpn] at hadd
     rw [hadd] at hterm
     subst hterm
     subst htrm
     repeat' (first|refine z0 ?_|apply ds_nil|refine z5 ?_|refine z6 ?_|refine z9 ?_|refine z10 ?_|refine z11 ?_|apply dw_seq2|refine z16 ?_|refine z20 ?_|apply dw_skip|apply thenD_n|apply inB_n|refine z4 ?_|refine z2 ?_|(refine z23 ?_ ?_ <;> intro hg)|fail)
     all_goals try (exfalso;omega)
     exact⟨(i + 1,y',acc++[⟨p,l[i].n⟩]),⟨by show i + 1≤l.length;omega,ht,hr,by show (acc++_).length=i + 1;rw [List.length_append,hac];rfl,by show y'.vars.length≤x.vars.length + (i + 1);omega⟩,ent_ren (fun x=>match x with|5=>_|x=>x) ⟨rfl,rfl,rfl,rfl,rfl,trivial⟩ ⟨rfl,rfl,rfl,rfl,rfl,by dsimp only;rw [hap];rfl,trivial⟩ rfl rfl rfl rfl rfl rfl,by show l.length - (i + 1) < l.length - i;omega⟩
 ·have hie:i=l.length:=by omega
  rw [hie,List.drop_of_length_le (Nat.le_refl _)] at ht hr
  replace ht:x.terms a l=y:=ht
  replace hr:x.trms a l=acc:=by rw [hr];exact List.append_nil _
  rw [ht,hr]
  repeat' (first|refine z0 ?_|apply ds_nil|apply dw_seq2|refine z16 ?_|apply dw_block|apply dw_skip|apply dw_exit|apply thenD_n|apply thenD_e|refine z17 ?_|refine z1 ?_|refine z3 ?_|(refine z23 ?_ ?_ <;> intro hg)|fail)
  all_goals try (exfalso;omega)
  refine dw_ent (ent_seal 6 rfl rfl rfl) ?_
  repeat' (apply dw_ret)
  exact⟨.inl rfl,_,rfl,id,5,_,dsR y [],rfl,⟨rfl,rfl,rfl,rfl,rfl,trivial⟩,rfl,rfl,rfl,rfl,rfl,rfl,rfl,rfl,rfl⟩
abbrev truV (x:TRu):SV:=.agg [.d (.int .i64 x.at_),.d (.str x.name),.d (.slice 2 (x.terms.map encTTm)),.d (.int .i64 x.fold),.d (.slice 5 (x.body.map encTLt))]
set_option maxHeartbeats 8000000 in
theorem prule_fn (l:List Tok) (i:Nat) (e:Int) (hi:i≤l.length) (hl:l.length≤900000) (hok:l.all tokOk=true):FnOkE false Tryz.prog tab tab_ok 86 [.loc 0 0] 1 1 (prH l i e) (fun k r H=>∃ x j,ruleT l e i = .ok (x,j)∧k=1∧r=truV x∧H=prH l j e) (fun v=>∃ j,ruleT l e i = .error j∧v=plV (hereT l e j)):=by
 refine fn_enterRE _ Tryz.func86 rfl rfl (by kernel_rfl) ?_
 intro O w0 E0 β0
 have ll:(l.map encTok).length=l.length:=List.length_map _
 have w0:=here_fn l i e
 repeat' (first|refine z0 ?_|apply ds_nil|apply dw_seq2|refine z16 ?_|apply thenD_n|refine z1 ?_|fail)
 (refine ds_callF id (w0) rfl rfl rfl rfl ⟨rfl,trivial⟩ rfl rfl rfl rfl rfl rfl ?_ ?_)
 ·rintro k2 res H2 ⟨rfl,rfl,rfl⟩;exact⟨rfl,rfl⟩
 rintro k2 res H2 ⟨rfl,rfl,rfl⟩
 change DS _ _ _ _ _ _ _ _
 clear w0
 unfold ruleT
 have w2:=pname_fn l i e (by omega)
 repeat' (first|refine z0 ?_|apply ds_nil|apply dw_seq2|refine z16 ?_|apply thenD_n|refine z1 ?_|refine z3 ?_|fail)
 (refine ds_callE id (w2) rfl rfl rfl rfl ⟨rfl,trivial⟩ rfl rfl rfl rfl rfl rfl ?_ ?_ ?_)
 ·rintro v ⟨h,rfl⟩;exact⟨_,by rw [h],rfl⟩
 ·rintro k2 res H2 ⟨s,_,rfl,rfl,rfl⟩;exact⟨rfl,rfl⟩
 rintro k2 res H2 ⟨s,h2,rfl,rfl,rfl⟩
 change DS _ _ _ _ _ _ _ _
 clear w2
 rw [h2]
 dsimp only
 obtain⟨_,h2l⟩:=nameT_lt h2
 have w3:=pterms_fn l (i + 1) e true (by omega) hl hok
 repeat' (first|refine z0 ?_|apply ds_nil|apply dw_seq2|refine z16 ?_|apply thenD_n|refine z3 ?_|fail)
 (refine ds_callE id (w3) rfl rfl rfl rfl ⟨rfl,trivial⟩ rfl rfl rfl rfl rfl rfl ?_ ?_ ?_)
 ·rintro v ⟨m,h,rfl⟩;exact⟨m,by rw [h],rfl⟩
 ·rintro k2 res H2 ⟨x,f,j,_,_,rfl,rfl,rfl⟩;exact⟨rfl,rfl⟩
 rintro k2 res H2 ⟨ts,f,m,h3,h3l,rfl,rfl,rfl⟩
 change DS _ _ _ _ _ _ _ _
 clear w3
 rw [h3]
 dsimp only
 repeat' ((fail_if_success (apply dw_stopS 4));(first|refine z0 ?_|apply ds_nil|apply dw_seq2|apply thenD_n|refine z3 ?_|fail))
 refine dw_cut (ι:=Bool) (fun b=>⟨3,[(0,.loc 0 0),(2,.loc 1 0),(3,.loc 2 0),(24,.d (.bool b))],[(0,prB l (match b with|true=>m + 1|false=>m) e),(1,.blk 59 [.d (.int .i64 0),.d (.str ⟨#[]⟩),.nils,.d (.int .i64 0),.nils]),(2,.blk 59 [.d (.int .i64 (hereT l e i)),.d (.str s),.d (.slice 2 (ts.map encTTm)),.d (.int .i64 f),.nils])]⟩) (fun b=>b=decide (f=0∧seesT l m ⟨#[46]⟩=true)) ?_ ?_
 ·by_cases hf:f=0
  ·have w4:=ptake_fn l m e ⟨#[46]⟩ (by omega)
   repeat' (first|refine z0 ?_|refine z12 ?_|apply ds_nil|refine z16 ?_|apply thenD_n|((fail_if_success (apply ds_known;exact rfl));apply ds_guardP;exact rfl;exact rfl;exact rfl;all_goals intro hg))
   all_goals try (exfalso;omega)
   (refine ds_callF id (w4) rfl rfl rfl rfl ⟨rfl,trivial⟩ rfl rfl rfl rfl rfl rfl ?_ ?_)
   ·rintro k2 res H2 ⟨rfl,rfl,rfl⟩;exact⟨rfl,rfl⟩
   rintro k2 res H2 ⟨rfl,rfl,rfl⟩
   change DS _ _ _ _ _ _ _ _
   clear w4
   cases hd:seesT l m ⟨#[46]⟩ with
   | true =>
    repeat' (first|refine z0 ?_|apply ds_nil|apply thenD_n)
    exact⟨true,(decide_eq_true ⟨hf,rfl⟩).symm,ent_ren id ⟨rfl,rfl,rfl,rfl,trivial⟩ ⟨rfl,rfl,rfl,trivial⟩ rfl rfl rfl rfl rfl rfl⟩
   | false =>
    repeat' (first|refine z0 ?_|apply ds_nil|apply thenD_n)
    exact⟨false,(decide_eq_false (fun h=>by cases h.2)).symm,ent_ren id ⟨rfl,rfl,rfl,rfl,trivial⟩ ⟨rfl,rfl,rfl,trivial⟩ rfl rfl rfl rfl rfl rfl⟩
  ·repeat' (first|refine z0 ?_|refine z12 ?_|apply ds_nil|refine z16 ?_|apply thenD_n|((fail_if_success (apply ds_known;exact rfl));apply ds_guardP;exact rfl;exact rfl;exact rfl;all_goals intro hg))
   all_goals try (exfalso;omega)
   exact⟨false,(decide_eq_false (fun h=>hf h.1)).symm,ent_ren id ⟨rfl,rfl,rfl,rfl,trivial⟩ ⟨rfl,rfl,rfl,trivial⟩ rfl rfl rfl rfl rfl rfl⟩
 ·intro b hb
  cases b with
  | true =>
   obtain⟨hf,hd⟩:=of_decide_eq_true hb.symm
   rw [if_pos ⟨hf,hd⟩]
   have:=seesT_lt hd
   dsimp only
   refine dw_ent (ent_cellnil 2 4 5 rfl rfl rfl) ?_
   repeat' (first|refine z0 ?_|apply ds_nil|apply dw_seq2|refine z16 ?_|apply dw_ret|refine z18 ?_|apply thenD_n|apply thenD_r|refine z3 ?_|fail)
   exact⟨.inl rfl,_,rfl,id,1,_,prH l (m + 1) e,rfl,⟨rfl,trivial⟩,rfl,rfl,rfl,rfl,rfl,rfl,⟨hereT l e i,s,ts,f,[]⟩,m + 1,rfl,rfl,rfl,rfl⟩
  | false =>
   rw [if_neg (of_decide_eq_false hb.symm)]
   clear hb
   dsimp only
   have w5:=need_fn l m e ⟨#[58,45]⟩ (by omega)
   refine dw_ent (ent_cellrow 2 4 63 5 rfl rfl rfl) ?_
   repeat' (first|refine z0 ?_|apply dw_seq2|refine z16 ?_|apply dw_skip|refine z19 ?_|apply thenD_n)
   (refine ds_callE id (w5) rfl rfl rfl rfl ⟨rfl,trivial⟩ rfl rfl rfl rfl rfl rfl ?_ ?_ ?_)
   ·rintro v ⟨hs,rfl⟩;exact⟨m,by rw [hs];rfl,rfl⟩
   ·rintro k2 res H2 ⟨_,rfl,rfl,rfl⟩;exact⟨rfl,rfl⟩
   rintro k2 res H2 ⟨hs,rfl,rfl,rfl⟩
   change DS _ _ _ _ _ _ _ _
   clear w5
   have hml:=seesT_lt hs
   rw [hs,if_pos rfl]
   repeat' (first|apply ds_nil|apply dw_seq2|apply dw_block|apply thenD_n)
   refine ds_loop (ι:=Nat × List TLt × Nat) (fun x=>⟨4,[(0,.loc 0 0),(2,.loc 1 0),(3,.loc 2 0)],[(0,prB l x.1 e),(1,.blk 59 [.d (.int .i64 0),.d (.str ⟨#[]⟩),.nils,.d (.int .i64 0),.nils]),(2,.blk 59 [.d (.int .i64 (hereT l e i)),.d (.str s),.d (.slice 2 (ts.map encTTm)),.d (.int .i64 f),.row 3]),(3,.row 63 5 (x.2.1.map encTLt))]⟩)
    (fun x=>litsGo l e (l.length + 1) (m + 1) []=litsGo l e x.2.2 x.1 x.2.1∧x.1≤l.length∧l.length < x.2.2 + x.1∧x.2.1.length≤x.1) (fun x=>x.2.2) (m + 1,[],l.length + 1) ⟨rfl,by show m + 1≤l.length;omega,by show l.length < l.length + 1 + (m + 1);omega,Nat.zero_le _⟩ (ent_ren id ⟨rfl,rfl,rfl,trivial⟩ ⟨rfl,rfl,rfl,rfl,trivial⟩ rfl rfl rfl rfl rfl rfl) ?_
   rintro⟨j,acc,n⟩ ⟨ht,hj,hn,ha⟩
   dsimp only at ht hj hn ha ⊢
   obtain⟨n,rfl⟩:∃ m,n=m + 1:=⟨n - 1,by omega⟩
   rw [ht,litsGo_succ]
   have w6:=plit_fn l j e hj hl hok
   repeat' (first|refine z0 ?_|apply dw_seq2|refine z16 ?_|apply dw_block)
   (refine ds_callE id (w6) rfl rfl rfl rfl ⟨rfl,trivial⟩ rfl rfl rfl rfl rfl rfl ?_ ?_ ?_)
   ·rintro v ⟨q,h,rfl⟩;exact⟨q,by rw [h],rfl⟩
   ·rintro k2 res H2 ⟨x,q,_,rfl,rfl,rfl⟩;exact⟨rfl,rfl⟩
   rintro k2 res H2 ⟨x,q,h6,rfl,rfl,rfl⟩
   change DS _ _ _ _ _ _ _ _
   clear w6
   obtain⟨q1,q2⟩:=litT_lt h6
   rw [h6]
   dsimp only
   have lac:(acc.map encTLt).length=acc.length:=List.length_map _
   have hap:(acc++[x]).map encTLt=acc.map encTLt++[encTLt x]:=List.map_append
   have w7:=ptake_fn l q e ⟨#[44]⟩ (by omega)
   repeat' (first|refine z0 ?_|apply ds_nil|apply dw_seq2|refine z16 ?_|apply thenD_n|refine z1 ?_|refine z3 ?_|refine z4 ?_|refine z2 ?_|fail)
   (refine ds_callF id (w7) rfl rfl rfl rfl ⟨rfl,trivial⟩ rfl rfl rfl rfl rfl rfl ?_ ?_)
   ·rintro k2 res H2 ⟨rfl,rfl,rfl⟩;exact⟨rfl,rfl⟩
   rintro k2 res H2 ⟨rfl,rfl,rfl⟩
   change DS _ _ _ _ _ _ _ _
   clear w7
   cases hc:seesT l q ⟨#[44]⟩ with
   | true =>
    have:=seesT_lt hc
    repeat' (first|refine z0 ?_|apply ds_nil|apply dw_skip|refine z19 ?_|apply thenD_n|apply inB_n)
    exact⟨(q + 1,acc++[x],n),⟨if_pos rfl,by show q + 1≤l.length;omega,by show l.length < n + (q + 1);omega,by show (acc++[x]).length≤q + 1;rw [List.length_append];simp;omega⟩,ent_ren (fun x=>match x with|0=>0|1=>1|2=>2|_=>_) ⟨rfl,rfl,rfl,trivial⟩ ⟨rfl,rfl,rfl,by dsimp only;rw [hap];rfl,trivial⟩ rfl rfl rfl rfl rfl rfl,by show n < n + 1;omega⟩
   | false =>
    rw [if_neg (fun h=>Bool.noConfusion h)]
    dsimp only
    have w8:=need_fn l q e ⟨#[46]⟩ (by omega)
    repeat' (first|refine z0 ?_|apply ds_nil|apply dw_seq2|refine z16 ?_|apply dw_exit|refine z18 ?_|apply thenD_n|apply thenD_e|refine z17 ?_|(apply inB_x;exact rfl))
    (refine ds_callE id (w8) rfl rfl rfl rfl ⟨rfl,trivial⟩ rfl rfl rfl rfl rfl rfl ?_ ?_ ?_)
    ·rintro v ⟨h,rfl⟩;exact⟨q,by rw [h];rfl,rfl⟩
    ·rintro k2 res H2 ⟨_,rfl,rfl,rfl⟩;exact⟨rfl,rfl⟩
    rintro k2 res H2 ⟨h8,rfl,rfl,rfl⟩
    change DS _ _ _ _ _ _ _ _
    clear w8
    have:=seesT_lt h8
    rw [h8,if_pos rfl]
    repeat' ((fail_if_success (apply dw_stopS 11));(first|apply ds_nil|apply thenD_n))
    refine dw_ent (ent_cellseal 2 4 6 rfl rfl rfl rfl rfl) ?_
    repeat' (first|refine z0 ?_|apply ds_nil|apply dw_seq2|refine z16 ?_|apply dw_ret|apply thenD_n|refine z3 ?_|fail)
    exact⟨.inl rfl,_,rfl,id,1,.agg [.d (.int .i64 (hereT l e i)),.d (.str s),.d (.slice 2 (ts.map encTTm)),.d (.int .i64 f),.d (.slice 5 (acc.map encTLt++[encTLt x]))],prH l (q + 1) e,rfl,⟨rfl,trivial⟩,rfl,rfl,rfl,rfl,rfl,rfl,⟨hereT l e i,s,ts,f,acc++[x]⟩,q + 1,rfl,rfl,by dsimp only [truV];rw [hap],rfl⟩
end Go.Proofs.YtapciiffpnociacGreatDoor
