/- Several texts in one: DagE GxPtr GxShw DagF DagG DagH DagI. Condition: none. -/
import Derived.Test.YtapciiffpnociaaG12
import Derived.Test.YtapciiffpnociaaG09
import Derived.Test.YtapciiffpnociaaG10
import Derived.Test.YtapciiffpnociaaG06
namespace Go.Proofs.Ytapciiffpnociaa
open Go Go.RowKit
attribute [local irreducible] DW DS DL DQ Ev FnOk FnP thenD inBlockD DT
theorem ins_new {α:Type} (X:List α) (z y:α) {p n:Nat} (hn:X.length=n) (hp:p≤n) {A B:List α} (hA:A=X.take p++List.replicate (n + 1 - p) z) (hB:B=A.take p++[y]++A.drop (p + 1)) :
  B.take (p + 1)++(X.drop p).take (n - p)++B.drop (p + 1 + (n - p))=X.take p++y::X.drop p:=by
 have h1:(X.take p).length=p:=by rw [List.length_take];omega
 have h2:A.take p=X.take p:=by rw [hA,List.take_append_of_le_length (by omega),List.take_of_length_le (by omega)]
 have h3:B=(X.take p++[y])++A.drop (p + 1):=by rw [hB,h2]
 have h4:(X.take p++[y]).length=p + 1:=by simp [h1]
 have h5:B.length=n + 1:=by rw [h3,List.length_append,h4,List.length_drop,hA,List.length_append,h1,List.length_replicate];omega
 have e1:B.drop (p + 1 + (n - p))=[]:=List.drop_of_length_le (by omega)
 have e2:(X.drop p).take (n - p)=X.drop p:=List.take_of_length_le (by rw [List.length_drop];omega)
 have e3:B.take (p + 1)=X.take p++[y]:=by rw [h3,List.take_append_of_le_length (by omega),List.take_of_length_le (by omega)]
 rw [e1,e2,e3,List.append_nil,List.append_assoc]
 rfl
theorem ins_in {α:Type} (X:List α) (y:α) {p:Nat} (hp:p < X.length) {A:List α} (hA:A=X.take (p + 1)++X.drop p):A.take p++[y]++A.drop (p + 1)=X.take p++y::X.drop p:=by
 have h1:(X.take (p + 1)).length=p + 1:=by rw [List.length_take];omega
 rw [hA,List.take_append_of_le_length (by omega),List.take_take,Nat.min_eq_left (by omega),List.drop_append_of_le_length (by omega),List.drop_of_length_le (by omega),List.append_assoc]
 rfl
set_option maxHeartbeats 8000000 in
theorem insertU_fn (xs:List Upd) (y:Upd) (p:Nat) (hp:p≤xs.length) (hl:xs.length≤1000000) :
  FnOk false Try.prog tab tab_ok 230 [.row 0,.d (.int .i64 p),.d (.slice 5 [encUpd y])] 1 1 [(0,.row 40 5 (xs.map encUpd))]
   (fun k r H=>k=2∧r = .row 1∧H=[(1,.row 40 5 ((xs.take p++y::xs.drop p).map encUpd))]):=by
 refine fn_enterR _ Try.func230 rfl rfl (by kernel_rfl) ?_
 intro O w0 E0 β0
 have ll:(xs.map encUpd).length=xs.length:=List.length_map _
 by_cases hpe:p=xs.length
 ·subst hpe
  repeat' (first|refine z0 ?_|apply ds_nil|apply dw_seq2|refine z16 ?_|apply dw_skip|refine z19 ?_|apply thenD_n|refine z2 ?_|(refine z23 ?_ ?_ <;> intro hg)|fail)
  all_goals try (exfalso;omega)
  repeat' (first|apply dw_ret|apply thenD_r)
  exact⟨.inl rfl,_,rfl,id,2,.row 1,[(1,.row 40 5 ((xs.take xs.length++y::xs.drop xs.length).map encUpd))],rfl,⟨by rw [List.take_length,List.drop_length,List.map_append];rfl,trivial⟩,rfl,rfl,rfl,rfl,rfl,rfl,rfl,rfl,rfl⟩
 ·have h00:xs.map encUpd≠[]:=fun h=>by rw [List.map_eq_nil_iff] at h;subst h;simp at hp hpe;exact hpe hp
  repeat' (first|refine z0 ?_|apply ds_nil|apply dw_seq2|refine z16 ?_|apply dw_skip|refine z19 ?_|apply thenD_n|refine z2 ?_|(refine z23 ?_ ?_ <;> intro hg)|fail)
  all_goals try (exfalso;omega)
  refine ds_capRow rfl rfl rfl rfl rfl rfl (fun h=>absurd h h00) (fun g0 c hη hc hmx=>?_)
  by_cases hgr:c < xs.length + 1
  ·repeat' ((fail_if_success (apply dw_stopR 10));(first|refine z0 ?_|apply ds_nil|apply dw_seq2|refine z16 ?_|apply dw_skip|apply thenD_n|(refine z23 ?_ ?_ <;> intro hg)|fail))
   all_goals try (exfalso;simp only [List.length_singleton,ll] at *;omega)
   obtain⟨z,hz⟩:∃ z:List D,z=[.int .i64 0,.int .i64 0,.slice 2 [],.slice 2 [],.slice 2 []]:=⟨_,rfl⟩
   refine ds_apGrow (p:=p) (q:=xs.length + 1 - p) z rfl rfl rfl hη rfl (by simp only [List.length_singleton,ll];omega) (by omega) (by omega) rfl rfl rfl rfl (by subst hz;exact⟨.inl rfl,.inl rfl,.inr ⟨rfl,2,rfl⟩,.inr ⟨rfl,2,rfl⟩,.inr ⟨rfl,2,rfl⟩,trivial⟩) rfl rfl (by omega) (by omega) (Nat.le_trans (Nat.mul_le_mul_left _ (show _≤88 from Nat.le_refl _)) (by omega)) (by unfold maxLen;omega) rfl rfl ?_
   obtain⟨A,hA⟩:∃ A,A=(xs.map encUpd).take p++List.replicate (xs.length + 1 - p) z:=⟨_,rfl⟩
   have hAl:A.length=xs.length + 1:=by rw [hA,List.length_append,List.length_take,List.length_replicate,ll];omega
   rw [← hA]
   repeat' ((fail_if_success (apply dw_stopT 11));(first|refine z0 ?_|apply ds_nil|apply dw_seq2|refine z16 ?_|apply thenD_n))
   all_goals try (exfalso;simp only [List.length_singleton,ll] at *;omega)
   obtain⟨B,hB⟩:∃ B,B=A.take p++[encUpd y]++A.drop (p + 1):=⟨_,rfl⟩
   have hBl:B.length=xs.length + 1:=by rw [hB,List.length_append,List.length_append,List.length_take,List.length_drop,hAl,List.length_singleton];omega
   refine ds_copyD (j:=p) (n:=xs.length + 1 - p) (ys:=[encUpd y]) (H':=[(1,.row 40 5 B),(0,.row 40 5 (xs.map encUpd))]) (by rw [hAl];rfl) rfl rfl rfl rfl rfl (by simp) (by rw [List.length_singleton];omega) (by rw [List.length_singleton];omega) rfl rfl (by rw [hB];rfl) ?_
   repeat' ((fail_if_success (apply dw_stopT 11));(first|apply ds_nil|apply dw_seq2|apply thenD_n))
   all_goals try (exfalso;simp only [List.length_singleton,ll] at *;omega)
   refine dw_tail 8 (by kernel_rfl) (by kernel_rfl) (by kernel_rfl) rfl rfl rfl ?_
   repeat' (first|refine z5 ?_|refine z10 ?_|fail)
   refine ds_copyRR (q:=xs.length - p) (j:=p + 1) (p:=p) (H':=[(1,.row 40 5 (B.take (p + 1)++((xs.map encUpd).drop p).take (xs.length - p)++B.drop (p + 1 + (xs.length - p)))),(0,.row 40 5 (xs.map encUpd))]) rfl rfl rfl rfl rfl rfl rfl (by omega) (by show _=min _ _;simp only [List.length_singleton,ll,hBl];omega) (by rw [ll];omega) (by rw [hBl];omega) rfl rfl rfl ?_
   rw [ins_new (xs.map encUpd) z (encUpd y) ll hp hA hB]
   repeat' (first|refine z0 ?_|apply ds_nil|apply dw_seq2|refine z16 ?_|apply dw_ret|apply thenD_n|apply thenD_r)
   exact⟨.inl rfl,_,rfl,id,2,.row 1,[(1,.row 40 5 ((xs.take p++y::xs.drop p).map encUpd))],rfl,⟨by rw [List.map_append,List.map_cons,List.map_take,List.map_drop];rfl,trivial⟩,rfl,rfl,rfl,rfl,rfl,rfl,rfl,rfl,rfl⟩
  ·repeat' ((fail_if_success (apply dw_stopR 13));(first|refine z0 ?_|apply ds_nil|apply dw_seq2|refine z16 ?_|apply dw_skip|apply thenD_n|(refine z23 ?_ ?_ <;> intro hg)|fail))
   all_goals try (exfalso;simp only [List.length_singleton,ll] at *;omega)
   repeat' fail
   refine ds_ev (s:=.rsl 0 5 0 (xs.length + 1)) (by have h9:=@ev_slice_ext;rw [show xs.length + 1=(((xs.map encUpd).length:Int) + ([encUpd y].length:Int)).toNat by rw [ll];rfl];exact ev_slice_ext (es:=5) (len:=0) rfl rfl rfl rfl hη rfl (by intro h;cases h) (by omega) (by rw [List.length_singleton];omega) hmx) rfl rfl ?_
   repeat' (first|refine z0 ?_|apply ds_nil|apply dw_seq2|refine z16 ?_|apply thenD_n)
   refine ds_ev (ev_overlaps (tR:=4) (t:=71) (i:=0) (es:=5) Try.func242 (by kernel_rfl) (by kernel_rfl) (by kernel_rfl) (by kernel_rfl) rfl rfl (by omega) rfl (by simp) rfl rfl h00) rfl rfl ?_
   repeat' ((fail_if_success (apply dw_stopT 15));(first|refine z0 ?_|apply ds_nil|apply dw_seq2|refine z18 ?_|apply thenD_n))
   all_goals try (exfalso;simp only [List.length_singleton,ll] at *;omega)
   refine dw_tail 8 (by kernel_rfl) (by kernel_rfl) (by kernel_rfl) rfl rfl rfl ?_
   repeat' (first|refine z5 ?_|refine z10 ?_|fail)
   refine ds_copyGrow 0 (p:=p) (n:=xs.length - p) (H':=[]) rfl rfl rfl rfl (by rw [Nat.zero_add];rfl) (by rw [List.length_singleton];omega) (Nat.zero_add _).symm (by rw [ll]) rfl rfl rfl (by rw [ll];omega) (by omega) (by omega) rfl rfl rfl ?_
   obtain⟨A,hA⟩:∃ A,A=(xs.map encUpd).take (p + 1)++(xs.map encUpd).drop p:=⟨_,rfl⟩
   have hAl:A.length=xs.length + 1:=by rw [hA,List.length_append,List.length_take,List.length_drop,ll];omega
   rw [← hA]
   repeat' (first|refine z0 ?_|apply ds_nil|apply dw_seq2|refine z16 ?_|apply thenD_n)
   all_goals try (exfalso;simp only [List.length_singleton,ll] at *;omega)
   refine ds_copyD (j:=p) (n:=xs.length + 1 - p) (ys:=[encUpd y]) (H':=[(1,.row 40 5 (A.take p++[encUpd y]++A.drop (p + 1)))]) (by rw [hAl];rfl) rfl rfl rfl rfl rfl (by simp) (by rw [List.length_singleton];omega) (by rw [List.length_singleton];omega) rfl rfl rfl ?_
   rw [ins_in (xs.map encUpd) (encUpd y) (by rw [ll];omega) hA]
   repeat' (first|refine z0 ?_|apply ds_nil|apply dw_seq2|refine z16 ?_|apply dw_ret|apply thenD_n|apply thenD_r)
   exact⟨.inl rfl,_,rfl,id,2,.row 1,[(1,.row 40 5 ((xs.take p++y::xs.drop p).map encUpd))],rfl,⟨by rw [List.map_append,List.map_cons,List.map_take,List.map_drop];rfl,trivial⟩,rfl,rfl,rfl,rfl,rfl,rfl,rfl,rfl,rfl⟩
theorem del_list {α:Type} (X:List α) (z:List α) {p n m:Nat} (hn:X.length=n) (hp:p < n) (hm:m=n - (p + 1)) {A:List α} (hA:A=X.take p++(X.drop (p + 1)).take m++X.drop (p + m)) {q:Nat} (hq:q=p + m):(A.take q++z).take q=X.eraseIdx p:=by
 have h1:(X.take p).length=p:=by rw [List.length_take];omega
 have h2:((X.drop (p + 1)).take m)=X.drop (p + 1):=List.take_of_length_le (by rw [List.length_drop];omega)
 have h3:(X.take p++X.drop (p + 1)).length=q:=by rw [List.length_append,h1,List.length_drop];omega
 have h4:A.take q=X.take p++X.drop (p + 1):=by rw [hA,h2,List.take_append_of_le_length (by omega),List.take_of_length_le (by omega)]
 rw [h4,List.take_append_of_le_length (by omega),List.take_of_length_le (by omega),List.eraseIdx_eq_take_drop_succ]
set_option maxHeartbeats 8000000 in
theorem deleteU_fn (xs:List Upd) (p:Nat) (hp:p < xs.length) (hl:xs.length≤1000000) :
  FnOk false Try.prog tab tab_ok 215 [.row 0,.d (.int .i64 p),.d (.int .i64 ((p:Int) + 1))] 1 1 [(0,.row 40 5 (xs.map encUpd))]
   (fun k r H=>k=2∧r = .row 1∧H=[(1,.row 40 5 ((xs.eraseIdx p).map encUpd))]):=by
 refine fn_enterR _ Try.func215 rfl rfl (by kernel_rfl) ?_
 intro O w0 E0 β0
 have ll:(xs.map encUpd).length=xs.length:=List.length_map _
 repeat' (first|refine z0 ?_|apply ds_nil|apply dw_seq2|refine z16 ?_|apply thenD_n)
 refine ds_ev (ev_slice3 (t':=40) (n:=p) (m':=(p:Int) + 1) (p:=(xs.map encUpd).length) rfl rfl rfl rfl rfl rfl rfl (by omega) (by omega) (by omega) (Int.le_refl _)) rfl rfl ?_
 repeat' ((fail_if_success (apply dw_stopT 5));(first|refine z0 ?_|apply ds_nil|apply dw_seq2|refine z16 ?_|apply dw_skip|apply thenD_n|(refine z23 ?_ ?_ <;> intro hg)|fail))
 all_goals try (exfalso;omega)
 refine dw_tail 6 (by kernel_rfl) (by kernel_rfl) (by kernel_rfl) rfl rfl rfl ?_
 repeat' (first|refine z5 ?_|refine z10 ?_|fail)
 obtain⟨m,hm⟩:∃ m,m=((xs.map encUpd).length:Int).toNat - ((p:Int) + 1).toNat:=⟨_,rfl⟩
 have hm':m=xs.length - (p + 1):=by rw [hm,ll];omega
 obtain⟨A,hA⟩:∃ A,A=(xs.map encUpd).take p++((xs.map encUpd).drop (p + 1)).take m++(xs.map encUpd).drop (p + m):=⟨_,rfl⟩
 have hAl:A.length=xs.length:=by rw [hA,List.length_append,List.length_append,List.length_take,List.length_take,List.length_drop,List.length_drop,ll];omega
 refine ds_apRR (p:=p) (j:=p + 1) (n:=m) (H':=[(0,.row 40 5 A)]) rfl (by rw [hm];rfl) rfl rfl rfl rfl (by omega) (by omega) (by omega) rfl rfl (by rw [hA];rfl) ?_
 repeat' (first|refine z0 ?_|apply ds_nil|apply dw_seq2|refine z16 ?_|apply thenD_n)
 all_goals try (exfalso;omega)
 refine ds_ev (ev_slice_far (t':=40) rfl rfl rfl rfl rfl rfl rfl (by omega) (by omega) (by omega) (by omega)) rfl rfl ?_
 obtain⟨z,hz⟩:∃ z:List D,z=[.int .i64 0,.int .i64 0,.slice 2 [],.slice 2 [],.slice 2 []]:=⟨_,rfl⟩
 refine ds_clear (es:=5) (te:=40) (tb:=40) (xs:=A) (j:=0 + (((p + m:Nat):Int)).toNat) (n:=(((xs.map encUpd).length:Int)).toNat - (((p + m:Nat):Int)).toNat) z rfl rfl rfl rfl (by subst hz;exact⟨.inl rfl,.inl rfl,.inr ⟨rfl,2,rfl⟩,.inr ⟨rfl,2,rfl⟩,.inr ⟨rfl,2,rfl⟩,trivial⟩) rfl rfl (by omega) (by omega) (by omega) rfl rfl ?_
 repeat' (first|refine z0 ?_|apply ds_nil|apply dw_seq2|refine z16 ?_|apply thenD_n)
 refine dw_ent (ent_cut (n:=p + m) 6 rfl rfl (by simp only [List.length_append,List.length_take,List.length_drop,List.length_replicate];omega) rfl) ?_
 rw [List.append_assoc,show 0 + (((p + m:Nat):Int)).toNat=p + m by omega,del_list (xs.map encUpd) _ ll hp hm' hA rfl]
 repeat' (apply dw_ret)
 exact⟨.inl rfl,_,rfl,id,2,.row 1,[(1,.row 40 5 ((xs.eraseIdx p).map encUpd))],rfl,⟨by rw [List.eraseIdx_eq_take_drop_succ,List.eraseIdx_eq_take_drop_succ,List.map_append,List.map_take,List.map_drop];rfl,trivial⟩,rfl,rfl,rfl,rfl,rfl,rfl,rfl,rfl,rfl⟩
end Go.Proofs.Ytapciiffpnociaa
namespace Go.Proofs.Ytapciiffpnociaa
open Go Go.RowKit
section
variable {Γ : Ctx} {k : Nat} {L : Sl} {H : Hp} {a : Act} {w : World} {e : Env} {S : Nat → Prop} {X' : Nat → Prop}
end
theorem FnP.use_at {dr:Bool} {P:Program} {τ:List (Nat × TI)} {τok:TabOk P τ} {f:FuncId} {args:List SV} {R:SV→Prop} (hc:FnP dr P τ τok f args R) (e:Env) {w:World} (O:Nat→Prop) (hO:∀ b,O b→b < w.heap.size) (hlow:SV.lowL 0 args=true)
  (vs:List Value) (hr:RelL O e w args vs) :
  Calls P f vs.toArray w (fun en w'=>∃ r v,R r∧en = .returned v∧Beld dr w.heap.size w w'∧r.low 0=true∧Rel O e w' r v):=by
 have hX:∀ e' b,Ctx.X ⟨P,τ,τok,O,w,fun b=>b∈ownedL (e.ren id 0) [],0,0,(e.ren id 0).an,none,noPan,true,dr⟩ e' [] b↔O b:=by
  intro e' b
  unfold Ctx.X
  simp [ownedL]
 refine (hc.2 O (e.ren id 0) w vs ⟨fun _=>Iff.rfl,by simp,by simp,by simp [ownedL],by simp [ownedL],rfl,rfl,rfl,fun _=>Nat.le_refl _,Nat.le_refl _,fun _ _ _=>rfl,fun b hb=>⟨hO b hb,by simp [ownedL]⟩,fun j hj=>absurd hj (Nat.not_lt_zero j),fun j hj=>absurd hj (Nat.not_lt_zero j)⟩ ?_).mono ?_
 ·exact RelL.keep (Nat.le_refl _) (fun _ _ _=>rfl) (fun b _ hy=>(hX _ b).1 hy) _ _ (RelL.env _ _ hlow hr)
 ·rintro en w' ⟨k',r,H',e',v,⟨rfl,hlr,hR⟩,rfl,hH,hrel⟩
  refine⟨r,v,hR,rfl,⟨⟨hH.os,hH.tape,hH.output,hH.size,fun b hb=>hH.block b hb (by simp [ownedL])⟩,hH.drawn⟩,hlr,?_⟩
  exact Rel.keep (Nat.le_refl _) (fun _ _ _=>rfl) (fun b _ hy=>(hX _ b).2 hy) _ _ (Rel.env _ _ hlr hrel)
section
variable {Γ : Ctx} {k : Nat} {L : Sl} {H : Hp} {K : Next'} {ops : List Oper} {rest : List Oper}
end
section
variable {Γ : Ctx} {k : Nat} {L : Sl} {H : Hp} {K : Next'} {ops : List Oper} {rest : List Oper} {t t' ty : TypeId} {x y : Operand}
end
end Go.Proofs.Ytapciiffpnociaa
namespace Go.Proofs.Ytapciiffpnociaa
open Go Go.RowKit
def shC (H:Hp):SV→Option D
 | .d x=>some x
 | .row j=>match Hp.get H j with|some (.row _ es xs)=>some (.slice es xs)|_=>none
 | _=>none
def shCs (H:Hp):List SV→Option (List D)
 | []=>some []
 | s::l=>match shC H s,shCs H l with|some d,some ds=>some (d::ds)|_,_=>none
def shQ (H:Hp) (i:Nat):Option D:=match Hp.get H i with|some (.blk _ cs)=>(match shCs H cs with|some ds=>some (.ptr ds)|none=>none)|_=>none
def shC2 (H:Hp):SV→Option D
 | .loc i 0=>shQ H i
 | s=>shC H s
def shCs2 (H:Hp):List SV→Option (List D)
 | []=>some []
 | s::l=>match shC2 H s,shCs2 H l with|some d,some ds=>some (d::ds)|_,_=>none
def shP (H:Hp) (i:Nat):SV:=match Hp.get H i with|some (.blk _ cs)=>(match shCs2 H cs with|some ds=>.pd ds|none=>.loc i 0)|_=>.loc i 0
def shR (H:Hp) (j:Nat):SV:=match Hp.get H j with|some (.row _ es xs)=>.d (.slice es xs)|_=>.row j
def shK (H:Hp):SV→SV
 | .row j=>shR H j
 | .loc i 0=>shP H i
 | s=>s
def shKs (H:Hp):List SV→List SV
 | []=>[]
 | s::l=>shK H s::shKs H l
def shS (H:Hp):SV→SV
 | .fn f caps=>.fn f (shKs H caps)
 | s=>shK H s
def shL (H:Hp):List SV→List SV
 | []=>[]
 | s::l=>shS H s::shL H l
def scalTs:List SV→Bool
 | []=>true
 | s::l=>scalB s && scalTs l
def scalT:SV→Bool
 | .tup l=>scalTs l
 | s=>scalB s
theorem scalTs_rel {X Y:Nat→Prop} {e e':Env} {w w':World}:∀ {l:List SV} {vs:List Value},scalTs l=true→RelL X e w l vs→RelL Y e' w' l vs
 | [],[],_,_=>trivial
 | [],_::_,_,h=>h
 | _::_,[],_,h=>h
 | s::l,v::vs,h,g=>by
  simp only [scalTs,Bool.and_eq_true] at h
  exact⟨scal_rel h.1 g.1,scalTs_rel h.2 g.2⟩
theorem scalT_rel {X Y:Nat→Prop} {e e':Env} {w w':World} {s:SV} {v:Value} (h:scalT s=true) (hr:Rel X e w s v):Rel Y e' w' s v:=by
 cases s with
 | tup l =>
  obtain⟨vs,h1,h2⟩:=hr
  exact⟨vs,h1,scalTs_rel h h2⟩
 | d x=>exact scal_rel (s:=.d x) h hr
 | _=>cases h
section
variable {Γ : Ctx} {k : Nat → Prop} {L : Sl} {H : Hp} {a : Act} {w : World} {e : Env}
theorem row_out (m:Models Γ k L H e a w) {i es:Nat} {te:TypeId} {xs:List (List D)} (hH:Hp.get H i=some (.row te es xs)):RepC Γ.O w (e.η i) (.slice es xs) :=
 RepC.keep (Nat.le_refl _) (fun _ _ _=>rfl) (fun _ _ h=>.inl h) (row_data m hH)
theorem shC_rel (m:Models Γ k L H e a w) {s:SV} {d:D} {v:Value} (h:shC H s=some d) (hr:Rel (Γ.X e H) e w s v):RepC Γ.O w v d:=by
 unfold shC at h
 split at h
 ·cases h
  exact RepC.keep (Nat.le_refl _) (fun _ _ _=>rfl) (fun _ _ h=>.inl h) hr
 ·split at h
  ·rename_i hH
   cases h
   rw [hr.2.1]
   exact row_out m hH
  ·cases h
 ·cases h
theorem shCs_rel (m:Models Γ k L H e a w):∀ {cs:List SV} {ds:List D} {vs:List Value},shCs H cs=some ds→RelL (Γ.X e H) e w cs vs→∀ j (h:j < ds.length),∃ u,vs[j]? = some u∧RepC Γ.O w u ds[j]
 | [],ds,_,h,_,j,hj=>by cases h;exact absurd hj (Nat.not_lt_zero j)
 | _::_,_,[],_,g,_,_=>g.elim
 | s::cs,ds,v::vs,h,g,j,hj=>by
  unfold shCs at h
  split at h
  ·rename_i d ds' h1 h2
   cases h
   cases j with
   | zero=>exact⟨v,rfl,shC_rel m h1 g.1⟩
   | succ j=>exact shCs_rel m h2 g.2 j (by simpa using hj)
  ·cases h
theorem shC2_rel (m:Models Γ k L H e a w) {s:SV} {d:D} {v:Value} (h:shC2 H s=some d) (hr:Rel (Γ.X e H) e w s v):RepC Γ.O w v d:=by
 unfold shC2 at h
 split at h
 ·unfold shQ at h
  split at h
  ·rename_i ty cs hH
   split at h
   ·rename_i ds hds
    cases h
    obtain⟨vs,h1,h2,_⟩:=(m.heap _ (Hp.mem_of hH)).2
    have hown:e.β _∈ownedL e H:=List.mem_filterMap.2 ⟨_,Hp.mem_of hH,rfl⟩
    rw [hr.2]
    refine .ptr (fun j=>vs.getD j undef) (m.mine _ hown).2 (Array.getElem?_eq_some_iff.1 h1).1 (fun j hj=>?_) (fun j hj=>?_)
    ·obtain⟨u,u1,u2⟩:=shCs_rel m hds h2 j hj
     simp [World.cell?,h1,u1]
    ·obtain⟨u,u1,u2⟩:=shCs_rel m hds h2 j hj
     simp only [List.getD,u1,Option.getD_some]
     exact u2
   ·cases h
  ·cases h
 ·exact shC_rel m h hr
theorem shCs2_rel (m:Models Γ k L H e a w):∀ {cs:List SV} {ds:List D} {vs:List Value},shCs2 H cs=some ds→RelL (Γ.X e H) e w cs vs→∀ j (h:j < ds.length),∃ u,vs[j]? = some u∧RepC Γ.O w u ds[j]
 | [],ds,_,h,_,j,hj=>by cases h;exact absurd hj (Nat.not_lt_zero j)
 | _::_,_,[],_,g,_,_=>g.elim
 | s::cs,ds,v::vs,h,g,j,hj=>by
  unfold shCs2 at h
  split at h
  ·rename_i d ds' h1 h2
   cases h
   cases j with
   | zero=>exact⟨v,rfl,shC2_rel m h1 g.1⟩
   | succ j=>exact shCs2_rel m h2 g.2 j (by simpa using hj)
  ·cases h
theorem shK_rel (m:Models Γ k L H e a w) {s:SV} {v:Value} (hr:Rel (Γ.X e H) e w s v):Rel Γ.O e w (shK H s) v:=by
 have hk:Rel Γ.O e w s v:=Rel.keep (Nat.le_refl _) (fun _ _ _=>rfl) (fun _ _ h=>.inl h) _ _ hr
 unfold shK
 split
 ·rename_i j
  unfold shR
  split
  ·rename_i hH
   rw [hr.2.1]
   exact row_out m hH
  ·exact hk
 ·rename_i i
  unfold shP
  split
  ·rename_i ty cs hH
   split
   ·rename_i ds hds
    obtain⟨vs,h1,h2,_⟩:=(m.heap _ (Hp.mem_of hH)).2
    have hown:e.β i∈ownedL e H:=List.mem_filterMap.2 ⟨_,Hp.mem_of hH,rfl⟩
    refine⟨e.β i,0,hr.2,(Array.getElem?_eq_some_iff.1 h1).1,(m.mine _ hown).2,fun j hj=>?_⟩
    obtain⟨u,u1,u2⟩:=shCs2_rel m hds h2 j hj
    refine⟨u,?_,u2⟩
    simp [World.cell?,h1,u1]
   ·exact hk
  ·exact hk
 ·exact hk
theorem shKs_rel (m:Models Γ k L H e a w):∀ {l:List SV} {vs:List Value},RelL (Γ.X e H) e w l vs→RelL Γ.O e w (shKs H l) vs
 | [],[],_=>trivial
 | [],_::_,h=>h
 | _::_,[],h=>h
 | _::_,_::_,h=>⟨shK_rel m h.1,shKs_rel m h.2⟩
theorem shS_rel (m:Models Γ k L H e a w) {s:SV} {v:Value} (hr:Rel (Γ.X e H) e w s v):Rel Γ.O e w (shS H s) v:=by
 unfold shS
 split
 ·obtain⟨vs,h1,h2⟩:=hr
  exact⟨vs,h1,shKs_rel m h2⟩
 ·exact shK_rel m hr
theorem shL_rel (m:Models Γ k L H e a w):∀ {l:List SV} {vs:List Value},RelL (Γ.X e H) e w l vs→RelL Γ.O e w (shL H l) vs
 | [],[],_=>trivial
 | [],_::_,h=>h
 | _::_,[],h=>h
 | _::_,_::_,h=>⟨shS_rel m h.1,shL_rel m h.2⟩
end
section
variable {Γ : Ctx} {k : Nat} {L : Sl} {H : Hp} {K : Next'} {ops : List Oper} {rest : List Oper}
theorem ds_callP {f:FuncId} {xs:List Operand} {ts:Array TypeId} {ty:TypeId} {pos:String} {af:Array Edge} {g:Option (Nat × Bool)} {d:Nat} {args:List SV} {R:SV→Prop} (hc:FnP Γ.dr Γ.P Γ.τ Γ.τok f args R)
  (ha:shL H (opsL L xs)=args) (hs:∀ r,R r→scalT r=true) (hw:wantedSV ops L g=some true) (hok:opsOk xs=true) (hlow:SV.lowL 0 args=true) (hd:Nat.blt d Γ.n=true)
  (hk:∀ r,R r→DS false Γ ops rest K k ((d,r)::L) H):DS false Γ ops (⟨some d,.call { callee:=.value (.func f),args:=xs.toArray,argTypes:=ts },ty,pos,af,g⟩::rest) K k L H:=by
 refine dl_run hw fun e a w m=>?_
 unfold Oper.wp
 rw [run_callOp hc.1]
 rw [Oper.upon_enter]
 refine (hc.use_at (τ:=Γ.τ) (τok:=Γ.τok) e Γ.O (fun b hb=>Nat.lt_of_lt_of_le (m.obound b hb).1 m.size) hlow _ (ha▸shL_rel m (opsL_rel m xs hok))).mono ?_
 rintro en w' ⟨r,v,hR,rfl,hb,hlr,hrel⟩
 exact⟨k,_,H,e,(m.below hb).put (Nat.le_of_ble_eq_true hd) (scalT_rel (hs r hR) hrel),hk r hR⟩
end
theorem FnP.shown {dr:Bool} {P:Program} {τ:List (Nat × TI)} {τok:TabOk P τ} {f:FuncId} {args args':List SV} {J k:Nat} {H:Hp} {R:SV→Prop} (hc:FnP dr P τ τok f args' R) (ha:shL H args=args') (hlow:SV.lowL 0 args' = true) (hs:∀ r,R r→scalT r=true) :
  FnOk dr P τ τok f args J k H (fun k2 r H2=>k2=k∧R r∧H2=H):=by
 refine⟨hc.1,fun O e w vs hH hr=>?_⟩
 have m:Models ⟨P,τ,τok,O,w,fun b=>b∈ownedL e H,0,J,e.an,none,noPan,true,dr⟩ (lo k) [] H e { tmps:=#[],defers:=[] } w:=⟨hH,.nil,rfl,fun _=>trivial⟩
 refine (hc.use_at (τ:=τ) (τok:=τok) e O (fun b hb=>Nat.lt_of_lt_of_le (m.obound b hb).1 m.size) hlow _ (ha▸shL_rel m hr)).mono ?_
 rintro en w' ⟨r,v,hR,rfl,hb,hlr,hrel⟩
 exact⟨k,r,H,e,v,⟨rfl,hR,rfl⟩,rfl,(m.below hb).toHeap,scalT_rel (hs r hR) hrel⟩
theorem FnP.shownR {dr:Bool} {P:Program} {τ:List (Nat × TI)} {τok:TabOk P τ} {f:FuncId} {args args':List SV} {J k:Nat} {H:Hp} {R:SV→Prop} (hc:FnP dr P τ τok f args' R) (ha:shL H args=args') (hlow:SV.lowL 0 args' = true) (hs:∀ r,R r→scalT r=true) :
  FnOk dr P τ τok f args J k H (fun _ r H2=>R r∧H2=H):=by
 obtain⟨h1,h2⟩:=FnP.shown (J:=J) (k:=k) (H:=H) hc ha hlow hs
 refine⟨h1,fun O e w vs hH hr=>(h2 O e w vs hH hr).mono ?_⟩
 rintro en w' ⟨k',r,H',e',v,⟨_,hR,hH'⟩,h⟩
 exact⟨k',r,H',e',v,⟨hR,hH'⟩,h⟩
theorem posU_cons (x:Upd) (l:List Upd) (i:UId):posU (x::l) i=(if ordId x.id i < 0 then 1 else 0) + posU l i:=by
 unfold posU
 rw [List.countP_cons]
 split <;> simp_all <;> omega
theorem posU_zero {l:List Upd} {i:UId} (h:∀ x∈l,¬ ordId x.id i < 0):posU l i=0:=List.countP_eq_zero.2 fun u hu=>by simpa using h u hu
theorem posU_ins:∀ {l:List Upd} {u:Upd},StrU l→hasU l u.id=false→l.take (posU l u.id)++u::l.drop (posU l u.id)=insU l u
 | [],u,_,_=>rfl
 | x::l,u,hs,hn=>by
  obtain⟨h1,h2⟩:=List.pairwise_cons.1 hs
  unfold hasU at hn
  rw [List.any_cons,Bool.or_eq_false_iff] at hn
  have ha:=ordId_anti x.id u.id
  unfold insU
  split
  ·rename_i hlt
   rw [posU_zero (fun z hz=>?_)]
   ·rfl
   ·rcases List.mem_cons.1 hz with rfl|hz
    ·omega
    ·have h3:=ordId_trans hlt (h1 z hz)
     have h4:=ordId_anti z.id u.id
     omega
  ·rename_i hlt
   have hne:ordId x.id u.id≠0:=fun h=>by rw [same_eq,decide_eq_true h] at hn;simp at hn
   rw [posU_cons,if_pos (by omega),Nat.add_comm,List.take_succ_cons,List.drop_succ_cons,List.cons_append,posU_ins h2 hn.2]
attribute [local irreducible] DW DS DL DQ Ev FnOk FnP thenD inBlockD DT
set_option maxHeartbeats 8000000 in
theorem dput_fn (l:List Upd) (u:Upd) (hl:l.length≤100000) (hs:StrU l) (hn:hasU l u.id=false):FnOk false Try.prog tab tab_ok 213 [.row 0,elUpd u] 1 1 [(0,.row 40 5 (l.map encUpd))]
  (fun k r H=>k=2∧r = .row 1∧H=[(1,.row 40 5 ((insU l u).map encUpd))]):=by
 refine fn_enterR _ Try.func213 rfl rfl (by kernel_rfl) ?_
 intro O w0 E0 β0
 have ll:(l.map encUpd).length=l.length:=List.length_map _
 have w:=at_fn l u.id (by omega) hs
 have hpl:posU l u.id≤l.length:=List.countP_le_length
 have w2:=insertU_fn l u (posU l u.id) hpl (by omega)
 rw [posU_ins hs hn] at w2
 repeat' (first|refine z0 ?_|apply ds_nil|apply dw_seq2|refine z16 ?_|apply thenD_n|refine z1 ?_|fail)
 refine ds_callP w rfl (by rintro r rfl;rfl) rfl rfl rfl rfl ?_
 rintro r rfl
 repeat' (first|refine z0 ?_|apply ds_nil|apply dw_seq2|refine z16 ?_|apply thenD_n|refine z4 ?_|fail)
 refine ds_callO id w2 rfl rfl rfl rfl ⟨rfl,trivial⟩ rfl rfl rfl rfl rfl rfl ?_ ?_
 ·rintro k2 r H2 ⟨rfl,rfl,rfl⟩;exact⟨rfl,rfl⟩
 rintro k2 r H2 ⟨rfl,rfl,rfl⟩
 change DS _ _ _ _ _ _ _ _
 repeat' (first|refine z0 ?_|apply ds_nil|apply dw_ret|apply thenD_n)
 exact⟨.inl rfl,_,rfl,fun j=>match j with|1=>3|j=>j,2,.row 1,[(1,.row 40 5 ((insU l u).map encUpd))],rfl,⟨rfl,trivial⟩,rfl,rfl,rfl,rfl,rfl,rfl,rfl,rfl,rfl⟩
set_option maxHeartbeats 8000000 in
theorem cloneId_fn (l:List (UId)) (hl:l.length≤8796093022208):Fn 211 [.d (.slice 2 (l.map encId))] (fun r=>r = .d (.slice 2 (l.map encId))):=by
 refine fnp_enter' _ Try.func211 rfl rfl (by kernel_rfl) ?_
 intro O w0 E0 β0
 have la:(l.map encId).length=l.length:=List.length_map _
 repeat' (first|refine z0 ?_|apply ds_nil|apply dw_seq2|refine z16 ?_|apply thenD_n)
 refine ds_eqnil rfl rfl rfl rfl rfl (fun h=>?_) ?_
 ·have h0:l=[]:=List.map_eq_nil_iff.1 h
  subst h0
  repeat' (first|refine z0 ?_|apply ds_nil|apply dw_seq2|refine z16 ?_|refine z18 ?_|apply thenD_n)
  refine dw_ent (ent_nild 2 2 rfl) ?_
  repeat' (first|apply dw_ret|apply thenD_r)
  exact⟨.inl rfl,_,rfl,rfl,rfl⟩
 ·repeat' (first|(apply ds_bs0;exact rfl;exact rfl;exact rfl;exact rfl;exact rfl;exact rfl;exact rfl;exact rfl)|(first|refine z0 ?_|apply ds_nil|apply dw_seq2|refine z16 ?_|apply dw_skip|refine z19 ?_|apply thenD_n|refine z2 ?_|fail))
  refine dw_ent (ent_seal 2 rfl rfl rfl) ?_
  repeat' (apply dw_ret)
  exact⟨.inl rfl,_,rfl,rfl,rfl⟩
set_option maxHeartbeats 8000000 in
theorem put1_fn (r:Rpl) (u:Upd) (hl:r.has.length≤1000000) (hs:StrU r.has) (h:u.parents.length + u.takes.length≤1000000):Fn 214 ([elUpd u]++[.pd [.ptr [.slice 5 (r.has.map encUpd),.slice 5 (r.waits.map encUpd)]]]) (fun res=>res = .d (.bool (readyU r.has u))):=by
 refine fnp_enter' _ Try.func214 rfl rfl (by kernel_rfl) ?_
 intro O w0 E0 β0
 have w:=dready_fn r.has u hl hs h
 repeat' (first|refine z0 ?_|apply ds_nil|refine z5 ?_|refine z10 ?_|apply dw_seq2|refine z16 ?_|refine z20 ?_|apply dw_ret|apply thenD_n|refine z22 ?_ (hc:=by apply w)|refine z1 ?_|fail)
 exact ret_b rfl rfl
set_option maxHeartbeats 8000000 in
theorem wown_fn (u:Upd) (h1:u.parents.length≤1000000) (h2:u.takes.length≤1000000) (h3:u.says.length≤1000000) (h4:∀ f∈u.says,f.args.length≤1000000):Fn 179 [elUpd u] (fun r=>r=elUpd u):=by
 refine fnp_enter' _ Try.func179 rfl rfl (by kernel_rfl) ?_
 intro O w0 E0 β0
 have w1:=cloneId_fn u.parents (by omega)
 have w2:=cloneId_fn u.takes (by omega)
 repeat' (first|refine z0 ?_|apply ds_nil|refine z5 ?_|refine z6 ?_|refine z7 ?_|refine z11 ?_|apply dw_seq2|refine z16 ?_|refine z20 ?_|apply dw_block|apply thenD_n|refine z22 ?_ (hc:=by apply w1)|refine z22 ?_ (hc:=by apply w2)|refine z1 ?_|fail)
 have ls:(u.says.map encFct).length=u.says.length:=List.length_map _
 refine dw_ent (ent_cellrow 11 3 89 2 rfl rfl rfl) ?_
 refine ds_loop (ι:=Nat) (fun i=>⟨3,[(2,.loc 0 0),(3,.loc 1 0),(16,.d (.slice 2 (u.says.map encFct))),(17,.d (.int .i64 (u.says.map encFct).length)),(18,.d (.int .i64 i))],
   [(0,.blk 40 [.d (.int .i64 0),.d (.int .i64 0),.nils,.nils,.nils]),(1,.blk 40 [.d (.int .i64 u.id.author),.d (.int .i64 u.id.number),.d (.slice 2 (u.parents.map encId)),.row 2,.d (.slice 2 (u.takes.map encId))]),(2,.row 89 2 ((u.says.take i).map encFct))]⟩)
  (fun i=>i≤u.says.length) (fun i=>u.says.length - i) 0 (Nat.zero_le _) (ent_ren (fun j=>match j with|0=>1|1=>11|2=>13|j=>j) ⟨rfl,rfl,rfl,rfl,rfl,trivial⟩ ⟨rfl,rfl,rfl,trivial⟩ rfl rfl rfl rfl rfl rfl) ?_
 clear w1 w2
 intro i hle
 have lt:((u.says.take i).map encFct).length=i:=by rw [List.length_map,List.length_take];omega
 by_cases hi:i < u.says.length
 ·have w:=own_fn u.says[i] (by have:=h4 _ (List.getElem_mem hi);omega)
  repeat' (first|refine z0 ?_|apply ds_nil|refine z5 ?_|refine z6 ?_|refine z9 ?_|refine z11 ?_|apply dw_seq2|refine z16 ?_|refine z20 ?_|apply dw_block|apply dw_skip|apply dw_exit|apply dw_ret|apply thenD_n|apply thenD_e|apply inB_n|refine z17 ?_|refine z22 ?_ (hc:=by apply w)|refine z1 ?_|refine z3 ?_|(refine z23 ?_ ?_ <;> intro hg)|fail)
  all_goals try (exfalso;omega)
  exact⟨i + 1,hi,ent_ren (fun j=>match j with|2=>9|j=>j) ⟨rfl,rfl,rfl,rfl,rfl,trivial⟩ ⟨rfl,rfl,by rw [List.take_succ_eq_append_getElem hi,List.map_append];rfl,trivial⟩ rfl rfl rfl rfl rfl rfl,by omega⟩
 ·have htk:u.says.take i=u.says:=List.take_of_length_le (by omega)
  rw [htk]
  repeat' (first|refine z0 ?_|apply ds_nil|refine z5 ?_|apply dw_seq2|refine z16 ?_|refine z20 ?_|apply dw_block|apply dw_skip|apply dw_exit|apply thenD_n|apply thenD_e|refine z17 ?_|refine z1 ?_|refine z3 ?_|(refine z23 ?_ ?_ <;> intro hg)|fail)
  all_goals try (exfalso;omega)
  refine dw_ent (ent_cellseal 0 3 2 rfl rfl rfl rfl rfl) ?_
  repeat' (apply dw_ret)
  exact⟨.inl rfl,_,rfl,rfl,rfl⟩
structure ShortU (u:Upd):Prop where
 parents:u.parents.length≤100000
 takes:u.takes.length≤100000
 says:u.says.length≤1000000
 args:∀ f∈u.says,f.args.length≤1000000
set_option maxHeartbeats 8000000 in
theorem downs_fn (l:List Upd) (hl:l.length≤100000) (hs:∀ u∈l,ShortU u):FnRow false Try.prog tab tab_ok 212 [.d (.slice 5 (l.map encUpd))] 40 5 (fun ys=>ys=l.map encUpd):=by
 refine fn_enterR _ Try.func212 rfl rfl (by kernel_rfl) ?_
 intro O w0 E0 β0
 have ll:(l.map encUpd).length=l.length:=List.length_map _
 repeat' (first|refine z0 ?_|apply ds_nil|apply dw_seq2|refine z16 ?_|apply dw_block|apply thenD_n)
 refine dw_ent (ent_nilrow (t:=3) 40 5 rfl) ?_
 refine ds_loop (ι:=Nat) (fun i=>⟨1,[(3,.row 0),(6,.d (.slice 5 (l.map encUpd))),(7,.d (.int .i64 (l.map encUpd).length)),(8,.d (.int .i64 i))],[(0,.row 40 5 ((l.take i).map encUpd))]⟩)
  (fun i=>i≤l.length) (fun i=>l.length - i) 0 (Nat.zero_le _) (ent_ren id ⟨rfl,rfl,rfl,rfl,trivial⟩ ⟨rfl,trivial⟩ rfl rfl rfl rfl rfl rfl) ?_
 intro i hle
 have lt:((l.take i).map encUpd).length=i:=by rw [List.length_map,List.length_take];omega
 by_cases hi:i < l.length
 ·have hu:=hs _ (List.getElem_mem hi)
  have w:=wown_fn l[i] (Nat.le_trans hu.parents (by decide)) (Nat.le_trans hu.takes (by decide)) hu.says hu.args
  repeat' (first|refine z0 ?_|apply ds_nil|apply dw_seq2|refine z16 ?_|apply dw_block|apply dw_skip|apply dw_exit|apply dw_ret|apply thenD_n|apply thenD_e|apply inB_n|refine z17 ?_|refine z21 ?_ (hc:=by apply w)|refine z1 ?_|refine z3 ?_|refine z4 ?_|refine z2 ?_|(refine z23 ?_ ?_ <;> intro hg)|fail)
  all_goals try (exfalso;omega)
  exact⟨i + 1,hi,ent_ren (fun j=>match j with|0=>2|j=>j) ⟨rfl,rfl,rfl,rfl,trivial⟩ ⟨by rw [List.take_succ_eq_append_getElem hi,List.map_append];rfl,trivial⟩ rfl rfl rfl rfl rfl rfl,by omega⟩
 ·have htk:l.take i=l:=List.take_of_length_le (by omega)
  rw [htk]
  repeat' (first|refine z0 ?_|apply ds_nil|apply dw_seq2|refine z16 ?_|apply dw_block|apply dw_skip|apply dw_exit|apply dw_ret|apply thenD_n|apply thenD_e|refine z17 ?_|refine z1 ?_|refine z3 ?_|(refine z23 ?_ ?_ <;> intro hg)|fail)
  all_goals try (exfalso;omega)
  exact⟨.inl rfl,_,rfl,id,1,.row 0,[(0,.row 40 5 (l.map encUpd))],rfl,⟨rfl,trivial⟩,rfl,rfl,rfl,rfl,rfl,rfl,_,rfl,rfl,rfl⟩
set_option maxHeartbeats 8000000 in
theorem dOwn_fn (r:Rpl) (h1:r.has.length≤100000) (h2:r.waits.length≤100000) (hs:∀ u∈r.has,ShortU u) (hw:∀ u∈r.waits,ShortU u):FnOk false Try.prog tab tab_ok 180 [elRpl r] 0 0 []
  (fun k res H=>k=2∧res = .agg [.row 0,.row 1]∧H=[(0,.row 40 5 (r.has.map encUpd)),(1,.row 40 5 (r.waits.map encUpd))]):=by
 refine fn_enterR _ Try.func180 rfl rfl (by kernel_rfl) ?_
 intro O w0 E0 β0
 have w1:=downs_fn r.has h1 hs
 have w2:=downs_fn r.waits h2 hw
 repeat' (first|apply ds_nil|refine z5 ?_|apply dw_seq2|refine z16 ?_|refine z20 ?_|apply thenD_n|refine z1 ?_|fail)
 refine dt_callW rfl rfl w1 rfl rfl rfl rfl ⟨_,rfl⟩ ?_
 rintro _ rfl
 repeat' refine z5 ?_
 refine dt_callW rfl rfl w2 rfl rfl rfl rfl ⟨_,rfl⟩ ?_
 rintro _ rfl
 repeat' (first|refine z5 ?_|refine z6 ?_|refine z11 ?_|apply dw_ret|apply thenD_n)
 exact⟨.inl rfl,_,rfl,fun j=>match j with|0=>4|1=>7|j=>j,2,.agg [.row 0,.row 1],[(0,.row 40 5 (r.has.map encUpd)),(1,.row 40 5 (r.waits.map encUpd))],rfl,⟨rfl,rfl,trivial⟩,rfl,rfl,rfl,rfl,rfl,rfl,rfl,rfl,rfl⟩
end Go.Proofs.Ytapciiffpnociaa
namespace Go.Proofs.Ytapciiffpnociaa
open Go Go.RowKit
abbrev putH (r:Rpl):Hp:=[(0,.blk 73 [.row 1,.row 2]),(1,.row 40 5 (r.has.map encUpd)),(2,.row 40 5 (r.waits.map encUpd))]
theorem FnTr.of {dr:Bool} {P:Program} {τ:List (Nat × TI)} {τok:TabOk P τ} {f:FuncId} {args:List SV} {te0 te:TypeId} {es0 es:Nat} {xs ys:List (List D)} (h:FnOk dr P τ τok f args 1 1 [(0,.row te0 es0 xs)] (fun k r H=>k=2∧r = .row 1∧H=[(1,.row te es ys)])) :
  FnTr dr P τ τok f args te0 es0 xs te es (fun zs=>zs=ys):=by
 unfold FnTr
 refine⟨h.1,fun O e w vs hH hr=>(h.2 O e w vs hH hr).mono ?_⟩
 rintro en w' ⟨k',r,H',e',v,⟨_,h2,h3⟩,h4⟩
 exact⟨k',r,H',e',v,⟨ys,rfl,h2,h3⟩,h4⟩
theorem idxF_or {α:Type} (p:α→Bool) (l:List α):(idxF p l = -1∧∀ x∈l,p x=false)∨∃ (i:Nat) (hi:i < l.length),idxF p l=i∧p (l[i]'hi)=true:=by
 cases h:l.findIdx? p with
 | none=>exact .inl ⟨by unfold idxF;rw [h],by simpa using List.findIdx?_eq_none_iff.1 h⟩
 | some i =>
  obtain⟨hi,hp,_⟩:=List.findIdx?_eq_some_iff_getElem.1 h
  exact .inr ⟨i,hi,by unfold idxF;rw [h],hp⟩
theorem erase_filter {l:List Upd} (hs:StrU l) {i:Nat} (hi:i < l.length):l.eraseIdx i=l.filter fun v=>!(v.id.same (l[i]'hi).id):=by
 have hn:∀ j (hj:j < l.length),j≠i→(!((l[j]'hj).id.same (l[i]'hi).id))=true:=fun j hj hne=>by
  rw [Bool.not_eq_true',← Bool.not_eq_true,same_iff]
  intro he
  have h1:=hs.uniq (List.getElem_mem hj) (List.getElem_mem hi) he
  exact hne ((List.getElem_inj hs.nodup).1 h1)
 have e:l=l.take i++l[i]'hi::l.drop (i + 1):=by rw [← List.drop_eq_getElem_cons hi,List.take_append_drop]
 have e1:(l.take i).filter (fun v=>!(v.id.same (l[i]'hi).id))=l.take i:=List.filter_eq_self.2 fun v hv=>by
  obtain⟨j,hj,rfl⟩:=List.mem_iff_getElem.1 hv
  rw [List.length_take] at hj
  rw [List.getElem_take]
  exact hn j (by omega) (by omega)
 have e2:(l.drop (i + 1)).filter (fun v=>!(v.id.same (l[i]'hi).id))=l.drop (i + 1):=List.filter_eq_self.2 fun v hv=>by
  obtain⟨j,hj,rfl⟩:=List.mem_iff_getElem.1 hv
  rw [List.length_drop] at hj
  rw [List.getElem_drop]
  exact hn _ (by omega) (by omega)
 have e3:(!((l[i]'hi).id.same (l[i]'hi).id))=false:=by rw [Bool.not_eq_false',same_iff]
 have key:∀ f:Upd→Bool,(l.take i).filter f=l.take i→(l.drop (i + 1)).filter f=l.drop (i + 1)→f (l[i]'hi)=false→l.filter f=l.take i++l.drop (i + 1):=fun f f1 f2 f3=>by
  have h:=congrArg (List.filter f) e
  rw [List.filter_append,List.filter_cons,f3,if_neg (by simp),f1,f2] at h
  exact h
 rw [List.eraseIdx_eq_take_drop_succ]
 exact (key _ e1 e2 e3).symm
attribute [local irreducible] DW DS DL DQ Ev FnOk FnP thenD inBlockD DT
set_option maxHeartbeats 8000000 in
theorem put2_fn (r:Rpl) (u:Upd) (hok:RplOk r.both r) (h1:r.has.length≤100000) (h2:r.waits.length≤100000) (hu:ShortU u) (hr:∀ u∈r.has,ShortU u) (hw:∀ u∈r.waits,ShortU u) :
  FnOk false Try.prog tab tab_ok 181 [.loc 0 0,elUpd u] 1 3 (putH r) (fun k res H=>k=3∧(
   ((hasU r.has u.id=true∨hasU r.waits u.id=true)∧res = .d (.bool true)∧H=putH r) ∨
   (hasU r.has u.id=false∧hasU r.waits u.id=false∧200≤r.has.length + r.waits.length∧res = .d (.bool false)∧H=putH r) ∨
   (hasU r.has u.id=false∧hasU r.waits u.id=false∧r.has.length + r.waits.length < 200∧∃ r2:Rpl,RplOk (u::r.both) r2∧res = .d (.bool true)∧H=putH r2))):=by
 have sh:=hok.sh
 have sw:=hok.sw
 refine fn_enterR _ Try.func181 rfl rfl (by kernel_rfl) ?_
 intro O w0 E0 β0
 have w1:FnOk false Try.prog tab tab_ok 173 [.row 0,elId u.id] 1 1 [(0,.row 40 5 (r.has.map encUpd))] (fun _ res H2=>res = .d (.bool (hasU r.has u.id))∧H2=[(0,.row 40 5 (r.has.map encUpd))]) :=
  FnP.shownR (dhas_fn r.has u.id (by omega) sh) rfl rfl (by rintro _ rfl;rfl)
 repeat' (first|refine z0 ?_|apply ds_nil|refine z5 ?_|apply dw_seq2|refine z16 ?_|refine z20 ?_|apply thenD_n|refine z1 ?_|fail)
 refine dt_callR (fun j=>match j with|0=>1|j=>j) w1 (by rintro _ rfl;exact⟨rfl,rfl⟩) ⟨_,rfl⟩ rfl rfl rfl rfl ⟨rfl,trivial⟩ rfl rfl rfl rfl rfl rfl rfl rfl rfl ?_
 rintro _ rfl
 have w2:FnOk false Try.prog tab tab_ok 173 [.row 0,elId u.id] 1 1 [(0,.row 40 5 (r.waits.map encUpd))] (fun _ res H2=>res = .d (.bool (hasU r.waits u.id))∧H2=[(0,.row 40 5 (r.waits.map encUpd))]) :=
  FnP.shownR (dhas_fn r.waits u.id (by omega) sw) rfl rfl (by rintro _ rfl;rfl)
 have hty:=hasU_app r.has r.waits u.id
 cases hb1:hasU r.has u.id with
 | true =>
  repeat' (first|refine z0 ?_|apply ds_nil|refine z5 ?_|refine z14 ?_|refine z10 ?_|apply dw_seq2|refine z16 ?_|apply dw_ret|refine z18 ?_|apply thenD_n|apply thenD_r)
  exact⟨.inl rfl,_,rfl,id,3,.d (.bool true),putH r,rfl,⟨rfl,rfl,rfl,trivial⟩,rfl,rfl,rfl,rfl,rfl,rfl,rfl,.inl ⟨Or.inl rfl,rfl,rfl⟩⟩
 | false =>
  repeat' refine z5 ?_
  refine dt_callR (fun j=>match j with|0=>2|j=>j) w2 (by rintro _ rfl;exact⟨rfl,rfl⟩) ⟨_,rfl⟩ rfl rfl rfl rfl ⟨rfl,trivial⟩ rfl rfl rfl rfl rfl rfl rfl rfl rfl ?_
  rintro _ rfl
  cases hb2:hasU r.waits u.id with
  | true =>
   repeat' (first|refine z0 ?_|apply ds_nil|refine z5 ?_|refine z10 ?_|apply dw_seq2|refine z16 ?_|apply dw_ret|refine z18 ?_|apply thenD_n|apply thenD_r)
   exact⟨.inl rfl,_,rfl,id,3,.d (.bool true),putH r,rfl,⟨rfl,rfl,rfl,trivial⟩,rfl,rfl,rfl,rfl,rfl,rfl,rfl,.inl ⟨Or.inr rfl,rfl,rfl⟩⟩
  | false =>
   have lh:(r.has.map encUpd).length=r.has.length:=List.length_map _
   have lw:(r.waits.map encUpd).length=r.waits.length:=List.length_map _
   by_cases hf:200≤r.has.length + r.waits.length
   ·repeat' (first|refine z0 ?_|apply ds_nil|refine z5 ?_|refine z10 ?_|apply dw_seq2|refine z16 ?_|refine z20 ?_|apply dw_skip|apply dw_ret|refine z19 ?_|apply thenD_n|apply thenD_r|(refine z23 ?_ ?_ <;> intro hg)|fail)
    all_goals try (exfalso;omega)
    exact⟨.inl rfl,_,rfl,id,3,.d (.bool false),putH r,rfl,⟨rfl,rfl,rfl,trivial⟩,rfl,rfl,rfl,rfl,rfl,rfl,rfl,.inr (.inl ⟨rfl,rfl,hf,rfl,rfl⟩)⟩
   ·have wo:=wown_fn u (Nat.le_trans hu.parents (by decide)) (Nat.le_trans hu.takes (by decide)) hu.says hu.args
    repeat' (first|refine z0 ?_|apply ds_nil|refine z5 ?_|refine z10 ?_|apply dw_seq2|refine z16 ?_|refine z20 ?_|apply dw_skip|refine z19 ?_|apply thenD_n|refine z22 ?_ (hc:=by apply wo)|(refine z23 ?_ ?_ <;> intro hg)|fail)
    all_goals try (exfalso;omega)
    have wp:=FnTr.of (dput_fn r.waits u h2 sw hb2)
    refine dt_callT 2 wp rfl rfl rfl rfl rfl rfl rfl ⟨_,rfl⟩ rfl rfl ?_
    rintro _ rfl
    repeat' (first|refine z5 ?_|refine z6 ?_|refine z11 ?_|apply dw_block|apply thenD_n)
    refine ds_loop (ι:=Rpl) (fun x=>⟨4,[(2,.loc 3 0)],[(0,.blk 73 [.row 1,.row 2]),(1,.row 40 5 (x.has.map encUpd)),(2,.row 40 5 (x.waits.map encUpd)),(3,.blk 204 [.loc 0 0])]⟩)
     (fun x=>RplGo (u::r.both) x∧x.has.length + x.waits.length=r.has.length + r.waits.length + 1) (fun x=>x.waits.length) ⟨r.has,insU r.waits u⟩ ⟨hok.more hb1 hb2,by dsimp only;rw [insU_len];omega⟩ (ent_ren (fun j=>match j with|2=>12|j=>j) ⟨rfl,trivial⟩ ⟨rfl,rfl,rfl,rfl,trivial⟩ rfl rfl rfl rfl rfl rfl) ?_
    clear w1 w2 wo wp
    rintro x ⟨hx,hcnt⟩
    have hshort:∀ v,v∈x.has∨v∈x.waits→ShortU v:=fun v hv=>by
     rcases List.mem_cons.1 ((hx.all v).2 hv) with rfl|h
     ·exact hu
     ·rcases List.mem_append.1 h with h|h
      ·exact hr _ h
      ·exact hw _ h
    have lxh:(x.has.map encUpd).length=x.has.length:=List.length_map _
    have lxw:(x.waits.map encUpd).length=x.waits.length:=List.length_map _
    have wi:=indexU_fn (caps:=[.pd [.ptr [.slice 5 (x.has.map encUpd),.slice 5 (x.waits.map encUpd)]]]) (fun v=>readyU x.has v) x.waits rfl (fun v hv=>put1_fn x v (by omega) hx.sh (by have h:=hshort v (.inr hv);have:=h.parents;have:=h.takes;omega))
    repeat' (first|refine z0 ?_|apply dw_seq2|refine z16 ?_|apply dw_block)
    refine ds_callP wi rfl (by rintro _ rfl;rfl) rfl rfl rfl rfl ?_
    rintro _ rfl
    rcases idxF_or (fun v=>readyU x.has v) x.waits with ⟨hn,hall⟩|⟨i,hi,hn,hri⟩
    ·rw [hn]
     repeat' (first|refine z0 ?_|apply ds_nil|apply dw_seq2|refine z16 ?_|apply dw_ret|refine z18 ?_|apply thenD_n|apply thenD_r|apply inB_r)
     all_goals try (exfalso;omega)
     exact⟨.inl rfl,_,rfl,id,3,.d (.bool true),putH x,rfl,⟨rfl,rfl,rfl,trivial⟩,rfl,rfl,rfl,rfl,rfl,rfl,rfl,.inr (.inr ⟨rfl,rfl,by omega,x,hx.done hall,rfl,rfl⟩)⟩
    ·rw [hn]
     have hnh:hasU x.has (x.waits[i]'hi).id=false:=by
      cases hb:hasU x.has (x.waits[i]'hi).id with
      | false=>rfl
      | true =>
       obtain⟨v,hv,he⟩:=hasU_iff.1 hb
       exact absurd he (hx.apart v hv _ (List.getElem_mem hi))
     have wd:=FnTr.of (deleteU_fn x.waits i hi (by omega))
     have wp:=FnTr.of (dput_fn x.has (x.waits[i]'hi) (by omega) hx.sh hnh)
     clear wi
     repeat' (first|refine z0 ?_|apply ds_nil|refine z5 ?_|apply dw_seq2|refine z16 ?_|refine z20 ?_|apply dw_skip|refine z19 ?_|apply thenD_n|refine z1 ?_|refine z3 ?_|fail)
     all_goals try (exfalso;omega)
     refine dt_callT 2 wd rfl rfl rfl rfl rfl rfl rfl ⟨_,rfl⟩ rfl rfl ?_
     rintro _ rfl
     repeat' (first|refine z5 ?_|refine z6 ?_|refine z11 ?_|refine z20 ?_|apply thenD_n)
     all_goals try (exfalso;omega)
     refine dt_callT 1 wp rfl rfl rfl rfl rfl rfl rfl ⟨_,rfl⟩ rfl rfl ?_
     rintro _ rfl
     repeat' (first|refine z5 ?_|refine z6 ?_|refine z11 ?_|apply thenD_n|apply inB_n)
     all_goals try (exfalso;omega)
     have hgo:=hx.move (List.getElem_mem hi) hri
     rw [← erase_filter hx.sw hi] at hgo
     exact⟨⟨insU x.has (x.waits[i]'hi),x.waits.eraseIdx i⟩,⟨hgo,by dsimp only;rw [insU_len,List.length_eraseIdx_of_lt hi];omega⟩,ent_ren (fun j=>match j with|1=>23|2=>13|j=>j) ⟨rfl,trivial⟩ ⟨rfl,rfl,rfl,rfl,trivial⟩ rfl rfl rfl rfl rfl rfl,by dsimp only;rw [List.length_eraseIdx_of_lt hi];omega⟩
theorem short_of {u:Upd} (h:checkU u=0):ShortU u:=by
 have g:=checkU_good h
 refine⟨by have:=g.np;omega,by have:=g.nt;omega,by have:=g.ns;omega,fun f hf=>?_⟩
 have h1:=List.all_eq_true.1 g.says f hf
 unfold saysB at h1
 simp only [Bool.and_eq_true,decide_eq_true_eq] at h1
 omega
theorem checkR_ok {r:Rpl} (h:checkR r=0):r.has.length + r.waits.length≤200∧(∀ u∈r.both,checkU u=0)∧RplOk r.both r:=by
 unfold checkR at h
 split at h
 ·cases h
 rename_i h1
 split at h
 ·rename_i h2;exact absurd h h2
 rename_i h2
 split at h
 ·cases h
 rename_i h3
 split at h
 ·cases h
 rename_i h4
 split at h
 ·cases h
 rename_i h5
 simp only [not_or,Bool.not_eq_false,Bool.not_eq_true] at h3 h4 h5
 have hc:=firstL_none (Decidable.not_not.1 h2)
 have sh:=rises_str h3.1
 have sw:=rises_str h3.2.1
 have hready:∀ u∈r.has,readyU r.has u=true:=fun u hu=>by
  have:=List.any_eq_false.1 h4 u hu
  simpa using this
 have hnr:∀ u∈r.has,¬ Reach r.has (underU u) u.id:=fun u hu hre=>by
  have:=List.any_eq_false.1 h5.1 u hu
  exact this ((behM_iff sh (underU u) u.id).2 hre)
 refine⟨by omega,hc,RplGo.done ⟨sh,sw,fun u=>List.mem_append,fun u hu v hv he=>?_,fun u hu=>(no_round_der hready hnr u hu).mono fun v hv=>List.mem_append_left _ hv⟩ fun u hu=>?_⟩
 ·have:=List.any_eq_false.1 h3.2.2 v hv
  exact this (hasU_iff.2 ⟨u,hu,he⟩)
 ·have:=List.any_eq_false.1 h5.2 u hu
  simpa using this
end Go.Proofs.Ytapciiffpnociaa
