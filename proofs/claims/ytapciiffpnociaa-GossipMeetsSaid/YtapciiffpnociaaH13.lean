/- Several texts in one: DagG DagH DagI GxInc DagJ DagK DagL WirD WirF WirG WirH WirJ WirI WirK WirL WirM. Condition: none. -/
import Derived.Test.YtapciiffpnociaaH12
import Derived.Test.YtapciiffpnociaaH09
import Derived.Test.YtapciiffpnociaaH06
import Derived.Test.YtapciiffpnociaaH10
import Derived.Test.YtapciiffpnociaaH11
namespace Go.Proofs.Ytapciiffpnociaa
open Go Go.RowKit
attribute [local irreducible] DW DS DL DQ Ev FnOk FnP thenD inBlockD DT
set_option maxHeartbeats 8000000 in
theorem cloneId_fn (l:List (UId)) (hl:l.length≤8796093022208):Fn 211 [.d (.slice 2 (l.map encId))] (fun r=>r = .d (.slice 2 (l.map encId))):=by
 refine fnp_enter' _ Try.func211 rfl rfl (by kernel_rfl) ?_
 intro O w0 E0 β0
 have la:(l.map encId).length=l.length:=List.length_map _
 repeat' (first|refine z0 ?_|apply ds_nil|apply dw_seq2|refine z16 ?_|apply thenD_n)
 refine ds_eqnil rfl rfl rfl rfl rfl (fun h=>?_) ?_
 ·have h0:l=[]:=List.map_eq_nil_iff.1 h
  subst h0
  repeat' (first|refine z0 ?_|apply ds_nil|apply dw_seq2|refine z16 ?_|refine z18 ?_|apply thenD_n)
  refine dw_ent (ent_nild 2 2 rfl) ?_
  repeat' (first|apply dw_ret|apply thenD_r)
  exact⟨.inl rfl,_,rfl,rfl,rfl⟩
 ·repeat' (first|(apply ds_bs0;exact rfl;exact rfl;exact rfl;exact rfl;exact rfl;exact rfl;exact rfl;exact rfl)|(first|refine z0 ?_|apply ds_nil|apply dw_seq2|refine z16 ?_|apply dw_skip|refine z19 ?_|apply thenD_n|refine z2 ?_|fail))
  refine dw_ent (ent_seal 2 rfl rfl rfl) ?_
  repeat' (apply dw_ret)
  exact⟨.inl rfl,_,rfl,rfl,rfl⟩
set_option maxHeartbeats 8000000 in
theorem put1_fn (r:Rpl) (u:Upd) (hl:r.has.length≤1000000) (hs:StrU r.has) (h:u.parents.length + u.takes.length≤1000000):Fn 214 ([elUpd u]++[.pd [.ptr [.slice 5 (r.has.map encUpd),.slice 5 (r.waits.map encUpd)]]]) (fun res=>res = .d (.bool (readyU r.has u))):=by
 refine fnp_enter' _ Try.func214 rfl rfl (by kernel_rfl) ?_
 intro O w0 E0 β0
 have w:=dready_fn r.has u hl hs h
 repeat' (first|refine z0 ?_|apply ds_nil|refine z5 ?_|refine z10 ?_|apply dw_seq2|refine z16 ?_|refine z20 ?_|apply dw_ret|apply thenD_n|refine z22 ?_ (hc:=by apply w)|refine z1 ?_|fail)
 exact ret_b rfl rfl
set_option maxHeartbeats 8000000 in
theorem wown_fn (u:Upd) (h1:u.parents.length≤1000000) (h2:u.takes.length≤1000000) (h3:u.says.length≤1000000) (h4:∀ f∈u.says,f.args.length≤1000000):Fn 179 [elUpd u] (fun r=>r=elUpd u):=by
 refine fnp_enter' _ Try.func179 rfl rfl (by kernel_rfl) ?_
 intro O w0 E0 β0
 have w1:=cloneId_fn u.parents (by omega)
 have w2:=cloneId_fn u.takes (by omega)
 repeat' (first|refine z0 ?_|apply ds_nil|refine z5 ?_|refine z6 ?_|refine z7 ?_|refine z11 ?_|apply dw_seq2|refine z16 ?_|refine z20 ?_|apply dw_block|apply thenD_n|refine z22 ?_ (hc:=by apply w1)|refine z22 ?_ (hc:=by apply w2)|refine z1 ?_|fail)
 have ls:(u.says.map encFct).length=u.says.length:=List.length_map _
 refine dw_ent (ent_cellrow 11 3 89 2 rfl rfl rfl) ?_
 refine ds_loop (ι:=Nat) (fun i=>⟨3,[(2,.loc 0 0),(3,.loc 1 0),(16,.d (.slice 2 (u.says.map encFct))),(17,.d (.int .i64 (u.says.map encFct).length)),(18,.d (.int .i64 i))],
   [(0,.blk 40 [.d (.int .i64 0),.d (.int .i64 0),.nils,.nils,.nils]),(1,.blk 40 [.d (.int .i64 u.id.author),.d (.int .i64 u.id.number),.d (.slice 2 (u.parents.map encId)),.row 2,.d (.slice 2 (u.takes.map encId))]),(2,.row 89 2 ((u.says.take i).map encFct))]⟩)
  (fun i=>i≤u.says.length) (fun i=>u.says.length - i) 0 (Nat.zero_le _) (ent_ren (fun j=>match j with|0=>1|1=>11|2=>13|j=>j) ⟨rfl,rfl,rfl,rfl,rfl,trivial⟩ ⟨rfl,rfl,rfl,trivial⟩ rfl rfl rfl rfl rfl rfl) ?_
 clear w1 w2
 intro i hle
 have lt:((u.says.take i).map encFct).length=i:=by rw [List.length_map,List.length_take];omega
 by_cases hi:i < u.says.length
 ·have w:=own_fn u.says[i] (by have:=h4 _ (List.getElem_mem hi);omega)
  repeat' (first|refine z0 ?_|apply ds_nil|refine z5 ?_|refine z6 ?_|refine z9 ?_|refine z11 ?_|apply dw_seq2|refine z16 ?_|refine z20 ?_|apply dw_block|apply dw_skip|apply dw_exit|apply dw_ret|apply thenD_n|apply thenD_e|apply inB_n|refine z17 ?_|refine z22 ?_ (hc:=by apply w)|refine z1 ?_|refine z3 ?_|(refine z23 ?_ ?_ <;> intro hg)|fail)
  all_goals try (exfalso;omega)
  exact⟨i + 1,hi,ent_ren (fun j=>match j with|2=>9|j=>j) ⟨rfl,rfl,rfl,rfl,rfl,trivial⟩ ⟨rfl,rfl,by rw [List.take_succ_eq_append_getElem hi,List.map_append];rfl,trivial⟩ rfl rfl rfl rfl rfl rfl,by omega⟩
 ·have htk:u.says.take i=u.says:=List.take_of_length_le (by omega)
  rw [htk]
  repeat' (first|refine z0 ?_|apply ds_nil|refine z5 ?_|apply dw_seq2|refine z16 ?_|refine z20 ?_|apply dw_block|apply dw_skip|apply dw_exit|apply thenD_n|apply thenD_e|refine z17 ?_|refine z1 ?_|refine z3 ?_|(refine z23 ?_ ?_ <;> intro hg)|fail)
  all_goals try (exfalso;omega)
  refine dw_ent (ent_cellseal 0 3 2 rfl rfl rfl rfl rfl) ?_
  repeat' (apply dw_ret)
  exact⟨.inl rfl,_,rfl,rfl,rfl⟩
structure ShortU (u:Upd):Prop where
 parents:u.parents.length≤100000
 takes:u.takes.length≤100000
 says:u.says.length≤1000000
 args:∀ f∈u.says,f.args.length≤1000000
set_option maxHeartbeats 8000000 in
theorem downs_fn (l:List Upd) (hl:l.length≤100000) (hs:∀ u∈l,ShortU u):FnRow false Try.prog tab tab_ok 212 [.d (.slice 5 (l.map encUpd))] 40 5 (fun ys=>ys=l.map encUpd):=by
 refine fn_enterR _ Try.func212 rfl rfl (by kernel_rfl) ?_
 intro O w0 E0 β0
 have ll:(l.map encUpd).length=l.length:=List.length_map _
 repeat' (first|refine z0 ?_|apply ds_nil|apply dw_seq2|refine z16 ?_|apply dw_block|apply thenD_n)
 refine dw_ent (ent_nilrow (t:=3) 40 5 rfl) ?_
 refine ds_loop (ι:=Nat) (fun i=>⟨1,[(3,.row 0),(6,.d (.slice 5 (l.map encUpd))),(7,.d (.int .i64 (l.map encUpd).length)),(8,.d (.int .i64 i))],[(0,.row 40 5 ((l.take i).map encUpd))]⟩)
  (fun i=>i≤l.length) (fun i=>l.length - i) 0 (Nat.zero_le _) (ent_ren id ⟨rfl,rfl,rfl,rfl,trivial⟩ ⟨rfl,trivial⟩ rfl rfl rfl rfl rfl rfl) ?_
 intro i hle
 have lt:((l.take i).map encUpd).length=i:=by rw [List.length_map,List.length_take];omega
 by_cases hi:i < l.length
 ·have hu:=hs _ (List.getElem_mem hi)
  have w:=wown_fn l[i] (Nat.le_trans hu.parents (by decide)) (Nat.le_trans hu.takes (by decide)) hu.says hu.args
  repeat' (first|refine z0 ?_|apply ds_nil|apply dw_seq2|refine z16 ?_|apply dw_block|apply dw_skip|apply dw_exit|apply dw_ret|apply thenD_n|apply thenD_e|apply inB_n|refine z17 ?_|refine z21 ?_ (hc:=by apply w)|refine z1 ?_|refine z3 ?_|refine z4 ?_|refine z2 ?_|(refine z23 ?_ ?_ <;> intro hg)|fail)
  all_goals try (exfalso;omega)
  exact⟨i + 1,hi,ent_ren (fun j=>match j with|0=>2|j=>j) ⟨rfl,rfl,rfl,rfl,trivial⟩ ⟨by rw [List.take_succ_eq_append_getElem hi,List.map_append];rfl,trivial⟩ rfl rfl rfl rfl rfl rfl,by omega⟩
 ·have htk:l.take i=l:=List.take_of_length_le (by omega)
  rw [htk]
  repeat' (first|refine z0 ?_|apply ds_nil|apply dw_seq2|refine z16 ?_|apply dw_block|apply dw_skip|apply dw_exit|apply dw_ret|apply thenD_n|apply thenD_e|refine z17 ?_|refine z1 ?_|refine z3 ?_|(refine z23 ?_ ?_ <;> intro hg)|fail)
  all_goals try (exfalso;omega)
  exact⟨.inl rfl,_,rfl,id,1,.row 0,[(0,.row 40 5 (l.map encUpd))],rfl,⟨rfl,trivial⟩,rfl,rfl,rfl,rfl,rfl,rfl,_,rfl,rfl,rfl⟩
set_option maxHeartbeats 8000000 in
theorem dOwn_fn (r:Rpl) (h1:r.has.length≤100000) (h2:r.waits.length≤100000) (hs:∀ u∈r.has,ShortU u) (hw:∀ u∈r.waits,ShortU u):FnOk false Try.prog tab tab_ok 180 [elRpl r] 0 0 []
  (fun k res H=>k=2∧res = .agg [.row 0,.row 1]∧H=[(0,.row 40 5 (r.has.map encUpd)),(1,.row 40 5 (r.waits.map encUpd))]):=by
 refine fn_enterR _ Try.func180 rfl rfl (by kernel_rfl) ?_
 intro O w0 E0 β0
 have w1:=downs_fn r.has h1 hs
 have w2:=downs_fn r.waits h2 hw
 repeat' (first|apply ds_nil|refine z5 ?_|apply dw_seq2|refine z16 ?_|refine z20 ?_|apply thenD_n|refine z1 ?_|fail)
 refine dt_callW rfl rfl w1 rfl rfl rfl rfl ⟨_,rfl⟩ ?_
 rintro _ rfl
 repeat' refine z5 ?_
 refine dt_callW rfl rfl w2 rfl rfl rfl rfl ⟨_,rfl⟩ ?_
 rintro _ rfl
 repeat' (first|refine z5 ?_|refine z6 ?_|refine z11 ?_|apply dw_ret|apply thenD_n)
 exact⟨.inl rfl,_,rfl,fun j=>match j with|0=>4|1=>7|j=>j,2,.agg [.row 0,.row 1],[(0,.row 40 5 (r.has.map encUpd)),(1,.row 40 5 (r.waits.map encUpd))],rfl,⟨rfl,rfl,trivial⟩,rfl,rfl,rfl,rfl,rfl,rfl,rfl,rfl,rfl⟩
end Go.Proofs.Ytapciiffpnociaa
namespace Go.Proofs.Ytapciiffpnociaa
open Go Go.RowKit
abbrev putH (r:Rpl):Hp:=[(0,.blk 73 [.row 1,.row 2]),(1,.row 40 5 (r.has.map encUpd)),(2,.row 40 5 (r.waits.map encUpd))]
theorem FnTr.of {dr:Bool} {P:Program} {τ:List (Nat × TI)} {τok:TabOk P τ} {f:FuncId} {args:List SV} {te0 te:TypeId} {es0 es:Nat} {xs ys:List (List D)} (h:FnOk dr P τ τok f args 1 1 [(0,.row te0 es0 xs)] (fun k r H=>k=2∧r = .row 1∧H=[(1,.row te es ys)])) :
  FnTr dr P τ τok f args te0 es0 xs te es (fun zs=>zs=ys):=by
 unfold FnTr
 refine⟨h.1,fun O e w vs hH hr=>(h.2 O e w vs hH hr).mono ?_⟩
 rintro en w' ⟨k',r,H',e',v,⟨_,h2,h3⟩,h4⟩
 exact⟨k',r,H',e',v,⟨ys,rfl,h2,h3⟩,h4⟩
theorem idxF_or {α:Type} (p:α→Bool) (l:List α):(idxF p l = -1∧∀ x∈l,p x=false)∨∃ (i:Nat) (hi:i < l.length),idxF p l=i∧p (l[i]'hi)=true:=by
 cases h:l.findIdx? p with
 | none=>exact .inl ⟨by unfold idxF;rw [h],by simpa using List.findIdx?_eq_none_iff.1 h⟩
 | some i =>
  obtain⟨hi,hp,_⟩:=List.findIdx?_eq_some_iff_getElem.1 h
  exact .inr ⟨i,hi,by unfold idxF;rw [h],hp⟩
theorem erase_filter {l:List Upd} (hs:StrU l) {i:Nat} (hi:i < l.length):l.eraseIdx i=l.filter fun v=>!(v.id.same (l[i]'hi).id):=by
 have hn:∀ j (hj:j < l.length),j≠i→(!((l[j]'hj).id.same (l[i]'hi).id))=true:=fun j hj hne=>by
  rw [Bool.not_eq_true',← Bool.not_eq_true,same_iff]
  intro he
  have h1:=hs.uniq (List.getElem_mem hj) (List.getElem_mem hi) he
  exact hne ((List.getElem_inj hs.nodup).1 h1)
 have e:l=l.take i++l[i]'hi::l.drop (i + 1):=by rw [← List.drop_eq_getElem_cons hi,List.take_append_drop]
 have e1:(l.take i).filter (fun v=>!(v.id.same (l[i]'hi).id))=l.take i:=List.filter_eq_self.2 fun v hv=>by
  obtain⟨j,hj,rfl⟩:=List.mem_iff_getElem.1 hv
  rw [List.length_take] at hj
  rw [List.getElem_take]
  exact hn j (by omega) (by omega)
 have e2:(l.drop (i + 1)).filter (fun v=>!(v.id.same (l[i]'hi).id))=l.drop (i + 1):=List.filter_eq_self.2 fun v hv=>by
  obtain⟨j,hj,rfl⟩:=List.mem_iff_getElem.1 hv
  rw [List.length_drop] at hj
  rw [List.getElem_drop]
  exact hn _ (by omega) (by omega)
 have e3:(!((l[i]'hi).id.same (l[i]'hi).id))=false:=by rw [Bool.not_eq_false',same_iff]
 have key:∀ f:Upd→Bool,(l.take i).filter f=l.take i→(l.drop (i + 1)).filter f=l.drop (i + 1)→f (l[i]'hi)=false→l.filter f=l.take i++l.drop (i + 1):=fun f f1 f2 f3=>by
  have h:=congrArg (List.filter f) e
  rw [List.filter_append,List.filter_cons,f3,if_neg (by simp),f1,f2] at h
  exact h
 rw [List.eraseIdx_eq_take_drop_succ]
 exact (key _ e1 e2 e3).symm
attribute [local irreducible] DW DS DL DQ Ev FnOk FnP thenD inBlockD DT
set_option maxHeartbeats 8000000 in
theorem put2_fn (r:Rpl) (u:Upd) (hok:RplOk r.both r) (h1:r.has.length≤100000) (h2:r.waits.length≤100000) (hu:ShortU u) (hr:∀ u∈r.has,ShortU u) (hw:∀ u∈r.waits,ShortU u) :
  FnOk false Try.prog tab tab_ok 181 [.loc 0 0,elUpd u] 1 3 (putH r) (fun k res H=>k=3∧(
   ((hasU r.has u.id=true∨hasU r.waits u.id=true)∧res = .d (.bool true)∧H=putH r) ∨
   (hasU r.has u.id=false∧hasU r.waits u.id=false∧200≤r.has.length + r.waits.length∧res = .d (.bool false)∧H=putH r) ∨
   (hasU r.has u.id=false∧hasU r.waits u.id=false∧r.has.length + r.waits.length < 200∧∃ r2:Rpl,RplOk (u::r.both) r2∧res = .d (.bool true)∧H=putH r2))):=by
 have sh:=hok.sh
 have sw:=hok.sw
 refine fn_enterR _ Try.func181 rfl rfl (by kernel_rfl) ?_
 intro O w0 E0 β0
 have w1:FnOk false Try.prog tab tab_ok 173 [.row 0,elId u.id] 1 1 [(0,.row 40 5 (r.has.map encUpd))] (fun _ res H2=>res = .d (.bool (hasU r.has u.id))∧H2=[(0,.row 40 5 (r.has.map encUpd))]) :=
  FnP.shownR (dhas_fn r.has u.id (by omega) sh) rfl rfl (by rintro _ rfl;rfl)
 repeat' (first|refine z0 ?_|apply ds_nil|refine z5 ?_|apply dw_seq2|refine z16 ?_|refine z20 ?_|apply thenD_n|refine z1 ?_|fail)
 refine dt_callR (fun j=>match j with|0=>1|j=>j) w1 (by rintro _ rfl;exact⟨rfl,rfl⟩) ⟨_,rfl⟩ rfl rfl rfl rfl ⟨rfl,trivial⟩ rfl rfl rfl rfl rfl rfl rfl rfl rfl ?_
 rintro _ rfl
 have w2:FnOk false Try.prog tab tab_ok 173 [.row 0,elId u.id] 1 1 [(0,.row 40 5 (r.waits.map encUpd))] (fun _ res H2=>res = .d (.bool (hasU r.waits u.id))∧H2=[(0,.row 40 5 (r.waits.map encUpd))]) :=
  FnP.shownR (dhas_fn r.waits u.id (by omega) sw) rfl rfl (by rintro _ rfl;rfl)
 have hty:=hasU_app r.has r.waits u.id
 cases hb1:hasU r.has u.id with
 | true =>
  repeat' (first|refine z0 ?_|apply ds_nil|refine z5 ?_|refine z14 ?_|refine z10 ?_|apply dw_seq2|refine z16 ?_|apply dw_ret|refine z18 ?_|apply thenD_n|apply thenD_r)
  exact⟨.inl rfl,_,rfl,id,3,.d (.bool true),putH r,rfl,⟨rfl,rfl,rfl,trivial⟩,rfl,rfl,rfl,rfl,rfl,rfl,rfl,.inl ⟨Or.inl rfl,rfl,rfl⟩⟩
 | false =>
  repeat' refine z5 ?_
  refine dt_callR (fun j=>match j with|0=>2|j=>j) w2 (by rintro _ rfl;exact⟨rfl,rfl⟩) ⟨_,rfl⟩ rfl rfl rfl rfl ⟨rfl,trivial⟩ rfl rfl rfl rfl rfl rfl rfl rfl rfl ?_
  rintro _ rfl
  cases hb2:hasU r.waits u.id with
  | true =>
   repeat' (first|refine z0 ?_|apply ds_nil|refine z5 ?_|refine z10 ?_|apply dw_seq2|refine z16 ?_|apply dw_ret|refine z18 ?_|apply thenD_n|apply thenD_r)
   exact⟨.inl rfl,_,rfl,id,3,.d (.bool true),putH r,rfl,⟨rfl,rfl,rfl,trivial⟩,rfl,rfl,rfl,rfl,rfl,rfl,rfl,.inl ⟨Or.inr rfl,rfl,rfl⟩⟩
  | false =>
   have lh:(r.has.map encUpd).length=r.has.length:=List.length_map _
   have lw:(r.waits.map encUpd).length=r.waits.length:=List.length_map _
   by_cases hf:200≤r.has.length + r.waits.length
   ·repeat' (first|refine z0 ?_|apply ds_nil|refine z5 ?_|refine z10 ?_|apply dw_seq2|refine z16 ?_|refine z20 ?_|apply dw_skip|apply dw_ret|refine z19 ?_|apply thenD_n|apply thenD_r|(refine z23 ?_ ?_ <;> intro hg)|fail)
    all_goals try (exfalso;omega)
    exact⟨.inl rfl,_,rfl,id,3,.d (.bool false),putH r,rfl,⟨rfl,rfl,rfl,trivial⟩,rfl,rfl,rfl,rfl,rfl,rfl,rfl,.inr (.inl ⟨rfl,rfl,hf,rfl,rfl⟩)⟩
   ·have wo:=wown_fn u (Nat.le_trans hu.parents (by decide)) (Nat.le_trans hu.takes (by decide)) hu.says hu.args
    repeat' (first|refine z0 ?_|apply ds_nil|refine z5 ?_|refine z10 ?_|apply dw_seq2|refine z16 ?_|refine z20 ?_|apply dw_skip|refine z19 ?_|apply thenD_n|refine z22 ?_ (hc:=by apply wo)|(refine z23 ?_ ?_ <;> intro hg)|fail)
    all_goals try (exfalso;omega)
    have wp:=FnTr.of (dput_fn r.waits u h2 sw hb2)
    refine dt_callT 2 wp rfl rfl rfl rfl rfl rfl rfl ⟨_,rfl⟩ rfl rfl ?_
    rintro _ rfl
    repeat' (first|refine z5 ?_|refine z6 ?_|refine z11 ?_|apply dw_block|apply thenD_n)
    refine ds_loop (ι:=Rpl) (fun x=>⟨4,[(2,.loc 3 0)],[(0,.blk 73 [.row 1,.row 2]),(1,.row 40 5 (x.has.map encUpd)),(2,.row 40 5 (x.waits.map encUpd)),(3,.blk 204 [.loc 0 0])]⟩)
     (fun x=>RplGo (u::r.both) x∧x.has.length + x.waits.length=r.has.length + r.waits.length + 1) (fun x=>x.waits.length) ⟨r.has,insU r.waits u⟩ ⟨hok.more hb1 hb2,by dsimp only;rw [insU_len];omega⟩ (ent_ren (fun j=>match j with|2=>12|j=>j) ⟨rfl,trivial⟩ ⟨rfl,rfl,rfl,rfl,trivial⟩ rfl rfl rfl rfl rfl rfl) ?_
    clear w1 w2 wo wp
    rintro x ⟨hx,hcnt⟩
    have hshort:∀ v,v∈x.has∨v∈x.waits→ShortU v:=fun v hv=>by
     rcases List.mem_cons.1 ((hx.all v).2 hv) with rfl|h
     ·exact hu
     ·rcases List.mem_append.1 h with h|h
      ·exact hr _ h
      ·exact hw _ h
    have lxh:(x.has.map encUpd).length=x.has.length:=List.length_map _
    have lxw:(x.waits.map encUpd).length=x.waits.length:=List.length_map _
    have wi:=indexU_fn (caps:=[.pd [.ptr [.slice 5 (x.has.map encUpd),.slice 5 (x.waits.map encUpd)]]]) (fun v=>readyU x.has v) x.waits rfl (fun v hv=>put1_fn x v (by omega) hx.sh (by have h:=hshort v (.inr hv);have:=h.parents;have:=h.takes;omega))
    repeat' (first|refine z0 ?_|apply dw_seq2|refine z16 ?_|apply dw_block)
    refine ds_callP wi rfl (by rintro _ rfl;rfl) rfl rfl rfl rfl ?_
    rintro _ rfl
    rcases idxF_or (fun v=>readyU x.has v) x.waits with ⟨hn,hall⟩|⟨i,hi,hn,hri⟩
    ·rw [hn]
     repeat' (first|refine z0 ?_|apply ds_nil|apply dw_seq2|refine z16 ?_|apply dw_ret|refine z18 ?_|apply thenD_n|apply thenD_r|apply inB_r)
     all_goals try (exfalso;omega)
     exact⟨.inl rfl,_,rfl,id,3,.d (.bool true),putH x,rfl,⟨rfl,rfl,rfl,trivial⟩,rfl,rfl,rfl,rfl,rfl,rfl,rfl,.inr (.inr ⟨rfl,rfl,by omega,x,hx.done hall,rfl,rfl⟩)⟩
    ·rw [hn]
     have hnh:hasU x.has (x.waits[i]'hi).id=false:=by
      cases hb:hasU x.has (x.waits[i]'hi).id with
      | false=>rfl
      | true =>
       obtain⟨v,hv,he⟩:=hasU_iff.1 hb
       exact absurd he (hx.apart v hv _ (List.getElem_mem hi))
     have wd:=FnTr.of (deleteU_fn x.waits i hi (by omega))
     have wp:=FnTr.of (dput_fn x.has (x.waits[i]'hi) (by omega) hx.sh hnh)
     clear wi
     repeat' (first|refine z0 ?_|apply ds_nil|refine z5 ?_|apply dw_seq2|refine z16 ?_|refine z20 ?_|apply dw_skip|refine z19 ?_|apply thenD_n|refine z1 ?_|refine z3 ?_|fail)
     all_goals try (exfalso;omega)
     refine dt_callT 2 wd rfl rfl rfl rfl rfl rfl rfl ⟨_,rfl⟩ rfl rfl ?_
     rintro _ rfl
     repeat' (first|refine z5 ?_|refine z6 ?_|refine z11 ?_|refine z20 ?_|apply thenD_n)
     all_goals try (exfalso;omega)
     refine dt_callT 1 wp rfl rfl rfl rfl rfl rfl rfl ⟨_,rfl⟩ rfl rfl ?_
     rintro _ rfl
     repeat' (first|refine z5 ?_|refine z6 ?_|refine z11 ?_|apply thenD_n|apply inB_n)
     all_goals try (exfalso;omega)
     have hgo:=hx.move (List.getElem_mem hi) hri
     rw [← erase_filter hx.sw hi] at hgo
     exact⟨⟨insU x.has (x.waits[i]'hi),x.waits.eraseIdx i⟩,⟨hgo,by dsimp only;rw [insU_len,List.length_eraseIdx_of_lt hi];omega⟩,ent_ren (fun j=>match j with|1=>23|2=>13|j=>j) ⟨rfl,trivial⟩ ⟨rfl,rfl,rfl,rfl,trivial⟩ rfl rfl rfl rfl rfl rfl,by dsimp only;rw [List.length_eraseIdx_of_lt hi];omega⟩
theorem short_of {u:Upd} (h:checkU u=0):ShortU u:=by
 have g:=checkU_good h
 refine⟨by have:=g.np;omega,by have:=g.nt;omega,by have:=g.ns;omega,fun f hf=>?_⟩
 have h1:=List.all_eq_true.1 g.says f hf
 unfold saysB at h1
 simp only [Bool.and_eq_true,decide_eq_true_eq] at h1
 omega
theorem checkR_ok {r:Rpl} (h:checkR r=0):r.has.length + r.waits.length≤200∧(∀ u∈r.both,checkU u=0)∧RplOk r.both r:=by
 unfold checkR at h
 split at h
 ·cases h
 rename_i h1
 split at h
 ·rename_i h2;exact absurd h h2
 rename_i h2
 split at h
 ·cases h
 rename_i h3
 split at h
 ·cases h
 rename_i h4
 split at h
 ·cases h
 rename_i h5
 simp only [not_or,Bool.not_eq_false,Bool.not_eq_true] at h3 h4 h5
 have hc:=firstL_none (Decidable.not_not.1 h2)
 have sh:=rises_str h3.1
 have sw:=rises_str h3.2.1
 have hready:∀ u∈r.has,readyU r.has u=true:=fun u hu=>by
  have:=List.any_eq_false.1 h4 u hu
  simpa using this
 have hnr:∀ u∈r.has,¬ Reach r.has (underU u) u.id:=fun u hu hre=>by
  have:=List.any_eq_false.1 h5.1 u hu
  exact this ((behM_iff sh (underU u) u.id).2 hre)
 refine⟨by omega,hc,RplGo.done ⟨sh,sw,fun u=>List.mem_append,fun u hu v hv he=>?_,fun u hu=>(no_round_der hready hnr u hu).mono fun v hv=>List.mem_append_left _ hv⟩ fun u hu=>?_⟩
 ·have:=List.any_eq_false.1 h3.2.2 v hv
  exact this (hasU_iff.2 ⟨u,hu,he⟩)
 ·have:=List.any_eq_false.1 h5.2 u hu
  simpa using this
end Go.Proofs.Ytapciiffpnociaa
namespace Go.Proofs.Ytapciiffpnociaa
open Go Go.RowKit
open Go.Maps (Keyed)
theorem mapSet_set (x:MK) (n m:Int):∀ l,mapSet (mapSet l x n) x m=mapSet l x m
 | []=>by simp [mapSet,MK.eqb_self]
 | (k,v)::l=>by
  have h1:mapSet ((k,v)::l) x n=if k.eqb x then (k,n)::l else (k,v)::mapSet l x n:=rfl
  have h2:mapSet ((k,v)::l) x m=if k.eqb x then (k,m)::l else (k,v)::mapSet l x m:=rfl
  rw [h1,h2]
  by_cases hk:k.eqb x=true
  ·rw [if_pos hk,if_pos hk]
   show (if k.eqb x then (k,m)::l else _)=_
   rw [if_pos hk]
  ·rw [if_neg hk,if_neg hk]
   show (if k.eqb x then _ else (k,v)::mapSet (mapSet l x n) x m)=_
   rw [if_neg hk,mapSet_set x n m l]
def leftN (listed:Array Bool):Nat:=listed.toList.countP fun b=>!b
theorem left_set {listed:Array Bool} {i:Nat} (hi:i < listed.size) (h:listed.getD i true=false):leftN (listed.setIfInBounds i true) + 1=leftN listed:=by
 unfold leftN
 have hi':i < listed.toList.length:=by simpa using hi
 have hc:=List.countP_set (p:=fun b=>!b) (a:=true) hi'
 rw [Array.toList_setIfInBounds,hc]
 have hg:listed.toList[i]=false:=by
  simp [hi] at h
  simpa using h
 rw [hg]
 clear hc
 have hpos:0 < listed.toList.countP (fun b=>!b):=List.countP_pos_iff.2 ⟨false,by rw [← hg];exact List.getElem_mem hi',rfl⟩
 simp only [Bool.not_false,Bool.not_true,if_true,Bool.false_eq_true,if_false,Nat.add_zero]
 omega
theorem left_zero {listed:Array Bool} (h:leftN listed=0):∀ i,i < listed.size→listed.getD i true=true:=by
 intro i hi
 unfold leftN at h
 rw [List.countP_eq_zero] at h
 have:=h listed[i] (by simp)
 simp [hi] at this ⊢
 exact this
theorem wpAny_inv {P:Program} {l:List Oper} {Q:Exit→Act→World→Prop} (J:Array Bool→Act→World→Prop)
  (hstep:∀ (listed:Array Bool) a w i,listed.size=l.length→J listed a w→i∈Region.ready .any l.toArray listed→wpOp P l.toArray Q i (J (listed.setIfInBounds i true)) a w)
  (hend:∀ (listed:Array Bool) a w,listed.size=l.length→J listed a w→Region.ready .any l.toArray listed=[]→Q .normal a w) :
  ∀ (fuel:Nat) (listed:Array Bool) a w,listed.size=l.length→leftN listed=fuel→J listed a w→wpAny P .any l.toArray Q fuel listed a w
 | 0,listed,a,w,hs,hc,h=>by
  have hr:Region.ready .any l.toArray listed=[]:=List.eq_nil_iff_forall_not_mem.2 fun j hj=>by
   obtain⟨h1,o,ho,_⟩:=mem_ready.1 hj
   have hj:j < listed.size:=by rw [hs];have:=(Array.getElem?_eq_some_iff.1 ho).1;simpa using this
   rw [left_zero hc j hj] at h1
   cases h1
  exact⟨hr,hend listed a w hs h hr⟩
 | fuel + 1,listed,a,w,hs,hc,h=>by
  refine⟨fun hr=>hend listed a w hs h hr,fun i hi=>?_⟩
  obtain⟨h1,o,ho,_⟩:=mem_ready.1 hi
  have hj:i < listed.size:=by rw [hs];have:=(Array.getElem?_eq_some_iff.1 ho).1;simpa using this
  have hlt:=left_set hj h1
  have key:∀ a' w',J (listed.setIfInBounds i true) a' w'→wpAny P .any l.toArray Q fuel (listed.setIfInBounds i true) a' w':=fun a' w' h' =>
   wpAny_inv J hstep hend fuel _ a' w' (by simp [hs]) (by omega) h'
  have h2:=hstep listed a w i hs h hi
  unfold wpOp at h2 ⊢
  rw [ho] at h2 ⊢
  simp only at h2 ⊢
  split
  ·rename_i hw
   rw [if_pos hw] at h2
   exact h2.imp (fun h2=>Oper.wp_mono key h2) id
  ·rename_i hw
   rw [if_neg hw] at h2
   exact key _ _ h2
def needB (l:List Oper) (i j:Nat):Bool:=match l[i]? with
 | some o=>o.after.toList.any fun e=>Region.binds .any e && Nat.beq e.on j
 | none=>false
theorem need_spec {l:List Oper} {i j:Nat} {listed:Array Bool} (h:needB l i j=true) (hi:i∈Region.ready .any l.toArray listed):listed.getD j false=true:=by
 obtain⟨_,o,ho,hall⟩:=mem_ready.1 hi
 have ho':l[i]? = some o:=by simpa using ho
 unfold needB at h
 rw [ho'] at h
 obtain⟨e,he,h⟩:=List.any_eq_true.1 h
 rw [Bool.and_eq_true] at h
 have:=hall e (by simpa using he) h.1
 rwa [Nat.eq_of_beq_eq_true h.2] at this
theorem ready_all {l:List Oper} {listed:Array Bool} (hs:listed.size=l.length) (hd:regDownB l=true) (hr:Region.ready .any l.toArray listed=[]):∀ j,j < l.length→listed.getD j false=true:=by
 intro j
 induction j using Nat.strongRecOn with
 | ind j ih =>
  intro hj
  cases hc:listed.getD j false with
  | true=>rfl
  | false =>
   exfalso
   have hm:j∈Region.ready .any l.toArray listed:=mem_ready.2 ⟨by rw [getD_flip (by omega)];exact hc,l[j],by simp [hj],fun e he hb=>by
    have hlt:=down_spec hd j l[j] (List.getElem?_eq_getElem hj) e he hb
    exact ih e.on hlt (by omega)⟩
   rw [hr] at hm
   cases hm
theorem getD_set {listed:Array Bool} {i j:Nat} (hi:i < listed.size):(listed.setIfInBounds i true).getD j false=if i=j then true else listed.getD j false:=by
 by_cases h:i=j
 ·subst h;simp [hi]
 ·rw [if_neg h,getD_set_ne false h]
theorem Models.junk {Γ:Ctx} {k:Nat→Prop} {L:Sl} {H:Hp} {e:Env} {a:Act} {w:World} (m:Models Γ k L H e a w) {d:Nat} {v:Value} (hd:Nat.blt d Γ.n=true) (hj:L.get d = .junk):Models Γ k L H e (a.put (some d) v) w:=by
 have m2:=m.put (s:=.junk) (v:=v) (Nat.le_of_ble_eq_true hd) trivial
 refine⟨m2.toHeap,m2.defers,m2.len,fun t=>?_⟩
 have:=m2.slot t
 rw [Sl.get_cons] at this
 split at this
 ·rename_i h;subst h;rw [hj];trivial
 ·exact this
def StampOf (w:World) (b:Nat) (key:MK) (s:Int):Prop:=∃ (es:Array MapEntry) (clock:Nat) (x:MapEntry),w.heap[b]? = some (.map es clock)∧x∈es.toList∧x.key=key.val∧(x.born:Int)=s
structure IncS (Γ:Ctx) (k:Nat) (L:Sl) (H H1 H2:Hp) (e:Env) (i:Nat) (d0 d1 d2 d3 d4 d5:Nat) (key:MK) (n:Int) (c:Nat→Bool) (a:Act) (w:World):Prop where
 m:Models Γ (lo k) L (if c 6 then H2 else if c 4 then H1 else H) e a w
 v0:c 0=true→a.tmps.getD d0 undef = .map (some (e.β i))
 v1:c 1=true→a.tmps.getD d1 undef=key.val
 v2:c 2=true→a.tmps.getD d2 undef = .int .i64 n
 v3:c 3=true→a.tmps.getD d3 undef = .int .i64 (n + 1)
 v4:c 4=true→c 6=false→∃ u s,a.tmps.getD d4 undef = .tuple #[u,.int .i64 s]∧StampOf w (e.β i) key s
 v5:c 5=true→c 6=false→∃ s,a.tmps.getD d5 undef = .int .i64 s∧StampOf w (e.β i) key s
theorem getD_put_same {a:Act} {d:Nat} {v:Value} (h:d < a.tmps.size):(a.put (some d) v).tmps.getD d undef=v:=by simp [Act.put,h]
theorem getD_put_ne {a:Act} {d t:Nat} {v:Value} (h:d≠t):(a.put (some d) v).tmps.getD t undef=a.tmps.getD t undef:=by
 simp only [Act.put,Array.getD_eq_getD_getElem?,Array.getElem?_setIfInBounds_ne h]
theorem Models.mapTurn {Γ:Ctx} {k:Nat→Prop} {L:Sl} {H:Hp} {e:Env} {a:Act} {w:World} {i:Nat} {kd:Bool} {kvs kvs':List (MK × Int)} (m:Models Γ k L H e a w) (hH:Hp.get H i=some (.map kd kvs)) {es':Array MapEntry} {clock':Nat}
  (hes':es'.toList.map (fun x=>(x.key,x.val))=kvs'.map (fun p=>(p.1.val,Value.int .i64 p.2))) (hst:Stamps es' clock') (hk:kvs'.Pairwise fun p q=>p.1≠q.1) (hwf:∀ p∈kvs',p.1.ok kd∧(Lit.int .i64 p.2).wf=true) :
  Models Γ k L (Hp.set H i (.map kd kvs')) e a { w with heap:=w.heap.setIfInBounds (e.β i) (.map es' clock') }:=by
 have hlt:=m.toHeap.lt (e.β i) (List.mem_filterMap.2 ⟨_,Hp.mem_of hH,rfl⟩)
 refine m.turn (w':={ w with heap:=w.heap.setIfInBounds (e.β i) (.map es' clock') }) (b':=.map kd kvs') hH (by simp) rfl rfl rfl (fun _=>Nat.le_refl _) (fun c hc hne=>?_) rfl ⟨⟨es',clock',?_,hes',hst⟩,hk,hwf⟩
 ·have hne':e.β i≠c:=fun h=>hne (by simp [HB.owned,h])
  exact Array.getElem?_setIfInBounds_ne hne'
 ·show (w.heap.setIfInBounds (e.β i) (.map es' clock'))[e.β i]? = _
  simp [hlt]
theorem mapSet_wf {kd:Bool} {kvs:List (MK × Int)} {key:MK} {n:Int} (hwf:∀ p∈kvs,p.1.ok kd∧(Lit.int .i64 p.2).wf=true) (hok:key.ok kd) (hn:(Lit.int .i64 n).wf=true):∀ p∈mapSet kvs key n,p.1.ok kd∧(Lit.int .i64 p.2).wf=true:=fun p hp=>by
 rcases mapSet_keys key n kvs p hp with h|h
 ·rw [h];exact⟨hok,hn⟩
 ·exact hwf p h
theorem entry_run {P:Program} {t:TypeId} {kd:Bool} {kvs:List (MK × Int)} {key:MK} (T:MapT P t kd) {w:World} {b:Nat} (hM:MapIs w b kd kvs) (hok:key.ok kd) :
  ∃ (es':Array MapEntry) (clock':Nat) (u:Value) (s:Int),(Instr.mapEntry t (.map (some b)) key.val).run P w = .ok (.tuple #[u,.int .i64 s]) { w with heap:=w.heap.setIfInBounds b (.map es' clock') } ∧
   es'.toList.map (fun x=>(x.key,x.val))=(mapSet kvs key ((mapGet? kvs key).getD 0)).map (fun p=>(p.1.val,Value.int .i64 p.2))∧Stamps es' clock'∧∃ x∈es'.toList,x.key=key.val∧(x.born:Int)=s:=by
 obtain⟨kt,et,ht,K,hof,hz⟩:=T.ty
 obtain⟨⟨es,clock,hb,hes,hst⟩,hkeys,hwf⟩:=hM
 obtain⟨l,hl⟩:=hof key hok
 rcases map_find K hof hes hkeys hwf hok w with ⟨h1,h0,h2⟩|⟨j,x0,n0,h1,h2,h3,h4,h5,_⟩
 ·refine⟨es.push ⟨key.val,.int .i64 0,clock⟩,clock + 1,.int .i64 0,clock,?_,?_,stamps_push hst,⟨key.val,.int .i64 0,clock⟩,by simp,rfl,rfl⟩
  ·simp [Instr.mapEntry,run_underlying ht,MapKept.run_getObj_map hb,K.check w false hl,h1,hz w,MapKept.run_setObj_map _ hb,Result.andThen,goInt]
  ·rw [h0,mapSet_new h2,Array.toList_push,List.map_append,List.map_append,hes]
   rfl
 ·have hj2:es[j]? = some x0:=by simpa using h2
  have hjl:j < es.size:=(Array.getElem?_eq_some_iff.1 hj2).1
  have hx0:es[j]=x0:=(Array.getElem?_eq_some_iff.1 hj2).2
  have hst2:(Instr.keyThatStays x0.key key.val).run P w = .ok key.val w:=by
   rw [h3]
   exact K.stays w hl
  refine⟨es.modify j fun x=>{ x with key:=key.val },clock,.int .i64 n0,x0.born,?_,?_,stamps_modify hst fun _=>rfl,{ x0 with key:=key.val },?_,rfl,rfl⟩
  ·simp [Instr.mapEntry,run_underlying ht,MapKept.run_getObj_map hb,K.check w false hl,h1,hst2,hj2,MapKept.run_setObj_map _ hb,Result.andThen,goInt]
  ·obtain⟨p,q1,q2,q3⟩:=entries_get hes h2
   rw [h4] at q1
   cases q1
   rw [h5,Option.getD_some,mapSet_old hkeys h4,List.map_set,← hes]
   apply List.ext_getElem?
   intro q
   by_cases hq:q=j
   ·subst hq
    simp [hjl,hx0,q3]
   ·simp [Ne.symm hq]
  ·refine List.mem_iff_getElem?.2 ⟨j,?_⟩
   simp [hj2]
theorem store_run {P:Program} {t:TypeId} {kd:Bool} {kvs:List (MK × Int)} {key:MK} {m:Int} {w:World} {b:Nat} (hM:MapIs w b kd kvs) {s:Int} (hs:StampOf w b key s) :
  ∃ (es':Array MapEntry) (clock':Nat),(Instr.entryStore t (.map (some b)) (.int .i64 s) (.int .i64 m)).run P w = .ok () { w with heap:=w.heap.setIfInBounds b (.map es' clock') } ∧
   es'.toList.map (fun x=>(x.key,x.val))=(mapSet kvs key m).map (fun p=>(p.1.val,Value.int .i64 p.2))∧Stamps es' clock':=by
 obtain⟨⟨es,clock,hb,hes,hst⟩,hkeys,hwf⟩:=hM
 obtain⟨es2,clock2,x,hb2,hx,hxk,hxs⟩:=hs
 rw [hb] at hb2
 cases hb2
 obtain⟨j,hj⟩:=List.mem_iff_getElem?.1 hx
 have hj2:es[j]? = some x:=by simpa using hj
 have hjl:j < es.size:=(Array.getElem?_eq_some_iff.1 hj2).1
 have hxj:es[j]=x:=(Array.getElem?_eq_some_iff.1 hj2).2
 have hfind:es.findIdx? (fun e=>(e.born:Int) == s)=some j:=by
  rw [Array.findIdx?_eq_some_iff_getElem]
  refine⟨hjl,by rw [hxj];simpa using hxs,fun q hq=>?_⟩
  have hne:=List.pairwise_iff_getElem.1 hst.1 q j (by simp;omega) (by simpa using hjl) hq
  simp only [Array.getElem_toList] at hne
  rw [hxj] at hne
  intro hc
  have hc:((es[q]).born:Int)=s:=by simpa using hc
  omega
 obtain⟨p,q1,q2,q3⟩:=entries_get hes hj
 have hpk:p.1=key:=MK.val_inj (by rw [← q2,hxk])
 obtain⟨pk,n⟩:=p
 subst hpk
 refine⟨es.modify j fun e=>{ e with val:=.int .i64 m },clock,?_,?_,stamps_modify hst fun _=>rfl⟩
 ·simp [Instr.entryStore,MapKept.run_getObj_map hb,asInt,asIntOf,hfind,MapKept.run_setObj_map _ hb,Result.andThen]
 ·rw [mapSet_old hkeys q1,List.map_set,← hes]
  apply List.ext_getElem?
  intro q
  by_cases hq:q=j
  ·subst hq
   simp [hjl,hxj,q2]
  ·simp [Ne.symm hq]
theorem Hp.get_set_self {i:Nat} {b b':HB} {H:Hp} (h:Hp.get H i=some b):Hp.get (Hp.set H i b') i=some b':=by rw [Hp.get_set i b' H b h,if_pos rfl]
theorem Hp.set_set {i:Nat} {b b':HB}:∀ {H:Hp},Hp.set (Hp.set H i b) i b' = Hp.set H i b'
 | []=>rfl
 | (d,s)::H=>by
  simp only [Hp.set]
  cases hb:Nat.beq d i with
  | true=>simp only [Hp.set,hb]
  | false=>simp only [Hp.set,hb,Hp.set_set]
theorem rep_getD (n p:Nat):(Array.replicate n false).getD p false=false:=by
 simp only [Array.getD_eq_getD_getElem?,Array.getElem?_replicate]
 split <;> rfl
theorem wpOp_run {P:Program} {l:List Oper} {Q:Exit→Act→World→Prop} {i:Nat} {o:Oper} {a:Act} {w w':World} {K:Act→World→Prop} {v:Value} (ho:l[i]? = some o) (hg:o.guard=none) (hr:(execOp a.eval o).run P w = .ok (.value v) w') (hk:K (a.put o.dst v) w') :
  wpOp P l.toArray Q i K a w:=by
 unfold wpOp
 have ho':l.toArray[i]? = some o:=by simpa using ho
 rw [ho']
 have hw:Region.wanted o (yielded l.toArray a.tmps)=true:=by unfold Region.wanted;rw [hg]
 simp only [hw,if_true]
 refine .inl ?_
 unfold Oper.wp
 rw [hr]
 exact hk
theorem wpOp_skip {P:Program} {l:List Oper} {Q:Exit→Act→World→Prop} {i:Nat} {o:Oper} {a:Act} {w w':World} {K:Act→World→Prop} (ho:l[i]? = some o) (hg:o.guard=none) (hr:(execOp a.eval o).run P w = .ok .skip w') (hk:K (a.put o.dst undef) w') :
  wpOp P l.toArray Q i K a w:=by
 unfold wpOp
 have ho':l.toArray[i]? = some o:=by simpa using ho
 rw [ho']
 have hw:Region.wanted o (yielded l.toArray a.tmps)=true:=by unfold Region.wanted;rw [hg]
 simp only [hw,if_true]
 refine .inl ?_
 unfold Oper.wp
 rw [hr]
 exact hk
theorem Models.know {Γ:Ctx} {k:Nat→Prop} {L:Sl} {H:Hp} {e:Env} {a:Act} {w:World} (m:Models Γ k L H e a w) {d:Nat} {s:SV} (h:Rel (Γ.X e H) e w s (a.tmps.getD d undef)):Models Γ k ((d,s)::L) H e a w :=
 ⟨m.toHeap,m.defers,m.len,fun t=>by
  rw [Sl.get_cons]
  split
  ·rename_i ht;subst ht;exact h
  ·exact m.slot t⟩
theorem setAt_fn {listed:Array Bool} {i:Nat} (hi:i < listed.size):(fun j=>(listed.setIfInBounds i true).getD j false)=fun j=>if i=j then true else listed.getD j false:=funext fun _=>getD_set hi
theorem set_closed {l:List Oper} {listed:Array Bool} {i:Nat} (hi:i∈Region.ready .any l.toArray listed) (hs:i < listed.size) (h:∀ p q,needB l p q=true→listed.getD p false=true→listed.getD q false=true) :
  ∀ p q,needB l p q=true→(listed.setIfInBounds i true).getD p false=true→(listed.setIfInBounds i true).getD q false=true:=by
 intro p q hn hp
 rw [getD_set hs] at hp ⊢
 split
 ·rfl
 ·split at hp
  ·rename_i hpi;subst hpi;exact need_spec hn hi
  ·exact h p q hn hp
section
variable {Γ : Ctx} {k i d0 d1 d2 d3 d4 d5 tx : Nat} {L : Sl} {H : Hp} {y : Operand} {t t1 t3 t3' ty0 ty1 ty2 ty3 ty4 ty5 ty6 : TypeId} {p0 p1 p2 p3 p4 p5 p6 : String} {af0 af1 af2 af3 af4 af5 af6 : Array Edge} {kd : Bool} {kvs : List (MK × Int)} {key : MK} {sv : SV}
theorem dw_inc {id:Nat} {Q:Post} {l:List Oper} (hl:l=[⟨some d0,.move (.tmp tx),ty0,p0,af0,none⟩,⟨some d1,.load t1 y,ty1,p1,af1,none⟩,⟨some d2,.lookup t (.tmp d0) (.tmp d1) false,ty2,p2,af2,none⟩,⟨some d3,.binOp .add t3 (.tmp d2) (.const (.int .i64 1)) t3',ty3,p3,af3,none⟩,
   ⟨some d4,.mapEntry t (.tmp d0) (.tmp d1),ty4,p4,af4,none⟩,⟨some d5,.extract (.tmp d4) 1,ty5,p5,af5,none⟩,⟨none,.entryStore t (.tmp d0) (.tmp d5) (.tmp d3),ty6,p6,af6,none⟩])
  (hm:Γ.P.follows .mixedOrders=true) (hdown:regDownB l=true) (hnd:noDefer l=true)
  (hne:(needB l 2 0 && needB l 2 1 && needB l 3 2 && needB l 4 0 && needB l 4 1 && needB l 5 4 && needB l 6 3 && needB l 6 5)=true)
  (hdist:distinct [d0,d1,d2,d3,d4,d5]=true) (hlt:(Nat.blt d0 Γ.n && Nat.blt d1 Γ.n && Nat.blt d2 Γ.n && Nat.blt d3 Γ.n && Nat.blt d4 Γ.n && Nat.blt d5 Γ.n)=true)
  (j0:L.get d0 = .junk) (j1:L.get d1 = .junk) (j2:L.get d2 = .junk) (j3:L.get d3 = .junk) (j4:L.get d4 = .junk) (j5:L.get d5 = .junk)
  (T:MapT Γ.P t kd) (hx:L.get tx = .mp i) (hH:Hp.get H i=some (.map kd kvs)) (hy:Ev Γ (lo k) L H (.load t1 y) ty1 sv) (hkey:keyC sv=some key) (hkd:key.kd=kd)
  (hadd:∀ H',Ev Γ (lo k) ((d2,.d (.int .i64 ((mapGet? kvs key).getD 0)))::L) H' (.binOp .add t3 (.tmp d2) (.const (.int .i64 1)) t3') ty3 (.d (.int .i64 ((mapGet? kvs key).getD 0 + 1))))
  (hQ:Q .normal k L (Hp.set H i (.map kd (mapSet kvs key ((mapGet? kvs key).getD 0 + 1))))):DW Γ (.region id l.toArray true) Q k L H:=by
 have hlen:l.length=7:=by rw [hl];rfl
 simp only [Bool.and_eq_true] at hne hlt
 obtain⟨⟨⟨⟨⟨⟨⟨n20,n21⟩,n32⟩,n40⟩,n41⟩,n54⟩,n63⟩,n65⟩:=hne
 obtain⟨⟨⟨⟨⟨b0,b1⟩,b2⟩,b3⟩,b4⟩,b5⟩:=hlt
 have hdd:∀ (p q:Nat),p < q→(hp:p < [d0,d1,d2,d3,d4,d5].length)→(hq:q < [d0,d1,d2,d3,d4,d5].length)→[d0,d1,d2,d3,d4,d5][p]≠[d0,d1,d2,d3,d4,d5][q]:=fun p q h hp hq=>List.pairwise_iff_getElem.1 (distinct_spec _ hdist) p q hp hq h
 have a01:d0≠d1:=fun h=>hdd 0 1 (by decide) (by simp) (by simp) (by simp [h])
 have a02:d0≠d2:=fun h=>hdd 0 2 (by decide) (by simp) (by simp) (by simp [h])
 have a03:d0≠d3:=fun h=>hdd 0 3 (by decide) (by simp) (by simp) (by simp [h])
 have a04:d0≠d4:=fun h=>hdd 0 4 (by decide) (by simp) (by simp) (by simp [h])
 have a05:d0≠d5:=fun h=>hdd 0 5 (by decide) (by simp) (by simp) (by simp [h])
 have a12:d1≠d2:=fun h=>hdd 1 2 (by decide) (by simp) (by simp) (by simp [h])
 have a13:d1≠d3:=fun h=>hdd 1 3 (by decide) (by simp) (by simp) (by simp [h])
 have a14:d1≠d4:=fun h=>hdd 1 4 (by decide) (by simp) (by simp) (by simp [h])
 have a15:d1≠d5:=fun h=>hdd 1 5 (by decide) (by simp) (by simp) (by simp [h])
 have a23:d2≠d3:=fun h=>hdd 2 3 (by decide) (by simp) (by simp) (by simp [h])
 have a24:d2≠d4:=fun h=>hdd 2 4 (by decide) (by simp) (by simp) (by simp [h])
 have a25:d2≠d5:=fun h=>hdd 2 5 (by decide) (by simp) (by simp) (by simp [h])
 have a34:d3≠d4:=fun h=>hdd 3 4 (by decide) (by simp) (by simp) (by simp [h])
 have a35:d3≠d5:=fun h=>hdd 3 5 (by decide) (by simp) (by simp) (by simp [h])
 have a45:d4≠d5:=fun h=>hdd 4 5 (by decide) (by simp) (by simp) (by simp [h])
 generalize hn:(mapGet? kvs key).getD 0=n at hadd hQ
 intro e a w mm
 refine wpIn_mono (wpIn_region_any hm (wpAny_in (letsOut_lift (Γ:=Γ) (K:=Q .normal)) hnd _ _ _ _ ?_)) (lift_mono (fun ex k' L' H' (⟨h1,h2⟩:onNormal (Q .normal) ex k' L' H')=>h1▸h2))
 have m0:=mm.below (w':={ w with drawn:=w.drawn + 1 }) ((Beld.refl _ _ _).drew)
 have hMM:MapIs w (e.β i) kd kvs:=(mm.heap _ (Hp.mem_of hH)).2
 have hkeys:=hMM.keys
 have hwf:=hMM.wf
 have hkok:key.ok kd:=by
  obtain⟨v,_,hrel⟩:=hy e a w mm
  rw [← hkd]
  exact (keyC_rel hkey hrel).2
 have hnwf:(Lit.int .i64 n).wf=true:=by rw [← hn];exact (look_run T false hMM hkok).2
 have hnwf1:(Lit.int .i64 (n + 1)).wf=true:=by
  have hm3:Models Γ (lo k) ((d2,.d (.int .i64 n))::L) H e (a.put (some d2) (.int .i64 n)) w:=mm.put (Nat.le_of_ble_eq_true b2) (RepC.int hnwf)
  obtain⟨v,_,hrel⟩:=hadd H e _ w hm3
  have hrel:RepC _ _ _ _:=hrel
  cases hrel;assumption
 have hH1:Hp.get (Hp.set H i (.map kd (mapSet kvs key n))) i=some (.map kd (mapSet kvs key n)):=Hp.get_set_self hH
 have hHH:Hp.set (Hp.set H i (.map kd (mapSet kvs key n))) i (.map kd (mapSet kvs key (n + 1)))=Hp.set H i (.map kd (mapSet kvs key (n + 1))):=Hp.set_set
 refine wpAny_inv (fun listed a w=>(∀ p q,needB l p q=true→listed.getD p false=true→listed.getD q false=true)∧IncS Γ k L H (Hp.set H i (.map kd (mapSet kvs key n))) (Hp.set H i (.map kd (mapSet kvs key (n + 1)))) e i d0 d1 d2 d3 d4 d5 key n (fun j=>listed.getD j false) a w)
  ?_ ?_ _ _ a _ (by simp) (by simp [leftN,List.countP_replicate]) ⟨fun p q _ h=>(by rw [rep_getD] at h;cases h),⟨by simp only [rep_getD];exact m0,fun h=>(by rw [rep_getD] at h;cases h),fun h=>(by rw [rep_getD] at h;cases h),fun h=>(by rw [rep_getD] at h;cases h),fun h=>(by rw [rep_getD] at h;cases h),fun h=>(by rw [rep_getD] at h;cases h),fun h=>(by rw [rep_getD] at h;cases h)⟩⟩
 ·rintro listed a w q hs ⟨hcl,hI⟩ hq
  have hq1:=(mem_ready.1 hq).1
  have hq7:q < 7:=by
   obtain⟨_,o,ho,_⟩:=mem_ready.1 hq
   have:=(Array.getElem?_eq_some_iff.1 ho).1
   simpa [hlen] using this
  have hqs:q < listed.size:=by rw [hs,hlen];exact hq7
  rw [getD_flip hqs] at hq1
  have hcl2:=set_closed hq hqs hcl
  have hneed:=fun {p:Nat} (h:needB l q p=true)=>need_spec h hq
  have h6:q≠6→listed.getD 6 false=false:=fun hne=>by
   cases hc:listed.getD 6 false with
   | false=>rfl
   | true =>
    exfalso
    have c3:=hcl 6 3 n63 hc
    have c5:=hcl 6 5 n65 hc
    have c2:=hcl 3 2 n32 c3
    have c4:=hcl 5 4 n54 c5
    have c0:=hcl 2 0 n20 c2
    have c1:=hcl 2 1 n21 c2
    have:q=0∨q=1∨q=2∨q=3∨q=4∨q=5:=by omega
    rcases this with rfl|rfl|rfl|rfl|rfl|rfl <;> simp_all
  have hsz:∀ d,Nat.blt d Γ.n=true→d < a.tmps.size:=fun d hd=>by rw [hI.m.len];exact Nat.le_of_ble_eq_true hd
  have hM:MapIs w (e.β i) kd (if listed.getD 6 false=true then mapSet kvs key (n + 1) else if listed.getD 4 false=true then mapSet kvs key n else kvs):=by
   have hm:=hI.m
   split
   ·rename_i hc;rw [if_pos hc] at hm;exact (hm.heap _ (Hp.mem_of (Hp.get_set_self hH))).2
   ·rename_i hc
    rw [if_neg hc] at hm
    split
    ·rename_i hc;rw [if_pos hc] at hm;exact (hm.heap _ (Hp.mem_of hH1)).2
    ·rename_i hc;rw [if_neg hc] at hm;exact (hm.heap _ (Hp.mem_of hH)).2
  have hcase:q=0∨q=1∨q=2∨q=3∨q=4∨q=5∨q=6:=by omega
  rw [setAt_fn hqs]
  rcases hcase with rfl|rfl|rfl|rfl|rfl|rfl|rfl
  ·have c6:=h6 (by decide)
   have c4:listed.getD 4 false=false:=by
    cases hc:listed.getD 4 false with
    | false=>rfl
    | true=>have:=hcl 4 0 n40 hc;rw [hq1] at this;cases this
   obtain⟨hm,v0,v1,v2,v3,v4,v5⟩:=hI
   simp only [c6,c4,Bool.false_eq_true,if_false] at hm
   have hs0:=hm.slot tx
   rw [hx] at hs0
   refine wpOp_run (v:=.map (some (e.β i))) (w':=w) (by rw [hl];rfl) rfl ?_ ⟨hcl2,⟨?_,fun _=>getD_put_same (hsz _ b0),?_,?_,?_,?_,?_⟩⟩
   ·have:a.eval (.tmp tx) = .map (some (e.β i)):=hs0.2
    simp only [execOp,this,Sem.run_pure]
   ·simp only [c6,c4,show ¬ (0=6) by decide,show ¬ (0=4) by decide,Bool.false_eq_true,if_false]
    exact hm.junk b0 j0
   ·simp only [show ¬ (0=1) by decide,if_false];intro h;rw [getD_put_ne a01];exact v1 h
   ·simp only [show ¬ (0=2) by decide,if_false];intro h;rw [getD_put_ne a02];exact v2 h
   ·simp only [show ¬ (0=3) by decide,if_false];intro h;rw [getD_put_ne a03];exact v3 h
   ·simp only [show ¬ (0=4) by decide,if_false,c4];intro h;cases h
   ·simp only [show ¬ (0=5) by decide,if_false];intro h;have:=hcl 5 4 n54 h;rw [c4] at this;cases this
  ·have c6:=h6 (by decide)
   have c4:listed.getD 4 false=false:=by
    cases hc:listed.getD 4 false with
    | false=>rfl
    | true=>have:=hcl 4 1 n41 hc;rw [hq1] at this;cases this
   obtain⟨hm,v0,v1,v2,v3,v4,v5⟩:=hI
   simp only [c6,c4,Bool.false_eq_true,if_false] at hm
   obtain⟨v,hr,hrel⟩:=hy e a w hm
   obtain⟨hv,_⟩:=keyC_rel hkey hrel
   refine wpOp_run (v:=v) (w':=w) (by rw [hl];rfl) rfl (hr _ _ _ _ w (Below.refl _ _)) ⟨hcl2,⟨?_,?_,fun _=>?_,?_,?_,?_,?_⟩⟩
   ·simp only [c6,c4,show ¬ (1=6) by decide,show ¬ (1=4) by decide,Bool.false_eq_true,if_false]
    exact hm.junk b1 j1
   ·simp only [show ¬ (1=0) by decide,if_false];intro h;rw [getD_put_ne a01.symm];exact v0 h
   ·rw [getD_put_same (hsz _ b1),hv]
   ·simp only [show ¬ (1=2) by decide,if_false];intro h;rw [getD_put_ne a12];exact v2 h
   ·simp only [show ¬ (1=3) by decide,if_false];intro h;rw [getD_put_ne a13];exact v3 h
   ·simp only [show ¬ (1=4) by decide,if_false,c4];intro h;cases h
   ·simp only [show ¬ (1=5) by decide,if_false];intro h;have:=hcl 5 4 n54 h;rw [c4] at this;cases this
  ·have c6:=h6 (by decide)
   obtain⟨hm,v0,v1,v2,v3,v4,v5⟩:=hI
   have e0:a.eval (.tmp d0) = .map (some (e.β i)):=v0 (hneed n20)
   have e1:a.eval (.tmp d1)=key.val:=v1 (hneed n21)
   have hok:key.ok kd:=hkok
   have hrun:=(look_run T false hM hok).1
   have hget:(mapGet? (if listed.getD 6 false=true then mapSet kvs key (n + 1) else if listed.getD 4 false=true then mapSet kvs key n else kvs) key).getD 0=n:=by
    rw [c6,if_neg (by decide)]
    split
    ·rw [mapGet_set,if_pos (MK.eqb_self _)];rfl
    ·exact hn
   rw [hget] at hrun
   refine wpOp_run (v:=.int .i64 n) (w':=w) (by rw [hl];rfl) rfl ?_ ⟨hcl2,⟨?_,?_,?_,fun _=>getD_put_same (hsz _ b2),?_,?_,?_⟩⟩
   ·simp only [execOp,e0,e1,Sem.run_bind,Sem.run_pure,hrun,Result.andThen_ok];rfl
   ·simp only [show ¬ (2=6) by decide,show ¬ (2=4) by decide,if_false]
    exact hm.junk b2 j2
   ·simp only [show ¬ (2=0) by decide,if_false];intro h;rw [getD_put_ne a02.symm];exact v0 h
   ·simp only [show ¬ (2=1) by decide,if_false];intro h;rw [getD_put_ne a12.symm];exact v1 h
   ·simp only [show ¬ (2=3) by decide,if_false];intro h;rw [getD_put_ne a23];exact v3 h
   ·simp only [show ¬ (2=4) by decide,show ¬ (2=6) by decide,if_false];intro h g;rw [getD_put_ne a24];exact v4 h g
   ·simp only [show ¬ (2=5) by decide,show ¬ (2=6) by decide,if_false];intro h g;rw [getD_put_ne a25];exact v5 h g
  ·have c6:=h6 (by decide)
   obtain⟨hm,v0,v1,v2,v3,v4,v5⟩:=hI
   have e2:a.tmps.getD d2 undef = .int .i64 n:=v2 (hneed n32)
   have hm2:Models Γ (lo k) ((d2,.d (.int .i64 n))::L) (if listed.getD 6 false=true then Hp.set H i (.map kd (mapSet kvs key (n + 1))) else if listed.getD 4 false=true then Hp.set H i (.map kd (mapSet kvs key n)) else H) e a w:=by
    exact hm.know (by rw [e2];exact RepC.int hnwf)
   obtain⟨v,hr,hrel⟩:=hadd _ e a w hm2
   have hv:v = .int .i64 (n + 1):=by
    have hrel:RepC _ _ _ _:=hrel
    cases hrel;rfl
   refine wpOp_run (v:=v) (w':=w) (by rw [hl];rfl) rfl (hr _ _ _ _ w (Below.refl _ _)) ⟨hcl2,⟨?_,?_,?_,?_,fun _=>?_,?_,?_⟩⟩
   ·simp only [show ¬ (3=6) by decide,show ¬ (3=4) by decide,if_false]
    exact hm.junk b3 j3
   ·simp only [show ¬ (3=0) by decide,if_false];intro h;rw [getD_put_ne a03.symm];exact v0 h
   ·simp only [show ¬ (3=1) by decide,if_false];intro h;rw [getD_put_ne a13.symm];exact v1 h
   ·simp only [show ¬ (3=2) by decide,if_false];intro h;rw [getD_put_ne a23.symm];exact v2 h
   ·rw [getD_put_same (hsz _ b3),hv]
   ·simp only [show ¬ (3=4) by decide,show ¬ (3=6) by decide,if_false];intro h g;rw [getD_put_ne a34];exact v4 h g
   ·simp only [show ¬ (3=5) by decide,show ¬ (3=6) by decide,if_false];intro h g;rw [getD_put_ne a35];exact v5 h g
  ·have c6:=h6 (by decide)
   have c5:listed.getD 5 false=false:=by
    cases hc:listed.getD 5 false with
    | false=>rfl
    | true=>have:=hcl 5 4 n54 hc;rw [hq1] at this;cases this
   obtain⟨hm,v0,v1,v2,v3,v4,v5⟩:=hI
   simp only [c6,hq1,Bool.false_eq_true,if_false] at hm hM
   have e0:a.eval (.tmp d0) = .map (some (e.β i)):=v0 (hneed n40)
   have e1:a.eval (.tmp d1)=key.val:=v1 (hneed n41)
   obtain⟨es',clock',u,s,hrun,hes',hst',x,hx1,hx2,hx3⟩:=entry_run T hM hkok
   rw [hn] at hes'
   have hm2:=hm.mapTurn hH hes' hst' (mapSet_pairs _ _ _ hkeys) (mapSet_wf hwf hkok hnwf)
   have hlt2:=hm.toHeap.lt (e.β i) (List.mem_filterMap.2 ⟨_,Hp.mem_of hH,rfl⟩)
   have hsto:StampOf { w with heap:=w.heap.setIfInBounds (e.β i) (.map es' clock') } (e.β i) key s:=⟨es',clock',x,by simp [hlt2],hx1,hx2,hx3⟩
   refine wpOp_run (v:=.tuple #[u,.int .i64 s]) (w':={ w with heap:=w.heap.setIfInBounds (e.β i) (.map es' clock') }) (by rw [hl];rfl) rfl ?_ ⟨hcl2,⟨?_,?_,?_,?_,?_,fun _ _=>⟨u,s,getD_put_same (hsz _ b4),hsto⟩,?_⟩⟩
   ·simp only [execOp,e0,e1,Sem.run_bind,Sem.run_pure,hrun,Result.andThen_ok]
   ·simp only [c6,show ¬ (4=6) by decide,Bool.false_eq_true,if_false,if_true]
    exact hm2.junk b4 j4
   ·simp only [show ¬ (4=0) by decide,if_false];intro h;rw [getD_put_ne a04.symm];exact v0 h
   ·simp only [show ¬ (4=1) by decide,if_false];intro h;rw [getD_put_ne a14.symm];exact v1 h
   ·simp only [show ¬ (4=2) by decide,if_false];intro h;rw [getD_put_ne a24.symm];exact v2 h
   ·simp only [show ¬ (4=3) by decide,if_false];intro h;rw [getD_put_ne a34.symm];exact v3 h
   ·simp only [show ¬ (4=5) by decide,if_false,c5];intro h;cases h
  ·have c6:=h6 (by decide)
   obtain⟨hm,v0,v1,v2,v3,v4,v5⟩:=hI
   obtain⟨u,s,e4,hsto⟩:=v4 (hneed n54) c6
   have e4':a.eval (.tmp d4) = .tuple #[u,.int .i64 s]:=e4
   refine wpOp_run (v:=.int .i64 s) (w':=w) (by rw [hl];rfl) rfl ?_ ⟨hcl2,⟨?_,?_,?_,?_,?_,?_,fun _ _=>⟨s,getD_put_same (hsz _ b5),hsto⟩⟩⟩
   ·simp [execOp,e4',Instr.extract]
   ·simp only [show ¬ (5=6) by decide,show ¬ (5=4) by decide,if_false]
    exact hm.junk b5 j5
   ·simp only [show ¬ (5=0) by decide,if_false];intro h;rw [getD_put_ne a05.symm];exact v0 h
   ·simp only [show ¬ (5=1) by decide,if_false];intro h;rw [getD_put_ne a15.symm];exact v1 h
   ·simp only [show ¬ (5=2) by decide,if_false];intro h;rw [getD_put_ne a25.symm];exact v2 h
   ·simp only [show ¬ (5=3) by decide,if_false];intro h;rw [getD_put_ne a35.symm];exact v3 h
   ·simp only [show ¬ (5=4) by decide,show ¬ (5=6) by decide,if_false];intro h g;rw [getD_put_ne a45.symm];exact v4 h g
  ·have c3:=hneed n63
   have c5:=hneed n65
   have c4:=hcl 5 4 n54 c5
   have c2:=hcl 3 2 n32 c3
   have c0:=hcl 2 0 n20 c2
   obtain⟨hm,v0,v1,v2,v3,v4,v5⟩:=hI
   simp only [hq1,c4,Bool.false_eq_true,if_false,if_true] at hm hM
   have e0:a.eval (.tmp d0) = .map (some (e.β i)):=v0 c0
   have e3:a.eval (.tmp d3) = .int .i64 (n + 1):=v3 c3
   obtain⟨s,e5,hsto⟩:=v5 c5 hq1
   have e5':a.eval (.tmp d5) = .int .i64 s:=e5
   obtain⟨es',clock',hrun,hes',hst'⟩:=store_run (t:=t) (m:=n + 1) hM hsto
   rw [mapSet_set] at hes'
   have hm2:=hm.mapTurn hH1 hes' hst' (mapSet_pairs _ _ _ hkeys) (mapSet_wf hwf hkok hnwf1)
   rw [hHH] at hm2
   refine wpOp_skip (w':={ w with heap:=w.heap.setIfInBounds (e.β i) (.map es' clock') }) (by rw [hl];rfl) rfl ?_ ⟨hcl2,⟨?_,?_,?_,?_,?_,?_,?_⟩⟩
   ·simp only [execOp,e0,e3,e5',Sem.run_bind,Sem.run_pure]
    rw [hrun]
    rfl
   ·simp only [if_true];exact hm2
   ·simp only [show ¬ (6=0) by decide,if_false];exact v0
   ·simp only [show ¬ (6=1) by decide,if_false];exact v1
   ·simp only [show ¬ (6=2) by decide,if_false];exact v2
   ·simp only [show ¬ (6=3) by decide,if_false];exact v3
   ·simp only [if_true];intro _ h;cases h
   ·simp only [if_true];intro _ h;cases h
 ·rintro listed a w hs ⟨hcl,hI⟩ hr
  have hall:=ready_all hs hdown hr
  have h6:=hall 6 (by omega)
  have:=hI.m
  rw [if_pos h6] at this
  exact .inl ⟨_,_,_,e,this,rfl,hQ⟩
end
def incM (m:List (MK × Int)) (i:UId):List (MK × Int):=mapSet m (keyI i) ((mapGet? m (keyI i)).getD 0 + 1)
def CntIs (m:List (MK × Int)) (l:List UId):Prop:=∀ i:UId,(mapGet? m (keyI i)).getD 0=((l.countP fun j=>j.same i:Nat):Int)
theorem CntIs.nil:CntIs [] []:=fun _=>rfl
theorem CntIs.inc {m:List (MK × Int)} {l:List UId} (h:CntIs m l) (i:UId):CntIs (incM m i) (l++[i]):=fun j=>by
 unfold incM
 rw [mapGet_set,keyI_eqb,List.countP_append,List.countP_cons,List.countP_nil]
 have hi:=h i
 have hj:=h j
 cases hb:i.same j with
 | true =>
  have:=same_iff.1 hb
  subst this
  simp only [if_true,Option.getD_some]
  omega
 | false =>
  simp only [Bool.false_eq_true,if_false]
  omega
theorem CntIs.le {m:List (MK × Int)} {l:List UId} (h:CntIs m l) (i:UId):0≤(mapGet? m (keyI i)).getD 0∧(mapGet? m (keyI i)).getD 0≤l.length:=by
 rw [h i]
 have:l.countP (fun j=>j.same i)≤l.length:=List.countP_le_length
 omega
theorem CntIs.zero {m:List (MK × Int)} {l:List UId} (h:CntIs m l) (i:UId):(mapGet? m (keyI i)).getD 0=0↔(l.any fun j=>j.same i)=false:=by
 rw [h i]
 constructor
 ·intro h0
  have:l.countP (fun j=>j.same i)=0:=by omega
  exact List.any_eq_false.2 fun x hx=>List.countP_eq_zero.1 this x hx
 ·intro h0
  have:l.countP (fun j=>j.same i)=0:=List.countP_eq_zero.2 fun x hx=>List.any_eq_false.1 h0 x hx
  omega
def topsL (has l:List Upd):List Upd:=l.filter fun u=>!((has.flatMap Upd.parents).any fun j=>j.same u.id)
abbrev topsU (has:List Upd):List Upd:=topsL has has
attribute [local irreducible] DW DS DL DQ Ev FnOk FnP thenD inBlockD DT
set_option maxHeartbeats 8000000 in
theorem tops_fn (r:Rpl) (hl:r.has.length≤100000) (hp:(r.has.flatMap Upd.parents).length≤100000):Fn 117 [elRpl r] (fun res=>res = .d (.slice 2 (((topsU r.has).map Upd.id).map encId))):=by
 refine fnp_enter' _ Try.func117 rfl rfl (by kernel_rfl) ?_
 intro O w0 E0 β0
 have lh:(r.has.map encUpd).length=r.has.length:=List.length_map _
 repeat' (first|refine z0 ?_|apply ds_nil|apply dw_seq2|refine z16 ?_|apply thenD_n|refine z1 ?_|fail)
 refine ds_mapNew false rfl rfl ?_
 repeat' (first|refine z0 ?_|apply ds_nil|apply dw_seq2|refine z16 ?_|apply dw_block|apply thenD_n)
 refine ds_loop (ι:=Nat × List (MK × Int)) (fun x=>⟨2,[(1,.loc 0 0),(3,.mp 1),(13,.d (.slice 5 (r.has.map encUpd))),(14,.d (.int .i64 (r.has.map encUpd).length)),(15,.d (.int .i64 x.1))],
   [(0,.blk 73 [.d (.slice 5 (r.has.map encUpd)),.d (.slice 5 (r.waits.map encUpd))]),(1,.map false x.2)]⟩)
  (fun x=>x.1≤r.has.length∧CntIs x.2 ((r.has.take x.1).flatMap Upd.parents)) (fun x=>r.has.length - x.1) (0,[]) ⟨Nat.zero_le _,.nil⟩ (ent_ren id ⟨rfl,rfl,rfl,rfl,rfl,trivial⟩ ⟨rfl,rfl,trivial⟩ rfl rfl rfl rfl rfl rfl) ?_
 rintro⟨p,m⟩ ⟨h1,h2⟩
 dsimp only at h1 h2 ⊢
 by_cases hi:p < r.has.length
 ·have lq:(r.has[p].parents.map encId).length=r.has[p].parents.length:=List.length_map _
  have hsum:((r.has.take p).flatMap Upd.parents).length + r.has[p].parents.length≤(r.has.flatMap Upd.parents).length:=by
   have e:r.has.flatMap Upd.parents=(r.has.take p).flatMap Upd.parents++(r.has[p].parents++(r.has.drop (p + 1)).flatMap Upd.parents):=by
    conv=>lhs;rw [← List.take_append_drop p r.has,List.drop_eq_getElem_cons hi,List.flatMap_append,List.flatMap_cons]
   rw [e,List.length_append,List.length_append]
   omega
  repeat' (first|refine z0 ?_|apply ds_nil|apply dw_seq2|refine z16 ?_|apply dw_block|apply dw_skip|apply dw_exit|apply thenD_n|apply thenD_e|refine z17 ?_|refine z1 ?_|refine z3 ?_|(refine z23 ?_ ?_ <;> intro hg)|fail)
  all_goals try (exfalso;omega)
  refine ds_loop (ι:=Nat × List (MK × Int)) (fun x=>⟨2,[(1,.loc 0 0),(3,.mp 1),(13,.d (.slice 5 (r.has.map encUpd))),(14,.d (.int .i64 (r.has.map encUpd).length)),(15,.d (.int .i64 p)),(20,.d (.slice 2 (r.has[p].parents.map encId))),(21,.d (.int .i64 (r.has[p].parents.map encId).length)),(22,.d (.int .i64 x.1))],
    [(0,.blk 73 [.d (.slice 5 (r.has.map encUpd)),.d (.slice 5 (r.waits.map encUpd))]),(1,.map false x.2)]⟩)
   (fun x=>x.1≤r.has[p].parents.length∧CntIs x.2 ((r.has.take p).flatMap Upd.parents++r.has[p].parents.take x.1)) (fun x=>r.has[p].parents.length - x.1) (0,m) ⟨Nat.zero_le _,by simpa using h2⟩ (ent_ren id ⟨rfl,rfl,rfl,rfl,rfl,rfl,rfl,rfl,trivial⟩ ⟨rfl,rfl,trivial⟩ rfl rfl rfl rfl rfl rfl) ?_
  rintro⟨q,m⟩ ⟨g1,g2⟩
  dsimp only at g1 g2 ⊢
  by_cases hq:q < r.has[p].parents.length
  ·repeat' ((fail_if_success (apply dw_stopT 8));(first|refine z0 ?_|apply ds_nil|apply dw_seq2|refine z16 ?_|apply dw_block|apply dw_skip|apply dw_exit|apply thenD_n|apply thenD_e|apply inB_n|refine z17 ?_|refine z1 ?_|refine z3 ?_|(refine z23 ?_ ?_ <;> intro hg)|fail))
   all_goals try (exfalso;omega)
   have hle:=g2.le r.has[p].parents[q]
   rw [List.length_append,List.length_take] at hle
   have hinc:=g2.inc r.has[p].parents[q]
   rw [List.append_assoc,← List.take_succ_eq_append_getElem hq] at hinc
   refine dw_inc rfl (by kernel_rfl) (by kernel_rfl) rfl (by kernel_rfl) rfl rfl rfl rfl rfl rfl rfl rfl mapId_t rfl rfl (evC_sound rfl trivial rfl) rfl rfl (fun H'=>ev_add rfl rfl ⟨?_,?_⟩) ?_
   ·show _≤(mapGet? m (keyI r.has[p].parents[q])).getD 0 + 1;omega
   ·show (mapGet? m (keyI r.has[p].parents[q])).getD 0 + 1≤_;omega
   repeat' (first|refine z0 ?_|apply ds_nil|refine z16 ?_|apply thenD_n|apply inB_n)
   exact⟨(q + 1,incM m r.has[p].parents[q]),⟨hq,hinc⟩,ent_ren id ⟨rfl,rfl,rfl,rfl,rfl,rfl,rfl,rfl,trivial⟩ ⟨rfl,rfl,trivial⟩ rfl rfl rfl rfl rfl rfl,by show _ - (q + 1) < _ - q;omega⟩
  ·repeat' (first|refine z0 ?_|apply ds_nil|refine z5 ?_|apply dw_seq2|refine z16 ?_|refine z20 ?_|apply dw_block|apply dw_skip|apply dw_exit|apply thenD_n|apply thenD_e|apply inB_n|refine z17 ?_|refine z1 ?_|refine z3 ?_|(refine z23 ?_ ?_ <;> intro hg)|fail)
   all_goals try (exfalso;omega)
   refine⟨(p + 1,m),⟨hi,?_⟩,ent_ren id ⟨rfl,rfl,rfl,rfl,rfl,trivial⟩ ⟨rfl,rfl,trivial⟩ rfl rfl rfl rfl rfl rfl,by show _ - (p + 1) < _ - p;omega⟩
   have e9:r.has[p].parents.take q=r.has[p].parents:=List.take_of_length_le (by omega)
   rw [e9] at g2
   rw [List.take_succ_eq_append_getElem hi,List.flatMap_append]
   simpa using g2
 ·repeat' (first|refine z0 ?_|apply ds_nil|apply dw_seq2|refine z16 ?_|apply dw_block|apply dw_skip|apply dw_exit|apply thenD_n|apply thenD_e|refine z17 ?_|refine z1 ?_|refine z3 ?_|(refine z23 ?_ ?_ <;> intro hg)|fail)
  all_goals try (exfalso;omega)
  rw [List.take_of_length_le (by omega)] at h2
  refine dw_ent (ent_nilrow (t:=8) 36 2 rfl) ?_
  refine ds_loop (ι:=Nat) (fun i=>⟨2,[(3,.mp 0),(8,.row 1),(35,.d (.slice 5 (r.has.map encUpd))),(36,.d (.int .i64 (r.has.map encUpd).length)),(37,.d (.int .i64 i))],
    [(0,.map false m),(1,.row 36 2 (((topsL r.has (r.has.take i)).map Upd.id).map encId))]⟩)
   (fun i=>i≤r.has.length) (fun i=>r.has.length - i) 0 (Nat.zero_le _) (ent_ren (fun j=>match j with|0=>1|1=>2|j=>j) ⟨rfl,rfl,rfl,rfl,rfl,trivial⟩ ⟨rfl,rfl,trivial⟩ rfl rfl rfl rfl rfl rfl) ?_
  intro i gi
  have lo:(((topsL r.has (r.has.take i)).map Upd.id).map encId).length≤i:=by
   rw [List.length_map,List.length_map]
   have:=List.length_filter_le (fun u:Upd=>!((r.has.flatMap Upd.parents).any fun j=>j.same u.id)) (r.has.take i)
   rw [List.length_take] at this
   unfold topsL
   omega
  by_cases hi:i < r.has.length
  ·repeat' (first|refine z0 ?_|apply ds_nil|apply dw_seq2|refine z16 ?_|apply dw_block|apply dw_skip|apply dw_exit|apply thenD_n|apply thenD_e|refine z17 ?_|refine z1 ?_|refine z3 ?_|(refine z23 ?_ ?_ <;> intro hg)|fail)
   all_goals try (exfalso;omega)
   refine ds_lookup (kd:=false) (kvs:=m) (key:=keyI r.has[i].id) mapId_t rfl rfl rfl rfl rfl rfl ?_
   have hz:=h2.zero r.has[i].id
   have hst:topsL r.has (r.has.take (i + 1))=topsL r.has (r.has.take i)++topsL r.has [r.has[i]]:=by unfold topsL;rw [List.take_succ_eq_append_getElem hi,List.filter_append]
   repeat' (first|refine z0 ?_|apply ds_nil|refine z16 ?_|apply dw_skip|apply thenD_n|apply inB_n|refine z4 ?_|(refine z23 ?_ ?_ <;> intro hg)|fail)
   ·have hd:topsL r.has [r.has[i]]=[r.has[i]]:=by unfold topsL;rw [List.filter_cons,hz.1 (by assumption)];rfl
    rw [hd] at hst
    refine ds_tradeC rfl ⟨by rw [List.length_singleton];omega,by unfold maxLen;rw [List.length_singleton];omega⟩ rfl rfl rfl rfl ?_
    repeat' (first|refine z0 ?_|apply ds_nil|refine z16 ?_|apply thenD_n|apply inB_n)
    exact⟨i + 1,hi,ent_ren (fun j=>match j with|1=>3|j=>j) ⟨rfl,rfl,rfl,rfl,rfl,trivial⟩ ⟨rfl,by rw [hst,List.map_append,List.map_append];rfl,trivial⟩ rfl rfl rfl rfl rfl rfl,by omega⟩
   ·have hd:topsL r.has [r.has[i]]=[]:=by
     unfold topsL
     rw [List.filter_cons,if_neg,List.filter_nil]
     intro h
     rw [Bool.not_eq_true'] at h
     exact absurd (hz.2 h) (by assumption)
    rw [hd,List.append_nil] at hst
    exact⟨i + 1,hi,ent_ren id ⟨rfl,rfl,rfl,rfl,rfl,trivial⟩ ⟨rfl,by rw [hst];rfl,trivial⟩ rfl rfl rfl rfl rfl rfl,by omega⟩
  ·rw [List.take_of_length_le (by omega)]
   repeat' (first|refine z0 ?_|apply ds_nil|apply dw_seq2|refine z16 ?_|apply dw_block|apply dw_skip|apply dw_exit|apply thenD_n|apply thenD_e|refine z17 ?_|refine z1 ?_|refine z3 ?_|(refine z23 ?_ ?_ <;> intro hg)|fail)
   all_goals try (exfalso;omega)
   refine dw_ent (ent_seal 2 rfl rfl rfl) ?_
   repeat' (apply dw_ret)
   exact⟨.inl rfl,_,rfl,rfl,rfl⟩

theorem flat_len {α:Type} (f:Upd→List α) (n:Nat):∀ (l:List Upd),(∀ u∈l,(f u).length≤n)→(l.flatMap f).length≤l.length * n
 | [],_=>Nat.zero_le _
 | u::l,h=>by
  rw [List.flatMap_cons,List.length_append,List.length_cons,Nat.add_mul,Nat.one_mul]
  have h1:=h u (List.mem_cons_self ..)
  have h2:=flat_len f n l fun v hv=>h v (List.mem_cons_of_mem _ hv)
  omega








set_option maxHeartbeats 8000000 in
theorem sameUpdate_fn (a b:Upd):Fn 27 [elUpd a,elUpd b] (fun r=>r = .d (.bool (a.same b))):=by
 refine fnp_enter' _ Try.func27 rfl rfl (by kernel_rfl) ?_
 intro O w0 E0 β0
 have h1:=sameIds_fn a.parents b.parents
 have h2:=sameFacts_fn a.says b.says
 have h3:=sameIds_fn a.takes b.takes
 unfold Upd.same
 have e:a.id.same b.id=(decide (a.id.author=b.id.author) && (decide (a.id.number=b.id.number) && true)):=by unfold UId.same;rw [Bool.and_true]
 rw [e]
 generalize sameL UId.same a.parents b.parents=x1 at h1 ⊢
 generalize sameL Fct.same a.says b.says=x2 at h2 ⊢
 generalize sameL UId.same a.takes b.takes=x3 at h3 ⊢
 repeat' (first|refine z0 ?_|refine z12 ?_|apply ds_nil|apply dw_seq2|refine z16 ?_|apply dw_ret|apply thenD_n|refine z21 ?_ (hc:=by apply h1)|refine z21 ?_ (hc:=by apply h2)|refine z21 ?_ (hc:=by apply h3)|refine z1 ?_|((fail_if_success (apply ds_known;exact rfl));apply ds_guardB;exact rfl;exact rfl;exact rfl;all_goals intro hg))
 all_goals exact ret_b rfl (by simp_all)
set_option maxHeartbeats 8000000 in
theorem fact_fn (p:Int) (l:List Int):Fn 123 [.d (.int .i64 p),.d (.slice 1 (l.map encI))] (fun r=>r=elFct ⟨p,l⟩):=by
 refine fnp_enter' _ Try.func123 rfl rfl (by kernel_rfl) ?_
 intro O w0 E0 β0
 repeat' (first|refine z0 ?_|apply ds_nil|apply dw_seq2|refine z16 ?_|apply dw_ret|apply thenD_n|refine z1 ?_|refine z3 ?_|fail)
 exact⟨.inl rfl,_,rfl,rfl,rfl⟩
def firstU:Upd:=⟨⟨0,1⟩,[],[⟨0,[1,2]⟩,⟨0,[2,3]⟩],[]⟩
def secondU:Upd:=⟨⟨1,1⟩,[⟨0,1⟩],[⟨0,[4,5]⟩],[⟨0,1⟩]⟩
set_option maxHeartbeats 8000000 in
theorem pairs_fn:Fn 153 [] (fun r=>r = .d (.slice 2 (firstU.says.map encFct))):=by
 refine fnp_enter' _ Try.func153 rfl rfl (by kernel_rfl) ?_
 intro O w0 E0 β0
 have h1:=fact_fn 0 [1,2]
 have h2:=fact_fn 0 [2,3]
 repeat' (first|refine z0 ?_|apply ds_nil|apply dw_seq2|refine z16 ?_|apply dw_ret|apply thenD_n|refine z21 ?_ (hc:=by apply h1)|refine z21 ?_ (hc:=by apply h2)|refine z4 ?_|fail)
 exact⟨.inl rfl,_,rfl,rfl,rfl⟩
set_option maxHeartbeats 8000000 in
theorem first_fn:Fn 91 [] (fun r=>r=elUpd firstU):=by
 refine fnp_enter' _ Try.func91 rfl rfl (by kernel_rfl) ?_
 intro O w0 E0 β0
 repeat' (first|refine z0 ?_|apply ds_nil|apply dw_seq2|refine z16 ?_|apply thenD_n|refine z21 ?_ (hc:=by apply pairs_fn)|refine z1 ?_|refine z3 ?_|fail)
 refine dw_ent (ent_cellnil 0 2 2 rfl rfl rfl) ?_
 refine dw_ent (ent_cellnil 0 4 2 rfl rfl rfl) ?_
 repeat' (apply dw_ret)
 exact⟨.inl rfl,_,rfl,rfl,rfl⟩
set_option maxHeartbeats 8000000 in
theorem second_fn:Fn 90 [] (fun r=>r=elUpd secondU):=by
 refine fnp_enter' _ Try.func90 rfl rfl (by kernel_rfl) ?_
 intro O w0 E0 β0
 have h1:=fact_fn 0 [4,5]
 repeat' (first|refine z0 ?_|apply ds_nil|apply dw_seq2|refine z16 ?_|apply dw_ret|apply thenD_n|refine z21 ?_ (hc:=by apply h1)|refine z1 ?_|refine z3 ?_|refine z4 ?_|fail)
 exact⟨.inl rfl,_,rfl,rfl,rfl⟩
end Go.Proofs.Ytapciiffpnociaa
