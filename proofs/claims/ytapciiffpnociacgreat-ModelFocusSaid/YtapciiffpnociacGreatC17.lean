/- Several texts in one: StrC StrD StrE StrF StrR. Condition: none. -/
import Derived.Test.YtapciiffpnociacGreatC15
import Derived.Test.YtapciiffpnociacGreatC08
import Derived.Test.YtapciiffpnociacGreatC16
import Derived.Test.YtapciiffpnociacGreatC11
import Derived.Test.YtapciiffpnociacGreatC09
import Derived.Test.YtapciiffpnociacGreatC14

/- The program's Hangs: what it hands over, one by one. Condition: none. -/
namespace Go.Proofs.YtapciiffpnociacGreat
open Go Go.RowKit
attribute [local irreducible] DW DS DL DQ Ev FnOk FnP thenD inBlockD DWr
def hangsX (r:Rul):List (List SV):=(r.body.filter hangsB).map fun x=>[.d (.int .i64 x.pred),.d (.bool (strictB r.fold x))]
def cntH (r:Rul) (i:Nat):Nat:=((r.body.take i).filter hangsB).length
set_option maxHeartbeats 8000000 in
theorem hangs_fn (r:Rul):Fn 120 [elRul r] (fun res=>res = .fn 153 [.pd (encRul r)]):=by
 refine fnp_enter' _ Tryz.func120 rfl rfl (by kernel_rfl) ?_
 intro O w0 E0 β0
 repeat' (first|refine z0 ?_|apply ds_nil|apply dw_seq2|refine z16 ?_|apply thenD_n|refine z1 ?_|fail)
 refine dw_ent (ent_freeze (ds:=encRul r) 2 0 rfl rfl) ?_
 repeat' (apply dw_ret)
 exact⟨.inl rfl,_,rfl,rfl,rfl⟩
theorem hangsX_get {r:Rul} {j:Nat} (h:j < (hangsX r).length):∃ hj:j < (r.body.filter hangsB).length,(hangsX r)[j]=[.d (.int .i64 ((r.body.filter hangsB)[j]).pred),.d (.bool (strictB r.fold (r.body.filter hangsB)[j]))]:=by
 have h':j < (r.body.filter hangsB).length:=by unfold hangsX at h;rwa [List.length_map] at h
 exact⟨h',by simp [hangsX]⟩
theorem hangsX_len (r:Rul):(hangsX r).length=(r.body.filter hangsB).length:=by unfold hangsX;rw [List.length_map]
theorem hangsX_each (r:Rul):∀ x∈hangsX r,2=x.length∧SV.lowL 0 x=true:=by
 intro x hx
 unfold hangsX at hx
 obtain⟨y,_,rfl⟩:=List.mem_map.1 hx
 exact⟨rfl,rfl⟩
theorem cntH_skip {r:Rul} {i:Nat} (hi:i < r.body.length) (h:hangsB r.body[i]=false):cntH r (i + 1)=cntH r i:=by
 unfold cntH
 rw [List.take_succ_eq_append_getElem hi,List.filter_append,List.length_append]
 simp [h]
theorem cntH_step {r:Rul} {i:Nat} (hi:i < r.body.length) (h:hangsB r.body[i]=true):cntH r (i + 1)=cntH r i + 1:=by
 unfold cntH
 rw [List.take_succ_eq_append_getElem hi,List.filter_append,List.length_append]
 simp [h]
theorem cntH_all {r:Rul} {i:Nat} (hi:r.body.length≤i):cntH r i=(hangsX r).length:=by
 unfold cntH hangsX
 rw [List.take_of_length_le hi,List.length_map]
theorem hangsX_at {r:Rul} {i:Nat} (hi:i < r.body.length) (h:hangsB r.body[i]=true):∃ hc:cntH r i < (hangsX r).length,(hangsX r)[cntH r i]=[.d (.int .i64 r.body[i].pred),.d (.bool (strictB r.fold r.body[i]))]:=by
 have hsplit:r.body.filter hangsB=(r.body.take i).filter hangsB++r.body[i]::(r.body.drop (i + 1)).filter hangsB:=by
  conv=>lhs;rw [← List.take_append_drop i r.body,List.filter_append,List.drop_eq_getElem_cons hi]
  rw [List.filter_cons_of_pos h]
 have h1:(hangsX r)[cntH r i]? = some [.d (.int .i64 r.body[i].pred),.d (.bool (strictB r.fold r.body[i]))]:=by
  unfold hangsX cntH
  rw [hsplit,List.getElem?_map,List.getElem?_append_right (Nat.le_refl _),Nat.sub_self]
  rfl
 obtain⟨h2,h3⟩:=List.getElem?_eq_some_iff.1 h1
 exact⟨h2,h3⟩
abbrev hgL (yv pv bv:Value) (n i:Nat):Sl:=[(0,.val yv),(1,.val pv),(6,.val bv),(7,.d (.int .i64 n)),(8,.d (.int .i64 i))]
set_option maxHeartbeats 4000000 in
set_option maxHeartbeats 8000000 in
theorem hangs1_seq (r:Rul):SeqD Tryz.prog 153 [.pd (encRul r)] (hangsX r):=by
 refine⟨by kernel_rfl,?_⟩
 intro X e0 W0 lb l J Jx hX hlb hJ0 hfr hJb hJxb hy
 match lb,hlb with
 | [pv],⟨hpd,_⟩ =>
  have hpd':=hpd
  obtain⟨b,off,hpv,hb,hnX,hcells⟩:=hpd'
  obtain⟨u3,hc3,hr3⟩:=hcells 3 (by show 3 < 5;omega)
  have hr3:RepC X W0 u3 (.slice 4 (r.body.map encLtl)):=hr3
  obtain⟨ao,cap,hu3,hcap,hmax,_⟩:=hr3.slice_inv
  have hlen:(r.body.map encLtl).length=r.body.length:=List.length_map _
  rw [hlen] at hu3 hcap
  have hbl:r.body.length≤maxLen:=by omega
  have hbm:r.body.length≤9223372036854775807:=by unfold maxLen at hbl;omega
  refine callsIn_wide.1 (callsIn_of_wp_marks (F:=Fence.wide) (n:=0) Tryz.func153 rfl trivial ?_)
  have hF0:Flat 34 [(0,.val (.func (.yield l) #[] #[])),(1,.val pv)] { tmps:=(#[.func (.yield l) #[] #[]]++[pv].toArray)++Array.replicate 32 undef,defers:=[] }:=by
   refine⟨by simp,rfl,fun t X e w=>?_⟩
   rw [Sl.get_cons]
   split
   ·rename_i h;subst h;simp [Rel]
   ·rw [Sl.get_cons]
    split
    ·rename_i h;subst h;simp [Rel]
    ·trivial
  have hret:∀ (ex:Exit) (a:Act) (W:World),(ex = .normal∨ex = .ret)→a.defers=[]→(J (hangsX r).length W∨Jx W) →
    bodyPostM Fence.wide 0 Tryz.prog Tryz.f153 (fun en W'=>(∃ v,en = .returned v)∧(J (hangsX r).length W'∨Jx W')) ex a W:=by
   rintro ex a W hx hd hj
   have:LeavesInM Fence.wide 0 Tryz.prog Tryz.f153 a.tmps (fun en W'=>(∃ v,en = .returned v)∧(J (hangsX r).length W'∨Jx W')) a.defers .returning W:=by
    rw [hd]
    exact⟨.tuple #[],by simp [results,Tryz.f153],⟨_,rfl⟩,hj⟩
   rcases hx with rfl|rfl <;> exact this
  obtain⟨QQ,hQQ⟩:∃ QQ,QQ=bodyPostM Fence.wide 0 Tryz.prog Tryz.f153 (fun en W'=>(∃ v,en = .returned v)∧(J (hangsX r).length W'∨Jx W')):=⟨_,rfl⟩
  rw [← hQQ] at hret ⊢
  clear hQQ
  refine wpIn_seq (wpIn_mono (Q:=fun ex a' w'=>ex = .normal∧Flat 34 (hgL (.func (.yield l) #[] #[]) pv u3 r.body.length 0) a'∧Below W0.heap.size W0 w') ?_ ?_)
  ·have m0:=hF0.models (P:=Tryz.prog) (τ:=tab) (τok:=tab_ok) (O:=X) W0 hX
   refine dwr_run m0 (dwr_of rfl ?_)
   subst hpv hu3
   apply ds_region;exact rfl
   refine ds_ev (ev_fa_val (l:=[(0,3,1),(1,33,1),(2,3,1),(3,34,1),(4,3,1)]) rfl rfl rfl 1 rfl) rfl rfl ?_
   refine ds_ev (ev_ld_val (u:=.slice ao r.body.length cap) 5 rfl rfl rfl hc3 (fun _=>id)) rfl rfl ?_
   refine ds_ev (ev_len_val 6 (t':=40) rfl rfl hbl) rfl rfl ?_
   repeat' (first|refine z0 ?_|apply ds_nil)
   intro e a w m
   exact⟨rfl,m.flatten ⟨rfl,rfl,rfl,rfl,rfl,trivial⟩ rfl,m.toHeap.it_below⟩
  rintro ex a0 w0 ⟨rfl,hf0,hbl0⟩
  refine wpIn_block (wpIn_loop_ghost (fun n a W=>∃ i,i≤r.body.length∧n=r.body.length - i∧Flat 34 (hgL (.func (.yield l) #[] #[]) pv u3 r.body.length i) a∧J (cntH r i) W) r.body.length ⟨0,Nat.zero_le _,rfl,hf0,hJb _ _ _ hJ0 hbl0⟩ ?_)
  rintro n a W ⟨i,hi,rfl,hf,hj⟩
  obtain⟨hsz,hfrW⟩:=hfr _ _ hj
  have hOW:∀ b,Oit X W0 W b→b < W.heap.size:=fun b h=>h.1
  have m0:=hf.models (P:=Tryz.prog) (τ:=tab) (τok:=tab_ok) (O:=Oit X W0 W) W hOW
  have hv1:∀ {k:Nat} {L:Sl} {H:Hp} {e:Env} {a:Act} {w:World},Models (Γit Tryz.prog tab tab_ok (Oit X W0 W) W 34) (lo k) L H e a w→L.get 1 = .val pv→Models (Γit Tryz.prog tab tab_ok (Oit X W0 W) W 34) (lo k) ((1,.pd (encRul r))::L) H e a w :=
   fun m h=>m.val_as 1 h (it_rel hsz hfrW rfl hpd m.toHeap)
  have hv6:∀ {k:Nat} {L:Sl} {H:Hp} {e:Env} {a:Act} {w:World},Models (Γit Tryz.prog tab tab_ok (Oit X W0 W) W 34) (lo k) L H e a w→L.get 6 = .val u3→Models (Γit Tryz.prog tab tab_ok (Oit X W0 W) W 34) (lo k) ((6,.d (.slice 4 (r.body.map encLtl)))::L) H e a w :=
   fun m h=>m.val_as 6 h (it_rel (e0:=e0) (s:=.d (.slice 4 (r.body.map encLtl))) hsz hfrW rfl hr3 m.toHeap)
  refine dwr_run m0 ?_
  have hr5:∀ (c5:Code) (a:Act) (W':World),i < r.body.length→Flat 34 (hgL (.func (.yield l) #[] #[]) pv u3 r.body.length i) a→J (cntH r (i + 1)) W' →
    DW (Γit Tryz.prog tab tab_ok X W' 34) c5 (fun ex _ L _=>ex = .normal∧Kepts L (hgL (.func (.yield l) #[] #[]) pv u3 r.body.length (i + 1))) 0 (hgL (.func (.yield l) #[] #[]) pv u3 r.body.length i) [] →
    Code.wpIn Fence.wide 0 Tryz.prog c5 (Exit.then (fun a' w'=>∃ n',n' < r.body.length - i∧∃ i,i≤r.body.length∧n' = r.body.length - i∧Flat 34 (hgL (.func (.yield l) #[] #[]) pv u3 r.body.length i) a'∧J (cntH r i) w') (Exit.inBlock 0 (fun ex a w=>QQ ex a w))) a W':=by
   intro c5 a W' hlt hf' hj' h5
   have hO':∀ b,X b→b < W'.heap.size:=fun b h=>Nat.lt_of_lt_of_le (hX b h) (hfr _ _ hj').1
   have m1:=hf'.models (P:=Tryz.prog) (τ:=tab) (τok:=tab_ok) (O:=X) W' hO'
   refine wpIn_mono (dw_run m1 h5) ?_
   rintro ex a2 w2 (⟨k2,L2,H2,e2,m2,rfl,hk2⟩|⟨_,_,_,_,hv,_⟩)
   ·exact⟨r.body.length - (i + 1),by omega,i + 1,by omega,rfl,m2.flatten hk2 rfl,hJb _ _ _ hj' m2.toHeap.it_below⟩
   ·exact hv.elim
  refine dwr_seq rfl ?_
  repeat' (first|refine z0 ?_|apply ds_nil|refine z16 ?_|apply thenD_n)
  refine dwr_seq rfl ?_
  by_cases hlt:i < r.body.length
  rotate_left
  ·repeat' (first|apply dw_skip|apply dw_exit|apply thenD_n|apply thenD_e|(refine z23 ?_ ?_ <;> intro hg)|fail)
   all_goals try (exfalso;omega)
   intro e a w m
   refine hret .normal a w (.inl rfl) (m.flatten (Ls:=[]) trivial rfl).defers (.inl ?_)
   rw [← cntH_all (r:=r) (i:=i) (by omega)]
   exact hJb _ _ _ hj m.toHeap.it_below
  repeat' (first|apply dw_skip|apply dw_exit|apply thenD_n|apply thenD_e|(refine z23 ?_ ?_ <;> intro hg)|fail)
  all_goals try (exfalso;omega)
  refine dwr_seqR (dwr_block ?_)
  refine dwr_seq rfl ?_
  apply ds_region;exact rfl
  refine ds_ev (ev_val ((6,.d (.slice 4 (r.body.map encLtl)))::_) (fun e a w m=>hv6 m rfl) (ev_index_map (f:=encLtl) (l:=r.body) (t':=40) rfl rfl rfl rfl rfl rfl hlt)) rfl rfl ?_
  repeat' (first|refine z0 ?_|apply ds_nil|apply thenD_n|refine z1 ?_|refine z3 ?_|fail)
  refine dwr_seq rfl ?_
  repeat' (first|refine z0 ?_|refine z12 ?_|apply ds_nil|apply dw_seq2|refine z16 ?_|apply dw_skip|apply dw_exit|refine z19 ?_|apply thenD_n|apply thenD_e|(refine z23 ?_ ?_ <;> intro hg)|((fail_if_success (apply ds_known;exact rfl));apply ds_guardP;exact rfl;exact rfl;exact rfl;all_goals intro hg))
  ·intro e a w m
   simp only [Exit.inBlock,if_true,Exit.then]
   refine hr5 _ a w hlt (m.flatten ⟨rfl,rfl,rfl,rfl,rfl,trivial⟩ rfl) (by rw [cntH_skip hlt (by unfold hangsB;simp_all)];exact hJb _ _ _ hj m.toHeap.it_below) ?_
   repeat' (first|refine z0 ?_|apply ds_nil|refine z16 ?_|fail)
   exact⟨rfl,rfl,rfl,rfl,rfl,rfl,trivial⟩
  all_goals
   have hyl:hangsB r.body[i]=true:=by
    have h12:r.body[i].kind=1∨r.body[i].kind=2:=by omega
    unfold hangsB
    rcases h12 with h|h <;> simp [h]
   obtain⟨hc,hx⟩:=hangsX_at hlt hyl
   refine dwr_seqR (dwr_yieldL (l:=l) (d:=31) (N:=34) (pre:=[_,_,_,_,_,_,_,_,_,_,_]) (post:=[_]) (by rfl) (by rfl) (by rfl) (by rfl) (hgL (.func (.yield l) #[] #[]) pv u3 r.body.length i) rfl (fun b=>(32,.d (.bool (!b)))::hgL (.func (.yield l) #[] #[]) pv u3 r.body.length i) (J (cntH r (i + 1))) Jx ?_ ?_ ?_)
   ·repeat' (first|(first|refine z0 ?_|refine z12 ?_|apply ds_nil|((fail_if_success (apply ds_known;exact rfl));apply ds_guardP;exact rfl;exact rfl;exact rfl;all_goals intro hg))|(refine ds_ev (ev_val ((1,.pd (encRul r))::_) (fun e a w m=>hv1 m rfl) (ev_field_pd (l:=[(0,3,1),(1,33,1),(2,3,1),(3,34,1),(4,3,1)]) rfl rfl rfl rfl)) rfl rfl ?_))
    all_goals
     refine⟨rfl,rfl,⟨rfl,rfl,rfl,rfl,rfl,trivial⟩,fun e W' vs hb1 hvs=>?_⟩
     have:=hy (cntH r i) hc W W' vs hj hb1 ⟨e,by rw [hx];unfold strictB;first|(rw [decide_eq_true (by assumption),Bool.true_or];exact hvs)|(rw [decide_eq_false (by assumption),Bool.false_or];exact hvs)⟩
     rw [← cntH_step hlt hyl] at this
     exact this
   ·intro b W'
    repeat' (first|refine z0 ?_|apply ds_nil)
    exact⟨rfl,⟨rfl,rfl,rfl,rfl,rfl,rfl,trivial⟩,rfl⟩
   ·rintro b a' W' hfl ⟨W1,hb1,hj1⟩
    have hfl':Flat 34 (hgL (.func (.yield l) #[] #[]) pv u3 r.body.length i) a':=⟨hfl.len,hfl.defers,fun t X e w=>by
     have:=hfl.slot t X e w
     rw [Sl.get_cons] at this
     split at this
     ·rename_i h;subst h;trivial
     ·exact this⟩
    have hv:a'.eval (.tmp 32) = .bool (!b):=by
     have h1:=hfl.slot 32 (fun _=>False) ⟨fun _=>0,fun _=>undef,lo 0⟩ W'
     have h1:RepC _ W' (a'.tmps.getD 32 undef) (.bool (!b)):=h1
     show a'.tmps.getD 32 undef=_
     generalize a'.tmps.getD 32 undef=v at h1 ⊢
     cases h1
     rfl
    rcases hj1 with ⟨rfl,hj1⟩|⟨rfl,hj1⟩
    ·refine wpIn_cond_false hv (wpIn_skip ?_)
     refine hr5 _ a' W' hlt hfl' (hJb _ _ _ hj1 hb1) ?_
     repeat' (first|refine z0 ?_|apply ds_nil|refine z16 ?_|fail)
     exact⟨rfl,rfl,rfl,rfl,rfl,rfl,trivial⟩
    ·refine wpIn_cond_true hv (wpIn_ret ?_)
     exact hret .ret a' W' (.inr rfl) hfl.defers (.inr (hJxb _ _ hj1 hb1))
end Go.Proofs.YtapciiffpnociacGreat

/- The program's Raw. Condition: none. -/
namespace Go.Proofs.YtapciiffpnociacGreat
open Go Go.RowKit
attribute [local irreducible] DW DS DL DQ Ev FnOk FnP thenD inBlockD DWr
def predsOk (n:Nat) (l:List Rul):Prop:=∀ r∈l,(0≤r.pred∧r.pred < n)∧∀ x∈r.body,hangsB x=true→0≤x.pred∧x.pred < n
def rawSV:Option (List Int)→SV
 | none=>.tup [.d (.slice 1 []),.d (.bool false)]
 | some lv=>.tup [.d (.slice 1 (lv.map encI)),.d (.bool true)]
abbrev prgBk (p:Prg):HB:=.blk 26 [.d (.slice 1 (p.arity.map encI)),.d (.slice 1 (p.names.map encT)),.d (.slice 5 (p.rules.map encRul))]
abbrev rawH (p:Prg) (lv:List Int) (ch:Bool):Hp:=[(0,prgBk p),(1,.blk 22 [.nils]),(2,.blk 4 [.d (.bool false)]),(3,.row 3 1 (lv.map encI)),(4,.blk 22 [.row 3]),(5,.blk 4 [.d (.bool ch)])]
set_option maxHeartbeats 8000000 in
theorem sraw_fn (p:Prg) (h10:p.arity.length≤10) (h12:p.rules.length≤12) (hp:predsOk p.arity.length p.rules):Fn 97 [elPrg p] (fun res=>res=rawSV (rawL p)):=by
 refine fnp_enter' _ Tryz.func97 rfl rfl (by kernel_rfl) ?_
 intro O w0 E0 β0
 have la:(p.arity.map encI).length=p.arity.length:=List.length_map _
 have lr:(p.rules.map encRul).length=p.rules.length:=List.length_map _
 repeat' (first|refine z0 ?_|apply ds_nil|apply dw_seq2|refine z16 ?_|apply thenD_n|refine z1 ?_|fail)
 refine ds_mk ((zeros p.arity.length).map encI) rfl rfl (by rw [la]) rfl rfl rfl rfl rfl rfl (by show 8 * _≤_;omega) (by unfold maxLen;omega) (by unfold zeros;rw [List.map_replicate];rfl) rfl rfl ?_
 repeat' (first|apply ds_nil|apply dw_seq2|refine z16 ?_|apply dw_block|apply thenD_n|refine z1 ?_|refine z3 ?_|fail)
 refine ds_loop (ι:=Bool × List Int × Nat) (fun x=>⟨6,[(1,.loc 0 0),(2,.loc 1 0),(3,.loc 2 0),(4,.loc 4 0),(5,.loc 5 0)],rawH p x.2.1 x.1⟩)
  (fun x=>x.2.1.length=p.arity.length∧(∀ v∈x.2.1,0≤v∧v≤p.arity.length)∧(x.1=true→rawL p=rawIter p.arity.length p.rules x.2.2 x.2.1∧gap p.arity.length x.2.1 < x.2.2)∧(x.1=false→rawL p=some x.2.1)) (fun x=>x.2.2)
  (true,zeros p.arity.length,p.arity.length * p.arity.length + 1) ⟨by simp [zeros],fun v hv=>by rw [List.eq_of_mem_replicate hv];constructor <;> omega,fun _=>⟨rfl,by rw [gap_zeros];exact Nat.lt_succ_self _⟩,fun h=>by cases h⟩
  (ent_ren id ⟨rfl,rfl,rfl,rfl,rfl,trivial⟩ ⟨rfl,rfl,rfl,rfl,rfl,rfl,trivial⟩ rfl rfl rfl rfl rfl rfl) ?_
 rintro⟨ch,lv0,m⟩ ⟨g1,g2,g3,g4⟩
 dsimp only at g1 g2 g3 g4 ⊢
 cases ch with
 | false =>
  have g4:=g4 rfl
  repeat' (first|refine z0 ?_|apply ds_nil|apply dw_seq2|refine z16 ?_|apply dw_exit|refine z19 ?_|apply thenD_n|apply thenD_e|refine z17 ?_|refine z3 ?_|fail)
  refine dw_ent (ent_cellseal 1 0 3 rfl rfl rfl rfl rfl) ?_
  repeat' (apply dw_ret)
  exact⟨.inl rfl,_,rfl,rfl,by rw [g4];rfl⟩
 | true =>
  obtain⟨g5,g6⟩:=g3 rfl
  obtain⟨m,rfl⟩:∃ m',m=m' + 1:=⟨m - 1,by omega⟩
  repeat' (first|refine z0 ?_|apply ds_nil|apply dw_seq2|refine z16 ?_|apply dw_block|apply dw_skip|refine z18 ?_|apply thenD_n|refine z3 ?_|fail)
  refine ds_loop (ι:=Nat × List Int × Bool) (fun x=>⟨6,[(1,.loc 0 0),(2,.loc 1 0),(3,.loc 2 0),(4,.loc 4 0),(5,.loc 5 0),(17,.d (.slice 5 (p.rules.map encRul))),(18,.d (.int .i64 (p.rules.map encRul).length)),(19,.d (.int .i64 x.1))],rawH p x.2.1 x.2.2⟩)
   (fun x=>x.1≤p.rules.length∧rawRound p.arity.length p.rules lv0=(p.rules.drop x.1).foldl (rawRule p.arity.length) (some (x.2.1,x.2.2))∧Rs p.arity.length lv0 x.2.1 x.2.2) (fun x=>p.rules.length - x.1)
   (0,lv0,false) ⟨Nat.zero_le _,rfl,Rs.refl g2⟩ (ent_ren id ⟨rfl,rfl,rfl,rfl,rfl,rfl,rfl,rfl,trivial⟩ ⟨rfl,rfl,rfl,rfl,rfl,rfl,trivial⟩ rfl rfl rfl rfl rfl rfl) ?_
  rintro⟨i,lv,ch⟩ ⟨f1,f2,f3⟩
  dsimp only at f1 f2 f3 ⊢
  have ll:(lv.map encI).length=lv.length:=List.length_map _
  by_cases hi:i < p.rules.length
  ·repeat' (first|refine z0 ?_|apply ds_nil|apply dw_seq2|refine z16 ?_|apply dw_block|apply dw_skip|apply dw_exit|apply thenD_n|apply thenD_e|apply inB_n|refine z17 ?_|refine z21 ?_ (hc:=by apply hangs_fn)|refine z1 ?_|refine z3 ?_|(refine z23 ?_ ?_ <;> intro hg)|fail)
   all_goals try (exfalso;omega)
   obtain⟨hp1,hp2⟩:=hp p.rules[i] (List.getElem_mem hi)
   have hstep:(p.rules.drop i).foldl (rawRule p.arity.length) (some (lv,ch))=(p.rules.drop (i + 1)).foldl (rawRule p.arity.length) (((p.rules[i].body.filter hangsB).drop 0).foldl (rawStep p.arity.length p.rules[i].fold p.rules[i].pred) (some (lv,ch))):=by
    rw [List.drop_eq_getElem_cons hi,List.foldl_cons,List.drop_zero];rfl
   rw [hstep] at f2
   clear hstep
   generalize p.rules[i]=r at hp1 hp2 f2 ⊢
   refine dw_range (hangsX r) rfl rfl (hangs1_seq r) (hangsX_each r) (by simp) [(1,.loc 0 0),(2,.loc 1 0),(3,.loc 2 0),(4,.loc 4 0),(5,.loc 5 0),(7,.loc 6 0),(17,.d (.slice 5 (p.rules.map encRul))),(18,.d (.int .i64 (p.rules.map encRul).length)),(19,.d (.int .i64 i))] ⟨rfl,rfl,rfl,rfl,rfl,rfl,rfl,rfl,rfl,trivial⟩ rfl
    (ι:=List Int × Bool) (fun _ x=>(7,(6,ruleB r)::rawH p x.1 x.2))
    (fun j x=>rawRound p.arity.length p.rules lv0=(p.rules.drop (i + 1)).foldl (rawRule p.arity.length) (((r.body.filter hangsB).drop j).foldl (rawStep p.arity.length r.fold r.pred) (some x))∧Rs p.arity.length lv0 x.1 x.2)
    (lv,ch) ⟨f2,f3⟩ rfl ?_ ?_
   ·rintro j hj ⟨lv1,ch1⟩ ⟨e1,e2⟩ O1 w1 E1 β1 l
    obtain⟨hj',hx⟩:=hangsX_get hj
    rw [hx]
    dsimp only at e1 e2 ⊢
    have hxm:=List.getElem_mem hj'
    obtain⟨hxb,hxh⟩:=List.mem_filter.1 hxm
    obtain⟨q1,q2⟩:=hp2 _ hxb hxh
    rw [List.drop_eq_getElem_cons hj',List.foldl_cons] at e1
    generalize (r.body.filter hangsB)[j]=x at hxb hxh q1 q2 e1 ⊢
    have ll1:(lv1.map encI).length=lv1.length:=List.length_map _
    have hl1:=e2.1
    have hA:=e2.2.1 (lv1[x.pred.toNat]'(by omega)) (List.getElem_mem _)
    have hw:=rawStep_if (n:=p.arity.length) (fold:=r.fold) (pred:=r.pred) (ch:=ch1) (x:=x) (lv:=lv1) (by omega) (by omega)
    have hnx:=fun lv' ch'=>Rs.next (fold:=r.fold) (pred:=r.pred) (x:=x) (lv':=lv') (ch':=ch') e2 (by omega)
    unfold liftS at hw
    change DW _ _ _ _ ((26,.d (.bool (strictB r.fold x)))::(25,.d (.int .i64 x.pred))::_) _
    generalize strictB r.fold x=sb at hw ⊢
    repeat' (first|refine z0 ?_|apply ds_nil|apply dw_seq2|refine z16 ?_|apply thenD_n)
    refine⟨rfl,fun O2 w2 E2 β2=>?_⟩
    cases sb with
    | true =>
     rw [if_pos rfl] at hw
     repeat' (first|refine z0 ?_|apply ds_nil|(apply ds_stP;exact rfl;exact rfl;(apply hv_get;(omega));exact rfl;exact rfl;(exact hv_set rfl);exact rfl;exact rfl;exact rfl;exact rfl;exact rfl;exact rfl)|apply dw_seq2|refine z16 ?_|apply dw_block|apply dw_skip|apply dw_ret|refine z18 ?_|apply thenD_n|apply inB_n|apply inB_r|refine z3 ?_|(refine z23 ?_ ?_ <;> intro hg)|fail)
     all_goals try (exfalso;omega)
     all_goals first
      | exact⟨(lv1.set r.pred.toNat (lv1[x.pred.toNat]'(by omega) + 1),true),⟨by rw [e1,hw,if_neg (by omega),if_pos (by omega)],hnx _ _ (by rw [hw,if_neg (by omega),if_pos (by omega)])⟩,ent_ren id trivial ⟨rfl,rfl,rfl,rfl,rfl,rfl,rfl,trivial⟩ rfl rfl rfl rfl rfl rfl⟩
      | exact⟨(lv1,ch1),⟨by rw [e1,hw,if_neg (by omega),if_neg (by omega)],e2⟩,ent_ren id trivial ⟨rfl,rfl,rfl,rfl,rfl,rfl,rfl,trivial⟩ rfl rfl rfl rfl rfl rfl⟩
      | (refine⟨7,[(0,prgBk p),(1,.blk 22 [.d (.slice 1 [])]),(2,.blk 4 [.d (.bool false)])],ent_trans (ent_cellnil 1 0 1 rfl rfl rfl) (ent_ren id trivial ⟨rfl,rfl,rfl,trivial⟩ rfl rfl rfl rfl rfl rfl),?_⟩
         repeat' (first|apply thenD_r|apply inB_r)
         exact⟨.inl rfl,_,rfl,rfl,by rw [g5,rawIter,e1,hw,if_pos (by omega),rawStep_none,rawRule_none];rfl⟩)
    | false =>
     simp only [Bool.false_eq_true,if_false,Int.add_zero] at hw
     repeat' (first|refine z0 ?_|apply ds_nil|(apply ds_stP;exact rfl;exact rfl;(apply hv_get;(omega));exact rfl;exact rfl;(exact hv_set rfl);exact rfl;exact rfl;exact rfl;exact rfl;exact rfl;exact rfl)|apply dw_seq2|refine z16 ?_|apply dw_block|apply dw_skip|apply dw_ret|refine z19 ?_|apply thenD_n|apply inB_n|apply inB_r|refine z3 ?_|(refine z23 ?_ ?_ <;> intro hg)|fail)
     all_goals try (exfalso;omega)
     all_goals first
      | exact⟨(lv1.set r.pred.toNat (lv1[x.pred.toNat]'(by omega)),true),⟨by rw [e1,hw,if_neg (by omega),if_pos (by omega)],hnx _ _ (by rw [hw,if_neg (by omega),if_pos (by omega)])⟩,ent_ren id trivial ⟨rfl,rfl,rfl,rfl,rfl,rfl,rfl,trivial⟩ rfl rfl rfl rfl rfl rfl⟩
      | exact⟨(lv1,ch1),⟨by rw [e1,hw,if_neg (by omega),if_neg (by omega)],e2⟩,ent_ren id trivial ⟨rfl,rfl,rfl,rfl,rfl,rfl,rfl,trivial⟩ rfl rfl rfl rfl rfl rfl⟩
      | (refine⟨7,[(0,prgBk p),(1,.blk 22 [.d (.slice 1 [])]),(2,.blk 4 [.d (.bool false)])],ent_trans (ent_cellnil 1 0 1 rfl rfl rfl) (ent_ren id trivial ⟨rfl,rfl,rfl,trivial⟩ rfl rfl rfl rfl rfl rfl),?_⟩
         repeat' fail
         exact⟨.inl rfl,_,rfl,rfl,by rw [g5,rawIter,e1,hw,if_pos (by omega),rawStep_none,rawRule_none];rfl⟩)
   ·rintro⟨lv1,ch1⟩ ⟨e1,e2⟩
    rw [hangsX_len,List.drop_of_length_le (Nat.le_refl _)] at e1
    repeat' (first|refine z0 ?_|apply ds_nil|refine z16 ?_|apply thenD_n|apply inB_n)
    exact⟨(i + 1,lv1,ch1),⟨by dsimp only;omega,e1,e2⟩,ent_ren id ⟨rfl,rfl,rfl,rfl,rfl,rfl,rfl,rfl,trivial⟩ ⟨rfl,rfl,rfl,rfl,rfl,rfl,trivial⟩ rfl rfl rfl rfl rfl rfl,by show p.rules.length - (i + 1) < p.rules.length - i;omega⟩
  ·rw [List.drop_of_length_le (by omega)] at f2
   have f2:rawRound p.arity.length p.rules lv0=some (lv,ch):=f2
   rw [rawIter,f2] at g5
   repeat' (first|refine z0 ?_|apply ds_nil|apply dw_seq2|refine z16 ?_|apply dw_block|apply dw_skip|apply dw_exit|apply thenD_n|apply thenD_e|apply inB_n|refine z17 ?_|refine z1 ?_|refine z3 ?_|(refine z23 ?_ ?_ <;> intro hg)|fail)
   all_goals try (exfalso;omega)
   refine⟨(ch,lv,m),⟨by dsimp only;rw [f3.1,g1],f3.2.1,fun h=>?_,fun h=>?_⟩,ent_ren (fun j=>match j with|5=>6|j=>j) ⟨rfl,rfl,rfl,rfl,rfl,trivial⟩ ⟨rfl,rfl,rfl,rfl,rfl,rfl,trivial⟩ rfl rfl rfl rfl rfl rfl,by show m < m + 1;omega⟩
   ·subst h
    exact⟨g5,by have:=f3.2.2.2 rfl;dsimp only;omega⟩
   ·subst h
    exact g5
end Go.Proofs.YtapciiffpnociacGreat

/- The program's needs. Condition: none. -/
namespace Go.Proofs.YtapciiffpnociacGreat
open Go Go.RowKit
attribute [local irreducible] DW DS DL DQ Ev FnOk FnP thenD inBlockD DWr
abbrev svI (v:Int):SV:=.d (.int .i64 v)
def qOk (left:List Int) (off cap:Nat) (cs:List SV):Prop:=off + cap≤cs.length∧(cs.drop off).take left.length=left.map svI∧left.length≤cap
theorem qOk.head {n:Int} {left:List Int} {off cap:Nat} {cs:List SV} (h:qOk (n::left) off cap cs):cs[off]? = some (svI n):=by
 obtain⟨h1,h2,h3⟩:=h
 have:((cs.drop off).take (n::left).length)[0]? = some (svI n):=by rw [h2];rfl
 rw [List.getElem?_take,List.getElem?_drop] at this
 simpa using this
theorem qOk.tail {n:Int} {left:List Int} {off cap:Nat} {cs:List SV} (h:qOk (n::left) off cap cs):qOk left (off + 1) (cap - 1) cs:=by
 obtain⟨h1,h2,h3⟩:=h
 simp only [List.length_cons] at h2 h3
 refine⟨by omega,?_,by omega⟩
 have h4:((cs.drop off).take (left.length + 1)).drop 1=left.map svI:=by rw [h2];rfl
 rw [List.drop_take,List.drop_drop] at h4
 simpa using h4
theorem qOk.push {x:Int} {left:List Int} {off cap:Nat} {cs:List SV} (h:qOk left off cap cs) (hr:left.length + 1≤cap):qOk (left++[x]) off cap (splice cs (off + left.length * 1) [svI x]):=by
 obtain⟨h1,h2,h3⟩:=h
 have hl:left.length≤(cs.drop off).length:=by rw [List.length_drop];omega
 refine⟨by unfold splice;simp;omega,?_,by simpa using hr⟩
 unfold splice
 rw [Nat.mul_one,List.length_append,List.length_singleton,List.map_append,← h2,List.append_assoc,List.drop_append_of_le_length (by simp;omega),List.drop_take]
 rw [show off + left.length - off=left.length by omega]
 rw [← List.append_assoc,List.take_append_of_le_length (by simp;omega),List.take_of_length_le (by simp;omega)]
 rfl
theorem qOk.grow {x:Int} {left:List Int} {off cap c':Nat} {cs:List SV} (h:qOk left off cap cs) (hr:left.length + 1≤c') :
  qOk (left++[x]) 0 c' ((cs.drop off).take (left.length * 1)++[svI x]++List.replicate ((c' - (left.length + 1)) * 1) .junk):=by
 obtain⟨h1,h2,h3⟩:=h
 rw [Nat.mul_one,Nat.mul_one,h2]
 refine⟨by simp;omega,?_,by simpa using hr⟩
 rw [List.drop_zero,List.length_append,List.length_singleton,List.take_append_of_le_length (by simp),List.take_of_length_le (by simp),List.map_append]
 rfl
abbrev ndH (q:Nat) (p:Prg) (out:List Bool) (n off cap:Nat) (cs:List SV):Hp:=[(0,prgBk p),(1,.row 4 1 (out.map encBl)),(2,.blk 50 [.row 1]),(q,.blk 3 cs),(4,.blk 22 [.sl q off n cap])]
structure Qst where
 out:List Bool
 left:List Int
 n:Nat
 off:Nat
 cap:Nat
 cs:List SV
abbrev Qst.ok (x:Qst):Prop:=x.n=x.left.length∧qOk x.left x.off x.cap x.cs∧x.cap≤maxLen∧SV.lowL 0 x.cs=true
abbrev Qst.H (p:Prg) (q:Nat) (x:Qst):Hp:=ndH q p x.out x.n x.off x.cap x.cs
theorem nd_low {p:Prg} {out:List Bool} {n off cap:Nat} {cs:List SV} (h:SV.lowL 0 cs=true):Hp.low 5 (ndH 3 p out n off cap cs)=true:=by
 have:=SV.lowL_mono 5 cs h
 simp [Hp.low,HB.low,SV.lowL,SV.low,this,Nat.blt]
theorem nd_low6 {p:Prg} {r:Rul} {out:List Bool} {n off cap:Nat} {cs:List SV} (h:SV.lowL 0 cs=true):Hp.low 6 ((5,ruleB r)::ndH 3 p out n off cap cs)=true:=by
 have:=SV.lowL_mono 6 cs h
 simp [Hp.low,HB.low,SV.lowL,SV.low,this,Nat.blt]
theorem nd_low7 {p:Prg} {r:Rul} {out:List Bool} {n off cap:Nat} {cs:List SV} (h:SV.lowL 0 cs=true):Hp.low 7 ((5,ruleB r)::ndH 6 p out n off cap cs)=true:=by
 have:=SV.lowL_mono 7 cs h
 simp [Hp.low,HB.low,SV.lowL,SV.low,this,Nat.blt]
set_option maxHeartbeats 8000000 in
theorem needs_fn (p:Prg) (pred:Int) (h10:p.arity.length≤10) (h12:p.rules.length≤12) (hp:predsOk p.arity.length p.rules) (hpr:0≤pred∧pred < p.arity.length) :
  Fn 80 [elPrg p,.d (.int .i64 pred)] (fun res=>res = .d (.slice 1 ((needsL p pred).map encBl))):=by
 refine fnp_enter' _ Tryz.func80 rfl rfl (by kernel_rfl) ?_
 intro O w0 E0 β0
 have la:(p.arity.map encI).length=p.arity.length:=List.length_map _
 have lr:(p.rules.map encRul).length=p.rules.length:=List.length_map _
 repeat' (first|refine z0 ?_|apply ds_nil|apply dw_seq2|refine z16 ?_|apply thenD_n|refine z1 ?_|fail)
 refine ds_mk ((List.replicate p.arity.length false).map encBl) rfl rfl (by rw [la]) rfl rfl rfl rfl rfl rfl (by show 1 * _≤_;omega) (by unfold maxLen;omega) (by rw [List.map_replicate];rfl) rfl rfl ?_
 have lf:((List.replicate p.arity.length false).map encBl).length=p.arity.length:=by simp
 have lf2:(List.replicate p.arity.length false).length=p.arity.length:=by simp
 repeat' (first|(refine ds_bs_sl (te:=3) (es:=1) rfl rfl rfl rfl rfl rfl rfl rfl rfl rfl rfl ?_)|(first|refine z0 ?_|apply ds_nil|(apply ds_stP;exact rfl;exact rfl;(apply hv_get;(omega));exact rfl;exact rfl;(exact hv_set rfl);exact rfl;exact rfl;exact rfl;exact rfl;exact rfl;exact rfl)|apply dw_seq2|refine z16 ?_|apply dw_block|apply thenD_n|refine z1 ?_|refine z3 ?_|fail))
 refine ds_loop (ι:=Qst × Nat) (fun x=>⟨5,[(2,.loc 0 0),(5,.loc 2 0),(6,.loc 4 0)],x.1.H p 3⟩)
  (fun x=>x.1.ok∧Ns p.arity.length x.2 (x.1.out,x.1.left)∧needsL p pred=nIter p.rules x.2 (x.1.out,x.1.left)∧x.2≤2 * p.arity.length + 1) (fun x=>x.2)
  (⟨(List.replicate p.arity.length false).set pred.toNat true,[pred],1,0,1,[svI pred]⟩,2 * p.arity.length + 1) ⟨⟨rfl,⟨by simp,rfl,by simp⟩,by simp [maxLen],rfl⟩,⟨by simp,?_,?_⟩,rfl,Nat.le_refl _⟩
  (ent_ren id ⟨rfl,rfl,rfl,trivial⟩ ⟨rfl,rfl,rfl,rfl,rfl,trivial⟩ rfl rfl rfl rfl rfl rfl) ?_
 ·have h1:((List.replicate p.arity.length false).set pred.toNat true).count false + 1=(List.replicate p.arity.length false).count false:=count_set' (by simp;omega) (by rw [List.getElem?_replicate,if_pos (by omega)])
  rw [List.count_replicate_self] at h1
  simp only [List.length_singleton]
  omega
 ·intro v hv
  simp at hv
  subst hv
  exact hpr
 rintro⟨⟨out,left,nn,off,cap,cs⟩,m⟩ ⟨⟨gn,g1,gc,gl⟩,g2,g3,gm⟩
 dsimp only [Qst.H] at gn g1 gc gl g2 g3 gm ⊢
 have lo:(out.map encBl).length=out.length:=List.length_map _
 have hm:left.length≤m:=by have:=g2.2.1;dsimp only at this;omega
 subst gn
 cases left with
 | nil =>
  repeat' (first|refine z0 ?_|apply ds_nil|apply dw_seq2|refine z16 ?_|apply dw_exit|refine z19 ?_|apply thenD_n|apply thenD_e|refine z17 ?_|fail)
  refine dw_ent (ent_seal 4 rfl rfl rfl) ?_
  repeat' (apply dw_ret)
  have hr:needsL p pred=out:=by rw [g3];cases m <;> rfl
  exact⟨.inl rfl,_,rfl,rfl,by rw [hr];rfl⟩
 | cons n left =>
  obtain⟨m,rfl⟩:∃ m',m=m' + 1:=⟨m - 1,by simp at hm;omega⟩
  have hh:=g1.head
  have ht:=g1.tail
  have hnn:=g2.2.2 n (List.mem_cons_self ..)
  rw [nIter] at g3
  have h0:Ns p.arity.length m (out,left):=⟨g2.1,by have:=g2.2.1;simp only [List.length_cons] at this ⊢;omega,fun v hv=>g2.2.2 v (List.mem_cons_of_mem _ hv)⟩
  have hcap:=g1.2.2
  have hlc:((n::left).length:Int)=(left.length:Int) + 1:=by simp
  repeat' (first|(refine ds_ev (ev_load_loc (i:=3) rfl rfl rfl rfl hh) rfl rfl ?_)|(first|refine z0 ?_|apply ds_nil|apply dw_seq2|refine z16 ?_|apply dw_block|apply dw_skip|apply dw_exit|apply dw_ret|apply thenD_n|apply thenD_e|refine z17 ?_|refine z3 ?_|(refine z23 ?_ ?_ <;> intro hg)|fail))
  all_goals try (exfalso;omega)
  refine ds_loop (ι:=Nat × Qst) (fun x=>⟨5,[(2,.loc 0 0),(5,.loc 2 0),(6,.loc 4 0),(7,svI n),(29,.d (.slice 5 (p.rules.map encRul))),(30,.d (.int .i64 (p.rules.map encRul).length)),(31,.d (.int .i64 x.1))],x.2.H p 3⟩)
   (fun x=>x.1≤p.rules.length∧x.2.ok∧Ns p.arity.length m (x.2.out,x.2.left)∧p.rules.foldl (nRule n) (out,left)=(p.rules.drop x.1).foldl (nRule n) (x.2.out,x.2.left)) (fun x=>p.rules.length - x.1)
   (0,⟨out,left,left.length,off + 1,cap - 1,cs⟩) ⟨Nat.zero_le _,⟨rfl,ht,by dsimp only;omega,gl⟩,h0,rfl⟩ (ent_ren id ⟨rfl,rfl,rfl,rfl,rfl,rfl,rfl,trivial⟩ ⟨rfl,rfl,rfl,blk_ren gl,rfl,trivial⟩ rfl (nd_low gl) rfl rfl rfl rfl) ?_
  clear h0 ht hh hcap gc lo gl
  rintro⟨i,⟨out1,left1,n1,off1,cap1,cs1⟩⟩ ⟨f0,⟨fn,f1,fc,fl⟩,f2,f3⟩
  dsimp only [Qst.H] at f0 fn f1 fc fl f2 f3 ⊢
  have lo:(out1.map encBl).length=out1.length:=List.length_map _
  by_cases hi:i < p.rules.length
  ·repeat' (first|refine z0 ?_|apply ds_nil|apply dw_seq2|refine z16 ?_|apply dw_block|apply dw_skip|apply dw_exit|apply thenD_n|apply thenD_e|apply inB_n|refine z17 ?_|refine z21 ?_ (hc:=by apply hangs_fn)|refine z1 ?_|refine z3 ?_|(refine z23 ?_ ?_ <;> intro hg)|fail)
   all_goals try (exfalso;omega)
   all_goals (obtain⟨hp1,hp2⟩:=hp p.rules[i] (List.getElem_mem hi);rw [List.drop_eq_getElem_cons hi,List.foldl_cons] at f3;generalize p.rules[i]=r at hp1 hp2 f3 hg ⊢)
   ·rw [show nRule n (out1,left1) r=(out1,left1) from if_neg (by assumption)] at f3
    exact⟨(i + 1,⟨out1,left1,n1,off1,cap1,cs1⟩),⟨by dsimp only;omega,⟨fn,f1,fc,fl⟩,f2,f3⟩,ent_ren id ⟨rfl,rfl,rfl,rfl,rfl,rfl,rfl,trivial⟩ ⟨rfl,rfl,rfl,blk_ren fl,rfl,trivial⟩ rfl (nd_low fl) rfl rfl rfl rfl,by show p.rules.length - (i + 1) < p.rules.length - i;omega⟩
   rw [show nRule n (out1,left1) r=((r.body.filter hangsB).drop 0).foldl nLit (out1,left1) from if_pos (by omega)] at f3
   refine dw_range (hangsX r) rfl rfl (hangs1_seq r) (hangsX_each r) (by simp) [(2,.loc 0 0),(5,.loc 2 0),(6,.loc 4 0),(7,svI n),(9,.loc 5 0),(29,.d (.slice 5 (p.rules.map encRul))),(30,.d (.int .i64 (p.rules.map encRul).length)),(31,.d (.int .i64 i))] ⟨rfl,rfl,rfl,rfl,rfl,rfl,rfl,rfl,trivial⟩ rfl
    (ι:=Bool × Qst) (fun _ x=>match x.1 with|false=>(6,(5,ruleB r)::x.2.H p 3)|true=>(7,(5,ruleB r)::x.2.H p 6))
    (fun j x=>x.2.ok∧Ns p.arity.length m (x.2.out,x.2.left)∧p.rules.foldl (nRule n) (out,left)=(p.rules.drop (i + 1)).foldl (nRule n) (((r.body.filter hangsB).drop j).foldl nLit (x.2.out,x.2.left)))
    (false,⟨out1,left1,n1,off1,cap1,cs1⟩) ⟨⟨fn,f1,fc,fl⟩,f2,f3⟩ rfl ?_ ?_
   ·rintro j hj ⟨b,⟨out2,left2,n2,off2,cap2,cs2⟩⟩ ⟨⟨en,e1,ec,el⟩,e2,e3⟩ O1 w1 E1 β1 l
    obtain⟨hj',hx⟩:=hangsX_get hj
    rw [hx]
    dsimp only at en e1 ec el e2 e3 ⊢
    have hxm:=List.getElem_mem hj'
    obtain⟨hxb,hxh⟩:=List.mem_filter.1 hxm
    have hq:=hp2 _ hxb hxh
    obtain⟨q1,q2⟩:=hq
    rw [List.drop_eq_getElem_cons hj',List.foldl_cons] at e3
    generalize (r.body.filter hangsB)[j]=x at hxb hxh q1 q2 e3 ⊢
    have ll1:(out2.map encBl).length=out2.length:=List.length_map _
    have hl1:out2.length=p.arity.length:=e2.1
    have hlen2:left2.length≤21:=by have:=e2.2.1;dsimp only at this;omega
    subst en
    have hnx:=e2.step (x:=x) ⟨q1,q2⟩
    have hgd:out2.getD x.pred.toNat false=out2[x.pred.toNat]'(by omega):=by rw [List.getD,List.getElem?_eq_getElem (by omega)];rfl
    have hfit:=e1.1
    cases b with
    | false =>
     dsimp only [Qst.H]
     change DW _ _ _ _ ((42,.d (.bool (strictB r.fold x)))::(41,.d (.int .i64 x.pred))::_) _
     repeat' (first|refine z0 ?_|apply ds_nil|refine z16 ?_|fail)
     refine⟨rfl,fun O2 w2 E2 β2=>?_⟩
     repeat' (first|refine z0 ?_|apply ds_nil|(apply ds_stP;exact rfl;exact rfl;(apply hv_get;(omega));exact rfl;exact rfl;(exact hv_set rfl);exact rfl;exact rfl;exact rfl;exact rfl;exact rfl;exact rfl)|apply dw_seq2|refine z16 ?_|apply dw_block|apply dw_skip|apply thenD_n|apply inB_n|refine z4 ?_|(apply dw_cond;exact rfl;all_goals intro hg))
     ·have hL:nLit (out2,left2) x=(out2.set x.pred.toNat true,left2++[x.pred]):=by
       unfold nLit
       dsimp only
       rw [hgd,if_neg (by intro h;rw [h] at hg;cases hg)]
      rw [hL] at e3 hnx
      refine ds_append_sl (te:=3) (es:=1) (i:=3) (cs:=cs2) (ys:=[[D.int .i64 x.pred]]) rfl rfl rfl rfl rfl rfl rfl rfl (by omega) rfl (by simp) rfl rfl (by show (left2.length + 1) * 8≤_;omega) (by show left2.length + 1≤_;unfold maxLen;omega) (fun hr=>?_) (fun c' h1 h2 h3=>?_)
      ·have hr:left2.length + 1≤cap2:=hr
       repeat' (first|apply ds_nil|apply inB_n|refine z3 ?_|fail)
       exact⟨(false,⟨out2.set x.pred.toNat true,left2++[x.pred],left2.length + 1,off2,cap2,splice cs2 (off2 + left2.length * 1) [svI x.pred]⟩),⟨⟨by simp,e1.push hr,ec,lowL_splice el rfl⟩,hnx,e3⟩,ent_ren id trivial ⟨rfl,rfl,rfl,rfl,blk_ren (lowL_splice el rfl),rfl,trivial⟩ rfl (nd_low6 (lowL_splice el rfl)) rfl rfl rfl rfl⟩
      ·have h2:left2.length + 1≤c':=h2
       repeat' (first|apply ds_nil|apply inB_n|refine z3 ?_|fail)
       exact⟨(true,⟨out2.set x.pred.toNat true,left2++[x.pred],left2.length + 1,0,c',_⟩),⟨⟨by simp,e1.grow h2,h3,lowL_app (lowL_app (lowL_take _ (lowL_drop _ el)) rfl) (lowL_junk _)⟩,hnx,e3⟩,ent_ren id trivial ⟨rfl,rfl,rfl,rfl,blk_ren (lowL_app (lowL_app (lowL_take _ (lowL_drop _ el)) rfl) (lowL_junk _)),rfl,trivial⟩ rfl (nd_low7 (lowL_app (lowL_app (lowL_take _ (lowL_drop _ el)) rfl) (lowL_junk _))) rfl rfl rfl rfl⟩
     ·have hL:nLit (out2,left2) x=(out2,left2):=by
       unfold nLit
       dsimp only
       rw [hgd,if_pos (by simpa using hg)]
      rw [hL] at e3
      exact⟨(false,⟨out2,left2,left2.length,off2,cap2,cs2⟩),⟨⟨rfl,e1,ec,el⟩,e2,e3⟩,ent_ren id trivial ⟨rfl,rfl,rfl,rfl,blk_ren el,rfl,trivial⟩ rfl (nd_low6 el) rfl rfl rfl rfl⟩
    | true =>
     dsimp only [Qst.H]
     change DW _ _ _ _ ((42,.d (.bool (strictB r.fold x)))::(41,.d (.int .i64 x.pred))::_) _
     repeat' (first|refine z0 ?_|apply ds_nil|refine z16 ?_|fail)
     refine⟨rfl,fun O2 w2 E2 β2=>?_⟩
     repeat' (first|refine z0 ?_|apply ds_nil|(apply ds_stP;exact rfl;exact rfl;(apply hv_get;(omega));exact rfl;exact rfl;(exact hv_set rfl);exact rfl;exact rfl;exact rfl;exact rfl;exact rfl;exact rfl)|apply dw_seq2|refine z16 ?_|apply dw_block|apply dw_skip|apply thenD_n|apply inB_n|refine z4 ?_|(apply dw_cond;exact rfl;all_goals intro hg))
     ·have hL:nLit (out2,left2) x=(out2.set x.pred.toNat true,left2++[x.pred]):=by
       unfold nLit
       dsimp only
       rw [hgd,if_neg (by intro h;rw [h] at hg;cases hg)]
      rw [hL] at e3 hnx
      refine ds_append_sl (te:=3) (es:=1) (i:=6) (cs:=cs2) (ys:=[[D.int .i64 x.pred]]) rfl rfl rfl rfl rfl rfl rfl rfl (by omega) rfl (by simp) rfl rfl (by show (left2.length + 1) * 8≤_;omega) (by show left2.length + 1≤_;unfold maxLen;omega) (fun hr=>?_) (fun c' h1 h2 h3=>?_)
      ·have hr:left2.length + 1≤cap2:=hr
       repeat' (first|apply ds_nil|apply inB_n|refine z3 ?_|fail)
       exact⟨(true,⟨out2.set x.pred.toNat true,left2++[x.pred],left2.length + 1,off2,cap2,splice cs2 (off2 + left2.length * 1) [svI x.pred]⟩),⟨⟨by simp,e1.push hr,ec,lowL_splice el rfl⟩,hnx,e3⟩,ent_ren id trivial ⟨rfl,rfl,rfl,rfl,blk_ren (lowL_splice el rfl),rfl,trivial⟩ rfl (nd_low7 (lowL_splice el rfl)) rfl rfl rfl rfl⟩
      ·have h2:left2.length + 1≤c':=h2
       repeat' (first|apply ds_nil|apply inB_n|refine z3 ?_|fail)
       exact⟨(true,⟨out2.set x.pred.toNat true,left2++[x.pred],left2.length + 1,0,c',_⟩),⟨⟨by simp,e1.grow h2,h3,lowL_app (lowL_app (lowL_take _ (lowL_drop _ el)) rfl) (lowL_junk _)⟩,hnx,e3⟩,ent_ren (fun j=>match j with|6=>7|j=>j) trivial ⟨rfl,rfl,rfl,rfl,blk_ren (lowL_app (lowL_app (lowL_take _ (lowL_drop _ el)) rfl) (lowL_junk _)),rfl,trivial⟩ rfl (nd_low7 (lowL_app (lowL_app (lowL_take _ (lowL_drop _ el)) rfl) (lowL_junk _))) rfl rfl rfl rfl⟩
     ·have hL:nLit (out2,left2) x=(out2,left2):=by
       unfold nLit
       dsimp only
       rw [hgd,if_pos (by simpa using hg)]
      rw [hL] at e3
      exact⟨(true,⟨out2,left2,left2.length,off2,cap2,cs2⟩),⟨⟨rfl,e1,ec,el⟩,e2,e3⟩,ent_ren id trivial ⟨rfl,rfl,rfl,rfl,blk_ren el,rfl,trivial⟩ rfl (nd_low7 el) rfl rfl rfl rfl⟩
   ·rintro⟨b,⟨out2,left2,n2,off2,cap2,cs2⟩⟩ ⟨⟨en,e1,ec,el⟩,e2,e3⟩
    rw [hangsX_len,List.drop_of_length_le (Nat.le_refl _)] at e3
    dsimp only at en e1 ec el e2 e3 ⊢
    cases b with
    | false =>
     repeat' (first|refine z0 ?_|apply ds_nil|refine z16 ?_|apply thenD_n|apply inB_n)
     exact⟨(i + 1,⟨out2,left2,n2,off2,cap2,cs2⟩),⟨by dsimp only;omega,⟨en,e1,ec,el⟩,e2,e3⟩,ent_ren id ⟨rfl,rfl,rfl,rfl,rfl,rfl,rfl,trivial⟩ ⟨rfl,rfl,rfl,blk_ren el,rfl,trivial⟩ rfl (nd_low el) rfl rfl rfl rfl,by show p.rules.length - (i + 1) < p.rules.length - i;omega⟩
    | true =>
     repeat' (first|refine z0 ?_|apply ds_nil|refine z16 ?_|apply thenD_n|apply inB_n)
     exact⟨(i + 1,⟨out2,left2,n2,off2,cap2,cs2⟩),⟨by dsimp only;omega,⟨en,e1,ec,el⟩,e2,e3⟩,ent_ren (fun j=>match j with|3=>6|j=>j) ⟨rfl,rfl,rfl,rfl,rfl,rfl,rfl,trivial⟩ ⟨rfl,rfl,rfl,blk_ren el,rfl,trivial⟩ rfl (nd_low el) rfl rfl rfl rfl,by show p.rules.length - (i + 1) < p.rules.length - i;omega⟩
  ·rw [List.drop_of_length_le (by omega)] at f3
   repeat' (first|refine z0 ?_|apply ds_nil|apply dw_seq2|refine z16 ?_|apply dw_block|apply dw_skip|apply dw_exit|apply thenD_n|apply thenD_e|apply inB_n|refine z17 ?_|refine z1 ?_|refine z3 ?_|(refine z23 ?_ ?_ <;> intro hg)|fail)
   all_goals try (exfalso;omega)
   rw [f3] at g3
   exact⟨(⟨out1,left1,n1,off1,cap1,cs1⟩,m),⟨⟨fn,f1,fc,fl⟩,f2,g3,by dsimp only;omega⟩,ent_ren id ⟨rfl,rfl,rfl,trivial⟩ ⟨rfl,rfl,rfl,blk_ren fl,rfl,trivial⟩ rfl (nd_low fl) rfl rfl rfl rfl,by show m < m + 1;omega⟩
end Go.Proofs.YtapciiffpnociacGreat

/- The program's Levels, Needs. Condition: none. -/
namespace Go.Proofs.YtapciiffpnociacGreat
open Go Go.RowKit
attribute [local irreducible] DW DS DL DQ Ev FnOk FnP thenD inBlockD DWr
theorem predsOk_of {p:Prg} (h:PrgOk p):predsOk p.arity.length p.rules:=fun r hr=>⟨(h.each r hr).pred,fun x hx hh=>((h.each r hr).lits x hx).pred hh⟩
def levE (p:Prg):Int:=if progE nameR p≠0 then progE nameR p else if docOk p then 0 else 4
def levL (p:Prg):List Int:=if progE nameR p=0∧docOk p=true then docLv p else []
set_option maxHeartbeats 8000000 in
theorem levels_fn (p:Prg):Fn 58 [elPrg p] (fun res=>res = .tup [.d (.slice 1 ((levL p).map encI)),.d (.int .i64 (levE p))]):=by
 refine fnp_enter' _ Tryz.func58 rfl rfl (by kernel_rfl) ?_
 intro O w0 E0 β0
 have hc:=scheck_fn p
 unfold levE levL
 by_cases h0:progE nameR p=0
 ·have hok:=progE_ok h0
  have hr:=sraw_fn p hok.preds hok.rules (predsOk_of hok)
  rw [levels_same p hok] at hr
  rw [h0] at hc ⊢
  cases hd:docOk p with
  | true =>
   rw [hd,if_pos rfl] at hr
   unfold rawSV at hr
   dsimp only at hr
   repeat' (first|refine z0 ?_|apply ds_nil|apply dw_seq2|refine z16 ?_|apply dw_skip|apply dw_ret|refine z19 ?_|apply thenD_n|refine z21 ?_ (hc:=by apply hc)|refine z21 ?_ (hc:=by apply hr)|refine z1 ?_|fail)
   exact ret_2 rfl ⟨by simp,by simp⟩
  | false =>
   rw [hd,if_neg (by simp)] at hr
   unfold rawSV at hr
   dsimp only at hr
   repeat' (first|refine z0 ?_|apply ds_nil|apply dw_seq2|refine z16 ?_|apply dw_skip|refine z18 ?_|refine z19 ?_|apply thenD_n|refine z21 ?_ (hc:=by apply hc)|refine z21 ?_ (hc:=by apply hr)|refine z1 ?_|fail)
   refine dw_nild 2 1 rfl ?_
   repeat' (first|apply dw_ret|apply thenD_r)
   exact ret_2 rfl ⟨by simp,by simp⟩
 ·have hn:decide (progE nameR p≠0)=true:=decide_eq_true h0
  generalize progE nameR p=q at hc h0 hn ⊢
  repeat' (first|refine z0 ?_|apply ds_nil|apply dw_seq2|refine z16 ?_|apply dw_skip|apply thenD_n|refine z21 ?_ (hc:=by apply hc)|refine z1 ?_|(refine z23 ?_ ?_ <;> intro hg)|fail)
  ·refine dw_nild 2 1 rfl ?_
   repeat' (first|apply dw_ret|apply thenD_r)
   exact ret_2 rfl ⟨by simp [h0],by simp [h0]⟩
  ·exact absurd h0 hg
def readyE (p:Prg) (pred:Int):Int:=if progE nameR p≠0 then progE nameR p else if 0≤pred∧pred < p.arity.length then 0 else 5
set_option maxHeartbeats 8000000 in
theorem sready_fn (p:Prg) (pred:Int):Fn 79 [elPrg p,.d (.int .i64 pred)] (fun res=>res = .d (.int .i64 (readyE p pred))):=by
 refine fnp_enter' _ Tryz.func79 rfl rfl (by kernel_rfl) ?_
 intro O w0 E0 β0
 have hc:=scheck_fn p
 have la:(p.arity.map encI).length=p.arity.length:=List.length_map _
 unfold readyE
 generalize progE nameR p=q at hc ⊢
 repeat' (first|refine z0 ?_|refine z12 ?_|apply ds_nil|apply dw_seq2|refine z16 ?_|apply dw_skip|apply dw_ret|refine z18 ?_|apply thenD_n|apply thenD_r|refine z21 ?_ (hc:=by apply hc)|refine z1 ?_|(refine z23 ?_ ?_ <;> intro hg)|((fail_if_success (apply ds_known;exact rfl));apply ds_guardP;exact rfl;exact rfl;exact rfl;all_goals intro hg))
 all_goals first
  | exact ret_i rfl (by rw [if_pos hg])
  | exact ret_i rfl (by rw [if_neg (by assumption),if_pos (by omega)])
  | exact ret_i rfl (by rw [if_neg (by assumption),if_neg (by omega)])
theorem readyE_ok {p:Prg} {pred:Int} (h:readyE p pred=0):progE nameR p=0∧0≤pred∧pred < p.arity.length:=by
 unfold readyE at h
 split at h
 ·rename_i h1;exact absurd h h1
 ·rename_i h1
  split at h
  ·rename_i h2;exact⟨Classical.byContradiction fun h3=>h1 h3,h2⟩
  ·cases h
set_option maxHeartbeats 8000000 in
theorem pneeds_fn (p:Prg) (pred:Int):Fn 84 [elPrg p,.d (.int .i64 pred)] (fun res=>res = .tup [.d (.slice 1 ((if readyE p pred=0 then needsL p pred else []).map encBl)),.d (.int .i64 (readyE p pred))]):=by
 refine fnp_enter' _ Tryz.func84 rfl rfl (by kernel_rfl) ?_
 intro O w0 E0 β0
 have hc:=sready_fn p pred
 by_cases h0:readyE p pred=0
 ·obtain⟨h1,h2⟩:=readyE_ok h0
  have hok:=progE_ok h1
  have hr:=needs_fn p pred hok.preds hok.rules (predsOk_of hok) h2
  rw [h0] at hc ⊢
  repeat' (first|refine z0 ?_|apply ds_nil|apply dw_seq2|refine z16 ?_|apply dw_skip|apply dw_ret|refine z19 ?_|apply thenD_n|refine z21 ?_ (hc:=by apply hc)|refine z21 ?_ (hc:=by apply hr)|refine z1 ?_|fail)
  exact ret_2 rfl ⟨by simp,rfl⟩
 ·generalize readyE p pred=q at hc h0 ⊢
  repeat' (first|refine z0 ?_|apply ds_nil|apply dw_seq2|refine z16 ?_|apply dw_skip|apply thenD_n|refine z21 ?_ (hc:=by apply hc)|refine z1 ?_|(refine z23 ?_ ?_ <;> intro hg)|fail)
  ·refine dw_nild 4 1 rfl ?_
   repeat' (first|apply dw_ret|apply thenD_r)
   exact ret_2 rfl ⟨by simp [h0],rfl⟩
  ·exact absurd h0 hg
set_option maxHeartbeats 8000000 in
theorem sown_fn (r:Rul) (h1:r.terms.length≤8796093022208) (h2:r.body.length≤1000000) (h3:∀ x∈r.body,x.terms.length≤8796093022208):Fn 83 [elRul r] (fun res=>res=elRul r):=by
 refine fnp_enter' _ Tryz.func83 rfl rfl (by kernel_rfl) ?_
 intro O w0 E0 β0
 have ht:=cloneT_fn r.terms h1
 have lb:(r.body.map encLtl).length=r.body.length:=List.length_map _
 repeat' (first|refine z0 ?_|apply ds_nil|apply dw_seq2|refine z16 ?_|apply dw_block|apply thenD_n|refine z21 ?_ (hc:=by apply ht)|refine z1 ?_|refine z3 ?_|fail)
 refine dw_ent (ent_cellrow 2 3 40 4 rfl rfl rfl) ?_
 refine ds_loop (ι:=Nat × List Ltl) (fun x=>⟨4,[(1,.loc 0 0),(2,.loc 1 0),(3,.loc 2 0),(14,.d (.slice 4 (r.body.map encLtl))),(15,.d (.int .i64 (r.body.map encLtl).length)),(16,.d (.int .i64 x.1))],
   [(0,ruleB r),(1,.blk 36 [.d (.int .i64 0),.nils,.d (.int .i64 0),.nils,.d (.int .i64 0)]),(2,.blk 36 [.d (.int .i64 r.pred),.d (.slice 2 (r.terms.map encTrm)),.d (.int .i64 r.fold),.row 3,.d (.int .i64 r.vars)]),(3,.row 40 4 (x.2.map encLtl))]⟩)
  (fun x=>x.1≤r.body.length∧x.2=r.body.take x.1) (fun x=>r.body.length - x.1) (0,[]) ⟨Nat.zero_le _,rfl⟩ (ent_ren id ⟨rfl,rfl,rfl,rfl,rfl,rfl,trivial⟩ ⟨rfl,rfl,rfl,rfl,trivial⟩ rfl rfl rfl rfl rfl rfl) ?_
 rintro⟨i,o⟩ ⟨g1,g2⟩
 dsimp only at g1 g2 ⊢
 have lo:(o.map encLtl).length=o.length:=List.length_map _
 have hol:o.length=i:=by rw [g2,List.length_take];omega
 by_cases hi:i < r.body.length
 ·have hx:=h3 _ (List.getElem_mem hi)
  have hstep:o++[r.body[i]]=r.body.take (i + 1):=by rw [g2,List.take_succ_eq_append_getElem hi]
  have hc:=cloneT_fn _ hx
  repeat' (first|refine z0 ?_|apply ds_nil|apply dw_seq2|refine z16 ?_|apply dw_block|apply dw_skip|apply dw_exit|apply dw_ret|apply thenD_n|apply thenD_e|apply inB_n|refine z17 ?_|refine z21 ?_ (hc:=by apply hc)|refine z1 ?_|refine z3 ?_|refine z4 ?_|refine z2 ?_|(refine z23 ?_ ?_ <;> intro hg)|fail)
  all_goals try (exfalso;omega)
  exact⟨(i + 1,o++[r.body[i]]),⟨by dsimp only;omega,hstep⟩,ent_ren (fun j=>match j with|3=>6|j=>j) ⟨rfl,rfl,rfl,rfl,rfl,rfl,trivial⟩ ⟨rfl,rfl,rfl,by rw [List.map_append];rfl,trivial⟩ rfl rfl rfl rfl rfl rfl,by show r.body.length - (i + 1) < r.body.length - i;omega⟩
 ·have ho:o=r.body:=by rw [g2,List.take_of_length_le (by omega)]
  repeat' (first|refine z0 ?_|apply ds_nil|apply dw_seq2|refine z16 ?_|apply dw_block|apply dw_skip|apply dw_exit|apply thenD_n|apply thenD_e|refine z17 ?_|refine z1 ?_|refine z3 ?_|(refine z23 ?_ ?_ <;> intro hg)|fail)
  all_goals try (exfalso;omega)
  refine dw_ent (ent_cellseal 1 3 3 rfl rfl rfl rfl rfl) ?_
  repeat' (apply dw_ret)
  exact⟨.inl rfl,_,rfl,rfl,by rw [ho];rfl⟩
def focusL (need:List Bool) (l:List Rul):List Rul:=l.filter fun r=>need.getD r.pred.toNat false
def focusP (p:Prg) (pred:Int):Prg:=if readyE p pred=0 then ⟨p.arity,p.names,focusL (needsL p pred) p.rules⟩ else ⟨[],[],[]⟩
set_option maxHeartbeats 8000000 in
theorem focus_fn (p:Prg) (pred:Int):Fn 44 [elPrg p,.d (.int .i64 pred)] (fun res=>res = .tup [elPrg (focusP p pred),.d (.int .i64 (readyE p pred))]):=by
 refine fnp_enter' _ Tryz.func44 rfl rfl (by kernel_rfl) ?_
 intro O w0 E0 β0
 have hc:=sready_fn p pred
 unfold focusP
 by_cases h0:readyE p pred=0
 ·obtain⟨g1,g2⟩:=readyE_ok h0
  have hok:=progE_ok g1
  have hr:=needs_fn p pred hok.preds hok.rules (predsOk_of hok) g2
  have la:(p.arity.map encI).length=p.arity.length:=List.length_map _
  have lr:(p.rules.map encRul).length=p.rules.length:=List.length_map _
  have hca:=cloneI_fn p.arity (by have:=hok.preds;omega)
  have hcn:=cloneS_fn p.names (by have:=hok.preds;have:=hok.names;omega)
  rw [if_pos h0]
  rw [h0] at hc ⊢
  have hlen:=hok.rules
  repeat' (first|refine z0 ?_|apply ds_nil|refine z5 ?_|refine z6 ?_|refine z7 ?_|refine z11 ?_|apply dw_seq2|refine z16 ?_|refine z20 ?_|apply dw_block|apply dw_skip|refine z19 ?_|apply thenD_n|refine z21 ?_ (hc:=by apply hc)|refine z21 ?_ (hc:=by apply hr)|refine z22 ?_ (hc:=by apply hca)|refine z22 ?_ (hc:=by apply hcn)|refine z1 ?_|fail)
  refine dw_ent (ent_cellrow 9 2 36 5 rfl rfl rfl) ?_
  have hnl:=needsL_len p pred
  generalize needsL p pred=need at hr hnl ⊢
  have ln:(need.map encBl).length=need.length:=List.length_map _
  refine ds_loop (ι:=Nat × List Rul) (fun x=>⟨4,[(2,.loc 0 0),(4,.loc 1 0),(7,.d (.slice 1 (need.map encBl))),(8,.loc 2 0),(29,.d (.slice 5 (p.rules.map encRul))),(30,.d (.int .i64 (p.rules.map encRul).length)),(31,.d (.int .i64 x.1))],
    [(0,prgBk p),(1,.blk 26 [.nils,.nils,.nils]),(2,.blk 26 [.d (.slice 1 (p.arity.map encI)),.d (.slice 1 (p.names.map encT)),.row 3]),(3,.row 36 5 (x.2.map encRul))]⟩)
   (fun x=>x.1≤p.rules.length∧x.2=focusL need (p.rules.take x.1)) (fun x=>p.rules.length - x.1) (0,[]) ⟨Nat.zero_le _,rfl⟩ (ent_ren (fun j=>match j with|2=>9|3=>11|j=>j) ⟨rfl,rfl,rfl,rfl,rfl,rfl,rfl,trivial⟩ ⟨rfl,rfl,rfl,rfl,trivial⟩ rfl rfl rfl rfl rfl rfl) ?_
  clear hc hr hca hcn
  rintro⟨i,o⟩ ⟨f1,f2⟩
  dsimp only at f1 f2 ⊢
  have lo:(o.map encRul).length=o.length:=List.length_map _
  have hol:o.length≤i:=by rw [f2];unfold focusL;have:=List.length_filter_le (fun r:Rul=>need.getD r.pred.toNat false) (p.rules.take i);rw [List.length_take] at this;omega
  by_cases hi:i < p.rules.length
  ·have hm:=List.getElem_mem hi
   have hrk:=hok.each _ hm
   have hp1:=hrk.pred
   have hbl:=hrk.body
   have hts:=rule_terms g1 _ hm
   have hw:=sown_fn p.rules[i] (by omega) (by omega) (fun x hx=>Nat.le_trans (hts.2 x hx) (by decide))
   have hgd:need.getD p.rules[i].pred.toNat false=need[p.rules[i].pred.toNat]'(by omega):=by rw [List.getD,List.getElem?_eq_getElem (by omega)];rfl
   have hstep:focusL need (p.rules.take (i + 1))=o++(if need[p.rules[i].pred.toNat]'(by omega) then [p.rules[i]] else []):=by
    rw [List.take_succ_eq_append_getElem hi,f2]
    unfold focusL
    rw [List.filter_append]
    congr 1
    simp only [List.filter_cons,List.filter_nil,hgd]
   cases hb:need[p.rules[i].pred.toNat]'(by omega) with
   | true =>
    rw [hb,if_pos rfl] at hstep
    repeat' (first|refine z0 ?_|apply ds_nil|refine z5 ?_|refine z6 ?_|refine z9 ?_|refine z11 ?_|apply dw_seq2|refine z16 ?_|refine z20 ?_|apply dw_block|apply dw_skip|apply dw_exit|apply dw_ret|apply thenD_n|apply thenD_e|apply inB_n|refine z17 ?_|refine z22 ?_ (hc:=by apply hw)|refine z1 ?_|refine z3 ?_|(refine z23 ?_ ?_ <;> intro hg)|(apply dw_cond;exact rfl;all_goals intro hg))
    all_goals try (exfalso;omega)
    all_goals first
     | (exfalso;rw [hb] at hg;cases hg;done)
     | exact⟨(i + 1,o++[p.rules[i]]),⟨by dsimp only;omega,hstep.symm⟩,ent_ren (fun j=>match j with|3=>10|j=>j) ⟨rfl,rfl,rfl,rfl,rfl,rfl,rfl,trivial⟩ ⟨rfl,rfl,rfl,by rw [List.map_append];rfl,trivial⟩ rfl rfl rfl rfl rfl rfl,by show p.rules.length - (i + 1) < p.rules.length - i;omega⟩
   | false =>
    rw [hb,if_neg (by simp),List.append_nil] at hstep
    repeat' (first|refine z0 ?_|apply ds_nil|refine z5 ?_|refine z6 ?_|refine z9 ?_|refine z11 ?_|apply dw_seq2|refine z16 ?_|refine z20 ?_|apply dw_block|apply dw_skip|apply dw_exit|apply dw_ret|apply thenD_n|apply thenD_e|apply inB_n|refine z17 ?_|refine z22 ?_ (hc:=by apply hw)|refine z1 ?_|refine z3 ?_|(refine z23 ?_ ?_ <;> intro hg)|(apply dw_cond;exact rfl;all_goals intro hg))
    all_goals try (exfalso;omega)
    all_goals first
     | (exfalso;rw [hb] at hg;cases hg;done)
     | exact⟨(i + 1,o),⟨by dsimp only;omega,hstep.symm⟩,ent_ren id ⟨rfl,rfl,rfl,rfl,rfl,rfl,rfl,trivial⟩ ⟨rfl,rfl,rfl,rfl,trivial⟩ rfl rfl rfl rfl rfl rfl,by show p.rules.length - (i + 1) < p.rules.length - i;omega⟩
  ·rw [List.take_of_length_le (by omega)] at f2
   repeat' (first|refine z0 ?_|apply ds_nil|refine z5 ?_|apply dw_seq2|refine z16 ?_|refine z20 ?_|apply dw_block|apply dw_skip|apply dw_exit|apply thenD_n|apply thenD_e|apply inB_n|refine z17 ?_|refine z1 ?_|refine z3 ?_|(refine z23 ?_ ?_ <;> intro hg)|(apply dw_cond;exact rfl;all_goals intro hg))
   all_goals try (exfalso;omega)
   refine dw_ent (ent_cellseal 1 2 3 rfl rfl rfl rfl rfl) ?_
   repeat' (apply dw_ret)
   exact⟨.inl rfl,_,rfl,rfl,by rw [f2];rfl⟩
 ·rw [if_neg h0]
  generalize readyE p pred=q at hc h0 ⊢
  repeat' (first|refine z0 ?_|apply ds_nil|apply dw_seq2|refine z16 ?_|apply dw_skip|apply thenD_n|refine z21 ?_ (hc:=by apply hc)|refine z1 ?_|refine z3 ?_|(refine z23 ?_ ?_ <;> intro hg)|fail)
  ·refine dw_ent (ent_trans (ent_cellnil 1 0 1 rfl rfl rfl) (ent_trans (ent_cellnil 1 1 1 rfl rfl rfl) (ent_cellnil 1 2 5 rfl rfl rfl))) ?_
   repeat' (first|apply dw_ret|apply thenD_r)
   exact⟨.inl rfl,_,rfl,rfl,rfl⟩
  ·exact absurd h0 hg
end Go.Proofs.YtapciiffpnociacGreat

/- Plain words on how the document's rounds go. Condition: none. -/
namespace Go.Proofs.YtapciiffpnociacGreat
def RdL (lv0 lv:List Int) (rose:Bool) (B:Int):Prop:=leL lv0 lv∧(rose=false→lv=lv0)∧(rose=true→lv≠lv0)∧∀ v∈lv,0≤v∧v≤B
theorem RdL.refl {lv:List Int} {B:Int} (h:∀ v∈lv,0≤v∧v≤B):RdL lv lv false B:=⟨leL.refl _,fun _=>rfl,(fun h=>nomatch h),h⟩
theorem RdL.more {lv0 lv:List Int} {rose:Bool} {B C:Int} (h:RdL lv0 lv rose B) (hc:B≤C):RdL lv0 lv rose C:=⟨h.1,h.2.1,h.2.2.1,fun v hv=>⟨(h.2.2.2 v hv).1,Int.le_trans (h.2.2.2 v hv).2 hc⟩⟩
theorem RdL.set {lv0 lv:List Int} {rose:Bool} {B v:Int} {i:Nat} (h:RdL lv0 lv rose B) (hi:i < lv.length) (hv:lv[i] < v) (hb:v≤B + 1):RdL lv0 (lv.set i v) true (B + 1):=by
 obtain⟨h1,h2,h3,h4⟩:=h
 have hg:lv.getD i 0=lv[i]:=by rw [List.getD,List.getElem?_eq_getElem hi];rfl
 refine⟨⟨by rw [List.length_set];exact h1.1,fun j=>?_⟩,(fun h=>nomatch h),fun _ he=>?_,fun u hu=>?_⟩
 ·have h5:=h1.2 j
  rw [set_getD _ _ _ hi]
  split
  ·rename_i hij;subst hij;omega
  ·exact h5
 ·have h5:=h1.2 i
  rw [← he,set_getD _ _ _ hi,if_pos rfl] at h5
  omega
 ·rcases List.mem_or_eq_of_mem_set hu with h|h
  ·have:=h4 u h;omega
  ·have:=h4 _ (List.getElem_mem hi);omega
def dLit (out:List Bool) (x:Ltl):List Bool:=if x.kind≤2 then out.set x.pred.toNat true else out
def dRule (out:List Bool) (r:Rul):List Bool:=if out.getD r.pred.toNat false then r.body.foldl dLit out else out
def dRound (l:List Rul) (out:List Bool):List Bool:=l.foldl dRule out
def dIter (l:List Rul):Nat→List Bool→List Bool
 | 0,out=>out
 | n + 1,out=>dRound l (dIter l n out)
def docNeeds (p:Prg) (pred:Int):List Bool:=dIter p.rules p.arity.length ((List.replicate p.arity.length false).set pred.toNat true)
theorem dLit_len (out:List Bool) (x:Ltl):(dLit out x).length=out.length:=by unfold dLit;split <;> simp
theorem dLits_len:∀ (b:List Ltl) (out:List Bool),(b.foldl dLit out).length=out.length
 | [],_=>rfl
 | x::b,out=>(dLits_len b (dLit out x)).trans (dLit_len out x)
theorem dRule_len (out:List Bool) (r:Rul):(dRule out r).length=out.length:=by
 unfold dRule
 split
 ·exact dLits_len _ _
 ·rfl
theorem dRound_len:∀ (l:List Rul) (out:List Bool),(dRound l out).length=out.length
 | [],_=>rfl
 | r::l,out=>(dRound_len l (dRule out r)).trans (dRule_len out r)
theorem dIter_len (l:List Rul):∀ (n:Nat) (out:List Bool),(dIter l n out).length=out.length
 | 0,_=>rfl
 | n + 1,out=>(dRound_len l _).trans (dIter_len l n out)
theorem docNeeds_len (p:Prg) (pred:Int):(docNeeds p pred).length=p.arity.length:=by unfold docNeeds;rw [dIter_len];simp
theorem dLits_keep {i:Nat}:∀ (b:List Ltl) (out:List Bool),out.getD i false=true→(b.foldl dLit out).getD i false=true
 | [],_,h=>h
 | x::b,out,h=>by
  refine dLits_keep b (dLit out x) ?_
  unfold dLit
  split
  ·simp only [List.getD,List.getElem?_set] at h ⊢
   split
   ·rename_i hi
    subst hi
    by_cases hl:x.pred.toNat < out.length
    ·rw [if_pos hl];rfl
    ·rw [List.getElem?_eq_none (by omega)] at h;cases h
   ·exact h
  ·exact h
end Go.Proofs.YtapciiffpnociacGreat
