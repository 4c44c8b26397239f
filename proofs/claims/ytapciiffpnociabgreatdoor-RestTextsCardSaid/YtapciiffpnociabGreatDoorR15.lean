/- Several texts in one: TreJ TreL TreR TreV TreW TreX TreY. Condition: none. -/
import Derived.Test.YtapciiffpnociabGreatDoorR12
import Derived.Test.YtapciiffpnociabGreatDoorR09
import Derived.Test.YtapciiffpnociabGreatDoorR14
import Derived.Test.YtapciiffpnociabGreatDoorR10
import Derived.Test.YtapciiffpnociabGreatDoorR08
import Derived.Test.YtapciiffpnociabGreatDoorR11
namespace Go.Proofs.YtapciiffpnociabGreatDoor
open Go Go.RowKit
section
variable {Γ : Ctx} {k : Nat} {L : Sl} {H : Hp}
theorem ev_bin_run {b:BinOp} {t t2 ty:TypeId} {x:Operand} {u v:Value} {r:Bool} (hx:opSV L x = .val u) (hxo:opOkB x=true)
  (h1:∀ w,(eqGuard b t x (.const v) u v).run Γ.P w = .ok () w) (h2:∀ w,(binOp b t u v).run Γ.P w = .ok (.bool r) w):Ev Γ (lo k) L H (.binOp b t x (.const v) t2) ty (.d (.bool r)):=by
 unfold Ev
 intro e a w m
 have hr:=m.op x (opOkB_spec hxo)
 rw [hx] at hr
 have hv:a.eval x=u:=hr
 refine⟨.bool r,fun _ _ _ _ w' _=>?_,.bool⟩
 have hc:a.eval (.const v)=v:=rfl
 simp [execOp,hv,hc,h1,h2]
theorem ev_assert_run {t t2 ty:TypeId} {x:Operand} {kd:IntKind} {n:Int} (hx:opSV L x = .val (.iface t (.int kd n))) (hxo:opOkB x=true)
  (hrun:∀ w,(Instr.typeAssert (.iface t (.int kd n)) t2 t true).run Γ.P w = .ok (.tuple #[.int kd n,.bool true]) w) (hn:(Lit.int kd n).wf=true):Ev Γ (lo k) L H (.typeAssert x t2 t true) ty (.tup [.d (.int kd n),.d (.bool true)]):=by
 unfold Ev
 intro e a w m
 have hr:=m.op x (opOkB_spec hxo)
 rw [hx] at hr
 have hv:a.eval x = .iface t (.int kd n):=hr
 refine⟨.tuple #[.int kd n,.bool true],fun _ _ _ _ w' _=>?_,_,rfl,⟨.int hn,.bool,trivial⟩⟩
 simp [execOp,hv,hrun]
end
abbrev treeV (rs:List TRu):SV:=.agg [.d (.slice 5 (rs.map encTRu))]
def parseMay (l:List Tok) (e:Int) (v:Value) (H:Hp):Prop:=∃ j acc,rulesGo l e (l.length + 1) 0 [] = .error j∧v=plV (hereT l e j)∧H=[(1,.blk 24 [.row 4]),(2,.blk 3 [.d (.int .i64 0)]),(3,.blk 25 [.d (.int .i64 0)]),(4,.row 47 5 acc)]
def parseRC (l:List Tok) (e:Int) (_:Nat) (H:Hp):Prop:=∃ j,rulesGo l e (l.length + 1) 0 [] = .error j∧Hp.get H 1=some (.blk 24 [.nils])∧Hp.get H 2=some (.blk 3 [.d (.int .i64 (hereT l e j))])∧Hp.get H 3=some (.blk 25 [.d (.int .i64 1)])
def parseR (l:List Tok) (e:Int) (k:Nat) (r:SV) (H:Hp):Prop:=k=1∧H=[]∧r=match rulesGo l e (l.length + 1) 0 [] with
 | .ok rs=>.tup [treeV rs,.d (.int .i64 0),.d (.int .i64 0)]
 | .error j=>.tup [.agg [.nils],.d (.int .i64 (hereT l e j)),.d (.int .i64 1)]
attribute [local irreducible] DW DS DL DQ Ev FnOk FnP FnOkE thenD inBlockD
set_option maxHeartbeats 8000000 in
theorem parse1_catch (l:List Tok) (e:Int) (hh:∀ j,(Lit.int .i64 (hereT l e j)).wf=true):CatchOk false Tryz.prog tab tab_ok 57 [1,2,3] 4 (parseMay l e) (parseRC l e):=by
 refine catch_of _ Tryz.func57 rfl rfl rfl (by decide) (by decide) (by decide) ?_
 rintro O w0 E0 β0 v k H ⟨j,acc,hj,rfl,rfl⟩
 repeat' (first|refine z0 ?_|apply dw_seq2|refine z16 ?_|fail)
 change DS _ _ _ _ _ _ _ _
 refine ds_ev (ev_bin_run (r:=true) rfl rfl (fun w=>rfl) (fun w=>by kernel_rfl)) rfl rfl ?_
 repeat' (first|refine z0 ?_|apply ds_nil|apply dw_seq2|refine z16 ?_|refine z18 ?_|apply thenD_n)
 refine ds_ev (ev_assert_run rfl rfl (fun w=>by kernel_rfl) (hh j)) rfl rfl ?_
 repeat' (first|refine z0 ?_|apply ds_nil|apply dw_seq2|refine z16 ?_|apply dw_skip|refine z19 ?_|apply thenD_n|refine z3 ?_|fail)
 exact⟨.inl rfl,j,hj,rfl,rfl,rfl⟩
set_option maxHeartbeats 8000000 in
theorem parse1_idle:IdleOk false Tryz.prog 57:=by
 refine idle_of tab tab_ok Tryz.func57 rfl rfl (by decide) (by decide) ?_
 intro w0 N hN
 obtain⟨n,rfl⟩:∃ n,N=n + Tryz.f57.ntmps:=⟨N - Tryz.f57.ntmps,by omega⟩
 repeat' (first|refine z0 ?_|apply dw_seq2|refine z16 ?_|fail)
 change DS _ _ _ _ _ _ _ _
 refine ds_ev (ev_bin_run (r:=false) rfl rfl (fun w=>rfl) (fun w=>by kernel_rfl)) rfl rfl ?_
 repeat' (first|apply ds_nil|apply dw_skip|refine z19 ?_|apply thenD_n)
 exact .inl rfl
set_option maxHeartbeats 8000000 in
theorem pparse_fn (l:List Tok) (e:Int) (hh:∀ j,(Lit.int .i64 (hereT l e j)).wf=true) (hl:l.length≤900000) (hok:l.all tokOk=true):FnOk false Tryz.prog tab tab_ok 31 [.loc 0 0] 1 1 (prH l 0 e) (parseR l e):=by
 refine FnOk.kept ?_
 have ll:(l.map encTok).length=l.length:=List.length_map _
 refine fn_enterDef (g:=57) (JA:=4) (kA:=4) (LA:=[(2,.loc 1 0),(3,.loc 2 0),(4,.loc 3 0),(0,.loc 0 0)]) (HA:=[(0,prB l 0 e),(1,.blk 24 [.nils]),(2,.blk 3 [.d (.int .i64 0)]),(3,.blk 25 [.d (.int .i64 0)])]) (ids:=[1,2,3]) (rs:=[(2,1),(3,2),(4,3)]) (may:=parseMay l e) (RC:=parseRC l e) _ Tryz.func31 rfl rfl (by kernel_rfl) (by kernel_rfl) (by decide) (by decide) (by decide) rfl rfl (by decide) ?_ ?_ parse1_idle (parse1_catch l e hh) ?_
 ·intro O w0 E0 β0
  repeat' (first|apply ds_nil|refine z16 ?_|refine z1 ?_|fail)
  exact⟨rfl,ent_ren id ⟨rfl,rfl,rfl,rfl,trivial⟩ ⟨rfl,rfl,rfl,rfl,trivial⟩ rfl rfl rfl rfl rfl rfl⟩
 ·intro O w0 E0 β0
  refine dw_ent (ent_cellrow 1 0 47 5 rfl rfl rfl) ?_
  repeat' (first|apply dw_seq2|apply dw_block)
  refine ds_loop (ι:=Nat × List TRu × Nat) (fun x=>⟨5,[(0,.loc 0 0),(2,.loc 1 0),(3,.loc 2 0),(4,.loc 3 0)],[(0,prB l x.1 e),(1,.blk 24 [.row 4]),(2,.blk 3 [.d (.int .i64 0)]),(3,.blk 25 [.d (.int .i64 0)]),(4,.row 47 5 (x.2.1.map encTRu))]⟩)
   (fun x=>rulesGo l e (l.length + 1) 0 []=rulesGo l e x.2.2 x.1 x.2.1∧x.1≤l.length∧l.length < x.2.2 + x.1∧x.2.1.length≤x.1) (fun x=>x.2.2) (0,[],l.length + 1) ⟨rfl,Nat.zero_le _,Nat.lt_succ_self _,Nat.le_refl _⟩ (ent_ren id ⟨rfl,rfl,rfl,rfl,trivial⟩ ⟨rfl,rfl,rfl,rfl,rfl,trivial⟩ rfl rfl rfl rfl rfl rfl) ?_
  rintro⟨j,acc,n⟩ ⟨ht,hj,hn,ha⟩
  dsimp only at ht hj hn ha ⊢
  obtain⟨n,rfl⟩:∃ m,n=m + 1:=⟨n - 1,by omega⟩
  rw [rulesGo_succ l e n j acc] at ht
  by_cases hjl:j < l.length
  ·rw [if_pos hjl] at ht
   have w1:=prule_fn l j e hj hl hok
   repeat' (first|refine z0 ?_|apply ds_nil|refine z5 ?_|refine z10 ?_|apply dw_seq2|refine z16 ?_|refine z20 ?_|apply dw_block|apply dw_skip|apply dw_exit|apply thenD_n|apply thenD_e|refine z17 ?_|refine z3 ?_|(refine z23 ?_ ?_ <;> intro hg)|fail)
   all_goals try (exfalso;omega)
   (refine ds_callE id (w1) rfl rfl rfl rfl ⟨rfl,trivial⟩ rfl rfl rfl rfl rfl rfl ?_ ?_ ?_)
   ·rintro v ⟨q,h,rfl⟩
    exact⟨by intro p hp;simp only [List.mem_cons,List.not_mem_nil,or_false] at hp;rcases hp with rfl|rfl|rfl <;> rfl,q,acc.map encTRu,by rw [ht,h],rfl,rfl⟩
   ·rintro k2 res H2 ⟨x,q,_,rfl,rfl,rfl⟩;exact⟨rfl,rfl⟩
   rintro k2 res H2 ⟨x,q,h6,rfl,rfl,rfl⟩
   change DS _ _ _ _ _ _ _ _
   clear w1
   obtain⟨q1,q2⟩:=ruleT_lt h6
   rw [h6] at ht
   dsimp only at ht
   have lac:(acc.map encTRu).length=acc.length:=List.length_map _
   have hap:(acc++[x]).map encTRu=acc.map encTRu++[encTRu x]:=List.map_append
   repeat' (first|refine z0 ?_|apply ds_nil|refine z16 ?_|apply thenD_n|apply inB_n|refine z1 ?_|refine z3 ?_|refine z4 ?_|refine z2 ?_|fail)
   all_goals try (exfalso;omega)
   exact⟨(q,acc++[x],n),⟨ht,q2,by show l.length < n + q;omega,by show (acc++[x]).length≤q;rw [List.length_append];simp;omega⟩,ent_ren (fun x=>match x with|0=>0|1=>1|2=>2|3=>3|_=>_) ⟨rfl,rfl,rfl,rfl,trivial⟩ ⟨rfl,rfl,rfl,rfl,by dsimp only;rw [hap];rfl,trivial⟩ rfl rfl rfl rfl rfl rfl,by show n < n + 1;omega⟩
  ·rw [if_neg hjl] at ht
   repeat' ((fail_if_success (apply dw_stopS 5));(first|refine z0 ?_|refine z5 ?_|refine z10 ?_|apply dw_seq2|refine z16 ?_|refine z20 ?_|apply dw_block|apply dw_skip|apply dw_exit|apply thenD_n|apply thenD_e|refine z17 ?_|(refine z23 ?_ ?_ <;> intro hg)|fail))
   all_goals try (exfalso;omega)
   refine dw_ent (ent_cellseal 1 0 4 rfl rfl rfl rfl rfl) ?_
   repeat' (first|refine z0 ?_|apply ds_nil|apply dw_seq2|refine z16 ?_|apply dw_ret|apply thenD_n|refine z3 ?_|fail)
   unfold parseR
   rw [ht]
   exact⟨.inl rfl,_,rfl,id,1,_,[],rfl,trivial,rfl,rfl,rfl,rfl,rfl,rfl,rfl,rfl,rfl⟩
 ·rintro k H ⟨j,hj,h1,h2,h3⟩
  unfold parseR
  rw [hj]
  refine⟨.tup [.agg [.nils],.d (.int .i64 (hereT l e j)),.d (.int .i64 1)],?_,id,1,_,[],rfl,trivial,rfl,rfl,rfl,rfl,rfl,rfl,rfl,rfl,rfl⟩
  have e1:resOne (locSl [(2,1),(3,2),(4,3)]) H tab (.cell 2 24)=some (.agg [.nils]):=by
   show (match Hp.get H 1 with
    | some (.blk _ cs)=>(match (tiGet tab 24).sh with
     | .struct _=>(match Nat.ble (0 + (tiGet tab 24).cells) cs.length with
      | true=>some (SV.agg ((cs.drop 0).take (tiGet tab 24).cells))
      | false=>none)
     | .other=>none
     | _=>cs[0]?)
    | _=>none)=_
   rw [h1];rfl
  have e2:resOne (locSl [(2,1),(3,2),(4,3)]) H tab (.cell 3 3)=some (.d (.int .i64 (hereT l e j))):=by
   show (match Hp.get H 2 with
    | some (.blk _ cs)=>(match (tiGet tab 3).sh with
     | .struct _=>(match Nat.ble (0 + (tiGet tab 3).cells) cs.length with
      | true=>some (SV.agg ((cs.drop 0).take (tiGet tab 3).cells))
      | false=>none)
     | .other=>none
     | _=>cs[0]?)
    | _=>none)=_
   rw [h2];rfl
  have e3:resOne (locSl [(2,1),(3,2),(4,3)]) H tab (.cell 4 25)=some (.d (.int .i64 1)):=by
   show (match Hp.get H 3 with
    | some (.blk _ cs)=>(match (tiGet tab 25).sh with
     | .struct _=>(match Nat.ble (0 + (tiGet tab 25).cells) cs.length with
      | true=>some (SV.agg ((cs.drop 0).take (tiGet tab 25).cells))
      | false=>none)
     | .other=>none
     | _=>cs[0]?)
    | _=>none)=_
   rw [h3];rfl
  show resSV _ H tab [.cell 2 24,.cell 3 3,.cell 4 25]=_
  simp only [resSV,resL,e1,e2,e3]
theorem chain_atT {s:ByteArray}:∀ (l:List Tok) (i:Nat),Chain s i l→∀ t∈l,0≤t.at_∧t.at_≤s.size
 | [],_,_,_,ht=>nomatch ht
 | t::l,i,h,x,hx=>by
  obtain⟨j,_,hat,⟨hj,_,_⟩,_,_,h5⟩:=h
  rcases List.mem_cons.1 hx with rfl|hx
  ·omega
  ·exact chain_atT l _ h5 x hx
theorem chain_lenT {s:ByteArray}:∀ (l:List Tok) (i:Nat),Chain s i l→i≤s.size→l.length + i≤s.size
 | [],_,_,h=>by simpa using h
 | t::l,i,h,hi=>by
  obtain⟨j,hij,hat,⟨hj,h1,h2⟩,h3,h4,h5⟩:=h
  have hk:=tokErr_kind h2
  have hp:=tokAt_pos (s.data.toList.drop j) (by rw [h1];exact hk)
  rw [h1] at hp
  have:=chain_lenT l _ h5 (by omega)
  rw [List.length_cons]
  omega
def encParse (q:List TRu × Int × Int):SV:=.tup [treeV q.1,.d (.int .i64 q.2.1),.d (.int .i64 q.2.2)]
set_option maxHeartbeats 8000000 in
theorem tparse_fn (s:ByteArray):Fn 12 [.d (.str s)] (fun r=>r=encParse (parseS s)):=by
 refine fnp_enter' _ Tryz.func12 rfl rfl (by kernel_rfl) ?_
 intro O w0 E0 β0
 have w1:=scan_fn s
 unfold encScan at w1
 obtain⟨⟨l,p,er⟩,hq⟩:∃ q,q=scanS s:=⟨_,rfl⟩
 unfold parseS
 rw [← hq] at w1 ⊢
 dsimp only at w1 ⊢
 unfold encParse
 by_cases he:er=0
 ·subst he
  obtain⟨hc,hs,hp⟩:=scanS_chain s l p hq.symm
  have hok:=scanS_all hq.symm
  have hlen:=chain_lenT l 0 hc (Nat.zero_le _)
  have hat:=chain_atT l 0 hc
  have w2:=pparse_fn l s.size (fun j=>by
   unfold hereT
   by_cases hj:j < l.length
   ·rw [List.getElem?_eq_getElem hj]
    have:=hat _ (List.getElem_mem hj)
    exact i64_wf (by dsimp only;omega) (by dsimp only;omega)
   ·rw [List.getElem?_eq_none (by omega)]
    exact i64_wf (by dsimp only;omega) (by dsimp only;omega)) (by omega) hok
  rw [if_neg (by simp)]
  repeat' (first|refine z0 ?_|apply ds_nil|apply dw_seq2|refine z16 ?_|apply dw_skip|refine z19 ?_|apply thenD_n|refine z21 ?_ (hc:=by apply w1)|refine z1 ?_|fail)
  all_goals try (exfalso;omega)
  refine ds_callF (fun _=>1) w2 rfl rfl rfl rfl ⟨rfl,trivial⟩ rfl rfl rfl rfl rfl rfl ?_ ?_
  ·rintro k2 res H2 hR
   unfold parseR at hR
   cases hr:rulesGo l s.size (l.length + 1) 0 [] with
   | error j=>rw [hr] at hR;obtain⟨rfl,rfl,rfl⟩:=hR;exact⟨rfl,rfl⟩
   | ok rs=>rw [hr] at hR;obtain⟨rfl,rfl,rfl⟩:=hR;exact⟨rfl,rfl⟩
  rintro k2 res H2 hR
  unfold parseR at hR
  clear w2
  cases hr:rulesGo l s.size (l.length + 1) 0 [] with
  | error j =>
   rw [hr] at hR
   obtain⟨rfl,rfl,rfl⟩:=hR
   change DS _ _ _ _ _ _ _ _
   dsimp only
   repeat' (first|refine z0 ?_|apply ds_nil|apply dw_seq2|refine z16 ?_|apply dw_skip|refine z18 ?_|refine z19 ?_|apply thenD_n|refine z1 ?_|refine z3 ?_|fail)
   all_goals try (exfalso;omega)
   refine dw_ent (ent_cellnil 0 0 5 rfl rfl rfl) ?_
   repeat' (first|apply dw_ret|apply thenD_r)
   exact⟨.inl rfl,_,rfl,rfl,rfl⟩
  | ok rs =>
   rw [hr] at hR
   obtain⟨rfl,rfl,rfl⟩:=hR
   change DS _ _ _ _ _ _ _ _
   dsimp only
   have w3:=tcheck_fn rs
   by_cases hk:checkT rs=0
   ·rw [if_pos hk]
    rw [hk] at w3
    repeat' (first|refine z0 ?_|apply ds_nil|apply dw_seq2|refine z16 ?_|apply dw_skip|apply dw_ret|refine z18 ?_|refine z19 ?_|apply thenD_n|refine z21 ?_ (hc:=by apply w3)|refine z1 ?_|refine z3 ?_|fail)
    all_goals try (exfalso;omega)
    exact⟨.inl rfl,_,rfl,rfl,rfl⟩
   ·rw [if_neg hk]
    repeat' (first|refine z0 ?_|apply ds_nil|apply dw_seq2|refine z16 ?_|apply dw_skip|refine z18 ?_|apply thenD_n|refine z21 ?_ (hc:=by apply w3)|refine z1 ?_|refine z3 ?_|(refine z23 ?_ ?_ <;> intro hg)|fail)
    all_goals try (exfalso;omega)
    refine dw_ent (ent_cellnil 0 0 5 rfl rfl rfl) ?_
    repeat' (first|apply dw_ret|apply thenD_r)
    exact⟨.inl rfl,_,rfl,rfl,rfl⟩
 ·rw [if_pos he]
  repeat' (first|refine z0 ?_|apply ds_nil|apply dw_seq2|refine z16 ?_|apply dw_skip|apply thenD_n|refine z21 ?_ (hc:=by apply w1)|refine z1 ?_|refine z3 ?_|(refine z23 ?_ ?_ <;> intro hg)|fail)
  all_goals try (exfalso;omega)
  refine dw_ent (ent_cellnil 0 0 5 rfl rfl rfl) ?_
  repeat' (first|apply dw_ret|apply thenD_r)
  exact⟨.inl rfl,_,rfl,rfl,rfl⟩
def smallS:ByteArray:=⟨#[113,40,49,44,32,50,41,46,10,112,40,88,44,32,99,111,117,110,116,32,89,41,32,58,45,32,113,40,88,44,32,89,41,44,32,110,111,116,32,114,40,89,41,44,32,88,32,60,32,89,46,10]⟩
def smallRs:List TRu:=[⟨0,⟨#[113]⟩,[⟨⟨#[]⟩,1⟩,⟨⟨#[]⟩,2⟩],0,[]⟩,⟨9,⟨#[112]⟩,[⟨⟨#[88]⟩,0⟩,⟨⟨#[89]⟩,0⟩],1,[⟨1,26,0,⟨#[113]⟩,[⟨⟨#[88]⟩,0⟩,⟨⟨#[89]⟩,0⟩]⟩,⟨2,35,0,⟨#[114]⟩,[⟨⟨#[89]⟩,0⟩]⟩,⟨3,45,1,⟨#[]⟩,[⟨⟨#[88]⟩,0⟩,⟨⟨#[89]⟩,0⟩]⟩]⟩]
theorem small_parse:parseS smallS=(smallRs,0,0):=by kernel_rfl
theorem small_check:checkT smallRs=0:=by kernel_rfl
attribute [local irreducible] DT
set_option maxHeartbeats 8000000 in
theorem treeBegun_fn:Fn 14 [] (fun r=>r = .d (.bool true)):=by
 refine fnp_enter' _ Tryz.func14 rfl rfl (by kernel_rfl) ?_
 intro O w0 E0 β0
 have h1:=tparse_fn smallS
 have h2:=tcheck_fn smallRs
 rw [small_parse] at h1
 rw [small_check] at h2
 unfold encParse at h1
 unfold smallRs at h1 h2
 unfold smallS at h1
 dsimp only at h1 h2
 repeat' (first|refine z0 ?_|apply ds_nil|apply dw_seq2|refine z16 ?_|apply dw_ret|apply thenD_n|refine z21 ?_ (hc:=by apply h1)|refine z21 ?_ (hc:=by apply h2)|refine z1 ?_|refine z3 ?_|fail)
 all_goals first|exact ret_b rfl (by decide)
def textT (l:List Tok) (i:Nat) (f:Bool):ByteArray:=match f with
 | true=>⟨#[]⟩
 | false=>match l[i]? with
  | some t=>t.text
  | none=>⟨#[]⟩
theorem textT_sees {l:List Tok} {i:Nat} {s:ByteArray} (hs:s≠⟨#[]⟩):decide (textT l i false=s)=seesT l i s:=by
 unfold textT seesT
 dsimp only
 cases l[i]? with
 | none=>exact decide_eq_false (fun h=>hs h.symm)
 | some t=>rfl
theorem textT_failed (l:List Tok) (i:Nat):textT l i true=⟨#[]⟩:=rfl
abbrev rdH (l:List Tok) (i:Nat) (e:Int) (f:Bool):Hp:=[(0,.blk 76 [.d (.slice 3 (l.map encTok)),.d (.int .i64 i),.d (.int .i64 e),.d (.bool f)])]
set_option maxHeartbeats 8000000 in
theorem rhere_fn (l:List Tok) (i:Nat) (e:Int) (f:Bool):FnOk false Tryz.prog tab tab_ok 33 [.loc 0 0] 1 1 (rdH l i e f) (fun k r H=>k=1∧r = .d (.int .i64 (hereT l e i))∧H=rdH l i e f):=by
 refine fn_enterR _ Tryz.func33 rfl rfl (by kernel_rfl) ?_
 intro O w0 E0 β0
 have ll:(l.map encTok).length=l.length:=List.length_map _
 by_cases hi:i < l.length
 ·have hh:hereT l e i=l[i].at_:=by unfold hereT;rw [List.getElem?_eq_getElem hi]
  rw [hh]
  repeat' (first|refine z0 ?_|apply ds_nil|refine z5 ?_|refine z10 ?_|apply dw_seq2|refine z16 ?_|refine z20 ?_|apply dw_skip|apply dw_ret|apply thenD_n|apply thenD_r|(refine z23 ?_ ?_ <;> intro hg)|fail)
  all_goals try (exfalso;omega)
  exact⟨.inl rfl,_,rfl,id,1,_,rdH l i e f,rfl,⟨rfl,trivial⟩,rfl,rfl,rfl,rfl,rfl,rfl,rfl,rfl,rfl⟩
 ·have hh:hereT l e i=e:=by unfold hereT;rw [List.getElem?_eq_none (by omega)]
  rw [hh]
  repeat' (first|refine z0 ?_|apply ds_nil|refine z5 ?_|refine z10 ?_|apply dw_seq2|refine z16 ?_|refine z20 ?_|apply dw_skip|apply dw_ret|apply thenD_n|apply thenD_r|(refine z23 ?_ ?_ <;> intro hg)|fail)
  all_goals try (exfalso;omega)
  exact⟨.inl rfl,_,rfl,id,1,_,rdH l i e f,rfl,⟨rfl,trivial⟩,rfl,rfl,rfl,rfl,rfl,rfl,rfl,rfl,rfl⟩
set_option maxHeartbeats 8000000 in
theorem rtext_fn (l:List Tok) (i:Nat) (e:Int) (f:Bool):FnOk false Tryz.prog tab tab_ok 36 [.loc 0 0] 1 1 (rdH l i e f) (fun k r H=>k=1∧r = .d (.str (textT l i f))∧H=rdH l i e f):=by
 refine fn_enterR _ Tryz.func36 rfl rfl (by kernel_rfl) ?_
 intro O w0 E0 β0
 have ll:(l.map encTok).length=l.length:=List.length_map _
 unfold textT
 cases f with
 | true =>
  repeat' (first|refine z0 ?_|apply ds_nil|refine z5 ?_|refine z14 ?_|refine z10 ?_|apply dw_seq2|refine z16 ?_|refine z20 ?_|apply dw_ret|refine z18 ?_|apply thenD_n|apply thenD_r)
  all_goals try (exfalso;omega)
  exact⟨.inl rfl,_,rfl,id,1,_,rdH l i e true,rfl,⟨rfl,trivial⟩,rfl,rfl,rfl,rfl,rfl,rfl,rfl,rfl,rfl⟩
 | false =>
  dsimp only
  by_cases hi:i < l.length
  ·rw [List.getElem?_eq_getElem hi]
   dsimp only
   repeat' (first|refine z0 ?_|apply ds_nil|refine z5 ?_|refine z10 ?_|apply dw_seq2|refine z16 ?_|refine z20 ?_|apply dw_skip|apply dw_ret|apply thenD_n|apply thenD_r|(refine z23 ?_ ?_ <;> intro hg)|fail)
   all_goals try (exfalso;omega)
   exact⟨.inl rfl,_,rfl,id,1,_,rdH l i e false,rfl,⟨rfl,trivial⟩,rfl,rfl,rfl,rfl,rfl,rfl,rfl,rfl,rfl⟩
  ·rw [List.getElem?_eq_none (by omega)]
   dsimp only
   repeat' (first|refine z0 ?_|apply ds_nil|refine z5 ?_|refine z10 ?_|apply dw_seq2|refine z16 ?_|refine z20 ?_|apply dw_skip|apply dw_ret|apply thenD_n|apply thenD_r|(refine z23 ?_ ?_ <;> intro hg)|fail)
   all_goals try (exfalso;omega)
   exact⟨.inl rfl,_,rfl,id,1,_,rdH l i e false,rfl,⟨rfl,trivial⟩,rfl,rfl,rfl,rfl,rfl,rfl,rfl,rfl,rfl⟩
set_option maxHeartbeats 8000000 in
theorem rneed_fn (l:List Tok) (i:Nat) (e:Int) (f:Bool) (s:ByteArray) (hi:i≤1000000):FnOk false Tryz.prog tab tab_ok 37 [.loc 0 0,.d (.str s)] 1 1 (rdH l i e f) (fun k r H=>k=1∧r = .tup []∧H=match f with
  | true=>rdH l i e true
  | false=>match decide (textT l i false=s) with
   | true=>rdH l (i + 1:Nat) e false
   | false=>rdH l i e true):=by
 refine fn_enterR _ Tryz.func37 rfl rfl (by kernel_rfl) ?_
 intro O w0 E0 β0
 cases f with
 | true =>
  repeat' (first|refine z0 ?_|apply ds_nil|apply dw_seq2|refine z16 ?_|apply dw_ret|refine z18 ?_|apply thenD_n|apply thenD_r)
  exact⟨.inl rfl,_,rfl,id,1,_,rdH l i e true,rfl,⟨rfl,trivial⟩,rfl,rfl,rfl,rfl,rfl,rfl,rfl,rfl,rfl⟩
 | false =>
  have w1:=rtext_fn l i e false
  repeat' (first|refine z0 ?_|apply ds_nil|apply dw_seq2|refine z16 ?_|apply dw_skip|refine z19 ?_|apply thenD_n)
  (refine ds_callF id (w1) rfl rfl rfl rfl ⟨rfl,trivial⟩ rfl rfl rfl rfl rfl rfl ?_ ?_)
  ·rintro k2 res H2 ⟨rfl,rfl,rfl⟩;exact⟨rfl,rfl⟩
  rintro k2 res H2 ⟨rfl,rfl,rfl⟩
  change DS _ _ _ _ _ _ _ _
  clear w1
  generalize textT l i false=t
  by_cases hs:t=s
  ·rw [decide_eq_true hs]
   repeat' (first|refine z0 ?_|apply ds_nil|refine z16 ?_|apply thenD_n|refine z3 ?_|(refine z23 ?_ ?_ <;> intro hg)|fail)
   all_goals try (exfalso;exact absurd hs (by assumption))
   exact⟨.inr rfl,_,rfl,id,1,_,rdH l (i + 1:Nat) e false,rfl,⟨rfl,trivial⟩,rfl,rfl,rfl,rfl,rfl,rfl,rfl,rfl,rfl⟩
  ·rw [decide_eq_false hs]
   repeat' (first|refine z0 ?_|apply ds_nil|refine z16 ?_|apply thenD_n|refine z3 ?_|(refine z23 ?_ ?_ <;> intro hg)|fail)
   all_goals try (exfalso;exact absurd (by assumption) hs)
   exact⟨.inr rfl,_,rfl,id,1,_,rdH l i e true,rfl,⟨rfl,trivial⟩,rfl,rfl,rfl,rfl,rfl,rfl,rfl,rfl,rfl⟩
def rdRes {α:Type} (p:PR α) (l:List Tok) (e:Int) (enc:α→SV) (junk:SV→Prop) (r:SV) (H:Hp):Prop:=match p with
 | .ok (x,j)=>r=enc x∧H=rdH l j e false
 | .error j=>junk r∧H=rdH l j e true
def rdP {α:Type} (f:Bool) (i:Nat) (p:PR α):PR α:=match f with
 | true=>.error i
 | false=>p
theorem tok_first {t:Tok} (h:tokOk t=true):∃ h0:0 < t.text.size,greatB t.text[0]=decide (t.kind=2)∧digitB t.text[0]=decide (t.kind=3)∧smallB t.text[0]=decide (t.kind=1):=by
 obtain⟨h0,_,h2,h3⟩:=ok_parts h
 obtain⟨r,hr⟩:=first_byte t.text h0
 refine⟨h0,?_⟩
 rw [hr,tokAt_cons] at h2
 generalize t.text[0]=c at *
 have x1:smallB c=true→greatB c=false∧digitB c=false:=by
  unfold smallB greatB digitB
  simp only [Bool.and_eq_true,decide_eq_true_eq,Bool.and_eq_false_iff,decide_eq_false_iff_not]
  omega
 have x2:greatB c=true→digitB c=false:=by
  unfold greatB digitB
  simp only [Bool.and_eq_true,decide_eq_true_eq,Bool.and_eq_false_iff,decide_eq_false_iff_not]
  omega
 unfold letterB at h2
 have hne:t.kind≠0:=tokErr_kind h3
 cases hs:smallB c with
 | true =>
  obtain⟨y1,y2⟩:=x1 hs
  rw [hs] at h2
  simp only [Bool.true_or,if_true] at h2
  have:=(Prod.mk.inj h2).1
  rw [y1,y2,← this]
  decide
 | false =>
  cases hg:greatB c with
  | true =>
   have y2:=x2 hg
   rw [hs,hg] at h2
   simp only [Bool.or_true,if_true,Bool.false_eq_true,if_false] at h2
   have:=(Prod.mk.inj h2).1
   rw [y2,← this]
   decide
  | false =>
   rw [hs,hg] at h2
   simp only [Bool.or_self,Bool.false_eq_true,if_false] at h2
   cases hd:digitB c with
   | true =>
    rw [hd] at h2
    simp only [if_true] at h2
    have:=(Prod.mk.inj h2).1
    rw [← this]
    decide
   | false =>
    rw [hd] at h2
    simp only [Bool.false_eq_true,if_false] at h2
    have:t.kind=4∨t.kind=0:=by
     split at h2
     ·exact .inl (Prod.mk.inj h2).1.symm
     ·split at h2
      ·exact .inl (Prod.mk.inj h2).1.symm
      ·exact .inr (Prod.mk.inj h2).1.symm
    rcases this with h|h
    ·rw [h];decide
    ·exact absurd h hne
theorem nameRS (s:ByteArray):nameR s=nameS s:=by unfold nameR nameS;rw [oneS_eq]
theorem nameS_nil:nameS ⟨#[]⟩=false:=by kernel_rfl
def numK (s:ByteArray) (k:Nat):Int:=(s.data.toList.take k).foldl (fun n c=>10 * n + ((c.toNat:Int) - 48)) 0
theorem numK_all (s:ByteArray):numK s s.size=numT s:=by
 unfold numK numT
 rw [List.take_of_length_le (by rw [show s.data.toList.length=s.size from Array.length_toList];exact Nat.le_refl _)]
theorem numK_succ (s:ByteArray) (k:Nat) (h:k < s.size):numK s (k + 1)=10 * numK s k + (s[k].toNat:Int) - 48:=by
 unfold numK
 have hl:k < s.data.toList.length:=by rw [show s.data.toList.length=s.size from Array.length_toList];exact h
 rw [List.take_succ_eq_append_getElem hl,List.foldl_append]
 show 10 * _ + (((s.data.toList[k]).toNat:Int) - 48)=_
 have:s.data.toList[k]=s[k]:=by rw [Array.getElem_toList];rfl
 rw [this]
 omega
theorem fold_bound:∀ (l:List UInt8) (a:Int) (k:Nat),(∀ c∈l,digitB c=true)→0≤a→a < 10 ^ k→0≤l.foldl (fun n c=>10 * n + ((c.toNat:Int) - 48)) a∧l.foldl (fun n c=>10 * n + ((c.toNat:Int) - 48)) a < 10 ^ (k + l.length):=by
 intro l
 induction l with
 | nil=>intro a k _ h0 h1;exact⟨h0,h1⟩
 | cons c l ih =>
  intro a k hd h0 h1
  have hc:=hd c (List.mem_cons_self ..)
  unfold digitB at hc
  simp only [Bool.and_eq_true,decide_eq_true_eq] at hc
  have:=ih (10 * a + ((c.toNat:Int) - 48)) (k + 1) (fun x hx=>hd x (List.mem_cons_of_mem _ hx)) (by omega) (by rw [Int.pow_succ];omega)
  rw [List.foldl_cons,List.length_cons,show k + (l.length + 1)=k + 1 + l.length by omega]
  exact this
theorem numK_bound {s:ByteArray} (h7:s.size≤7) (hd:∀ c∈s.data.toList,digitB c=true) (k:Nat):0≤numK s k∧numK s k≤9999999:=by
 have:=fold_bound (s.data.toList.take k) 0 0 (fun c hc=>hd c (List.mem_of_mem_take hc)) (Int.le_refl _) (by decide)
 unfold numK
 refine⟨this.1,?_⟩
 have h2:=this.2
 have hl:(s.data.toList.take k).length≤7:=by
  rw [List.length_take,show s.data.toList.length=s.size from Array.length_toList]
  omega
 have:(10:Int) ^ (0 + (s.data.toList.take k).length)≤10 ^ 7:=by
  have h3:(10:Nat) ^ (0 + (s.data.toList.take k).length)≤10 ^ 7:=Nat.pow_le_pow_right (by decide) (by omega)
  exact_mod_cast h3
 have h4:(10:Int) ^ 7=10000000:=by decide
 omega
set_option maxHeartbeats 8000000 in
theorem rname_fn (l:List Tok) (i:Nat) (e:Int) (f:Bool) (hi:i≤1000000):FnOk false Tryz.prog tab tab_ok 34 [.loc 0 0] 1 1 (rdH l i e f) (fun k r H=>k=1∧rdRes (rdP f i (nameT l i)) l e (fun s=>.d (.str s)) (fun r=>∃ s,r = .d (.str s)) r H):=by
 refine fn_enterR _ Tryz.func34 rfl rfl (by kernel_rfl) ?_
 intro O w0 E0 β0
 have w1:=rtext_fn l i e f
 have w2:=isName_fn (textT l i f)
 rw [nameRS] at w2
 have hn:rdP f i (nameT l i)=match nameS (textT l i f) with|true=>.ok (textT l i f,i + 1)|false=>.error i:=by
  unfold rdP nameT textT
  cases f with
  | true=>rw [nameS_nil]
  | false =>
   dsimp only
   cases l[i]? with
   | none=>dsimp only;rw [nameS_nil]
   | some t =>
    dsimp only
    cases nameS t.text <;> rfl
 rw [hn]
 unfold rdRes
 repeat' (first|refine z0 ?_|apply ds_nil|apply dw_seq2|refine z16 ?_|apply thenD_n)
 (refine ds_callF id (w1) rfl rfl rfl rfl ⟨rfl,trivial⟩ rfl rfl rfl rfl rfl rfl ?_ ?_)
 ·rintro k2 res H2 ⟨rfl,rfl,rfl⟩;exact⟨rfl,rfl⟩
 rintro k2 res H2 ⟨rfl,rfl,rfl⟩
 change DS _ _ _ _ _ _ _ _
 clear w1 hn
 have hf:nameS (textT l i f)=true→f=false:=fun h=>by
  cases f with
  | false=>rfl
  | true=>rw [textT_failed,nameS_nil] at h;cases h
 generalize textT l i f=t at *
 cases hs:nameS t with
 | true =>
  rw [hs] at w2
  cases hf hs
  repeat' (first|refine z0 ?_|apply ds_nil|apply dw_seq2|refine z16 ?_|apply dw_skip|apply dw_ret|refine z19 ?_|apply thenD_n|refine z21 ?_ (hc:=by apply w2)|refine z3 ?_|fail)
  exact⟨.inl rfl,_,rfl,id,1,_,rdH l (i + 1:Nat) e false,rfl,⟨rfl,trivial⟩,rfl,rfl,rfl,rfl,rfl,rfl,rfl,rfl,rfl⟩
 | false =>
  rw [hs] at w2
  repeat' (first|refine z0 ?_|apply ds_nil|apply dw_seq2|refine z16 ?_|apply dw_ret|refine z18 ?_|apply thenD_n|apply thenD_r|refine z21 ?_ (hc:=by apply w2)|refine z3 ?_|fail)
  exact⟨.inl rfl,_,rfl,id,1,_,rdH l i e true,rfl,⟨rfl,trivial⟩,rfl,rfl,rfl,rfl,rfl,rfl,rfl,⟨_,rfl⟩,rfl⟩
theorem greatI (c:UInt8):(decide ((65:Int)≤c.toNat) && decide ((c.toNat:Int)≤90))=greatB c:=by unfold greatB;rfl
theorem minus_first {t:Tok} (hm:t.text=⟨#[45]⟩) (h:tokOk t=true):t.kind≠2:=by
 obtain⟨h0,h1,_⟩:=tok_first h
 intro hk
 rw [hk] at h1
 have:t.text[0]=45:=by simp only [hm];rfl
 rw [this,show greatB 45=false by unfold greatB;decide] at h1
 cases h1
theorem termT_var {l:List Tok} {i:Nat} (hi:i < l.length) (hot:tokOk l[i]=true) (hk:l[i].kind=2):termT l i = .ok (⟨l[i].text,0⟩,i + 1):=by
 have hn:seesT l i ⟨#[45]⟩=false:=by
  unfold seesT
  rw [List.getElem?_eq_getElem hi]
  exact decide_eq_false fun hm=>minus_first hm hot hk
 unfold termT
 rw [hn]
 dsimp only
 rw [List.getElem?_eq_getElem hi]
 dsimp only
 rw [if_pos ⟨hk,rfl⟩]
theorem termT_pos {l:List Tok} {i:Nat} (hi:i < l.length) (hn:l[i].text≠⟨#[45]⟩) (hk:l[i].kind≠2):termT l i=if l[i].kind=3 then .ok (⟨⟨#[]⟩,1 * numT l[i].text⟩,i + 1) else .error i:=by
 have hn:seesT l i ⟨#[45]⟩=false:=by
  unfold seesT
  rw [List.getElem?_eq_getElem hi]
  exact decide_eq_false hn
 unfold termT
 rw [hn]
 dsimp only
 rw [List.getElem?_eq_getElem hi]
 dsimp only
 rw [if_neg (fun h=>hk h.1)]
 by_cases h3:l[i].kind=3
 ·rw [if_neg (fun h=>h.elim (fun h=>h h3) (fun h=>Bool.noConfusion h.1)),if_pos h3]
 ·rw [if_pos (.inl h3),if_neg h3]
theorem termT_neg {l:List Tok} {i:Nat} (hi:i < l.length) (hn:l[i].text=⟨#[45]⟩):termT l i=match l[i + 1]? with
  | none=>.error (i + 1)
  | some t=>if t.kind=3∧t.text≠⟨#[48]⟩ then .ok (⟨⟨#[]⟩,-1 * numT t.text⟩,i + 1 + 1) else .error (i + 1):=by
 have hn:seesT l i ⟨#[45]⟩=true:=by
  unfold seesT
  rw [List.getElem?_eq_getElem hi]
  exact decide_eq_true hn
 unfold termT
 rw [hn]
 dsimp only
 cases l[i + 1]? with
 | none=>rfl
 | some t =>
  dsimp only
  rw [if_neg (fun h=>Bool.noConfusion h.2)]
  by_cases h3:t.kind=3∧t.text≠⟨#[48]⟩
  ·rw [if_neg (fun h=>h.elim (fun h=>h h3.1) (fun h=>h3.2 h.2)),if_pos h3]
  ·rw [if_pos (Classical.or_iff_not_imp_left.2 fun h=>⟨rfl,Classical.byContradiction fun h2=>h3 ⟨Classical.byContradiction h,h2⟩⟩),if_neg h3]
theorem text_some {l:List Tok} {i:Nat} (hi:i < l.length):textT l i false=l[i].text:=by unfold textT;rw [List.getElem?_eq_getElem hi]
theorem text_ne {l:List Tok} {i:Nat} {f:Bool} (h:textT l i f≠⟨#[]⟩):f=false∧i < l.length:=by
 unfold textT at h
 cases f with
 | true=>exact absurd rfl h
 | false =>
  refine⟨rfl,Classical.byContradiction fun hn=>?_⟩
  rw [List.getElem?_eq_none (by omega)] at h
  exact h rfl
theorem tok_ne {t:Tok} (h:tokOk t=true):t.text≠⟨#[]⟩:=by
 obtain⟨h0,_⟩:=tok_first h
 intro hn
 rw [hn] at h0
 exact absurd h0 (by decide)
set_option maxHeartbeats 8000000 in
theorem rterm_fn (l:List Tok) (i:Nat) (e:Int) (f:Bool) (hi:i≤1000000) (hok:l.all tokOk=true):FnOk false Tryz.prog tab tab_ok 60 [.loc 0 0] 1 1 (rdH l i e f) (fun k r H=>k=1∧rdRes (rdP f i (termT l i)) l e tmV (fun r=>∃ t,r=tmV t) r H):=by
 refine fn_enterR _ Tryz.func60 rfl rfl (by kernel_rfl) ?_
 intro O w0 E0 β0
 have w1:=rtext_fn l i e f
 repeat' (first|refine z0 ?_|apply ds_nil|apply dw_seq2|refine z16 ?_|apply thenD_n|refine z1 ?_|fail)
 (refine ds_callF id (w1) rfl rfl rfl rfl ⟨rfl,trivial⟩ rfl rfl rfl rfl rfl rfl ?_ ?_)
 ·rintro k2 res H2 ⟨rfl,rfl,rfl⟩;exact⟨rfl,rfl⟩
 rintro k2 res H2 ⟨rfl,rfl,rfl⟩
 change DS _ _ _ _ _ _ _ _
 clear w1
 by_cases h0:textT l i f=⟨#[]⟩
 ·have hp:rdP f i (termT l i) = .error i:=by
   cases f with
   | true=>rfl
   | false =>
    by_cases hil:i < l.length
    ·rw [text_some hil] at h0
     exact absurd h0 (tok_ne (List.all_eq_true.1 hok _ (List.getElem_mem hil)))
    ·have hn:seesT l i ⟨#[45]⟩=false:=by unfold seesT;rw [List.getElem?_eq_none (by omega)]
     unfold rdP termT
     rw [hn]
     dsimp only
     rw [List.getElem?_eq_none (by omega)]
  rw [hp,h0]
  unfold rdRes
  repeat' (first|refine z0 ?_|refine z12 ?_|apply ds_nil|apply dw_seq2|refine z16 ?_|apply dw_skip|apply dw_ret|refine z18 ?_|refine z19 ?_|apply thenD_n|apply thenD_r|refine z3 ?_|fail)
  all_goals try (exfalso;omega)
  exact⟨.inl rfl,_,rfl,id,1,_,rdH l (i) e true,rfl,⟨rfl,trivial⟩,rfl,rfl,rfl,rfl,rfl,rfl,rfl,⟨⟨⟨#[]⟩,0⟩,rfl⟩,rfl⟩
 obtain⟨rfl,hil⟩:=text_ne h0
 rw [text_some hil] at h0 ⊢
 unfold rdP
 dsimp only
 have hot:=List.all_eq_true.1 hok _ (List.getElem_mem hil)
 obtain⟨y0,y1,y2,_⟩:=tok_first hot
 by_cases hk:l[i].kind=2
 ·rw [termT_var hil hot hk]
  unfold rdRes
  have w3:=between_fn (l[i].text[0].toNat:Int) 65 90
  rw [greatI,y1,decide_eq_true hk] at w3
  repeat' (first|refine z0 ?_|refine z12 ?_|apply ds_nil|apply dw_seq2|refine z16 ?_|apply dw_skip|apply dw_ret|refine z18 ?_|refine z19 ?_|apply thenD_n|apply thenD_r|refine z21 ?_ (hc:=by apply w3)|refine z3 ?_|(refine z23 ?_ ?_ <;> intro hg)|((fail_if_success (apply ds_known;exact rfl));apply ds_guardP;exact rfl;exact rfl;exact rfl;all_goals intro hg))
  all_goals try (exfalso;first|omega|exact absurd (by assumption) h0|exact absurd h0 (by assumption))
  exact⟨.inl rfl,_,rfl,id,1,_,rdH l (i + 1:Nat) e false,rfl,⟨rfl,trivial⟩,rfl,rfl,rfl,rfl,rfl,rfl,rfl,rfl,rfl⟩
 have w2:=between_fn (l[i].text[0].toNat:Int) 65 90
 rw [greatI,y1,decide_eq_false hk] at w2
 by_cases hm:l[i].text=⟨#[45]⟩
 ·rw [termT_neg hil hm]
  have w5:=rneed_fn l i e false ⟨#[45]⟩ hi
  rw [text_some hil,hm,decide_eq_true rfl] at w5
  dsimp only at w5
  have w6:=rtext_fn l (i + 1) e false
  repeat' (first|refine z0 ?_|refine z12 ?_|apply ds_nil|apply dw_seq2|refine z16 ?_|apply dw_skip|refine z18 ?_|refine z19 ?_|apply thenD_n|refine z21 ?_ (hc:=by apply w2)|refine z3 ?_|(refine z23 ?_ ?_ <;> intro hg)|((fail_if_success (apply ds_known;exact rfl));apply ds_guardP;exact rfl;exact rfl;exact rfl;all_goals intro hg))
  all_goals try (exfalso;first|omega|exact absurd (by assumption) h0|exact absurd h0 (by assumption)|exact absurd hm (by assumption))
  (refine ds_callF id (w5) rfl rfl rfl rfl ⟨rfl,trivial⟩ rfl rfl rfl rfl rfl rfl ?_ ?_)
  ·rintro k2 res H2 ⟨rfl,rfl,rfl⟩;exact⟨rfl,rfl⟩
  rintro k2 res H2 ⟨rfl,rfl,rfl⟩
  change DS _ _ _ _ _ _ _ _
  clear w5
  repeat' (first|refine z0 ?_|apply ds_nil|apply dw_seq2|refine z16 ?_|apply thenD_n)
  (refine ds_callF id (w6) rfl rfl rfl rfl ⟨rfl,trivial⟩ rfl rfl rfl rfl rfl rfl ?_ ?_)
  ·rintro k2 res H2 ⟨rfl,rfl,rfl⟩;exact⟨rfl,rfl⟩
  rintro k2 res H2 ⟨rfl,rfl,rfl⟩
  change DS _ _ _ _ _ _ _ _
  clear w6 w2
  by_cases hil1:i + 1 < l.length
  ·rw [text_some hil1,List.getElem?_eq_getElem hil1]
   dsimp only
   have hot2:=List.all_eq_true.1 hok _ (List.getElem_mem hil1)
   have hne2:=tok_ne hot2
   by_cases hk3:l[i + 1].kind=3∧l[i + 1].text≠⟨#[48]⟩
   ·rw [if_pos hk3]
    unfold rdRes
    obtain⟨c1,c2,c3⟩:=ok_num hot2 hk3.1
    obtain⟨u0,u1,u2,_⟩:=tok_first hot2
    rw [hk3.1] at u1 u2
    have w3:=between_fn (l[i + 1].text[0].toNat:Int) 65 90
    rw [greatI,u1] at w3
    have w4:=isDigit_fn l[i + 1].text[0]
    rw [u2] at w4
    repeat' (first|refine z0 ?_|refine z12 ?_|apply ds_nil|apply dw_seq2|refine z16 ?_|apply dw_block|apply dw_skip|refine z18 ?_|apply thenD_n|refine z21 ?_ (hc:=by apply w4)|refine z3 ?_|(refine z23 ?_ ?_ <;> intro hg)|((fail_if_success (apply ds_known;exact rfl));apply ds_guardP;exact rfl;exact rfl;exact rfl;all_goals intro hg))
    all_goals try (exfalso;first|omega|exact absurd (by assumption) hne2|exact absurd hne2 (by assumption)|exact absurd (by assumption) hk3.2)
    refine ds_loop (ι:=Nat) (fun k=>⟨2,[(0,.loc 0 0),(2,.loc 1 0),(3,.d (.str l[i + 1].text)),(4,.d (.int .i64 (-1))),(5,.d (.int .i64 (numK l[i + 1].text k))),(6,.d (.int .i64 k))],[(0,.blk 76 [.d (.slice 3 (l.map encTok)),.d (.int .i64 (i + 1:Nat)),.d (.int .i64 e),.d (.bool false)]),(1,.blk 49 [.d (.str ⟨#[]⟩),.d (.int .i64 0)])]⟩)
     (fun k=>k≤l[i + 1].text.size) (fun k=>l[i + 1].text.size - k) 0 (Nat.zero_le _) (ent_ren id ⟨rfl,rfl,rfl,rfl,rfl,rfl,trivial⟩ ⟨rfl,rfl,trivial⟩ rfl rfl rfl rfl rfl rfl) ?_
    intro k hk
    dsimp only at hk ⊢
    obtain⟨n1,n2⟩:=numK_bound c2 c3 k
    by_cases hkl:k < l[i + 1].text.size
    ·have hs:=numK_succ l[i + 1].text k hkl
     obtain⟨n3,n4⟩:=numK_bound c2 c3 (k + 1)
     have hu:=UInt8.toNat_lt (l[i + 1].text[k])
     repeat' (first|refine z0 ?_|apply ds_nil|apply dw_seq2|refine z16 ?_|apply dw_block|apply dw_skip|apply dw_exit|apply thenD_n|apply thenD_e|apply inB_n|refine z17 ?_|refine z3 ?_|(refine z23 ?_ ?_ <;> intro hg)|fail)
     all_goals try (exfalso;omega)
     exact⟨k + 1,by omega,ent_ren id ⟨rfl,rfl,rfl,rfl,congrArg (fun z=>SV.d (D.int .i64 z)) hs.symm,rfl,trivial⟩ ⟨rfl,rfl,trivial⟩ rfl rfl rfl rfl rfl rfl,by show l[i + 1].text.size - (k + 1) < l[i + 1].text.size - k;omega⟩
    ·have hks:k=l[i + 1].text.size:=by omega
     subst hks
     rw [numK_all] at *
     repeat' (first|refine z0 ?_|apply ds_nil|apply dw_seq2|refine z16 ?_|apply dw_block|apply dw_skip|apply dw_exit|apply dw_ret|apply thenD_n|apply thenD_e|apply inB_n|refine z17 ?_|refine z3 ?_|(refine z23 ?_ ?_ <;> intro hg)|fail)
     all_goals try (exfalso;omega)
     exact⟨.inl rfl,_,rfl,id,1,_,rdH l (i + 1 + 1:Nat) e false,rfl,⟨rfl,trivial⟩,rfl,rfl,rfl,rfl,rfl,rfl,rfl,rfl,rfl⟩
   ·rw [if_neg hk3]
    unfold rdRes
    obtain⟨u0,u1,u2,_⟩:=tok_first hot2
    have w4:=isDigit_fn l[i + 1].text[0]
    rw [u2] at w4
    by_cases k3:l[i + 1].kind=3
    ·have h48:l[i + 1].text=⟨#[48]⟩:=Classical.byContradiction fun h=>hk3 ⟨k3,h⟩
     rw [decide_eq_true k3] at w4
     repeat' (first|refine z0 ?_|refine z12 ?_|apply ds_nil|apply dw_seq2|refine z16 ?_|apply dw_block|apply dw_skip|apply dw_ret|refine z18 ?_|apply thenD_n|apply thenD_r|refine z21 ?_ (hc:=by apply w4)|refine z3 ?_|(refine z23 ?_ ?_ <;> intro hg)|((fail_if_success (apply ds_known;exact rfl));apply ds_guardP;exact rfl;exact rfl;exact rfl;all_goals intro hg))
     all_goals try (exfalso;first|omega|exact absurd (by assumption) hne2|exact absurd hne2 (by assumption)|exact absurd h48 (by assumption))
     exact⟨.inl rfl,_,rfl,id,1,_,rdH l (i + 1) e true,rfl,⟨rfl,trivial⟩,rfl,rfl,rfl,rfl,rfl,rfl,rfl,⟨⟨⟨#[]⟩,0⟩,rfl⟩,rfl⟩
    ·rw [decide_eq_false k3] at w4
     repeat' (first|refine z0 ?_|refine z12 ?_|apply ds_nil|apply dw_seq2|refine z16 ?_|apply dw_ret|refine z18 ?_|apply thenD_n|apply thenD_r|refine z21 ?_ (hc:=by apply w4)|refine z3 ?_|((fail_if_success (apply ds_known;exact rfl));apply ds_guardP;exact rfl;exact rfl;exact rfl;all_goals intro hg))
     all_goals try (exfalso;first|omega|exact absurd (by assumption) hne2|exact absurd hne2 (by assumption))
     exact⟨.inl rfl,_,rfl,id,1,_,rdH l (i + 1) e true,rfl,⟨rfl,trivial⟩,rfl,rfl,rfl,rfl,rfl,rfl,rfl,⟨⟨⟨#[]⟩,0⟩,rfl⟩,rfl⟩
  ·have h1:textT l (i + 1) false=⟨#[]⟩:=by unfold textT;rw [List.getElem?_eq_none (by omega)]
   rw [h1,List.getElem?_eq_none (by omega)]
   unfold rdRes
   repeat' (first|refine z0 ?_|refine z12 ?_|apply ds_nil|apply dw_seq2|refine z16 ?_|apply dw_ret|refine z18 ?_|apply thenD_n|apply thenD_r|refine z3 ?_|fail)
   all_goals try (exfalso;omega)
   exact⟨.inl rfl,_,rfl,id,1,_,rdH l (i + 1) e true,rfl,⟨rfl,trivial⟩,rfl,rfl,rfl,rfl,rfl,rfl,rfl,⟨⟨⟨#[]⟩,0⟩,rfl⟩,rfl⟩
 ·rw [termT_pos hil hm hk]
  by_cases hk3:l[i].kind=3
  ·rw [if_pos hk3]
   unfold rdRes
   have hot2:=hot
   have hne2:=h0
   have hm2:=hm
   obtain⟨c1,c2,c3⟩:=ok_num hot2 hk3
   obtain⟨u0,u1,u2,_⟩:=tok_first hot2
   rw [hk3] at u1 u2
   have w3:=between_fn (l[i].text[0].toNat:Int) 65 90
   rw [greatI,u1] at w3
   have w4:=isDigit_fn l[i].text[0]
   rw [u2] at w4
   repeat' (first|refine z0 ?_|refine z12 ?_|apply ds_nil|apply dw_seq2|refine z16 ?_|apply dw_block|apply dw_skip|refine z18 ?_|refine z19 ?_|apply thenD_n|refine z21 ?_ (hc:=by apply w3)|refine z21 ?_ (hc:=by apply w4)|refine z3 ?_|(refine z23 ?_ ?_ <;> intro hg)|((fail_if_success (apply ds_known;exact rfl));apply ds_guardP;exact rfl;exact rfl;exact rfl;all_goals intro hg))
   all_goals try (exfalso;first|omega|exact absurd (by assumption) hne2|exact absurd hne2 (by assumption)|exact absurd (by assumption) hm2)
   refine ds_loop (ι:=Nat) (fun k=>⟨2,[(0,.loc 0 0),(2,.loc 1 0),(3,.d (.str l[i].text)),(4,.d (.int .i64 (1))),(5,.d (.int .i64 (numK l[i].text k))),(6,.d (.int .i64 k))],[(0,.blk 76 [.d (.slice 3 (l.map encTok)),.d (.int .i64 (i:Nat)),.d (.int .i64 e),.d (.bool false)]),(1,.blk 49 [.d (.str ⟨#[]⟩),.d (.int .i64 0)])]⟩)
    (fun k=>k≤l[i].text.size) (fun k=>l[i].text.size - k) 0 (Nat.zero_le _) (ent_ren id ⟨rfl,rfl,rfl,rfl,rfl,rfl,trivial⟩ ⟨rfl,rfl,trivial⟩ rfl rfl rfl rfl rfl rfl) ?_
   intro k hk
   dsimp only at hk ⊢
   obtain⟨n1,n2⟩:=numK_bound c2 c3 k
   by_cases hkl:k < l[i].text.size
   ·have hs:=numK_succ l[i].text k hkl
    obtain⟨n3,n4⟩:=numK_bound c2 c3 (k + 1)
    have hu:=UInt8.toNat_lt (l[i].text[k])
    repeat' (first|refine z0 ?_|apply ds_nil|apply dw_seq2|refine z16 ?_|apply dw_block|apply dw_skip|apply dw_exit|apply thenD_n|apply thenD_e|apply inB_n|refine z17 ?_|refine z3 ?_|(refine z23 ?_ ?_ <;> intro hg)|fail)
    all_goals try (exfalso;omega)
    exact⟨k + 1,by omega,ent_ren id ⟨rfl,rfl,rfl,rfl,congrArg (fun z=>SV.d (D.int .i64 z)) hs.symm,rfl,trivial⟩ ⟨rfl,rfl,trivial⟩ rfl rfl rfl rfl rfl rfl,by show l[i].text.size - (k + 1) < l[i].text.size - k;omega⟩
   ·have hks:k=l[i].text.size:=by omega
    subst hks
    rw [numK_all] at *
    repeat' (first|refine z0 ?_|apply ds_nil|apply dw_seq2|refine z16 ?_|apply dw_block|apply dw_skip|apply dw_exit|apply dw_ret|apply thenD_n|apply thenD_e|apply inB_n|refine z17 ?_|refine z3 ?_|(refine z23 ?_ ?_ <;> intro hg)|fail)
    all_goals try (exfalso;omega)
    exact⟨.inl rfl,_,rfl,id,1,_,rdH l (i + 1:Nat) e false,rfl,⟨rfl,trivial⟩,rfl,rfl,rfl,rfl,rfl,rfl,rfl,rfl,rfl⟩
  ·rw [if_neg hk3]
   unfold rdRes
   have w4:=isDigit_fn l[i].text[0]
   rw [y2,decide_eq_false hk3] at w4
   repeat' (first|refine z0 ?_|refine z12 ?_|apply ds_nil|apply dw_seq2|refine z16 ?_|apply dw_skip|apply dw_ret|refine z18 ?_|refine z19 ?_|apply thenD_n|apply thenD_r|refine z21 ?_ (hc:=by apply w2)|refine z21 ?_ (hc:=by apply w4)|refine z3 ?_|(refine z23 ?_ ?_ <;> intro hg)|((fail_if_success (apply ds_known;exact rfl));apply ds_guardP;exact rfl;exact rfl;exact rfl;all_goals intro hg))
   all_goals try (exfalso;first|omega|exact absurd (by assumption) h0|exact absurd h0 (by assumption)|exact absurd (by assumption) hm)
   exact⟨.inl rfl,_,rfl,id,1,_,rdH l (i) e true,rfl,⟨rfl,trivial⟩,rfl,rfl,rfl,rfl,rfl,rfl,rfl,⟨⟨⟨#[]⟩,0⟩,rfl⟩,rfl⟩
end Go.Proofs.YtapciiffpnociabGreatDoor
namespace Go.Proofs.YtapciiffpnociabGreatDoor
open Go Go.RowKit
theorem FnOk.imp {dr:Bool} {P:Program} {τ:List (Nat × TI)} {τok:TabOk P τ} {f:FuncId} {args:List SV} {J k:Nat} {H:Hp} {R R':Nat→SV→Hp→Prop} (h:FnOk dr P τ τok f args J k H R) (hi:∀ k r H,R k r H→R' k r H):FnOk dr P τ τok f args J k H R':=by
 unfold FnOk at h ⊢
 refine⟨h.1,fun O e w vs hH hr=>(h.2 O e w vs hH hr).mono ?_⟩
 rintro en w' ⟨k',r,H',e',v,hR,h1⟩
 exact⟨k',r,H',e',v,hi _ _ _ hR,h1⟩
def rdIs {α:Type} (p:PR α) (x:α) (k:Nat):Bool→Prop
 | false=>p = .ok (x,k)
 | true=>p = .error k
def rdOut {α:Type} (p:PR α) (l:List Tok) (e:Int) (enc:α→SV) (r:SV) (H:Hp):Prop:=∃ x k fl,r=enc x∧H=rdH l k e fl∧rdIs p x k fl
theorem rdRes_out {α:Type} [Nonempty α] {p:PR α} {l:List Tok} {e:Int} {enc:α→SV} {junk:SV→Prop} {r:SV} {H:Hp} (hj:∀ r,junk r→∃ x,r=enc x) (h:rdRes p l e enc junk r H):rdOut p l e enc r H:=by
 unfold rdRes at h
 split at h
 ·exact⟨_,_,false,h.1,h.2,rfl⟩
 ·obtain⟨x,hx⟩:=hj r h.1
  exact⟨x,_,true,hx,h.2,rfl⟩
abbrev RdC (f:FuncId) (args:List SV) (l:List Tok) (i:Nat) (e:Int) (fl:Bool) {α:Type} (p:PR α) (enc:α→SV):Prop:=FnOk false Tryz.prog tab tab_ok f args 1 1 (rdH l i e fl) (fun k r H=>k=1∧rdOut p l e enc r H)
theorem rname_out (l:List Tok) (i:Nat) (e:Int) (f:Bool) (hi:i≤1000000):RdC 34 [.loc 0 0] l i e f (rdP f i (nameT l i)) (fun s=>.d (.str s)) :=
 have:Nonempty ByteArray:=⟨⟨#[]⟩⟩
 (rname_fn l i e f hi).imp fun _ _ _ h=>⟨h.1,rdRes_out (fun _ h=>h) h.2⟩
theorem rterm_out (l:List Tok) (i:Nat) (e:Int) (f:Bool) (hi:i≤1000000) (hok:l.all tokOk=true):RdC 60 [.loc 0 0] l i e f (rdP f i (termT l i)) tmV :=
 have:Nonempty TTm:=⟨⟨⟨#[]⟩,0⟩⟩
 (rterm_fn l i e f hi hok).imp fun _ _ _ h=>⟨h.1,rdRes_out (fun _ h=>h) h.2⟩
theorem text_is {l:List Tok} {i:Nat} {f:Bool} {s:ByteArray} (hs:s≠⟨#[]⟩):textT l i f=s↔f=false∧seesT l i s=true:=by
 cases f with
 | true=>rw [textT_failed];exact⟨fun h=>absurd h.symm hs,fun h=>Bool.noConfusion h.1⟩
 | false=>rw [← textT_sees hs,decide_eq_true_iff];exact⟨fun h=>⟨rfl,h⟩,fun h=>h.2⟩
theorem termT_err {l:List Tok} {i k:Nat} (hi:i≤l.length) (h:termT l i = .error k):k≤l.length:=by
 unfold termT at h
 generalize hb:seesT l i ⟨#[45]⟩=b at h
 have key:∀ q:Nat,(match l[q]? with
  | none=>(.error q:PR TTm)
  | some t=>if t.kind=2∧b=false then .ok ((⟨t.text,0⟩:TTm),q + 1)
   else if t.kind≠3∨(b=true∧t.text=(⟨#[48]⟩:ByteArray)) then .error q
   else .ok ((⟨(⟨#[]⟩:ByteArray),(match b with|true=>-1|false=>1) * numT t.text⟩:TTm),q + 1)) = .error k→k=q:=by
  intro q hq
  cases hl:l[q]? with
  | none=>rw [hl] at hq;injection hq with hq;exact hq.symm
  | some t =>
   rw [hl] at hq
   dsimp only at hq
   split at hq
   ·cases hq
   ·split at hq
    ·injection hq with hq;exact hq.symm
    ·cases hq
 cases b with
 | true=>have:=key (i + 1) h;have:=seesT_lt hb;omega
 | false=>have:=key i h;omega
theorem nameT_err {l:List Tok} {i k:Nat} (hi:i≤l.length) (h:nameT l i = .error k):k≤l.length:=by
 unfold nameT at h
 split at h
 ·split at h
  ·cases h
  ·injection h with h;omega
 ·injection h with h;omega
theorem termsGo_err {l:List Tok} {head:Bool} {k:Nat}:∀ (n i:Nat) (acc:List TTm),i≤l.length→termsGo l head n i acc = .error k→k≤l.length
 | 0,i,acc,hi,h=>by unfold termsGo at h;injection h with h;omega
 | n + 1,i,acc,hi,h=>by
  rw [termsGo_succ] at h
  have hj:(if foldT l head i 0≠0 then i + 1 else i)≤l.length:=by
   split
   ·rename_i hf;exact foldT_sees hf
   ·exact hi
  cases ht:termT l (if foldT l head i 0≠0 then i + 1 else i) with
  | error q=>rw [ht] at h;injection h with h;subst h;exact termT_err hj ht
  | ok x =>
   obtain⟨t,q⟩:=x
   rw [ht] at h
   dsimp only at h
   have hq:=(termT_lt ht).2
   split at h
   ·split at h
    ·cases h
    ·injection h with h;omega
   ·rename_i hn
    have:seesT l q ⟨#[44]⟩=true:=Bool.not_eq_false _▸fun hf=>hn (.inr hf)
    exact termsGo_err n (q + 1) _ (seesT_lt this) h
theorem termsT_err {l:List Tok} {head:Bool} {i k:Nat} (hi:i≤l.length) (h:termsT l i head = .error k):k≤l.length:=by
 unfold termsT at h
 split at h
 ·rename_i h1
  split at h
  ·cases h
  ·exact termsGo_err _ _ _ (seesT_lt h1) h
 ·injection h with h;omega
theorem termsGo_none {l:List Tok} {head:Bool} (i:Nat):termsT l i head=if seesT l i ⟨#[40]⟩ then
  (if seesT l (i + 1) ⟨#[41]⟩ then .ok (([],0),i + 2) else termsGo l head (l.length + 1) (i + 1) [])
 else .error i:=rfl
def wordsR:List ByteArray:=⟨#[]⟩::foldsT
def opsR:List ByteArray:=⟨#[]⟩::opsT
def foldG (ws:List ByteArray) (s:ByteArray):Nat→Int
 | 0=>0
 | k + 1=>if k≠0∧s=ws.getD k ⟨#[]⟩ then (k:Int) else foldG ws s k
abbrev foldS (s:ByteArray) (k:Nat):Int:=foldG wordsR s k
theorem foldG_succ {ws:List ByteArray} {s:ByteArray} {k:Nat} (h0:1≤k) (h:k < ws.length):foldG ws s (k + 1)=if s=ws[k] then (k:Int) else foldG ws s k:=by
 show (if k≠0∧s=ws.getD k ⟨#[]⟩ then (k:Int) else foldG ws s k)=_
 rw [List.getD_eq_getElem?_getD,List.getElem?_eq_getElem h]
 by_cases hs:s=ws[k]
 ·rw [if_pos ⟨by omega,hs⟩,if_pos hs]
 ·rw [if_neg (fun h=>hs h.2),if_neg hs]
theorem foldS_succ {s:ByteArray} {k:Nat} (h0:1≤k) (h:k < wordsR.length):foldS s (k + 1)=if s=wordsR[k] then (k:Int) else foldS s k:=foldG_succ h0 h
theorem foldS_is (l:List Tok) (j:Nat):foldT l true j 0=foldS (textT l j false) 5:=by
 have e:∀ s:ByteArray,s≠⟨#[]⟩→seesT l j s=decide (textT l j false=s):=fun s hs=>(textT_sees hs).symm
 show firstT l j [⟨#[99,111,117,110,116]⟩,⟨#[115,117,109]⟩,⟨#[108,101,97,115,116]⟩,⟨#[109,111,115,116]⟩] (0 + 1)=_
 simp only [firstT]
 rw [e _ (by decide),e _ (by decide),e _ (by decide),e _ (by decide)]
 generalize textT l j false=s
 have f5:foldS s 5=if s=⟨#[109,111,115,116]⟩ then 4 else if s=⟨#[108,101,97,115,116]⟩ then 3 else if s=⟨#[115,117,109]⟩ then 2 else if s=⟨#[99,111,117,110,116]⟩ then 1 else 0:=by
  rw [foldS_succ (by decide) (by decide),foldS_succ (by decide) (by decide),foldS_succ (by decide) (by decide),foldS_succ (by decide) (by decide)]
  rfl
 rw [f5]
 simp only [decide_eq_true_eq]
 by_cases h1:s=⟨#[99,111,117,110,116]⟩
 ·subst h1;decide
 by_cases h2:s=⟨#[115,117,109]⟩
 ·subst h2;decide
 by_cases h3:s=⟨#[108,101,97,115,116]⟩
 ·subst h3;decide
 by_cases h4:s=⟨#[109,111,115,116]⟩
 ·subst h4;decide
 simp only [h1,h2,h3,h4,if_false]
theorem foldG_low (ws:List ByteArray) (s:ByteArray):∀ k,0≤foldG ws s k∧foldG ws s k≤k
 | 0=>⟨Int.le_refl _,Int.le_refl _⟩
 | k + 1=>by
  have:=foldG_low ws s k
  unfold foldG
  split <;> omega
theorem foldS_low (s:ByteArray) (k:Nat):0≤foldS s k∧foldS s k≤k:=foldG_low _ _ _
theorem foldO_is (l:List Tok) (j:Nat):firstQ l opsT j 0=foldG opsR (textT l j false) 8:=by
 have e:∀ s:ByteArray,s≠⟨#[]⟩→seesT l j s=decide (textT l j false=s):=fun s hs=>(textT_sees hs).symm
 show firstT l j [⟨#[60]⟩,⟨#[60,61]⟩,⟨#[61]⟩,⟨#[33,61]⟩,⟨#[43]⟩,⟨#[45]⟩,⟨#[42]⟩] (0 + 1)=_
 simp only [firstT]
 rw [e _ (by decide),e _ (by decide),e _ (by decide),e _ (by decide),e _ (by decide),e _ (by decide),e _ (by decide)]
 generalize textT l j false=s
 have f8:foldG opsR s 8=if s=⟨#[42]⟩ then 7 else if s=⟨#[45]⟩ then 6 else if s=⟨#[43]⟩ then 5 else if s=⟨#[33,61]⟩ then 4 else if s=⟨#[61]⟩ then 3 else if s=⟨#[60,61]⟩ then 2 else if s=⟨#[60]⟩ then 1 else 0:=by
  rw [foldG_succ (by decide) (by decide),foldG_succ (by decide) (by decide),foldG_succ (by decide) (by decide),foldG_succ (by decide) (by decide),foldG_succ (by decide) (by decide),foldG_succ (by decide) (by decide),foldG_succ (by decide) (by decide)]
  rfl
 rw [f8]
 simp only [decide_eq_true_eq]
 by_cases h1:s=⟨#[60]⟩
 ·subst h1;decide
 by_cases h2:s=⟨#[60,61]⟩
 ·subst h2;decide
 by_cases h3:s=⟨#[61]⟩
 ·subst h3;decide
 by_cases h4:s=⟨#[33,61]⟩
 ·subst h4;decide
 by_cases h5:s=⟨#[43]⟩
 ·subst h5;decide
 by_cases h6:s=⟨#[45]⟩
 ·subst h6;decide
 by_cases h7:s=⟨#[42]⟩
 ·subst h7;decide
 simp only [h1,h2,h3,h4,h5,h6,h7,if_false]
theorem foldO_none:foldG opsR ⟨#[]⟩ 8=0:=by kernel_rfl
theorem foldO_text {s:ByteArray} (h:foldG opsR s 8≠0):∃ (q:Nat) (hq:q < opsR.length),foldG opsR s 8=q∧s=opsR[q]:=by
 have key:∀ k,k≤opsR.length→foldG opsR s k≠0→∃ (q:Nat) (hq:q < opsR.length),foldG opsR s k=q∧s=opsR[q]:=by
  intro k
  induction k with
  | zero=>intro _ h;exact absurd rfl h
  | succ k ih =>
   intro hk hne
   by_cases h0:k=0
   ·subst h0;exact absurd (by unfold foldG;rfl) hne
   ·rw [foldG_succ (by omega) (by omega)] at hne ⊢
    by_cases hs:s=opsR[k]
    ·rw [if_pos hs];exact⟨k,by omega,rfl,hs⟩
    ·rw [if_neg hs] at hne ⊢;exact ih (by omega) hne
 exact key 8 (by decide) h
attribute [local irreducible] DW DS DL DQ Ev FnOk FnP FnOkE thenD inBlockD
set_option maxHeartbeats 8000000 in
theorem rneed_t (l:List Tok) (i:Nat) (e:Int) (s:ByteArray):FnOk false Tryz.prog tab tab_ok 37 [.loc 0 0,.d (.str s)] 1 1 (rdH l i e true) (fun k r H=>k=1∧r = .tup []∧H=rdH l i e true):=by
 refine fn_enterR _ Tryz.func37 rfl rfl (by kernel_rfl) ?_
 intro O w0 E0 β0
 repeat' (first|refine z0 ?_|apply ds_nil|apply dw_seq2|refine z16 ?_|apply dw_ret|refine z18 ?_|apply thenD_n|apply thenD_r)
 exact⟨.inl rfl,_,rfl,id,1,_,rdH l i e true,rfl,⟨rfl,trivial⟩,rfl,rfl,rfl,rfl,rfl,rfl,rfl,rfl,rfl⟩
theorem rneed_s (l:List Tok) (i:Nat) (e:Int) (s:ByteArray) (hi:i≤1000000) (h:textT l i false=s):FnOk false Tryz.prog tab tab_ok 37 [.loc 0 0,.d (.str s)] 1 1 (rdH l i e false) (fun k r H=>k=1∧r = .tup []∧H=rdH l (i + 1:Nat) e false):=by
 have w:=rneed_fn l i e false s hi
 rw [decide_eq_true h] at w
 exact w
theorem rneed_c (l:List Tok) (i:Nat) (e:Int) (f:Bool) (s:ByteArray) (hs:s≠⟨#[]⟩) (hi:i≤1000000):∃ j g,FnOk false Tryz.prog tab tab_ok 37 [.loc 0 0,.d (.str s)] 1 1 (rdH l i e f) (fun k r H=>k=1∧r = .tup []∧H=rdH l j e g) ∧
  ((f=false∧g=false∧j=i + 1∧seesT l i s=true)∨(g=true∧j=i∧(f=false→seesT l i s=false))):=by
 have w:=rneed_fn l i e f s hi
 cases f with
 | true=>exact⟨i,true,w,.inr ⟨rfl,rfl,fun h=>Bool.noConfusion h⟩⟩
 | false =>
  rw [textT_sees hs] at w
  cases h:seesT l i s with
  | true=>rw [h] at w;exact⟨i + 1,false,w,.inl ⟨rfl,rfl,rfl,rfl⟩⟩
  | false=>rw [h] at w;exact⟨i,true,w,.inr ⟨rfl,rfl,fun _=>rfl⟩⟩
abbrev rdB (l:List Tok) (i:Nat) (e:Int) (f:Bool):HB:=.blk 76 [.d (.slice 3 (l.map encTok)),.d (.int .i64 i),.d (.int .i64 e),.d (.bool f)]
def tlInv (l:List Tok) (p:PR (List TTm × Int)) (head:Bool) (j:Nat) (acc:List TTm) (F:Int) (more fl:Bool) (n:Nat):Prop:=j≤l.length∧match fl,more with
 | true,_=>p = .error j
 | false,true=>F=0∧p=termsGo l head n j acc∧l.length < n + j∧acc.length≤j
 | false,false=>p=if seesT l j ⟨#[41]⟩ then .ok ((acc,F),j + 1) else .error j
def tlM:Bool→Bool→Nat→Nat
 | false,true,n=>n + 1
 | _,_,_=>0
set_option maxHeartbeats 8000000 in
theorem rterms_out (l:List Tok) (i:Nat) (e:Int) (f head:Bool) (hi:i≤l.length) (hl:l.length≤900000) (hok:l.all tokOk=true):RdC 35 [.loc 0 0,.d (.bool head)] l i e f (rdP f i (termsT l i head)) (fun x=>.tup [.d (.slice 2 (x.1.map encTTm)),.d (.int .i64 x.2)]):=by
 refine fn_enterR _ Tryz.func35 rfl rfl (by kernel_rfl) ?_
 intro O w0 E0 β0
 have ll:(l.map encTok).length=l.length:=List.length_map _
 obtain⟨j0,f0,w1,h0⟩:=rneed_c l i e f ⟨#[40]⟩ (by decide) (by omega)
 have hj0:j0≤l.length:=by
  rcases h0 with ⟨_,_,rfl,h⟩|⟨_,rfl,_⟩
  ·exact seesT_lt h
  ·exact hi
 have w2:=rtext_fn l j0 e f0
 repeat' (first|refine z0 ?_|apply ds_nil|apply dw_seq2|refine z16 ?_|apply thenD_n)
 (refine ds_callF id (w1) rfl rfl rfl rfl ⟨rfl,trivial⟩ rfl rfl rfl rfl rfl rfl ?_ ?_)
 ·rintro k2 res H2 ⟨rfl,rfl,rfl⟩;exact⟨rfl,rfl⟩
 rintro k2 res H2 ⟨rfl,rfl,rfl⟩
 change DS _ _ _ _ _ _ _ _
 clear w1
 repeat' (first|refine z0 ?_|apply ds_nil|apply dw_seq2|refine z16 ?_|apply thenD_n)
 (refine ds_callF id (w2) rfl rfl rfl rfl ⟨rfl,trivial⟩ rfl rfl rfl rfl rfl rfl ?_ ?_)
 ·rintro k2 res H2 ⟨rfl,rfl,rfl⟩;exact⟨rfl,rfl⟩
 rintro k2 res H2 ⟨rfl,rfl,rfl⟩
 change DS _ _ _ _ _ _ _ _
 clear w2
 by_cases hc:textT l j0 f0=⟨#[41]⟩
 ·obtain⟨rfl,hs1⟩:=(text_is (by decide)).1 hc
  rcases h0 with ⟨rfl,_,rfl,hs⟩|⟨h,_⟩
  ·have w3:=rneed_s l (i + 1) e ⟨#[41]⟩ (by omega) hc
   have ht:termsT l i head = .ok (([],0),i + 2):=by rw [termsGo_none,hs,hs1];rfl
   have:=seesT_lt hs1
   rw [hc]
   repeat' (first|refine z0 ?_|apply ds_nil|apply dw_seq2|refine z16 ?_|refine z18 ?_|apply thenD_n)
   (refine ds_callF id (w3) rfl rfl rfl rfl ⟨rfl,trivial⟩ rfl rfl rfl rfl rfl rfl ?_ ?_)
   ·rintro k2 res H2 ⟨rfl,rfl,rfl⟩;exact⟨rfl,rfl⟩
   rintro k2 res H2 ⟨rfl,rfl,rfl⟩
   change DS _ _ _ _ _ _ _ _
   clear w3
   repeat' (first|refine z0 ?_|apply ds_nil|apply dw_seq2|refine z16 ?_|apply thenD_n)
   refine dw_ent (ent_nild 4 2 rfl) ?_
   repeat' (first|apply dw_ret|apply thenD_r)
   exact⟨.inl rfl,_,rfl,id,1,_,rdH l (i + 1 + 1:Nat) e false,rfl,⟨rfl,trivial⟩,rfl,rfl,rfl,rfl,rfl,rfl,rfl,([],0),_,false,rfl,rfl,ht⟩
  ·cases h
 obtain⟨p,hp⟩:∃ p,p=rdP f i (termsT l i head):=⟨_,rfl⟩
 rw [← hp]
 have hn:f0=false→seesT l j0 ⟨#[41]⟩=false:=fun h=>Bool.eq_false_iff.2 fun h2=>hc ((text_is (by decide)).2 ⟨h,h2⟩)
 generalize textT l j0 f0=t0 at hc
 repeat' (first|refine z0 ?_|apply ds_nil|apply dw_seq2|refine z16 ?_|apply dw_block|apply dw_skip|apply thenD_n|(refine z23 ?_ ?_ <;> intro hg)|fail)
 all_goals try (exfalso;exact absurd (by assumption) hc)
 refine dw_ent (ent_nilrow (t:=6) 49 2 rfl) ?_
 refine ds_loop (ι:=Nat × List TTm × Int × Bool × Bool × Nat) (fun x=>⟨2,[(0,.loc 0 0),(1,.d (.bool head)),(6,.row 1),(7,.d (.int .i64 x.2.2.1)),(8,.d (.bool x.2.2.2.1))],[(0,rdB l x.1 e x.2.2.2.2.1),(1,.row 49 2 (x.2.1.map encTTm))]⟩)
  (fun x=>tlInv l p head x.1 x.2.1 x.2.2.1 x.2.2.2.1 x.2.2.2.2.1 x.2.2.2.2.2) (fun x=>tlM x.2.2.2.2.1 x.2.2.2.1 x.2.2.2.2.2) (j0,[],0,true,f0,l.length + 1) ?_ (ent_ren (fun x=>match x with|0=>0|_=>_) ⟨rfl,rfl,rfl,rfl,rfl,trivial⟩ ⟨rfl,rfl,trivial⟩ rfl rfl rfl rfl rfl rfl) ?_
 ·refine⟨hj0,?_⟩
  rcases h0 with ⟨rfl,rfl,rfl,hs⟩|⟨rfl,rfl,h⟩
  ·refine⟨rfl,?_,by show l.length < l.length + 1 + (i + 1);omega,Nat.zero_le _⟩
   rw [hp];unfold rdP;dsimp only
   rw [termsGo_none,hs,hn rfl];rfl
  ·show p = .error j0
   rw [hp]
   cases f with
   | true=>rfl
   | false=>unfold rdP;dsimp only;rw [termsGo_none,h rfl];rfl
 clear h0 hn hp hj0 hc
 rintro⟨j,acc,F,more,fl,n⟩ ⟨hj,hinv⟩
 dsimp only at hj hinv ⊢
 cases fl with
 | true =>
  have hinv:p = .error j:=hinv
  have w3:=rneed_t l j e ⟨#[41]⟩
  cases more with
  | true =>
   repeat' (first|refine z0 ?_|apply ds_nil|apply dw_seq2|refine z16 ?_|apply dw_exit|refine z19 ?_|apply thenD_n|apply thenD_e|refine z17 ?_|fail)
   (refine ds_callF id (w3) rfl rfl rfl rfl ⟨rfl,trivial⟩ rfl rfl rfl rfl rfl rfl ?_ ?_)
   ·rintro k2 res H2 ⟨rfl,rfl,rfl⟩;exact⟨rfl,rfl⟩
   rintro k2 res H2 ⟨rfl,rfl,rfl⟩
   change DS _ _ _ _ _ _ _ _
   clear w3
   repeat' (first|refine z0 ?_|apply ds_nil|apply dw_seq2|refine z16 ?_|apply thenD_n)
   refine dw_ent (ent_seal 4 rfl rfl rfl) ?_
   repeat' (apply dw_ret)
   exact⟨.inl rfl,_,rfl,id,1,_,rdH l j e true,rfl,⟨rfl,trivial⟩,rfl,rfl,rfl,rfl,rfl,rfl,rfl,(acc,F),_,true,rfl,rfl,hinv⟩
  | false =>
   repeat' (first|refine z0 ?_|refine z12 ?_|apply ds_nil|apply dw_seq2|refine z16 ?_|apply dw_exit|refine z19 ?_|apply thenD_n|apply thenD_e|refine z17 ?_|fail)
   (refine ds_callF id (w3) rfl rfl rfl rfl ⟨rfl,trivial⟩ rfl rfl rfl rfl rfl rfl ?_ ?_)
   ·rintro k2 res H2 ⟨rfl,rfl,rfl⟩;exact⟨rfl,rfl⟩
   rintro k2 res H2 ⟨rfl,rfl,rfl⟩
   change DS _ _ _ _ _ _ _ _
   clear w3
   repeat' (first|refine z0 ?_|apply ds_nil|apply dw_seq2|refine z16 ?_|apply thenD_n)
   refine dw_ent (ent_seal 4 rfl rfl rfl) ?_
   repeat' (apply dw_ret)
   exact⟨.inl rfl,_,rfl,id,1,_,rdH l j e true,rfl,⟨rfl,trivial⟩,rfl,rfl,rfl,rfl,rfl,rfl,rfl,(acc,F),_,true,rfl,rfl,hinv⟩
 | false=>cases more with
  | false =>
   have hinv:p=if seesT l j ⟨#[41]⟩ then .ok ((acc,F),j + 1) else .error j:=hinv
   obtain⟨j2,g,w3,h3⟩:=rneed_c l j e false ⟨#[41]⟩ (by decide) (by omega)
   have hr:rdIs p (acc,F) j2 g:=by
    rcases h3 with ⟨_,rfl,rfl,h⟩|⟨rfl,rfl,h⟩
    ·show p=_;rw [hinv,h];rfl
    ·show p=_;rw [hinv,h rfl];rfl
   clear h3 hinv
   repeat' (first|refine z0 ?_|refine z12 ?_|apply ds_nil|apply dw_seq2|refine z16 ?_|apply dw_exit|refine z19 ?_|apply thenD_n|apply thenD_e|refine z17 ?_|fail)
   (refine ds_callF id (w3) rfl rfl rfl rfl ⟨rfl,trivial⟩ rfl rfl rfl rfl rfl rfl ?_ ?_)
   ·rintro k2 res H2 ⟨rfl,rfl,rfl⟩;exact⟨rfl,rfl⟩
   rintro k2 res H2 ⟨rfl,rfl,rfl⟩
   change DS _ _ _ _ _ _ _ _
   clear w3
   repeat' (first|refine z0 ?_|apply ds_nil|apply dw_seq2|refine z16 ?_|apply thenD_n)
   refine dw_ent (ent_seal 4 rfl rfl rfl) ?_
   repeat' (apply dw_ret)
   exact⟨.inl rfl,_,rfl,id,1,_,rdH l j2 e g,rfl,⟨rfl,trivial⟩,rfl,rfl,rfl,rfl,rfl,rfl,rfl,(acc,F),j2,g,rfl,rfl,hr⟩
  | true =>
   obtain⟨rfl,hgo,hn,ha⟩:F=0∧p=termsGo l head n j acc∧l.length < n + j∧acc.length≤j:=hinv
   obtain⟨m,rfl⟩:∃ m,n=m + 1:=⟨n - 1,by omega⟩
   rw [termsGo_succ] at hgo
   obtain⟨F,hF⟩:∃ F:Int,F=foldT l head j 0:=⟨_,rfl⟩
   rw [← hF] at hgo
   have w1:=rtext_fn l j e false
   repeat' (first|refine z0 ?_|apply ds_nil|apply dw_seq2|refine z16 ?_|apply dw_block|apply dw_skip|refine z18 ?_|apply thenD_n)
   (refine ds_callF id (w1) rfl rfl rfl rfl ⟨rfl,trivial⟩ rfl rfl rfl rfl rfl rfl ?_ ?_)
   ·rintro k2 res H2 ⟨rfl,rfl,rfl⟩;exact⟨rfl,rfl⟩
   rintro k2 res H2 ⟨rfl,rfl,rfl⟩
   change DS _ _ _ _ _ _ _ _
   clear w1
   obtain⟨s,hs⟩:∃ s,s=textT l j false:=⟨_,rfl⟩
   rw [← hs]
   repeat' ((fail_if_success (apply dw_stopR 10));(first|refine z0 ?_|apply ds_nil|apply thenD_n))
   refine dw_cut (ι:=Unit) (fun _=>⟨2,[(0,.loc 0 0),(1,.d (.bool head)),(6,.row 1),(7,.d (.int .i64 F)),(9,.d (.str s))],[(0,rdB l j e false),(1,.row 49 2 (acc.map encTTm))]⟩) (fun _=>True) ?_ ?_
   ·cases head with
    | false =>
     have hF:F=0:=hF
     subst hF
     repeat' (first|refine z0 ?_|apply ds_nil|apply dw_seq2|refine z16 ?_|apply dw_skip|refine z19 ?_|apply thenD_n)
     exact⟨(),trivial,ent_ren id ⟨rfl,rfl,rfl,rfl,rfl,trivial⟩ ⟨rfl,rfl,trivial⟩ rfl rfl rfl rfl rfl rfl⟩
    | true =>
     have lw:(wordsR.map encT).length=5:=rfl
     have hF5:foldS s 5=F:=by rw [hs,hF];exact (foldS_is l j).symm
     clear hF hgo
     repeat' (first|refine z0 ?_|apply ds_nil|apply dw_seq2|refine z16 ?_|apply dw_block|refine z18 ?_|apply thenD_n|refine z4 ?_|fail)
     refine ds_loop (ι:=Nat) (fun q=>⟨2,[(0,.loc 0 0),(1,.d (.bool true)),(6,.row 1),(7,.d (.int .i64 (foldS s q))),(9,.d (.str s)),(10,.d (.slice 1 (wordsR.map encT))),(11,.d (.int .i64 q))],[(0,rdB l j e false),(1,.row 49 2 (acc.map encTTm))]⟩)
      (fun q=>1≤q∧q≤5) (fun q=>5 - q) 1 ⟨by omega,by omega⟩ (ent_ren id ⟨rfl,rfl,rfl,rfl,rfl,rfl,rfl,trivial⟩ ⟨rfl,rfl,trivial⟩ rfl rfl rfl rfl rfl rfl) ?_
     rintro q ⟨h1,hq⟩
     dsimp only at h1 hq ⊢
     by_cases hq5:q < 5
     ·have hql:q < wordsR.length:=hq5
      have hstep:=foldS_succ (s:=s) h1 hql
      by_cases hsq:s=wordsR[q]
      ·rw [if_pos hsq] at hstep
       repeat' (first|refine z0 ?_|apply ds_nil|apply dw_seq2|refine z16 ?_|apply dw_block|apply dw_skip|apply dw_exit|apply thenD_n|apply thenD_e|apply inB_n|refine z17 ?_|(refine z23 ?_ ?_ <;> intro hg)|fail)
       all_goals try (exfalso;first|omega|exact absurd hsq (by assumption))
       exact⟨q + 1,⟨by omega,by omega⟩,ent_ren id ⟨rfl,rfl,rfl,congrArg (fun z=>SV.d (D.int .i64 z)) hstep.symm,rfl,rfl,rfl,trivial⟩ ⟨rfl,rfl,trivial⟩ rfl rfl rfl rfl rfl rfl,by show 5 - (q + 1) < 5 - q;omega⟩
      ·rw [if_neg hsq] at hstep
       repeat' (first|refine z0 ?_|apply ds_nil|apply dw_seq2|refine z16 ?_|apply dw_block|apply dw_skip|apply dw_exit|apply thenD_n|apply thenD_e|apply inB_n|refine z17 ?_|(refine z23 ?_ ?_ <;> intro hg)|fail)
       all_goals try (exfalso;first|omega|exact absurd (by assumption) hsq)
       exact⟨q + 1,⟨by omega,by omega⟩,ent_ren id ⟨rfl,rfl,rfl,congrArg (fun z=>SV.d (D.int .i64 z)) hstep.symm,rfl,rfl,rfl,trivial⟩ ⟨rfl,rfl,trivial⟩ rfl rfl rfl rfl rfl rfl,by show 5 - (q + 1) < 5 - q;omega⟩
     ·have:q=5:=by omega
      subst this
      rw [hF5]
      repeat' (first|refine z0 ?_|apply ds_nil|apply dw_seq2|refine z16 ?_|apply dw_exit|refine z19 ?_|apply thenD_n|apply thenD_e|refine z17 ?_|fail)
      all_goals try (exfalso;omega)
      exact⟨(),trivial,ent_ren id ⟨rfl,rfl,rfl,rfl,rfl,trivial⟩ ⟨rfl,rfl,trivial⟩ rfl rfl rfl rfl rfl rfl⟩
   ·intro _ _
    have hF0:0≤F:=by
     rw [hF]
     cases head with
     | false=>exact Int.le_refl _
     | true=>rw [foldS_is];exact (foldS_low _ _).1
    obtain⟨jf,hjf⟩:∃ jf:Nat,jf=if F≠0 then j + 1 else j:=⟨_,rfl⟩
    rw [← hjf] at hgo
    have hjl:jf≤l.length:=by
     rw [hjf]
     split
     ·rename_i h;rw [hF] at h;exact foldT_sees h
     ·exact hj
    refine dw_cut (ι:=Unit) (fun _=>⟨2,[(0,.loc 0 0),(1,.d (.bool head)),(6,.row 1),(7,.d (.int .i64 F))],[(0,rdB l jf e false),(1,.row 49 2 (acc.map encTTm))]⟩) (fun _=>True) ?_ ?_
    ·by_cases hz:F=0
     ·rw [if_neg (fun h=>h hz)] at hjf
      subst hjf
      clear hF hgo
      subst hz
      repeat' (first|refine z0 ?_|apply ds_nil|apply dw_seq2|refine z16 ?_|apply dw_skip|refine z19 ?_|apply thenD_n)
      all_goals try (exfalso;omega)
      exact⟨(),trivial,ent_ren id ⟨rfl,rfl,rfl,rfl,trivial⟩ ⟨rfl,rfl,trivial⟩ rfl rfl rfl rfl rfl rfl⟩
     ·rw [if_pos hz] at hjf
      subst hjf
      have w3:=rneed_s l j e s (by omega) hs.symm
      clear hF hgo hs
      repeat' (first|refine z0 ?_|apply ds_nil|apply dw_seq2|refine z16 ?_|apply dw_skip|apply thenD_n|(refine z23 ?_ ?_ <;> intro hg)|fail)
      all_goals try (exfalso;omega)
      (refine ds_callF id (w3) rfl rfl rfl rfl ⟨rfl,trivial⟩ rfl rfl rfl rfl rfl rfl ?_ ?_)
      ·rintro k2 res H2 ⟨rfl,rfl,rfl⟩;exact⟨rfl,rfl⟩
      rintro k2 res H2 ⟨rfl,rfl,rfl⟩
      change DS _ _ _ _ _ _ _ _
      clear w3
      repeat' (first|apply ds_nil|apply thenD_n)
      exact⟨(),trivial,ent_ren id ⟨rfl,rfl,rfl,rfl,trivial⟩ ⟨rfl,rfl,trivial⟩ rfl rfl rfl rfl rfl rfl⟩
    ·intro _ _
     clear hs hF
     have hjj:j≤jf:=by rw [hjf];split <;> omega
     have w4:=rterm_out l jf e false (by omega) hok
     repeat' (first|refine z0 ?_|apply dw_seq2|refine z16 ?_|fail)
     (refine ds_callF id (w4) rfl rfl rfl rfl ⟨rfl,trivial⟩ rfl rfl rfl rfl rfl rfl ?_ ?_)
     ·rintro k2 res H2 ⟨rfl,t,k,fl,rfl,rfl,_⟩;exact⟨rfl,rfl⟩
     rintro k2 res H2 ⟨rfl,t,k,fl,rfl,rfl,hk⟩
     change DS _ _ _ _ _ _ _ _
     clear w4 hjf
     have hk2:k≤l.length:=by
      cases fl with
      | false=>exact (termT_lt hk).2
      | true=>exact termT_err hjl hk
     have hk1:fl=false→jf < k:=fun h=>by subst h;exact (termT_lt hk).1
     have lac:(acc.map encTTm).length=acc.length:=List.length_map _
     have hap:(acc++[t]).map encTTm=acc.map encTTm++[encTTm t]:=List.map_append
     have w5:=rtext_fn l k e fl
     have hend:(F≠0∨textT l k fl≠⟨#[44]⟩)→tlInv l p head k (acc++[t]) F false fl m:=fun h=>by
      refine⟨hk2,?_⟩
      cases fl with
      | true =>
       have hk:termT l jf = .error k:=hk
       rw [hk] at hgo
       exact hgo
      | false =>
       have hk:termT l jf = .ok (t,k):=hk
       rw [hk] at hgo
       dsimp only at hgo
       rw [if_pos (h.imp id fun h=>Bool.eq_false_iff.2 fun h2=>h ((text_is (by decide)).2 ⟨rfl,h2⟩))] at hgo
       exact hgo
     by_cases hz:F=0
     ·subst hz
      repeat' (first|refine z0 ?_|apply ds_nil|apply dw_seq2|refine z16 ?_|apply thenD_n|refine z4 ?_|refine z2 ?_|fail)
      all_goals try (exfalso;omega)
      (refine ds_callF id (w5) rfl rfl rfl rfl ⟨rfl,trivial⟩ rfl rfl rfl rfl rfl rfl ?_ ?_)
      ·rintro k2 res H2 ⟨rfl,rfl,rfl⟩;exact⟨rfl,rfl⟩
      rintro k2 res H2 ⟨rfl,rfl,rfl⟩
      change DS _ _ _ _ _ _ _ _
      clear w5
      by_cases hsk:textT l k fl=⟨#[44]⟩
      ·clear hend
       obtain⟨rfl,hsk'⟩:=(text_is (by decide)).1 hsk
       have hk:termT l jf = .ok (t,k):=hk
       rw [hk] at hgo
       dsimp only at hgo
       rw [if_neg (by rintro (h|h);exact h rfl;rw [hsk'] at h;cases h)] at hgo
       have:=seesT_lt hsk'
       have:=hk1 rfl
       have w6:=rneed_s l k e ⟨#[44]⟩ (by omega) hsk
       rw [hsk]
       clear hk
       repeat' (first|refine z0 ?_|apply ds_nil|apply dw_seq2|refine z16 ?_|refine z18 ?_|apply thenD_n)
       all_goals try (exfalso;omega)
       (refine ds_callF id (w6) rfl rfl rfl rfl ⟨rfl,trivial⟩ rfl rfl rfl rfl rfl rfl ?_ ?_)
       ·rintro k2 res H2 ⟨rfl,rfl,rfl⟩;exact⟨rfl,rfl⟩
       rintro k2 res H2 ⟨rfl,rfl,rfl⟩
       change DS _ _ _ _ _ _ _ _
       clear w6
       repeat' (first|apply ds_nil|apply thenD_n|apply inB_n)
       exact⟨(k + 1,acc++[t],0,true,false,m),⟨by show k + 1≤l.length;omega,rfl,hgo,by show l.length < m + (k + 1);omega,by show (acc++[t]).length≤k + 1;rw [List.length_append];simp;omega⟩,ent_ren (fun x=>match x with|0=>0|_=>_) ⟨rfl,rfl,rfl,rfl,rfl,trivial⟩ ⟨rfl,by dsimp only;rw [hap];rfl,trivial⟩ rfl rfl rfl rfl rfl rfl,Nat.lt_succ_self _⟩
      ·have hinv:=hend (.inr hsk)
       clear hend hgo hk
       generalize textT l k fl=t1 at hsk
       repeat' (first|refine z0 ?_|apply ds_nil|apply dw_seq2|refine z16 ?_|apply dw_skip|apply thenD_n|apply inB_n|(refine z23 ?_ ?_ <;> intro hg)|fail)
       all_goals try (exfalso;first|omega|exact absurd (by assumption) hsk)
       exact⟨(k,acc++[t],0,false,fl,m),hinv,ent_ren (fun x=>match x with|0=>0|_=>_) ⟨rfl,rfl,rfl,rfl,congrArg (fun z=>SV.d (D.bool z)) (decide_eq_false hsk),trivial⟩ ⟨rfl,by dsimp only;rw [hap];rfl,trivial⟩ rfl rfl rfl rfl rfl rfl,by cases fl <;> exact Nat.succ_pos _⟩
     ·have hinv:=hend (.inl hz)
      clear hend hgo hk w5
      repeat' (first|refine z0 ?_|refine z12 ?_|apply ds_nil|apply dw_seq2|refine z16 ?_|apply dw_skip|refine z19 ?_|apply thenD_n|apply inB_n|refine z4 ?_|refine z2 ?_|((fail_if_success (apply ds_known;exact rfl));apply ds_guardP;exact rfl;exact rfl;exact rfl;all_goals intro hg))
      all_goals try (exfalso;omega)
      exact⟨(k,acc++[t],F,false,fl,m),hinv,ent_ren (fun x=>match x with|0=>0|_=>_) ⟨rfl,rfl,rfl,rfl,rfl,trivial⟩ ⟨rfl,by dsimp only;rw [hap];rfl,trivial⟩ rfl rfl rfl rfl rfl rfl,by cases fl <;> exact Nat.succ_pos _⟩
end Go.Proofs.YtapciiffpnociabGreatDoor
