/- Several texts in one: RelV RelX RelB RelC RelM RelY DagA GxMap DagB GxMty. Condition: none. -/
import Derived.Test.YtapciiffpnociaaGreatP11
import Derived.Test.YtapciiffpnociaaGreatP10
import Derived.Test.YtapciiffpnociaaGreatP09
import Derived.Test.YtapciiffpnociaaGreatP02
import Derived.Maps.Keyed
import Derived.DeepKeys4
namespace Go.Proofs.YtapciiffpnociaaGreat
open Go Go.RowKit
theorem FnP.imp {dr:Bool} {P:Program} {τ:List (Nat × TI)} {τok:d7 P τ} {f:FuncId} {args:List SV} {R R':SV→Prop} (h:FnP dr P τ τok f args R) (g:∀ r,R r→R' r):FnP dr P τ τok f args R' :=
 ⟨h.1,fun O e w vs hH hr=>(h.2 O e w vs hH hr).mono fun _ _ ⟨k',r,H',e',v,⟨a,b,c⟩,d⟩=>⟨k',r,H',e',v,⟨a,b,g r c⟩,d⟩⟩
attribute [local irreducible] DW DS DL DQ Ev FnOk FnP em b9 DT
theorem keepS_fn (l:List Fct) (g:FuncId) (caps:List SV) (pr:Fct→Bool) (hlow:SV.lowL 0 caps=true) (hl:l.length≤4398046511104) (hargs:∀ x∈l,x.args.length≤17592186044416) (hg:∀ x∈l,Fn g ([ey x]++caps) (fun r=>r = .d (.bool (pr x)))) :
  Fn 37 [.d (.slice 2 (l.map a6)),.fn g caps] (fun r=>r = .d (.slice 2 ((bq (l.filter pr)).map a6))) :=
 FnP.imp (keep_fn l g caps pr hlow hl hargs hg) fun r ⟨s,h1,h2,h3⟩=>by rw [h3,keep_set h1 h2]
set_option maxHeartbeats 8000000 in
theorem set_fn (l:List Fct) (hl:l.length≤4398046511104) (hargs:∀ x∈l,x.args.length≤17592186044416):Fn 31 [.d (.slice 2 (l.map a6))] (fun r=>r = .d (.slice 2 ((bq l).map a6))):=by
 refine ak _ Tryz.func31 rfl rfl (by kernel_rfl) ?_
 intro O w0 E0 β0
 have hk:=keepS_fn l 59 [] (fun _=>true) rfl hl hargs (fun x _=>setAny_fn x)
 rw [show l.filter (fun _=>true)=l from List.filter_eq_self.2 fun _ _=>rfl] at hk
 repeat' (first|refine z0 ?_|apply ag|apply ae|refine z16 ?_|apply aj|apply aa|refine z21 ?_ (hc:=by apply hk)|fail)
 exact⟨.inl rfl,_,rfl,rfl,rfl⟩
set_option maxHeartbeats 8000000 in
theorem minus1_fn (m:List Fct) (x:Fct) (hm:m.length≤4398046511104) (hs:Strict m):Fn 38 [ey x,.pd [.slice 2 (m.map a6)]] (fun r=>r = .d (.bool (!hasF m x))):=by
 refine ak _ Tryz.func38 rfl rfl (by kernel_rfl) ?_
 intro O w0 E0 β0
 have hi:=in_fn m x hm hs
 repeat' (first|refine z0 ?_|apply ag|apply ae|refine z16 ?_|apply aj|apply aa|refine z21 ?_ (hc:=by apply hi)|refine z1 ?_|fail)
 exact⟨.inl rfl,_,rfl,rfl,rfl⟩
set_option maxHeartbeats 8000000 in
theorem minus_fn (l m:List Fct) (hl:l.length≤4398046511104) (hm:m.length≤4398046511104) (ha:∀ x∈l,x.args.length≤17592186044416) (hb:∀ x∈m,x.args.length≤17592186044416) :
  Fn 21 [.d (.slice 2 (l.map a6)),.d (.slice 2 (m.map a6))] (fun r=>r = .d (.slice 2 ((bq (l.filter fun x=>!hasF (bq m) x)).map a6))):=by
 refine ak _ Tryz.func21 rfl rfl (by kernel_rfl) ?_
 intro O w0 E0 β0
 have h1:=set_fn m hm hb
 have hsl:(bq m).length≤4398046511104:=by have:=setF_len m [];simp at this;unfold bq;omega
 have hk:=keepS_fn l 38 [.pd [.slice 2 ((bq m).map a6)]] (fun x=>!hasF (bq m) x) rfl hl ha (fun x _=>minus1_fn (bq m) x hsl (bn m).1)
 repeat' (first|refine z0 ?_|apply ag|apply ae|refine z16 ?_|apply aa|refine z21 ?_ (hc:=by apply h1)|refine z1 ?_|refine z3 ?_|fail)
 refine ds_ent (ent_freeze (ds:=[.slice 2 ((bq m).map a6)]) 9 0 rfl rfl) ?_
 repeat' (first|refine z0 ?_|apply ag|apply aj|apply aa|refine z21 ?_ (hc:=by apply hk)|fail)
 exact⟨.inl rfl,_,rfl,rfl,rfl⟩
set_option maxHeartbeats 8000000 in
theorem grow_fn (n:Nat) (hn:n≤4398046511104):FnOk false Tryz.prog tab cn 76 [.nils,.d (.int .i64 n)] 0 0 [] (fun _ r H=>r = .row 0∧H=[(0,.row 58 2 [])]):=by
 refine co _ Tryz.func76 rfl rfl (by kernel_rfl) ?_
 intro O w0 E0 β0
 by_cases h0:n=0
 ·subst h0
  repeat' (first|refine z0 ?_|apply ag|apply ae|refine z16 ?_|apply ai|refine z19 ?_|apply aa)
  all_goals try (exfalso;omega)
  refine il (ee rfl rfl) rfl rfl ?_
  repeat' (first|refine z0 ?_|apply ag|apply ae|refine z16 ?_|apply ai|refine z19 ?_|apply aa)
  all_goals try (exfalso;omega)
  refine ba (ea (t:=4) 58 2 rfl) ?_
  repeat' (apply aj)
  exact⟨.inl rfl,_,rfl,id,1,.row 0,[(0,.row 58 2 [])],rfl,⟨rfl,trivial⟩,rfl,rfl,rfl,rfl,rfl,rfl,rfl,rfl⟩
 ·repeat' (first|refine z0 ?_|apply ag|apply ae|refine z16 ?_|apply ai|refine z19 ?_|apply aa)
  all_goals try (exfalso;omega)
  refine il (ee rfl rfl) rfl rfl ?_
  repeat' (first|refine z0 ?_|apply ag|apply ae|refine z16 ?_|apply ai|apply aj|apply aa|(refine z23 ?_ ?_ <;> intro hg)|fail)
  all_goals try (exfalso;omega)
  refine il (ee rfl rfl) rfl rfl ?_
  repeat' refine z0 ?_
  all_goals try (exfalso;omega)
  refine ds_apmk (n:=n) (es:=2) (te:=58) [.int .i64 0,.slice 1 []] rfl rfl (by omega) rfl rfl rfl rfl ⟨.inl rfl,.inr ⟨rfl,1,rfl⟩,trivial⟩ rfl rfl (by omega) (by omega) ?_ (by unfold maxLen;omega) rfl rfl ?_
  ·show n * 32≤_
   omega
  repeat' (first|refine z0 ?_|apply ag|apply ae|refine z16 ?_|apply aa)
  all_goals try (exfalso;omega)
  refine ba (ent_cut (n:=0) 4 rfl rfl (Nat.zero_le _) rfl) ?_
  repeat' (apply aj)
  exact⟨.inl rfl,_,rfl,fun j=>match j with|0=>1|j=>j,1,.row 0,[(0,.row 58 2 [])],rfl,⟨rfl,trivial⟩,rfl,rfl,rfl,rfl,rfl,rfl,rfl,rfl⟩
theorem sum_take {ls:List (List Fct)} {i:Nat} (hi:i < ls.length):((ls.take (i + 1)).map List.length).sum=((ls.take i).map List.length).sum + ls[i].length:=by
 rw [List.take_succ_eq_append_getElem hi,List.map_append,List.sum_append];rfl
theorem sum_le (ls:List (List Fct)) (i:Nat):((ls.take i).map List.length).sum≤(ls.map List.length).sum:=by
 have h:(ls.map List.length).sum=((ls.take i).map List.length).sum + ((ls.drop i).map List.length).sum:=by rw [← List.sum_append,← List.map_append,List.take_append_drop]
 omega
set_option maxHeartbeats 8000000 in
theorem concat_fn (ls:List (List Fct)) (h:(ls.map List.length).sum≤4398046511104) (h2:ls.length≤4398046511104):Fn 36 [.d (.slice 1 (ls.map fun l=>[.slice 2 (l.map a6)]))] (fun r=>r = .d (.slice 2 (ls.flatten.map a6))):=by
 refine ak _ Tryz.func36 rfl rfl (by kernel_rfl) ?_
 intro O w0 E0 β0
 have ll:(ls.map fun l=>[D.slice 2 (l.map a6)]).length=ls.length:=List.length_map _
 repeat' (first|refine z0 ?_|apply ag|apply ae|refine z16 ?_|apply ah|apply aa)
 refine bh (ι:=Nat) (fun i=>⟨0,[(0,.d (.slice 1 (ls.map fun l=>[.slice 2 (l.map a6)]))),(3,.d (.int .i64 (((ls.take i).map List.length).sum:Nat))),(9,.d (.slice 1 (ls.map fun l=>[.slice 2 (l.map a6)]))),(10,.d (.int .i64 ls.length)),(11,.d (.int .i64 i))],[]⟩)
  (fun i=>i≤ls.length) (fun i=>ls.length - i) 0 (Nat.zero_le _) (ap id ⟨rfl,rfl,rfl,by rw [← ll];rfl,rfl,trivial⟩ trivial rfl rfl rfl rfl rfl rfl) ?_
 intro i g1
 by_cases hi:i < ls.length
 ·have h3:=sum_take hi
  have h4:=sum_le ls (i + 1)
  have h5:(ls[i].map a6).length=ls[i].length:=List.length_map _
  repeat' (first|refine z0 ?_|apply ag|apply ae|refine z16 ?_|apply ah|apply ai|apply au|refine z19 ?_|apply aa|apply aq|apply bg|refine z17 ?_|(refine z23 ?_ ?_ <;> intro hg)|fail)
  all_goals try (exfalso;omega)
  exact⟨i + 1,by omega,ap id ⟨rfl,congrArg (fun z=>SV.d (.int .i64 z)) (by rw [h3,h5];omega),rfl,rfl,rfl,trivial⟩ trivial rfl rfl rfl rfl rfl rfl,by omega⟩
 ·rw [List.take_of_length_le (by omega)]
  repeat' (first|refine z0 ?_|apply ag|apply ae|refine z16 ?_|apply ah|apply ai|apply au|refine z19 ?_|apply aa|apply aq|apply bg|refine z17 ?_|(refine z23 ?_ ?_ <;> intro hg)|fail)
  all_goals try (exfalso;omega)
  refine b8 id (grow_fn (ls.map List.length).sum h) rfl rfl rfl rfl trivial rfl rfl rfl rfl rfl rfl ?_ ?_
  ·rintro k2 r H2 ⟨rfl,rfl⟩;exact⟨rfl,rfl⟩
  rintro k2 r H2 ⟨rfl,rfl⟩
  change DS _ _ _ _ _ _ _ _
  repeat' (first|refine z0 ?_|apply ag|apply ae|refine z16 ?_|apply ah|apply aa)
  refine bh (ι:=Nat) (fun i=>⟨1,[(6,.row 0),(25,.d (.slice 1 (ls.map fun l=>[.slice 2 (l.map a6)]))),(26,.d (.int .i64 ls.length)),(27,.d (.int .i64 i))],[(0,.row 58 2 ((ls.take i).flatten.map a6))]⟩)
   (fun i=>i≤ls.length) (fun i=>ls.length - i) 0 (Nat.zero_le _) (ap id ⟨rfl,rfl,by rw [← ll];rfl,rfl,trivial⟩ ⟨rfl,trivial⟩ rfl rfl rfl rfl rfl rfl) ?_
  clear hi g1
  intro i g1
  by_cases hi:i < ls.length
  ·have h3:=sum_take hi
   have h4:=sum_le ls (i + 1)
   have h5:(ls[i].map a6).length=ls[i].length:=List.length_map _
   have h6:((ls.take i).flatten.map a6).length=((ls.take i).map List.length).sum:=by rw [List.length_map,List.length_flatten]
   have h7:(ls.take (i + 1)).flatten=(ls.take i).flatten++ls[i]:=by rw [List.take_succ_eq_append_getElem hi,List.flatten_append];simp
   repeat' (first|refine z0 ?_|apply ag|apply ae|refine z16 ?_|apply ah|apply ai|apply au|apply aj|apply aa|apply aq|apply bg|refine z17 ?_|refine z2 ?_|(refine z23 ?_ ?_ <;> intro hg)|fail)
   all_goals try (exfalso;omega)
   exact⟨i + 1,by omega,ap (fun _=>1) ⟨rfl,rfl,rfl,rfl,trivial⟩ ⟨by rw [h7,List.map_append];rfl,trivial⟩ rfl rfl rfl rfl rfl rfl,by omega⟩
  ·rw [List.take_of_length_le (by omega)]
   repeat' (first|refine z0 ?_|apply ag|apply ae|refine z16 ?_|apply ah|apply ai|apply au|apply aa|apply aq|apply bg|refine z17 ?_|refine z2 ?_|(refine z23 ?_ ?_ <;> intro hg)|fail)
   all_goals try (exfalso;omega)
   refine ba (dp 2 rfl rfl rfl) ?_
   repeat' (apply aj)
   exact⟨.inl rfl,_,rfl,rfl,rfl⟩
def eh (l m:List Fct):List Fct:=l.filter fun x=>!hasF m x


theorem gw {Γ:Ctx} {k:Nat} {L:Sl} {H:Hp} (t i:Nat) {ty:TypeId} {ds:List D} (hL:L.get t = .loc i 0) (hH:Hp.get H i=some (.blk ty (ds.map .d))):Ent Γ k L H k ((t,.pd ds)::L) (Hp.del H i):=by
 intro e a w m
 obtain⟨m2,hX⟩:=m.del i
 have hmem:=Hp.mem_of hH
 refine⟨e,m2.toHeap,m2.defers,m2.len,fun t'=>?_⟩
 rw [Sl.get_cons]
 split
 ·rename_i ht
  subst ht
  have hs:=m.slot t
  rw [hL] at hs
  obtain⟨_,hv⟩:=hs
  obtain⟨us,g1,g2,_⟩:=(m.heap _ hmem).2
  have hown:HB.owned e (i,.blk ty (ds.map .d))=some (e.β i):=rfl
  refine⟨e.β i,0,hv,dg g1,fun hx=>?_,fun j hj=>?_⟩
  ·rcases hx with hx|hx
   ·exact (m.mine _ (List.mem_filterMap.2 ⟨_,hmem,hown⟩)).2 hx
   ·obtain⟨p,hp,hpg⟩:=List.mem_filterMap.1 hx
    have hd:=Hp.del_mem (i:=i) H m.ids p hp
    exact m.owned_ne hd.1 hmem hd.2 hpg hown
  ·obtain⟨u,g3,g4⟩:=RelL.get _ _ g2 j (.d ds[j]) (by rw [List.getElem?_map,List.getElem?_eq_getElem hj];rfl)
   refine⟨u,?_,RepC.keep (Nat.le_refl _) (fun _ _ _=>rfl) (fun b _ h=>hX b h) g4⟩
   rw [cell_of_row w _ _ _ ty (0,0) g1,Nat.zero_add];simpa using g3
 ·exact m2.slot t'
set_option maxHeartbeats 8000000 in
theorem union_fn (l m:List Fct) (hl:l.length + m.length≤4398046511104) (ha:∀ x∈l,x.args.length≤17592186044416) (hb:∀ x∈m,x.args.length≤17592186044416) :
  Fn 20 [.d (.slice 2 (l.map a6)),.d (.slice 2 (m.map a6))] (fun r=>r = .d (.slice 2 ((bq (l++m)).map a6))):=by
 refine ak _ Tryz.func20 rfl rfl (by kernel_rfl) ?_
 intro O w0 E0 β0
 have hc:Fn 36 [.d (.slice 1 [[.slice 2 (l.map a6)],[.slice 2 (m.map a6)]])] (fun r=>r = .d (.slice 2 ((l++m).map a6))):=by
  have h:=concat_fn [l,m] (by simpa using hl) (by simp)
  rw [show [l,m].flatten=l++m by simp] at h
  exact h
 have hs:=set_fn (l++m) (by rw [List.length_append];exact hl) (fun x hx=>(List.mem_append.1 hx).elim (ha x) (hb x))
 repeat' (first|refine z0 ?_|apply ag|apply ae|refine z16 ?_|apply aj|apply aa|refine z21 ?_ (hc:=by apply hc)|refine z21 ?_ (hc:=by apply hs)|refine z4 ?_|fail)
 exact⟨.inl rfl,_,rfl,rfl,rfl⟩
def posU (l:List Upd) (i:UId):Nat:=l.countP fun u=>decide (cv u.id i < 0)
theorem posU_at {l:List Upd} {i:UId} {n:Nat} (hn:n≤l.length) (h1:∀ p (hp:p < l.length),p < n→cv l[p].id i < 0) (h2:∀ p (hp:p < l.length),n≤p→0≤cv l[p].id i):posU l i=n:=by
 unfold posU
 rw [← List.take_append_drop n l,List.countP_append]
 have e1:(l.take n).countP (fun u=>decide (cv u.id i < 0))=(l.take n).length:=List.countP_eq_length.2 fun u hu=>by
  obtain⟨p,hp,rfl⟩:=List.mem_iff_getElem.1 hu
  rw [List.length_take] at hp
  rw [List.getElem_take]
  exact decide_eq_true (h1 p (by omega) (by omega))
 have e2:(l.drop n).countP (fun u=>decide (cv u.id i < 0))=0:=List.countP_eq_zero.2 fun u hu=>by
  obtain⟨p,hp,rfl⟩:=List.mem_iff_getElem.1 hu
  rw [List.length_drop] at hp
  rw [List.getElem_drop]
  have:=h2 (n + p) (by omega) (by omega)
  simp only [decide_eq_true_eq]
  omega
 rw [e1,e2,List.length_take]
 omega
theorem strU_below {l:List Upd} {i:UId} {h:Nat} (hs:StrU l) (hml:h < l.length) (hg:cv l[h].id i < 0):∀ p (hp:p < l.length),p < h + 1→cv l[p].id i < 0:=by
 intro p hp hlt
 by_cases he:p=h
 ·subst he;exact hg
 ·exact kv (List.pairwise_iff_getElem.1 hs p h hp hml (by omega)) hg
theorem strU_above {l:List Upd} {i:UId} {h:Nat} (hs:StrU l) (hml:h < l.length) (hg:0≤cv l[h].id i):∀ p (hp:p < l.length),h≤p→0≤cv l[p].id i:=by
 intro p hp hlt
 by_cases he:p=h
 ·subst he;exact hg
 ·have h1:=List.pairwise_iff_getElem.1 hs h p hml hp (by omega)
  apply Classical.byContradiction
  intro hc
  have h3:=kv h1 (by omega:cv l[p].id i < 0)
  omega
theorem foundU_at {l:List Upd} {i:UId} {n:Nat} (hs:StrU l) (h1:∀ p (hp:p < l.length),p < n→cv l[p].id i < 0) (h2:∀ p (hp:p < l.length),n≤p→0≤cv l[p].id i):hasU l i=(if h:n < l.length then decide (cv l[n].id i=0) else false):=by
 rw [Bool.eq_iff_iff,hasU_iff]
 have hpi:=List.pairwise_iff_getElem.1 hs
 constructor
 ·rintro⟨u,hu,rfl⟩
  obtain⟨p,hp,rfl⟩:=List.mem_iff_getElem.1 hu
  have hpi':¬ p < n:=fun h=>ordId_irr (h1 p hp h)
  rw [dif_pos (by omega)]
  by_cases he:p=n
  ·subst he;exact decide_eq_true (ordId_self _)
  ·have:=hpi n p (by omega) hp (by omega)
   have:=h2 n (by omega) (Nat.le_refl _)
   omega
 ·intro h
  split at h
  ·rename_i hi
   exact⟨_,List.getElem_mem hi,ordId_eq (of_decide_eq_true h)⟩
  ·cases h
set_option maxHeartbeats 8000000 in
theorem dorder_fn (a b:Upd):Fn 44 [jc a,jc b] (fun r=>r = .d (.int .i64 (cv a.id b.id))):=by
 refine ak _ Tryz.func44 rfl rfl (by kernel_rfl) ?_
 intro O w0 E0 β0
 have w:=order_fn a.id b.id
 repeat' (first|refine z0 ?_|apply ag|apply ae|refine z16 ?_|apply aj|apply aa|refine z21 ?_ (hc:=by apply w)|refine z1 ?_|fail)
 exact cg rfl rfl
set_option maxHeartbeats 8000000 in
theorem at1_fn (u:Upd) (i:UId):Fn 108 [jc u,elId i] (fun r=>r = .d (.int .i64 (cv u.id i))):=by
 refine ak _ Tryz.func108 rfl rfl (by kernel_rfl) ?_
 intro O w0 E0 β0
 have w:=order_fn u.id i
 repeat' (first|refine z0 ?_|apply ag|apply ae|refine z16 ?_|apply aj|apply aa|refine z21 ?_ (hc:=by apply w)|refine z1 ?_|fail)
 exact cg rfl rfl
set_option maxHeartbeats 8000000 in
theorem bsearchU_fn (l:List Upd) (f:UId) (hl:l.length≤1000000) (hs:StrU l):Fn 107 [.d (.slice 5 (l.map a7)),elId f,.fn 108 []] (fun r=>r = .tup [.d (.int .i64 (posU l f)),.d (.bool (hasU l f))]):=by
 refine ak _ Tryz.func107 rfl rfl (by kernel_rfl) ?_
 intro O w0 E0 β0
 have ll:(l.map a7).length=l.length:=List.length_map _
 repeat' (first|refine z0 ?_|apply ag|apply ae|refine z16 ?_|apply ah|apply aa|refine z1 ?_|fail)
 refine bh (ι:=Nat × Nat) (fun x=>⟨1,[(0,.d (.slice 5 (l.map a7))),(2,.fn 108 []),(4,.loc 0 0),(8,.d (.int .i64 l.length)),(9,.d (.int .i64 x.1)),(10,.d (.int .i64 x.2))],[(0,.blk 50 [.d (.int .i64 f.author),.d (.int .i64 f.number)])]⟩)
  (fun x=>x.1≤x.2∧x.2≤l.length∧(∀ p (hp:p < l.length),p < x.1→cv l[p].id f < 0)∧(∀ p (hp:p < l.length),x.2≤p→0≤cv l[p].id f)) (fun x=>x.2 - x.1)
  (0,l.length) ⟨Nat.zero_le _,Nat.le_refl _,fun p _ h=>absurd h (Nat.not_lt_zero p),fun p hp h=>by omega⟩ (ap id ⟨rfl,rfl,rfl,by rw [← ll];rfl,rfl,by rw [← ll];rfl,trivial⟩ ⟨rfl,trivial⟩ rfl rfl rfl rfl rfl rfl) ?_
 rintro⟨i,j⟩ ⟨g1,g2,g3,g4⟩
 dsimp only at g1 g2 g3 g4 ⊢
 by_cases hij:i < j
 ·have he:=half_u64 i j (by omega)
  have hm1:i≤(i + j) / 2:=by omega
  have hm2:(i + j) / 2 < j:=by omega
  have hml:(i + j) / 2 < l.length:=by omega
  have hw:=at1_fn (l[(i + j) / 2]'hml) f
  repeat' ((fail_if_success (apply kb 5));(first|refine z0 ?_|apply ag|refine z5 ?_|refine z14 ?_|refine z10 ?_|apply ae|refine z16 ?_|refine z20 ?_|apply ah|apply ai|apply au|apply aj|apply aa|apply aq|refine z17 ?_|(refine z23 ?_ ?_ <;> intro hg)|((fail_if_success (apply dt_known;exact rfl));apply k5;exact rfl;exact rfl;exact rfl;all_goals intro hg)))
  all_goals try (exfalso;omega)
  refine ba (k':=1) (L':=[(11,.d (.int .i64 (((i + j) / 2:Nat):Int))),(0,.d (.slice 5 (l.map a7))),(2,.fn 108 []),(4,.loc 0 0),(8,.d (.int .i64 l.length)),(9,.d (.int .i64 i)),(10,.d (.int .i64 j))]) (H':=[(0,.blk 50 [.d (.int .i64 f.author),.d (.int .i64 f.number)])]) ?_ ?_
  ·rw [← he]
   exact ap id ⟨rfl,rfl,rfl,rfl,rfl,rfl,rfl,trivial⟩ ⟨rfl,trivial⟩ rfl rfl rfl rfl rfl rfl
  generalize (i + j) / 2=h at *
  repeat' (first|refine z0 ?_|apply ag|refine z5 ?_|refine z10 ?_|apply ae|refine z16 ?_|refine z20 ?_|apply aa|apply bg|(apply ik;exact rfl;exact rfl;exact rfl;exact rfl;apply hw;exact rfl;(exact rfl);exact rfl;exact rfl;exact⟨_,rfl⟩;rintro _ rfl)|(refine z23 ?_ ?_ <;> intro hg)|fail)
  all_goals try (exfalso;omega)
  all_goals first
   | exact⟨(h + 1,j),⟨by dsimp only;omega,g2,strU_below hs hml hg,g4⟩,ap id ⟨rfl,rfl,rfl,rfl,rfl,rfl,trivial⟩ ⟨rfl,trivial⟩ rfl rfl rfl rfl rfl rfl,by show j - (h + 1) < j - i;omega⟩
   | exact⟨(i,h),⟨hm1,by dsimp only;omega,g3,strU_above hs hml (Int.not_lt.1 hg)⟩,ap id ⟨rfl,rfl,rfl,rfl,rfl,rfl,trivial⟩ ⟨rfl,trivial⟩ rfl rfl rfl rfl rfl rfl,by show h - i < j - i;omega⟩
 ·have hij':i=j:=by omega
  subst hij'
  have hf:=foundU_at hs g3 g4
  rw [posU_at g2 g3 g4]
  by_cases hil:i < l.length
  ·rw [dif_pos hil] at hf
   have hw:=at1_fn l[i] f
   rw [hf]
   repeat' (first|refine z0 ?_|apply ag|refine z5 ?_|refine z14 ?_|refine z10 ?_|apply ae|refine z16 ?_|refine z20 ?_|apply ah|apply ai|apply au|apply aj|apply aa|apply aq|refine z17 ?_|(apply ik;exact rfl;exact rfl;exact rfl;exact rfl;apply hw;exact rfl;(exact rfl);exact rfl;exact rfl;exact⟨_,rfl⟩;rintro _ rfl)|(refine z23 ?_ ?_ <;> intro hg)|((fail_if_success (apply dt_known;exact rfl));apply k5;exact rfl;exact rfl;exact rfl;all_goals intro hg))
   all_goals try (exfalso;omega)
   all_goals exact⟨.inl rfl,_,rfl,rfl,rfl⟩
  ·rw [dif_neg hil] at hf
   rw [hf]
   repeat' (first|refine z0 ?_|apply ag|refine z5 ?_|refine z14 ?_|refine z10 ?_|apply ae|refine z16 ?_|refine z20 ?_|apply ah|apply ai|apply au|apply aj|apply aa|apply aq|refine z17 ?_|(refine z23 ?_ ?_ <;> intro hg)|((fail_if_success (apply dt_known;exact rfl));apply k5;exact rfl;exact rfl;exact rfl;all_goals intro hg))
   all_goals try (exfalso;omega)
   exact⟨.inl rfl,_,rfl,rfl,rfl⟩
set_option maxHeartbeats 8000000 in
theorem at_fn (l:List Upd) (i:UId) (hl:l.length≤1000000) (hs:StrU l):Fn 70 [.d (.slice 5 (l.map a7)),elId i] (fun r=>r = .tup [.d (.int .i64 (posU l i)),.d (.bool (hasU l i))]):=by
 refine ak _ Tryz.func70 rfl rfl (by kernel_rfl) ?_
 intro O w0 E0 β0
 have w:=bsearchU_fn l i hl hs
 repeat' (first|refine z0 ?_|apply ag|apply ae|refine z16 ?_|apply aj|apply aa|refine z21 ?_ (hc:=by apply w)|refine z1 ?_|fail)
 exact⟨.inl rfl,_,rfl,rfl,rfl⟩
set_option maxHeartbeats 8000000 in
theorem dhas_fn (l:List Upd) (i:UId) (hl:l.length≤1000000) (hs:StrU l):Fn 34 [.d (.slice 5 (l.map a7)),elId i] (fun r=>r = .d (.bool (hasU l i))):=by
 refine ak _ Tryz.func34 rfl rfl (by kernel_rfl) ?_
 intro O w0 E0 β0
 have w:=at_fn l i hl hs
 repeat' (first|refine z0 ?_|apply ag|apply ae|refine z16 ?_|apply aj|apply aa|refine z21 ?_ (hc:=by apply w)|refine z1 ?_|fail)
 exact cm rfl rfl
set_option maxHeartbeats 8000000 in
theorem growId_fn (n:Nat) (hn:n≤1000000):FnOk false Tryz.prog tab cn 139 [.nils,.d (.int .i64 n)] 0 0 [] (fun _ r H=>r = .row 0∧H=[(0,.row 50 2 [])]):=by
 refine co _ Tryz.func139 rfl rfl (by kernel_rfl) ?_
 intro O w0 E0 β0
 by_cases h0:n=0
 ·subst h0
  repeat' (first|refine z0 ?_|apply ag|apply ae|refine z16 ?_|apply ai|refine z19 ?_|apply aa)
  all_goals try (exfalso;omega)
  refine il (ee rfl rfl) rfl rfl ?_
  repeat' (first|refine z0 ?_|apply ag|apply ae|refine z16 ?_|apply ai|refine z19 ?_|apply aa)
  all_goals try (exfalso;omega)
  refine ba (ea (t:=4) 50 2 rfl) ?_
  repeat' (apply aj)
  exact⟨.inl rfl,_,rfl,id,1,.row 0,[(0,.row 50 2 [])],rfl,⟨rfl,trivial⟩,rfl,rfl,rfl,rfl,rfl,rfl,rfl,rfl⟩
 ·repeat' (first|refine z0 ?_|apply ag|apply ae|refine z16 ?_|apply ai|refine z19 ?_|apply aa)
  all_goals try (exfalso;omega)
  refine il (ee rfl rfl) rfl rfl ?_
  repeat' (first|refine z0 ?_|apply ag|apply ae|refine z16 ?_|apply ai|apply aj|apply aa|(refine z23 ?_ ?_ <;> intro hg)|fail)
  all_goals try (exfalso;omega)
  refine il (ee rfl rfl) rfl rfl ?_
  repeat' refine z0 ?_
  all_goals try (exfalso;omega)
  refine ds_apmk (n:=n) (es:=2) (te:=50) [.int .i64 0,.int .i64 0] rfl rfl (by omega) rfl rfl rfl rfl ⟨.inl rfl,.inl rfl,trivial⟩ rfl rfl (by omega) (by omega) ?_ (by unfold maxLen;omega) rfl rfl ?_
  ·show n * 16≤_
   omega
  repeat' (first|refine z0 ?_|apply ag|apply ae|refine z16 ?_|apply aa)
  all_goals try (exfalso;omega)
  refine ba (ent_cut (n:=0) 4 rfl rfl (Nat.zero_le _) rfl) ?_
  repeat' (apply aj)
  exact⟨.inl rfl,_,rfl,fun j=>match j with|0=>1|j=>j,1,.row 0,[(0,.row 50 2 [])],rfl,⟨rfl,trivial⟩,rfl,rfl,rfl,rfl,rfl,rfl,rfl,rfl⟩
set_option maxHeartbeats 8000000 in
theorem concatId_fn (ls:List (List (UId))) (h:(ls.map List.length).sum≤1000000) (h2:ls.length≤1000000):Fn 120 [.d (.slice 1 (ls.map fun l=>[.slice 2 (l.map dj)]))] (fun r=>r = .d (.slice 2 (ls.flatten.map dj))):=by
 refine ak _ Tryz.func120 rfl rfl (by kernel_rfl) ?_
 intro O w0 E0 β0
 have ll:(ls.map fun l=>[D.slice 2 (l.map dj)]).length=ls.length:=List.length_map _
 repeat' (first|refine z0 ?_|apply ag|apply ae|refine z16 ?_|apply ah|apply aa)
 refine bh (ι:=Nat) (fun i=>⟨0,[(0,.d (.slice 1 (ls.map fun l=>[.slice 2 (l.map dj)]))),(3,.d (.int .i64 (((ls.take i).map List.length).sum:Nat))),(9,.d (.slice 1 (ls.map fun l=>[.slice 2 (l.map dj)]))),(10,.d (.int .i64 ls.length)),(11,.d (.int .i64 i))],[]⟩)
  (fun i=>i≤ls.length) (fun i=>ls.length - i) 0 (Nat.zero_le _) (ap id ⟨rfl,rfl,rfl,by rw [← ll];rfl,rfl,trivial⟩ trivial rfl rfl rfl rfl rfl rfl) ?_
 intro i g1
 by_cases hi:i < ls.length
 ·have h3:=sum_takeL hi
  have h4:=sum_leL ls (i + 1)
  have h5:(ls[i].map dj).length=ls[i].length:=List.length_map _
  repeat' (first|refine z0 ?_|apply ag|apply ae|refine z16 ?_|apply ah|apply ai|apply au|refine z19 ?_|apply aa|apply aq|apply bg|refine z17 ?_|(refine z23 ?_ ?_ <;> intro hg)|fail)
  all_goals try (exfalso;omega)
  exact⟨i + 1,by omega,ap id ⟨rfl,congrArg (fun z=>SV.d (.int .i64 z)) (by rw [h3,h5];omega),rfl,rfl,rfl,trivial⟩ trivial rfl rfl rfl rfl rfl rfl,by omega⟩
 ·rw [List.take_of_length_le (by omega)]
  repeat' (first|refine z0 ?_|apply ag|apply ae|refine z16 ?_|apply ah|apply ai|apply au|refine z19 ?_|apply aa|apply aq|apply bg|refine z17 ?_|(refine z23 ?_ ?_ <;> intro hg)|fail)
  all_goals try (exfalso;omega)
  refine b8 id (growId_fn (ls.map List.length).sum h) rfl rfl rfl rfl trivial rfl rfl rfl rfl rfl rfl ?_ ?_
  ·rintro k2 r H2 ⟨rfl,rfl⟩;exact⟨rfl,rfl⟩
  rintro k2 r H2 ⟨rfl,rfl⟩
  change DS _ _ _ _ _ _ _ _
  repeat' (first|refine z0 ?_|apply ag|apply ae|refine z16 ?_|apply ah|apply aa)
  refine bh (ι:=Nat) (fun i=>⟨1,[(6,.row 0),(25,.d (.slice 1 (ls.map fun l=>[.slice 2 (l.map dj)]))),(26,.d (.int .i64 ls.length)),(27,.d (.int .i64 i))],[(0,.row 50 2 ((ls.take i).flatten.map dj))]⟩)
   (fun i=>i≤ls.length) (fun i=>ls.length - i) 0 (Nat.zero_le _) (ap id ⟨rfl,rfl,by rw [← ll];rfl,rfl,trivial⟩ ⟨rfl,trivial⟩ rfl rfl rfl rfl rfl rfl) ?_
  clear hi g1
  intro i g1
  by_cases hi:i < ls.length
  ·have h3:=sum_takeL hi
   have h4:=sum_leL ls (i + 1)
   have h5:(ls[i].map dj).length=ls[i].length:=List.length_map _
   have h6:((ls.take i).flatten.map dj).length=((ls.take i).map List.length).sum:=by rw [List.length_map,List.length_flatten]
   have h7:(ls.take (i + 1)).flatten=(ls.take i).flatten++ls[i]:=by rw [List.take_succ_eq_append_getElem hi,List.flatten_append];simp
   repeat' (first|refine z0 ?_|apply ag|apply ae|refine z16 ?_|apply ah|apply ai|apply au|apply aj|apply aa|apply aq|apply bg|refine z17 ?_|refine z2 ?_|(refine z23 ?_ ?_ <;> intro hg)|fail)
   all_goals try (exfalso;omega)
   exact⟨i + 1,by omega,ap (fun _=>1) ⟨rfl,rfl,rfl,rfl,trivial⟩ ⟨by rw [h7,List.map_append];rfl,trivial⟩ rfl rfl rfl rfl rfl rfl,by omega⟩
  ·rw [List.take_of_length_le (by omega)]
   repeat' (first|refine z0 ?_|apply ag|apply ae|refine z16 ?_|apply ah|apply ai|apply au|apply aa|apply aq|apply bg|refine z17 ?_|refine z2 ?_|(refine z23 ?_ ?_ <;> intro hg)|fail)
   all_goals try (exfalso;omega)
   refine ba (dp 2 rfl rfl rfl) ?_
   repeat' (apply aj)
   exact⟨.inl rfl,_,rfl,rfl,rfl⟩
set_option maxHeartbeats 8000000 in
theorem under_fn (u:Upd) (h:u.parents.length + u.takes.length≤1000000):Fn 90 [jc u] (fun r=>r = .d (.slice 2 ((df u).map dj))):=by
 refine ak _ Tryz.func90 rfl rfl (by kernel_rfl) ?_
 intro O w0 E0 β0
 have hc:Fn 120 [.d (.slice 1 [[.slice 2 (u.parents.map dj)],[.slice 2 (u.takes.map dj)]])] (fun r=>r = .d (.slice 2 ((df u).map dj))):=by
  have h:=concatId_fn [u.parents,u.takes] (by simpa using h) (by simp)
  rw [show [u.parents,u.takes].flatten=df u by simp [df]] at h
  exact h
 repeat' (first|refine z0 ?_|apply ag|apply ae|refine z16 ?_|apply aj|apply aa|refine z21 ?_ (hc:=by apply hc)|refine z1 ?_|refine z4 ?_|fail)
 exact⟨.inl rfl,_,rfl,rfl,rfl⟩
set_option maxHeartbeats 8000000 in
theorem ready1_fn (l:List Upd) (i:UId) (hl:l.length≤1000000) (hs:StrU l):Fn 91 ([elId i]++[.pd [.slice 5 (l.map a7)]]) (fun r=>r = .d (.bool (!hasU l i))):=by
 refine ak _ Tryz.func91 rfl rfl (by kernel_rfl) ?_
 intro O w0 E0 β0
 have w:=dhas_fn l i hl hs
 repeat' (first|refine z0 ?_|apply ag|apply ae|refine z16 ?_|apply aj|apply aa|refine z21 ?_ (hc:=by apply w)|refine z1 ?_|fail)
 exact cm rfl rfl
set_option maxHeartbeats 8000000 in
theorem dready_fn (l:List Upd) (u:Upd) (hl:l.length≤1000000) (hs:StrU l) (h:u.parents.length + u.takes.length≤1000000):Fn 48 [.d (.slice 5 (l.map a7)),jc u] (fun r=>r = .d (.bool (readyU l u))):=by
 refine ak _ Tryz.func48 rfl rfl (by kernel_rfl) ?_
 intro O w0 E0 β0
 have w1:=under_fn u h
 have w2:=mh (caps:=[.pd [.slice 5 (l.map a7)]]) (fun i=>!hasU l i) (df u) rfl (fun i _=>ready1_fn l i hl hs)
 have he:(!((df u).any fun i=>!hasU l i))=readyU l u:=by unfold readyU;rw [List.all_eq_not_any_not]
 rw [← he]
 repeat' ((fail_if_success (apply kb 1));(first|refine z0 ?_|apply ag|apply ae|refine z16 ?_|apply aa|refine z1 ?_|fail))
 refine ba (gw (ds:=[.slice 5 (l.map a7)]) 2 0 rfl rfl) ?_
 repeat' (first|refine z0 ?_|apply ag|apply ae|refine z16 ?_|apply aj|apply aa|refine z21 ?_ (hc:=by apply w1)|refine z21 ?_ (hc:=by apply w2)|fail)
 exact cm rfl rfl
end Go.Proofs.YtapciiffpnociaaGreat
namespace Go.Proofs.YtapciiffpnociaaGreat
open Go Go.RowKit
open Go.Maps (Keyed)
def MK.eqb:MK→MK→Bool
 | .str a,.str b=>decide (a.data=b.data)
 | .pair a b,.pair c d=>decide (a=c) && decide (b=d)
 | _,_=>false
theorem MK.eqb_iff:∀ {a b:MK},a.eqb b=true↔a=b
 | .str a,.str b=>by
  simp only [MK.eqb,decide_eq_true_iff,MK.str.injEq]
  exact⟨fun h=>by cases a;cases b;exact congrArg _ h,fun h=>by rw [h]⟩
 | .pair a b,.pair c d=>by simp only [MK.eqb,Bool.and_eq_true,decide_eq_true_iff,MK.pair.injEq]
 | .str _,.pair _ _=>by simp [MK.eqb]
 | .pair _ _,.str _=>by simp [MK.eqb]
theorem MK.eqb_self (a:MK):a.eqb a=true:=MK.eqb_iff.2 rfl
theorem MK.val_inj:∀ {a b:MK},a.val=b.val→a=b
 | .str a,.str b,h=>by cases h;rfl
 | .pair a b,.pair c d,h=>by
  simp only [MK.val,Value.agg.injEq,Array.mk.injEq,List.cons.injEq,Value.int.injEq,and_true,true_and] at h
  rw [h.1,h.2]
 | .str _,.pair _ _,h=>by cases h
 | .pair _ _,.str _,h=>by cases h
def mapGet?:List (MK × Int)→MK→Option Int
 | [],_=>none
 | (k,v)::l,x=>if k.eqb x then some v else mapGet? l x
def bu:List (MK × Int)→MK→Int→List (MK × Int)
 | [],x,n=>[(x,n)]
 | (k,v)::l,x,n=>if k.eqb x then (k,n)::l else (k,v)::bu l x n
theorem mapGet_set (x:MK) (n:Int) (y:MK):∀ l,mapGet? (bu l x n) y=if x.eqb y then some n else mapGet? l y
 | []=>rfl
 | (k,v)::l=>by
  unfold bu
  by_cases hk:k.eqb x=true
  ·have:=MK.eqb_iff.1 hk
   subst this
   rw [if_pos hk]
   simp only [mapGet?]
   split <;> rfl
  ·rw [if_neg hk]
   simp only [mapGet?,mapGet_set x n y l]
   by_cases hy:k.eqb y=true
   ·have:=MK.eqb_iff.1 hy
    subst this
    rw [if_pos hy,if_neg (fun h=>hk (MK.eqb_iff.2 (MK.eqb_iff.1 h).symm)),if_pos hy]
   ·rw [if_neg hy,if_neg hy]
theorem mapGet_none {x:MK}:∀ {l:List (MK × Int)},(∀ p∈l,p.1≠x)→mapGet? l x=none
 | [],_=>rfl
 | (k,v)::l,h=>by
  unfold mapGet?
  rw [if_neg (fun hc=>h (k,v) (List.mem_cons_self ..) (MK.eqb_iff.1 hc))]
  exact mapGet_none fun p hp=>h p (List.mem_cons_of_mem _ hp)
theorem mapGet_some {x:MK} {n:Int}:∀ {l:List (MK × Int)},l.Pairwise (fun p q=>p.1≠q.1)→(x,n)∈l→mapGet? l x=some n
 | [],_,h=>by simp at h
 | (k,v)::l,hp,h=>by
  obtain⟨h1,h2⟩:=List.pairwise_cons.1 hp
  unfold mapGet?
  rcases List.mem_cons.1 h with h|h
  ·cases h;rw [if_pos (MK.eqb_self _)]
  ·rw [if_neg fun hc=>h1 _ h (MK.eqb_iff.1 hc)]
   exact mapGet_some h2 h
theorem mapSet_new {x:MK} {n:Int}:∀ {l:List (MK × Int)},(∀ p∈l,p.1≠x)→bu l x n=l++[(x,n)]
 | [],_=>rfl
 | (k,v)::l,h=>by
  unfold bu
  rw [if_neg (fun hc=>h (k,v) (List.mem_cons_self ..) (MK.eqb_iff.1 hc)),mapSet_new fun p hp=>h p (List.mem_cons_of_mem _ hp)]
  rfl
theorem mapSet_old {x:MK} {n:Int}:∀ {l:List (MK × Int)} {j:Nat} {v:Int},l.Pairwise (fun p q=>p.1≠q.1)→l[j]? = some (x,v)→bu l x n=l.set j (x,n)
 | [],_,_,_,h=>by simp at h
 | (k,u)::l,0,v,hp,h=>by
  simp only [List.getElem?_cons_zero,Option.some.injEq,Prod.mk.injEq] at h
  unfold bu
  rw [if_pos (by rw [h.1];exact MK.eqb_self _),h.1]
  rfl
 | (k,u)::l,j + 1,v,hp,h=>by
  obtain⟨h1,h2⟩:=List.pairwise_cons.1 hp
  rw [List.getElem?_cons_succ] at h
  unfold bu
  rw [if_neg fun hc=>h1 _ (List.mem_of_getElem? h) (MK.eqb_iff.1 hc),mapSet_old h2 h]
  rfl
theorem mapSet_keys (x:MK) (n:Int):∀ l,∀ p∈bu l x n,p=(x,n)∨p∈l
 | [],p,h=>by simp only [bu,List.mem_singleton] at h;exact .inl h
 | (k,v)::l,p,h=>by
  unfold bu at h
  split at h
  ·rename_i hk
   rw [MK.eqb_iff.1 hk] at h
   rcases List.mem_cons.1 h with h|h
   ·exact .inl h
   ·exact .inr (List.mem_cons_of_mem _ h)
  ·rcases List.mem_cons.1 h with h|h
   ·exact .inr (by rw [h];exact List.mem_cons_self ..)
   ·exact (mapSet_keys x n l p h).imp id fun h=>List.mem_cons_of_mem _ h
theorem mapSet_pairs (x:MK) (n:Int):∀ l:List (MK × Int),l.Pairwise (fun p q=>p.1≠q.1)→(bu l x n).Pairwise (fun p q=>p.1≠q.1)
 | [],_=>by simp [bu]
 | (k,v)::l,h=>by
  obtain⟨h1,h2⟩:=List.pairwise_cons.1 h
  unfold bu
  split
  ·exact List.pairwise_cons.2 ⟨h1,h2⟩
  ·rename_i hk
   refine List.pairwise_cons.2 ⟨fun p hp=>?_,mapSet_pairs x n l h2⟩
   rcases mapSet_keys x n l p hp with h|h
   ·rw [h];exact fun hc=>hk (MK.eqb_iff.2 hc)
   ·exact h1 p h
structure MapT (P:Program) (t:TypeId) (kd:Bool):Prop where
 ty:∃ kt et,P.underlying t=some (.map kt et)∧Keyed P kt∧(∀ key:MK,key.ok kd→∃ l,keyOf P kt key.val=some l)∧∀ w,(zeroValue et).run P w = .ok (.int .i64 0) w
def keyC:SV→Option MK
 | .d (.str s)=>some (.str s)
 | .agg [.d (.int .i64 a),.d (.int .i64 b)]=>some (.pair a b)
 | _=>none
def MK.kd:MK→Bool
 | .str _=>true
 | .pair _ _=>false
theorem keyC_rel {X e w} {s:SV} {v:Value} {key:MK} (h:keyC s=some key) (hr:Rel X e w s v):v=key.val∧key.ok key.kd:=by
 unfold keyC at h
 split at h
 ·cases h
  have hr:RepC _ _ _ _:=hr
  cases hr
  exact⟨rfl,rfl,by assumption⟩
 ·cases h
  obtain⟨vs,rfl,h2⟩:=hr
  match vs,h2 with
  | [u1,u2],⟨g1,g2,_⟩ =>
   have g1:RepC _ _ _ _:=g1
   have g2:RepC _ _ _ _:=g2
   cases g1
   cases g2
   exact⟨rfl,rfl,by assumption,by assumption⟩
 ·cases h
section
variable {Γ : Ctx} {k : Nat → Prop} {L : Sl} {H : Hp} {K : cq} {ops : List Oper} {rest : List Oper} {a : Act} {w : World} {e : Env} {t t' ty : TypeId} {x y : Operand}
theorem cSV_mp (v:Value) (i:Nat):cSV v≠.mp i:=by unfold cSV;split <;> simp
theorem entries_get {es:Array MapEntry} {kvs:List (MK × Int)} (h:es.toList.map (fun x=>(x.key,x.val))=kvs.map (fun p=>(p.1.val,Value.int .i64 p.2))) {j:Nat} {x:MapEntry} (hj:es.toList[j]? = some x):∃ p,kvs[j]? = some p∧x.key=p.1.val∧x.val = .int .i64 p.2:=by
 have h1:(es.toList.map (fun x=>(x.key,x.val)))[j]? = some (x.key,x.val):=by rw [List.getElem?_map,hj];rfl
 rw [h,List.getElem?_map] at h1
 cases hk:kvs[j]? with
 | none=>rw [hk] at h1;cases h1
 | some p =>
  rw [hk] at h1
  simp only [Option.map_some,Option.some.injEq,Prod.mk.injEq] at h1
  exact⟨p,rfl,h1.1.symm,h1.2.symm⟩
theorem entries_of {es:Array MapEntry} {kvs:List (MK × Int)} (h:es.toList.map (fun x=>(x.key,x.val))=kvs.map (fun p=>(p.1.val,Value.int .i64 p.2))) {x:MapEntry} (hx:x∈es.toList):∃ p∈kvs,x.key=p.1.val∧x.val = .int .i64 p.2:=by
 obtain⟨j,hj⟩:=List.mem_iff_getElem?.1 hx
 obtain⟨p,h1,h2⟩:=entries_get h hj
 exact⟨p,List.mem_of_getElem? h1,h2⟩
theorem map_find {P:Program} {kt:TypeId} {kd:Bool} {kvs:List (MK × Int)} {es:Array MapEntry} (K:Keyed P kt) (hof:∀ key:MK,key.ok kd→∃ l,keyOf P kt key.val=some l) (hes:es.toList.map (fun x=>(x.key,x.val))=kvs.map (fun p=>(p.1.val,Value.int .i64 p.2)))
  (hkeys:kvs.Pairwise fun p q=>p.1≠q.1) (hwf:∀ p∈kvs,p.1.ok kd∧(Lit.int .i64 p.2).wf=true) {key:MK} (hk:key.ok kd) (w:World) :
  ((Instr.findKey kt key.val es.toList).run P w = .ok none w∧mapGet? kvs key=none∧∀ p∈kvs,p.1≠key)∨∃ j x n,(Instr.findKey kt key.val es.toList).run P w = .ok (some (j,.int .i64 n)) w∧es.toList[j]? = some x∧x.key=key.val∧kvs[j]? = some (key,n)∧mapGet? kvs key=some n∧(Lit.int .i64 n).wf=true:=by
 obtain⟨l,hl⟩:=hof key hk
 have hall:∀ e∈es.toList,∃ l,keyOf P kt e.key=some l:=fun x hx=>by
  obtain⟨p,h1,h2,_⟩:=entries_of hes hx
  rw [h2];exact hof _ (hwf p h1).1
 rcases K.find w hl es.toList hall with ⟨h1,h2⟩|⟨j,x,h1,h2,h3⟩
 ·have hno:∀ p∈kvs,p.1≠key:=fun p hp he=>by
   obtain⟨j,hj⟩:=List.mem_iff_getElem?.1 hp
   have hj2:(es.toList.map (fun x=>(x.key,x.val)))[j]? = some (p.1.val,Value.int .i64 p.2):=by rw [hes,List.getElem?_map,hj];rfl
   rw [List.getElem?_map] at hj2
   cases hx:es.toList[j]? with
   | none=>rw [hx] at hj2;cases hj2
   | some x =>
    rw [hx] at hj2
    simp only [Option.map_some,Option.some.injEq,Prod.mk.injEq] at hj2
    exact h2 x (List.mem_of_getElem? hx) (by rw [hj2.1,he])
  exact .inl ⟨h1,mapGet_none hno,hno⟩
 ·obtain⟨p,q1,q2,q3⟩:=entries_get hes h2
  have hpk:p.1=key:=MK.val_inj (by rw [← q2,h3])
  obtain⟨pk,n⟩:=p
  subst hpk
  rw [q3] at h1
  exact .inr ⟨j,x,n,h1,h2,h3,q1,mapGet_some hkeys (List.mem_of_getElem? q1),(hwf _ (List.mem_of_getElem? q1)).2⟩
theorem stamps_push {es:Array MapEntry} {clock:Nat} {k v:Value} (h:Stamps es clock):Stamps (es.push ⟨k,v,clock⟩) (clock + 1):=by
 refine⟨?_,fun x hx=>?_⟩
 ·rw [Array.toList_push]
  refine List.pairwise_append.2 ⟨h.1,List.pairwise_singleton _ _,fun x hx y hy=>?_⟩
  rw [List.mem_singleton] at hy
  subst hy
  have:=h.2 x hx
  dsimp only
  omega
 ·rw [Array.toList_push] at hx
  rcases List.mem_append.1 hx with hx|hx
  ·have:=h.2 x hx;omega
  ·rw [List.mem_singleton] at hx
   subst hx
   exact Nat.lt_succ_self _
theorem borns_modify {es:Array MapEntry} {j:Nat} {f:MapEntry→MapEntry} (hf:∀ x,(f x).born=x.born):(es.modify j f).toList.map (·.born)=es.toList.map (·.born):=by
 apply List.ext_getElem?
 intro q
 rw [List.getElem?_map,List.getElem?_map,Array.getElem?_toList,Array.getElem?_toList,Array.getElem?_modify]
 by_cases hq:j=q
 ·rw [if_pos hq]
  cases es[q]? with
  | none=>rfl
  | some x=>simp [hf]
 ·rw [if_neg hq]
theorem stamps_modify {es:Array MapEntry} {clock j:Nat} {f:MapEntry→MapEntry} (h:Stamps es clock) (hf:∀ x,(f x).born=x.born):Stamps (es.modify j f) clock:=by
 have hb:=borns_modify (es:=es) (j:=j) hf
 have h1:(es.toList.map (·.born)).Pairwise (·≠·):=List.pairwise_map.2 h.1
 rw [← hb] at h1
 refine⟨List.pairwise_map.1 h1,fun x hx=>?_⟩
 have hm:x.born∈(es.modify j f).toList.map (·.born):=List.mem_map.2 ⟨x,hx,rfl⟩
 rw [hb] at hm
 obtain⟨y,hy,he⟩:=List.mem_map.1 hm
 rw [← he]
 exact h.2 y hy
theorem wf_zero:(Lit.int .i64 0).wf=true:=by decide
theorem look_run {P:Program} {kd:Bool} {kvs:List (MK × Int)} {key:MK} (T:MapT P t kd) (c:Bool) {w:World} {b:Nat} (hM:MapIs w b kd kvs) (hok:key.ok kd) :
  (Instr.lookup t (.map (some b)) key.val c).run P w = .ok (if c then .tuple #[.int .i64 ((mapGet? kvs key).getD 0),.bool (mapGet? kvs key).isSome] else .int .i64 ((mapGet? kvs key).getD 0)) w∧(Lit.int .i64 ((mapGet? kvs key).getD 0)).wf=true:=by
 obtain⟨kt,et,ht,K,hof,hz⟩:=T.ty
 obtain⟨⟨es,clock,hb,hes,hst⟩,hkeys,hwf⟩:=hM
 obtain⟨l,hl⟩:=hof key hok
 rcases map_find K hof hes hkeys hwf hok w with ⟨h1,h2,_⟩|⟨j,x0,n,h1,_,_,_,h2,h3⟩
 ·refine⟨?_,by rw [h2];exact wf_zero⟩
  simp [Instr.lookup,run_underlying ht,MapKept.run_getObj_map hb,K.check w _ hl,h1,hz w,h2,Result.andThen]
 ·refine⟨?_,by rw [h2];exact h3⟩
  simp [Instr.lookup,run_underlying ht,MapKept.run_getObj_map hb,K.check w _ hl,h1,h2,Result.andThen]
def lookAt (H:Hp) (s:SV) (kd:Bool) (kvs:List (MK × Int)):Prop:=match s with
 | .mp i=>Hp.get H i=some (.map kd kvs)
 | .md kd' kvs'=>kd' = kd∧kvs' = kvs
 | _=>False
theorem cSV_md (v:Value) (kd:Bool) (kvs:List (MK × Int)):cSV v≠.md kd kvs:=by unfold cSV;split <;> simp
theorem lookAt_is {kd:Bool} {kvs:List (MK × Int)} (m:Models Γ k L H e a w) (h:lookAt H (a8 L x) kd kvs):∃ b,a.eval x = .map (some b)∧b < w.heap.size∧MapIs w b kd kvs:=by
 unfold lookAt at h
 split at h
 ·rename_i i hx
  obtain⟨_,hv⟩:=evT m hx (cSV_mp · _)
  exact⟨_,hv,m.toHeap.lt (e.β i) (List.mem_filterMap.2 ⟨_,Hp.mem_of h,rfl⟩),(m.heap _ (Hp.mem_of h)).2⟩
 ·rename_i kd' kvs' hx
  obtain⟨rfl,rfl⟩:=h
  obtain⟨b,h1,h2,_,h3⟩:=evT m hx (cSV_md · _ _)
  exact⟨b,h1,h2,h3⟩
 ·exact h.elim
theorem ev_lookup {kd:Bool} {kvs:List (MK × Int)} {key:MK} (T:MapT Γ.P t kd) (hx:lookAt H (a8 L x) kd kvs) (hy:keyC (a8 L y)=some key) (hkd:key.kd=kd) (hyo:c9 y=true) :
  Ev Γ k L H (.lookup t x y false) ty (.d (.int .i64 ((mapGet? kvs key).getD 0))):=by
 intro e a w m
 obtain⟨b,hvx,hlt,hM⟩:=lookAt_is m hx
 obtain⟨hvy,hok⟩:=keyC_rel hy (m.op y (ck hyo))
 rw [hkd] at hok
 refine⟨.int .i64 ((mapGet? kvs key).getD 0),fun _ _ _ _ w' hw=>?_,.int (look_run T false hM hok).2⟩
 have h1:=(look_run T false (hM.keep fun _ _ h=>(hw.block _ hlt).trans h) hok).1
 simp only [execOp,hvx,hvy,Sem.run_bind,Sem.run_pure,h1,Result.andThen_ok]
 rfl
theorem op_mapNew {d z:Nat} {kd:Bool} {pos:String} {af:Array Edge} {g:Option (Nat × Bool)} (hz:¬ k z) (hd:Nat.blt d Γ.n=true):OpOk Γ ⟨some d,.makeMap t none,ty,pos,af,g⟩ k L H (kq k z) ((d,.mp z)::L) ((z,.map kd [])::H):=by
 intro e a w Q m
 have hze:¬ e.dom z:=fun h=>hz ((m.top z).1 h)
 have hrun:(execOp a.eval ⟨some d,.makeMap t none,ty,pos,af,g⟩).run Γ.P w = .ok (.value (.map (some w.heap.size))) (w.alloc (.map #[] 0)):=by
  simp only [execOp,Option.map_none,Sem.run_bind,run_makeMap,Result.andThen_ok,Sem.run_pure]
 unfold Oper.wp
 rw [hrun]
 have m2:=m.new hz (hb:=.map kd []) (e':=e.bind z w.heap.size) (w':=w.alloc (.map #[] 0)) (fun i=>or_congr (m.top i) Iff.rfl) (e.bind_ext _ _ hze) ⟨(Below.refl _ _).alloc (Nat.le_refl _) _,fun _=>Nat.le_refl _⟩
  (fun b hb=>by simp [HB.owned,Env.bind] at hb;omega) (fun _=>⟨⟨#[],0,by show (w.alloc (.map #[] 0)).heap[(e.bind z w.heap.size).β z]? = _;rw [show (e.bind z w.heap.size).β z=w.heap.size from if_pos rfl];exact (MapKept.heap_alloc w _).1,rfl,.nil,by simp⟩,.nil,by simp⟩)
 refine⟨_,m2.put (s:=.mp z) (v:=.map (some w.heap.size)) (Nat.le_of_ble_eq_true hd) ⟨.inr rfl,?_⟩⟩
 show _=Value.map (some (if z=z then w.heap.size else e.β z));rw [if_pos rfl]
theorem op_mapSet {i:Nat} {kd:Bool} {kvs:List (MK × Int)} {key:MK} {n:Int} {u:Operand} {dst:Option Nat} {pos:String} {af:Array Edge} {g:Option (Nat × Bool)} (T:MapT Γ.P t kd) (hx:a8 L x = .mp i) (hH:Hp.get H i=some (.map kd kvs)) (hy:keyC (a8 L y)=some key) (hkd:key.kd=kd) (hyo:c9 y=true)
  (hu:a8 L u = .d (.int .i64 n)) (huo:c9 u=true) (hdst:dst=none):OpOk Γ ⟨dst,.mapUpdate t x y u,ty,pos,af,g⟩ k L H k L (Hp.set H i (.map kd (bu kvs key n))):=by
 subst hdst
 intro e a w Q m
 obtain⟨kt,et,ht,K,hof,hz⟩:=T.ty
 obtain⟨_,hvx⟩:=evT m hx (cSV_mp · _)
 obtain⟨hvy,hok⟩:=keyC_rel hy (m.op y (ck hyo))
 rw [hkd] at hok
 have hru:=m.op u (ck huo)
 rw [hu] at hru
 obtain⟨hvu,hnwf⟩:a.eval u = .int .i64 n∧(Lit.int .i64 n).wf=true:=by
  have hru:RepC _ _ _ _:=hru
  generalize a.eval u=vu at hru
  cases hru with
  | int h=>exact⟨rfl,h⟩
 have hM:MapIs w (e.β i) kd kvs:=(m.heap _ (Hp.mem_of hH)).2
 have hlt:=m.toHeap.lt (e.β i) (List.mem_filterMap.2 ⟨_,Hp.mem_of hH,rfl⟩)
 obtain⟨⟨es,clock,hb,hes,hst⟩,hkeys,hwf⟩:=hM
 obtain⟨l,hl⟩:=hof key hok
 have hrun:∃ es' clock',(Instr.mapUpdate t (.map (some (e.β i))) key.val (.int .i64 n)).run Γ.P w = .ok () { w with heap:=w.heap.setIfInBounds (e.β i) (.map es' clock') }∧es'.toList.map (fun x=>(x.key,x.val))=(bu kvs key n).map (fun p=>(p.1.val,Value.int .i64 p.2))∧Stamps es' clock':=by
  rcases map_find K hof hes hkeys hwf hok w with ⟨h1,_,h2⟩|⟨j,x0,n0,h1,h2,h3,h4,_,_⟩
  ·refine⟨es.push ⟨key.val,.int .i64 n,clock⟩,clock + 1,?_,?_,stamps_push hst⟩
   ·simp [Instr.mapUpdate,run_underlying ht,MapKept.run_getObj_map hb,K.check w false hl,h1,MapKept.run_setObj_map _ hb,Result.andThen]
   ·rw [mapSet_new h2,Array.toList_push,List.map_append,List.map_append,hes]
    rfl
  ·have hj2:es[j]? = some x0:=by simpa using h2
   have hjl:j < es.size:=(Array.getElem?_eq_some_iff.1 hj2).1
   refine⟨es.modify j fun x=>{ x with key:=key.val,val:=.int .i64 n },clock,?_,?_,stamps_modify hst fun _=>rfl⟩
   ·have hst:(Instr.keyThatStays (((es[j]?).map (·.key)).getD key.val) key.val).run Γ.P w = .ok key.val w:=by
     rw [hj2]
     show (Instr.keyThatStays x0.key key.val).run Γ.P w=_
     rw [h3]
     exact K.stays w hl
    simp [Instr.mapUpdate,run_underlying ht,MapKept.run_getObj_map hb,K.check w false hl,h1,hst,MapKept.run_setObj_map _ hb,Result.andThen]
   ·rw [mapSet_old hkeys h4,List.map_set,← hes]
    apply List.ext_getElem?
    intro q
    by_cases hq:q=j
    ·subst hq
     simp [hjl]
    ·simp [Ne.symm hq]
 obtain⟨es',clock',hr,hes'⟩:=hrun
 unfold Oper.wp
 simp only [execOp,hvx,hvy,hvu,Sem.run_bind,Sem.run_pure,hr,Result.andThen_ok]
 refine⟨e,?_⟩
 have m2:=m.turn (w':={ w with heap:=w.heap.setIfInBounds (e.β i) (.map es' clock') }) (b':=.map kd (bu kvs key n)) hH (by simp) rfl rfl rfl (fun _=>Nat.le_refl _) (fun c hc hne=>?_) rfl ⟨⟨es',clock',?_,hes'⟩,mapSet_pairs _ _ _ hkeys,fun p hp=>?_⟩
 ·exact m2
 ·have hne':e.β i≠c:=fun h=>hne (by simp [HB.owned,h])
  exact Array.getElem?_setIfInBounds_ne hne'
 ·show (w.heap.setIfInBounds (e.β i) (.map es' clock'))[e.β i]? = _
  simp [hlt]
 ·rcases mapSet_keys key n kvs p hp with h|h
  ·rw [h];exact⟨hok,hnwf⟩
  ·exact hwf p h
end
section
variable {Γ : Ctx} {k : Nat} {L : Sl} {H : Hp} {K : cq} {ops : List Oper} {rest : List Oper} {t t' ty : TypeId} {x y : Operand} {q : Bool}
theorem ds_lookup {kd:Bool} {kvs:List (MK × Int)} {key:MK} {d:Nat} {pos:String} {af:Array Edge} {g:Option (Nat × Bool)} (T:MapT Γ.P t kd) (hx:lookAt H (a8 L x) kd kvs) (hy:keyC (a8 L y)=some key) (hkd:key.kd=kd) (hyo:c9 y=true)
  (hw:bf ops L g=some true) (hd:Nat.blt d Γ.n=true) (hk:DS q Γ ops rest K k ((d,.d (.int .i64 ((mapGet? kvs key).getD 0)))::L) H):DS q Γ ops (⟨some d,.lookup t x y false,ty,pos,af,g⟩::rest) K k L H :=
 il (ev_lookup T hx hy hkd hyo) hw hd hk
theorem ent_mapd {t i:Nat} {kd:Bool} {kvs:List (MK × Int)} {H':Hp} (hL:L.get t = .mp i) (hH:Hp.get H i=some (.map kd kvs)) (hD:delF H i some=some H'):Ent Γ k L H k ((t,.md kd kvs)::L) H':=by
 rw [mg] at hD
 cases hD
 intro e a w m
 obtain⟨m2,hX⟩:=m.del i
 have hmem:=Hp.mem_of hH
 have hown:e.β i∈aw e H:=List.mem_filterMap.2 ⟨_,hmem,rfl⟩
 refine⟨e,m2.toHeap,m2.defers,m2.len,fun t'=>?_⟩
 rw [Sl.get_cons]
 split
 ·rename_i ht
  subst ht
  have hs:=m.slot t
  rw [hL] at hs
  refine⟨e.β i,hs.2,m.toHeap.lt _ hown,fun hx=>?_,(m.heap _ hmem).2⟩
  rcases hx with hx|hx
  ·exact (m.mine _ hown).2 hx
  ·obtain⟨p,hp,hpg⟩:=List.mem_filterMap.1 hx
   have hd:=Hp.del_mem (i:=i) H m.ids p hp
   exact m.owned_ne hd.1 hmem hd.2 hpg rfl
 ·exact m2.slot t'
theorem ds_mapNew (kd:Bool) {d:Nat} {pos:String} {af:Array Edge} {g:Option (Nat × Bool)} (hw:bf ops L g=some true) (hd:Nat.blt d Γ.n=true)
  (hk:DS false Γ ops rest K (k + 1) ((d,.mp k)::L) ((k,.map kd [])::H)):DS false Γ ops (⟨some d,.makeMap t none,ty,pos,af,g⟩::rest) K k L H :=
 dl_op hw ((op_mapNew (f5 k) hd).cast (fe k)) hk
theorem ds_mapSet (i:Nat) {kd:Bool} {kvs:List (MK × Int)} {key:MK} {n:Int} {u:Operand} {H':Hp} {pos:String} {af:Array Edge} {g:Option (Nat × Bool)} (T:MapT Γ.P t kd) (hx:a8 L x = .mp i) (hH:Hp.get H i=some (.map kd kvs)) (hy:keyC (a8 L y)=some key) (hkd:key.kd=kd) (hyo:c9 y=true)
  (hu:a8 L u = .d (.int .i64 n)) (huo:c9 u=true) (hS:setF H i (.map kd (bu kvs key n)) some=some H') (hw:bf ops L g=some true)
  (hk:DS false Γ ops rest K k L H'):DS false Γ ops (⟨none,.mapUpdate t x y u,ty,pos,af,g⟩::rest) K k L H:=by
 rw [ke] at hS
 cases hS
 exact dl_op hw (op_mapSet T hx hH hy hkd hyo hu huo rfl) hk
end
def ka (i:UId):MK:=.pair i.author i.number
theorem keyI_inj {i j:UId} (h:ka i=ka j):i=j:=by
 cases i;cases j
 simp only [ka,MK.pair.injEq] at h
 rw [h.1,h.2]
theorem keyI_eqb (i j:UId):(ka i).eqb (ka j)=i.same j:=by
 rw [Bool.eq_iff_iff,MK.eqb_iff,same_iff]
 exact⟨keyI_inj,fun h=>by rw [h]⟩
def metB (m:List (MK × Int)) (i:UId):Bool:=decide ((mapGet? m (ka i)).getD 0=1)
theorem metB_set (m:List (MK × Int)) (i j:UId):metB (bu m (ka i) 1) j=(i.same j || metB m j):=by
 unfold metB
 rw [mapGet_set,keyI_eqb]
 cases i.same j <;> simp
def underOf (has:List Upd) (i:UId):List UId:=match has.find? fun u=>u.id.same i with
 | some u=>df u
 | none=>[]
theorem underOf_mem {has:List Upd} {i j:UId} (h:j∈underOf has i):∃ u∈has,u.id=i∧j∈df u:=by
 unfold underOf at h
 split at h
 ·rename_i u hf
  exact⟨u,List.mem_of_find?_eq_some hf,same_iff.1 (List.find?_some (p:=fun u:Upd=>u.id.same _) hf),h⟩
 ·cases h
theorem underOf_eq {has:List Upd} (hs:StrU has) {u:Upd} (hu:u∈has):underOf has u.id=df u:=by
 unfold underOf
 split
 ·rename_i v hf
  rw [hs.uniq (List.mem_of_find?_eq_some hf) hu (same_iff.1 (List.find?_some (p:=fun u:Upd=>u.id.same _) hf))]
 ·rename_i hf
  exact absurd (same_iff.2 rfl) (List.find?_eq_none.1 hf u hu)
def ff (has:List Upd):Nat→List (MK × Int)→UId→List (MK × Int)
 | 0,m,_=>m
 | n + 1,m,i=>if hasU has i=false∨metB m i=true then m else (underOf has i).foldl (ff has n) (bu m (ka i) 1)
def leftM (has:List Upd) (m:List (MK × Int)):Nat:=cntR has fun u=>!metB m u.id
def MoreM (m m':List (MK × Int)):Prop:=∀ i,metB m i=true→metB m' i=true
theorem leftM_le {has:List Upd} {m m':List (MK × Int)} (h:MoreM m m'):leftM has m'≤leftM has m:=by
 unfold leftM cntR
 rw [← List.countP_eq_length_filter,← List.countP_eq_length_filter]
 refine List.countP_mono_left fun u _ hu=>?_
 cases hb:metB m u.id with
 | false=>rfl
 | true=>rw [h _ hb] at hu;cases hu
theorem MoreM.set (m:List (MK × Int)) (i:UId):MoreM m (bu m (ka i) 1):=fun j hj=>by rw [metB_set,hj,Bool.or_true]
theorem leftM_set {has:List Upd} {m:List (MK × Int)} {i:UId} (h:hasU has i=true) (hm:metB m i=false):leftM has (bu m (ka i) 1) < leftM has m:=by
 obtain⟨u,hu,rfl⟩:=hasU_iff.1 h
 refine cnt_lt (fun v _ hv=>?_) ⟨u,hu,by rw [metB_set,same_iff.2 rfl];rfl,by rw [hm];rfl⟩
 cases hb:metB m v.id with
 | false=>rfl
 | true=>rw [MoreM.set m _ _ hb] at hv;cases hv
structure Walked (has:List Upd) (m m':List (MK × Int)):Prop where
 more:MoreM m m'
 closed:∀ u∈has,metB m' u.id=true→metB m u.id=false→∀ j∈df u,hasU has j=true→metB m' j=true
theorem Walked.refl (has:List Upd) (m:List (MK × Int)):Walked has m m:=⟨fun _ h=>h,fun u _ h h0=>by rw [h] at h0;cases h0⟩
theorem Walked.trans {has:List Upd} {a b c:List (MK × Int)} (h:Walked has a b) (g:Walked has b c):Walked has a c:=by
 refine⟨fun i hi=>g.more i (h.more i hi),fun u hu h1 h0 j hj hh=>?_⟩
 cases hb:metB b u.id with
 | true=>exact g.more _ (h.closed u hu hb h0 j hj hh)
 | false=>exact g.closed u hu h1 hb j hj hh
theorem walk_all {has:List Upd} {n:Nat} (IH:∀ m i,leftM has m < n→Walked has m (ff has n m i)∧(hasU has i=true→metB (ff has n m i) i=true)) :
  ∀ (l:List UId) (m:List (MK × Int)),leftM has m < n→Walked has m (l.foldl (ff has n) m)∧∀ i∈l,hasU has i=true→metB (l.foldl (ff has n) m) i=true
 | [],m,_=>⟨Walked.refl has m,fun _ h=>by cases h⟩
 | i::l,m,h=>by
  obtain⟨a1,a2⟩:=IH m i h
  obtain⟨b1,b2⟩:=walk_all IH l _ (Nat.lt_of_le_of_lt (leftM_le a1.more) h)
  refine⟨a1.trans b1,fun j hj hh=>?_⟩
  rcases List.mem_cons.1 hj with rfl|hj
  ·exact b1.more _ (a2 hh)
  ·exact b2 j hj hh
theorem walk_done {has:List Upd} (hs:StrU has):∀ (n:Nat) (m:List (MK × Int)) (i:UId),leftM has m < n→Walked has m (ff has n m i)∧(hasU has i=true→metB (ff has n m i) i=true)
 | 0,_,_,h=>absurd h (Nat.not_lt_zero _)
 | n + 1,m,i,h=>by
  unfold ff
  split
  ·rename_i hc
   refine⟨Walked.refl has m,fun hi=>?_⟩
   rcases hc with hc|hc
   ·rw [hi] at hc;cases hc
   ·exact hc
  ·rename_i hc
   have hc1:hasU has i=true:=by cases hx:hasU has i with|true=>rfl|false=>exact absurd (.inl hx) hc
   have hc2:metB m i=false:=by cases hx:metB m i with|false=>rfl|true=>exact absurd (.inr hx) hc
   have hlt:=leftM_set hc1 hc2
   obtain⟨a1,a2⟩:=walk_all (walk_done hs n) (underOf has i) (bu m (ka i) 1) (by omega)
   refine⟨⟨fun j hj=>a1.more j (MoreM.set m i j hj),fun u hu h1 h0 j hj hh=>?_⟩,fun _=>a1.more i (by rw [metB_set,same_iff.2 rfl];rfl)⟩
   by_cases he:u.id=i
   ·subst he
    rw [underOf_eq hs hu] at a2 ⊢
    exact a2 j hj hh
   ·refine a1.closed u hu h1 ?_ j hj hh
    rw [metB_set,h0,Bool.or_false]
    cases hx:i.same u.id with
    | false=>rfl
    | true=>exact absurd (same_iff.1 hx).symm he
theorem walk_sound {has:List Upd} {R:UId→Prop} (hR:∀ u∈has,R u.id→∀ j∈df u,hasU has j=true→R j):∀ (n:Nat) (m:List (MK × Int)) (i:UId),(hasU has i=true→R i)→∀ j,metB (ff has n m i) j=true→metB m j=true∨R j
 | 0,_,_,_,_,h=>.inl h
 | n + 1,m,i,hi,j,h=>by
  unfold ff at h
  split at h
  ·exact .inl h
  ·rename_i hc
   have hc1:hasU has i=true:=by cases hx:hasU has i with|true=>rfl|false=>exact absurd (.inl hx) hc
   have key:∀ (l:List UId) (m:List (MK × Int)),(∀ k∈l,hasU has k=true→R k)→∀ j,metB (l.foldl (ff has n) m) j=true→metB m j=true∨R j:=by
    intro l
    induction l with
    | nil=>intro m _ j h;exact .inl h
    | cons k l ih =>
     intro m hl j h
     rcases ih _ (fun q hq=>hl q (List.mem_cons_of_mem _ hq)) j h with h1|h1
     ·exact walk_sound hR n m k (hl k (List.mem_cons_self ..)) j h1
     ·exact .inr h1
   rcases key _ _ (fun k hk hh=>by
    obtain⟨u,hu,he,hku⟩:=underOf_mem hk
    exact hR u hu (by rw [he];exact hi hc1) k hku hh) j h with h1|h1
   ·rw [metB_set,Bool.or_eq_true] at h1
    rcases h1 with h1|h1
    ·exact .inr (same_iff.1 h1▸hi hc1)
    ·exact .inl h1
   ·exact .inr h1
def behM (has:List Upd) (l:List UId):List (MK × Int):=l.foldl (ff has (has.length + 1)) []
theorem leftM_lt (has:List Upd) (m:List (MK × Int)):leftM has m < has.length + 1:=Nat.lt_succ_of_le (List.length_filter_le _ _)
theorem behM_iff {has:List Upd} (hs:StrU has) (l:List UId) (i:UId):metB (behM has l) i=true↔Reach has l i:=by
 obtain⟨a1,a2⟩:=walk_all (walk_done hs (has.length + 1)) l [] (leftM_lt has [])
 constructor
 ·intro h
  have key:∀ (l':List UId) (m:List (MK × Int)),(∀ k∈l',k∈l)→∀ j,metB (l'.foldl (ff has (has.length + 1)) m) j=true→metB m j=true∨Reach has l j:=by
   intro l'
   induction l' with
   | nil=>intro m _ j h;exact .inl h
   | cons k l' ih =>
    intro m hl j h
    rcases ih _ (fun q hq=>hl q (List.mem_cons_of_mem _ hq)) j h with h1|h1
    ·exact walk_sound (fun u hu hr j hj hh=>.step u hu hr j hj hh) _ m k (fun hk=>.base k (hl k (List.mem_cons_self ..)) hk) j h1
    ·exact .inr h1
  rcases key l [] (fun _ h=>h) i h with h1|h1
  ·cases h1
  ·exact h1
 ·intro h
  induction h with
  | base i h hi=>exact a2 i h hi
  | step u hu _ j hj hh ih=>exact a1.closed u hu ih rfl j hj hh
end Go.Proofs.YtapciiffpnociaaGreat
namespace Go.Proofs.YtapciiffpnociaaGreat
open Go Go.RowKit
open Go.Maps (Keyed)
def int64B (P:Program) (t:TypeId):Bool:=match P.underlying t with
 | some (.int .i64)=>true
 | _=>false
theorem int64B_spec {P:Program} {t:TypeId} (h:int64B P t=true):P.underlying t=some (.int .i64):=by
 unfold int64B at h
 split at h
 ·assumption
 ·cases h
def zero64B (P:Program) (t:TypeId):Bool:=match P.info? t with
 | some i=>match i.zero with
  | some (.int .i64 n)=>decide (n=0)
  | _=>false
 | none=>false
theorem zero64B_spec {P:Program} {t:TypeId} (h:zero64B P t=true) (w:World):(zeroValue t).run P w = .ok (.int .i64 0) w:=by
 unfold zero64B at h
 split at h
 ·rename_i i hi
  split at h
  ·rename_i n hz
   have hn:=of_decide_eq_true h
   subst hn
   simp [zeroValue,typeInfo,hi,hz]
  ·cases h
 ·cases h
def keyPB (P:Program) (k:TypeId):Bool:=match P.underlying k with
 | some (.struct fs)=>match fs.toList with
  | [f0, f1] => fs.all (·.name != "_") && (int64B P f0.type && (int64B P f1.type && (Nat.beq f0.offset 0 && (Nat.beq f1.offset 1 && (Nat.beq (P.cellsOf k) 2 && (Nat.beq (P.cellsOf f0.type) 1 && (Nat.beq (P.cellsOf f1.type) 1 && (Nat.ble 1 P.types.size && (P.keyType k && (P.keyTypeAt 2 k && Nat.blt k P.types.size))))))))))
  | _=>false
 | _=>false
theorem keyPB_spec {P:Program} {k:TypeId} (hl:laidOutB P=true) (h:keyPB P k=true):Keyed P k∧∀ key:MK,key.ok false→∃ l,keyOf P k key.val=some l:=by
 unfold keyPB at h
 split at h
 ·rename_i fs hu
  split at h
  ·rename_i f0 f1 hfs
   simp only [Bool.and_eq_true] at h
   obtain⟨hn,h0,h1,o0,o1,c,c0,c1,hm,hk,hk2,hlt⟩:=h
   have h0:=int64B_spec h0
   have h1:=int64B_spec h1
   have o0:=Nat.eq_of_beq_eq_true o0
   have o1:=Nat.eq_of_beq_eq_true o1
   have c:=Nat.eq_of_beq_eq_true c
   have c0:=Nat.eq_of_beq_eq_true c0
   have c1:=Nat.eq_of_beq_eq_true c1
   have hwide:(match P.underlying k with|some (.array _ _)|some (.struct _)=>true|_=>false)=true:=by rw [hu]
   refine⟨Keyed.of_law (deep_law_laid hl (m:=2) (by decide) (Nat.le_of_ble_eq_true hlt) hk2 hwide),fun key hok=>?_⟩
   cases key with
   | str s=>obtain⟨h,_⟩:=hok;cases h
   | pair a b =>
    obtain⟨_,wa,wb⟩:=hok
    obtain⟨m,hm⟩:∃ m,P.types.size=m + 1:=⟨P.types.size - 1,by have:=Nat.le_of_ble_eq_true hm;omega⟩
    unfold keyOf
    simp only [hu]
    have hfs2:fs.size=2:=by have:=congrArg List.length hfs;simpa using this
    have hform:(MK.pair a b).val.formed P k=true:=by
     unfold Value.formed MK.val
     simp [hu,c]
    rw [hk,hform,Bool.and_self,if_pos rfl,hm]
    refine⟨.string (keyBytes [.int .i64 a,.int .i64 b]),?_⟩
    unfold Program.keyLits
    simp only [hu,MK.val,Value.cells]
    rw [if_pos ⟨by simp [c],hn⟩,hfs,List.mapM_cons,List.mapM_cons,List.mapM_nil]
    simp [o0,o1,c0,c1,Program.keyLits,h0,h1,wa,wb]
  ·cases h
 ·cases h
def mapPB (P:Program) (t:TypeId):Bool:=match P.underlying t with
 | some (.map k e)=>keyPB P k && zero64B P e
 | _=>false
theorem mapT_pair {P:Program} {t:TypeId} (hl:laidOutB P=true) (h:mapPB P t=true):MapT P t false:=by
 unfold mapPB at h
 split at h
 ·rename_i k e hu
  rw [Bool.and_eq_true] at h
  obtain⟨K,ho⟩:=keyPB_spec hl h.1
  exact⟨⟨k,e,hu,K,ho,zero64B_spec h.2⟩⟩
 ·cases h
end Go.Proofs.YtapciiffpnociaaGreat
