/- Several texts in one: GosP DagY GxArg DagZ DagM DagN WirIn DagIn. Condition: none. -/
import Derived.Test.YtapciiffpnociabGreatE01
import Derived.Test.YtapciiffpnociabGreatE15
import Derived.Test.YtapciiffpnociabGreatE03
import Derived.Test.YtapciiffpnociabGreatE10
import Derived.Test.YtapciiffpnociabGreatE12
namespace Go.Proofs.YtapciiffpnociabGreat
theorem RplOk.nodup {A:List Upd} {r:Rpl} (h:RplOk A r):r.both.Nodup :=
 List.nodup_append.2 ⟨h.sh.nodup,h.sw.nodup,fun u hu v hv he=>h.apart u hu v hv (by rw [he])⟩
structure ToldOk (A:List Upd) (r:Rpl):Prop where
 ok:RplOk A r
 nodup:A.Nodup
theorem ToldOk.len {A:List Upd} {r:Rpl} (h:ToldOk A r):A.length=r.both.length :=
 ((List.perm_ext_iff_of_nodup h.nodup h.ok.nodup).2 fun u=>(h.ok.all u).trans List.mem_append.symm).length_eq
theorem ToldOk.has {A:List Upd} {r:Rpl} (h:ToldOk A r) (i:UId):hasU A i=hasU r.both i:=hasU_congr (fun u=>(h.ok.all u).trans List.mem_append.symm) i
theorem ToldOk.self {r:Rpl} (h:RplOk r.both r):ToldOk r.both r:=⟨h,h.nodup⟩
theorem ToldOk.step {A:List Upd} {r o:Rpl} (h:ToldOk A r) {u:Upd} (hu:hasU r.both u.id=false) (ho:RplOk (u::r.both) o):ToldOk (u::A) o:=by
 refine⟨ho.congr fun v=>?_,List.nodup_cons.2 ⟨fun hm=>?_,h.nodup⟩⟩
 ·rw [List.mem_cons,List.mem_cons,h.ok.all,List.mem_append]
 ·rw [← h.has,← Bool.not_eq_true,hasU_iff] at hu
  exact hu ⟨u,hm,rfl⟩
def ToldIs (r:Rpl) (l:List Upd) (o:Option Rpl):Prop :=
 match tellA r.both l,o with
 | none,none=>True
 | some A,some o=>ToldOk A o
 | _,_=>False
theorem ToldIs.unique {r:Rpl} {l:List Upd} {o p:Option Rpl} (h:ToldIs r l o) (g:ToldIs r l p):o=p:=by
 unfold ToldIs at h g
 revert h g
 cases tellA r.both l with
 | none=>cases o with
  | none=>cases p with
   | none=>exact fun _ _=>rfl
   | some p=>exact fun _ g=>g.elim
  | some o=>exact fun h=>h.elim
 | some A=>cases o with
  | none=>exact fun h=>h.elim
  | some o=>cases p with
   | none=>exact fun _ g=>g.elim
   | some p=>exact fun h g=>by rw [h.ok.unique g.ok]
open Go Go.RowKit
theorem firstL_of0 {α:Type} {f:α→Int}:∀ {l:List α},(∀ x∈l,f x=0)→firstL f l=0
 | [],_=>rfl
 | x::l,h=>by
  unfold firstL
  rw [if_neg (by rw [h x (List.mem_cons_self ..)];simp)]
  exact firstL_of0 fun y hy=>h y (List.mem_cons_of_mem _ hy)
theorem checkR_zero {r:Rpl} (h:RplOk r.both r) (hl:r.has.length + r.waits.length≤200) (hc:∀ u∈r.both,checkU u=0):checkR r=0:=by
 have hz:firstL checkU (r.has++r.waits)=0:=firstL_of0 hc
 have hr:∀ u∈r.has,readyU r.has u=true:=fun u hu=>h.ready hu
 have hrb:roundB r.has=false:=by
  rw [← Bool.not_eq_true,roundB_iff h.sh hr]
  rintro⟨u,hu,hd⟩
  exact hd (h.der (h.had u hu))
 unfold checkR
 rw [if_neg (by omega),if_neg (by simp [hz]),str_rises h.sh,str_rises h.sw,hrb]
 have h1:(r.waits.any fun u=>hasU r.has u.id)=false:=List.any_eq_false.2 fun u hu hh=>by
  obtain⟨v,hv,he⟩:=hasU_iff.1 hh
  exact h.apart v hv u hu he
 have h2:(r.has.any fun u=>!readyU r.has u)=false:=List.any_eq_false.2 fun u hu=>by rw [hr u hu];simp
 have h3:(r.waits.any fun u=>readyU r.has u)=false:=List.any_eq_false.2 fun u hu=>by rw [h.not_ready hu];simp
 rw [h1,h2,h3]
 simp
theorem addIs_new {r:Rpl} {u:Upd} {o:Rpl} {e:Int} (h:AddIs r u o e) (h0:addE r u=0) (hn:hasU r.both u.id=false) (hl:r.both.length < 200) {s:Rpl} (hs:RplOk (u::r.both) s):o=s∧e=0:=by
 rcases h with ⟨h1,_⟩|⟨_,h1,_⟩|⟨_,_,h1,_⟩|⟨_,_,_,h1,h2⟩
 ·exact absurd h0 h1
 ·rw [hn] at h1;cases h1
 ·omega
 ·exact⟨h1.unique hs,h2⟩
theorem rpl0_ok:RplOk [] ⟨[],[]⟩:=⟨.nil,.nil,fun u=>by simp,fun u hu=>by simp at hu,fun u hu=>by simp at hu,fun u hu=>by simp at hu⟩
theorem second_waits:readyU [] secondU=false:=by kernel_rfl
theorem rpl1_ok:RplOk [secondU] ⟨[],[secondU]⟩:=by
 have g:RplGo [secondU] ⟨[],[secondU]⟩:=rpl0_ok.more (u:=secondU) rfl rfl
 exact g.done fun u hu=>by rw [List.mem_singleton.1 hu];exact second_waits
theorem rpl2_ok:RplOk [firstU,secondU] ⟨[firstU,secondU],[]⟩:=by
 have g1:RplGo [firstU,secondU] ⟨[],[firstU,secondU]⟩:=rpl1_ok.more (u:=firstU) (by kernel_rfl) (by kernel_rfl)
 have g2:RplGo [firstU,secondU] ⟨[firstU],[secondU]⟩:=g1.moveAt (a:=[]) (b:=[secondU]) (by kernel_rfl)
 have g3:RplGo [firstU,secondU] ⟨[firstU,secondU],[]⟩:=g2.moveAt (a:=[]) (b:=[]) (by kernel_rfl)
 exact g3.done fun u hu=>by simp at hu
theorem add1_ok:addE ⟨[],[]⟩ secondU=0:=by kernel_rfl
theorem add2_ok:addE ⟨[],[secondU]⟩ firstU=0:=by kernel_rfl
theorem check2_ok:checkR ⟨[firstU,secondU],[]⟩=0:=by kernel_rfl
theorem tops2_is:(topsU [firstU,secondU]).map Upd.id=[⟨1,1⟩]:=by kernel_rfl
theorem facts2_is:setF' ((keptU [firstU,secondU]).flatMap Upd.says)=[⟨0,[4,5]⟩]:=by kernel_rfl
def addU (A:List Upd) (u:Upd):List Upd:=if hasU A u.id then A else u::A
def addL (A us:List Upd):List Upd:=us.foldl addU A
def ApartU (l:List Upd):Prop:=l.Pairwise fun a b=>a.id≠b.id
theorem addL_mem:∀ {us A:List Upd},ApartU us→∀ v,v∈addL A us↔v∈A∨(v∈us∧hasU A v.id=false)
 | [],A,_,v=>by unfold addL;simp
 | u::us,A,h,v=>by
  obtain⟨h1,h2⟩:=List.pairwise_cons.1 h
  have ih:=addL_mem (A:=addU A u) h2 v
  have e:addL A (u::us)=addL (addU A u) us:=rfl
  rw [e,ih]
  unfold addU
  cases hb:hasU A u.id with
  | true =>
   rw [if_pos rfl]
   constructor
   ·rintro (h|⟨h,g⟩)
    ·exact .inl h
    ·exact .inr ⟨List.mem_cons_of_mem _ h,g⟩
   ·rintro (h|⟨h,g⟩)
    ·exact .inl h
    ·rcases List.mem_cons.1 h with rfl|h
     ·rw [hb] at g;cases g
     ·exact .inr ⟨h,g⟩
  | false =>
   rw [if_neg (by simp)]
   have hc:∀ i,hasU (u::A) i=(u.id.same i || hasU A i):=fun i=>by unfold hasU;rw [List.any_cons]
   constructor
   ·rintro (h|⟨h,g⟩)
    ·rcases List.mem_cons.1 h with rfl|h
     ·exact .inr ⟨List.mem_cons_self ..,hb⟩
     ·exact .inl h
    ·rw [hc,Bool.or_eq_false_iff] at g
     exact .inr ⟨List.mem_cons_of_mem _ h,g.2⟩
   ·rintro (h|⟨h,g⟩)
    ·exact .inl (List.mem_cons_of_mem _ h)
    ·rcases List.mem_cons.1 h with rfl|h
     ·exact .inl (List.mem_cons_self ..)
     ·refine .inr ⟨h,?_⟩
      rw [hc,g,Bool.or_false,← Bool.not_eq_true,same_iff]
      exact h1 v h
theorem addL_len:∀ (us A:List Upd),(addL A us).length≤A.length + us.length
 | [],_=>Nat.le_refl _
 | u::us,A=>by
  have h:=addL_len us (addU A u)
  have e:addL A (u::us)=addL (addU A u) us:=rfl
  have:(addU A u).length≤A.length + 1:=by unfold addU;split <;> simp
  rw [e,List.length_cons]
  omega
theorem addL_take {us:List Upd} {A:List Upd} {i:Nat} (hi:i < us.length):addL A (us.take (i + 1))=addU (addL A (us.take i)) us[i]:=by
 unfold addL
 rw [List.take_succ_eq_append_getElem hi,List.foldl_append]
 rfl
theorem addU_ok {A:List Upd} {u:Upd} (h:∀ v∈A,checkU v=0) (hu:checkU u=0):∀ v∈addU A u,checkU v=0:=by
 intro v hv
 unfold addU at hv
 split at hv
 ·exact h v hv
 ·rcases List.mem_cons.1 hv with rfl|hv
  ·exact hu
  ·exact h v hv
theorem add_step {A:List Upd} {r:Rpl} (h:ToldOk A r) (hc:∀ v∈A,checkU v=0) (hl:A.length < 200) {u:Upd} (hu:checkU u=0) {o:Rpl} {e:Int} (ho:AddIs r u o e):e=0∧ToldOk (addU A u) o:=by
 have hlen:=h.len
 have hbl:r.both.length=r.has.length + r.waits.length:=List.length_append
 have hr:checkR r=0:=checkR_zero h.ok.self (by omega) fun v hv=>hc v ((h.ok.all v).2 (List.mem_append.1 hv))
 have h0:addE r u=0:=by unfold addE;rw [if_pos hr];exact hu
 have hh:=h.has u.id
 unfold addU
 rcases ho with ⟨h1,_⟩|⟨_,h1,rfl,h2⟩|⟨_,_,h1,_⟩|⟨_,h1,_,h2,h3⟩
 ·exact absurd h0 h1
 ·rw [if_pos (by rw [hh];exact h1)]
  exact⟨h2,h⟩
 ·omega
 ·rw [if_neg (by rw [hh,h1];simp)]
  exact⟨h3,h.step h1 h2⟩
theorem told_check {A:List Upd} {r:Rpl} (h:ToldOk A r) (hc:∀ v∈A,checkU v=0) (hl:A.length≤200):checkR r=0:=by
 have hlen:=h.len
 have hbl:r.both.length=r.has.length + r.waits.length:=List.length_append
 exact checkR_zero h.ok.self (by omega) fun v hv=>hc v ((h.ok.all v).2 (List.mem_append.1 hv))
end Go.Proofs.YtapciiffpnociabGreat
namespace Go.Proofs.YtapciiffpnociabGreat
open Go Go.RowKit
theorem FnP.args {dr:Bool} {P:Program} {τ:List (Nat × TI)} {τok:TabOk P τ} {f:FuncId} {args args':List SV} {R:SV→Prop} (hc:FnP dr P τ τok f args R) (h:∀ X e w vs,RelL X e w args' vs→RelL X e w args vs):FnP dr P τ τok f args' R :=
 ⟨hc.1,fun O e w vs hH hr=>hc.2 O e w vs hH (h _ _ _ _ hr)⟩
theorem nil_rel {X e w} {es:Nat} {v:Value} (h:Rel X e w .nils v):Rel X e w (.d (.slice es [])) v:=by
 rw [show v = .slice none 0 0 from h]
 exact .nil
theorem agg2_rel {X e w} {p q:Nat} {v:Value} (h:Rel X e w (.agg [.nils,.nils]) v):Rel X e w (.agg [.d (.slice p []),.d (.slice q [])]) v:=by
 obtain⟨us,hv,hr⟩:=h
 match us,hr with
 | [a,b],⟨h1,h2,_⟩=>exact⟨[a,b],hv,nil_rel h1,nil_rel h2,trivial⟩
 | [],h=>exact h.elim
 | [_],⟨_,h⟩=>exact h.elim
 | _::_::_::_,⟨_,_,h⟩=>exact h.elim
theorem FnP.agg2 {dr:Bool} {P:Program} {τ:List (Nat × TI)} {τok:TabOk P τ} {f:FuncId} {p q:Nat} {args:List SV} {R:SV→Prop} (hc:FnP dr P τ τok f (.agg [.d (.slice p []),.d (.slice q [])]::args) R):FnP dr P τ τok f (.agg [.nils,.nils]::args) R :=
 hc.args fun _ _ _ vs h=>match vs,h with
  | _::_,⟨h1,h2⟩=>⟨agg2_rel h1,h2⟩
  | [],h=>h.elim
attribute [local irreducible] DW DS DL DQ Ev FnOk FnP thenD inBlockD DT
set_option maxHeartbeats 8000000 in
theorem sameIdsX_fn (a b:List UId):Fn 34 [.d (.slice 2 (a.map encId)),.d (.slice 2 (b.map encId))] (fun r=>r = .d (.bool (sameL UId.same a b))):=by
 refine fnp_enter' _ Tryz.func34 rfl rfl (by kernel_rfl) ?_
 intro O w0 E0 β0
 have w:=sameIds_fn a b
 repeat' (first|refine z0 ?_|apply ds_nil|apply dw_seq2|refine z16 ?_|apply dw_ret|apply thenD_n|refine z21 ?_ (hc:=by apply w)|fail)
 exact ret_b rfl rfl
set_option maxHeartbeats 8000000 in
theorem dagBegun_fn:Fn 7 [] (fun r=>r = .d (.bool true)):=by
 refine fnp_enter' _ Tryz.func7 rfl rfl (by kernel_rfl) ?_
 intro O w0 E0 β0
 have w1:Fn 14 [elRpl ⟨[],[]⟩,elUpd secondU] (fun res=>res = .tup [elRpl ⟨[],[secondU]⟩,.d (.int .i64 0)]):=FnP.imp (dadd_fn ⟨[],[]⟩ secondU (by decide) (by decide)) (by
  rintro _ ⟨o,e,h,rfl⟩
  obtain⟨rfl,rfl⟩:=addIs_new h add1_ok rfl (by decide) rpl1_ok
  rfl)
 have w1:=FnP.agg2 w1
 have w2:Fn 14 [elRpl ⟨[],[secondU]⟩,elUpd firstU] (fun res=>res = .tup [elRpl ⟨[firstU,secondU],[]⟩,.d (.int .i64 0)]):=FnP.imp (dadd_fn ⟨[],[secondU]⟩ firstU (by decide) (by decide)) (by
  rintro _ ⟨o,e,h,rfl⟩
  obtain⟨rfl,rfl⟩:=addIs_new h add2_ok (by kernel_rfl) (by decide) rpl2_ok
  rfl)
 have w3:=dheads_fn ⟨[firstU,secondU],[]⟩ (by decide) (by decide)
 have w4:=dfacts_fn ⟨[firstU,secondU],[]⟩ (by decide) (by decide)
 have w5:=dcheck_fn ⟨[firstU,secondU],[]⟩ (by decide) (by decide)
 rw [check2_ok,if_pos rfl,tops2_is] at w3
 rw [check2_ok,if_pos rfl,facts2_is] at w4
 rw [check2_ok] at w5
 have w6:=sameUpdates_fn [firstU,secondU] [firstU,secondU]
 rw [sameL_refl Upd.same_refl] at w6
 have w7:=sameIdsX_fn [⟨1,1⟩] [⟨1,1⟩]
 rw [sameL_refl UId.same_refl] at w7
 have w8:=sameFacts_fn [⟨0,[4,5]⟩] [⟨0,[4,5]⟩]
 rw [sameL_refl (p:=Fct.same) (fun x=>(fsame_iff x x).2 rfl)] at w8
 have w9:=fact_fn 0 [4,5]
 repeat' (first|refine z0 ?_|apply ds_nil|refine z5 ?_|refine z6 ?_|refine z7 ?_|refine z10 ?_|refine z11 ?_|apply dw_seq2|refine z16 ?_|refine z20 ?_|apply dw_ret|apply thenD_n|refine z22 ?_ (hc:=by apply first_fn)|refine z21 ?_ (hc:=by apply second_fn)|refine z22 ?_ (hc:=by apply second_fn)|refine z21 ?_ (hc:=by apply w1)|refine z22 ?_ (hc:=by apply w2)|refine z21 ?_ (hc:=by apply w3)|refine z21 ?_ (hc:=by apply w4)|refine z22 ?_ (hc:=by apply w5)|refine z22 ?_ (hc:=by apply w6)|refine z22 ?_ (hc:=by apply w7)|refine z22 ?_ (hc:=by apply w8)|refine z22 ?_ (hc:=by apply w9)|refine z1 ?_|refine z3 ?_|fail)
 exact ret_b rfl rfl
end Go.Proofs.YtapciiffpnociabGreat
namespace Go.Proofs.YtapciiffpnociabGreat
open Go Go.RowKit
theorem addIs_one (r:Rpl) (u:Upd):∃ s e,AddIs r u s e∧∀ o f,AddIs r u o f→o=s∧f=e:=by
 by_cases h0:addE r u=0
 ·have hr:checkR r=0:=Classical.byContradiction fun h=>by unfold addE at h0;rw [if_neg h] at h0;exact h h0
  obtain⟨_,_,hok⟩:=checkR_ok hr
  cases hb:hasU r.both u.id with
  | true =>
   refine⟨r,0,.inr (.inl ⟨h0,hb,rfl,rfl⟩),fun o f h=>?_⟩
   rcases h with ⟨h1,_⟩|⟨_,_,h1,h2⟩|⟨_,h1,_⟩|⟨_,h1,_⟩
   ·exact absurd h0 h1
   ·exact⟨h1,h2⟩
   ·rw [hb] at h1;cases h1
   ·rw [hb] at h1;cases h1
  | false =>
   by_cases hl:200≤r.both.length
   ·refine⟨⟨[],[]⟩,2,.inr (.inr (.inl ⟨h0,hb,hl,rfl,rfl⟩)),fun o f h=>?_⟩
    rcases h with ⟨h1,_⟩|⟨_,h1,_⟩|⟨_,_,_,h1,h2⟩|⟨_,_,h1,_⟩
    ·exact absurd h0 h1
    ·rw [hb] at h1;cases h1
    ·exact⟨h1,h2⟩
    ·omega
   ·obtain⟨_,s,hs⟩:=hok.add hb
    exact⟨s,0,.inr (.inr (.inr ⟨h0,hb,by omega,hs,rfl⟩)),fun o f h=>addIs_new h h0 hb (by omega) hs⟩
 ·refine⟨⟨[],[]⟩,addE r u,.inl ⟨h0,rfl,rfl⟩,fun o f h=>?_⟩
  rcases h with ⟨_,h1,h2⟩|⟨h1,_⟩|⟨h1,_⟩|⟨h1,_⟩
  ·exact⟨h1,h2⟩
  ·exact absurd h1 h0
  ·exact absurd h1 h0
  ·exact absurd h1 h0
theorem dadd_one {r:Rpl} {u:Upd} {s:Rpl} {e:Int} (hr:∀ o f,AddIs r u o f→o=s∧f=e) (h1:r.has.length≤4398046511104) (h2:r.waits.length≤4398046511104):Fn 14 [elRpl r,elUpd u] (fun res=>res = .tup [elRpl s,.d (.int .i64 e)]) :=
 FnP.imp (dadd_fn r u h1 h2) (by
  rintro _ ⟨o,f,h,rfl⟩
  obtain⟨rfl,rfl⟩:=hr o f h
  rfl)
attribute [local irreducible] DW DS DL DQ Ev FnOk FnP thenD inBlockD DT
def pickU (l:List Upd):List Upd:=l.foldl (fun A u=>if checkU u=0∧hasU A u.id=false then A++[u] else A) []
theorem pickU_take {l:List Upd} {i:Nat} (hi:i < l.length):pickU (l.take (i + 1))=if checkU l[i]=0∧hasU (pickU (l.take i)) l[i].id=false then pickU (l.take i)++[l[i]] else pickU (l.take i):=by
 unfold pickU
 rw [List.take_succ_eq_append_getElem hi,List.foldl_append]
 rfl
theorem apart_snoc {A:List Upd} {u:Upd} (h:ApartU A) (hu:hasU A u.id=false):ApartU (A++[u]) :=
 List.pairwise_append.2 ⟨h,List.pairwise_singleton _ _,fun a ha b hb he=>by
  rw [List.mem_singleton] at hb
  subst hb
  rw [← Bool.not_eq_true,hasU_iff] at hu
  exact hu ⟨a,ha,he⟩⟩
theorem pickU_ok:∀ (l:List Upd) (i:Nat),i≤l.length→ApartU (pickU (l.take i))∧(∀ u∈pickU (l.take i),checkU u=0)∧(pickU (l.take i)).length≤i:=by
 intro l i
 induction i with
 | zero=>intro _;unfold pickU;exact⟨by rw [List.take_zero];exact .nil,fun u hu=>by simp at hu,by simp⟩
 | succ i ih =>
  intro hi
  obtain⟨h1,h2,h3⟩:=ih (by omega)
  rw [pickU_take hi]
  split
  ·rename_i hc
   refine⟨apart_snoc h1 hc.2,fun u hu=>?_,by rw [List.length_append,List.length_singleton];omega⟩
   rcases List.mem_append.1 hu with hu|hu
   ·exact h2 u hu
   ·rw [List.mem_singleton] at hu;rw [hu];exact hc.1
  ·exact⟨h1,h2,by omega⟩
theorem nodup_len:∀ {B A:List Upd},B.Nodup→(∀ u∈B,u∈A)→B.length≤A.length
 | [],_,_,_=>Nat.zero_le _
 | x::B,A,hn,hs=>by
  obtain⟨h1,h2⟩:=List.nodup_cons.1 hn
  obtain⟨p,q,rfl⟩:=List.append_of_mem (hs x (List.mem_cons_self ..))
  have h3:=nodup_len (A:=p++q) h2 fun u hu=>by
   rcases List.mem_append.1 (hs u (List.mem_cons_of_mem _ hu)) with h|h
   ·exact List.mem_append_left _ h
   ·rcases List.mem_cons.1 h with rfl|h
    ·exact absurd hu h1
    ·exact List.mem_append_right _ h
  simp only [List.length_append,List.length_cons] at h3 ⊢
  omega
structure OthOk (A B:List Upd):Prop where
 apart:ApartU B
 sub:∀ u∈B,u∈A
theorem OthOk.put {A B:List Upd} (h:OthOk A B) {u:Upd} (hu:u∈A) (hn:hasU B u.id=false):OthOk A (B++[u]) :=
 ⟨apart_snoc h.apart hn,fun v hv=>by
  rcases List.mem_append.1 hv with hv|hv
  ·exact h.sub v hv
  ·rw [List.mem_singleton] at hv;rw [hv];exact hu⟩
theorem ApartU.nodup {A:List Upd} (h:ApartU A):A.Nodup:=h.imp fun h he=>h (by rw [he])
theorem ApartU.uniq:∀ {A:List Upd},ApartU A→∀ {u v:Upd},u∈A→v∈A→u.id=v.id→u=v
 | [],_,_,_,h,_,_=>by simp at h
 | x::l,hs,u,v,hu,hv,he=>by
  obtain⟨h1,h2⟩:=List.pairwise_cons.1 hs
  rcases List.mem_cons.1 hu with hu'|hu2 <;> rcases List.mem_cons.1 hv with hv'|hv2
  ·rw [hu',hv']
  ·exact absurd (by rw [← hu',he]) (h1 v hv2)
  ·exact absurd (by rw [← hv',he]) (h1 u hu2)
  ·exact ApartU.uniq h2 hu2 hv2 he
theorem OthOk.len {A B:List Upd} (h:OthOk A B):B.length≤A.length :=
 nodup_len h.apart.nodup h.sub
theorem OthOk.all {A B:List Upd} (h:OthOk A B) (hA:ApartU A) (ha:∀ u∈A,hasU B u.id=true):(∀ u,u∈B↔u∈A)∧B.length=A.length:=by
 have hm:∀ u,u∈B↔u∈A:=fun u=>⟨h.sub u,fun hu=>by
  obtain⟨v,hv,he⟩:=hasU_iff.1 (ha u hu)
  rw [← hA.uniq (h.sub v hv) hu he]
  exact hv⟩
 exact⟨hm,((List.perm_ext_iff_of_nodup h.apart.nodup hA.nodup).2 hm).length_eq⟩
theorem added_same {r a b:Rpl} {A B:List Upd} (hA:ApartU A) (hB:ApartU B) (hm:∀ u,u∈B↔u∈A) (ha:ToldOk (addL r.both A) a) (hb:ToldOk (addL r.both B) b):a=b :=
 ha.ok.unique (hb.ok.congr fun u=>by rw [addL_mem hA,addL_mem hB,hm])
theorem addL_has {A us:List Upd} (h:ApartU us) {u:Upd} (hu:u∈us):hasU (addL A us) u.id=true:=by
 cases hb:hasU A u.id with
 | true =>
  obtain⟨v,hv,he⟩:=hasU_iff.1 hb
  exact hasU_iff.2 ⟨v,(addL_mem h v).2 (.inl hv),he⟩
 | false=>exact hasU_iff.2 ⟨u,(addL_mem h u).2 (.inr ⟨hu,hb⟩),rfl⟩
theorem addIs_old {r:Rpl} {u:Upd} {s:Rpl} {e:Int} (h:AddIs r u s e) (h0:addE r u=0) (hb:hasU r.both u.id=true):s=r∧e=0:=by
 rcases h with ⟨h1,_⟩|⟨_,_,h1,h2⟩|⟨_,h1,_⟩|⟨_,h1,_⟩
 ·exact absurd h0 h1
 ·exact⟨h1,h2⟩
 ·rw [hb] at h1;cases h1
 ·rw [hb] at h1;cases h1
set_option maxHeartbeats 8000000 in
theorem dagAny_fn (r:Rpl) (l:List Upd) (order:List Int) (h1:r.has.length≤4398046511104) (h2:r.waits.length≤4398046511104) (h3:l.length≤4398046511104):Fn 5 [elRpl r,.d (.slice 5 (l.map encUpd)),.d (.slice 1 (order.map encI))] (fun res=>res = .d (.bool true)):=by
 refine fnp_enter' _ Tryz.func5 rfl rfl (by kernel_rfl) ?_
 intro O w0 E0 β0
 have lh:(r.has.map encUpd).length=r.has.length:=List.length_map _
 have lw:(r.waits.map encUpd).length=r.waits.length:=List.length_map _
 have ll:(l.map encUpd).length=l.length:=List.length_map _
 have lo:(order.map encI).length=order.length:=List.length_map _
 have w1:=rcheckR_fn r h1 h2
 refine dw_len_map (t:=2) rfl fun hob=>?_
 by_cases hr:checkR r=0
 ·by_cases hf:200 < r.has.length + r.waits.length + l.length
  ·rw [hr] at w1
   repeat' (first|refine z0 ?_|apply ds_nil|apply dw_seq2|refine z16 ?_|apply dw_block|apply dw_skip|apply dw_ret|refine z19 ?_|apply thenD_n|apply thenD_r|refine z21 ?_ (hc:=by apply w1)|refine z21 ?_ (hc:=by apply dagBegun_fn)|refine z1 ?_|(refine z23 ?_ ?_ <;> intro hg)|fail)
   all_goals try (exfalso;omega)
   exact ret_b rfl rfl
  ·rw [hr] at w1
   repeat' (first|refine z0 ?_|apply ds_nil|apply dw_seq2|refine z16 ?_|apply dw_block|apply dw_skip|refine z19 ?_|apply thenD_n|refine z21 ?_ (hc:=by apply w1)|refine z21 ?_ (hc:=by apply dagBegun_fn)|refine z1 ?_|(refine z23 ?_ ?_ <;> intro hg)|fail)
   all_goals try (exfalso;omega)
   refine dw_ent (ent_nilrow (t:=7) 35 5 rfl) ?_
   refine ds_loop (ι:=Nat) (fun i=>⟨2,[(1,.d (.slice 5 (l.map encUpd))),(2,.d (.slice 1 (order.map encI))),(3,.loc 0 0),(7,.row 1),(8,.d (.int .i64 i))],[(0,rplB r),(1,.row 35 5 ((pickU (l.take i)).map encUpd))]⟩)
    (fun i=>i≤l.length) (fun i=>l.length - i) 0 (Nat.zero_le _) (ent_ren id ⟨rfl,rfl,rfl,rfl,rfl,trivial⟩ ⟨rfl,rfl,trivial⟩ rfl rfl rfl rfl rfl rfl) ?_
   clear w1
   intro i hle
   dsimp only at hle ⊢
   obtain⟨p1,p2,p3⟩:=pickU_ok l i hle
   by_cases hi:i < l.length
   ·have hst:=pickU_take hi
    have w2:=checkUpdate_fn l[i]
    by_cases hc:checkU l[i]=0
    ·have w3:=placeOf_fn (pickU (l.take i)) l[i].id (by omega)
     have hd:=hasU_idx (pickU (l.take i)) l[i].id
     obtain⟨A,hA⟩:∃ A,A=pickU (l.take i):=⟨_,rfl⟩
     rw [← hA] at w3 hst p1 p2 p3 hd
     rw [hc] at w2
     have lA:(A.map encUpd).length=A.length:=List.length_map _
     rw [← hA]
     repeat' (first|refine z0 ?_|apply ds_nil|apply dw_seq2|refine z16 ?_|apply dw_block|apply dw_skip|apply dw_exit|apply thenD_n|apply thenD_e|refine z17 ?_|refine z21 ?_ (hc:=by apply w2)|(refine z23 ?_ ?_ <;> intro hg)|fail)
     all_goals try (exfalso;omega)
     refine ds_callS 1 w3 rfl rfl (by rintro _ rfl;rfl) rfl rfl rfl rfl ?_
     rintro _ rfl
     cases hb:hasU A l[i].id with
     | true =>
      rw [hb] at hd hst
      rw [if_neg (by simp)] at hst
      have hd:=of_decide_eq_false hd
      repeat' (first|refine z0 ?_|apply ds_nil|refine z16 ?_|apply dw_skip|apply thenD_n|apply inB_n|refine z4 ?_|refine z2 ?_|(refine z23 ?_ ?_ <;> intro hg)|fail)
      all_goals try (exfalso;omega)
      exact⟨i + 1,hi,ent_ren id ⟨rfl,rfl,rfl,rfl,rfl,trivial⟩ ⟨rfl,by rw [hst];rfl,trivial⟩ rfl rfl rfl rfl rfl rfl,by omega⟩
     | false =>
      rw [hb] at hd hst
      rw [if_pos ⟨hc,rfl⟩] at hst
      have hd:=of_decide_eq_true hd
      repeat' (first|refine z0 ?_|apply ds_nil|refine z16 ?_|apply dw_skip|apply thenD_n|apply inB_n|refine z4 ?_|refine z2 ?_|(refine z23 ?_ ?_ <;> intro hg)|fail)
      all_goals try (exfalso;omega)
      exact⟨i + 1,hi,ent_ren (fun j=>match j with|1=>2|j=>j) ⟨rfl,rfl,rfl,rfl,rfl,trivial⟩ ⟨rfl,by rw [hst,List.map_append];rfl,trivial⟩ rfl rfl rfl rfl rfl rfl,by omega⟩
    ·rw [if_neg (fun h=>hc h.1)] at hst
     repeat' (first|refine z0 ?_|refine z12 ?_|apply ds_nil|apply dw_seq2|refine z16 ?_|apply dw_block|apply dw_skip|apply dw_exit|refine z19 ?_|apply thenD_n|apply thenD_e|apply inB_n|refine z17 ?_|refine z21 ?_ (hc:=by apply w2)|(refine z23 ?_ ?_ <;> intro hg)|((fail_if_success (apply ds_known;exact rfl));apply ds_guardP;exact rfl;exact rfl;exact rfl;all_goals intro hg))
     all_goals try (exfalso;omega)
     exact⟨i + 1,hi,ent_ren id ⟨rfl,rfl,rfl,rfl,rfl,trivial⟩ ⟨rfl,by rw [hst];rfl,trivial⟩ rfl rfl rfl rfl rfl rfl,by omega⟩
   ·rw [List.take_of_length_le (by omega)] at p1 p2 p3 ⊢
    obtain⟨A,hA⟩:∃ A,A=pickU l:=⟨_,rfl⟩
    rw [← hA] at p1 p2 p3 ⊢
    have lA:(A.map encUpd).length=A.length:=List.length_map _
    clear hA
    repeat' ((fail_if_success (apply dw_stopS 11));(first|refine z0 ?_|apply ds_nil|apply dw_seq2|refine z16 ?_|apply dw_block|apply dw_skip|apply dw_exit|apply thenD_n|apply thenD_e|refine z17 ?_|(refine z23 ?_ ?_ <;> intro hg)|fail))
    all_goals try (exfalso;omega)
    refine dw_ent (ent_seal 7 rfl rfl rfl) ?_
    have hAl:A.length≤200:=by omega
    have rl:A.length≤l.length:=by omega
    repeat' (first|refine z0 ?_|apply ds_nil|apply dw_seq2|refine z16 ?_|apply dw_block|apply thenD_n)
    refine dw_ent (ent_nilrow (t:=9) 35 5 rfl) ?_
    repeat' fail
    refine ds_loop (ι:=Nat × List Upd) (fun x=>⟨2,[(2,.d (.slice 1 (order.map encI))),(3,.loc 0 0),(7,.d (.slice 5 (A.map encUpd))),(9,.row 1),(10,.d (.int .i64 x.1))],[(0,rplB r),(1,.row 35 5 (x.2.map encUpd))]⟩)
     (fun x=>x.1≤order.length∧OthOk A x.2) (fun x=>order.length - x.1) (0,[]) ⟨Nat.zero_le _,.nil,fun u hu=>by simp at hu⟩ (ent_ren (fun j=>match j with|1=>2|j=>j) ⟨rfl,rfl,rfl,rfl,rfl,trivial⟩ ⟨rfl,rfl,trivial⟩ rfl rfl rfl rfl rfl rfl) ?_
    clear hi hle p3
    rintro⟨i,B⟩ ⟨g1,g2⟩
    dsimp only at g1 g2 ⊢
    have lB:(B.map encUpd).length=B.length:=List.length_map _
    have hBl:=g2.len
    by_cases hi:i < order.length
    ·have stay:(i + 1,B).1≤order.length∧OthOk A (i + 1,B).2:=⟨hi,g2⟩
     by_cases hin:0≤order[i]∧order[i] < A.length
     ·have hnA:order[i].toNat < A.length:=by omega
      have w3:=placeOf_fn B A[order[i].toNat].id (by omega)
      have hd:=hasU_idx B A[order[i].toNat].id
      repeat' (first|refine z0 ?_|refine z12 ?_|apply ds_nil|apply dw_seq2|refine z16 ?_|apply dw_block|apply dw_skip|apply dw_exit|refine z19 ?_|apply thenD_n|apply thenD_e|apply inB_n|refine z17 ?_|(refine z23 ?_ ?_ <;> intro hg)|((fail_if_success (apply ds_known;exact rfl));apply ds_guardP;exact rfl;exact rfl;exact rfl;all_goals intro hg))
      all_goals try (exfalso;omega)
      refine ds_callS 1 w3 rfl rfl (by rintro _ rfl;rfl) rfl rfl rfl rfl ?_
      rintro _ rfl
      cases hb:hasU B A[order[i].toNat].id with
      | true =>
       rw [hb] at hd
       have hd:=of_decide_eq_false hd
       repeat' (first|refine z0 ?_|apply ds_nil|refine z16 ?_|apply dw_skip|apply thenD_n|apply inB_n|refine z4 ?_|refine z2 ?_|(refine z23 ?_ ?_ <;> intro hg)|fail)
       all_goals try (exfalso;omega)
       exact⟨(i + 1,B),stay,ent_ren id ⟨rfl,rfl,rfl,rfl,rfl,trivial⟩ ⟨rfl,rfl,trivial⟩ rfl rfl rfl rfl rfl rfl,by show order.length - (i + 1) < order.length - i;omega⟩
      | false =>
       rw [hb] at hd
       have hd:=of_decide_eq_true hd
       repeat' (first|refine z0 ?_|apply ds_nil|refine z16 ?_|apply dw_skip|apply thenD_n|apply inB_n|refine z4 ?_|refine z2 ?_|(refine z23 ?_ ?_ <;> intro hg)|fail)
       all_goals try (exfalso;omega)
       exact⟨(i + 1,B++[A[order[i].toNat]]),⟨hi,g2.put (List.getElem_mem hnA) hb⟩,ent_ren (fun j=>match j with|1=>2|j=>j) ⟨rfl,rfl,rfl,rfl,rfl,trivial⟩ ⟨rfl,by rw [List.map_append];rfl,trivial⟩ rfl rfl rfl rfl rfl rfl,by show order.length - (i + 1) < order.length - i;omega⟩
     ·repeat' (first|refine z0 ?_|refine z12 ?_|apply ds_nil|apply dw_seq2|refine z16 ?_|apply dw_block|apply dw_skip|apply dw_exit|refine z19 ?_|apply thenD_n|apply thenD_e|apply inB_n|refine z17 ?_|(refine z23 ?_ ?_ <;> intro hg)|((fail_if_success (apply ds_known;exact rfl));apply ds_guardP;exact rfl;exact rfl;exact rfl;all_goals intro hg))
      all_goals try (exfalso;omega)
      all_goals exact⟨(i + 1,B),stay,ent_ren id ⟨rfl,rfl,rfl,rfl,rfl,trivial⟩ ⟨rfl,rfl,trivial⟩ rfl rfl rfl rfl rfl rfl,by show order.length - (i + 1) < order.length - i;omega⟩
    ·repeat' (first|refine z0 ?_|refine z12 ?_|apply ds_nil|apply dw_seq2|refine z16 ?_|apply dw_block|apply dw_skip|apply dw_exit|refine z19 ?_|apply thenD_n|apply thenD_e|apply inB_n|refine z17 ?_|(refine z23 ?_ ?_ <;> intro hg)|((fail_if_success (apply ds_known;exact rfl));apply ds_guardP;exact rfl;exact rfl;exact rfl;all_goals intro hg))
     all_goals try (exfalso;omega)
     refine ds_loop (ι:=Nat × List Upd) (fun x=>⟨2,[(3,.loc 0 0),(7,.d (.slice 5 (A.map encUpd))),(9,.row 1),(11,.d (.int .i64 ((x.1:Int) - 1)))],[(0,rplB r),(1,.row 35 5 (x.2.map encUpd))]⟩)
      (fun x=>x.1≤A.length∧OthOk A x.2∧∀ (j:Nat) (hj:j < A.length),x.1≤j→hasU x.2 A[j].id=true) (fun x=>x.1) (A.length,B) ⟨Nat.le_refl _,g2,fun j hj h=>absurd hj (by dsimp only at h;omega)⟩ (ent_ren id ⟨rfl,rfl,rfl,by rw [← lA];rfl,trivial⟩ ⟨rfl,rfl,trivial⟩ rfl rfl rfl rfl rfl rfl) ?_
     clear hi g1 g2 lB hBl hob
     rintro⟨i,B⟩ ⟨g1,g2,g3⟩
     dsimp only at g1 g2 g3 ⊢
     have lB:(B.map encUpd).length=B.length:=List.length_map _
     have hBl:=g2.len
     cases i with
     | succ i =>
      have hi:i < A.length:=by omega
      have w3:=placeOf_fn B A[i].id (by omega)
      have hd:=hasU_idx B A[i].id
      repeat' (first|refine z0 ?_|apply ds_nil|refine z5 ?_|refine z6 ?_|refine z7 ?_|refine z11 ?_|apply dw_seq2|refine z16 ?_|refine z20 ?_|apply dw_block|apply dw_skip|apply dw_exit|apply thenD_n|apply thenD_e|refine z17 ?_|(refine z23 ?_ ?_ <;> intro hg)|fail)
      all_goals try (exfalso;omega)
      refine ds_callS 1 w3 rfl rfl (by rintro _ rfl;rfl) rfl rfl rfl rfl ?_
      rintro _ rfl
      cases hb:hasU B A[i].id with
      | true =>
       rw [hb] at hd
       have hd:=of_decide_eq_false hd
       repeat' (first|refine z0 ?_|apply ds_nil|refine z16 ?_|apply dw_skip|apply thenD_n|apply inB_n|refine z4 ?_|refine z2 ?_|(refine z23 ?_ ?_ <;> intro hg)|fail)
       all_goals try (exfalso;omega)
       refine⟨(i,B),⟨by omega,g2,fun j hj h=>?_⟩,ent_ren id ⟨rfl,rfl,rfl,congrArg (fun z:Int=>SV.d (.int .i64 z)) (by dsimp only;omega),trivial⟩ ⟨rfl,rfl,trivial⟩ rfl rfl rfl rfl rfl rfl,by show i < i + 1;omega⟩
       by_cases he:j=i
       ·subst he;exact hb
       ·exact g3 j hj (by dsimp only at h;omega)
      | false =>
       rw [hb] at hd
       have hd:=of_decide_eq_true hd
       repeat' (first|refine z0 ?_|apply ds_nil|refine z16 ?_|apply dw_skip|apply thenD_n|apply inB_n|refine z4 ?_|refine z2 ?_|(refine z23 ?_ ?_ <;> intro hg)|fail)
       all_goals try (exfalso;omega)
       refine⟨(i,B++[A[i]]),⟨by omega,g2.put (List.getElem_mem hi) hb,fun j hj h=>?_⟩,ent_ren (fun j=>match j with|1=>2|j=>j) ⟨rfl,rfl,rfl,congrArg (fun z:Int=>SV.d (.int .i64 z)) (by dsimp only;omega),trivial⟩ ⟨rfl,by rw [List.map_append];rfl,trivial⟩ rfl rfl rfl rfl rfl rfl,by show i < i + 1;omega⟩
       dsimp only at h ⊢
       rw [hasU_app]
       by_cases he:j=i
       ·subst he
        rw [show hasU [A[j]] A[j].id=true from hasU_iff.2 ⟨A[j],List.mem_singleton_self _,rfl⟩,Bool.or_true]
       ·rw [g3 j hj (by omega),Bool.true_or]
     | zero =>
      obtain⟨hm,hlen⟩:=g2.all p1 fun u hu=>by
       obtain⟨j,hj,rfl⟩:=List.mem_iff_getElem.1 hu
       exact g3 j hj (Nat.zero_le _)
      have hBa:=g2.apart
      have q2:∀ u∈B,checkU u=0:=fun u hu=>p2 u ((hm u).1 hu)
      clear g3 hBl
      repeat' ((fail_if_success (apply dw_stopS 22));(first|refine z0 ?_|apply ds_nil|apply dw_seq2|refine z16 ?_|apply dw_exit|refine z19 ?_|apply thenD_n|apply thenD_e|refine z17 ?_|fail))
      all_goals try (exfalso;omega)
      refine dw_ent (ent_seal 9 rfl rfl rfl) ?_
      repeat' (first|refine z0 ?_|apply ds_nil|refine z5 ?_|refine z6 ?_|refine z7 ?_|refine z11 ?_|apply dw_seq2|refine z16 ?_|refine z20 ?_|apply dw_block|apply thenD_n)
      have hbl:r.both.length=r.has.length + r.waits.length:=List.length_append
      obtain⟨_,hcr,hokr⟩:=checkR_ok hr
      refine ds_loop (ι:=Nat × Rpl × Rpl) (fun x=>⟨2,[(7,.d (.slice 5 (A.map encUpd))),(9,.d (.slice 5 (B.map encUpd))),(12,.loc 0 0),(13,.loc 1 0),(14,.d (.int .i64 x.1))],[(0,rplB x.2.1),(1,rplB x.2.2)]⟩)
       (fun x=>x.1≤A.length∧(ToldOk (addL r.both (A.take x.1)) x.2.1∧∀ v∈addL r.both (A.take x.1),checkU v=0)∧ToldOk (addL r.both (B.take x.1)) x.2.2∧∀ v∈addL r.both (B.take x.1),checkU v=0) (fun x=>A.length - x.1) (0,r,r) ⟨Nat.zero_le _,⟨ToldOk.self hokr,hcr⟩,ToldOk.self hokr,hcr⟩ (ent_ren (fun j=>match j with|0=>4|1=>5|j=>j) ⟨rfl,rfl,rfl,rfl,rfl,trivial⟩ ⟨rfl,rfl,trivial⟩ rfl rfl rfl rfl rfl rfl) ?_
      rintro⟨i,a,b⟩ ⟨g1,⟨ta,ca⟩,tb,cb⟩
      dsimp only at g1 ta ca tb cb ⊢
      have la:=ta.len
      have lb:=tb.len
      have ma:=addL_len (A.take i) r.both
      have mb:=addL_len (B.take i) r.both
      rw [List.length_take] at ma mb
      have na:a.both.length=a.has.length + a.waits.length:=List.length_append
      have nb:b.both.length=b.has.length + b.waits.length:=List.length_append
      by_cases hi:i < A.length
      ·have hiB:i < B.length:=by omega
       obtain⟨x,e,hx,hone⟩:=addIs_one a A[i]
       obtain⟨y,f,hy,htwo⟩:=addIs_one b B[i]
       obtain⟨rfl,tx⟩:=add_step ta ca (by omega) (p2 _ (List.getElem_mem hi)) hx
       obtain⟨rfl,ty⟩:=add_step tb cb (by omega) (q2 _ (List.getElem_mem hiB)) hy
       have cx:=addU_ok ca (p2 _ (List.getElem_mem hi))
       have cy:=addU_ok cb (q2 _ (List.getElem_mem hiB))
       rw [← addL_take hi] at tx cx
       rw [← addL_take hiB] at ty cy
       have mx:=addL_len (A.take (i + 1)) r.both
       have my:=addL_len (B.take (i + 1)) r.both
       rw [List.length_take] at mx my
       have lx:=tx.len
       have nx:x.both.length=x.has.length + x.waits.length:=List.length_append
       have w2:=dadd_one hone (by omega) (by omega)
       have w3:=dadd_one htwo (by omega) (by omega)
       have w4:=dcheck_fn x (by omega) (by omega)
       rw [told_check tx cx (by omega)] at w4
       clear hone htwo hx hy
       repeat' (first|refine z0 ?_|apply ds_nil|refine z5 ?_|refine z6 ?_|refine z7 ?_|refine z10 ?_|refine z11 ?_|apply dw_seq2|refine z16 ?_|refine z20 ?_|apply dw_block|apply dw_skip|apply dw_exit|refine z19 ?_|apply thenD_n|apply thenD_e|apply inB_n|refine z17 ?_|refine z22 ?_ (hc:=by apply w2)|refine z22 ?_ (hc:=by apply w3)|refine z21 ?_ (hc:=by apply w4)|(refine z23 ?_ ?_ <;> intro hg)|fail)
       all_goals try (exfalso;omega)
       exact⟨(i + 1,x,y),⟨hi,⟨tx,cx⟩,ty,cy⟩,ent_ren id ⟨rfl,rfl,rfl,rfl,rfl,trivial⟩ ⟨rfl,rfl,trivial⟩ rfl rfl rfl rfl rfl rfl,by show A.length - (i + 1) < A.length - i;omega⟩
      ·rw [List.take_of_length_le (by omega)] at ta ca
       rw [List.take_of_length_le (by omega)] at tb cb
       have hab:=added_same p1 hBa hm ta tb
       subst hab
       have w5:=sameReplica_fn a a
       rw [sameL_refl Upd.same_refl,sameL_refl Upd.same_refl] at w5
       by_cases h0:0 < A.length
       ·obtain⟨x,e,hx,hone⟩:=addIs_one a A[0]
        have ma2:=addL_len A r.both
        have hca:=told_check ta ca (by omega)
        obtain⟨rfl,rfl⟩:=addIs_old hx (by unfold addE;rw [if_pos hca];exact p2 _ (List.getElem_mem h0)) (by rw [← ta.has];exact addL_has p1 (List.getElem_mem h0))
        have w2:=dadd_one hone (by omega) (by omega)
        repeat' (first|refine z0 ?_|apply ds_nil|refine z5 ?_|refine z6 ?_|refine z7 ?_|refine z11 ?_|apply dw_seq2|refine z16 ?_|refine z20 ?_|apply dw_block|apply dw_skip|apply dw_exit|apply dw_ret|refine z19 ?_|apply thenD_n|apply thenD_e|refine z17 ?_|refine z22 ?_ (hc:=by apply w2)|refine z21 ?_ (hc:=by apply w5)|(refine z23 ?_ ?_ <;> intro hg)|fail)
        all_goals try (exfalso;omega)
        exact ret_b rfl rfl
       ·repeat' (first|refine z0 ?_|apply ds_nil|refine z5 ?_|apply dw_seq2|refine z16 ?_|refine z20 ?_|apply dw_block|apply dw_skip|apply dw_exit|apply dw_ret|apply thenD_n|apply thenD_e|refine z17 ?_|refine z21 ?_ (hc:=by apply w5)|(refine z23 ?_ ?_ <;> intro hg)|fail)
        all_goals try (exfalso;omega)
        exact ret_b rfl rfl
 ·repeat' (first|refine z0 ?_|refine z12 ?_|apply ds_nil|apply dw_seq2|refine z16 ?_|apply dw_block|apply dw_skip|apply dw_ret|refine z18 ?_|refine z19 ?_|apply thenD_n|apply thenD_r|refine z21 ?_ (hc:=by apply w1)|refine z21 ?_ (hc:=by apply dagBegun_fn)|refine z1 ?_|(refine z23 ?_ ?_ <;> intro hg)|((fail_if_success (apply ds_known;exact rfl));apply ds_guardP;exact rfl;exact rfl;exact rfl;all_goals intro hg))
  all_goals try (exfalso;omega)
  all_goals exact ret_b rfl rfl
theorem listOf {α:Type} {e:RT} {enc:α→List D} (h:∀ x,TyD e x→∃ t,x=enc t):∀ (l:List (List D)),(∀ x∈l,TyD e x)→∃ ts:List α,l=ts.map enc
 | [],_=>⟨[],rfl⟩
 | x::l,hl=>by
  obtain⟨t,rfl⟩:=h x (hl x (List.mem_cons_self ..))
  obtain⟨ts,rfl⟩:=listOf h l fun y hy=>hl y (List.mem_cons_of_mem _ hy)
  exact⟨t::ts,rfl⟩
theorem sliceOf {α:Type} {c b:Nat} {e:RT} {enc:α→List D} (h:∀ x,TyD e x→∃ t,x=enc t) (x:List D) (hx:TyD (.slice c b e) x):∃ ts:List α,x=[.slice c (ts.map enc)]:=by
 obtain⟨l,_,_,rfl,h3⟩:=hx
 obtain⟨ts,rfl⟩:=listOf h l h3
 exact⟨ts,rfl⟩
abbrev rtId:RT:=.struct [.int .i64,.int .i64]
abbrev rtFct:RT:=.struct [.int .i64,.slice 1 8 (.int .i64)]
abbrev rtUpd:RT:=.struct [rtId,.slice 2 16 rtId,.slice 2 32 rtFct,.slice 2 16 rtId]
theorem int_of (x:List D) (h:TyD (.int .i64) x):∃ n:Int,x=encI n:=by
 obtain⟨n,_,rfl⟩:=h
 exact⟨n,rfl⟩
theorem id_of (x:List D) (h:TyD rtId x):∃ t:UId,x=encId t:=by
 obtain⟨a,b,rfl,⟨k,_,rfl⟩,c,d,rfl,⟨p,_,rfl⟩,rfl⟩:=h
 exact⟨⟨k,p⟩,rfl⟩
theorem fct_of (x:List D) (h:TyD rtFct x):∃ t:Fct,x=encFct t:=by
 obtain⟨a,b,rfl,⟨k,_,rfl⟩,c,d,rfl,h2,rfl⟩:=h
 obtain⟨l,rfl⟩:=sliceOf int_of c h2
 exact⟨⟨k,l⟩,rfl⟩
theorem upd_of (x:List D) (h:TyD rtUpd x):∃ u:Upd,x=encUpd u:=by
 obtain⟨a,b,rfl,h1,c,d,rfl,h2,e,f,rfl,h3,g,h,rfl,h4,rfl⟩:=h
 obtain⟨i,rfl⟩:=id_of a h1
 obtain⟨l,rfl⟩:=sliceOf id_of c h2
 obtain⟨m,rfl⟩:=sliceOf fct_of e h3
 obtain⟨n,rfl⟩:=sliceOf id_of g h4
 exact⟨⟨i,l,m,n⟩,rfl⟩
abbrev rtUpds:RT:=.slice 5 88 rtUpd
abbrev rtRpl:RT:=.struct [rtUpds,rtUpds]
theorem sliceOfB {R:Nat} {α:Type} {c b:Nat} {e:RT} {enc:α→List D} (h:∀ x,TyDR R e x→∃ t,x=enc t) (x:List D) (hx:TyDR R (.slice c b e) x):∃ ts:List α,x=[.slice c (ts.map enc)]∧ts.length * b≤R:=by
 obtain⟨l,h1,_,rfl,h3⟩:=hx
 have key:∀ l:List (List D),(∀ x∈l,TyDR R e x)→∃ ts:List α,l=ts.map enc:=by
  intro l
  induction l with
  | nil=>exact fun _=>⟨[],rfl⟩
  | cons x l ih =>
   intro hl
   obtain⟨t,rfl⟩:=h x (hl x (List.mem_cons_self ..))
   obtain⟨ts,rfl⟩:=ih fun y hy=>hl y (List.mem_cons_of_mem _ hy)
   exact⟨t::ts,rfl⟩
 obtain⟨ts,rfl⟩:=key l h3
 exact⟨ts,rfl,by rw [← List.length_map (f:=enc)];exact h1⟩
theorem upds_arg (x:List D) (h:TyD rtUpds x):∃ l:List Upd,RT.arg rtUpds x = .d (.slice 5 (l.map encUpd))∧l.length≤4398046511104:=by
 obtain⟨l,rfl,hl⟩:=sliceOfB upd_of x h
 exact⟨l,rfl,by unfold reachBytes at hl;omega⟩
theorem rpl_arg (x:List D) (h:TyD rtRpl x):∃ r:Rpl,RT.arg rtRpl x=elRpl r∧r.has.length≤4398046511104∧r.waits.length≤4398046511104:=by
 obtain⟨a,b,rfl,h1,c,d,rfl,h2,rfl⟩:=h
 obtain⟨l,rfl,hl⟩:=sliceOfB upd_of a h1
 obtain⟨m,rfl,hm⟩:=sliceOfB upd_of c h2
 exact⟨⟨l,m⟩,rfl,by unfold reachBytes at hl;dsimp only;omega,by unfold reachBytes at hm;dsimp only;omega⟩
theorem ints_argD (x:List D) (h:TyD (.slice 1 8 (.int .i64)) x):∃ l:List Int,RT.arg (.slice 1 8 (.int .i64)) x = .d (.slice 1 (l.map encI)):=by
 obtain⟨l,rfl,_⟩:=sliceOfB int_of x h
 exact⟨l,rfl⟩
end Go.Proofs.YtapciiffpnociabGreat
