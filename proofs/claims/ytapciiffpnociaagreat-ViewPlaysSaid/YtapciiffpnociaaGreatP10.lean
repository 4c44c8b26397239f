/- Several texts in one: WirC RelA ScoE GxNil StrA RelD ShS GxRow GxLaw GxSrt RelS. Condition: none. -/
import Derived.Test.YtapciiffpnociaaGreatP09
import Derived.Test.YtapciiffpnociaaGreatP01
import Derived.Test.YtapciiffpnociaaGreatP08
import Derived.Test.YtapciiffpnociaaGreatP02
import Derived.Lib.SliceRun
import Derived.Shelf.SlSortCmp.NoneTotal
import Derived.Ground.SlsfProg
import Derived.Test.YtapciiffpnociaaGreatProg
import Derived.ProofKit
import Derived.SizedLaws
import Derived.Carry
import Derived.ChangeSame
import Derived.JoinedCond
namespace Go.Proofs.YtapciiffpnociaaGreat
open Go Go.RowKit
attribute [local irreducible] DW DS DL DQ Ev FnOk FnP em b9 DT
theorem same_beq2 {x y:UId} {b:Bool} (h:(decide (x.author=y.author) && (decide (x.number=y.number) && true))=b):UId.same x y=b:=by
 rw [← h]
 unfold UId.same
 rw [Bool.and_true]
theorem same_not {x y:UId} {b:Bool} (h:(!(decide (x.author=y.author) && (decide (x.number=y.number) && true))) = !b):UId.same x y=b:=by
 have h2:=congrArg (fun q=>!q) h
 simp only [Bool.not_not] at h2
 exact same_beq2 h2
theorem fct_not {x y:Fct} {b:Bool} (h:decide (db x y≠0) = !b):Fct.same x y=b:=by
 unfold Fct.same
 cases b <;> simpa using h
theorem ordL_lt {l m:List Int} {i:Nat} (h1:i < l.length) (h2:i < m.length) (h:l[i] < m[i]):ep (l.drop i) (m.drop i) = -1:=by
 have e:fc l[i] m[i] = -1:=by unfold fc;rw [if_pos h]
 rw [ordL_step h1 h2,e];rfl
theorem ordL_gt {l m:List Int} {i:Nat} (h1:i < l.length) (h2:i < m.length) (h:m[i] < l[i]):ep (l.drop i) (m.drop i)=1:=by
 have e:fc l[i] m[i]=1:=by unfold fc;rw [if_neg (by omega),if_pos h]
 rw [ordL_step h1 h2,e];rfl
theorem ordL_eq {l m:List Int} {i:Nat} (h1:i < l.length) (h2:i < m.length) (h:l[i]=m[i]):ep (l.drop i) (m.drop i)=ep (l.drop (i + 1)) (m.drop (i + 1)):=by
 rw [ordL_step h1 h2,h,if_pos (cmpI_self _)]
theorem cmpI_eq (a b:Int):(fc a b=0)=(a=b):=by unfold fc;rw [eq_iff_iff];split <;> (try split) <;> simp <;> omega
set_option maxHeartbeats 8000000 in
theorem orderOf_fn (a b:Fct):Fn 22 [ey a,ey b] (fun r=>r = .d (.int .i64 (db a b))):=by
 refine ak _ Tryz.func22 rfl rfl (by kernel_rfl) ?_
 intro O w0 E0 β0
 repeat' (first|refine z0 ?_|apply ag|apply ae|refine z16 ?_|apply aa|refine z1 ?_|fail)
 refine cd rfl (fun hp=>?_) (fun hp=>?_)
 ·repeat' (first|refine z0 ?_|apply ag|apply ae|refine z16 ?_|apply ai|apply aj|apply aa|apply av|(refine z23 ?_ ?_ <;> intro hg)|fail)
  all_goals exact cg rfl (by unfold db;rw [if_neg (by rw [cmpI_eq];exact hp)];unfold fc;repeat' split;all_goals first|rfl|omega)
 ·have hF:db a b=ep a.args b.args:=by unfold db;rw [if_pos (by rw [cmpI_eq];exact Decidable.not_not.1 hp)]
  repeat' (first|refine z0 ?_|apply ag|apply ae|refine z16 ?_|apply ah|apply ai|apply aa)
  refine bh (ι:=Nat) (fun i=>⟨2,[(2,.loc 0 0),(3,.loc 1 0),(5,.d (.int .i64 i))],[(0,.blk 58 [.d (.int .i64 a.pred),.d (.slice 1 (a.args.map bi))]),(1,.blk 58 [.d (.int .i64 b.pred),.d (.slice 1 (b.args.map bi))])]⟩)
   (fun i=>i≤a.args.length∧i≤b.args.length∧db a b=ep (a.args.drop i) (b.args.drop i)) (fun i=>a.args.length - i) 0 ⟨Nat.zero_le _,Nat.zero_le _,hF⟩
   (ap id ⟨rfl,rfl,rfl,trivial⟩ ⟨rfl,rfl,trivial⟩ rfl rfl rfl rfl rfl rfl) ?_
  rintro i ⟨h1,h2,h3⟩
  refine dw_lenC 0 1 rfl rfl fun hb=>?_
  have la:(a.args.map bi).length=a.args.length:=List.length_map _
  have lb:(b.args.map bi).length=b.args.length:=List.length_map _
  repeat' (first|refine z0 ?_|refine z12 ?_|apply ag|refine z5 ?_|refine z10 ?_|apply ae|refine z16 ?_|refine z20 ?_|apply ah|apply ai|apply au|apply aj|refine z19 ?_|apply aa|apply aq|apply av|apply bg|apply br|refine z17 ?_|(refine z23 ?_ ?_ <;> intro hg)|((fail_if_success (apply bk;exact rfl));apply bl;exact rfl;exact rfl;exact rfl;all_goals intro hg))
  all_goals first
   | (refine cg rfl (Eq.trans ?_ h3.symm);refine (ordL_lt ?_ ?_ ?_).symm <;> first|assumption|omega)
   | (refine cg rfl (Eq.trans ?_ h3.symm);refine (ordL_gt ?_ ?_ ?_).symm <;> first|assumption|omega)
   | (refine cg rfl (Eq.trans ?_ h3.symm);refine (ordL_less ?_ ?_).symm <;> omega)
   | (refine cg rfl (Eq.trans ?_ h3.symm);refine (ordL_more ?_ ?_).symm <;> omega)
   | (refine cg rfl (Eq.trans ?_ h3.symm);refine (ordL_end ?_ ?_).symm <;> omega)
   | (refine⟨i + 1,⟨?_,?_,h3.trans (ordL_eq ?_ ?_ ?_)⟩,ap id ⟨rfl,rfl,rfl,trivial⟩ ⟨rfl,rfl,trivial⟩ rfl rfl rfl rfl rfl rfl,?_⟩ <;> omega)
set_option maxHeartbeats 8000000 in
theorem sameIds_fn (l m:List (UId)):Fn 54 [.d (.slice 2 (l.map dj)),.d (.slice 2 (m.map dj))] (fun r=>r = .d (.bool (fx UId.same l m))):=by
 refine ak _ Tryz.func54 rfl rfl (by kernel_rfl) ?_
 intro O w0 E0 β0
 refine cp (t:=0) rfl fun hb=>?_
 repeat' (first|refine z0 ?_|apply ag|apply ae|refine z16 ?_|apply aa)
 refine cd rfl (fun h=>?_) (fun h=>?_)
 ·have hne:l.length≠m.length:=by rw [List.length_map,List.length_map] at h;omega
  repeat' (first|refine z0 ?_|apply ag|apply ae|refine z16 ?_|apply aj|apply aa|apply av)
  exact cm rfl (sameL_len _ _ _ hne).symm
 ·have hlen:l.length=m.length:=by rw [List.length_map,List.length_map] at h;omega
  repeat' (first|refine z0 ?_|apply ag|apply ae|refine z16 ?_|apply ah|apply ai|apply aa)
  refine bh (ι:=Nat) (fun i=>⟨0,[(0,.d (.slice 2 (l.map dj))),(1,.d (.slice 2 (m.map dj))),(5,.d (.int .i64 i))],[]⟩)
   (fun i=>i≤l.length∧fx UId.same l m=fx UId.same (l.drop i) (m.drop i)) (fun i=>l.length - i) 0 ⟨Nat.zero_le _,rfl⟩
   (ap id ⟨rfl,rfl,rfl,trivial⟩ trivial rfl rfl rfl rfl rfl rfl) ?_
  rintro i ⟨h1,h2⟩
  repeat' (first|refine z0 ?_|apply ag|apply ae|refine z16 ?_|apply aa)
  refine cd rfl (fun h=>?_) (fun h=>?_)
  ·have hi:i < l.length:=by rw [List.length_map] at h;omega
   have hm:i < m.length:=by omega
   have hd:=sameL_drop UId.same l m i hi hm
   repeat' (first|refine z5 ?_|refine z10 ?_|apply ae|refine z20 ?_|apply ah|apply ai|apply aa)
   refine c7 rfl (fun hb=>?_) (fun hb=>?_)
   ·have hp:UId.same l[i] m[i]=false:=by exact same_not hb
    repeat' (first|refine z0 ?_|apply ag|apply ae|refine z16 ?_|apply aj|apply aa|apply av|apply br)
    exact cm rfl (by rw [h2,hd,hp];rfl)
   ·have hp:UId.same l[i] m[i]=true:=by exact same_not hb
    repeat' (first|refine z0 ?_|apply ag|refine z16 ?_|apply ai|apply aa|apply bg)
    exact⟨i + 1,⟨hi,by rw [h2,hd,hp];rfl⟩,ap id ⟨rfl,rfl,rfl,trivial⟩ trivial rfl rfl rfl rfl rfl rfl,by omega⟩
  ·repeat' (first|refine z0 ?_|apply ag|apply ae|refine z16 ?_|apply au|apply aj|apply aa|apply aq|refine z17 ?_|fail)
   exact cm rfl (by rw [h2,sameL_end _ _ _ _ (by rw [List.length_map] at h;omega) (by rw [List.length_map] at h;omega)])
set_option maxHeartbeats 8000000 in
theorem jn (l m:List (Fct)):Fn 9 [.d (.slice 2 (l.map a6)),.d (.slice 2 (m.map a6))] (fun r=>r = .d (.bool (fx Fct.same l m))):=by
 refine ak _ Tryz.func9 rfl rfl (by kernel_rfl) ?_
 intro O w0 E0 β0
 refine cp (t:=0) rfl fun hb=>?_
 repeat' (first|refine z0 ?_|apply ag|apply ae|refine z16 ?_|apply aa)
 refine cd rfl (fun h=>?_) (fun h=>?_)
 ·have hne:l.length≠m.length:=by rw [List.length_map,List.length_map] at h;omega
  repeat' (first|refine z0 ?_|apply ag|apply ae|refine z16 ?_|apply aj|apply aa|apply av)
  exact cm rfl (sameL_len _ _ _ hne).symm
 ·have hlen:l.length=m.length:=by rw [List.length_map,List.length_map] at h;omega
  repeat' (first|refine z0 ?_|apply ag|apply ae|refine z16 ?_|apply ah|apply ai|apply aa)
  refine bh (ι:=Nat) (fun i=>⟨0,[(0,.d (.slice 2 (l.map a6))),(1,.d (.slice 2 (m.map a6))),(5,.d (.int .i64 i))],[]⟩)
   (fun i=>i≤l.length∧fx Fct.same l m=fx Fct.same (l.drop i) (m.drop i)) (fun i=>l.length - i) 0 ⟨Nat.zero_le _,rfl⟩
   (ap id ⟨rfl,rfl,rfl,trivial⟩ trivial rfl rfl rfl rfl rfl rfl) ?_
  rintro i ⟨h1,h2⟩
  repeat' (first|refine z0 ?_|apply ag|apply ae|refine z16 ?_|apply aa)
  refine cd rfl (fun h=>?_) (fun h=>?_)
  ·have hi:i < l.length:=by rw [List.length_map] at h;omega
   have hm:i < m.length:=by omega
   have hd:=sameL_drop Fct.same l m i hi hm
   repeat' (first|refine z5 ?_|refine z10 ?_|apply ae|refine z20 ?_|apply ah|apply ai|apply aa|refine z22 ?_ (hc:=by apply orderOf_fn)|fail)
   refine c7 rfl (fun hb=>?_) (fun hb=>?_)
   ·have hp:Fct.same l[i] m[i]=false:=by exact fct_not hb
    repeat' (first|refine z0 ?_|apply ag|apply ae|refine z16 ?_|apply aj|apply aa|apply av|apply br)
    exact cm rfl (by rw [h2,hd,hp];rfl)
   ·have hp:Fct.same l[i] m[i]=true:=by exact fct_not hb
    repeat' (first|refine z0 ?_|apply ag|refine z16 ?_|apply ai|apply aa|apply bg)
    exact⟨i + 1,⟨hi,by rw [h2,hd,hp];rfl⟩,ap id ⟨rfl,rfl,rfl,trivial⟩ trivial rfl rfl rfl rfl rfl rfl,by omega⟩
  ·repeat' (first|refine z0 ?_|apply ag|apply ae|refine z16 ?_|apply au|apply aj|apply aa|apply aq|refine z17 ?_|fail)
   exact cm rfl (by rw [h2,sameL_end _ _ _ _ (by rw [List.length_map] at h;omega) (by rw [List.length_map] at h;omega)])

def mc (b:Bool):List D:=[.bool b]
def encT (s:ByteArray):List D:=[.str s]
def bw (t:Trm):List D:=[.int .i64 t.var,.int .i64 t.n]
def bt (l:Ltl):List D:=[.int .i64 l.kind,.int .i64 l.op,.int .i64 l.pred,.slice 2 (l.terms.map bw)]
def dx (r:Rul):List D:=[.int .i64 r.pred,.slice 2 (r.terms.map bw),.int .i64 r.fold,.slice 4 (r.body.map bt),.int .i64 r.vars]
abbrev elTrm (t:Trm):SV:=.agg [.d (.int .i64 t.var),.d (.int .i64 t.n)]
abbrev elLtl (l:Ltl):SV:=.agg [.d (.int .i64 l.kind),.d (.int .i64 l.op),.d (.int .i64 l.pred),.d (.slice 2 (l.terms.map bw))]
abbrev elRul (r:Rul):SV:=.agg [.d (.int .i64 r.pred),.d (.slice 2 (r.terms.map bw)),.d (.int .i64 r.fold),.d (.slice 4 (r.body.map bt)),.d (.int .i64 r.vars)]
abbrev jl (p:Prg):SV:=.agg [.d (.slice 1 (p.arity.map bi)),.d (.slice 1 (p.names.map encT)),.d (.slice 5 (p.rules.map dx))]
set_option maxHeartbeats 8000000 in
theorem fb (n a b:Int):Fn 82 [.d (.int .i64 n),.d (.int .i64 a),.d (.int .i64 b)] (fun r=>r = .d (.bool (inR n a b))):=by
 refine ak _ Tryz.func82 rfl rfl (by kernel_rfl) ?_
 intro O w0 E0 β0
 unfold inR
 repeat' (first|refine z0 ?_|refine z12 ?_|apply ag|apply ae|refine z16 ?_|apply aj|apply aa|((fail_if_success (apply bk;exact rfl));apply bl;exact rfl;exact rfl;exact rfl;all_goals intro hg))
 all_goals exact cm rfl (by simp_all <;> omega)
set_option maxHeartbeats 8000000 in
theorem snumber_fn (n:Int):Fn 96 [.d (.int .i64 n)] (fun r=>r = .d (.bool (numB n))):=by
 refine ak _ Tryz.func96 rfl rfl (by kernel_rfl) ?_
 intro O w0 E0 β0
 unfold numB
 repeat' (first|refine z0 ?_|apply ag|apply ae|refine z16 ?_|apply aj|apply aa|refine z21 ?_ (hc:=by apply fb)|fail)
 exact cm rfl rfl
set_option maxHeartbeats 8000000 in
theorem op_fn (kind n:Int):Fn 117 [.d (.int .i64 kind),.d (.int .i64 n)] (fun r=>r = .d (.bool (opB kind n))):=by
 refine ak _ Tryz.func117 rfl rfl (by kernel_rfl) ?_
 intro O w0 E0 β0
 unfold opB
 repeat' (first|refine z0 ?_|apply ag|apply ae|refine z16 ?_|apply ah|apply ai|apply aj|apply aa|apply av|apply bg|apply br|refine z21 ?_ (hc:=by apply fb)|(refine z23 ?_ ?_ <;> intro hg)|fail)
 all_goals exact cm rfl (by simp_all <;> omega)
set_option maxHeartbeats 8000000 in
theorem terms_fn (l:List Trm) (vars:Int) (h0:0≤vars) (h8:vars≤8):Fn 85 [.d (.slice 2 (l.map bw)),.d (.int .i64 vars)] (fun r=>r = .d (.int .i64 (termsE vars l))):=by
 refine ak _ Tryz.func85 rfl rfl (by kernel_rfl) ?_
 intro O w0 E0 β0
 have la:(l.map bw).length=l.length:=List.length_map _
 unfold termsE
 repeat' (first|refine z0 ?_|apply ag|apply ae|refine z16 ?_|apply ah|apply aa)
 refine dw_len (t:=7) rfl (fun hk=>?_)
 refine bh (ι:=Nat) (fun i=>⟨0,[(1,.d (.int .i64 vars)),(4,.d (.int .i64 0)),(7,.d (.slice 2 (l.map bw))),(8,.d (.int .i64 (l.map bw).length)),(9,.d (.int .i64 i))],[]⟩)
  (fun i=>i≤l.length∧cu (termE vars) l=cu (termE vars) (l.drop i)) (fun i=>l.length - i) 0 ⟨Nat.zero_le _,rfl⟩ (ap id ⟨rfl,rfl,rfl,rfl,rfl,trivial⟩ trivial rfl rfl rfl rfl rfl rfl) ?_
 rintro i ⟨g1,g2⟩
 by_cases hi:i < l.length
 ·rw [firstL_step hi,show termE vars l[i]=if inR l[i].var (-1) (vars - 1)=false then 5 else if numB l[i].n=false∨(0≤l[i].var∧l[i].n≠0) then 3 else 0 from rfl] at g2
  repeat' (first|refine z0 ?_|refine z12 ?_|apply ag|apply ae|refine z16 ?_|apply ah|apply ai|apply au|apply aj|refine z18 ?_|refine z19 ?_|apply aa|apply aq|apply av|apply bg|apply br|refine z17 ?_|refine z21 ?_ (hc:=by apply fb)|refine z21 ?_ (hc:=by apply snumber_fn)|refine z1 ?_|refine z3 ?_|(refine z23 ?_ ?_ <;> intro hg)|(apply c7;exact rfl;all_goals intro hg)|((fail_if_success (apply bk;exact rfl));apply bl;exact rfl;exact rfl;exact rfl;all_goals intro hg)|((fail_if_success (apply bk;exact rfl));apply jr;exact rfl;exact rfl;exact rfl;all_goals intro hg))
  all_goals first
   | exact absurd hg (by omega)
   | exact cg rfl (by rw [g2];simp_all <;> omega)
   | exact⟨i + 1,⟨by omega,by rw [g2];simp_all <;> omega⟩,ap id ⟨rfl,rfl,rfl,rfl,rfl,trivial⟩ trivial rfl rfl rfl rfl rfl rfl,by show l.length - (i + 1) < l.length - i;omega⟩
 ·rw [firstL_end (by omega)] at g2
  repeat' (first|refine z0 ?_|refine z12 ?_|apply ag|apply ae|refine z16 ?_|apply ah|apply ai|apply au|apply aj|refine z18 ?_|refine z19 ?_|apply aa|apply aq|apply av|apply bg|apply br|refine z17 ?_|refine z21 ?_ (hc:=by apply fb)|refine z21 ?_ (hc:=by apply snumber_fn)|refine z1 ?_|refine z3 ?_|(refine z23 ?_ ?_ <;> intro hg)|(apply c7;exact rfl;all_goals intro hg)|((fail_if_success (apply bk;exact rfl));apply bl;exact rfl;exact rfl;exact rfl;all_goals intro hg)|((fail_if_success (apply bk;exact rfl));apply jr;exact rfl;exact rfl;exact rfl;all_goals intro hg))
  all_goals first
   | exact absurd hg (by omega)
   | exact cg rfl g2.symm
end Go.Proofs.YtapciiffpnociaaGreat
namespace Go.Proofs.YtapciiffpnociaaGreat
open Go Go.RowKit
section
variable {Γ : Ctx} {k : Nat} {L : Sl} {H : Hp} {K : cq} {ops : List Oper} {rest : List Oper} {t t' ty : TypeId} {x y : Operand}
theorem ds_bs0 {d te:TypeId} {pos:String} {af:Array Edge} {g:Option (Nat × Bool)} {es:Nat} (ht:(ay Γ.τ t).sh = .slice te) (hkn:(ay Γ.τ te).sh.known=true) (hes:(ay Γ.τ te).cells=es) (hpos:Nat.blt 0 es=true) (hz:gg (ay Γ.τ te).zero=true) (hzl:Nat.beq (ay Γ.τ te).zero.length (ay Γ.τ te).cells=true) (hd:Nat.blt d Γ.n=true) (hw:bf ops L g=some true)
  (hk:DS false Γ ops rest K (k + 1) ((d,.row k)::L) ((k,.row te es [])::H)):DS false Γ ops (⟨some d,.buildSlice t 0 #[],ty,pos,af,g⟩::rest) K k L H :=
 dl_op hw ((op_bs0 (f5 k) ht hkn hes hpos hz hzl hd).cast (fe k)) hk
theorem ds_eqnil {d te:TypeId} {pos:String} {af:Array Edge} {g:Option (Nat × Bool)} {es:Nat} {xs:List (List D)} (hx:a8 L x = .d (.slice es xs)) (hy:a8 L y = .nils) (ht:(ay Γ.τ t).sh = .slice te) (hd:Nat.blt d Γ.n=true) (hw:bf ops L g=some true)
  (h1:xs=[]→DS false Γ ops rest K k ((d,.d (.bool true))::L) H) (h2:DS false Γ ops rest K k ((d,.d (.bool false))::L) H):DS false Γ ops (⟨some d,.binOp .eql t x y t',ty,pos,af,g⟩::rest) K k L H:=by
 refine gl hw fun e a w m=>?_
 obtain⟨ao,cap,hv,_,_,hnone⟩:=(evT m hx (k7 · _ _)).slice_inv
 have hvy:a.eval y = .slice none 0 0:=by
  have hok:opOk y:=by
   cases y with
   | const v=>simp only [a8] at hy;unfold cSV at hy;split at hy <;> simp_all [opOk,cOk]
   | _=>trivial
  have:=m.op y hok
  rw [hy] at this;exact this
 have hrun:(execOp a.eval ⟨some d,.binOp .eql t x y t',ty,pos,af,g⟩).run Γ.P w = .ok (.value (.bool ao.isNone)) w:=by
  simp [execOp,hv,hvy,eqGuard,Lib.run_eql_slice_nil w t te ao xs.length cap 0 0 (Ctx.slice ht)]
 unfold Oper.wp
 rw [hrun]
 cases ao with
 | none=>exact⟨k,_,H,e,m.put (s:=.d (.bool true)) (v:=.bool true) (Nat.le_of_ble_eq_true hd) .bool,h1 (hnone rfl)⟩
 | some ad=>exact⟨k,_,H,e,m.put (s:=.d (.bool false)) (v:=.bool false) (Nat.le_of_ble_eq_true hd) .bool,h2⟩
end
attribute [local irreducible] DW DS DL DQ Ev FnOk FnP em b9 DT
set_option maxHeartbeats 8000000 in
theorem cloneI_fn (l:List (Int)) (hl:l.length≤17592186044416):Fn 111 [.d (.slice 1 (l.map bi))] (fun r=>r = .d (.slice 1 (l.map bi))):=by
 refine ak _ Tryz.func111 rfl rfl (by kernel_rfl) ?_
 intro O w0 E0 β0
 have la:(l.map bi).length=l.length:=List.length_map _
 repeat' (first|refine z0 ?_|apply ag|apply ae|refine z16 ?_|apply aa)
 refine ds_eqnil rfl rfl rfl rfl rfl (fun h=>?_) ?_
 ·have h0:l=[]:=List.map_eq_nil_iff.1 h
  subst h0
  repeat' (first|refine z0 ?_|apply ag|apply ae|refine z16 ?_|refine z18 ?_|apply aa)
  refine ba (cr 2 1 rfl) ?_
  repeat' (first|apply aj|apply av)
  exact⟨.inl rfl,_,rfl,rfl,rfl⟩
 ·repeat' (first|(apply ds_bs0;exact rfl;exact rfl;exact rfl;exact rfl;exact rfl;exact rfl;exact rfl;exact rfl)|(first|refine z0 ?_|apply ag|apply ae|refine z16 ?_|apply ai|refine z19 ?_|apply aa|refine z2 ?_|fail))
  refine ba (dp 2 rfl rfl rfl) ?_
  repeat' (apply aj)
  exact⟨.inl rfl,_,rfl,rfl,rfl⟩
set_option maxHeartbeats 8000000 in
theorem rsame_fn (a b:Fct):Fn 80 [ey a,ey b] (fun r=>r = .d (.bool (decide (db a b=0)))):=by
 refine ak _ Tryz.func80 rfl rfl (by kernel_rfl) ?_
 intro O w0 E0 β0
 have w:=orderF_fn a b
 repeat' (first|refine z0 ?_|apply ag|apply ae|refine z16 ?_|apply aj|apply aa|refine z21 ?_ (hc:=by apply w)|refine z1 ?_|fail)
 exact cm rfl rfl
set_option maxHeartbeats 8000000 in
theorem setAny_fn (a:Fct):Fn 59 [ey a] (fun r=>r = .d (.bool true)):=by
 refine ak _ Tryz.func59 rfl rfl (by kernel_rfl) ?_
 intro O w0 E0 β0
 repeat' (first|refine z0 ?_|apply ag|apply ae|refine z16 ?_|apply aj|apply aa|refine z1 ?_|fail)
 exact cm rfl rfl
set_option maxHeartbeats 8000000 in
theorem own_fn (a:Fct) (h:a.args.length≤17592186044416):Fn 77 [ey a] (fun r=>r=ey a):=by
 refine ak _ Tryz.func77 rfl rfl (by kernel_rfl) ?_
 intro O w0 E0 β0
 have w:=cloneI_fn a.args h
 repeat' (first|apply ag|refine z5 ?_|refine z6 ?_|refine z10 ?_|apply ae|refine z16 ?_|refine z20 ?_|apply aj|apply aa|refine z22 ?_ (hc:=by apply w)|refine z1 ?_|fail)
 exact⟨.inl rfl,_,rfl,rfl,rfl⟩
end Go.Proofs.YtapciiffpnociaaGreat
namespace Go.Proofs
open Go.Shelf
def Tryz.sortFacts_ren:Go.Shelf.Ren:=⟨fun|6=>78|15=>113|14=>112|28=>136|29=>137|20=>128|21=>129|22=>130|23=>131|24=>132|25=>133|26=>134|27=>135|46=>145|47=>146|48=>147|49=>148|50=>149|57=>162|n=>n,fun|22=>30|24=>58|25=>65|3=>3|39=>159|0=>0|53=>186|55=>188|4=>4|46=>180|45=>179|50=>116|5=>5|9=>9|66=>199|70=>203|76=>230|77=>231|n=>n,fun|n=>n⟩
theorem Tryz.sortFacts:Go.Proofs.SlLaysF0.n6 Tryz.prog Tryz.sortFacts_ren:={
 mixed:=by kernel_rfl
 f6:=⟨Tryz.f78.name,by decide,Tryz.func78.trans (congrArg some (by kernel_rfl))⟩
 f14:=⟨Tryz.f112.name,by decide,Tryz.func112.trans (congrArg some (by kernel_rfl))⟩
 f15:=Tryz.func113.trans (congrArg some (by kernel_rfl))
 f20:=⟨Tryz.f128.name,by decide,Tryz.func128.trans (congrArg some (by kernel_rfl))⟩
 f21:=⟨Tryz.f129.name,by decide,Tryz.func129.trans (congrArg some (by kernel_rfl))⟩
 f22:=⟨Tryz.f130.name,by decide,Tryz.func130.trans (congrArg some (by kernel_rfl))⟩
 f23:=⟨Tryz.f131.name,by decide,Tryz.func131.trans (congrArg some (by kernel_rfl))⟩
 f24:=⟨Tryz.f132.name,by decide,Tryz.func132.trans (congrArg some (by kernel_rfl))⟩
 f25:=⟨Tryz.f133.name,by decide,Tryz.func133.trans (congrArg some (by kernel_rfl))⟩
 f26:=⟨Tryz.f134.name,by decide,Tryz.func134.trans (congrArg some (by kernel_rfl))⟩
 f27:=⟨Tryz.f135.name,by decide,Tryz.func135.trans (congrArg some (by kernel_rfl))⟩
 f28:=Tryz.func136.trans (congrArg some (by kernel_rfl))
 f29:=Tryz.func137.trans (congrArg some (by kernel_rfl))
 f46:=⟨Tryz.f145.name,by decide,Tryz.func145.trans (congrArg some (by kernel_rfl))⟩
 f47:=Tryz.func146.trans (congrArg some (by kernel_rfl))
 f48:=Tryz.func147.trans (congrArg some (by kernel_rfl))
 f49:=⟨Tryz.f148.name,by decide,Tryz.func148.trans (congrArg some (by kernel_rfl))⟩
 f50:=⟨Tryz.f149.name,by decide,Tryz.func149.trans (congrArg some (by kernel_rfl))⟩
 f57:=⟨Tryz.f162.name,by decide,Tryz.func162.trans (congrArg some (by kernel_rfl))⟩
 t0:=Tryz.underlying0
 a0:=Tryz.isAgg0
 z0:=Tryz.sizeOf0
 v0:=Tryz.zeroValue0
 t3:=Tryz.underlying3
 a3:=Tryz.isAgg3
 z3:=Tryz.sizeOf3
 v3:=Tryz.zeroValue3
 t4:=Tryz.underlying4
 a4:=Tryz.isAgg4
 z4:=Tryz.sizeOf4
 v4:=Tryz.zeroValue4
 t5:=Tryz.underlying5
 a5:=Tryz.isAgg5
 z5:=Tryz.sizeOf5
 v5:=Tryz.zeroValue5
 t9:=Tryz.underlying9
 a9:=Tryz.isAgg9
 z9:=Tryz.sizeOf9
 v9:=Tryz.zeroValue9
 t22:=Tryz.underlying30
 a22:=Tryz.isAgg30
 z22:=Tryz.sizeOf30
 v22:=Tryz.zeroValue30
 t25:=Tryz.underlying65
 a25:=Tryz.isAgg65
 z25:=Tryz.sizeOf65
 v25:=Tryz.zeroValue65
 t39:=Tryz.underlying159
 a39:=Tryz.isAgg159
 z39:=Tryz.sizeOf159
 v39:=Tryz.zeroValue159
 t45:=Tryz.underlying179
 a45:=Tryz.isAgg179
 z45:=Tryz.sizeOf179
 v45:=Tryz.zeroValue179
 t46:=Tryz.underlying180
 a46:=Tryz.isAgg180
 z46:=Tryz.sizeOf180
 v46:=Tryz.zeroValue180
 t50:=Tryz.underlying116
 a50:=Tryz.isAgg116
 z50:=Tryz.sizeOf116
 v50:=Tryz.zeroValue116
 t53:=Tryz.underlying186
 a53:=Tryz.isAgg186
 z53:=Tryz.sizeOf186
 v53:=Tryz.zeroValue186
 t55:=Tryz.underlying188
 a55:=Tryz.isAgg188
 z55:=Tryz.sizeOf188
 v55:=Tryz.zeroValue188
 t66:=Tryz.underlying199
 a66:=Tryz.isAgg199
 z66:=Tryz.sizeOf199
 v66:=Tryz.zeroValue199
 t70:=Tryz.underlying203
 a70:=Tryz.isAgg203
 z70:=Tryz.sizeOf203
 v70:=Tryz.zeroValue203
 t76:=Tryz.underlying230
 a76:=Tryz.isAgg230
 z76:=Tryz.sizeOf230
 v76:=Tryz.zeroValue230
 t77:=Tryz.underlying231
 a77:=Tryz.isAgg231
 z77:=Tryz.sizeOf231
 v77:=Tryz.zeroValue231 }
def Tryz.sortWays_ren:Go.Shelf.Ren:=⟨fun|6=>153|15=>113|14=>172|28=>136|29=>137|20=>192|21=>193|22=>194|23=>195|24=>196|25=>197|26=>198|27=>199|46=>203|47=>146|48=>147|49=>204|50=>205|57=>207|n=>n,fun|22=>194|24=>22|25=>148|3=>3|39=>159|0=>0|53=>186|55=>188|4=>4|46=>180|45=>179|50=>116|5=>5|9=>9|66=>199|70=>203|76=>230|77=>231|n=>n,fun|n=>n⟩
theorem Tryz.sortWays:Go.Proofs.SlLaysF.n6 Tryz.prog Tryz.sortWays_ren:={
 mixed:=by kernel_rfl
 f6:=⟨Tryz.f153.name,by decide,Tryz.func153.trans (congrArg some (by kernel_rfl))⟩
 f14:=⟨Tryz.f172.name,by decide,Tryz.func172.trans (congrArg some (by kernel_rfl))⟩
 f15:=Tryz.func113.trans (congrArg some (by kernel_rfl))
 f20:=⟨Tryz.f192.name,by decide,Tryz.func192.trans (congrArg some (by kernel_rfl))⟩
 f21:=⟨Tryz.f193.name,by decide,Tryz.func193.trans (congrArg some (by kernel_rfl))⟩
 f22:=⟨Tryz.f194.name,by decide,Tryz.func194.trans (congrArg some (by kernel_rfl))⟩
 f23:=⟨Tryz.f195.name,by decide,Tryz.func195.trans (congrArg some (by kernel_rfl))⟩
 f24:=⟨Tryz.f196.name,by decide,Tryz.func196.trans (congrArg some (by kernel_rfl))⟩
 f25:=⟨Tryz.f197.name,by decide,Tryz.func197.trans (congrArg some (by kernel_rfl))⟩
 f26:=⟨Tryz.f198.name,by decide,Tryz.func198.trans (congrArg some (by kernel_rfl))⟩
 f27:=⟨Tryz.f199.name,by decide,Tryz.func199.trans (congrArg some (by kernel_rfl))⟩
 f28:=Tryz.func136.trans (congrArg some (by kernel_rfl))
 f29:=Tryz.func137.trans (congrArg some (by kernel_rfl))
 f46:=⟨Tryz.f203.name,by decide,Tryz.func203.trans (congrArg some (by kernel_rfl))⟩
 f47:=Tryz.func146.trans (congrArg some (by kernel_rfl))
 f48:=Tryz.func147.trans (congrArg some (by kernel_rfl))
 f49:=⟨Tryz.f204.name,by decide,Tryz.func204.trans (congrArg some (by kernel_rfl))⟩
 f50:=⟨Tryz.f205.name,by decide,Tryz.func205.trans (congrArg some (by kernel_rfl))⟩
 f57:=⟨Tryz.f207.name,by decide,Tryz.func207.trans (congrArg some (by kernel_rfl))⟩
 t0:=Tryz.underlying0
 a0:=Tryz.isAgg0
 z0:=Tryz.sizeOf0
 v0:=Tryz.zeroValue0
 t3:=Tryz.underlying3
 a3:=Tryz.isAgg3
 z3:=Tryz.sizeOf3
 v3:=Tryz.zeroValue3
 t4:=Tryz.underlying4
 a4:=Tryz.isAgg4
 z4:=Tryz.sizeOf4
 v4:=Tryz.zeroValue4
 t5:=Tryz.underlying5
 a5:=Tryz.isAgg5
 z5:=Tryz.sizeOf5
 v5:=Tryz.zeroValue5
 t9:=Tryz.underlying9
 a9:=Tryz.isAgg9
 z9:=Tryz.sizeOf9
 v9:=Tryz.zeroValue9
 t22:=Tryz.underlying194
 a22:=Tryz.isAgg194
 z22:=Tryz.sizeOf194
 v22:=Tryz.zeroValue194
 a24:=Tryz.isAgg22
 z24:=Tryz.sizeOf22
 t25:=Tryz.underlying148
 a25:=Tryz.isAgg148
 z25:=Tryz.sizeOf148
 v25:=Tryz.zeroValue148
 t39:=Tryz.underlying159
 a39:=Tryz.isAgg159
 z39:=Tryz.sizeOf159
 v39:=Tryz.zeroValue159
 t45:=Tryz.underlying179
 a45:=Tryz.isAgg179
 z45:=Tryz.sizeOf179
 v45:=Tryz.zeroValue179
 t46:=Tryz.underlying180
 a46:=Tryz.isAgg180
 z46:=Tryz.sizeOf180
 v46:=Tryz.zeroValue180
 t50:=Tryz.underlying116
 a50:=Tryz.isAgg116
 z50:=Tryz.sizeOf116
 v50:=Tryz.zeroValue116
 t53:=Tryz.underlying186
 a53:=Tryz.isAgg186
 z53:=Tryz.sizeOf186
 v53:=Tryz.zeroValue186
 t55:=Tryz.underlying188
 a55:=Tryz.isAgg188
 z55:=Tryz.sizeOf188
 v55:=Tryz.zeroValue188
 t66:=Tryz.underlying199
 a66:=Tryz.isAgg199
 z66:=Tryz.sizeOf199
 v66:=Tryz.zeroValue199
 t70:=Tryz.underlying203
 a70:=Tryz.isAgg203
 z70:=Tryz.sizeOf203
 v70:=Tryz.zeroValue203
 t76:=Tryz.underlying230
 a76:=Tryz.isAgg230
 z76:=Tryz.sizeOf230
 v76:=Tryz.zeroValue230
 t77:=Tryz.underlying231
 a77:=Tryz.isAgg231
 z77:=Tryz.sizeOf231
 v77:=Tryz.zeroValue231 }
end Go.Proofs
namespace Go.Proofs.YtapciiffpnociaaGreat
open Go Go.RowKit
inductive RT where
 | bool
 | int (k:IntKind)
 | str
 | slice (cells bytes:Nat) (e:RT)
 | struct (fs:List RT)
mutual
def RT.size:RT→Nat
 | .struct fs=>RT.sizeL fs
 | .bool=>1
 | .int _=>1
 | .str=>1
 | .slice _ _ _=>1
def RT.sizeL:List RT→Nat
 | []=>0
 | r::rs=>r.size + RT.sizeL rs
end
mutual
def rtB (P:Program):RT→TypeId→Bool
 | .bool,t=>match P.underlying t with|some .bool=>true|_=>false
 | .int k,t=>match P.underlying t with|some (.int k')=>sameK k k'|_=>false
 | .str,t=>match P.underlying t with|some .string=>true|_=>false
 | .slice c b e,t=>match P.underlying t with
  | some (.slice te)=>Nat.beq (P.cellsOf te) c && (Nat.beq (P.bytesOf te) b && (Nat.blt 0 c && (Nat.beq e.size c && rtB P e te)))
  | _=>false
 | .struct fs,t=>match P.underlying t with
  | some (.struct fl)=>rtL P fs fl.toList 0 && Nat.beq (P.cellsOf t) (RT.sizeL fs)
  | _=>false
def rtL (P:Program):List RT→List Field→Nat→Bool
 | [],[],_=>true
 | r::rs,f::fl,o=>Nat.beq f.offset o && (Nat.beq (P.cellsOf f.type) r.size && (rtB P r f.type && rtL P rs fl (o + r.size)))
 | _,_,_=>false
end
mutual
def TyDR (R:Nat):RT→List D→Prop
 | .bool,xs=>∃ b,xs=[.bool b]
 | .int k,xs=>∃ n,(Lit.int k n).wf=true∧xs=[.int k n]
 | .str,xs=>∃ s:ByteArray,s.size≤R∧xs=[.str s]
 | .slice c b e,xs=>∃ l:List (List D),l.length * b≤R∧l.length≤maxLen∧xs=[.slice c l]∧∀ x∈l,TyDR R e x
 | .struct fs,xs=>TyFR R fs xs
def TyFR (R:Nat):List RT→List D→Prop
 | [],xs=>xs=[]
 | r::rs,xs=>∃ a b,xs=a++b∧TyDR R r a∧TyFR R rs b
end
abbrev TyD:=TyDR reachBytes
section
variable {H : Type} {enc : TypeId × Value → H} {P : Program} {w : World} {R : Nat}
theorem cells?_spec {base:Nat} {a:Addr} {n:Nat} {vs:List Value} (h:w.cells? base a n=some vs):vs.length=n∧∀ j,j < n→∃ v,vs[j]? = some v∧w.cell? (a.add j)=some v:=by
 unfold World.cells? at h
 split at h
 ·have key:∀ (l:List Nat) (vs:List Value),(l.mapM fun i=>w.cell? (a.add i))=some vs→vs.length=l.length∧∀ (j i:Nat),l[j]? = some i→∃ v,vs[j]? = some v∧w.cell? (a.add i)=some v:=by
   intro l
   induction l with
   | nil=>intro vs h;simp at h;subst h;exact⟨rfl,fun j i hj=>by simp at hj⟩
   | cons x l ih =>
    intro vs h
    rw [List.mapM_cons] at h
    cases hx:w.cell? (a.add x) with
    | none=>simp [hx] at h
    | some v =>
     cases hl:(l.mapM fun i=>w.cell? (a.add i)) with
     | none=>simp [hx,hl] at h
     | some us =>
      simp [hx,hl] at h
      subst h
      obtain⟨h1,h2⟩:=ih us hl
      refine⟨by simp [h1],fun j i hj=>?_⟩
      cases j with
      | zero=>simp at hj;subst hj;exact⟨v,rfl,hx⟩
      | succ j=>simpa using h2 j i (by simpa using hj)
  obtain⟨h1,h2⟩:=key _ _ h
  exact⟨by simpa using h1,fun j hj=>h2 j j (by simp [hj])⟩
 ·cases h
theorem cell?_addr {a:Addr} {v:Value} (h:w.cell? a=some v):a.spot=none∧a.block < w.heap.size:=by
 unfold World.cell? at h
 split at h
 ·rename_i hb
  split at h
  ·cases h
  ·rename_i hs
   exact⟨by simpa using hs,(Array.getElem?_eq_some_iff.1 hb).1⟩
 ·cases h
theorem addr_00 (a:Addr):(a.add 0).add 0=a:=by simp [Go.Addr.add]
def RepL (w:World) (cs:List Value) (xs:List D):Prop:=cs.length=xs.length∧∀ (j:Nat) (u:Value),cs[j]? = some u→∃ x,xs[j]? = some x∧RepC (fun _=>False) w u x
theorem RepL.append {cs cs':List Value} {xs xs':List D} (h:RepL w cs xs) (h':RepL w cs' xs'):RepL w (cs++cs') (xs++xs'):=by
 obtain⟨h1,h2⟩:=h
 obtain⟨g1,g2⟩:=h'
 refine⟨by simp [h1,g1],fun j u hj=>?_⟩
 by_cases hlt:j < cs.length
 ·rw [List.getElem?_append_left hlt] at hj
  obtain⟨x,e1,e2⟩:=h2 j u hj
  exact⟨x,by rw [List.getElem?_append_left (by omega)];exact e1,e2⟩
 ·rw [List.getElem?_append_right (by omega)] at hj
  obtain⟨x,e1,e2⟩:=g2 _ u hj
  exact⟨x,by rw [List.getElem?_append_right (by omega),← h1];exact e1,e2⟩
theorem weightsAll_mem {e:TypeId}:∀ {l:List (DataW H)} {d:DataW H},d∈l→∀ n∈d.weights P e,n∈DataW.weightsAll P e l
 | [],_,h,_,_=>by simp at h
 | x::l,d,h,n,hn=>by
  simp only [DataW.weightsAll,List.mem_append]
  rcases List.mem_cons.1 h with rfl|h
  ·exact .inl hn
  ·exact .inr (weightsAll_mem h n hn)
mutual
theorem open_rt:∀ (r:RT) (t:TypeId) (fuel:Nat) (cs:List Value) (x:DataW H × List MemPlace),rtB P r t=true→DataW.trod enc P w 0 (fun _=>true) true fuel t cs=some x→(∀ n∈x.1.weights P t,n≤R) →
  ∃ xs,TyDR R r xs∧RepL w cs xs
 | .bool,t,fuel,cs,x,hb,h,_=>by
  have ht:P.underlying t=some .bool:=by
   unfold rtB at hb;split at hb <;> first|assumption|cases hb
  obtain⟨b,rfl,rfl⟩:=DataW.trod_bool ht h
  refine⟨[.bool b],⟨b,rfl⟩,rfl,fun j u hj=>?_⟩
  cases j with
  | zero=>simp at hj;subst hj;exact⟨_,rfl,.bool⟩
  | succ j=>simp at hj
 | .int k,t,fuel,cs,x,hb,h,_=>by
  have ht:P.underlying t=some (.int k):=by
   unfold rtB at hb
   split at hb
   ·rename_i k' hk;rw [hk,sameK_spec hb]
   ·cases hb
  obtain⟨n,rfl,rfl,hw⟩:=DataW.trod_int ht h
  refine⟨[.int k n],⟨n,hw,rfl⟩,rfl,fun j u hj=>?_⟩
  cases j with
  | zero=>simp at hj;subst hj;exact⟨_,rfl,.int hw⟩
  | succ j=>simp at hj
 | .str,t,fuel,cs,x,hb,h,hw=>by
  have ht:P.underlying t=some .string:=by
   unfold rtB at hb;split at hb <;> first|assumption|cases hb
  obtain⟨s,rfl,rfl,hs⟩:=DataW.trod_string ht h
  have hr:s.size≤R:=by
   have:=hw s.data.toList.length (by simp [DataW.weights])
   simpa using this
  refine⟨[.str s],⟨s,hr,rfl⟩,rfl,fun j u hj=>?_⟩
  cases j with
  | zero=>simp at hj;subst hj;exact⟨_,rfl,.str hs⟩
  | succ j=>simp at hj
 | .slice c b e,t,fuel,cs,x,hb,h,hw=>by
  obtain⟨te,ht,hc,hby,hpos,hes,hre⟩:∃ te,P.underlying t=some (.slice te)∧P.cellsOf te=c∧P.bytesOf te=b∧0 < c∧e.size=c∧rtB P e te=true:=by
   unfold rtB at hb
   split at hb
   ·rename_i te ht
    simp only [Bool.and_eq_true] at hb
    exact⟨te,ht,Nat.eq_of_beq_eq_true hb.1,Nat.eq_of_beq_eq_true hb.2.1,Nat.le_of_ble_eq_true hb.2.2.1,Nat.eq_of_beq_eq_true hb.2.2.2.1,hb.2.2.2.2⟩
   ·cases hb
  rcases DataW.trod_slice ht h with ⟨rfl,rfl⟩|⟨a,len,cap,elems,rest,n,_,rfl,rfl,_,hlc,hcm,hlen,hel,hsp,_⟩
  ·refine⟨[.slice c []],⟨[],by simp,by simp,rfl,by simp⟩,rfl,fun j u hj=>?_⟩
   cases j with
   | zero=>simp at hj;subst hj;exact⟨_,rfl,.nil⟩
   | succ j=>simp at hj
  ·obtain⟨hrl,hrest⟩:=hsp rfl
   have hcell0:∀ i,i < cap→∃ ci y,w.cells? 0 (a.add (i * c)) c=some ci∧DataW.trod enc P w 0 (fun _=>true) true n te ci=some y∧(∀ hi:i < len,elems[i]? = some y):=by
    intro i hi
    by_cases hil:i < len
    ·have h1:=hel i hil
     have h2:elems[i]? = some (elems[i]'(by omega)):=List.getElem?_eq_getElem (by omega)
     rw [hc,h2,Option.bind_eq_some_iff] at h1
     obtain⟨ci,g1,g2⟩:=h1
     exact⟨ci,_,g1,g2,fun _=>h2⟩
    ·have h1:=hrest (i - len) (by omega)
     have h2:rest[i - len]? = some (rest[i - len]'(by omega)):=List.getElem?_eq_getElem (by omega)
     rw [show len + (i - len)=i by omega,hc,h2,Option.bind_eq_some_iff] at h1
     obtain⟨ci,g1,g2⟩:=h1
     exact⟨ci,_,g1,g2,fun h=>absurd h hil⟩
   have hlist:∀ m,m≤len→∃ l:List (List D),l.length=m∧(∀ x∈l,TyDR R e x)∧∀ i (hi:i < m),∃ ci xi,w.cells? 0 (a.add (i * c)) c=some ci∧l[i]? = some xi∧RepL w ci xi:=by
    intro m
    induction m with
    | zero=>intro _;exact⟨[],rfl,by simp,fun i hi=>by omega⟩
    | succ m ih =>
     intro hm
     obtain⟨l,l1,l2,l3⟩:=ih (by omega)
     obtain⟨ci,y,g1,g2,g3⟩:=hcell0 m (by omega)
     have hy:=g3 (by omega)
     have hmem:y.1∈elems.map (·.1):=List.mem_map.2 ⟨y,List.mem_of_getElem? hy,rfl⟩
     obtain⟨xi,t1,t2⟩:=open_rt e te n ci y hre g2 fun k hk=>hw k (by
      simp only [DataW.weights,ht,List.mem_cons,List.mem_append]
      exact .inr (.inl (weightsAll_mem hmem k hk)))
     refine⟨l++[xi],by simp [l1],fun x hx=>?_,fun i hi=>?_⟩
     ·rcases List.mem_append.1 hx with hx|hx
      ·exact l2 x hx
      ·simp at hx;subst hx;exact t1
     ·by_cases him:i < m
      ·obtain⟨ci',xi',q1,q2,q3⟩:=l3 i him
       exact⟨ci',xi',q1,by rw [List.getElem?_append_left (by omega)];exact q2,q3⟩
      ·have:i=m:=by omega
       subst this
       exact⟨ci,xi,g1,by rw [List.getElem?_append_right (by omega),l1];simp,t2⟩
   obtain⟨l,l1,l2,l3⟩:=hlist len (Nat.le_refl _)
   have hwt:l.length * b≤R:=by
    have:=hw ((elems.length + rest.length) * P.bytesOf te) (by
     simp only [DataW.weights,ht,List.length_map,List.mem_cons,true_or])
    rw [hby] at this
    refine Nat.le_trans (Nat.mul_le_mul_right b ?_) this
    omega
   refine⟨[.slice c l],⟨l,hwt,by omega,rfl,l2⟩,rfl,fun j u hj=>?_⟩
   cases j with
   | succ j=>simp at hj
   | zero =>
    simp at hj
    subst hj
    refine⟨_,rfl,?_⟩
    by_cases hcap:cap=0
    ·have h0:len=0:=by omega
     subst hcap;subst h0
     have:l=[]:=List.eq_nil_of_length_eq_zero l1
     subst this
     exact .zero
    ·obtain⟨c0,y0,g1,_,_⟩:=hcell0 0 (by omega)
     obtain⟨v0,_,hv0⟩:=(cells?_spec g1).2 0 hpos
     rw [Nat.zero_mul,addr_00] at hv0
     obtain⟨s5,s2⟩:=cell?_addr hv0
     obtain⟨ab,ao,asp⟩:=a
     simp only at s5 s2
     subst s5
     have hl3:∀ i (hi:i < l.length),(l[i]'hi).length=c∧∀ j (hj:j < (l[i]'hi).length),∃ v,w.cell? ⟨ab,ao + i * c + j,none⟩=some v∧RepC (fun _=>False) w v ((l[i]'hi)[j]'hj):=by
      intro i hi
      obtain⟨ci,xi,q1,q2,q3,q4⟩:=l3 i (by omega)
      have hxi:l[i]'hi=xi:=by rw [List.getElem?_eq_getElem hi] at q2;exact Option.some.inj q2
      subst hxi
      obtain⟨r1,r2⟩:=cells?_spec q1
      refine⟨by omega,fun j hj=>?_⟩
      obtain⟨v,v1,v2⟩:=r2 j (by omega)
      obtain⟨xx,x1,x2⟩:=q4 j v v1
      rw [Addr.add_at,Addr.add_at] at v2
      have hxx:(l[i]'hi)[j]'hj=xx:=by rw [List.getElem?_eq_getElem hj] at x1;exact Option.some.inj x1
      exact⟨v,v2,hxx▸x2⟩
     refine .slice (fun i j=>(w.cell? ⟨ab,ao + i * c + j,none⟩).getD undef) l1.symm hlc hcm (fun h=>h) s2 (fun i hi=>(hl3 i hi).1) (fun i hi j hj=>?_) (fun i hi j hj=>?_)
     ·obtain⟨v,v1,_⟩:=(hl3 i hi).2 j hj
      rw [v1];rfl
     ·obtain⟨v,v1,v2⟩:=(hl3 i hi).2 j hj
      rw [v1];exact v2
 | .struct fs,t,fuel,cs,x,hb,h,hw=>by
  obtain⟨fl,ht,hf,hc⟩:∃ fl,P.underlying t=some (.struct fl)∧rtL P fs fl.toList 0=true∧P.cellsOf t=RT.sizeL fs:=by
   unfold rtB at hb
   split at hb
   ·rename_i fl ht
    simp only [Bool.and_eq_true] at hb
    exact⟨fl,ht,hb.1,Nat.eq_of_beq_eq_true hb.2⟩
   ·cases hb
  obtain⟨xs,n,_,rfl,hcl,hxl,hx⟩:=DataW.trod_struct ht h
  obtain⟨ys,y1,y2⟩:=open_rts fs fl.toList 0 n cs xs hf (fun i f hi=>hx i f (by simpa using hi)) (by simpa using hxl) (by rw [hcl,hc];omega) (fun k hk=>hw k (by
   simp only [DataW.weights,ht];exact hk))
  exact⟨ys,y1,by simpa using y2⟩
theorem open_rts:∀ (rs:List RT) (fl:List Field) (o n:Nat) (cs:List Value) (xs:List (DataW H × List MemPlace)),rtL P rs fl o=true →
  (∀ (i:Nat) (f:Field),fl[i]? = some f→DataW.trod enc P w 0 (fun _=>true) true n f.type ((cs.drop f.offset).take (P.cellsOf f.type))=xs[i]?)→xs.length=fl.length→cs.length=o + RT.sizeL rs →
  (∀ k∈DataW.weightsEach P (fl.map (·.type)) (xs.map (·.1)),k≤R)→∃ ys,TyFR R rs ys∧RepL w (cs.drop o) ys
 | [],fl,o,n,cs,xs,hb,_,_,hl,_=>by
  refine⟨[],rfl,?_,fun j u hj=>?_⟩
  ·simp [RT.sizeL] at hl ⊢;omega
  ·rw [List.drop_eq_nil_of_le (by simp [RT.sizeL] at hl;omega)] at hj;simp at hj
 | r::rs,[],o,n,cs,xs,hb,_,_,_,_=>by simp [rtL] at hb
 | r::rs,f::fl,o,n,cs,xs,hb,hx,hxl,hl,hw=>by
  simp only [rtL,Bool.and_eq_true] at hb
  obtain⟨b1,b2,b3,b4⟩:=hb
  have b1:=Nat.eq_of_beq_eq_true b1
  have b2:=Nat.eq_of_beq_eq_true b2
  cases xs with
  | nil=>simp at hxl
  | cons y ys =>
   have h0:=hx 0 f rfl
   simp only [List.getElem?_cons_zero] at h0
   rw [b1,b2] at h0
   simp only [RT.sizeL] at hl
   obtain⟨az,a1,a2⟩:=open_rt r f.type n _ y b3 h0 fun k hk=>hw k (by
    simp only [List.map_cons,DataW.weightsEach,List.mem_append]
    exact .inl hk)
   obtain⟨bs,c1,c2⟩:=open_rts rs fl (o + r.size) n cs ys b4 (fun i g hi=>by simpa using hx (i + 1) g (by simpa using hi)) (by simpa using hxl) (by omega) (fun k hk=>hw k (by
    simp only [List.map_cons,DataW.weightsEach,List.mem_append]
    exact .inr hk))
   refine⟨az++bs,⟨az,bs,rfl,a1,c1⟩,?_⟩
   have:=a2.append c2
   have hd:(cs.drop o).take r.size++cs.drop (o + r.size)=cs.drop o:=by
    rw [← List.drop_drop]
    exact List.take_append_drop _ _
   rw [hd] at this
   exact this
end
end
end Go.Proofs.YtapciiffpnociaaGreat
namespace Go.Proofs.YtapciiffpnociaaGreat
open Go Go.RowKit Go.ChangeShapes Go.WideShapes
def RT.arg:RT→List D→SV
 | .struct _,xs=>.agg (xs.map .d)
 | _,[x]=>.d x
 | _,_=>.junk
def ArgsDR (R:Nat):List RT→List SV→Prop
 | [],az=>az=[]
 | r::rs,az=>∃ xs l,az=r.arg xs::l∧TyDR R r xs∧ArgsDR R rs l
abbrev ArgsD:=ArgsDR reachBytes
def rtsB (P:Program):List RT→List TypeId→Bool
 | [],[]=>true
 | r::rs,t::ts=>rtB P r t && rtsB P rs ts
 | _,_=>false
section
variable {H : Type} {enc : TypeId × Value → H} {P : Program} {R : Nat}
theorem repL_agg {W:World} {e:Env}:∀ (cs:List Value) (xs:List D),RepL W cs xs→RelL (fun _=>False) e W (xs.map .d) cs
 | [],[],_=>trivial
 | [],_::_,h=>by have:=h.1;simp at this
 | _::_,[],h=>by have:=h.1;simp at this
 | c::cs,x::xs,h=>by
  obtain⟨h1,h2⟩:=h
  refine⟨?_,repL_agg cs xs ⟨by simpa using h1,fun j u hj=>by simpa using h2 (j + 1) u (by simpa using hj)⟩⟩
  obtain⟨y,hy,hr⟩:=h2 0 c rfl
  simp at hy
  subst hy
  exact hr
theorem repL_one {W:World} {e:Env} {v:Value} {x:D} (h:RepL W [v] [x]):Rel (fun _=>False) e W (.d x) v:=by
 obtain⟨y,hy,hr⟩:=h.2 0 v rfl
 simp at hy
 subst hy
 exact hr
theorem rtB_bool {t:TypeId} (h:rtB P .bool t=true):P.underlying t=some .bool:=by
 unfold rtB at h;split at h <;> first|assumption|cases h
theorem rtB_str {t:TypeId} (h:rtB P .str t=true):P.underlying t=some .string:=by
 unfold rtB at h;split at h <;> first|assumption|cases h
theorem rtB_int {t:TypeId} {k:IntKind} (h:rtB P (.int k) t=true):P.underlying t=some (.int k):=by
 unfold rtB at h
 split at h
 ·rename_i k' hk;rw [hk,sameK_spec h]
 ·cases h
theorem rtB_slice {t:TypeId} {c b:Nat} {e:RT} (h:rtB P (.slice c b e) t=true):∃ te,P.underlying t=some (.slice te):=by
 unfold rtB at h
 split at h
 ·rename_i te ht;exact⟨te,ht⟩
 ·cases h
theorem rtB_struct {t:TypeId} {fs:List RT} (h:rtB P (.struct fs) t=true):∃ fl,P.underlying t=some (.struct fl):=by
 unfold rtB at h
 split at h
 ·rename_i te ht;exact⟨te,ht⟩
 ·cases h
theorem arg_open {W:World} {e:Env} {base:Nat}:∀ (r:RT) (t:TypeId) (v:Value) (d:DataW H) (ps:List MemPlace),rtB P r t=true→DataW.Trod enc P W 0 (fun _=>true) true t v d ps→Value.okWide P W .any base t v →
  (∀ n∈d.weights P t,n≤R)→∃ xs,TyDR R r xs∧Rel (fun _=>False) e W (r.arg xs) v:=by
 intro r t v d ps hb ⟨fuel,hd⟩ hok hw
 obtain⟨xs,h1,h2⟩:=open_rt r t fuel v.cells.toList (d,ps) hb hd hw
 refine⟨xs,h1,?_⟩
 cases r with
 | bool =>
  obtain⟨b,rfl⟩:=okWide_bool (rtB_bool hb) hok
  obtain⟨b',rfl⟩:=h1
  exact repL_one h2
 | int k =>
  obtain⟨b,rfl⟩:=okWide_int (rtB_int hb) hok
  obtain⟨b',_,rfl⟩:=h1
  exact repL_one h2
 | str =>
  obtain⟨b,rfl⟩:=okWide_string (rtB_str hb) hok
  obtain⟨b',_,rfl⟩:=h1
  exact repL_one h2
 | slice c b el =>
  obtain⟨te,ht⟩:=rtB_slice hb
  obtain⟨a,n,cap,rfl⟩:=okWide_slice ht hok
  obtain⟨l,_,_,rfl,_⟩:=h1
  exact repL_one h2
 | struct fs =>
  obtain⟨fl,ht⟩:=rtB_struct hb
  obtain⟨cs,rfl,_⟩:=okWide_struct ht hok
  exact⟨cs.toList,by simp,repL_agg _ _ h2⟩
theorem args_open {W:World} {e:Env} {base:Nat}:∀ (rs:List RT) (ts:List TypeId) (vs:List Value) (ds:List (DataW H)) (ps:List MemPlace),rtsB P rs ts=true→DataW.TrodAll enc P W 0 (fun _=>true) true ts vs ds ps →
  (∀ (j:Nat) t v,ts[j]? = some t→vs[j]? = some v→Value.okWide P W .any base t v)→(∀ n∈DataW.weightsEach P ts ds,n≤R)→∃ az,ArgsDR R rs az∧RelL (fun _=>False) e W az vs
 | [],[],vs,ds,ps,_,h,_,_=>by
  obtain⟨rfl,rfl,rfl⟩:=trodAll_nil h
  exact⟨[],rfl,trivial⟩
 | [],_::_,_,_,_,hb,_,_,_=>by simp [rtsB] at hb
 | _::_,[],_,_,_,hb,_,_,_=>by simp [rtsB] at hb
 | r::rs,t::ts,vs,ds,ps,hb,h,hok,hw=>by
  obtain⟨v,vs',d,ds',p,q,rfl,rfl,rfl,h1,h2⟩:=trodAll_cons h
  simp only [rtsB,Bool.and_eq_true] at hb
  simp only [DataW.weightsEach,List.mem_append] at hw
  obtain⟨xs,g1,g2⟩:=arg_open (e:=e) r t v d p hb.1 h1 (hok 0 t v rfl rfl) fun n hn=>hw n (.inl hn)
  obtain⟨az,g3,g4⟩:=args_open (e:=e) rs ts vs' ds' q hb.2 h2 (fun j t v ht hv=>hok (j + 1) t v (by simpa using ht) (by simpa using hv)) fun n hn=>hw n (.inr hn)
  exact⟨r.arg xs::az,⟨xs,az,rfl,g1,g3⟩,g2,g4⟩
def readB (P:Program) (ts:List TypeId):Bool:=ts.all fun t=>P.readableRec t && Nat.blt t P.types.size
theorem args_again {W W':World} {spare:Nat→Bool} (hl:laidOutB P=true) (hb:Below W.heap.size W W'):∀ (ts:List TypeId) (vs:List Value) (ds:List (DataW H)) (ps:List MemPlace),readB P ts=true →
  DataW.TrodAll enc P W 0 (fun _=>true) true ts vs ds ps→(∀ p∈ps,p.block < W.heap.size)→(∀ p∈ps,spare p.block=true)→DataW.TrodAll enc P W' 0 spare true ts vs ds ps
 | [],vs,ds,ps,_,h,_,_=>by
  obtain⟨rfl,rfl,rfl⟩:=trodAll_nil h
  rfl
 | t::ts,vs,ds,ps,hr,h,hlt,hsp=>by
  obtain⟨v,vs',d,ds',p,q,rfl,rfl,rfl,h1,h2⟩:=trodAll_cons h
  simp only [readB,List.all_cons,Bool.and_eq_true] at hr
  refine⟨p,q,?_,args_again hl hb ts vs' ds' q (by simpa [readB] using hr.2) h2 (fun x hx=>hlt x (List.mem_append_right _ hx)) (fun x hx=>hsp x (List.mem_append_right _ hx)),rfl⟩
  exact WideElems.Trod_stays hl hr.1.1 (Nat.le_of_ble_eq_true hr.1.2) h1 (fun x hx=>hb.same (hlt x (List.mem_append_left _ hx))) fun x hx=>hsp x (List.mem_append_left _ hx)
theorem law_post {f:Func} {s:ChangeSpec} {apart fresh handsOn:Bool} {W W':World} {args:Array Value} {ds gs:List (DataW H)} {before:List MemPlace} {tb:TypeId}
  (hv:s.vars=[]) (hW:DataW.Whole enc P f.params.toList s.vars apart W args.toList ds gs before) (hfn:gs=[]→s.fn H (ds++gs) = { results:=[.lit (.bool true)],args:=ds })
  (hres:f.resultTypes = #[tb]) (htb:P.underlying tb=some .bool) (hl:laidOutB P=true) (hr:readB P f.params.toList=true) (hb:Below W.heap.size W W') :
  s.post enc P f apart fresh handsOn false W args (.bool true) W':=by
 have hW0:=hW
 have hlt:=fun p hp=>hW.lt p hp
 obtain⟨p,q,hA,hV,rfl,hfz,hnd⟩:=hW
 rw [hv] at hV
 obtain⟨rfl,rfl⟩:=trodVars_none hV
 have hfn:=hfn rfl
 refine⟨ds,[],p++[],[],p,[],hW0,?_,?_,?_,hb.frame _,fun h=>by cases h⟩
 ·rw [hres,hfn]
  exact trodAll_mk1 (shut_bool htb true)
 ·rw [hfn]
  exact args_again hl hb _ _ _ _ hr hA (fun x hx=>hlt x (List.mem_append_left _ hx)) fun x hx=>by simpa using hlt x (List.mem_append_left _ hx)
 ·rw [hv,hfn]
  rfl
theorem ctxX_nil {τ τok} {e:Env} {W:World} {n J β0}:∀ b,Ctx.X ⟨P,τ,τok,fun _=>False,W,fun b=>b∈aw e [],n,J,β0,none,dm,true,false⟩ e [] b→False:=by
 rintro b (h|h)
 ·exact h
 ·simp [aw] at h
theorem law_calls {τ:List (Nat × TI)} {τok:d7 P τ} {f:FuncId} {rs:List RT} {ts:List TypeId} {args:Array Value} {ds:List (DataW H)} {ps:List MemPlace} {W:World} {base:Nat}
  (hc:∀ az,ArgsDR R rs az→FnP false P τ τok f az (fun r=>r = .d (.bool true))) (hb:rtsB P rs ts=true) (hA:DataW.TrodAll enc P W 0 (fun _=>true) true ts args.toList ds ps)
  (hok:∀ (j:Nat) t v,ts[j]? = some t→args.toList[j]? = some v→Value.okWide P W .any base t v) (hw:∀ n∈DataW.weightsEach P ts ds,n≤R) :
  Calls P f args W fun en W'=>en = .returned (.bool true)∧Below W.heap.size W W':=by
 let e:Env:=⟨fun _=>0,fun _=>undef,lo 0⟩
 obtain⟨az,h1,h2⟩:=args_open (e:=e) rs ts args.toList ds ps hb hA hok hw
 have hk:=(hc az h1).2 (fun _=>False) e W args.toList ?_ ?_
 ·rw [Array.toArray_toList] at hk
  refine Calls.mono hk ?_
  rintro en W' ⟨k',r,H',e',v,⟨rfl,_,rfl⟩,rfl,hH,hr⟩
  have hr':RepC _ W' v (.bool true):=hr
  cases hr'
  exact⟨rfl,⟨hH.os,hH.tape,hH.output,hH.size,fun b hb=>hH.block b hb (by simp [aw])⟩⟩
 ·exact { top:=fun _=>Iff.rfl,heap:=(fun p hp=>nomatch hp),ids:=.nil,nodup:=.nil,mine:=(fun b hb=>nomatch hb),os:=rfl,tape:=rfl,output:=rfl,drawn:=(fun _=>Nat.le_refl _),size:=Nat.le_refl _,block:=(fun _ _ _=>rfl),obound:=(fun _ h=>h.elim),jle:=(fun _ h=>nomatch h),anchor:=(fun _ h=>nomatch h) }
 ·exact RelL.keep (Nat.le_refl _) (fun _ _ _=>rfl) (fun b _ hy=>ctxX_nil b hy) _ _ h2
theorem law_lifted {C:Checked} {τ:List (Nat × TI)} {τok:d7 C.prog τ} {os:Os} (started:os.Started) {f:FuncId} {fn:Func} {s:ChangeSpec} {conds:List PathCond} {apart fresh handsOn:Bool} {rs:List RT} {tb:TypeId}
  (own:ownKnob C.prog.godebug=none) (noInit:C.prog.inits.idxOf? f=none) (hfn:C.prog.funcs[f]? = some fn)
  (witness:∃ (w:World) (tape:Tape) (i:Input),w.os=os∧(w.forCall tape i).Shaped C.prog∧i.vars=[]∧Input.okWide C.prog (w.forCall tape i) .any w.heap.size f i ∧
   s.pre6 enc C.prog fn conds apart (w.forCall tape i).memory i.args∧({}:Assume).holds C.prog (lone (Frame.enter C.prog f i.args .normal) [] (w.forCall tape i)))
  (hv:s.vars=[]) (hvt:s.plain.varTypes C.prog=[]) (hs:∀ (ds:List (DataW H)),ds.length=fn.params.toList.length→s.fn H ds = { results:=[.lit (.bool true)],args:=ds })
  (hres:fn.resultTypes = #[tb]) (htb:C.prog.underlying tb=some .bool) (hl:laidOutB C.prog=true) (hr:readB C.prog fn.params.toList=true) (hb:rtsB C.prog rs fn.params.toList=true)
  (hc:∀ az,ArgsD rs az→FnP false C.prog τ τok f az (fun r=>r = .d (.bool true))) :
  ReturnsInHanded {} C os f .any (s.pre6 enc C.prog fn conds apart) (s.post enc C.prog fn apart fresh handsOn false):=by
 refine returnsInHanded_of_change_sized own started noInit hfn witness ?_
 intro W base args ds gs before hval hW _ hwt _
 obtain⟨p,q,hA,hV,hpq,hfz,hnd⟩:=id hW
 rw [hv] at hV
 obtain⟨rfl,rfl⟩:=trodVars_none hV
 rw [hvt,List.append_nil,List.append_nil] at hwt
 have hlen:∀ (ts:List TypeId) (vs:List Value) (ds:List (DataW H)) (ps:List MemPlace),DataW.TrodAll enc C.prog W 0 (fun _=>true) true ts vs ds ps→ds.length=ts.length:=by
  intro ts
  induction ts with
  | nil=>intro vs ds ps h;obtain⟨rfl,rfl,rfl⟩:=trodAll_nil h;rfl
  | cons t ts ih =>
   intro vs ds ps h
   obtain⟨v,vs',d,ds',p,q,rfl,rfl,rfl,h1,h2⟩:=trodAll_cons h
   simp [ih _ _ _ h2]
 refine (law_calls hc hb hA (fun j t v ht hv=>hval j t v (by simpa using ht) (by simpa using hv)) (fun n hn=>by simpa using List.all_eq_true.1 hwt n hn)).mono ?_
 rintro en W' ⟨rfl,hbl⟩
 exact⟨_,rfl,law_post hv hW (fun _=>by rw [List.append_nil];exact hs ds (hlen _ _ _ _ hA)) hres htb hl hr hbl⟩
end
end Go.Proofs.YtapciiffpnociaaGreat
namespace Go.Proofs.YtapciiffpnociaaGreat
open Go Go.RowKit Go.Sort Go.Shelf
section
variable {β : Type}
structure Held (X:Nat→Prop) (w:World) (es:Nat) (enc:β→List D) where
 x:β
 vs:List Value
 len:vs.length=es
 one:∀ v∈vs,v.oneCell' = true
 rep:∀ j (hj:j < (enc x).length),∃ v,vs[j]? = some v∧RepC X w v (enc x)[j]
theorem flatK_toList {α:Type} [Inhabited α] (enc:α→List Value) (k:Nat) (hk:∀ x,(enc x).length=k) (d:Array α) (t:Nat) (ht:t < d.size * k) :
  (flatK enc k d).toList[t]? = (enc (d[t / k]'(Nat.div_lt_of_lt_mul (by rw [Nat.mul_comm];exact ht))))[t % k]?:=by
 have h0:0 < k:=Nat.pos_of_ne_zero fun h=>by subst h;simp at ht
 have h1:t / k < d.size:=Nat.div_lt_of_lt_mul (by rw [Nat.mul_comm];exact ht)
 have h2:t % k < (enc d[t / k]).length:=by rw [hk];exact Nat.mod_lt _ h0
 rw [Array.getElem?_toList,Array.getElem?_eq_getElem (by simpa using ht),List.getElem?_eq_getElem h2]
 simp only [flatK,Array.getElem_map,Array.getElem_range]
 rw [getElem!_pos d _ h1,getElem!_pos (enc d[t / k]) _ h2]
theorem sortK_heap {α:Type} [Inhabited α] {w:World} {g n:Nat} {os:Array Obj} {cur:Array Value} {e:TypeId} {fr:Nat × Nat} (enc:α→List Value) (k:Nat) (d:Array α) (hb:w.heap[g]? = some (.cells cur e fr)) :
  (sortWorldK enc k w g 0 n d os).heap[g]? = some (.cells (putCells id 0 (flatK enc k d) cur) e fr):=by
 have hg:g < w.heap.size:=(Array.getElem?_eq_some_iff.1 hb).1
 unfold sortWorldK putRowK
 rw [heap_grow_old _ _ (by simpa using hg)]
 simp [putRow,mapBlock,Sort.ahead,Array.getElem?_modify,hb,onCells]
theorem sortK_other {α:Type} [Inhabited α] {w:World} {g n:Nat} {os:Array Obj} (enc:α→List Value) (k:Nat) (d:Array α) {b:Nat} (hb:b < w.heap.size) (hne:b≠g) :
  (sortWorldK enc k w g 0 n d os).heap[b]? = w.heap[b]?:=by
 unfold sortWorldK putRowK
 rw [heap_grow_old _ _ (by simpa using hb)]
 have:g≠b:=fun h=>hne h.symm
 simp [putRow,mapBlock,Sort.ahead,Array.getElem?_modify,this]
theorem sortK_size {α:Type} [Inhabited α] {w:World} {g n:Nat} {os:Array Obj} (enc:α→List Value) (k:Nat) (d:Array α):w.heap.size≤(sortWorldK enc k w g 0 n d os).heap.size:=by
 unfold sortWorldK putRowK
 simp
theorem take_putCellsK (cur F:Array Value) (h:F.size≤cur.size):(putCells id 0 F cur).toList.take F.size=F.toList:=by
 apply List.ext_getElem?
 intro j
 by_cases hj:j < F.size
 ·rw [List.getElem?_take_of_lt hj,Array.getElem?_toList,Array.getElem?_toList]
  simp [putCells,hj,show j < cur.size by omega]
 ·rw [List.getElem?_take_eq_none (by omega),List.getElem?_eq_none (by simp;omega)]
theorem grown_eq {W w':World} (hos:w'.os=W.os) (ht:w'.tape=W.tape) (ho:w'.output=W.output) (hd:W.drawn≤w'.drawn) (hs:W.heap.size≤w'.heap.size) (hb:∀ b,b < W.heap.size→w'.heap[b]? = W.heap[b]?) :
  ∃ q os',w' = grow (W.drewN q) os':=by
 refine⟨w'.drawn - W.drawn,w'.heap.extract W.heap.size,?_⟩
 obtain⟨heap,tape,drawn,os,output⟩:=w'
 simp only at hos ht ho hd hs hb
 subst hos;subst ht;subst ho
 unfold grow World.drewN
 simp only [World.mk.injEq,true_and,and_true]
 refine⟨?_,by omega⟩
 apply Array.ext_getElem?
 intro i
 rw [Array.getElem?_append]
 split
 ·rename_i h;exact hb i h
 ·rename_i h
  rw [Array.getElem?_extract]
  split
  ·congr 1;omega
  ·rw [Array.getElem?_eq_none (by omega)]
theorem flatten_get {α γ:Type} {f:α→List γ} {k:Nat} (hk:∀ x,(f x).length=k):∀ (d:List α) (i j:Nat) (hi:i < d.length),j < k→(d.map f).flatten[i * k + j]? = (f (d[i]'hi))[j]?
 | [],_,_,hi,_=>by simp at hi
 | x::d,0,j,_,hj=>by
  rw [List.map_cons,List.flatten_cons,Nat.zero_mul,Nat.zero_add,List.getElem?_append_left (by rw [hk];exact hj)];rfl
 | x::d,i + 1,j,hi,hj=>by
  have h1:(i + 1) * k + j=k + (i * k + j):=by rw [Nat.add_mul];omega
  rw [List.map_cons,List.flatten_cons,h1,List.getElem?_append_right (by rw [hk];omega),hk,Nat.add_sub_cancel_left,flatten_get hk d i j (by simpa using hi) hj];rfl
theorem flatten_len {α γ:Type} {f:α→List γ} {k:Nat} (hk:∀ x,(f x).length=k):∀ (d:List α),(d.map f).flatten.length=d.length * k
 | []=>by simp
 | x::d=>by rw [List.map_cons,List.flatten_cons,List.length_append,hk,flatten_len hk d,List.length_cons,Nat.add_mul];omega
theorem flatK_list {α:Type} [Inhabited α] (enc:α→List Value) (k:Nat) (hk:∀ x,(enc x).length=k) (d:Array α):(flatK enc k d).toList=(d.toList.map enc).flatten:=by
 apply List.ext_getElem?
 intro t
 by_cases ht:t < d.size * k
 ·have h0:0 < k:=Nat.pos_of_ne_zero fun h=>by subst h;simp at ht
  have h1:t / k < d.size:=Nat.div_lt_of_lt_mul (by rw [Nat.mul_comm];exact ht)
  rw [flatK_toList enc k hk d t ht]
  have h2:=flatten_get hk d.toList (t / k) (t % k) (by simpa using h1) (Nat.mod_lt _ h0)
  rw [Nat.div_add_mod'] at h2
  rw [h2]
  simp
 ·rw [List.getElem?_eq_none (by simp;omega),List.getElem?_eq_none (by rw [flatten_len hk];simp;omega)]
theorem held_of {X:Nat→Prop} {w:World} {es:Nat} {enc:β→List D} (hes:∀ x,(enc x).length=es):∀ (l:List β) (us:List Value),us.length=l.length * es→(∀ v∈us,v.oneCell' = true) →
  (∀ i (hi:i < l.length) j (hj:j < (enc l[i]).length),∃ v,us[i * es + j]? = some v∧RepC X w v ((enc l[i])[j]'hj))→∃ d:List (Held X w es enc),d.map Held.x=l∧(d.map Held.vs).flatten=us
 | [],us,h,_,_=>⟨[],rfl,by simp at h;subst h;rfl⟩
 | x::l,us,h,h1,h2=>by
  have hl:us.length=es + l.length * es:=by rw [h,List.length_cons,Nat.add_mul];omega
  obtain⟨d,g1,g2⟩:=held_of (X:=X) (w:=w) hes l (us.drop es) (by rw [List.length_drop];omega) (fun v hv=>h1 v (List.mem_of_mem_drop hv)) (fun i hi j hj=>by
   obtain⟨v,q1,q2⟩:=h2 (i + 1) (by simpa using hi) j (by simpa using hj)
   refine⟨v,?_,q2⟩
   rw [List.getElem?_drop,← q1]
   congr 1
   rw [Nat.add_mul];omega)
  refine⟨⟨x,us.take es,by rw [List.length_take];omega,fun v hv=>h1 v (List.mem_of_mem_take hv),fun j hj=>?_⟩::d,by rw [List.map_cons,g1],by rw [List.map_cons,List.flatten_cons,g2,List.take_append_drop]⟩
  obtain⟨v,q1,q2⟩:=h2 0 (by simp) j (by simpa using hj)
  refine⟨v,?_,q2⟩
  rw [List.getElem?_take,if_pos (by rw [← hes x];exact hj)]
  simpa using q1
theorem lowL_d:∀ (ds:List D),SV.lowL 0 (ds.map .d)=true
 | []=>rfl
 | d::ds=>by simp [SV.lowL,SV.low,lowL_d ds]
theorem relL_d {X:Nat→Prop} {e:Env} {w:World}:∀ (ds:List D) (vs:List Value),vs.length=ds.length→(∀ j (hj:j < ds.length),∃ v,vs[j]? = some v∧RepC X w v ds[j])→RelL X e w (ds.map .d) vs
 | [],[],_,_=>trivial
 | [],_::_,h,_=>by simp at h
 | _::_,[],h,_=>by simp at h
 | d::ds,v::vs,h,hr=>⟨by obtain⟨v',h1,h2⟩:=hr 0 (by simp);cases h1;exact h2,relL_d ds vs (by simpa using h) fun j hj=>by
   obtain⟨v',h1,h2⟩:=hr (j + 1) (by simpa using hj);exact⟨v',by simpa using h1,by simpa using h2⟩⟩
variable {P : Program} {τ : List (Nat × TI)} {τok : d7 P τ} {ρ : Ren}
theorem sort_rowK (L:SlLaysF0.n6 P ρ) (es:Nat) (aE:∀ w,(isAgg (ρ.t 24)).run P w = .ok true w) (zE:∀ w,(Go.sizeOf (ρ.t 24)).run P w = .ok es w) (enc:β→List D) (hes:∀ x,(enc x).length=es) (cf:β→β→Int) (hO:SWO (ltOf cf)) (g:Nat)
  (hc:∀ a b,FnP true P τ τok g [.agg ((enc a).map .d),.agg ((enc b).map .d)] (fun r=>r = .d (.int .i64 (cf a b)))) (te:TypeId) (l:List β) (hl:l.length < 4611686018427387904)
  {X:Nat→Prop} {e:Env} {w:World} {i:Nat} (hXo:∀ c,HB.owned e (i,.row te es (l.map enc))=some c→X c) (hXl:∀ b,X b→b < w.heap.size) (hrow:HRel X e w (i,.row te es (l.map enc))) :
  Calls P (ρ.f 6) #[e.η i,.func (.func g) #[] #[]] w fun en w'=>en = .returned (.tuple #[])∧w.heap.size≤w'.heap.size∧w'.os=w.os∧w'.tape=w.tape∧w'.output=w.output ∧
   (∀ c,c < w.heap.size→HB.owned e (i,.row te es (l.map enc))≠some c→w'.heap[c]? = w.heap[c]?)∧∃ l':List β,l'.Perm l∧l'.Pairwise (fun a b=>cf b a ≥ 0)∧HRel X e w' (i,.row te es (l'.map enc)):=by
 obtain⟨us,hown,hlen,hone2,hrep⟩:=hrow
 by_cases hne:l=[]
 ·subst hne
  obtain⟨p,cap,hv⟩:∃ p cap,e.η i = .slice p 0 cap:=by
   rcases hown.2 with ⟨hv,_⟩|⟨gb,cap,cur,hv,_⟩
   ·exact⟨_,_,hv⟩
   ·exact⟨_,_,hv⟩
  rw [hv]
  refine (AnyF.slices_SortFunc_none { L with } p cap _ w).mono ?_
  rintro en w' ⟨rfl,rfl⟩
  exact⟨rfl,Nat.le_refl _,rfl,rfl,rfl,fun _ _ _=>rfl,[],.refl _,.nil,us,hown,hlen,hone2,hrep⟩
 ·have hpos:0 < l.length:=List.length_pos_iff.2 hne
  have lm:(l.map enc).length=l.length:=List.length_map _
  obtain⟨hul,hcase⟩:=hown
  rw [lm] at hul hcase
  rcases hcase with ⟨_,h⟩|⟨gb,cap,cur,hv,_,hblk,hnc,hcm,hcs,htk⟩
  ·omega
  have hgb:gb < w.heap.size:=(Array.getElem?_eq_some_iff.1 hblk).1
  have howned:∀ (m:List (List D)),HB.owned e (i,.row te es m)=some gb:=fun m=>by simp [HB.owned,hv,Value.ownBlock]
  have hXg:X gb:=hXo gb (howned _)
  obtain⟨d,d1,d2⟩:=held_of (X:=X) (w:=w) (enc:=enc) hes l us hul hone2 (fun i hi j hj=>by
   obtain⟨v,q1,q2⟩:=hrep i (by rw [lm];exact hi) j (by simpa using hj)
   exact⟨v,q1,by simpa using q2⟩)
  have hdl:d.length=l.length:=by rw [← d1,List.length_map]
  haveI:Inhabited (Held X w es enc):=⟨d[0]'(by omega)⟩
  have hkv:∀ x:Held X w es enc,x.vs.length=es:=fun x=>x.len
  have hF:(flatK Held.vs es d.toArray).toList=us:=by rw [flatK_list _ _ hkv,← d2]
  have hHold:HoldsK (Held.vs (X:=X) (w:=w) (es:=es) (enc:=enc)) es w gb 0 d.toArray:=by
   intro t ht
   have ht':t < l.length * es:=by simpa [hdl] using ht
   have hc1:cur[t]? = us[t]?:=by
    rw [← htk,List.getElem?_take,if_pos ht',Array.getElem?_toList]
   refine⟨?_,by simp [World.frozen?,hblk]⟩
   simp only [World.cell?,hblk,Nat.zero_add]
   simp only [Option.isSome_none,Bool.false_eq_true,if_false]
   rw [hc1,← hF,Array.getElem?_toList,Array.getElem?_eq_getElem ht,getElem!_pos _ t ht]
   rfl
  have hcmp:CmpLays P g #[] (Held.vs (X:=X) (w:=w) (es:=es) (enc:=enc)) es (fun x y=>cf x.x y.x) gb 0 d.toArray.size w:=by
   intro m os dk hdk x y
   generalize hW:sortWorldK Held.vs es w gb 0 m dk os=W
   have hWs:w.heap.size≤W.heap.size:=hW▸sortK_size _ _ _
   have hWb:∀ b,b < w.heap.size→¬ X b→W.heap[b]? = w.heap[b]?:=fun b hb hx=>hW▸sortK_other _ _ _ hb fun h=>hx (h▸hXg)
   have hXW:∀ b,X b→b < W.heap.size:=fun b hb=>Nat.lt_of_lt_of_le (hXl b hb) hWs
   have hel:∀ z:Held X w es enc,RelL X e W ((enc z.x).map .d) z.vs:=fun z=>relL_d _ _ (by rw [z.len,hes]) fun j hj=>by
    obtain⟨v,q1,q2⟩:=z.rep j hj
    exact⟨v,q1,RepC.keep hWs hWb (fun _ _ h=>h) q2⟩
   have hk:=(hc x.x y.x).2 X (e.ren id 0) W [.agg x.vs.toArray,.agg y.vs.toArray] ⟨fun _=>Iff.rfl,by simp,by simp,by simp [aw],by simp [aw],rfl,rfl,rfl,fun _=>Nat.le_refl _,Nat.le_refl _,fun _ _ _=>rfl,fun b hb=>⟨hXW b hb,by simp [aw]⟩,fun j hj=>absurd hj (Nat.not_lt_zero j),fun j hj=>absurd hj (Nat.not_lt_zero j)⟩ ?_
   ·refine hk.mono ?_
    rintro en w' ⟨k',r,H',e',v,⟨rfl,hlr,rfl⟩,rfl,hH2,hrel⟩
    refine⟨?_,grown_eq hH2.os hH2.tape hH2.output (hH2.drawn rfl) hH2.size fun b hb=>hH2.block b hb (by simp [aw])⟩
    cases hrel
    rfl
   ·have hXX:∀ b,Ctx.X ⟨P,τ,τok,X,W,fun b=>b∈aw (e.ren id 0) [],0,0,(e.ren id 0).an,none,dm,true,true⟩ (e.ren id 0) [] b↔X b:=fun b=>by unfold Ctx.X;simp [aw]
    refine RelL.keep (Nat.le_refl _) (fun _ _ _=>rfl) (fun b _ h=>(hXX b).1 h) _ _ (X:=X) (w:=W) ?_
    exact⟨⟨x.vs,rfl,RelL.env _ _ (lowL_d _) (hel x)⟩,⟨y.vs,rfl,RelL.env _ _ (lowL_d _) (hel y)⟩,trivial⟩
  have hOα:SWO (ltOf fun x y:Held X w es enc=>cf x.x y.x):=⟨fun x=>hO.irrefl x.x,fun x y z=>hO.trans x.x y.x z.x,fun x y z=>hO.ntrans x.x y.x z.x⟩
  have eg:∀ args w,(callFunc g args).run P w = .ok (.enter g args) w:=run_call ((if h:l.length=0 then by omega else (hc (l[0]'hpos) (l[0]'hpos)).1))
  have hs:=AnyQ.slices_SortFunc L es aE zE (Held.vs (X:=X) (w:=w) (es:=es) (enc:=enc)) hkv (fun x=>x.one) (fun x y=>cf x.x y.x) hOα g #[] gb 0 cap d.toArray w eg hcmp hHold hgb (by simpa [hdl] using hl)
  have hsz:d.toArray.size=l.length:=by simpa using hdl
  rw [hsz] at hs
  rw [hv]
  refine hs.mono ?_
  rintro en w' ⟨rfl,d',m,os,hp,hso,rfl⟩
  have hd's:d'.size=l.length:=hp.1.trans hsz
  have hperm:d'.toList.Perm d:=by
   have:=hp.2.2
   rwa [show d'.extract 0 l.length=d' by rw [← hd's];simp,show d.toArray.extract 0 l.length=d.toArray by rw [← hsz];simp] at this
  refine⟨rfl,sortK_size _ _ _,rfl,rfl,rfl,fun c hc hne=>sortK_other _ _ _ hc fun h=>hne (by rw [howned,h]),d'.toList.map Held.x,d1▸hperm.map _,?_,?_⟩
  ·rw [List.pairwise_map,List.pairwise_iff_getElem]
   intro i j hi hj hij
   have h1:=hso i j (Nat.zero_le _) hij (by simpa [hd's] using hj)
   rw [getElem!_pos d' i (by simpa using hi),getElem!_pos d' j (by simpa using hj)] at h1
   have h2:¬ cf d'[j].x d'[i].x < 0:=of_decide_eq_false h1
   simp only [Array.getElem_toList]
   omega
  ·have hl':(d'.toList.map Held.x).length=l.length:=by simp [hd's]
   have hFs:(flatK Held.vs es d').size=l.length * es:=by rw [size_flatK,hd's]
   have hFl:(flatK Held.vs es d').toList=(d'.toList.map Held.vs).flatten:=flatK_list _ _ hkv _
   refine⟨(d'.toList.map Held.vs).flatten,⟨?_,.inr ⟨gb,cap,_,hv▸?_,Nat.zero_le _,sortK_heap _ _ _ hblk,?_,hcm,by simp [putCells,hcs],?_⟩⟩,?_,?_,?_⟩
   ·rw [flatten_len hkv];simp
   ·simp [hd's]
   ·simp [hd's];exact hnc
   ·rw [List.length_map,hl',← hFs,take_putCellsK _ _ (by rw [hFs,hcs];exact Nat.mul_le_mul_right _ hnc),hFl]
   ·intro i hi;simp [hes]
   ·intro v hvm
    obtain⟨u,hu,hvu⟩:=List.mem_flatten.1 hvm
    obtain⟨x,_,rfl⟩:=List.mem_map.1 hu
    exact x.one v hvu
   ·intro i hi j hj
    have hi':i < d'.toList.length:=by simpa using hi
    have hj':j < es:=by simpa [hes] using hj
    obtain⟨v,q1,q2⟩:=(d'.toList[i]).rep j (by rw [hes];exact hj')
    refine⟨v,by rw [flatten_get hkv d'.toList i j hi' hj'];exact q1,?_⟩
    have q3:RepC X w v (((d'.toList.map Held.x).map enc)[i][j]):=by simpa using q2
    exact RepC.keep (sortK_size _ _ _) (fun b hb hx=>sortK_other _ _ _ hb fun h=>hx (h▸hXg)) (fun b _ h=>h) q3
def SortC (P:Program) (f g:FuncId) (te es:Nat) (enc:β→List D) (cf:β→β→Int):Prop :=
 ∀ (l:List β),l.length < 4611686018427387904→∀ (X:Nat→Prop) (e:Env) (w:World) (i:Nat),(∀ c,HB.owned e (i,.row te es (l.map enc))=some c→X c)→(∀ b,X b→b < w.heap.size)→HRel X e w (i,.row te es (l.map enc)) →
  Calls P f #[e.η i,.func (.func g) #[] #[]] w fun en w'=>en = .returned (.tuple #[])∧w.heap.size≤w'.heap.size∧w'.os=w.os∧w'.tape=w.tape∧w'.output=w.output ∧
   (∀ c,c < w.heap.size→HB.owned e (i,.row te es (l.map enc))≠some c→w'.heap[c]? = w.heap[c]?)∧∃ l':List β,l'.Perm l∧l'.Pairwise (fun a b=>cf b a ≥ 0)∧HRel X e w' (i,.row te es (l'.map enc))
end
section
variable {Γ : Ctx} {k : Nat} {L : Sl} {H : Hp} {K : cq} {ops : List Oper} {rest : List Oper} {β : Type}
theorem ds_sort [NoDr Γ] {f g0:FuncId} {te es:Nat} {enc:β→List D} {cf:β→β→Int} (hS:SortC Γ.P f g0 te es enc cf) (l:List β) {d i:Nat} {x y:Operand} {ts:Array TypeId} {ty:TypeId} {pos:String} {af:Array Edge} {g:Option (Nat × Bool)}
  (hcall:io Γ.P f=true) (hx:a8 L x = .row i) (hH:Hp.get H i=some (.row te es (l.map enc))) (hy:a8 L y = .fn g0 []) (hyo:c9 y=true) (hw:bf ops L g=some true) (hd:Nat.blt d Γ.n=true) (hl:l.length < 4611686018427387904)
  (hk:∀ l':List β,l'.Perm l→l'.Pairwise (fun a b=>cf b a ≥ 0)→DS false Γ ops rest K k ((d,.tup [])::L) (Hp.set H i (.row te es (l'.map enc)))) :
  DS false Γ ops (⟨some d,.call { callee:=.value (.func f),args:=#[x,y],argTypes:=ts },ty,pos,af,g⟩::rest) K k L H:=by
 refine gl hw fun e a w m=>?_
 unfold Oper.wp
 have hrun:=kl hcall a [x,y] ts (some d) ty pos af g w
 rw [show #[x,y]=[x,y].toArray from rfl,hrun,Oper.upon_enter]
 obtain⟨hdom,hv,_⟩:=evT m hx (kg · _)
 have hr:=m.op y (ck hyo)
 rw [hy] at hr
 obtain⟨us,hu,hus⟩:=hr
 cases us with
 | cons u us=>exact hus.elim
 | nil =>
  have hmem:=Hp.mem_of hH
  have hown:∀ c,HB.owned e (i,.row te es (l.map enc))=some c→Γ.X e H c:=fun c hc=>.inr (List.mem_filterMap.2 ⟨_,hmem,hc⟩)
  have hXl:∀ b,Γ.X e H b→b < w.heap.size:=fun b hb=>hb.elim (fun h=>Nat.lt_of_lt_of_le (m.obound b h).1 m.size) (m.lt b)
  have hs:=hS l hl (Γ.X e H) e w i hown hXl (m.heap _ hmem).2
  simp only [List.map_cons,List.map_nil,hv,hu]
  refine hs.mono ?_
  rintro en w' ⟨rfl,h1,h2,h3,h4,h5,l',h6,h7,h8⟩
  exact⟨k,_,_,e,(m.turn (b':=.row te es (l'.map enc)) hH h1 h2 h3 h4 NoDr.any h5 rfl h8).put (s:=.tup []) (Nat.le_of_ble_eq_true hd) ⟨[],rfl,trivial⟩,hk l' h6 h7⟩
end
open Go Go.RowKit
theorem sortFacts_c:SortC Tryz.prog 78 58 58 2 a6 db:=fun l hl _ _ _ _ h1 h2 h3 =>
 sort_rowK (ρ:=Tryz.sortFacts_ren) Tryz.sortFacts 2 Tryz.isAgg58 Tryz.sizeOf58 a6 (fun _=>rfl) db swoF 58 (fun a b=>orderF_fnD true a b) 58 l hl h1 h2 h3
end Go.Proofs.YtapciiffpnociaaGreat
