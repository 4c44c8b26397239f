/- Several texts in one: WirE WirA WirB GxElm GxWin GxVew LstS TokR. Condition: none. -/
import Derived.Test.YtapciiffpnociaaGreatP08
import Derived.Test.YtapciiffpnociaaGreatP01
import Derived.Laws.MakeOwn
import Derived.Laws.OwnMore
namespace Go.Proofs.YtapciiffpnociaaGreat
open Go Go.RowKit
attribute [local irreducible] DW DS DL DQ Ev FnOk FnP em b9 DT
def bi (n:Int):List D:=[.int .i64 n]
def dj (i:UId):List D:=[.int .i64 i.author,.int .i64 i.number]
def a6 (f:Fct):List D:=[.int .i64 f.pred,.slice 1 (f.args.map bi)]
def a7 (u:Upd):List D:=[.int .i64 u.id.author,.int .i64 u.id.number,.slice 2 (u.parents.map dj),.slice 2 (u.says.map a6),.slice 2 (u.takes.map dj)]
abbrev elI (n:Int):SV:=.d (.int .i64 n)
abbrev elId (i:UId):SV:=.agg [.d (.int .i64 i.author),.d (.int .i64 i.number)]
abbrev ey (f:Fct):SV:=.agg [.d (.int .i64 f.pred),.d (.slice 1 (f.args.map bi))]
abbrev jc (u:Upd):SV:=.agg [.d (.int .i64 u.id.author),.d (.int .i64 u.id.number),.d (.slice 2 (u.parents.map dj)),.d (.slice 2 (u.says.map a6)),.d (.slice 2 (u.takes.map dj))]
set_option maxHeartbeats 8000000 in
theorem indexFuncId_fn {f:FuncId} {caps:List SV} (p:UId→Bool) (l:List (UId)) (hcap:SV.lowL 0 caps=true) (hp:∀ x∈l,Fn f (elId x::caps) (fun r=>r = .d (.bool (p x)))):Fn 103 [.d (.slice 2 (l.map dj)),.fn f caps] (fun r=>r = .d (.int .i64 (idxF p l))):=by
 refine ak _ Tryz.func103 rfl rfl (by kernel_rfl) ?_
 intro O w0 E0 β0
 refine cp (t:=0) rfl fun hb=>?_
 repeat' (first|refine z0 ?_|apply ag|apply ae|refine z16 ?_|apply ah|apply aa)
 refine bh (ι:=Nat) (fun i=>⟨0,[(0,.d (.slice 2 (l.map dj))),(1,.fn f caps),(7,.d (.int .i64 l.length)),(8,.d (.int .i64 i))],[]⟩)
  (fun i=>i≤l.length∧∀ j (hj:j < l.length),j < i→p l[j]=false) (fun i=>l.length - i) 0 ⟨Nat.zero_le _,fun j _ h=>absurd h (Nat.not_lt_zero j)⟩
  (ap id ⟨rfl,congrArg (SV.fn f) (SV.renL_id caps).symm,by simp;rfl,rfl,trivial⟩ trivial (by simp [Sl.low,SV.low,hcap]) rfl rfl rfl rfl rfl) ?_
 rintro i ⟨h1,h2⟩
 repeat' (first|refine z0 ?_|apply ag|apply ae|refine z16 ?_|apply aa)
 refine cd rfl (fun h=>?_) (fun h=>?_)
 ·have hi:i < l.length:=by omega
  have hpx:=hp l[i] (List.getElem_mem hi)
  repeat' (first|refine z0 ?_|apply ag|apply ae|refine z16 ?_|apply ah|apply ai|apply aa|(apply im;exact rfl;exact rfl;exact rfl;exact rfl;apply hpx;exact rfl;(assumption);exact rfl;rintro _ rfl))
  refine c7 rfl (fun hb=>?_) (fun hb=>?_)
  ·repeat' (first|refine z0 ?_|apply ag|apply ae|refine z16 ?_|apply aj|apply aa|apply av|apply br)
   exact cg rfl (jh h2 hi hb).symm
  ·repeat' (first|refine z0 ?_|apply ag|refine z16 ?_|apply ai|apply aa|apply bg)
   exact⟨i + 1,⟨hi,i5 h2 hi hb⟩,ap id ⟨rfl,congrArg (SV.fn f) (SV.renL_id caps).symm,rfl,rfl,trivial⟩ trivial (by simp [Sl.low,SV.low,hcap]) rfl rfl rfl rfl rfl,by omega⟩
 ·repeat' (first|refine z0 ?_|apply ag|apply ae|refine z16 ?_|apply au|apply aj|apply aa|apply aq|refine z17 ?_|fail)
  exact cg rfl (i6 fun j hj=>h2 j hj (by omega)).symm
set_option maxHeartbeats 8000000 in
theorem indexFuncFct_fn {f:FuncId} {caps:List SV} (p:Fct→Bool) (l:List (Fct)) (hcap:SV.lowL 0 caps=true) (hp:∀ x∈l,Fn f (ey x::caps) (fun r=>r = .d (.bool (p x)))):Fn 105 [.d (.slice 2 (l.map a6)),.fn f caps] (fun r=>r = .d (.int .i64 (idxF p l))):=by
 refine ak _ Tryz.func105 rfl rfl (by kernel_rfl) ?_
 intro O w0 E0 β0
 refine cp (t:=0) rfl fun hb=>?_
 repeat' (first|refine z0 ?_|apply ag|apply ae|refine z16 ?_|apply ah|apply aa)
 refine bh (ι:=Nat) (fun i=>⟨0,[(0,.d (.slice 2 (l.map a6))),(1,.fn f caps),(7,.d (.int .i64 l.length)),(8,.d (.int .i64 i))],[]⟩)
  (fun i=>i≤l.length∧∀ j (hj:j < l.length),j < i→p l[j]=false) (fun i=>l.length - i) 0 ⟨Nat.zero_le _,fun j _ h=>absurd h (Nat.not_lt_zero j)⟩
  (ap id ⟨rfl,congrArg (SV.fn f) (SV.renL_id caps).symm,by simp;rfl,rfl,trivial⟩ trivial (by simp [Sl.low,SV.low,hcap]) rfl rfl rfl rfl rfl) ?_
 rintro i ⟨h1,h2⟩
 repeat' (first|refine z0 ?_|apply ag|apply ae|refine z16 ?_|apply aa)
 refine cd rfl (fun h=>?_) (fun h=>?_)
 ·have hi:i < l.length:=by omega
  have hpx:=hp l[i] (List.getElem_mem hi)
  repeat' (first|refine z0 ?_|apply ag|apply ae|refine z16 ?_|apply ah|apply ai|apply aa|(apply im;exact rfl;exact rfl;exact rfl;exact rfl;apply hpx;exact rfl;(assumption);exact rfl;rintro _ rfl))
  refine c7 rfl (fun hb=>?_) (fun hb=>?_)
  ·repeat' (first|refine z0 ?_|apply ag|apply ae|refine z16 ?_|apply aj|apply aa|apply av|apply br)
   exact cg rfl (jh h2 hi hb).symm
  ·repeat' (first|refine z0 ?_|apply ag|refine z16 ?_|apply ai|apply aa|apply bg)
   exact⟨i + 1,⟨hi,i5 h2 hi hb⟩,ap id ⟨rfl,congrArg (SV.fn f) (SV.renL_id caps).symm,rfl,rfl,trivial⟩ trivial (by simp [Sl.low,SV.low,hcap]) rfl rfl rfl rfl rfl,by omega⟩
 ·repeat' (first|refine z0 ?_|apply ag|apply ae|refine z16 ?_|apply au|apply aj|apply aa|apply aq|refine z17 ?_|fail)
  exact cg rfl (i6 fun j hj=>h2 j hj (by omega)).symm
set_option maxHeartbeats 8000000 in
theorem indexFuncInt_fn {f:FuncId} {caps:List SV} (p:Int→Bool) (l:List (Int)) (hcap:SV.lowL 0 caps=true) (hp:∀ x∈l,Fn f (elI x::caps) (fun r=>r = .d (.bool (p x)))):Fn 122 [.d (.slice 1 (l.map bi)),.fn f caps] (fun r=>r = .d (.int .i64 (idxF p l))):=by
 refine ak _ Tryz.func122 rfl rfl (by kernel_rfl) ?_
 intro O w0 E0 β0
 refine cp (t:=0) rfl fun hb=>?_
 repeat' (first|refine z0 ?_|apply ag|apply ae|refine z16 ?_|apply ah|apply aa)
 refine bh (ι:=Nat) (fun i=>⟨0,[(0,.d (.slice 1 (l.map bi))),(1,.fn f caps),(7,.d (.int .i64 l.length)),(8,.d (.int .i64 i))],[]⟩)
  (fun i=>i≤l.length∧∀ j (hj:j < l.length),j < i→p l[j]=false) (fun i=>l.length - i) 0 ⟨Nat.zero_le _,fun j _ h=>absurd h (Nat.not_lt_zero j)⟩
  (ap id ⟨rfl,congrArg (SV.fn f) (SV.renL_id caps).symm,by simp;rfl,rfl,trivial⟩ trivial (by simp [Sl.low,SV.low,hcap]) rfl rfl rfl rfl rfl) ?_
 rintro i ⟨h1,h2⟩
 repeat' (first|refine z0 ?_|apply ag|apply ae|refine z16 ?_|apply aa)
 refine cd rfl (fun h=>?_) (fun h=>?_)
 ·have hi:i < l.length:=by omega
  have hpx:=hp l[i] (List.getElem_mem hi)
  repeat' (first|refine z0 ?_|apply ag|apply ae|refine z16 ?_|apply ah|apply ai|apply aa|(apply im;exact rfl;exact rfl;exact rfl;exact rfl;apply hpx;exact rfl;(assumption);exact rfl;rintro _ rfl))
  refine c7 rfl (fun hb=>?_) (fun hb=>?_)
  ·repeat' (first|refine z0 ?_|apply ag|apply ae|refine z16 ?_|apply aj|apply aa|apply av|apply br)
   exact cg rfl (jh h2 hi hb).symm
  ·repeat' (first|refine z0 ?_|apply ag|refine z16 ?_|apply ai|apply aa|apply bg)
   exact⟨i + 1,⟨hi,i5 h2 hi hb⟩,ap id ⟨rfl,congrArg (SV.fn f) (SV.renL_id caps).symm,rfl,rfl,trivial⟩ trivial (by simp [Sl.low,SV.low,hcap]) rfl rfl rfl rfl rfl,by omega⟩
 ·repeat' (first|refine z0 ?_|apply ag|apply ae|refine z16 ?_|apply au|apply aj|apply aa|apply aq|refine z17 ?_|fail)
  exact cg rfl (i6 fun j hj=>h2 j hj (by omega)).symm
set_option maxHeartbeats 8000000 in
theorem mh {f:FuncId} {caps:List SV} (p:UId→Bool) (l:List (UId)) (hcap:SV.lowL 0 caps=true) (hp:∀ x∈l,Fn f (elId x::caps) (fun r=>r = .d (.bool (p x)))):Fn 62 [.d (.slice 2 (l.map dj)),.fn f caps] (fun r=>r = .d (.bool (l.any p))):=by
 refine ak _ Tryz.func62 rfl rfl (by kernel_rfl) ?_
 intro O w0 E0 β0
 have hx:=indexFuncId_fn p l hcap hp
 have hlow:SV.lowL 0 [.d (.slice 2 (l.map dj)),.fn f caps]=true:=by simp [SV.lowL,SV.low,hcap]
 repeat' (first|refine z0 ?_|apply ag|apply ae|refine z16 ?_|apply aj|apply aa|refine z21 ?_ (hc:=by apply hx)|fail)
 exact cm rfl (idxF_any p l)
set_option maxHeartbeats 8000000 in
theorem containsFuncFct_fn {f:FuncId} {caps:List SV} (p:Fct→Bool) (l:List (Fct)) (hcap:SV.lowL 0 caps=true) (hp:∀ x∈l,Fn f (ey x::caps) (fun r=>r = .d (.bool (p x)))):Fn 66 [.d (.slice 2 (l.map a6)),.fn f caps] (fun r=>r = .d (.bool (l.any p))):=by
 refine ak _ Tryz.func66 rfl rfl (by kernel_rfl) ?_
 intro O w0 E0 β0
 have hx:=indexFuncFct_fn p l hcap hp
 have hlow:SV.lowL 0 [.d (.slice 2 (l.map a6)),.fn f caps]=true:=by simp [SV.lowL,SV.low,hcap]
 repeat' (first|refine z0 ?_|apply ag|apply ae|refine z16 ?_|apply aj|apply aa|refine z21 ?_ (hc:=by apply hx)|fail)
 exact cm rfl (idxF_any p l)
set_option maxHeartbeats 8000000 in
theorem containsFuncInt_fn {f:FuncId} {caps:List SV} (p:Int→Bool) (l:List (Int)) (hcap:SV.lowL 0 caps=true) (hp:∀ x∈l,Fn f (elI x::caps) (fun r=>r = .d (.bool (p x)))):Fn 94 [.d (.slice 1 (l.map bi)),.fn f caps] (fun r=>r = .d (.bool (l.any p))):=by
 refine ak _ Tryz.func94 rfl rfl (by kernel_rfl) ?_
 intro O w0 E0 β0
 have hx:=indexFuncInt_fn p l hcap hp
 have hlow:SV.lowL 0 [.d (.slice 1 (l.map bi)),.fn f caps]=true:=by simp [SV.lowL,SV.low,hcap]
 repeat' (first|refine z0 ?_|apply ag|apply ae|refine z16 ?_|apply aj|apply aa|refine z21 ?_ (hc:=by apply hx)|fail)
 exact cm rfl (idxF_any p l)
theorem rises_bad {α:Type} {o:α→α→Int} {l:List α} {i:Nat} (hi:i + 1 < l.length) (h:0≤o (l[i]'(by omega)) l[i + 1]):e6 o (l.drop i)=false:=by
 rw [List.drop_eq_getElem_cons (by omega),List.drop_eq_getElem_cons hi,e6,decide_eq_false (by omega)];rfl
theorem rises_ok {α:Type} {o:α→α→Int} {l:List α} {i:Nat} (hi:i + 1 < l.length) (h:o (l[i]'(by omega)) l[i + 1] < 0):e6 o (l.drop i)=e6 o (l.drop (i + 1)):=by
 rw [List.drop_eq_getElem_cons (show i < l.length by omega),List.drop_eq_getElem_cons hi,e6,decide_eq_true h];rfl
theorem rises_end {α:Type} {o:α→α→Int} {l:List α} {i:Nat} (hi:l.length≤i + 1):e6 o (l.drop i)=true:=by
 by_cases h:i < l.length
 ·rw [List.drop_eq_getElem_cons h,List.drop_of_length_le hi];unfold e6;rfl
 ·rw [List.drop_of_length_le (by omega)];unfold e6;rfl
set_option maxHeartbeats 8000000 in
theorem isNaN_fnD (dr:Bool) (a:Int):FnD dr 125 [.d (.int .i64 a)] (fun r=>r = .d (.bool false)):=by
 refine ak _ Tryz.func125 rfl rfl (by kernel_rfl) ?_
 intro O w0 E0 β0
 repeat' (first|refine z0 ?_|apply ag|apply ae|refine z16 ?_|apply aj|apply aa)
 exact cm rfl (by simp)
set_option maxHeartbeats 8000000 in
theorem compare_fnD (dr:Bool) (a b:Int):FnD dr 100 [.d (.int .i64 a),.d (.int .i64 b)] (fun r=>r = .d (.int .i64 (fc a b))):=by
 refine ak _ Tryz.func100 rfl rfl (by kernel_rfl) ?_
 intro O w0 E0 β0
 repeat' (first|refine z0 ?_|apply ag|apply ae|refine z16 ?_|apply ai|apply aj|refine z19 ?_|apply aa|apply av|refine z21 ?_ (hc:=by apply isNaN_fnD)|(refine z23 ?_ ?_ <;> intro hg)|fail)
 all_goals exact cg rfl (by unfold fc;simp [*])
theorem compare_fn (a b:Int):Fn 100 [.d (.int .i64 a),.d (.int .i64 b)] (fun r=>r = .d (.int .i64 (fc a b))):=compare_fnD false a b
def orL:List Int→Int
 | []=>0
 | a::l=>if a=0 then orL l else a
set_option maxHeartbeats 8000000 in
theorem or_fnD (dr:Bool) (l:List Int):FnD dr 99 [.d (.slice 1 (l.map bi))] (fun r=>r = .d (.int .i64 (orL l))):=by
 refine ak _ Tryz.func99 rfl rfl (by kernel_rfl) ?_
 intro O w0 E0 β0
 refine cp (t:=0) rfl fun hb=>?_
 repeat' (first|refine z0 ?_|apply ag|apply ae|refine z16 ?_|apply ah|apply aa)
 refine bh (ι:=Nat) (fun i=>⟨0,[(3,.d (.int .i64 0)),(6,.d (.slice 1 (l.map bi))),(7,.d (.int .i64 l.length)),(8,.d (.int .i64 i))],[]⟩)
  (fun i=>i≤l.length∧orL l=orL (l.drop i)) (fun i=>l.length - i) 0 ⟨Nat.zero_le _,rfl⟩
  (ap id ⟨rfl,rfl,by simp;rfl,rfl,trivial⟩ trivial rfl rfl rfl rfl rfl rfl) ?_
 rintro i ⟨h1,h2⟩
 repeat' (first|refine z0 ?_|apply ag|apply ae|refine z16 ?_|apply aa)
 refine cd rfl (fun h=>?_) (fun h=>?_)
 ·have hi:i < l.length:=by omega
  have hd:=List.drop_eq_getElem_cons hi
  repeat' (first|refine z0 ?_|apply ag|apply ae|refine z16 ?_|apply ah|apply ai|apply aa)
  refine cd rfl (fun hb=>?_) (fun hb=>?_)
  ·repeat' (first|refine z0 ?_|apply ag|apply ae|refine z16 ?_|apply aj|apply aa|apply av|apply br)
   exact cg rfl (by rw [h2,hd,orL,if_neg hb])
  ·repeat' (first|refine z0 ?_|apply ag|refine z16 ?_|apply ai|apply aa|apply bg)
   exact⟨i + 1,⟨hi,by rw [h2,hd,orL,if_pos (Decidable.not_not.1 hb)]⟩,ap id ⟨rfl,rfl,rfl,rfl,trivial⟩ trivial rfl rfl rfl rfl rfl rfl,by omega⟩
 ·repeat' (first|refine z0 ?_|apply ag|apply ae|refine z16 ?_|apply au|apply aj|apply aa|apply aq|refine z17 ?_|fail)
  exact cg rfl (by rw [h2,List.drop_of_length_le (by omega)];rfl)
theorem or_fn (l:List Int):Fn 99 [.d (.slice 1 (l.map bi))] (fun r=>r = .d (.int .i64 (orL l))):=or_fnD false l
theorem ordId_or (a b:UId):cv a b=orL [fc a.author b.author,fc a.number b.number]:=by
 unfold cv
 simp only [orL]
 split
 ·split
  ·assumption
  ·rfl
 ·rfl
set_option maxHeartbeats 8000000 in
theorem order_fn (a b:UId):Fn 64 [elId a,elId b] (fun r=>r = .d (.int .i64 (cv a b))):=by
 refine ak _ Tryz.func64 rfl rfl (by kernel_rfl) ?_
 intro O w0 E0 β0
 have ho:=or_fn [fc a.author b.author,fc a.number b.number]
 repeat' (first|refine z0 ?_|apply ag|refine z5 ?_|refine z10 ?_|apply ae|refine z16 ?_|refine z20 ?_|apply aj|apply aa|refine z22 ?_ (hc:=by apply compare_fn)|refine z22 ?_ (hc:=by apply ho)|refine z1 ?_|fail)
 exact cg rfl (ordId_or a b).symm
theorem ordL_step {l m:List Int} {i:Nat} (h1:i < l.length) (h2:i < m.length):ep (l.drop i) (m.drop i)=if fc l[i] m[i]=0 then ep (l.drop (i + 1)) (m.drop (i + 1)) else fc l[i] m[i]:=by
 rw [List.drop_eq_getElem_cons h1,List.drop_eq_getElem_cons h2,ep]
theorem ordL_more {l m:List Int} {i:Nat} (h1:i < l.length) (h2:m.length≤i):ep (l.drop i) (m.drop i)=1:=by
 rw [List.drop_eq_getElem_cons h1,List.drop_of_length_le h2];unfold ep;rfl
theorem ordL_less {l m:List Int} {i:Nat} (h1:l.length≤i) (h2:i < m.length):ep (l.drop i) (m.drop i) = -1:=by
 rw [List.drop_eq_getElem_cons h2,List.drop_of_length_le h1];unfold ep;rfl
theorem ordL_end {l m:List Int} {i:Nat} (h1:l.length≤i) (h2:m.length≤i):ep (l.drop i) (m.drop i)=0:=by
 rw [List.drop_of_length_le h1,List.drop_of_length_le h2];unfold ep;rfl
set_option maxHeartbeats 8000000 in
theorem compareInts_fnD (dr:Bool) (l m:List Int):FnD dr 101 [.d (.slice 1 (l.map bi)),.d (.slice 1 (m.map bi))] (fun r=>r = .d (.int .i64 (ep l m))):=by
 refine ak _ Tryz.func101 rfl rfl (by kernel_rfl) ?_
 intro O w0 E0 β0
 refine cp (t:=0) rfl fun hb=>?_
 refine cp (t:=1) rfl fun hb2=>?_
 repeat' (first|refine z0 ?_|apply ag|apply ae|refine z16 ?_|apply ah|apply aa)
 refine bh (ι:=Nat) (fun i=>⟨0,[(0,.d (.slice 1 (l.map bi))),(1,.d (.slice 1 (m.map bi))),(9,.d (.slice 1 (l.map bi))),(10,.d (.int .i64 l.length)),(11,.d (.int .i64 i))],[]⟩)
  (fun i=>i≤l.length∧i≤m.length∧ep l m=ep (l.drop i) (m.drop i)) (fun i=>l.length - i) 0 ⟨Nat.zero_le _,Nat.zero_le _,rfl⟩
  (ap id ⟨rfl,rfl,rfl,by simp;rfl,rfl,trivial⟩ trivial rfl rfl rfl rfl rfl rfl) ?_
 rintro i ⟨h1,h2,h3⟩
 repeat' (first|refine z0 ?_|apply ag|apply ae|refine z16 ?_|apply aa)
 refine cd rfl (fun h=>?_) (fun h=>?_)
 ·have hi:i < l.length:=by omega
  repeat' (first|refine z0 ?_|apply ag|apply ae|refine z16 ?_|apply ah|apply ai|apply aa)
  refine cd rfl (fun hb=>?_) (fun hb=>?_)
  ·repeat' (first|refine z0 ?_|apply ag|apply ae|refine z16 ?_|apply aj|apply aa|apply av|apply br)
   exact cg rfl (by rw [h3,ordL_more hi (by rw [List.length_map] at hb;omega)])
  ·have hm:i < m.length:=by rw [List.length_map] at hb;omega
   have hs:=ordL_step hi hm
   repeat' (first|refine z0 ?_|apply ag|apply ae|refine z16 ?_|apply ai|apply aa|refine z21 ?_ (hc:=by apply compare_fnD)|fail)
   refine cd rfl (fun hc=>?_) (fun hc=>?_)
   ·repeat' (first|refine z0 ?_|apply ag|apply ae|refine z16 ?_|apply aj|apply aa|apply av|apply br)
    exact cg rfl (by rw [h3,hs,if_neg hc])
   ·repeat' (first|refine z0 ?_|apply ag|refine z16 ?_|apply ai|apply aa|apply bg)
    exact⟨i + 1,⟨hi,hm,by rw [h3,hs,if_pos (Decidable.not_not.1 hc)]⟩,ap id ⟨rfl,rfl,rfl,rfl,rfl,trivial⟩ trivial rfl rfl rfl rfl rfl rfl,by omega⟩
 ·repeat' (first|refine z0 ?_|apply ag|apply ae|refine z16 ?_|apply au|apply aa|apply aq|refine z17 ?_|fail)
  refine cd rfl (fun hb=>?_) (fun hb=>?_)
  ·repeat' (first|refine z0 ?_|apply ag|apply ae|refine z16 ?_|apply aj|apply aa|apply av)
   exact cg rfl (by rw [h3,ordL_less (by omega) (by rw [List.length_map,List.length_map] at hb;omega)])
  ·repeat' (first|refine z0 ?_|apply ag|apply ae|refine z16 ?_|apply ai|apply aj|apply aa)
   exact cg rfl (by rw [h3,ordL_end (by omega) (by rw [List.length_map,List.length_map] at hb;omega)])
theorem ordF_or (a b:Fct):db a b=orL [fc a.pred b.pred,ep a.args b.args]:=by
 unfold db
 simp only [orL]
 split
 ·split
  ·assumption
  ·rfl
 ·rfl
set_option maxHeartbeats 8000000 in
theorem orderF_fnD (dr:Bool) (a b:Fct):FnD dr 58 [ey a,ey b] (fun r=>r = .d (.int .i64 (db a b))):=by
 refine ak _ Tryz.func58 rfl rfl (by kernel_rfl) ?_
 intro O w0 E0 β0
 have ho:=or_fnD dr [fc a.pred b.pred,ep a.args b.args]
 repeat' (first|refine z0 ?_|apply ag|refine z5 ?_|refine z10 ?_|apply ae|refine z16 ?_|refine z20 ?_|apply aj|apply aa|refine z22 ?_ (hc:=by apply compare_fnD)|refine z22 ?_ (hc:=by apply compareInts_fnD)|refine z22 ?_ (hc:=by apply ho)|refine z1 ?_|fail)
 exact cg rfl (ordF_or a b).symm
theorem orderF_fn (a b:Fct):Fn 58 [ey a,ey b] (fun r=>r = .d (.int .i64 (db a b))):=orderF_fnD false a b
set_option maxHeartbeats 8000000 in
theorem risesId_fn {f:FuncId} (o:UId→UId→Int) (l:List (UId)) (hp:∀ x y,Fn f [elId x,elId y] (fun r=>r = .d (.int .i64 (o x y)))):Fn 63 [.d (.slice 2 (l.map dj)),.fn f []] (fun r=>r = .d (.bool (e6 o l))):=by
 refine ak _ Tryz.func63 rfl rfl (by kernel_rfl) ?_
 intro O w0 E0 β0
 refine cp (t:=0) rfl fun hb=>?_
 repeat' (first|refine z0 ?_|apply ag|apply ae|refine z16 ?_|apply ah|apply aa)
 refine bh (ι:=Nat) (fun i=>⟨0,[(0,.d (.slice 2 (l.map dj))),(1,.fn f []),(5,.d (.int .i64 ((i:Int) + 1)))],[]⟩)
  (fun i=>i≤l.length∧e6 o l=e6 o (l.drop i)) (fun i=>l.length - i) 0 ⟨Nat.zero_le _,rfl⟩
  (ap id ⟨rfl,rfl,rfl,trivial⟩ trivial rfl rfl rfl rfl rfl rfl) ?_
 rintro i ⟨h1,h2⟩
 repeat' (first|refine z0 ?_|apply ag|apply ae|refine z16 ?_|apply aa)
 refine cd rfl (fun h=>?_) (fun h=>?_)
 ·have hi:i + 1 < l.length:=by have:=h;rw [List.length_map] at this;omega
  have e0:∀ (j:Nat) (hj:j < l.length),j=i→l[j]'hj=l[i]'(by omega):=by rintro j hj rfl;rfl
  have hpx:=hp (l[((i:Int) + 1 - 1).toNat]'(by omega)) (l[i + 1]'hi)
  repeat' (first|refine z5 ?_|refine z10 ?_|apply ae|refine z20 ?_|apply ah|apply ai|apply aa|(apply ik;exact rfl;exact rfl;exact rfl;exact rfl;apply hpx;exact rfl;(exact rfl);exact rfl;exact rfl;exact⟨_,rfl⟩;rintro _ rfl))
  refine cd rfl (fun hb=>?_) (fun hb=>?_)
  ·repeat' (first|refine z0 ?_|apply ag|apply ae|refine z16 ?_|apply aj|apply aa|apply av|apply br)
   rw [e0 _ _ (by omega)] at hb
   exact cm rfl (by rw [h2,rises_bad hi (by omega)])
  ·repeat' (first|refine z0 ?_|apply ag|refine z16 ?_|apply ai|apply aa|apply bg)
   rw [e0 _ _ (by omega)] at hb
   exact⟨i + 1,⟨by omega,by rw [h2,rises_ok hi (by omega)]⟩,ap id ⟨rfl,rfl,rfl,trivial⟩ trivial rfl rfl rfl rfl rfl rfl,by omega⟩
 ·repeat' (first|refine z0 ?_|apply ag|apply ae|refine z16 ?_|apply au|apply aj|apply aa|apply aq|refine z17 ?_|fail)
  exact cm rfl (by rw [h2,rises_end (by have:=h;rw [List.length_map] at this;omega)])
set_option maxHeartbeats 8000000 in
theorem risesFct_fn {f:FuncId} (o:Fct→Fct→Int) (l:List (Fct)) (hp:∀ x y,Fn f [ey x,ey y] (fun r=>r = .d (.int .i64 (o x y)))):Fn 69 [.d (.slice 2 (l.map a6)),.fn f []] (fun r=>r = .d (.bool (e6 o l))):=by
 refine ak _ Tryz.func69 rfl rfl (by kernel_rfl) ?_
 intro O w0 E0 β0
 refine cp (t:=0) rfl fun hb=>?_
 repeat' (first|refine z0 ?_|apply ag|apply ae|refine z16 ?_|apply ah|apply aa)
 refine bh (ι:=Nat) (fun i=>⟨0,[(0,.d (.slice 2 (l.map a6))),(1,.fn f []),(5,.d (.int .i64 ((i:Int) + 1)))],[]⟩)
  (fun i=>i≤l.length∧e6 o l=e6 o (l.drop i)) (fun i=>l.length - i) 0 ⟨Nat.zero_le _,rfl⟩
  (ap id ⟨rfl,rfl,rfl,trivial⟩ trivial rfl rfl rfl rfl rfl rfl) ?_
 rintro i ⟨h1,h2⟩
 repeat' (first|refine z0 ?_|apply ag|apply ae|refine z16 ?_|apply aa)
 refine cd rfl (fun h=>?_) (fun h=>?_)
 ·have hi:i + 1 < l.length:=by have:=h;rw [List.length_map] at this;omega
  have e0:∀ (j:Nat) (hj:j < l.length),j=i→l[j]'hj=l[i]'(by omega):=by rintro j hj rfl;rfl
  have hpx:=hp (l[((i:Int) + 1 - 1).toNat]'(by omega)) (l[i + 1]'hi)
  repeat' (first|refine z5 ?_|refine z10 ?_|apply ae|refine z20 ?_|apply ah|apply ai|apply aa|(apply ik;exact rfl;exact rfl;exact rfl;exact rfl;apply hpx;exact rfl;(exact rfl);exact rfl;exact rfl;exact⟨_,rfl⟩;rintro _ rfl))
  refine cd rfl (fun hb=>?_) (fun hb=>?_)
  ·repeat' (first|refine z0 ?_|apply ag|apply ae|refine z16 ?_|apply aj|apply aa|apply av|apply br)
   rw [e0 _ _ (by omega)] at hb
   exact cm rfl (by rw [h2,rises_bad hi (by omega)])
  ·repeat' (first|refine z0 ?_|apply ag|refine z16 ?_|apply ai|apply aa|apply bg)
   rw [e0 _ _ (by omega)] at hb
   exact⟨i + 1,⟨by omega,by rw [h2,rises_ok hi (by omega)]⟩,ap id ⟨rfl,rfl,rfl,trivial⟩ trivial rfl rfl rfl rfl rfl rfl,by omega⟩
 ·repeat' (first|refine z0 ?_|apply ag|apply ae|refine z16 ?_|apply au|apply aj|apply aa|apply aq|refine z17 ?_|fail)
  exact cm rfl (by rw [h2,rises_end (by have:=h;rw [List.length_map] at this;omega)])
set_option maxHeartbeats 8000000 in
theorem within_fn (n a b:Int):Fn 102 [.d (.int .i64 n),.d (.int .i64 a),.d (.int .i64 b)] (fun r=>r = .d (.bool (inR n a b))):=by
 refine ak _ Tryz.func102 rfl rfl (by kernel_rfl) ?_
 intro O w0 E0 β0
 repeat' (first|refine z0 ?_|refine z12 ?_|apply ag|apply ae|refine z16 ?_|apply aj|apply aa|((fail_if_success (apply bk;exact rfl));apply bl;exact rfl;exact rfl;exact rfl;all_goals intro hg))
 all_goals exact cm rfl (by unfold inR;first|(simp_all;done)|(simp_all;omega))
set_option maxHeartbeats 8000000 in
theorem wwithin_fn (n a b:Int):Fn 82 [.d (.int .i64 n),.d (.int .i64 a),.d (.int .i64 b)] (fun r=>r = .d (.bool (inR n a b))):=by
 refine ak _ Tryz.func82 rfl rfl (by kernel_rfl) ?_
 intro O w0 E0 β0
 repeat' (first|refine z0 ?_|refine z12 ?_|apply ag|apply ae|refine z16 ?_|apply aj|apply aa|((fail_if_success (apply bk;exact rfl));apply bl;exact rfl;exact rfl;exact rfl;all_goals intro hg))
 all_goals exact cm rfl (by unfold inR;first|(simp_all;done)|(simp_all;omega))
set_option maxHeartbeats 8000000 in
theorem number_fn (n:Int):Fn 96 [.d (.int .i64 n)] (fun r=>r = .d (.bool (numB n))):=by
 refine ak _ Tryz.func96 rfl rfl (by kernel_rfl) ?_
 intro O w0 E0 β0
 repeat' (first|refine z0 ?_|apply ag|apply ae|refine z16 ?_|apply aj|apply aa|refine z21 ?_ (hc:=by apply wwithin_fn)|fail)
 exact cm rfl rfl
set_option maxHeartbeats 8000000 in
theorem right_fn (i:UId):Fn 61 [elId i] (fun r=>r = .d (.bool (idB i))):=by
 refine ak _ Tryz.func61 rfl rfl (by kernel_rfl) ?_
 intro O w0 E0 β0
 repeat' (first|refine z0 ?_|refine z12 ?_|apply ag|apply ae|refine z16 ?_|apply aj|apply aa|refine z21 ?_ (hc:=by apply within_fn)|refine z1 ?_|((fail_if_success (apply bk;exact rfl));apply jr;exact rfl;exact rfl;exact rfl;all_goals intro hg))
 all_goals exact cm rfl (by unfold idB;simp [*])
set_option maxHeartbeats 8000000 in
theorem wrong_fn (i:UId):Fn 60 [elId i] (fun r=>r = .d (.bool (!idB i))):=by
 refine ak _ Tryz.func60 rfl rfl (by kernel_rfl) ?_
 intro O w0 E0 β0
 repeat' (first|refine z0 ?_|apply ag|apply ae|refine z16 ?_|apply aj|apply aa|refine z21 ?_ (hc:=by apply right_fn)|refine z1 ?_|fail)
 exact cm rfl rfl
set_option maxHeartbeats 8000000 in
theorem noNum_fn (n:Int):Fn 106 [elI n] (fun r=>r = .d (.bool (!numB n))):=by
 refine ak _ Tryz.func106 rfl rfl (by kernel_rfl) ?_
 intro O w0 E0 β0
 repeat' (first|refine z0 ?_|apply ag|apply ae|refine z16 ?_|apply aj|apply aa|refine z21 ?_ (hc:=by apply number_fn)|fail)
 exact cm rfl rfl
set_option maxHeartbeats 8000000 in
theorem says_fn (f:Fct):Fn 68 [ey f] (fun r=>r = .d (.bool (saysB f))):=by
 refine ak _ Tryz.func68 rfl rfl (by kernel_rfl) ?_
 intro O w0 E0 β0
 have hc:=containsFuncInt_fn (fun n=>!numB n) f.args rfl fun x _=>noNum_fn x
 repeat' (first|refine z0 ?_|refine z12 ?_|apply ag|apply ae|refine z16 ?_|apply aj|apply aa|refine z21 ?_ (hc:=by apply within_fn)|refine z21 ?_ (hc:=by apply hc)|refine z1 ?_|((fail_if_success (apply bk;exact rfl));apply bl;exact rfl;exact rfl;exact rfl;all_goals intro hg)|((fail_if_success (apply bk;exact rfl));apply jr;exact rfl;exact rfl;exact rfl;all_goals intro hg))
 all_goals exact cm rfl (by unfold saysB;rw [all_any];first|(simp_all;done)|(simp_all;omega)|(simp_all;intros;omega))
set_option maxHeartbeats 8000000 in
theorem noSays_fn (f:Fct):Fn 67 [ey f] (fun r=>r = .d (.bool (!saysB f))):=by
 refine ak _ Tryz.func67 rfl rfl (by kernel_rfl) ?_
 intro O w0 E0 β0
 repeat' (first|refine z0 ?_|apply ag|apply ae|refine z16 ?_|apply aj|apply aa|refine z21 ?_ (hc:=by apply says_fn)|refine z1 ?_|fail)
 exact cm rfl rfl
theorem same_beq {x y:UId} {b:Bool} (h:(decide (y.author=x.author) && (decide (y.number=x.number) && true))=b):UId.same x y=b:=by
 rw [← h]
 unfold UId.same
 rw [Bool.and_true]
 congr 1 <;> (rw [Bool.eq_iff_iff];simp;exact eq_comm)
set_option maxHeartbeats 8000000 in
theorem indexId_fn (y:UId) (l:List (UId)):Fn 104 [.d (.slice 2 (l.map dj)),elId y] (fun r=>r = .d (.int .i64 (idxF (fun x=>UId.same x y) l))):=by
 refine ak _ Tryz.func104 rfl rfl (by kernel_rfl) ?_
 intro O w0 E0 β0
 refine cp (t:=0) rfl fun hb=>?_
 repeat' (first|refine z0 ?_|apply ag|apply ae|refine z16 ?_|apply ah|apply aa|refine z1 ?_|fail)
 refine bh (ι:=Nat) (fun i=>⟨1,[(0,.d (.slice 2 (l.map dj))),(3,.loc 0 0),(7,.d (.int .i64 l.length)),(8,.d (.int .i64 i))],[(0,.blk 50 [.d (.int .i64 y.author),.d (.int .i64 y.number)])]⟩)
  (fun i=>i≤l.length∧∀ j (hj:j < l.length),j < i→UId.same l[j] y=false) (fun i=>l.length - i) 0 ⟨Nat.zero_le _,fun j _ h=>absurd h (Nat.not_lt_zero j)⟩
  (ap id ⟨rfl,rfl,by simp;rfl,rfl,trivial⟩ ⟨rfl,trivial⟩ rfl rfl rfl rfl rfl rfl) ?_
 rintro i ⟨h1,h2⟩
 repeat' (first|refine z0 ?_|apply ag|apply ae|refine z16 ?_|apply aa)
 refine cd rfl (fun h=>?_) (fun h=>?_)
 ·have hi:i < l.length:=by omega
  repeat' (first|refine z0 ?_|apply ag|refine z5 ?_|refine z10 ?_|apply ae|refine z16 ?_|refine z20 ?_|apply ah|apply ai|apply aa)
  refine c7 rfl (fun hb=>?_) (fun hb=>?_)
  ·repeat' (first|refine z0 ?_|apply ag|apply ae|refine z16 ?_|apply aj|apply aa|apply av|apply br)
   exact cg rfl (jh (p:=fun x=>UId.same x y) h2 hi (same_beq hb)).symm
  ·repeat' (first|refine z0 ?_|apply ag|refine z16 ?_|apply ai|apply aa|apply bg)
   exact⟨i + 1,⟨hi,i5 (p:=fun x=>UId.same x y) h2 hi (same_beq hb)⟩,ap id ⟨rfl,rfl,rfl,rfl,trivial⟩ ⟨rfl,trivial⟩ rfl rfl rfl rfl rfl rfl,by omega⟩
 ·repeat' (first|refine z0 ?_|apply ag|apply ae|refine z16 ?_|apply au|apply aj|apply aa|apply aq|refine z17 ?_|fail)
  exact cg rfl (i6 fun j hj=>h2 j hj (by omega)).symm
set_option maxHeartbeats 8000000 in
theorem containsId_fn (y:UId) (l:List UId):Fn 65 [.d (.slice 2 (l.map dj)),elId y] (fun r=>r = .d (.bool (l.any fun x=>x.same y))):=by
 refine ak _ Tryz.func65 rfl rfl (by kernel_rfl) ?_
 intro O w0 E0 β0
 repeat' (first|refine z0 ?_|apply ag|apply ae|refine z16 ?_|apply aj|apply aa|refine z21 ?_ (hc:=by apply indexId_fn)|refine z1 ?_|fail)
 exact cm rfl (idxF_any _ l)
set_option maxHeartbeats 8000000 in
theorem checkU_fn (u:Upd):Fn 33 [jc u] (fun r=>r = .d (.int .i64 (dy u))):=by
 refine ak _ Tryz.func33 rfl rfl (by kernel_rfl) ?_
 intro O w0 E0 β0
 have h1:=mh (fun i=>!idB i) u.parents rfl fun x _=>wrong_fn x
 have h2:=mh (fun i=>!idB i) u.takes rfl fun x _=>wrong_fn x
 have h3:=risesId_fn cv u.parents order_fn
 have h4:=risesId_fn cv u.takes order_fn
 have h5:=containsId_fn ⟨u.id.author,u.id.number - 1⟩ u.parents
 have h6:=containsFuncFct_fn (fun f=>!saysB f) u.says rfl fun x _=>noSays_fn x
 have h7:=risesFct_fn db u.says orderF_fn
 have h8:=wrong_fn u.id
 rw [← Bool.not_not (b:=u.parents.any _),← all_any] at h1
 rw [← Bool.not_not (b:=u.takes.any _),← all_any] at h2
 rw [← Bool.not_not (b:=u.says.any _),← all_any] at h6
 unfold dy
 have hid:=fun h=>(idB_parts (i:=u.id) h).2.2.2
 have hid1:=fun h=>(idB_parts (i:=u.id) h).2.2.1
 generalize idB u.id=b0 at *
 have hidN:b0=false∨(b0=true∧1≤u.id.number∧u.id.number≤200):=by
  cases b0 with
  | false=>exact .inl rfl
  | true=>exact .inr ⟨rfl,hid1 rfl,hid rfl⟩
 clear hid hid1
 rcases hidN with rfl|⟨rfl,n1,n2⟩
 ·repeat' (first|refine z0 ?_|apply ag|apply ae|refine z16 ?_|apply ah|apply aj|refine z18 ?_|apply aa|apply av|apply br|(apply im;exact rfl;exact rfl;exact rfl;exact rfl;apply h8;exact rfl;(exact rfl);exact rfl;rintro _ rfl)|refine z1 ?_|fail)
  all_goals exact cg rfl (by simp)
 generalize (u.parents.all fun x=>idB x)=b1 at *
 generalize (u.takes.all fun x=>idB x)=b2 at *
 generalize e6 cv u.parents=b3 at *
 generalize e6 cv u.takes=b4 at *
 generalize (u.parents.any fun x=>x.same ⟨u.id.author,u.id.number - 1⟩)=b5 at *
 generalize (u.says.all fun x=>saysB x)=b6 at *
 generalize e6 db u.says=b7 at *
 repeat' (first|refine z0 ?_|refine z12 ?_|apply ag|apply ae|refine z16 ?_|apply ah|apply ai|apply aj|refine z18 ?_|refine z19 ?_|apply aa|apply av|apply bg|apply br|(apply im;exact rfl;exact rfl;exact rfl;exact rfl;apply h8;exact rfl;(exact rfl);exact rfl;rintro _ rfl)|refine z21 ?_ (hc:=by apply h1)|refine z21 ?_ (hc:=by apply h2)|refine z21 ?_ (hc:=by apply h3)|refine z21 ?_ (hc:=by apply h4)|refine z21 ?_ (hc:=by apply h5)|refine z21 ?_ (hc:=by apply h6)|refine z21 ?_ (hc:=by apply h7)|refine z1 ?_|(refine z23 ?_ ?_ <;> intro hg)|(apply c7;exact rfl;all_goals intro hg)|((fail_if_success (apply bk;exact rfl));apply bl;exact rfl;exact rfl;exact rfl;all_goals intro hg)|((fail_if_success (apply bk;exact rfl));apply jr;exact rfl;exact rfl;exact rfl;all_goals intro hg))
 all_goals
  refine cg rfl ?_
  clear h1 h2 h3 h4 h5 h6 h7 h8
  first|(simp_all;done)|(simp_all;omega)|(simp_all;intros;omega)
end Go.Proofs.YtapciiffpnociaaGreat
namespace Go.Proofs.YtapciiffpnociaaGreat
open Go Go.RowKit
section
variable {Γ : Ctx} {k : Nat → Prop} {L : Sl} {H : Hp} {K : cq} {ops : List Oper} {rest : List Oper} {a : Act} {w : World} {e : Env} {t t' ty : TypeId} {x y : Operand}
end
section
variable {Γ : Ctx} {k : Nat} {L : Sl} {H : Hp} {K : cq} {ops : List Oper} {rest : List Oper} {t t' ty : TypeId} {x y : Operand} {q : Bool}
theorem e7 (a:Nat):((a + 1:Nat):Int) - 1=(a:Int):=by omega
theorem hv_set {α:Type} {f:α→List D} {l:List α} {j o:Nat} {u v:α} {new:List D} (h:gq (f u) o new=f v):(l.map f).set j (gq (f u) o new)=(l.set j v).map f:=by rw [h,List.map_set]
theorem hv_drop {α:Type} {f:α→List D} {l:List α} {n:Int} {j N:Nat} (hn:n=(j:Int)):(((l.map f).take ((N:Int)).toNat).drop n.toNat)=((l.take N).drop j).map f:=by subst hn;simp
theorem hv_take {α:Type} {f:α→List D} {l:List α} {n:Int} {j:Nat} (hn:n=(j:Int)):(((l.map f).take n.toNat).drop (0:Int).toNat)=(l.take j).map f:=by subst hn;simp
theorem ds_stP {te tb:TypeId} {pos:String} {af:Array Edge} {g:Option (Nat × Bool)} {i j es o:Nat} {xs ys:List (List D)} {s:SV} {ds new:List D} {H':Hp} (hx:a8 L x = .prow i j es o) (hH:Hp.get H i=some (.row tb es xs)) (hds:xs[j]? = some ds)
  (hy:a8 L y=s) (hd:dcells s=some new) (hys:xs.set j (gq ds o new)=ys) (hH':setF H i (.row tb es ys) some=some H') (hyo:c9 y=true) (hkn:(ay Γ.τ te).sh.known=true) (hn:Nat.beq new.length (ay Γ.τ te).cells=true) (hle:Nat.ble (o + new.length) es=true)
  (hw:bf ops L g=some true) (hk:DS false Γ ops rest K k L H'):DS false Γ ops (⟨none,.store te x y,ty,pos,af,g⟩::rest) K k L H:=by
 have hj:j < xs.length:=(List.getElem?_eq_some_iff.1 hds).1
 have he:=(List.getElem?_eq_some_iff.1 hds).2
 subst hys
 rw [← he] at hH'
 rw [ke] at hH'
 cases hH'
 exact dl_op hw (op_storeP hx hH hj hy hyo hd hkn hn hle) hk
theorem ds_slD {d es:Nat} {xs ys:List (List D)} {lo hi:Option Operand} {n m':Int} {pos:String} {af:Array Edge} {g:Option (Nat × Bool)} (hx:a8 L x = .d (.slice es xs)) (ht:(ay Γ.τ t).sh = .slice t') (hc:(ay Γ.τ t').cells=es) (hkn:(ay Γ.τ t').sh.known=true)
  (hl:lowC (lo.map (a8 L))=some n) (hh:iz xs.length (hi.map (a8 L))=some m') (h0:0≤n∧n≤m'∧m'≤xs.length) (hys:(xs.take m'.toNat).drop n.toNat=ys) (hw:bf ops L g=some true) (hd:Nat.blt d Γ.n=true)
  (hk:DS q Γ ops rest K k ((d,.d (.slice es ys))::L) H):DS q Γ ops (⟨some d,.slice t x lo hi none,ty,pos,af,g⟩::rest) K k L H:=by
 subst hys
 exact il (ev_sliceD ht hc hkn hx hl hh h0.1 h0.2.1 h0.2.2) hw hd hk
theorem ds_mk (ys:List (List D)) {d n:Nat} {te:TypeId} {pos:String} {af:Array Edge} {g:Option (Nat × Bool)} {x y:Operand} {m':Int} {v0:Value} {x0:D} (hx:a8 L x = .d (.int .i64 m')) (hy:a8 L y = .d (.int .i64 m')) (hn:m' = (n:Int)) (ht:(ay Γ.τ t).sh = .slice te)
  (hkn:(ay Γ.τ te).sh.known=true) (hes:(ay Γ.τ te).cells=1) (hzero:(ay Γ.τ te).zero=[v0]) (hx0:cSV v0 = .d x0) (hzok:gg (ay Γ.τ te).zero=true) (hroom:(ay Γ.τ te).bytes * n≤281474976710656) (hmax:n≤maxLen) (hys:List.replicate n [x0]=ys)
  (hw:bf ops L g=some true) (hd:Nat.blt d Γ.n=true) (hk:DS false Γ ops rest K (k + 1) ((d,.row k)::L) ((k,.row te 1 ys)::H)):DS false Γ ops (⟨some d,.makeSlice t x y,ty,pos,af,g⟩::rest) K k L H:=by
 subst hys
 exact dl_op hw ((op_mk (f5 k) ht hkn hes hzero hx0 hzok hx hy hn hroom hmax hd).cast (fe k)) hk
def scalB:SV→Bool
 | .d (.int _ _)=>true
 | .d (.bool _)=>true
 | .d (.str _)=>true
 | .tup []=>true
 | _=>false
theorem scal_rel {X Y:Nat→Prop} {e e':Env} {w w':World} {s:SV} {v:Value} (h:scalB s=true) (hr:Rel X e w s v):Rel Y e' w' s v:=by
 cases s with
 | d x =>
  cases x with
  | slice=>cases h
  | ptr=>cases h
  | _=>cases hr <;> constructor <;> assumption
 | tup ss =>
  cases ss with
  | nil=>obtain⟨vs,h1,h2⟩:=hr;cases vs with|nil=>exact⟨[],h1,trivial⟩|cons=>exact h2.elim
  | cons=>cases h
 | _=>cases h
theorem dw_lenA (t j:Nat) {c:Code} {Q:f9} {es:Nat} {ss:List SV} {xs:List (List D)} (h:L.get t = .agg ss) (hj:ss[j]? = some (.d (.slice es xs))) (hk:xs.length≤9223372036854775807→DW Γ c Q k L H):DW Γ c Q k L H:=by
 intro e a w m
 have hr:=m.slot t
 rw [h] at hr
 obtain⟨vs,_,h2⟩:=hr
 obtain⟨v,_,h3⟩:=RelL.get _ _ h2 j _ hj
 obtain⟨ao,cap,_,h4,h5,_⟩:=RepC.slice_inv h3
 exact hk (by unfold maxLen at h5;omega) e a w m
theorem dw_stop (id:Nat) {c y:Code} {Q:f9} (h:DW Γ (.seq (.block id c) y) Q k L H):DW Γ (.seq (.block id c) y) Q k L H:=h
theorem mf (id:Nat) {ops:Array Oper} {b:Bool} {x z:Code} {Q:f9} (h:DW Γ (.seq (.seq (.region id ops b) x) z) Q k L H):DW Γ (.seq (.seq (.region id ops b) x) z) Q k L H:=h
theorem kb (id:Nat) {ops:Array Oper} {b:Bool} {x:Code} {Q:f9} (h:DW Γ (.seq (.region id ops b) x) Q k L H):DW Γ (.seq (.region id ops b) x) Q k L H:=h
theorem dw_cut {ι:Type} {c y:Code} {Q:f9} (I:ι→St) (pre:ι→Prop) (hx:DW Γ c (em (fun k' L' H'=>∃ i,pre i∧Ent Γ k' L' H' (I i).k (I i).L (I i).H) Q) k L H) (hy:∀ i,pre i→DW Γ y Q (I i).k (I i).L (I i).H):DW Γ (.seq c y) Q k L H:=by
 intro e a w m
 refine wpIn_seq (wpIn_mono (hx e a w m) ?_)
 rintro ex a' w' (⟨k',L',H',e',m',hq⟩|hf)
 ·cases ex with
  | normal =>
   obtain⟨i,hp,he⟩:=hq
   obtain⟨e2,m2⟩:=he e' a' w' m'
   exact hy i hp e2 a' w' m2
  | _=>exact .inl ⟨k',L',H',e',m',hq⟩
 ·obtain⟨v,k',L',H',e',rfl,r⟩:=hf
  exact .inr ⟨v,k',L',H',e',rfl,r⟩
theorem kz {k2 k3:Nat} {L2 L3:Sl} {H2 H3:Hp} (h:Ent Γ k L H k2 L2 H2) (g:Ent Γ k2 L2 H2 k3 L3 H3):Ent Γ k L H k3 L3 H3:=fun e a w m =>
 let ⟨e2,m2⟩:=h e a w m
 g e2 a w m2
end
end Go.Proofs.YtapciiffpnociaaGreat
namespace Go.Proofs.YtapciiffpnociaaGreat
open Go Go.RowKit
mutual
theorem SV.ren_low0 (ρ:Nat→Nat):∀ (s:SV),s.low 0=true→s.ren ρ=s
 | .junk,_=>rfl
 | .d _,_=>rfl
 | .nils,_=>rfl
 | .pd _,_=>rfl
 | .loc _ _,h=>by simp [SV.low,Nat.blt] at h
 | .row _,h=>by simp [SV.low,Nat.blt] at h
 | .mp _,h=>by simp [SV.low,Nat.blt] at h
 | .md _ _,_=>rfl
 | .prow _ _ _ _,h=>by simp [SV.low,Nat.blt] at h
 | .sl _ _ _ _,h=>by simp [SV.low,Nat.blt] at h
 | .rsl _ _ _ _,h=>by simp [SV.low,Nat.blt] at h
 | .fn f caps,h=>by simp only [SV.ren,SV.renL_low0 ρ caps h]
 | .agg ss,h=>by simp only [SV.ren,SV.renL_low0 ρ ss h]
 | .tup ss,h=>by simp only [SV.ren,SV.renL_low0 ρ ss h]
 | .val _,_=>rfl
theorem SV.renL_low0 (ρ:Nat→Nat):∀ (ss:List SV),SV.lowL 0 ss=true→SV.renL ρ ss=ss
 | [],_=>rfl
 | s::ss,h=>by
  simp only [SV.lowL,Bool.and_eq_true] at h
  simp only [SV.renL,SV.ren_low0 ρ s h.1,SV.renL_low0 ρ ss h.2]
end
mutual
theorem SV.low_mono (k:Nat):∀ (s:SV),s.low 0=true→s.low k=true
 | .junk,_=>rfl
 | .d _,_=>rfl
 | .nils,_=>rfl
 | .pd _,_=>rfl
 | .loc _ _,h=>by simp [SV.low,Nat.blt] at h
 | .row _,h=>by simp [SV.low,Nat.blt] at h
 | .mp _,h=>by simp [SV.low,Nat.blt] at h
 | .md _ _,_=>rfl
 | .prow _ _ _ _,h=>by simp [SV.low,Nat.blt] at h
 | .sl _ _ _ _,h=>by simp [SV.low,Nat.blt] at h
 | .rsl _ _ _ _,h=>by simp [SV.low,Nat.blt] at h
 | .fn f caps,h=>SV.lowL_mono k caps h
 | .agg ss,h=>SV.lowL_mono k ss h
 | .tup ss,h=>SV.lowL_mono k ss h
 | .val _,_=>rfl
theorem SV.lowL_mono (k:Nat):∀ (ss:List SV),SV.lowL 0 ss=true→SV.lowL k ss=true
 | [],_=>rfl
 | s::ss,h=>by
  simp only [SV.lowL,Bool.and_eq_true] at h ⊢
  exact⟨SV.low_mono k s h.1,SV.lowL_mono k ss h.2⟩
end
theorem lowL_junk {k:Nat}:∀ (n:Nat),SV.lowL k (List.replicate n .junk)=true
 | 0=>rfl
 | n + 1=>by
  rw [List.replicate_succ]
  simp only [SV.lowL,Bool.and_eq_true]
  exact⟨rfl,lowL_junk n⟩
section
variable {P : Program} (w : World)
theorem run_append_room_at (t ty e:TypeId) (i:TypeInfo) (ht:P.underlying t=some (.slice e)) (hi:P.info? e=some i)
  (g o sLen sCap:Nat) (tb:TypeId) (cur:Array Value) (hg:w.heap[g]? = some (.cells cur tb (0,0)))
  (a:Addr) (m c:Nat) (news:List Value) (hl:news.length=m * i.size) (hnews:∀ j u,news[j]? = some u→w.cell? (a.add j)=some u) (h1:∀ u∈news,u.oneCell' = true)
  (hroom:sLen + m≤sCap) (hfit:o + sLen * i.size + news.length≤cur.size) :
  (Builtin.append_ #[t,t] ty #[.slice (some ⟨g,o,none⟩) sLen sCap,.slice (some a) m c]).run P w =
   .ok (.slice (some ⟨g,o,none⟩) (sLen + m) sCap) (w.setRow g (cur.toList.take (o + sLen * i.size)++news++cur.toList.drop (o + sLen * i.size + news.length)).toArray):=by
 have hf:=run_firstCells_some (P:=P) w i.size m a m c news hl hnews
 have hst:=run_storeCells_at P g (o + sLen * i.size) tb news 0 cur w hg (by simpa using hfit) h1
 simp only [Nat.add_zero] at hst
 simp [Builtin.append_,run_underlying ht,sizeOf,typeInfo,hi,Builtin.lenOf,hroom,hf,Addr.add_lit,hst]
end
theorem jz {z:Array Value} {n:Nat} {v:Value} (h:v∈(Builtin.zeroCells z n).toList):v∈z.toList:=by
 unfold Builtin.zeroCells at h
 simp only [Array.toList_map,Array.toList_range,List.mem_map,List.mem_range] at h
 obtain⟨i,hi,rfl⟩:=h
 have hpos:0 < z.size:=by
  rcases Nat.eq_zero_or_pos z.size with h0|h0
  ·rw [h0,Nat.mul_zero] at hi;omega
  ·exact h0
 have:=Nat.mod_lt i hpos
 simp [this]
theorem junk_rel {X e w}:∀ (n:Nat) (vs:List Value),vs.length=n→RelL X e w (List.replicate n .junk) vs
 | 0,[],_=>trivial
 | n + 1,[],h=>by simp at h
 | 0,_::_,h=>by simp at h
 | n + 1,v::vs,h=>⟨trivial,junk_rel n vs (by simpa using h)⟩
section
variable {Γ : Ctx} {k : Nat} {L : Sl} {H : Hp} {K : cq} {ops : List Oper} {rest : List Oper} {t t' ty : TypeId} {x y : Operand}
theorem ds_bs_sl {d te es len:Nat} {pos:String} {af:Array Edge} {g:Option (Nat × Bool)} {ps:List (Nat × Operand)} {cs':List SV} (ht:Γ.sh t = .slice te) (hkn:(Γ.sh te).known=true) (hes:Γ.cells te=es) (hpos:Nat.blt 0 es=true) (hz:gg (ay Γ.τ te).zero=true) (hzl:Nat.beq (ay Γ.τ te).zero.length (Γ.cells te)=true) (hok:l5 ps=true)
  (hlen:Nat.ble (len * es) 16777216=true) (hf:fillSV (fun i=>some (i * es,es)) (initSV (zeroSV Γ.τ te) (len * es)) (l4 L ps)=some cs') (hw:bf ops L g=some true) (hd:Nat.blt d Γ.n=true)
  (hk:DS false Γ ops rest K (k + 1) ((d,.sl k 0 len len)::L) ((k,.blk te cs')::H))  :DS false Γ ops (⟨some d,.buildSlice t len ps.toArray,ty,pos,af,g⟩::rest) K k L H:=by
 refine gl hw fun e a w m=>?_
 obtain⟨vs',f2,f3,hrun⟩:=run_buildSlice (ty:=ty) ht hkn hes hpos hz hzl hok hlen hf m
 unfold Oper.wp
 rw [hrun]
 have m2:=(m.alloc (f5 k) te f2 f3).cast (fe k)
 rw [Array.toArray_toList] at m2
 have hlm:len≤maxLen:=by
  have h1:=Nat.le_of_ble_eq_true hlen
  have h2:=Nat.le_of_ble_eq_true hpos
  have:len≤len * es:=Nat.le_mul_of_pos_right _ h2
  unfold maxLen;omega
 refine⟨_,_,_,_,m2.put (s:=.sl k 0 len len) (Nat.le_of_ble_eq_true hd) ⟨.inr rfl,Nat.le_refl _,hlm,0,?_,fun _=>rfl⟩,hk⟩
 show _=Value.slice (some ⟨(e.bind k w.heap.size).β k,0,none⟩) len len
 rw [show (e.bind k w.heap.size).β k=w.heap.size from if_pos rfl]
end
end Go.Proofs.YtapciiffpnociaaGreat
namespace Go.Proofs.YtapciiffpnociaaGreat
open Go Go.RowKit
section
variable {Γ : Ctx} {k : Nat} {L : Sl} {H H' : Hp} {Q : f9} {c : Code}
theorem ent_cut {i es n:Nat} {te:TypeId} {xs:List (List D)} (t:Nat) (hL:L.get t = .rsl i es 0 n) (hH:Hp.get H i=some (.row te es xs)) (hn:n≤xs.length) (hD:delF H i some=some H') :
  Ent Γ k L H (k + 1) ((t,.row k)::L) ((k,.row te es (xs.take n))::H'):=by
 rw [mg] at hD
 cases hD
 intro e a w m
 have hs:=m.slot t
 rw [hL] at hs
 obtain⟨hd,hone,hcase⟩:=hs
 have hze:¬ e.dom k:=fun h=>f5 k ((m.top k).1 h)
 obtain⟨vs,ho,hes,hone2,hrep⟩:=(m.heap _ (Hp.mem_of hH)).2
 generalize hv:a.tmps.getD t undef=v at hone hcase
 have hηk:(e.bindRow k v).η k=v:=if_pos rfl
 have hlen:(xs.take n).length=n:=by rw [List.length_take];omega
 have hown:w.ownsRow 0 te es v n (vs.take (n * es))∧v.ownBlock=(e.η i).ownBlock:=by
  have hvl:(vs.take (n * es)).length=n * es:=by rw [List.length_take,ho.1];exact Nat.min_eq_left (Nat.mul_le_mul_right _ hn)
  rcases hcase with ⟨hη,rfl,_,rfl⟩|⟨g,n0,cap,o,hη,_,hmx,hnc,rfl,hoo⟩
  ·exact⟨⟨hvl,.inl ⟨rfl,rfl⟩⟩,by rw [hη]⟩
  ·have h0:=hoo (.inr rfl)
   rw [Nat.zero_mul] at h0
   subst h0
   rcases ho.2 with ⟨hη2,_⟩|⟨g',cap',cur,hη2,hb,hh,h1,h2,h3,h4⟩
   ·rw [hη] at hη2;cases hη2
   ·rw [hη] at hη2
    cases hη2
    refine⟨⟨hvl,.inr ⟨g,cap,cur,by simp,hb,hh,by omega,h2,h3,?_⟩⟩,by rw [hη];rfl⟩
    rw [← h4,List.take_take,Nat.min_eq_left (Nat.mul_le_mul_right _ hn)]
 have m2:=m.trade (hb:=.row te es (xs.take n)) hH (f5 k) (e':=e.bindRow k v) (w':=w) (fun i=>or_congr (m.top i) Iff.rfl) (e.bindRow_ext _ _ hze) (Nat.le_refl _) rfl rfl rfl (fun _=>Nat.le_refl _)
  (fun _ _ _=>rfl) (fun c hc=>by simp only [HB.owned,hηk] at hc;exact .inl (by simp only [HB.owned];rw [← hown.2];exact hc)) (fun hX=>by
   refine⟨vs.take (n * es),by rw [hηk,hlen];exact hown.1,fun j hj=>?_,fun u hu=>hone2 u (List.mem_of_mem_take hu),fun j hj q hq=>?_⟩
   ·rw [List.getElem_take];exact hes j _
   ·have hj':j < n:=by omega
    have hx:(xs.take n)[j]=xs[j]'(by omega):=List.getElem_take
    have hq':q < (xs[j]'(by omega)).length:=by rw [← hx];exact hq
    obtain⟨u,p1,p2⟩:=hrep j (by omega) q hq'
    have hqe:q < es:=by rw [← hes j (by omega)];exact hq'
    refine⟨u,?_,?_⟩
    ·rw [List.getElem?_take,if_pos,p1]
     have:(j + 1) * es≤n * es:=Nat.mul_le_mul_right _ hj'
     rw [Nat.add_mul,Nat.one_mul] at this
     omega
    ·have p3:RepC (Γ.X e H) w u ((xs.take n)[j][q]):=by simpa [hx] using p2
     exact RepC.keep (Nat.le_refl _) (fun _ _ _=>rfl) hX p3)
 have m3:=m2.cast (fe k)
 refine⟨_,⟨m3.toHeap,m3.defers,m3.len,fun t'=>?_⟩⟩
 rw [Sl.get_cons]
 split
 ·rename_i ht
  subst ht
  rw [hv]
  exact⟨.inr rfl,hηk.symm,hone⟩
 ·exact m3.slot t'
end
section
variable {Γ : Ctx} {kk : Nat → Prop} {L : Sl} {H : Hp} {a : Act} {w : World} {e : Env}
theorem mid_get {α:Type} (xs ys:List α) (j p:Nat) (h:j + ys.length≤xs.length):(xs.take j++ys++xs.drop (j + ys.length))[p]? = if p < j then xs[p]? else if p < j + ys.length then ys[p - j]? else xs[p]?:=by
 have h1:(xs.take j).length=j:=by rw [List.length_take];omega
 by_cases hp:p < j
 ·rw [if_pos hp,List.append_assoc,List.getElem?_append_left (by omega),List.getElem?_take,if_pos hp]
 ·rw [if_neg hp]
  by_cases hq:p < j + ys.length
  ·rw [if_pos hq,List.append_assoc,List.getElem?_append_right (by omega),h1,List.getElem?_append_left (by omega)]
  ·rw [if_neg hq,List.getElem?_append_right (by rw [List.length_append];omega),List.length_append,h1,List.getElem?_drop]
   congr 1;omega
theorem row_write (m:Models Γ kk L H e a w) {i es j g0 n0 cap:Nat} {tb:TypeId} {xs ys:List (List D)} {N:List Value} {cur:Array Value} (hH:Hp.get H i=some (.row tb es xs)) (hj:j + ys.length≤xs.length)
  (hN:N.length=ys.length * es) (hyl:∀ p (hp:p < ys.length),(ys[p]'hp).length=es) (h1:∀ v∈N,v.oneCell' = true) (hr:∀ p (hp:p < ys.length) q (hq:q < (ys[p]'hp).length),∃ v,N[p * es + q]? = some v∧RepC (Γ.X e H) w v ((ys[p]'hp)[q]'hq))
  (hη:e.η i = .slice (some ⟨g0,0,none⟩) n0 cap) (hg:w.heap[g0]? = some (.cells cur tb (0,0))) :
  j * es + N.length≤cur.size∧Models Γ kk L (Hp.set H i (.row tb es (xs.take j++ys++xs.drop (j + ys.length)))) e a (w.setRow g0 (cur.toList.take (j * es)++N++cur.toList.drop (j * es + N.length)).toArray):=by
 have hmem:=Hp.mem_of hH
 obtain⟨vs,ho,hes,hone,hrep⟩:=(m.heap _ hmem).2
 rcases ho.2 with ⟨h2,_⟩|⟨g',cap',cur',h2,hb0,hg',hnc,hcm,hcs,htake⟩
 ·rw [hη] at h2;cases h2
 rw [hη] at h2
 cases h2
 rw [hg] at hg'
 cases hg'
 have hlen:vs.length=xs.length * es:=ho.1
 have hjr:j * es + N.length≤xs.length * es:=by rw [hN,← Nat.add_mul];exact Nat.mul_le_mul_right _ hj
 have hcl:xs.length * es≤cur.size:=by rw [hcs];exact Nat.mul_le_mul_right _ hnc
 have hown:∀ zs,HB.owned e (i,.row tb es zs)=some g0:=fun zs=>by simp [HB.owned,hη,Value.ownBlock]
 have hxl:(xs.take j++ys++xs.drop (j + ys.length)).length=xs.length:=by simp only [List.length_append,List.length_take,List.length_drop];omega
 refine⟨by omega,m.turn (b':=.row tb es (xs.take j++ys++xs.drop (j + ys.length))) hH ?_ rfl rfl rfl (fun _=>Nat.le_refl _) (fun c _ hc=>setRow_other w _ c _ (fun h=>hc (by rw [hown,h]))) (by rw [hown,hown]) ?_⟩
 ·simp [World.setRow]
 ·have hgo:(w.setRow g0 (cur.toList.take (j * es)++N++cur.toList.drop (j * es + N.length)).toArray).heap[g0]? = some (.cells (cur.toList.take (j * es)++N++cur.toList.drop (j * es + N.length)).toArray tb (0,0)):=setRow_heap w g0 cur _ tb (0,0) hg
  have hkeep:∀ b,b < w.heap.size→¬ Γ.X e H b→(w.setRow g0 (cur.toList.take (j * es)++N++cur.toList.drop (j * es + N.length)).toArray).heap[b]? = w.heap[b]?:=fun b _ hb=>setRow_other w _ b _ (fun h=>hb (.inr (List.mem_filterMap.2 ⟨_,hmem,by rw [hown,h]⟩)))
  refine⟨vs.take (j * es)++N++vs.drop (j * es + N.length),⟨?_,.inr ⟨g0,cap,_,?_,hb0,hgo,?_,hcm,?_,?_⟩⟩,fun p hp=>?_,fun v hv=>?_,fun p hp q hq=>?_⟩
  ·rw [hxl];simp only [List.length_append,List.length_take,List.length_drop];omega
  ·rw [hxl];exact hη
  ·rw [hxl];exact hnc
  ·rw [← hcs]
   simp only [List.size_toArray,List.length_append,List.length_take,List.length_drop,Array.length_toList]
   omega
  ·rw [hxl]
   apply List.ext_getElem?
   intro p
   rw [List.getElem?_take]
   by_cases hp':p < xs.length * es
   ·have hcv:cur.toList[p]? = vs[p]?:=by rw [← htake,List.getElem?_take,if_pos hp']
    rw [if_pos hp',mid_get _ _ _ _ (by have:=Array.length_toList (xs:=cur);omega),mid_get _ _ _ _ (by omega),hcv]
   ·rw [if_neg hp',List.getElem?_eq_none (by
     have:vs.length≤p:=by omega
     have h9:(vs.take (j * es)++N++vs.drop (j * es + N.length)).length=vs.length:=by simp only [List.length_append,List.length_take,List.length_drop];omega
     omega)]
  ·have hgt:=mid_get xs ys j p hj
   rw [List.getElem?_eq_getElem hp] at hgt
   split at hgt
   ·obtain⟨h3,h4⟩:=List.getElem?_eq_some_iff.1 hgt.symm;rw [← h4];exact hes p h3
   ·split at hgt
    ·obtain⟨h3,h4⟩:=List.getElem?_eq_some_iff.1 hgt.symm;rw [← h4];exact hyl _ h3
    ·obtain⟨h3,h4⟩:=List.getElem?_eq_some_iff.1 hgt.symm;rw [← h4];exact hes p h3
  ·simp only [List.mem_append] at hv
   rcases hv with (hv|hv)|hv
   ·exact hone v (List.mem_of_mem_take hv)
   ·exact h1 v hv
   ·exact hone v (List.mem_of_mem_drop hv)
  ·have hgt:=mid_get xs ys j p hj
   rw [List.getElem?_eq_getElem hp] at hgt
   have hpx:p < xs.length:=by omega
   generalize hz:(xs.take j++ys++xs.drop (j + ys.length))[p]=z at hgt hq
   have key:∀ {v:Value} {x:D},RepC (Γ.X e H) w v x→RepC (Γ.X e H) (w.setRow g0 (cur.toList.take (j * es)++N++cur.toList.drop (j * es + N.length)).toArray) v x:=fun h=>RepC.keep (by simp [World.setRow]) hkeep (fun _ _ h=>h) h
   have hle:∀ c,p < c→q < es→p * es + q < c * es:=fun c hc hqe=>by
    have:(p + 1) * es≤c * es:=Nat.mul_le_mul_right _ hc
    rw [Nat.add_mul] at this;omega
   split at hgt
   ·rename_i hpj
    obtain⟨h3,h4⟩:=List.getElem?_eq_some_iff.1 hgt.symm
    subst h4
    obtain⟨v,p1,p2⟩:=hrep p h3 q hq
    have hqe:q < es:=by rw [← hes p h3];exact hq
    exact⟨v,by rw [mid_get _ _ _ _ (by omega),if_pos (hle j hpj hqe)];exact p1,key p2⟩
   ·rename_i hpj
    split at hgt
    ·rename_i hpy
     obtain⟨h3,h4⟩:=List.getElem?_eq_some_iff.1 hgt.symm
     subst h4
     obtain⟨v,p1,p2⟩:=hr (p - j) h3 q hq
     have hqe:q < es:=by rw [← hyl (p - j) h3];exact hq
     have e1:p * es=j * es + (p - j) * es:=by rw [← Nat.add_mul];congr 1;omega
     have e2:(p - j) * es + q < N.length:=by
      rw [hN]
      have:(p - j + 1) * es≤ys.length * es:=Nat.mul_le_mul_right _ (by omega)
      rw [Nat.add_mul] at this;omega
     exact⟨v,by rw [mid_get _ _ _ _ (by omega),if_neg (by omega),if_pos (by omega),show p * es + q - j * es=(p - j) * es + q by omega];exact p1,key p2⟩
    ·rename_i hpy
     obtain⟨h3,h4⟩:=List.getElem?_eq_some_iff.1 hgt.symm
     subst h4
     obtain⟨v,p1,p2⟩:=hrep p h3 q hq
     have e1:(j + ys.length) * es≤p * es:=Nat.mul_le_mul_right _ (by omega)
     rw [Nat.add_mul] at e1
     exact⟨v,by rw [mid_get _ _ _ _ (by omega),if_neg (by omega),if_neg (by omega)];exact p1,key p2⟩
end
theorem flatten_rep {α:Type} (z:List α):∀ (n i j:Nat),i < n→j < z.length→(List.replicate n z).flatten[i * z.length + j]? = z[j]?
 | 0,_,_,h,_=>by omega
 | n + 1,0,j,_,hj=>by rw [List.replicate_succ,List.flatten_cons,Nat.zero_mul,Nat.zero_add,List.getElem?_append_left hj]
 | n + 1,i + 1,j,hi,hj=>by
  have h1:(i + 1) * z.length + j=z.length + (i * z.length + j):=by rw [Nat.add_mul];omega
  rw [List.replicate_succ,List.flatten_cons,h1,List.getElem?_append_right (by omega),Nat.add_sub_cancel_left,flatten_rep z n i j (by omega) hj]
def zeroIs:List Value→List D→Prop
 | [],[]=>True
 | v::vs,d::ds=>(cSV v = .d d∨(cSV v = .nils∧∃ es,d = .slice es []))∧zeroIs vs ds
 | _,_=>False
theorem zeroIs_spec {X:Nat→Prop} {e:Env} {w:World}:∀ {vs:List Value} {ds:List D},zeroIs vs ds→RelL X e w (vs.map cSV) vs→vs.length=ds.length∧∀ q (hq:q < ds.length),∃ v,vs[q]? = some v∧RepC X w v ds[q]
 | [],[],_,_=>⟨rfl,fun q hq=>by simp at hq⟩
 | [],_::_,h,_=>h.elim
 | _::_,[],h,_=>h.elim
 | v::vs,d::ds,⟨h1,h2⟩,⟨g1,g2⟩=>by
  obtain⟨i1,i2⟩:=zeroIs_spec h2 g2
  refine⟨by simp [i1],fun q hq=>?_⟩
  cases q with
  | zero =>
   refine⟨v,rfl,?_⟩
   rcases h1 with h1|⟨h1,es,h3⟩
   ·rw [h1] at g1;exact g1
   ·rw [h1] at g1
    have g1:v = .slice none 0 0:=g1
    subst g1
    show RepC X w _ d
    rw [h3];exact .nil
  | succ q =>
   obtain⟨u,u1,u2⟩:=i2 q (by simpa using hq)
   exact⟨u,by simpa using u1,by simpa using u2⟩
theorem zeroCells_list (z:Array Value) (n:Nat) (hz:0 < z.size):(Builtin.zeroCells z n).toList=(List.replicate n z.toList).flatten:=by
 apply List.ext_getElem?
 intro p
 have hfl:((List.replicate n z.toList)).flatten.length=n * z.size:=by simp
 by_cases hp:p < n * z.size
 ·have h1:p / z.size < n:=Nat.div_lt_of_lt_mul (by rw [Nat.mul_comm];exact hp)
  have h2:=flatten_rep z.toList n (p / z.size) (p % z.size) h1 (by rw [Array.length_toList];exact Nat.mod_lt _ hz)
  rw [Array.length_toList,Nat.div_add_mod'] at h2
  rw [h2]
  simp [Builtin.zeroCells,hp,getElem!_pos,Nat.mod_lt _ hz]
 ·rw [List.getElem?_eq_none (by simp [Builtin.zeroCells];omega),List.getElem?_eq_none (by omega)]
section
variable {Γ : Ctx} {k : Nat} {L : Sl} {H H' : Hp} {K : cq} {ops : List Oper} {rest : List Oper} {t : TypeId}
theorem ds_clear (zs:List D) {tb te ty:TypeId} {pos:String} {af:Array Edge} {g:Option (Nat × Bool)} {i es j n:Nat} {xs:List (List D)} {x:Operand} (hx:a8 L x = .rsl i es j n) (hH:Hp.get H i=some (.row tb es xs)) (ht:(ay Γ.τ t).sh = .slice te) (hkn:(ay Γ.τ te).sh.known=true)
  (hz:zeroIs (ay Γ.τ te).zero zs) (hzok:gg (ay Γ.τ te).zero=true) (hzl:(ay Γ.τ te).zero.length=es) (he:0 < es) (hpos:0 < n) (hjn:j + n≤xs.length) (hw:bf ops L g=some true)
  (hS:setF H i (.row tb es (xs.take j++List.replicate n zs++xs.drop (j + n))) some=some H') (hk:DS false Γ ops rest K k L H') :
  DS false Γ ops (⟨none,.call { callee:=.builtin .clear,args:=#[x],argTypes:=#[t] },ty,pos,af,g⟩::rest) K k L H:=by
 rw [ke] at hS
 cases hS
 refine gl hw fun e a w m=>?_
 obtain⟨inf,z,hi,hzz,hs,_,hzc⟩:=Ctx.info (Sh.known_ne hkn)
 obtain⟨_,_,hcs⟩:=evT m hx (js · _ _ _ _)
 have hzsz:z.cells.size=es:=by rw [← Array.length_toList,hzc,hzl]
 rcases hcs with ⟨_,_,_,rfl⟩|⟨g0,n0,cap,o,hη,hkc,hmx,hnc,hv,ho⟩
 ·omega
 have:=ho (.inl (by omega))
 subst this
 obtain⟨vs,hown,hes',_,_⟩:=(m.heap _ (Hp.mem_of hH)).2
 rcases hown.2 with ⟨h2,_⟩|⟨g',cap',cur,h2,_,hg,_,_,hcsz,_⟩
 ·rw [hη] at h2;cases h2
 rw [hη] at h2
 cases h2
 have hzr:=fj (X:=Γ.X e H) (e:=e) (w:=w) _ hzok
 obtain⟨zl,zr⟩:=zeroIs_spec hz hzr.1
 have hN:=zeroCells_list z.cells n (by omega)
 have hNl:(Builtin.zeroCells z.cells n).toList.length=n * es:=by simp [Builtin.zeroCells,hzsz]
 have hyl:(List.replicate n zs).length=n:=List.length_replicate
 have hone:∀ v∈(Builtin.zeroCells z.cells n).toList,v.oneCell' = true:=fun v hv=>hzr.2 v (by rw [← hzc];exact jz hv)
 obtain⟨hfit,m2⟩:=row_write m hH (j:=j) (ys:=List.replicate n zs) (N:=(Builtin.zeroCells z.cells n).toList) (by rw [hyl];exact hjn) (by rw [hNl,hyl]) (fun p hp=>by rw [List.getElem_replicate,← zl,hzl]) hone (fun p hp q hq=>by
  have hq':q < zs.length:=by simpa using hq
  obtain⟨v,q1,q2⟩:=zr q hq'
  refine⟨v,?_,by simpa using q2⟩
  have hqe:q < es:=by rw [← hzl,zl];exact hq'
  rw [hN,← hzsz,← Array.length_toList,flatten_rep _ _ _ _ (by simpa using hp) (by rw [Array.length_toList,hzsz];exact hqe),hzc]
  exact q1) hη hg
 rw [hyl] at m2
 have hst:=run_storeCells_at Γ.P g0 (j * es) tb (Builtin.zeroCells z.cells n).toList 0 cur w hg (by simpa using hfit) hone
 have hrun:(execOp a.eval ⟨none,.call { callee:=.builtin .clear,args:=#[x],argTypes:=#[t] },ty,pos,af,g⟩).run Γ.P w = .ok (.value (.tuple #[])) (w.setRow g0 (cur.toList.take (j * es)++(Builtin.zeroCells z.cells n).toList++cur.toList.drop (j * es + (Builtin.zeroCells z.cells n).toList.length)).toArray):=by
  have hzv:(zeroValue te).run Γ.P w = .ok z w:=by
   simp [zeroValue,typeInfo,hi,hzz]
  obtain⟨n',rfl⟩:∃ n',n=n' + 1:=⟨n - 1,by omega⟩
  simp only [Nat.add_zero] at hst
  simp [execOp,resolve,invoke,builtin,hv,Builtin.clear_,run_underlying (Ctx.slice ht),hzv,hst]
 unfold Oper.wp
 rw [hrun]
 exact⟨k,L,_,e,m2,hk⟩
end
theorem run_append_make {P:Program} (w:World) (t ti ty e:TypeId) (i:TypeInfo) (z:Value) (ht:P.underlying t=some (.slice e)) (hti:P.underlying ti=some (.int .i64)) (hi:P.info? e=some i) (hz:i.zero=some z)
  (n:Nat) (h0:0 < n) (h63:(n:Int)≤9223372036854775807) (h48:n * i.bytes≤281474976710656) (hs:i.size≠0) :
  (Builtin.append_ #[t,ti] ty #[.slice none 0 0,.int .i64 n]).run P w =
   .ok (.slice (some ⟨w.heap.size,0,none⟩) n (grownCap w n 0 e)) (w.drew.alloc (.cells (Builtin.zeroCells z.cells n++Builtin.zeroCells z.cells (grownCap w n 0 e - n)) e)):=by
 have hn:n≠0:=by omega
 have h63':¬ (9223372036854775807 < (n:Int)):=by omega
 have h48':¬ (281474976710656 < Builtin.nextslicecap n 0 * i.bytes):=by rw [nextslicecap_zero h0];omega
 have hw:IntKind.i64.wrap (n:Int)=n:=by simp [IntKind.wrap,IntKind.bits,IntKind.signed];omega
 have hl:¬ ((n:Int) < 0):=by omega
 have hb:¬ (281474976710656 < (n:Int) * (i.bytes:Int)):=by
  have:((n * i.bytes:Nat):Int)≤281474976710656:=by omega
  rw [Int.natCast_mul] at this;omega
 simp [Builtin.append_,asInt,asIntOf,run_underlying ht,run_underlying hti,sizeOf,typeInfo,zeroValue,hi,hz,hw,hl,hb,hn,h63',h48',Question.forced,run_firstCells_none,newRow,grownCap]
 intro h
 exact absurd h (Nat.mul_ne_zero hn hs)
section
variable {Γ : Ctx} {k : Nat} {L : Sl} {H : Hp} {K : cq} {ops : List Oper} {rest : List Oper} {t : TypeId}
theorem evNils {kk:Nat→Prop} {a:Act} {w:World} {e:Env} (m:Models Γ kk L H e a w) {x:Operand} (hx:a8 L x = .nils):a.eval x = .slice none 0 0:=by
 have hok:opOk x:=by
  cases x with
  | const v=>simp only [a8] at hx;unfold cSV at hx;split at hx <;> simp_all [opOk,cOk]
  | _=>trivial
 have:=m.op x hok
 rw [hx] at this;exact this
theorem ds_apmk (zs:List D) {d n es:Nat} {te ti ty:TypeId} {pos:String} {af:Array Edge} {g:Option (Nat × Bool)} {x y:Operand} {m':Int} (hx:a8 L x = .nils) (hy:a8 L y = .d (.int .i64 m')) (hn:m' = (n:Int)) (ht:(ay Γ.τ t).sh = .slice te) (hti:(ay Γ.τ ti).sh = .int .i64)
  (hkn:(ay Γ.τ te).sh.known=true) (hes:(ay Γ.τ te).cells=es) (hz:zeroIs (ay Γ.τ te).zero zs) (hzok:gg (ay Γ.τ te).zero=true) (hzl:(ay Γ.τ te).zero.length=es) (he:0 < es) (h0:0 < n) (hroom:n * (ay Γ.τ te).bytes≤281474976710656) (h63:n≤maxLen)
  (hw:bf ops L g=some true) (hd:Nat.blt d Γ.n=true) (hk:DS false Γ ops rest K (k + 1) ((d,.row k)::L) ((k,.row te es (List.replicate n zs))::H)) :
  DS false Γ ops (⟨some d,.call { callee:=.builtin .append,args:=#[x,y],argTypes:=#[t,ti] },ty,pos,af,g⟩::rest) K k L H:=by
 subst hn
 refine gl hw fun e a w m=>?_
 obtain⟨inf,z,hi,hzz,hs,hb,hzc⟩:=Ctx.info (Sh.known_ne hkn)
 have hzsz:z.cells.size=es:=by rw [← Array.length_toList,hzc,hzl]
 have hti':Γ.P.underlying ti=some (.int .i64):=by
  have hti2:Γ.sh ti = .int .i64:=hti
  obtain⟨u,inf,z,h1,_,_,h4,_⟩:=gp (Γ.ti (t:=ti) (by rw [hti2];intro h;cases h))
  rw [h1]
  have h5:lj Γ.P u = .int .i64:=h4▸hti2
  cases u <;> simp [lj] at h5 ⊢
  exact h5
 have hrun:=run_append_make (P:=Γ.P) w t ti ty te inf z (Ctx.slice ht) hti' hi hzz n h0 (by unfold maxLen at h63;omega) (by rw [hb];exact hroom) (by rw [hs];have:Γ.cells te=es:=hes;omega)
 have hge:=grownCap_ge w n 0 te
 have hcm:=grownCap_le_maxLen w n 0 te h63
 generalize grownCap w n 0 te=c at hrun hge hcm
 have hop:(execOp a.eval ⟨some d,.call { callee:=.builtin .append,args:=#[x,y],argTypes:=#[t,ti] },ty,pos,af,g⟩).run Γ.P w = .ok (.value (.slice (some ⟨w.heap.size,0,none⟩) n c)) (w.drew.alloc (.cells (Builtin.zeroCells z.cells n++Builtin.zeroCells z.cells (c - n)) te)):=by
  simp only [execOp,resolve,invoke,builtin,Sem.run_bind,Sem.run_pure,Result.andThen_ok,List.map_toArray,List.map_cons,List.map_nil,evNils m hx,evI m hy,hrun]
 unfold Oper.wp
 rw [hop]
 have m1:Models Γ (lo k) L H e a w.drew:=m.below ((Beld.refl _ _ _).drew)
 have hze:¬ e.dom k:=fun h=>f5 k ((m.top k).1 h)
 have hη:(e.bindRow k (.slice (some ⟨w.heap.size,0,none⟩) n c)).η k = .slice (some ⟨w.heap.size,0,none⟩) n c:=if_pos rfl
 have hNl:(Builtin.zeroCells z.cells n).toList.length=n * es:=by simp [Builtin.zeroCells,hzsz]
 have hfl:=zeroCells_list z.cells n (by omega)
 have m2:=m1.new (f5 k) (hb:=.row te es (List.replicate n zs)) (e':=e.bindRow k (.slice (some ⟨w.heap.size,0,none⟩) n c)) (w':=w.drew.alloc (.cells (Builtin.zeroCells z.cells n++Builtin.zeroCells z.cells (c - n)) te)) (fun i=>or_congr (m.top i) Iff.rfl) (e.bindRow_ext _ _ hze) (ef Γ.dr _ _)
  (fun b hb=>by simp only [HB.owned,hη,Value.ownBlock,Option.some.injEq] at hb;subst hb;exact Nat.le_refl _) (fun hX=>by
   have hzr:=fj (X:=Γ.X (e.bindRow k (.slice (some ⟨w.heap.size,0,none⟩) n c)) ((k,.row te es (List.replicate n zs))::H)) (e:=e) (w:=w.drew.alloc (.cells (Builtin.zeroCells z.cells n++Builtin.zeroCells z.cells (c - n)) te)) _ hzok
   obtain⟨zl,zr⟩:=zeroIs_spec hz hzr.1
   refine⟨(Builtin.zeroCells z.cells n).toList,⟨by rw [hNl,List.length_replicate],.inr ⟨w.heap.size,c,_,by rw [hη,List.length_replicate],Nat.zero_le _,heap_alloc_new w.drew _,by rw [List.length_replicate];exact hge,hcm,?_,?_⟩⟩,fun p hp=>by rw [List.getElem_replicate,← zl,hzl],fun v hv=>hzr.2 v (by rw [← hzc];exact jz hv),fun p hp q hq=>?_⟩
   ·simp [Builtin.zeroCells,hzsz,← Nat.add_mul];congr 1;omega
   ·rw [List.length_replicate,Array.toList_append,List.take_append_of_le_length (by rw [hNl];exact Nat.le_refl _),List.take_of_length_le (by rw [hNl];exact Nat.le_refl _)]
   ·have hq':q < zs.length:=by simpa using hq
    obtain⟨v,q1,q2⟩:=zr q hq'
    refine⟨v,?_,by simpa using q2⟩
    have hqe:q < es:=by rw [← hzl,zl];exact hq'
    rw [hfl,← hzsz,← Array.length_toList,flatten_rep _ _ _ _ (by simpa using hp) (by rw [Array.length_toList,hzsz];exact hqe),hzc]
    exact q1)
 have m3:=m2.cast (fe k)
 exact⟨k + 1,_,_,_,m3.put (s:=.row k) (v:=.slice (some ⟨w.heap.size,0,none⟩) n c) (Nat.le_of_ble_eq_true hd) ⟨.inr rfl,hη.symm,rfl⟩,hk⟩
theorem ee {kk:Nat→Prop} {te ty:TypeId} {x:Operand} (ht:Γ.sh t = .slice te) (hx:a8 L x = .nils):Ev Γ kk L H (.call { callee:=.builtin .cap,args:=#[x],argTypes:=#[t] }) ty (.d (.int .i64 0)):=by
 intro e a w m
 have hv:=evNils m hx
 refine⟨.int .i64 0,fun _ _ _ _ w' _=>?_,.int (by decide)⟩
 simp [execOp,resolve,invoke,builtin,hv,Builtin.cap_,goInt,run_underlying (Ctx.slice ht)]
end
theorem sum_takeL {α:Type} {ls:List (List α)} {i:Nat} (hi:i < ls.length):((ls.take (i + 1)).map List.length).sum=((ls.take i).map List.length).sum + ls[i].length:=by
 rw [List.take_succ_eq_append_getElem hi,List.map_append,List.sum_append];rfl
theorem sum_leL {α:Type} (ls:List (List α)) (i:Nat):((ls.take i).map List.length).sum≤(ls.map List.length).sum:=by
 have h:(ls.map List.length).sum=((ls.take i).map List.length).sum + ((ls.drop i).map List.length).sum:=by rw [← List.sum_append,← List.map_append,List.take_append_drop]
 omega
attribute [local irreducible] DW DS DL DQ Ev FnOk FnP em b9 DT
theorem ext2 (s:ByteArray) (i:Nat) (h:i + 1 < s.size):s.extract i (i + 2)=⟨#[s[i],s[i + 1]]⟩:=by
 apply ByteArray.ext
 simp only [ByteArray.data_extract]
 apply Array.toList_inj.1
 rw [Array.toList_extract]
 have hl:s.data.toList.length=s.size:=by simp
 rw [List.extract_eq_take_drop,show i + 2 - i=2 by omega,List.drop_eq_getElem_cons (by omega),List.drop_eq_getElem_cons (by omega),byteAt _ _ (by omega),byteAt _ _ (by omega)]
 rfl
theorem pair_ext (s:ByteArray) (i:Nat) (h:i + 1 < s.size):pairB (s[i]::s.data.toList.drop (i + 1))=(decide (s.extract i (i + 2)=⟨#[58,45]⟩) || decide (s.extract i (i + 2)=⟨#[60,61]⟩) || decide (s.extract i (i + 2)=⟨#[33,61]⟩)):=by
 have hl:s.data.toList.length=s.size:=by simp
 have key:∀ a b c d:UInt8,decide ((⟨#[a,b]⟩:ByteArray)=⟨#[c,d]⟩)=(a == c && b == d):=fun a b c d=>by
  rw [Bool.eq_iff_iff];simp
 rw [ext2 s i h,key,key,key,List.drop_eq_getElem_cons (by omega),byteAt _ _ (by omega),pairB]
end Go.Proofs.YtapciiffpnociaaGreat
