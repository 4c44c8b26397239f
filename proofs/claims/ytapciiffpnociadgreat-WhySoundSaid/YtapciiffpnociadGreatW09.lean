/- Several texts in one: RelO Tab TokP TokE LstP WirE WirA WirB TokR WirC RelA ScoP ScoE GxNil StrA RelD. Condition: none. -/
import Derived.Test.YtapciiffpnociadGreatW08
import Derived.Sort.Statements
import Derived.Shelf.SlSortCmp.Insertion
import Derived.Test.YtapciiffpnociadGreatProg
import Derived.Test.YtapciiffpnociadGreatW01
import Derived.KernelRfl
import Derived.Test.YtapciiffpnociadGreatW07
import Derived.Lib.SliceRun
namespace Go.Proofs.YtapciiffpnociadGreat
theorem cmpI_anti (a b:Int):cmpI a b = - cmpI b a:=by unfold cmpI;split <;> split <;> (try split) <;> omega
theorem cmpI_lt {a b:Int}:cmpI a b < 0↔a < b:=by
 unfold cmpI
 split
 ·rename_i h;simp [h]
 ·rename_i h
  split <;> simp [h]
theorem ordL_anti:∀ (l m:List Int),ordL l m = - ordL m l
 | [],[]=>rfl
 | [],_::_=>rfl
 | _::_,[]=>rfl
 | a::l,b::m=>by
  unfold ordL
  rw [cmpI_anti a b]
  by_cases h:cmpI b a=0
  ·rw [h,if_pos (by omega),if_pos rfl];exact ordL_anti l m
  ·rw [if_neg (by omega),if_neg h]
theorem ordL_eq0:∀ {l m:List Int},ordL l m=0→l=m
 | [],[],_=>rfl
 | [],_::_,h=>by unfold ordL at h;omega
 | _::_,[],h=>by unfold ordL at h;omega
 | a::l,b::m,h=>by
  unfold ordL at h
  split at h
  ·rename_i h1;rw [cmpI_zero h1,ordL_eq0 h]
  ·rename_i h1;exact absurd h h1
theorem ordL_trans:∀ {l m n:List Int},ordL l m < 0→ordL m n < 0→ordL l n < 0
 | [],[],_,h,_=>by unfold ordL at h;omega
 | _::_,[],_,h,_=>by unfold ordL at h;omega
 | [],_::_,[],_,h=>by unfold ordL at h;omega
 | [],_::_,_::_,_,_=>by unfold ordL;omega
 | _::_,_::_,[],_,h=>by unfold ordL at h;omega
 | a::l,b::m,c::n,h,g=>by
  unfold ordL at h g ⊢
  by_cases h1:cmpI a b=0
  ·have:=cmpI_zero h1;subst this
   rw [if_pos h1] at h
   by_cases g1:cmpI a c=0
   ·rw [if_pos g1] at g ⊢;exact ordL_trans h g
   ·rw [if_neg g1] at g ⊢;exact g
  ·rw [if_neg h1] at h
   by_cases g1:cmpI b c=0
   ·have:=cmpI_zero g1;subst this
    rw [if_neg h1];exact h
   ·rw [if_neg g1] at g
    have h2:=cmpI_lt.1 h
    have g2:=cmpI_lt.1 g
    have h3:cmpI a c < 0:=cmpI_lt.2 (by omega)
    rw [if_neg (by omega)];exact h3
theorem ordF_anti (a b:Fct):ordF a b = - ordF b a:=by
 unfold ordF
 rw [cmpI_anti a.pred b.pred]
 by_cases h:cmpI b.pred a.pred=0
 ·rw [h,if_pos (by omega),if_pos rfl];exact ordL_anti _ _
 ·rw [if_neg (by omega),if_neg h]
theorem ordF_eq0 {a b:Fct} (h:ordF a b=0):a=b:=by
 unfold ordF at h
 split at h
 ·rename_i h1
  cases a;cases b
  simp only at h h1 ⊢
  rw [cmpI_zero h1,ordL_eq0 h]
 ·rename_i h1;exact absurd h h1
theorem ordF_trans {a b c:Fct} (h:ordF a b < 0) (g:ordF b c < 0):ordF a c < 0:=by
 unfold ordF at h g ⊢
 by_cases h1:cmpI a.pred b.pred=0
 ·rw [if_pos h1] at h
  rw [cmpI_zero h1]
  by_cases g1:cmpI b.pred c.pred=0
  ·rw [if_pos g1] at g ⊢;exact ordL_trans h g
  ·rw [if_neg g1] at g ⊢;exact g
 ·rw [if_neg h1] at h
  by_cases g1:cmpI b.pred c.pred=0
  ·rw [← cmpI_zero g1,if_neg h1];exact h
  ·rw [if_neg g1] at g
   have h2:=cmpI_lt.1 h
   have g2:=cmpI_lt.1 g
   have h3:cmpI a.pred c.pred < 0:=cmpI_lt.2 (by omega)
   rw [if_neg (by omega)];exact h3
theorem ordF_le {a b c:Fct} (h:0≤ordF a b) (g:0≤ordF b c):0≤ordF a c:=by
 by_cases h1:ordF a b=0
 ·rw [ordF_eq0 h1];exact g
 ·by_cases g1:ordF b c=0
  ·rw [← ordF_eq0 g1];exact h
  ·have h2:ordF b a < 0:=by rw [ordF_anti];omega
   have g2:ordF c b < 0:=by rw [ordF_anti];omega
   have:=ordF_trans g2 h2
   rw [ordF_anti] at this
   omega
theorem swoF:Go.Sort.SWO (ltOf ordF) where
 irrefl x:=by unfold ltOf;rw [ordF_self];rfl
 trans x y z h g:=decide_eq_true (ordF_trans (of_decide_eq_true h) (of_decide_eq_true g))
 ntrans x y z h g:=by
  have h:=of_decide_eq_false h
  have g:=of_decide_eq_false g
  exact decide_eq_false (by have:=ordF_le (a:=x) (b:=y) (c:=z) (by omega) (by omega);omega)
open Go
def tab:List (Nat × TI):=[
 (2,⟨.int .i64,1,8,[.int .i64 0],false⟩),
 (3,⟨.int .i64,1,8,[.int .i64 0],false⟩),
 (4,⟨.bool,1,1,[.bool false],false⟩),
 (5,⟨.int .u8,1,1,[.int .u8 0],false⟩),
 (6,⟨.int .u8,1,1,[.int .u8 0],false⟩),
 (7,⟨.struct [(0,2,1),(1,3,1),(2,4,1),(3,6,1)],4,24,[.int .i64 0,.int .i64 0,.bool false,.int .u8 0],true⟩),
 (8,⟨.struct [(0,2,1),(1,3,1),(2,4,1),(3,6,1)],4,24,[.int .i64 0,.int .i64 0,.bool false,.int .u8 0],true⟩),
 (9,⟨.str,1,16,[.string ⟨#[]⟩],false⟩),
 (10,⟨.str,1,16,[.string ⟨#[]⟩],false⟩),
 (11,⟨.str,1,16,[.string ⟨#[]⟩],false⟩),
 (12,⟨.int .u64,1,8,[.int .u64 0],false⟩),
 (13,⟨.struct [(0,9,1),(1,12,1)],2,24,[.string ⟨#[]⟩,.int .u64 0],false⟩),
 (14,⟨.struct [(0,9,1),(1,12,1)],2,24,[.string ⟨#[]⟩,.int .u64 0],false⟩),
 (15,⟨.ptr 334,1,8,[.pointer none],false⟩),
 (16,⟨.ptr 337,1,8,[.pointer none],false⟩),
 (17,⟨.ptr 346,1,8,[.pointer none],false⟩),
 (18,⟨.struct [(0,17,1)],1,8,[.pointer none],false⟩),
 (19,⟨.struct [(0,17,1)],1,8,[.pointer none],false⟩),
 (21,⟨.int .i32,1,4,[.int .i32 0],false⟩),
 (22,⟨.slice 3,1,24,[.slice none 0 0],false⟩),
 (23,⟨.slice 9,1,24,[.slice none 0 0],false⟩),
 (24,⟨.slice 64,1,24,[.slice none 0 0],false⟩),
 (25,⟨.struct [(0,22,1),(1,23,1),(2,24,1)],3,72,[.slice none 0 0,.slice none 0 0,.slice none 0 0],true⟩),
 (26,⟨.struct [(0,22,1),(1,23,1),(2,24,1)],3,72,[.slice none 0 0,.slice none 0 0,.slice none 0 0],true⟩),
 (27,⟨.slice 37,1,24,[.slice none 0 0],false⟩),
 (28,⟨.slice 39,1,24,[.slice none 0 0],false⟩),
 (30,⟨.int .i64,1,8,[.int .i64 0],false⟩),
 (36,⟨.struct [(0,3,1),(1,22,1)],2,32,[.int .i64 0,.slice none 0 0],true⟩),
 (37,⟨.struct [(0,3,1),(1,22,1)],2,32,[.int .i64 0,.slice none 0 0],true⟩),
 (38,⟨.struct [(0,37,2),(2,3,1),(3,22,1)],4,64,[.int .i64 0,.slice none 0 0,.int .i64 0,.slice none 0 0],true⟩),
 (39,⟨.struct [(0,37,2),(2,3,1),(3,22,1)],4,64,[.int .i64 0,.slice none 0 0,.int .i64 0,.slice none 0 0],true⟩),
 (44,⟨.slice 22,1,24,[.slice none 0 0],false⟩),
 (48,⟨.struct [(0,27,1),(1,27,1)],2,48,[.slice none 0 0,.slice none 0 0],true⟩),
 (49,⟨.struct [(0,27,1),(1,27,1)],2,48,[.slice none 0 0,.slice none 0 0],true⟩),
 (59,⟨.slice 27,1,24,[.slice none 0 0],false⟩),
 (61,⟨.slice 66,1,24,[.slice none 0 0],false⟩),
 (62,⟨.slice 68,1,24,[.slice none 0 0],false⟩),
 (63,⟨.struct [(0,3,1),(1,61,1),(2,3,1),(3,62,1),(4,3,1)],5,72,[.int .i64 0,.slice none 0 0,.int .i64 0,.slice none 0 0,.int .i64 0],true⟩),
 (64,⟨.struct [(0,3,1),(1,61,1),(2,3,1),(3,62,1),(4,3,1)],5,72,[.int .i64 0,.slice none 0 0,.int .i64 0,.slice none 0 0,.int .i64 0],true⟩),
 (65,⟨.struct [(0,3,1),(1,3,1)],2,16,[.int .i64 0,.int .i64 0],true⟩),
 (66,⟨.struct [(0,3,1),(1,3,1)],2,16,[.int .i64 0,.int .i64 0],true⟩),
 (67,⟨.struct [(0,3,1),(1,3,1),(2,3,1),(3,61,1)],4,48,[.int .i64 0,.int .i64 0,.int .i64 0,.slice none 0 0],true⟩),
 (68,⟨.struct [(0,3,1),(1,3,1),(2,3,1),(3,61,1)],4,48,[.int .i64 0,.int .i64 0,.int .i64 0,.slice none 0 0],true⟩),
 (70,⟨.slice 82,1,24,[.slice none 0 0],false⟩),
 (71,⟨.struct [(0,70,1),(1,70,1)],2,48,[.slice none 0 0,.slice none 0 0],true⟩),
 (72,⟨.struct [(0,70,1),(1,70,1)],2,48,[.slice none 0 0,.slice none 0 0],true⟩),
 (74,⟨.slice 49,1,24,[.slice none 0 0],false⟩),
 (78,⟨.struct [(0,3,1),(1,3,1)],2,16,[.int .i64 0,.int .i64 0],true⟩),
 (79,⟨.struct [(0,3,1),(1,3,1)],2,16,[.int .i64 0,.int .i64 0],true⟩),
 (80,⟨.slice 79,1,24,[.slice none 0 0],false⟩),
 (81,⟨.struct [(0,79,2),(2,80,1),(3,27,1),(4,80,1)],5,88,[.int .i64 0,.int .i64 0,.slice none 0 0,.slice none 0 0,.slice none 0 0],true⟩),
 (82,⟨.struct [(0,79,2),(2,80,1),(3,27,1),(4,80,1)],5,88,[.int .i64 0,.int .i64 0,.slice none 0 0,.slice none 0 0,.slice none 0 0],true⟩),
 (95,⟨.slice 4,1,24,[.slice none 0 0],false⟩),
 (96,⟨.ptr 98,1,8,[.pointer none],false⟩),
 (97,⟨.struct [(0,26,3),(3,27,1),(4,27,1)],5,120,[.slice none 0 0,.slice none 0 0,.slice none 0 0,.slice none 0 0,.slice none 0 0],true⟩),
 (98,⟨.struct [(0,26,3),(3,27,1),(4,27,1)],5,120,[.slice none 0 0,.slice none 0 0,.slice none 0 0,.slice none 0 0,.slice none 0 0],true⟩),
 (100,⟨.slice 187,1,24,[.slice none 0 0],false⟩),
 (125,⟨.ptr 127,1,8,[.pointer none],false⟩),
 (126,⟨.struct [(0,26,3),(3,100,1),(4,28,1)],5,120,[.slice none 0 0,.slice none 0 0,.slice none 0 0,.slice none 0 0,.slice none 0 0],true⟩),
 (127,⟨.struct [(0,26,3),(3,100,1),(4,28,1)],5,120,[.slice none 0 0,.slice none 0 0,.slice none 0 0,.slice none 0 0,.slice none 0 0],true⟩),
 (132,⟨.ptr 136,1,8,[.pointer none],false⟩),
 (135,⟨.struct [(0,72,2),(2,26,3),(5,27,1)],6,144,[.slice none 0 0,.slice none 0 0,.slice none 0 0,.slice none 0 0,.slice none 0 0,.slice none 0 0],true⟩),
 (136,⟨.struct [(0,72,2),(2,26,3),(5,27,1)],6,144,[.slice none 0 0,.slice none 0 0,.slice none 0 0,.slice none 0 0,.slice none 0 0,.slice none 0 0],true⟩),
 (166,⟨.ptr 168,1,8,[.pointer none],false⟩),
 (167,⟨.struct [(0,64,5),(5,27,1),(6,22,1),(7,95,1),(8,3,1),(9,44,1)],10,176,[.int .i64 0,.slice none 0 0,.int .i64 0,.slice none 0 0,.int .i64 0,.slice none 0 0,.slice none 0 0,.slice none 0 0,.int .i64 0,.slice none 0 0],true⟩),
 (168,⟨.struct [(0,64,5),(5,27,1),(6,22,1),(7,95,1),(8,3,1),(9,44,1)],10,176,[.int .i64 0,.slice none 0 0,.int .i64 0,.slice none 0 0,.int .i64 0,.slice none 0 0,.slice none 0 0,.slice none 0 0,.int .i64 0,.slice none 0 0],true⟩),
 (172,⟨.slice 174,1,24,[.slice none 0 0],false⟩),
 (174,⟨.ptr 176,1,8,[.pointer none],false⟩),
 (175,⟨.struct [(0,22,1),(1,22,1)],2,48,[.slice none 0 0,.slice none 0 0],true⟩),
 (176,⟨.struct [(0,22,1),(1,22,1)],2,48,[.slice none 0 0,.slice none 0 0],true⟩),
 (187,⟨.struct [(0,37,2),(2,3,1),(3,22,1)],4,64,[.int .i64 0,.slice none 0 0,.int .i64 0,.slice none 0 0],true⟩),
 (196,⟨.ptr 72,1,8,[.pointer none],false⟩),
 (204,⟨.ptr 206,1,8,[.pointer none],false⟩),
 (205,⟨.struct [(0,26,3),(3,27,1),(4,100,1)],5,120,[.slice none 0 0,.slice none 0 0,.slice none 0 0,.slice none 0 0,.slice none 0 0],true⟩),
 (206,⟨.struct [(0,26,3),(3,27,1),(4,100,1)],5,120,[.slice none 0 0,.slice none 0 0,.slice none 0 0,.slice none 0 0,.slice none 0 0],true⟩),
 (213,⟨.struct [(0,64,5),(5,27,1),(6,44,1),(7,4,1)],8,128,[.int .i64 0,.slice none 0 0,.int .i64 0,.slice none 0 0,.int .i64 0,.slice none 0 0,.slice none 0 0,.bool false],true⟩),
 (214,⟨.struct [(0,64,5),(5,27,1),(6,44,1),(7,4,1)],8,128,[.int .i64 0,.slice none 0 0,.int .i64 0,.slice none 0 0,.int .i64 0,.slice none 0 0,.slice none 0 0,.bool false],true⟩),
 (223,⟨.int .u64,1,8,[.int .u64 0],false⟩),
 (252,⟨.ptr 214,1,8,[.pointer none],false⟩),
 (256,⟨.slice 62,1,24,[.slice none 0 0],false⟩),
 (260,⟨.int .i64,1,8,[.int .i64 0],false⟩),
 (267,⟨.int .u32,1,4,[.int .u32 0],false⟩),
 (269,⟨.int .u64,1,8,[.int .u64 0],false⟩),
 (275,⟨.slice 70,1,24,[.slice none 0 0],false⟩),
 (277,⟨.map 79 3,1,8,[.map none],false⟩),
 (295,⟨.int .u64,1,8,[.int .u64 0],false⟩),
 (299,⟨.ptr 3,1,8,[.pointer none],false⟩),
 (304,⟨.ptr 306,1,8,[.pointer none],false⟩),
 (305,⟨.struct [(0,70,1),(1,277,1)],2,32,[.slice none 0 0,.map none],true⟩),
 (306,⟨.struct [(0,70,1),(1,277,1)],2,32,[.slice none 0 0,.map none],true⟩),
 (310,⟨.ptr 295,1,8,[.pointer none],false⟩),
 (313,⟨.slice 80,1,24,[.slice none 0 0],false⟩),
 (315,⟨.slice 319,1,24,[.slice none 0 0],false⟩),
 (318,⟨.struct [(0,3,1),(1,3,1),(2,9,1)],3,32,[.int .i64 0,.int .i64 0,.string ⟨#[]⟩],true⟩),
 (319,⟨.struct [(0,3,1),(1,3,1),(2,9,1)],3,32,[.int .i64 0,.int .i64 0,.string ⟨#[]⟩],true⟩),
 (321,⟨.ptr 323,1,8,[.pointer none],false⟩),
 (322,⟨.struct [(0,9,1),(1,3,1)],2,24,[.string ⟨#[]⟩,.int .i64 0],true⟩),
 (323,⟨.struct [(0,9,1),(1,3,1)],2,24,[.string ⟨#[]⟩,.int .i64 0],true⟩),
 (333,⟨.struct [(0,17,1),(1,17,1),(2,17,1),(3,9,1)],4,40,[.pointer none,.pointer none,.pointer none,.string ⟨#[]⟩],false⟩),
 (334,⟨.struct [(0,17,1),(1,17,1),(2,17,1),(3,9,1)],4,40,[.pointer none,.pointer none,.pointer none,.string ⟨#[]⟩],false⟩),
 (336,⟨.struct [(0,335,0)],0,0,[],false⟩),
 (337,⟨.struct [(0,335,0)],0,0,[],false⟩),
 (339,⟨.int .u8,1,1,[.int .u8 0],false⟩),
 (340,⟨.int .u8,1,1,[.int .u8 0],false⟩),
 (342,⟨.ptr 5,1,8,[.pointer none],false⟩),
 (343,⟨.int .i32,1,4,[.int .i32 0],false⟩),
 (344,⟨.int .i32,1,4,[.int .i32 0],false⟩),
 (345,⟨.struct [(0,12,1),(1,12,1),(2,267,1),(3,339,1),(4,5,1),(5,5,1),(6,340,1),(7,341,1),(8,342,1),(9,343,1),(10,344,1)],11,48,[.int .u64 0,.int .u64 0,.int .u32 0,.int .u8 0,.int .u8 0,.int .u8 0,.int .u8 0,.nilFunc,.pointer none,.int .i32 0,.int .i32 0],false⟩),
 (346,⟨.struct [(0,12,1),(1,12,1),(2,267,1),(3,339,1),(4,5,1),(5,5,1),(6,340,1),(7,341,1),(8,342,1),(9,343,1),(10,344,1)],11,48,[.int .u64 0,.int .u64 0,.int .u32 0,.int .u8 0,.int .u8 0,.int .u8 0,.int .u8 0,.nilFunc,.pointer none,.int .i32 0,.int .i32 0],false⟩)]
theorem tab_ok:TabOk Tryz.prog tab:=by
 unfold TabOk
 kernel_rfl
def smallB (c:UInt8):Bool:=decide ((97:Int)≤c.toNat) && decide ((c.toNat:Int)≤122)
def greatB (c:UInt8):Bool:=decide ((65:Int)≤c.toNat) && decide ((c.toNat:Int)≤90)
def digitB (c:UInt8):Bool:=decide ((48:Int)≤c.toNat) && decide ((c.toNat:Int)≤57)
def letterB (c:UInt8):Bool:=smallB c || greatB c
def alnumB (c:UInt8):Bool:=letterB c || digitB c
def takeW (p:UInt8→Bool):List UInt8→Nat
 | []=>0
 | c::l=>if p c then takeW p l + 1 else 0
theorem takeW_le (p:UInt8→Bool):∀ l,takeW p l≤l.length
 | []=>Nat.le_refl _
 | c::l=>by
  unfold takeW
  have:=takeW_le p l
  split <;> simp <;> omega
theorem takeW_step (p:UInt8→Bool) (l:List UInt8) (i:Nat) (h:i < l.length) (hp:p l[i]=true):takeW p (l.drop i)=takeW p (l.drop (i + 1)) + 1:=by
 rw [List.drop_eq_getElem_cons h,takeW,if_pos hp]
theorem takeW_stop (p:UInt8→Bool) (l:List UInt8) (i:Nat) (h:i < l.length) (hp:p l[i]=false):takeW p (l.drop i)=0:=by
 rw [List.drop_eq_getElem_cons h,takeW,if_neg (by rw [hp];exact Bool.false_ne_true)]
theorem takeW_end (p:UInt8→Bool) (l:List UInt8) (i:Nat) (h:l.length≤i):takeW p (l.drop i)=0:=by
 rw [List.drop_of_length_le h];rfl
def signs:List UInt8:=[40,41,44,46,60,61,43,45,42]
def pairB:List UInt8→Bool
 | a::b::_=>(a == 58 && b == 45) || (a == 60 && b == 61) || (a == 33 && b == 61)
 | _=>false
def tokAt:List UInt8→Int × Nat
 | []=>(0,0)
 | c::l=>if letterB c then (if smallB c then 1 else 2,1 + takeW alnumB l)
  else if digitB c then (3,1 + takeW digitB l)
  else if pairB (c::l) then (4,2)
  else if signs.contains c then (4,1)
  else (0,0)
structure Tok where
 kind:Int
 at_:Int
 text:ByteArray
def sameAll {α:Type} (p:α→α→Bool):List α→List α→Bool
 | [],[]=>true
 | x::xs,y::ys=>p x y && sameAll p xs ys
 | _,_=>false
def Tok.same (at_:Bool) (x y:Tok):Bool:=decide (x.kind=y.kind) && decide (x.text=y.text) && (!at_ || decide (x.at_=y.at_))
theorem tokAt_cons (c:UInt8) (l:List UInt8):tokAt (c::l)=(if letterB c then (if smallB c then 1 else 2,1 + takeW alnumB l)
  else if digitB c then (3,1 + takeW digitB l)
  else if pairB (c::l) then (4,2)
  else if signs.contains c then (4,1)
  else (0,0)):=rfl
theorem tokAt_le (l:List UInt8):(tokAt l).2≤l.length:=by
 cases l with
 | nil=>simp [tokAt]
 | cons c l =>
  have h1:=takeW_le alnumB l
  have h2:=takeW_le digitB l
  rw [tokAt_cons]
  by_cases a:letterB c=true
  ·rw [if_pos a];simp only [List.length_cons];omega
  ·rw [if_neg a]
   by_cases b:digitB c=true
   ·rw [if_pos b];simp only [List.length_cons];omega
   ·rw [if_neg b]
    by_cases d:pairB (c::l)=true
    ·rw [if_pos d]
     cases l with
     | nil=>simp [pairB] at d
     | cons b l=>simp
    ·rw [if_neg d]
     by_cases e:signs.contains c=true
     ·rw [if_pos e];simp
     ·rw [if_neg e];simp
theorem tokAt_pos (l:List UInt8) (h:(tokAt l).1≠0):1≤(tokAt l).2:=by
 cases l with
 | nil=>simp [tokAt] at h
 | cons c l =>
  rw [tokAt_cons] at h ⊢
  by_cases a:letterB c=true
  ·rw [if_pos a];simp
  ·rw [if_neg a] at h ⊢
   by_cases b:digitB c=true
   ·rw [if_pos b];simp
   ·rw [if_neg b] at h ⊢
    by_cases d:pairB (c::l)=true
    ·rw [if_pos d];simp
    ·rw [if_neg d] at h ⊢
     by_cases e:signs.contains c=true
     ·rw [if_pos e];simp
     ·rw [if_neg e] at h;simp at h
def tokErr (kind:Int) (n:Nat) (c:UInt8):Int :=
 if kind=0 then 1
 else if ((kind=1∨kind=2)∧12 < n)∨(kind=3∧7 < n) then 2
 else if kind=3∧1 < n∧c=48 then 1
 else 0
def scanGo (s:ByteArray):Nat→Bool→Nat→Except (Int × Int) (List Tok)
 | 0,_,_=>.ok []
 | f + 1,note,i =>
  if h:i < s.size then
   if note || s[i] == 37 then scanGo s f (s[i] != 10) (i + 1)
   else if s[i] == 32 || s[i] == 9 || s[i] == 10 then scanGo s f false (i + 1)
   else
    let q:=tokAt (s.data.toList.drop i)
    if tokErr q.1 q.2 s[i]=0 then (scanGo s f false (i + q.2)).map (Tok.mk q.1 i (s.extract i (i + q.2))::·)
    else .error (i,tokErr q.1 q.2 s[i])
  else .ok []
theorem scanGo_fuel (s:ByteArray):∀ (f g:Nat) (note:Bool) (i:Nat),s.size - i≤f→s.size - i≤g→scanGo s f note i=scanGo s g note i:=by
 intro f
 induction f with
 | zero =>
  intro g note i h1 h2
  cases g with
  | zero=>rfl
  | succ g=>simp only [scanGo];rw [dif_neg (by omega)]
 | succ f ih =>
  intro g note i h1 h2
  cases g with
  | zero=>simp only [scanGo];rw [dif_neg (by omega)]
  | succ g =>
   simp only [scanGo]
   by_cases h:i < s.size
   ·rw [dif_pos h,dif_pos h]
    split
    ·exact ih g _ _ (by omega) (by omega)
    ·split
     ·exact ih g _ _ (by omega) (by omega)
     ·split
      ·rename_i he
       have hk:(tokAt (s.data.toList.drop i)).1≠0:=fun h0=>by simp [tokErr,h0] at he
       have:=tokAt_pos _ hk
       rw [ih g _ _ (by omega) (by omega)]
      ·rfl
   ·rw [dif_neg h,dif_neg h]
def scanAt (s:ByteArray) (note:Bool) (i:Nat):Except (Int × Int) (List Tok):=scanGo s (s.size - i) note i
theorem scanAt_end (s:ByteArray) (note:Bool) (i:Nat) (h:s.size≤i):scanAt s note i = .ok []:=by
 unfold scanAt
 rw [show s.size - i=0 by omega];rfl
theorem scanAt_note (s:ByteArray) (note:Bool) (i:Nat) (h:i < s.size) (hn:(note || s[i] == 37)=true):scanAt s note i=scanAt s (s[i] != 10) (i + 1):=by
 unfold scanAt
 rw [show s.size - i=(s.size - (i + 1)) + 1 by omega,scanGo,dif_pos h,if_pos hn]
theorem scanAt_blank (s:ByteArray) (i:Nat) (h:i < s.size) (hn:(s[i] == 37)=false) (hb:(s[i] == 32 || s[i] == 9 || s[i] == 10)=true):scanAt s false i=scanAt s false (i + 1):=by
 unfold scanAt
 rw [show s.size - i=(s.size - (i + 1)) + 1 by omega,scanGo,dif_pos h,if_neg (by simp [hn]),if_pos hb]
theorem scanAt_err (s:ByteArray) (i:Nat) (h:i < s.size) (hn:(s[i] == 37)=false) (hb:(s[i] == 32 || s[i] == 9 || s[i] == 10)=false) (he:tokErr (tokAt (s.data.toList.drop i)).1 (tokAt (s.data.toList.drop i)).2 s[i]≠0) :
  scanAt s false i = .error (i,tokErr (tokAt (s.data.toList.drop i)).1 (tokAt (s.data.toList.drop i)).2 s[i]):=by
 unfold scanAt
 rw [show s.size - i=(s.size - (i + 1)) + 1 by omega,scanGo,dif_pos h,if_neg (by simp [hn]),if_neg (by simp [hb])]
 exact if_neg he
theorem scanAt_tok (s:ByteArray) (i:Nat) (h:i < s.size) (hn:(s[i] == 37)=false) (hb:(s[i] == 32 || s[i] == 9 || s[i] == 10)=false) (he:tokErr (tokAt (s.data.toList.drop i)).1 (tokAt (s.data.toList.drop i)).2 s[i]=0) :
  scanAt s false i=(scanAt s false (i + (tokAt (s.data.toList.drop i)).2)).map (Tok.mk (tokAt (s.data.toList.drop i)).1 i (s.extract i (i + (tokAt (s.data.toList.drop i)).2))::·):=by
 have hk:(tokAt (s.data.toList.drop i)).1≠0:=fun h0=>by simp [tokErr,h0] at he
 have:=tokAt_pos _ hk
 unfold scanAt
 rw [scanGo_fuel s (s.size - i) ((s.size - (i + 1)) + 1) false i (Nat.le_refl _) (by omega)]
 rw [scanGo,dif_pos h,if_neg (by simp [hn]),if_neg (by simp [hb])]
 show (if _ then _ else _)=_
 rw [if_pos he,scanGo_fuel s (s.size - (i + 1)) (s.size - (i + (tokAt (s.data.toList.drop i)).2)) false _ (by omega) (Nat.le_refl _)]
def scanS (s:ByteArray):List Tok × Int × Int :=
 if 5000 < s.size then ([],0,2) else match scanAt s false 0 with
  | .ok l=>(l,0,0)
  | .error (p,e)=>([],p,e)
attribute [irreducible] smallB greatB digitB letterB alnumB pairB takeW tokAt tokErr scanGo scanAt scanS sameAll Tok.same
open Go Go.RowKit
def encTok (t:Tok):List D:=[.int .i64 t.kind,.int .i64 t.at_,.str t.text]
def encToks (l:List Tok):D:=.slice 3 (l.map encTok)
abbrev FnD (dr:Bool) (f:FuncId) (args:List SV) (R:SV→Prop):Prop:=FnP dr Tryz.prog tab tab_ok f args R
abbrev Fn (f:FuncId) (args:List SV) (R:SV→Prop):Prop:=FnP false Tryz.prog tab tab_ok f args R
theorem byteAt (s:ByteArray) (i:Nat) (h:i < s.size):s.data.toList[i]'(by simpa using h)=s[i]'h:=by simp [ByteArray.getElem_eq_getElem_data]
def idxF {α:Type} (p:α→Bool) (l:List α):Int:=match l.findIdx? p with
 | some i=>i
 | none=>-1
theorem idxF_hit {α:Type} {p:α→Bool} {l:List α} {i:Nat} (h:∀ j (hj:j < l.length),j < i→p l[j]=false) (hi:i < l.length) (hp:p l[i]=true):idxF p l=i:=by
 unfold idxF
 have:l.findIdx? p=some i:=by
  rw [List.findIdx?_eq_some_iff_getElem]
  exact⟨hi,hp,fun j hj=>by simpa using h j (by omega) hj⟩
 rw [this]
theorem idxF_none {α:Type} {p:α→Bool} {l:List α} (h:∀ j (hj:j < l.length),p l[j]=false):idxF p l = -1:=by
 unfold idxF
 have:l.findIdx? p=none:=by
  rw [List.findIdx?_eq_none_iff]
  intro x hx
  obtain⟨i,hi,rfl⟩:=List.mem_iff_getElem.1 hx
  exact h i hi
 rw [this]
theorem idxF_any {α:Type} (p:α→Bool) (l:List α):decide (idxF p l ≥ 0)=l.any p:=by
 unfold idxF
 cases h:l.findIdx? p with
 | none =>
  rw [List.findIdx?_eq_none_iff] at h
  have:l.any p=false:=by
   rw [List.any_eq_false]
   intro x hx
   rw [h x hx];exact Bool.false_ne_true
  rw [this];rfl
 | some i =>
  rw [List.findIdx?_eq_some_iff_getElem] at h
  obtain⟨hi,hp,_⟩:=h
  have:l.any p=true:=List.any_eq_true.2 ⟨l[i],List.getElem_mem hi,hp⟩
  rw [this]
  exact decide_eq_true (by show (0:Int)≤(i:Int);omega)
theorem none_step {α:Type} {p:α→Bool} {l:List α} {i:Nat} (h:∀ j (hj:j < l.length),j < i→p l[j]=false) (hi:i < l.length) (hp:p l[i]=false):∀ j (hj:j < l.length),j < i + 1→p l[j]=false:=by
 intro j hj hlt
 by_cases he:j=i
 ·subst he;exact hp
 ·exact h j hj (by omega)
attribute [local irreducible] DW DS DL DQ Ev FnOk FnP thenD inBlockD DT
def encI (n:Int):List D:=[.int .i64 n]
def encFct (f:Fct):List D:=[.int .i64 f.pred,.slice 1 (f.args.map encI)]
abbrev elI (n:Int):SV:=.d (.int .i64 n)
abbrev elFct (f:Fct):SV:=.agg [.d (.int .i64 f.pred),.d (.slice 1 (f.args.map encI))]
set_option maxHeartbeats 8000000 in
theorem indexFuncInt_fn {f:FuncId} {caps:List SV} (p:Int→Bool) (l:List (Int)) (hcap:SV.lowL 0 caps=true) (hp:∀ x∈l,Fn f (elI x::caps) (fun r=>r = .d (.bool (p x)))):Fn 175 [.d (.slice 1 (l.map encI)),.fn f caps] (fun r=>r = .d (.int .i64 (idxF p l))):=by
 refine fnp_enter' _ Tryz.func175 rfl rfl (by kernel_rfl) ?_
 intro O w0 E0 β0
 refine dw_len_map (t:=0) rfl fun hb=>?_
 repeat' (first|refine z0 ?_|apply ds_nil|apply dw_seq2|refine z16 ?_|apply dw_block|apply thenD_n)
 refine ds_loop (ι:=Nat) (fun i=>⟨0,[(0,.d (.slice 1 (l.map encI))),(1,.fn f caps),(7,.d (.int .i64 l.length)),(8,.d (.int .i64 i))],[]⟩)
  (fun i=>i≤l.length∧∀ j (hj:j < l.length),j < i→p l[j]=false) (fun i=>l.length - i) 0 ⟨Nat.zero_le _,fun j _ h=>absurd h (Nat.not_lt_zero j)⟩
  (ent_ren id ⟨rfl,congrArg (SV.fn f) (SV.renL_id caps).symm,by simp;rfl,rfl,trivial⟩ trivial (by simp [Sl.low,SV.low,hcap]) rfl rfl rfl rfl rfl) ?_
 rintro i ⟨h1,h2⟩
 repeat' (first|refine z0 ?_|apply ds_nil|apply dw_seq2|refine z16 ?_|apply thenD_n)
 refine dw_condP rfl (fun h=>?_) (fun h=>?_)
 ·have hi:i < l.length:=by omega
  have hpx:=hp l[i] (List.getElem_mem hi)
  repeat' (first|refine z0 ?_|apply ds_nil|apply dw_seq2|refine z16 ?_|apply dw_block|apply dw_skip|apply thenD_n|(apply ds_callV;exact rfl;exact rfl;exact rfl;exact rfl;apply hpx;exact rfl;(assumption);exact rfl;rintro _ rfl))
  refine dw_cond rfl (fun hb=>?_) (fun hb=>?_)
  ·repeat' (first|refine z0 ?_|apply ds_nil|apply dw_seq2|refine z16 ?_|apply dw_ret|apply thenD_n|apply thenD_r|apply inB_r)
   exact ret_i rfl (idxF_hit h2 hi hb).symm
  ·repeat' (first|refine z0 ?_|apply ds_nil|refine z16 ?_|apply dw_skip|apply thenD_n|apply inB_n)
   exact⟨i + 1,⟨hi,none_step h2 hi hb⟩,ent_ren id ⟨rfl,congrArg (SV.fn f) (SV.renL_id caps).symm,rfl,rfl,trivial⟩ trivial (by simp [Sl.low,SV.low,hcap]) rfl rfl rfl rfl rfl,by omega⟩
 ·repeat' (first|refine z0 ?_|apply ds_nil|apply dw_seq2|refine z16 ?_|apply dw_exit|apply dw_ret|apply thenD_n|apply thenD_e|refine z17 ?_|fail)
  exact ret_i rfl (idxF_none fun j hj=>h2 j hj (by omega)).symm
set_option maxHeartbeats 8000000 in
theorem containsFuncInt_fn {f:FuncId} {caps:List SV} (p:Int→Bool) (l:List (Int)) (hcap:SV.lowL 0 caps=true) (hp:∀ x∈l,Fn f (elI x::caps) (fun r=>r = .d (.bool (p x)))):Fn 126 [.d (.slice 1 (l.map encI)),.fn f caps] (fun r=>r = .d (.bool (l.any p))):=by
 refine fnp_enter' _ Tryz.func126 rfl rfl (by kernel_rfl) ?_
 intro O w0 E0 β0
 have hx:=indexFuncInt_fn p l hcap hp
 have hlow:SV.lowL 0 [.d (.slice 1 (l.map encI)),.fn f caps]=true:=by simp [SV.lowL,SV.low,hcap]
 repeat' (first|refine z0 ?_|apply ds_nil|apply dw_seq2|refine z16 ?_|apply dw_ret|apply thenD_n|refine z21 ?_ (hc:=by apply hx)|fail)
 exact ret_b rfl (idxF_any p l)
set_option maxHeartbeats 8000000 in
theorem isNaN_fnD (dr:Bool) (a:Int):FnD dr 156 [.d (.int .i64 a)] (fun r=>r = .d (.bool false)):=by
 refine fnp_enter' _ Tryz.func156 rfl rfl (by kernel_rfl) ?_
 intro O w0 E0 β0
 repeat' (first|refine z0 ?_|apply ds_nil|apply dw_seq2|refine z16 ?_|apply dw_ret|apply thenD_n)
 exact ret_b rfl (by simp)
set_option maxHeartbeats 8000000 in
theorem compare_fnD (dr:Bool) (a b:Int):FnD dr 104 [.d (.int .i64 a),.d (.int .i64 b)] (fun r=>r = .d (.int .i64 (cmpI a b))):=by
 refine fnp_enter' _ Tryz.func104 rfl rfl (by kernel_rfl) ?_
 intro O w0 E0 β0
 repeat' (first|refine z0 ?_|apply ds_nil|apply dw_seq2|refine z16 ?_|apply dw_skip|apply dw_ret|refine z19 ?_|apply thenD_n|apply thenD_r|refine z21 ?_ (hc:=by apply isNaN_fnD)|(refine z23 ?_ ?_ <;> intro hg)|fail)
 all_goals exact ret_i rfl (by unfold cmpI;simp [*])
def orL:List Int→Int
 | []=>0
 | a::l=>if a=0 then orL l else a
set_option maxHeartbeats 8000000 in
theorem or_fnD (dr:Bool) (l:List Int):FnD dr 103 [.d (.slice 1 (l.map encI))] (fun r=>r = .d (.int .i64 (orL l))):=by
 refine fnp_enter' _ Tryz.func103 rfl rfl (by kernel_rfl) ?_
 intro O w0 E0 β0
 refine dw_len_map (t:=0) rfl fun hb=>?_
 repeat' (first|refine z0 ?_|apply ds_nil|apply dw_seq2|refine z16 ?_|apply dw_block|apply thenD_n)
 refine ds_loop (ι:=Nat) (fun i=>⟨0,[(3,.d (.int .i64 0)),(6,.d (.slice 1 (l.map encI))),(7,.d (.int .i64 l.length)),(8,.d (.int .i64 i))],[]⟩)
  (fun i=>i≤l.length∧orL l=orL (l.drop i)) (fun i=>l.length - i) 0 ⟨Nat.zero_le _,rfl⟩
  (ent_ren id ⟨rfl,rfl,by simp;rfl,rfl,trivial⟩ trivial rfl rfl rfl rfl rfl rfl) ?_
 rintro i ⟨h1,h2⟩
 repeat' (first|refine z0 ?_|apply ds_nil|apply dw_seq2|refine z16 ?_|apply thenD_n)
 refine dw_condP rfl (fun h=>?_) (fun h=>?_)
 ·have hi:i < l.length:=by omega
  have hd:=List.drop_eq_getElem_cons hi
  repeat' (first|refine z0 ?_|apply ds_nil|apply dw_seq2|refine z16 ?_|apply dw_block|apply dw_skip|apply thenD_n)
  refine dw_condP rfl (fun hb=>?_) (fun hb=>?_)
  ·repeat' (first|refine z0 ?_|apply ds_nil|apply dw_seq2|refine z16 ?_|apply dw_ret|apply thenD_n|apply thenD_r|apply inB_r)
   exact ret_i rfl (by rw [h2,hd,orL,if_neg hb])
  ·repeat' (first|refine z0 ?_|apply ds_nil|refine z16 ?_|apply dw_skip|apply thenD_n|apply inB_n)
   exact⟨i + 1,⟨hi,by rw [h2,hd,orL,if_pos (Decidable.not_not.1 hb)]⟩,ent_ren id ⟨rfl,rfl,rfl,rfl,trivial⟩ trivial rfl rfl rfl rfl rfl rfl,by omega⟩
 ·repeat' (first|refine z0 ?_|apply ds_nil|apply dw_seq2|refine z16 ?_|apply dw_exit|apply dw_ret|apply thenD_n|apply thenD_e|refine z17 ?_|fail)
  exact ret_i rfl (by rw [h2,List.drop_of_length_le (by omega)];rfl)
theorem ordL_step {l m:List Int} {i:Nat} (h1:i < l.length) (h2:i < m.length):ordL (l.drop i) (m.drop i)=if cmpI l[i] m[i]=0 then ordL (l.drop (i + 1)) (m.drop (i + 1)) else cmpI l[i] m[i]:=by
 rw [List.drop_eq_getElem_cons h1,List.drop_eq_getElem_cons h2,ordL]
theorem ordL_more {l m:List Int} {i:Nat} (h1:i < l.length) (h2:m.length≤i):ordL (l.drop i) (m.drop i)=1:=by
 rw [List.drop_eq_getElem_cons h1,List.drop_of_length_le h2];unfold ordL;rfl
theorem ordL_less {l m:List Int} {i:Nat} (h1:l.length≤i) (h2:i < m.length):ordL (l.drop i) (m.drop i) = -1:=by
 rw [List.drop_eq_getElem_cons h2,List.drop_of_length_le h1];unfold ordL;rfl
theorem ordL_end {l m:List Int} {i:Nat} (h1:l.length≤i) (h2:m.length≤i):ordL (l.drop i) (m.drop i)=0:=by
 rw [List.drop_of_length_le h1,List.drop_of_length_le h2];unfold ordL;rfl
set_option maxHeartbeats 8000000 in
theorem compareInts_fnD (dr:Bool) (l m:List Int):FnD dr 105 [.d (.slice 1 (l.map encI)),.d (.slice 1 (m.map encI))] (fun r=>r = .d (.int .i64 (ordL l m))):=by
 refine fnp_enter' _ Tryz.func105 rfl rfl (by kernel_rfl) ?_
 intro O w0 E0 β0
 refine dw_len_map (t:=0) rfl fun hb=>?_
 refine dw_len_map (t:=1) rfl fun hb2=>?_
 repeat' (first|refine z0 ?_|apply ds_nil|apply dw_seq2|refine z16 ?_|apply dw_block|apply thenD_n)
 refine ds_loop (ι:=Nat) (fun i=>⟨0,[(0,.d (.slice 1 (l.map encI))),(1,.d (.slice 1 (m.map encI))),(9,.d (.slice 1 (l.map encI))),(10,.d (.int .i64 l.length)),(11,.d (.int .i64 i))],[]⟩)
  (fun i=>i≤l.length∧i≤m.length∧ordL l m=ordL (l.drop i) (m.drop i)) (fun i=>l.length - i) 0 ⟨Nat.zero_le _,Nat.zero_le _,rfl⟩
  (ent_ren id ⟨rfl,rfl,rfl,by simp;rfl,rfl,trivial⟩ trivial rfl rfl rfl rfl rfl rfl) ?_
 rintro i ⟨h1,h2,h3⟩
 repeat' (first|refine z0 ?_|apply ds_nil|apply dw_seq2|refine z16 ?_|apply thenD_n)
 refine dw_condP rfl (fun h=>?_) (fun h=>?_)
 ·have hi:i < l.length:=by omega
  repeat' (first|refine z0 ?_|apply ds_nil|apply dw_seq2|refine z16 ?_|apply dw_block|apply dw_skip|apply thenD_n)
  refine dw_condP rfl (fun hb=>?_) (fun hb=>?_)
  ·repeat' (first|refine z0 ?_|apply ds_nil|apply dw_seq2|refine z16 ?_|apply dw_ret|apply thenD_n|apply thenD_r|apply inB_r)
   exact ret_i rfl (by rw [h3,ordL_more hi (by rw [List.length_map] at hb;omega)])
  ·have hm:i < m.length:=by rw [List.length_map] at hb;omega
   have hs:=ordL_step hi hm
   repeat' (first|refine z0 ?_|apply ds_nil|apply dw_seq2|refine z16 ?_|apply dw_skip|apply thenD_n|refine z21 ?_ (hc:=by apply compare_fnD)|fail)
   refine dw_condP rfl (fun hc=>?_) (fun hc=>?_)
   ·repeat' (first|refine z0 ?_|apply ds_nil|apply dw_seq2|refine z16 ?_|apply dw_ret|apply thenD_n|apply thenD_r|apply inB_r)
    exact ret_i rfl (by rw [h3,hs,if_neg hc])
   ·repeat' (first|refine z0 ?_|apply ds_nil|refine z16 ?_|apply dw_skip|apply thenD_n|apply inB_n)
    exact⟨i + 1,⟨hi,hm,by rw [h3,hs,if_pos (Decidable.not_not.1 hc)]⟩,ent_ren id ⟨rfl,rfl,rfl,rfl,rfl,trivial⟩ trivial rfl rfl rfl rfl rfl rfl,by omega⟩
 ·repeat' (first|refine z0 ?_|apply ds_nil|apply dw_seq2|refine z16 ?_|apply dw_exit|apply thenD_n|apply thenD_e|refine z17 ?_|fail)
  refine dw_condP rfl (fun hb=>?_) (fun hb=>?_)
  ·repeat' (first|refine z0 ?_|apply ds_nil|apply dw_seq2|refine z16 ?_|apply dw_ret|apply thenD_n|apply thenD_r)
   exact ret_i rfl (by rw [h3,ordL_less (by omega) (by rw [List.length_map,List.length_map] at hb;omega)])
  ·repeat' (first|refine z0 ?_|apply ds_nil|apply dw_seq2|refine z16 ?_|apply dw_skip|apply dw_ret|apply thenD_n)
   exact ret_i rfl (by rw [h3,ordL_end (by omega) (by rw [List.length_map,List.length_map] at hb;omega)])
theorem ordF_or (a b:Fct):ordF a b=orL [cmpI a.pred b.pred,ordL a.args b.args]:=by
 unfold ordF
 simp only [orL]
 split
 ·split
  ·assumption
  ·rfl
 ·rfl
set_option maxHeartbeats 8000000 in
theorem orderF_fnD (dr:Bool) (a b:Fct):FnD dr 52 [elFct a,elFct b] (fun r=>r = .d (.int .i64 (ordF a b))):=by
 refine fnp_enter' _ Tryz.func52 rfl rfl (by kernel_rfl) ?_
 intro O w0 E0 β0
 have ho:=or_fnD dr [cmpI a.pred b.pred,ordL a.args b.args]
 repeat' (first|refine z0 ?_|apply ds_nil|refine z5 ?_|refine z10 ?_|apply dw_seq2|refine z16 ?_|refine z20 ?_|apply dw_ret|apply thenD_n|refine z22 ?_ (hc:=by apply compare_fnD)|refine z22 ?_ (hc:=by apply compareInts_fnD)|refine z22 ?_ (hc:=by apply ho)|refine z1 ?_|fail)
 exact ret_i rfl (ordF_or a b).symm
theorem orderF_fn (a b:Fct):Fn 52 [elFct a,elFct b] (fun r=>r = .d (.int .i64 (ordF a b))):=orderF_fnD false a b

theorem ext2 (s:ByteArray) (i:Nat) (h:i + 1 < s.size):s.extract i (i + 2)=⟨#[s[i],s[i + 1]]⟩:=by
 apply ByteArray.ext
 simp only [ByteArray.data_extract]
 apply Array.toList_inj.1
 rw [Array.toList_extract]
 have hl:s.data.toList.length=s.size:=by simp
 rw [List.extract_eq_take_drop,show i + 2 - i=2 by omega,List.drop_eq_getElem_cons (by omega),List.drop_eq_getElem_cons (by omega),byteAt _ _ (by omega),byteAt _ _ (by omega)]
 rfl
theorem pair_ext (s:ByteArray) (i:Nat) (h:i + 1 < s.size):pairB (s[i]::s.data.toList.drop (i + 1))=(decide (s.extract i (i + 2)=⟨#[58,45]⟩) || decide (s.extract i (i + 2)=⟨#[60,61]⟩) || decide (s.extract i (i + 2)=⟨#[33,61]⟩)):=by
 have hl:s.data.toList.length=s.size:=by simp
 have key:∀ a b c d:UInt8,decide ((⟨#[a,b]⟩:ByteArray)=⟨#[c,d]⟩)=(a == c && b == d):=fun a b c d=>by
  rw [Bool.eq_iff_iff];simp
 rw [ext2 s i h,key,key,key,List.drop_eq_getElem_cons (by omega),byteAt _ _ (by omega),pairB]
theorem fct_not {x y:Fct} {b:Bool} (h:decide (ordF x y≠0) = !b):Fct.same x y=b:=by
 unfold Fct.same
 cases b <;> simpa using h
theorem ordL_lt {l m:List Int} {i:Nat} (h1:i < l.length) (h2:i < m.length) (h:l[i] < m[i]):ordL (l.drop i) (m.drop i) = -1:=by
 have e:cmpI l[i] m[i] = -1:=by unfold cmpI;rw [if_pos h]
 rw [ordL_step h1 h2,e];rfl
theorem ordL_gt {l m:List Int} {i:Nat} (h1:i < l.length) (h2:i < m.length) (h:m[i] < l[i]):ordL (l.drop i) (m.drop i)=1:=by
 have e:cmpI l[i] m[i]=1:=by unfold cmpI;rw [if_neg (by omega),if_pos h]
 rw [ordL_step h1 h2,e];rfl
theorem ordL_eq {l m:List Int} {i:Nat} (h1:i < l.length) (h2:i < m.length) (h:l[i]=m[i]):ordL (l.drop i) (m.drop i)=ordL (l.drop (i + 1)) (m.drop (i + 1)):=by
 rw [ordL_step h1 h2,h,if_pos (cmpI_self _)]
theorem cmpI_eq (a b:Int):(cmpI a b=0)=(a=b):=by unfold cmpI;rw [eq_iff_iff];split <;> (try split) <;> simp <;> omega
set_option maxHeartbeats 8000000 in
theorem orderOf_fn (a b:Fct):Fn 49 [elFct a,elFct b] (fun r=>r = .d (.int .i64 (ordF a b))):=by
 refine fnp_enter' _ Tryz.func49 rfl rfl (by kernel_rfl) ?_
 intro O w0 E0 β0
 repeat' (first|refine z0 ?_|apply ds_nil|apply dw_seq2|refine z16 ?_|apply thenD_n|refine z1 ?_|fail)
 refine dw_condP rfl (fun hp=>?_) (fun hp=>?_)
 ·repeat' (first|refine z0 ?_|apply ds_nil|apply dw_seq2|refine z16 ?_|apply dw_skip|apply dw_ret|apply thenD_n|apply thenD_r|(refine z23 ?_ ?_ <;> intro hg)|fail)
  all_goals exact ret_i rfl (by unfold ordF;rw [if_neg (by rw [cmpI_eq];exact hp)];unfold cmpI;repeat' split;all_goals first|rfl|omega)
 ·have hF:ordF a b=ordL a.args b.args:=by unfold ordF;rw [if_pos (by rw [cmpI_eq];exact Decidable.not_not.1 hp)]
  repeat' (first|refine z0 ?_|apply ds_nil|apply dw_seq2|refine z16 ?_|apply dw_block|apply dw_skip|apply thenD_n)
  refine ds_loop (ι:=Nat) (fun i=>⟨2,[(2,.loc 0 0),(3,.loc 1 0),(5,.d (.int .i64 i))],[(0,.blk 37 [.d (.int .i64 a.pred),.d (.slice 1 (a.args.map encI))]),(1,.blk 37 [.d (.int .i64 b.pred),.d (.slice 1 (b.args.map encI))])]⟩)
   (fun i=>i≤a.args.length∧i≤b.args.length∧ordF a b=ordL (a.args.drop i) (b.args.drop i)) (fun i=>a.args.length - i) 0 ⟨Nat.zero_le _,Nat.zero_le _,hF⟩
   (ent_ren id ⟨rfl,rfl,rfl,trivial⟩ ⟨rfl,rfl,trivial⟩ rfl rfl rfl rfl rfl rfl) ?_
  rintro i ⟨h1,h2,h3⟩
  refine dw_lenC 0 1 rfl rfl fun hb=>?_
  have la:(a.args.map encI).length=a.args.length:=List.length_map _
  have lb:(b.args.map encI).length=b.args.length:=List.length_map _
  repeat' (first|refine z0 ?_|refine z12 ?_|apply ds_nil|refine z5 ?_|refine z10 ?_|apply dw_seq2|refine z16 ?_|refine z20 ?_|apply dw_block|apply dw_skip|apply dw_exit|apply dw_ret|refine z19 ?_|apply thenD_n|apply thenD_e|apply thenD_r|apply inB_n|apply inB_r|refine z17 ?_|(refine z23 ?_ ?_ <;> intro hg)|((fail_if_success (apply ds_known;exact rfl));apply ds_guardP;exact rfl;exact rfl;exact rfl;all_goals intro hg))
  all_goals first
   | (refine ret_i rfl (Eq.trans ?_ h3.symm);refine (ordL_lt ?_ ?_ ?_).symm <;> first|assumption|omega)
   | (refine ret_i rfl (Eq.trans ?_ h3.symm);refine (ordL_gt ?_ ?_ ?_).symm <;> first|assumption|omega)
   | (refine ret_i rfl (Eq.trans ?_ h3.symm);refine (ordL_less ?_ ?_).symm <;> omega)
   | (refine ret_i rfl (Eq.trans ?_ h3.symm);refine (ordL_more ?_ ?_).symm <;> omega)
   | (refine ret_i rfl (Eq.trans ?_ h3.symm);refine (ordL_end ?_ ?_).symm <;> omega)
   | (refine⟨i + 1,⟨?_,?_,h3.trans (ordL_eq ?_ ?_ ?_)⟩,ent_ren id ⟨rfl,rfl,rfl,trivial⟩ ⟨rfl,rfl,trivial⟩ rfl rfl rfl rfl rfl rfl,?_⟩ <;> omega)
set_option maxHeartbeats 8000000 in
theorem sameFacts_fn (l m:List (Fct)):Fn 19 [.d (.slice 2 (l.map encFct)),.d (.slice 2 (m.map encFct))] (fun r=>r = .d (.bool (sameL Fct.same l m))):=by
 refine fnp_enter' _ Tryz.func19 rfl rfl (by kernel_rfl) ?_
 intro O w0 E0 β0
 refine dw_len_map (t:=0) rfl fun hb=>?_
 repeat' (first|refine z0 ?_|apply ds_nil|apply dw_seq2|refine z16 ?_|apply thenD_n)
 refine dw_condP rfl (fun h=>?_) (fun h=>?_)
 ·have hne:l.length≠m.length:=by rw [List.length_map,List.length_map] at h;omega
  repeat' (first|refine z0 ?_|apply ds_nil|apply dw_seq2|refine z16 ?_|apply dw_ret|apply thenD_n|apply thenD_r)
  exact ret_b rfl (sameL_len _ _ _ hne).symm
 ·have hlen:l.length=m.length:=by rw [List.length_map,List.length_map] at h;omega
  repeat' (first|refine z0 ?_|apply ds_nil|apply dw_seq2|refine z16 ?_|apply dw_block|apply dw_skip|apply thenD_n)
  refine ds_loop (ι:=Nat) (fun i=>⟨0,[(0,.d (.slice 2 (l.map encFct))),(1,.d (.slice 2 (m.map encFct))),(5,.d (.int .i64 i))],[]⟩)
   (fun i=>i≤l.length∧sameL Fct.same l m=sameL Fct.same (l.drop i) (m.drop i)) (fun i=>l.length - i) 0 ⟨Nat.zero_le _,rfl⟩
   (ent_ren id ⟨rfl,rfl,rfl,trivial⟩ trivial rfl rfl rfl rfl rfl rfl) ?_
  rintro i ⟨h1,h2⟩
  repeat' (first|refine z0 ?_|apply ds_nil|apply dw_seq2|refine z16 ?_|apply thenD_n)
  refine dw_condP rfl (fun h=>?_) (fun h=>?_)
  ·have hi:i < l.length:=by rw [List.length_map] at h;omega
   have hm:i < m.length:=by omega
   have hd:=sameL_drop Fct.same l m i hi hm
   repeat' (first|refine z5 ?_|refine z10 ?_|apply dw_seq2|refine z20 ?_|apply dw_block|apply dw_skip|apply thenD_n|refine z22 ?_ (hc:=by apply orderOf_fn)|fail)
   refine dw_cond rfl (fun hb=>?_) (fun hb=>?_)
   ·have hp:Fct.same l[i] m[i]=false:=by exact fct_not hb
    repeat' (first|refine z0 ?_|apply ds_nil|apply dw_seq2|refine z16 ?_|apply dw_ret|apply thenD_n|apply thenD_r|apply inB_r)
    exact ret_b rfl (by rw [h2,hd,hp];rfl)
   ·have hp:Fct.same l[i] m[i]=true:=by exact fct_not hb
    repeat' (first|refine z0 ?_|apply ds_nil|refine z16 ?_|apply dw_skip|apply thenD_n|apply inB_n)
    exact⟨i + 1,⟨hi,by rw [h2,hd,hp];rfl⟩,ent_ren id ⟨rfl,rfl,rfl,trivial⟩ trivial rfl rfl rfl rfl rfl rfl,by omega⟩
  ·repeat' (first|refine z0 ?_|apply ds_nil|apply dw_seq2|refine z16 ?_|apply dw_exit|apply dw_ret|apply thenD_n|apply thenD_e|refine z17 ?_|fail)
   exact ret_b rfl (by rw [h2,sameL_end _ _ _ _ (by rw [List.length_map] at h;omega) (by rw [List.length_map] at h;omega)])
set_option maxHeartbeats 8000000 in
theorem hasFact_fn (l:List Fct) (f:Fct):Fn 11 [.d (.slice 2 (l.map encFct)),elFct f] (fun r=>r = .d (.bool (hasF l f))):=by
 refine fnp_enter' _ Tryz.func11 rfl rfl (by kernel_rfl) ?_
 intro O w0 E0 β0
 have la:(l.map encFct).length=l.length:=List.length_map _
 refine dw_len (t:=0) rfl (fun hk=>?_)
 unfold hasF
 repeat' (first|refine z0 ?_|apply ds_nil|apply dw_seq2|refine z16 ?_|apply dw_block|apply thenD_n|refine z1 ?_|fail)
 refine ds_loop (ι:=Nat) (fun i=>⟨1,[(0,.d (.slice 2 (l.map encFct))),(3,.loc 0 0),(4,.d (.bool false)),(5,.d (.int .i64 i))],[(0,.blk 37 [.d (.int .i64 f.pred),.d (.slice 1 (f.args.map encI))])]⟩)
  (fun i=>i≤l.length∧(l.any fun x=>decide (ordF x f=0))=((l.drop i).any fun x=>decide (ordF x f=0))) (fun i=>l.length - i) 0 ⟨Nat.zero_le _,rfl⟩ (ent_ren id ⟨rfl,rfl,rfl,rfl,trivial⟩ ⟨rfl,trivial⟩ rfl rfl rfl rfl rfl rfl) ?_
 rintro i ⟨g1,g2⟩
 by_cases hi:i < l.length
 ·have w:=orderOf_fn l[i] f
  rw [List.drop_eq_getElem_cons hi,List.any_cons] at g2
  generalize ordF l[i] f=q at w g2
  repeat' (first|refine z0 ?_|apply ds_nil|refine z5 ?_|refine z10 ?_|apply dw_seq2|refine z16 ?_|refine z20 ?_|apply dw_block|apply dw_skip|apply dw_exit|apply dw_ret|apply thenD_n|apply thenD_e|apply thenD_r|apply inB_n|apply inB_r|refine z17 ?_|refine z22 ?_ (hc:=by apply w)|(refine z23 ?_ ?_ <;> intro hg)|fail)
  all_goals first
   | (exfalso;omega)
   | (refine ret_b rfl ?_;rw [g2];simp_all;done)
   | exact⟨i + 1,⟨by omega,by rw [g2];simp_all⟩,ent_ren id ⟨rfl,rfl,rfl,rfl,trivial⟩ ⟨rfl,trivial⟩ rfl rfl rfl rfl rfl rfl,by show l.length - (i + 1) < l.length - i;omega⟩
 ·rw [List.drop_of_length_le (by omega)] at g2
  repeat' (first|refine z0 ?_|apply ds_nil|refine z5 ?_|apply dw_seq2|refine z16 ?_|refine z20 ?_|apply dw_block|apply dw_skip|apply dw_exit|apply dw_ret|apply thenD_n|apply thenD_e|refine z17 ?_|(refine z23 ?_ ?_ <;> intro hg)|fail)
  all_goals first
   | (exfalso;omega)
   | exact ret_b rfl g2.symm
structure Trm where
 var:Int
 n:Int
structure Ltl where
 kind:Int
 op:Int
 pred:Int
 terms:List Trm
structure Rul where
 pred:Int
 terms:List Trm
 fold:Int
 body:List Ltl
 vars:Int
structure Prg where
 arity:List Int
 names:List ByteArray
 rules:List Rul
def firstL {α:Type} (f:α→Int):List α→Int
 | []=>0
 | x::l=>if f x≠0 then f x else firstL f l
theorem firstL_step {α:Type} {f:α→Int} {l:List α} {i:Nat} (hi:i < l.length):firstL f (l.drop i)=if f l[i]≠0 then f l[i] else firstL f (l.drop (i + 1)):=by
 rw [List.drop_eq_getElem_cons hi];rfl
theorem firstL_end {α:Type} {f:α→Int} {l:List α} {i:Nat} (hi:l.length≤i):firstL f (l.drop i)=0:=by
 rw [List.drop_of_length_le hi];rfl
def firstI (f:Nat→Int):Nat→Nat→Int
 | _,0=>0
 | i,k + 1=>if f i≠0 then f i else firstI f (i + 1) k
theorem firstI_step {f:Nat→Int} {n i:Nat} (h:i < n):firstI f i (n - i)=if f i≠0 then f i else firstI f (i + 1) (n - (i + 1)):=by
 rw [show n - i=(n - (i + 1)) + 1 by omega];rfl
theorem firstI_end {f:Nat→Int} {n i:Nat} (h:n≤i):firstI f i (n - i)=0:=by
 rw [show n - i=0 by omega];rfl
def termE (vars:Int) (t:Trm):Int:=if inR t.var (-1) (vars - 1)=false then 5 else if numB t.n=false∨(0≤t.var∧t.n≠0) then 3 else 0
def termsE (vars:Int) (l:List Trm):Int:=firstL (termE vars) l
def opB (kind n:Int):Bool:=if kind=3 then inR n 1 4 else if kind=4 then inR n 5 7 else decide (n=0)
def litE (arity:List Int) (vars:Int) (l:Ltl):Int :=
 if inR l.kind 1 4=false then 7
 else if opB l.kind l.op=false then 3
 else if l.kind=1∨l.kind=2 then
  if inR l.pred 0 ((arity.length:Int) - 1)=false then 5
  else if (l.terms.length:Int)≠arity.getD l.pred.toNat 0 then 1
  else termsE vars l.terms
 else if l.pred≠0∨(l.terms.length:Int)≠l.kind - 1 then 1
 else termsE vars l.terms
def isT (bs:List Bool) (t:Trm):Bool:=decide (t.var < 0) || bs.getD t.var.toNat false
def setT (bs:List Bool) (t:Trm):List Bool:=if t.var < 0 then bs else bs.set t.var.toNat true
def firesB (bs:List Bool) (l:Ltl):Bool:=decide (l.kind=1) || (decide (l.kind=4) && (l.terms.take 2).all (isT bs))
def litTs (l:Ltl):List Trm:=if l.kind=1 then l.terms else l.terms.drop 2
def bLit (bs:List Bool) (l:Ltl):List Bool:=if firesB bs l then (litTs l).foldl setT bs else bs
def bRound (body:List Ltl) (bs:List Bool):List Bool:=body.foldl bLit bs
def bIter (body:List Ltl):Nat→List Bool→List Bool
 | 0,bs=>bs
 | n + 1,bs=>bIter body n (bRound body bs)
def boundL (r:Rul):List Bool:=bIter r.body (r.body.length + 1) (List.replicate r.vars.toNat false)
def safeB (r:Rul):Bool:=(boundL r).all id
def ruleE (arity:List Int) (r:Rul):Int :=
 if inR r.pred 0 ((arity.length:Int) - 1)=false then 5
 else if (r.terms.length:Int)≠arity.getD r.pred.toNat 0 then 1
 else if inR r.vars 0 8=false then 3
 else if termsE r.vars r.terms≠0 then termsE r.vars r.terms
 else if inR r.fold 0 4=false then 7
 else if r.fold≠0∧(r.terms.length=0∨r.body.length=0) then 1
 else if 4 < r.body.length then 2
 else if firstL (litE arity r.vars) r.body≠0 then firstL (litE arity r.vars) r.body
 else if safeB r=false then 4
 else 0
def nameE (nameB:ByteArray→Bool) (p:Prg) (i:Nat):Int :=
 if inR (p.arity.getD i 0) 0 3=false then 3
 else if nameB (p.names.getD i ⟨#[]⟩)=false then 1
 else if (p.names.take i).any (fun s=>decide (s=p.names.getD i ⟨#[]⟩)) then 6
 else 0
def progE (nameB:ByteArray→Bool) (p:Prg):Int :=
 if 10 < p.arity.length∨12 < p.rules.length then 2
 else if p.names.length≠p.arity.length then 1
 else if firstI (nameE nameB p) 0 p.names.length≠0 then firstI (nameE nameB p) 0 p.names.length
 else firstL (ruleE p.arity) p.rules
theorem setT_len (bs:List Bool) (t:Trm):(setT bs t).length=bs.length:=by unfold setT;split <;> simp
theorem setTs_len:∀ (l:List Trm) (bs:List Bool),(l.foldl setT bs).length=bs.length
 | [],_=>rfl
 | t::l,bs=>by rw [List.foldl_cons,setTs_len l,setT_len]
theorem bLit_len (bs:List Bool) (l:Ltl):(bLit bs l).length=bs.length:=by unfold bLit;split;exact setTs_len _ _;rfl
theorem bRound_len:∀ (body:List Ltl) (bs:List Bool),(bRound body bs).length=bs.length
 | [],_=>rfl
 | l::body,bs=>by
  have:=bRound_len body (bLit bs l)
  rw [bLit_len] at this
  exact this
theorem bIter_len (body:List Ltl):∀ (n:Nat) (bs:List Bool),(bIter body n bs).length=bs.length
 | 0,_=>rfl
 | n + 1,bs=>by rw [bIter,bIter_len body n,bRound_len]
def leB (a b:List Bool):Prop:=a.length=b.length∧∀ i,a.getD i false=true→b.getD i false=true
theorem leB.refl (a:List Bool):leB a a:=⟨rfl,fun _ h=>h⟩
theorem leB.trans {a b c:List Bool} (h:leB a b) (g:leB b c):leB a c:=⟨h.1.trans g.1,fun i hi=>g.2 i (h.2 i hi)⟩
theorem setT_le (bs:List Bool) (t:Trm):leB bs (setT bs t):=by
 refine⟨(setT_len _ _).symm,fun i h=>?_⟩
 unfold setT
 split
 ·exact h
 ·simp only [List.getD,List.getElem?_set] at h ⊢
  split
  ·rename_i hi
   rw [hi]
   by_cases hl:i < bs.length
   ·simp [hl]
   ·rw [List.getElem?_eq_none (by omega)] at h;cases h
  ·exact h
theorem setTs_le:∀ (l:List Trm) (bs:List Bool),leB bs (l.foldl setT bs)
 | [],bs=>leB.refl bs
 | t::l,bs=>(setT_le bs t).trans (setTs_le l _)
theorem bLit_le (bs:List Bool) (l:Ltl):leB bs (bLit bs l):=by unfold bLit;split;exact setTs_le _ _;exact leB.refl _
theorem bRound_le:∀ (body:List Ltl) (bs:List Bool),leB bs (bRound body bs)
 | [],bs=>leB.refl bs
 | l::body,bs=>(bLit_le bs l).trans (bRound_le body _)
theorem isT_mono {a b:List Bool} (h:leB a b) {t:Trm} (ht:isT a t=true):isT b t=true:=by
 unfold isT at ht ⊢
 rw [Bool.or_eq_true] at ht ⊢
 exact ht.imp id (h.2 _)
theorem fires_mono {a b:List Bool} (h:leB a b) {l:Ltl} (hl:firesB a l=true):firesB b l=true:=by
 unfold firesB at hl ⊢
 simp only [Bool.or_eq_true,Bool.and_eq_true,List.all_eq_true] at hl ⊢
 exact hl.imp id fun⟨g1,g2⟩=>⟨g1,fun t ht=>isT_mono h (g2 t ht)⟩
theorem setT_same {bs:List Bool} {t:Trm} (h:isT bs t=true):setT bs t=bs:=by
 unfold isT at h
 unfold setT
 split
 ·rfl
 ·rename_i hn
  rw [decide_eq_false hn,Bool.false_or] at h
  simp only [List.getD] at h
  cases hg:bs[t.var.toNat]? with
  | none=>rw [hg] at h;cases h
  | some b =>
   rw [hg] at h
   simp only [Option.getD_some] at h
   subst h
   have hlt:=(List.getElem?_eq_some_iff.1 hg).1
   refine List.ext_getElem? fun i=>?_
   rw [List.getElem?_set]
   split
   ·rename_i hi;subst hi;exact hg.symm
   ·rfl
theorem setTs_same:∀ {l:List Trm} {bs:List Bool},(∀ t∈l,isT bs t=true)→l.foldl setT bs=bs
 | [],_,_=>rfl
 | t::l,bs,h=>by
  rw [List.foldl_cons,setT_same (h t (List.mem_cons_self ..))]
  exact setTs_same fun x hx=>h x (List.mem_cons_of_mem _ hx)
def okT (v:Nat) (t:Trm):Prop:=t.var < (v:Int)
theorem setT_is {bs:List Bool} {t:Trm} (h:okT bs.length t):isT (setT bs t) t=true:=by
 unfold isT setT
 unfold okT at h
 split
 ·rename_i hn;rw [decide_eq_true hn];rfl
 ·rename_i hn
  rw [decide_eq_false hn,Bool.false_or]
  simp only [List.getD,List.getElem?_set]
  have:t.var.toNat < bs.length:=by omega
  simp [this]
theorem setTs_is:∀ {l:List Trm} {bs:List Bool},(∀ t∈l,okT bs.length t)→∀ t∈l,isT (l.foldl setT bs) t=true
 | [],_,_,t,ht=>by simp at ht
 | x::l,bs,h,t,ht=>by
  rw [List.foldl_cons]
  rcases List.mem_cons.1 ht with rfl|ht
  ·exact isT_mono (setTs_le l _) (setT_is (h t (List.mem_cons_self ..)))
  ·exact setTs_is (bs:=setT bs x) (fun y hy=>by rw [setT_len];exact h y (List.mem_cons_of_mem _ hy)) t ht
theorem bLit_same {bs:List Bool} {l:Ltl} (h:firesB bs l=true→∀ t∈litTs l,isT bs t=true):bLit bs l=bs:=by
 unfold bLit
 split
 ·rename_i hf;exact setTs_same (h hf)
 ·rfl
theorem bRound_same:∀ {body:List Ltl} {bs:List Bool},(∀ l∈body,firesB bs l=true→∀ t∈litTs l,isT bs t=true)→bRound body bs=bs
 | [],_,_=>rfl
 | l::body,bs,h=>by
  show bRound body (bLit bs l)=bs
  rw [bLit_same (h l (List.mem_cons_self ..))]
  exact bRound_same fun x hx=>h x (List.mem_cons_of_mem _ hx)
theorem bRound_done:∀ {body:List Ltl} {bs:List Bool},(∀ l∈body,∀ t∈litTs l,okT bs.length t)→∀ l∈body,firesB bs l=true→∀ t∈litTs l,isT (bRound body bs) t=true
 | [],_,_,l,hl,_,_,_=>by simp at hl
 | x::body,bs,hok,l,hl,hf,t,ht=>by
  show isT (bRound body (bLit bs x)) t=true
  rcases List.mem_cons.1 hl with rfl|hl
  ·refine isT_mono (bRound_le body _) ?_
   unfold bLit
   rw [if_pos hf]
   exact setTs_is (hok l (List.mem_cons_self ..)) t ht
  ·exact bRound_done (bs:=bLit bs x) (fun y hy z hz=>by rw [bLit_len];exact hok y (List.mem_cons_of_mem _ hy) z hz) l hl (fires_mono (bLit_le bs x) hf) t ht
def nFire (body:List Ltl) (bs:List Bool):Nat:=(body.filter (firesB bs)).length
theorem nFire_mono {a b:List Bool} (h:leB a b):∀ (body:List Ltl),nFire body a≤nFire body b
 | []=>Nat.le_refl _
 | l::body=>by
  have ih:=nFire_mono h body
  unfold nFire at ih ⊢
  rw [List.filter_cons,List.filter_cons]
  cases ha:firesB a l with
  | true=>rw [fires_mono h ha];simpa using ih
  | false =>
   cases hb:firesB b l with
   | true=>simp;omega
   | false=>simpa using ih
theorem nFire_same {a b:List Bool} (h:leB a b):∀ {body:List Ltl},nFire body b≤nFire body a→∀ l∈body,firesB b l=true→firesB a l=true
 | [],_,l,hl,_=>by simp at hl
 | x::body,hn,l,hl,hf=>by
  have ih:=nFire_mono h body
  have ihs:=@nFire_same a b h body
  unfold nFire at hn ih ihs
  rw [List.filter_cons,List.filter_cons] at hn
  rcases List.mem_cons.1 hl with rfl|hl
  ·cases ha:firesB a l with
   | true=>rfl
   | false=>rw [hf,ha] at hn;simp at hn;omega
  ·refine ihs ?_ l hl hf
   cases ha:firesB a x with
   | true=>rw [ha,fires_mono h ha] at hn;simpa using hn
   | false =>
    cases hb:firesB b x with
    | true=>rw [ha,hb] at hn;simp at hn;omega
    | false=>rw [ha,hb] at hn;simpa using hn
theorem bIter_succ (body:List Ltl):∀ (n:Nat) (bs:List Bool),bIter body (n + 1) bs=bRound body (bIter body n bs)
 | 0,_=>rfl
 | n + 1,bs=>by rw [bIter,bIter_succ body n];rfl
theorem bIter_rest {body:List Ltl} {bs:List Bool} (hok:∀ l∈body,∀ t∈litTs l,okT bs.length t):∀ n,bRound body (bIter body n bs)=bIter body n bs∨n + 1≤nFire body (bIter body n bs)
 | 0=>by
  by_cases h:nFire body bs=0
  ·left
   refine bRound_same fun l hl hf=>?_
   have:l∈body.filter (firesB bs):=List.mem_filter.2 ⟨hl,hf⟩
   unfold nFire at h
   rw [List.eq_nil_of_length_eq_zero h] at this
   simp at this
  ·right;show 1≤nFire body bs;omega
 | n + 1=>by
  rcases bIter_rest hok n with h|h
  ·left;rw [bIter_succ,h,h]
  ·have hle:=bRound_le body (bIter body n bs)
   have hm:=nFire_mono hle body
   by_cases hn:nFire body (bRound body (bIter body n bs))≤nFire body (bIter body n bs)
   ·left
    rw [bIter_succ]
    refine bRound_same fun l hl hf=>?_
    exact bRound_done (fun x hx t ht=>by rw [bIter_len];exact hok x hx t ht) l hl (nFire_same hle hn l hl hf)
   ·right;rw [bIter_succ];omega
theorem bRound_rest {body:List Ltl} {bs:List Bool} (hok:∀ l∈body,∀ t∈litTs l,okT bs.length t):bRound body (bIter body body.length bs)=bIter body body.length bs:=by
 rcases bIter_rest hok body.length with h|h
 ·exact h
 ·have:=List.length_filter_le (firesB (bIter body body.length bs)) body
  unfold nFire at h
  omega
theorem bIter_fix {body:List Ltl} {bs:List Bool} (h:bRound body bs=bs):∀ n,bIter body n bs=bs
 | 0=>rfl
 | n + 1=>by rw [bIter,h,bIter_fix h n]
theorem bIter_add (body:List Ltl):∀ (m n:Nat) (bs:List Bool),bIter body (m + n) bs=bIter body n (bIter body m bs)
 | 0,n,bs=>by rw [Nat.zero_add];rfl
 | m + 1,n,bs=>by rw [show m + 1 + n=(m + n) + 1 by omega,bIter,bIter,bIter_add body m n]
theorem rest_is {r:Rul} (hok:∀ l∈r.body,∀ t∈litTs l,okT r.vars.toNat t) {m:Nat} (h:bRound r.body (bIter r.body m (List.replicate r.vars.toNat false))=bIter r.body m (List.replicate r.vars.toNat false)):bIter r.body m (List.replicate r.vars.toNat false)=boundL r:=by
 have h2:=bRound_rest (body:=r.body) (bs:=List.replicate r.vars.toNat false) (by rw [List.length_replicate];exact hok)
 unfold boundL
 rw [bIter_succ,h2]
 rcases Nat.le_total m r.body.length with hm|hm
 ·obtain⟨d,hd⟩:=Nat.exists_eq_add_of_le hm
  rw [hd,bIter_add,bIter_fix h]
 ·obtain⟨d,hd⟩:=Nat.exists_eq_add_of_le hm
  rw [hd,bIter_add,bIter_fix h2]
def encBl (b:Bool):List D:=[.bool b]
def encT (s:ByteArray):List D:=[.str s]
def encTrm (t:Trm):List D:=[.int .i64 t.var,.int .i64 t.n]
def encLtl (l:Ltl):List D:=[.int .i64 l.kind,.int .i64 l.op,.int .i64 l.pred,.slice 2 (l.terms.map encTrm)]
def encRul (r:Rul):List D:=[.int .i64 r.pred,.slice 2 (r.terms.map encTrm),.int .i64 r.fold,.slice 4 (r.body.map encLtl),.int .i64 r.vars]
abbrev elTrm (t:Trm):SV:=.agg [.d (.int .i64 t.var),.d (.int .i64 t.n)]
abbrev elLtl (l:Ltl):SV:=.agg [.d (.int .i64 l.kind),.d (.int .i64 l.op),.d (.int .i64 l.pred),.d (.slice 2 (l.terms.map encTrm))]
abbrev elRul (r:Rul):SV:=.agg [.d (.int .i64 r.pred),.d (.slice 2 (r.terms.map encTrm)),.d (.int .i64 r.fold),.d (.slice 4 (r.body.map encLtl)),.d (.int .i64 r.vars)]
abbrev elPrg (p:Prg):SV:=.agg [.d (.slice 1 (p.arity.map encI)),.d (.slice 1 (p.names.map encT)),.d (.slice 5 (p.rules.map encRul))]
set_option maxHeartbeats 8000000 in
theorem swithin_fn (n a b:Int):Fn 125 [.d (.int .i64 n),.d (.int .i64 a),.d (.int .i64 b)] (fun r=>r = .d (.bool (inR n a b))):=by
 refine fnp_enter' _ Tryz.func125 rfl rfl (by kernel_rfl) ?_
 intro O w0 E0 β0
 unfold inR
 repeat' (first|refine z0 ?_|refine z12 ?_|apply ds_nil|apply dw_seq2|refine z16 ?_|apply dw_ret|apply thenD_n|((fail_if_success (apply ds_known;exact rfl));apply ds_guardP;exact rfl;exact rfl;exact rfl;all_goals intro hg))
 all_goals exact ret_b rfl (by simp_all <;> omega)
set_option maxHeartbeats 8000000 in
theorem snumber_fn (n:Int):Fn 128 [.d (.int .i64 n)] (fun r=>r = .d (.bool (numB n))):=by
 refine fnp_enter' _ Tryz.func128 rfl rfl (by kernel_rfl) ?_
 intro O w0 E0 β0
 unfold numB
 repeat' (first|refine z0 ?_|apply ds_nil|apply dw_seq2|refine z16 ?_|apply dw_ret|apply thenD_n|refine z21 ?_ (hc:=by apply swithin_fn)|fail)
 exact ret_b rfl rfl
set_option maxHeartbeats 8000000 in
theorem op_fn (kind n:Int):Fn 259 [.d (.int .i64 kind),.d (.int .i64 n)] (fun r=>r = .d (.bool (opB kind n))):=by
 refine fnp_enter' _ Tryz.func259 rfl rfl (by kernel_rfl) ?_
 intro O w0 E0 β0
 unfold opB
 repeat' (first|refine z0 ?_|apply ds_nil|apply dw_seq2|refine z16 ?_|apply dw_block|apply dw_skip|apply dw_ret|apply thenD_n|apply thenD_r|apply inB_n|apply inB_r|refine z21 ?_ (hc:=by apply swithin_fn)|(refine z23 ?_ ?_ <;> intro hg)|fail)
 all_goals exact ret_b rfl (by simp_all <;> omega)
set_option maxHeartbeats 8000000 in
theorem terms_fn (l:List Trm) (vars:Int) (h0:0≤vars) (h8:vars≤8):Fn 213 [.d (.slice 2 (l.map encTrm)),.d (.int .i64 vars)] (fun r=>r = .d (.int .i64 (termsE vars l))):=by
 refine fnp_enter' _ Tryz.func213 rfl rfl (by kernel_rfl) ?_
 intro O w0 E0 β0
 have la:(l.map encTrm).length=l.length:=List.length_map _
 unfold termsE
 repeat' (first|refine z0 ?_|apply ds_nil|apply dw_seq2|refine z16 ?_|apply dw_block|apply thenD_n)
 refine dw_len (t:=7) rfl (fun hk=>?_)
 refine ds_loop (ι:=Nat) (fun i=>⟨0,[(1,.d (.int .i64 vars)),(4,.d (.int .i64 0)),(7,.d (.slice 2 (l.map encTrm))),(8,.d (.int .i64 (l.map encTrm).length)),(9,.d (.int .i64 i))],[]⟩)
  (fun i=>i≤l.length∧firstL (termE vars) l=firstL (termE vars) (l.drop i)) (fun i=>l.length - i) 0 ⟨Nat.zero_le _,rfl⟩ (ent_ren id ⟨rfl,rfl,rfl,rfl,rfl,trivial⟩ trivial rfl rfl rfl rfl rfl rfl) ?_
 rintro i ⟨g1,g2⟩
 by_cases hi:i < l.length
 ·rw [firstL_step hi,show termE vars l[i]=if inR l[i].var (-1) (vars - 1)=false then 5 else if numB l[i].n=false∨(0≤l[i].var∧l[i].n≠0) then 3 else 0 from rfl] at g2
  repeat' (first|refine z0 ?_|refine z12 ?_|apply ds_nil|apply dw_seq2|refine z16 ?_|apply dw_block|apply dw_skip|apply dw_exit|apply dw_ret|refine z18 ?_|refine z19 ?_|apply thenD_n|apply thenD_e|apply thenD_r|apply inB_n|apply inB_r|refine z17 ?_|refine z21 ?_ (hc:=by apply swithin_fn)|refine z21 ?_ (hc:=by apply snumber_fn)|refine z1 ?_|refine z3 ?_|(refine z23 ?_ ?_ <;> intro hg)|(apply dw_cond;exact rfl;all_goals intro hg)|((fail_if_success (apply ds_known;exact rfl));apply ds_guardP;exact rfl;exact rfl;exact rfl;all_goals intro hg)|((fail_if_success (apply ds_known;exact rfl));apply ds_guardB;exact rfl;exact rfl;exact rfl;all_goals intro hg))
  all_goals first
   | exact absurd hg (by omega)
   | exact ret_i rfl (by rw [g2];simp_all <;> omega)
   | exact⟨i + 1,⟨by omega,by rw [g2];simp_all <;> omega⟩,ent_ren id ⟨rfl,rfl,rfl,rfl,rfl,trivial⟩ trivial rfl rfl rfl rfl rfl rfl,by show l.length - (i + 1) < l.length - i;omega⟩
 ·rw [firstL_end (by omega)] at g2
  repeat' (first|refine z0 ?_|refine z12 ?_|apply ds_nil|apply dw_seq2|refine z16 ?_|apply dw_block|apply dw_skip|apply dw_exit|apply dw_ret|refine z18 ?_|refine z19 ?_|apply thenD_n|apply thenD_e|apply thenD_r|apply inB_n|apply inB_r|refine z17 ?_|refine z21 ?_ (hc:=by apply swithin_fn)|refine z21 ?_ (hc:=by apply snumber_fn)|refine z1 ?_|refine z3 ?_|(refine z23 ?_ ?_ <;> intro hg)|(apply dw_cond;exact rfl;all_goals intro hg)|((fail_if_success (apply ds_known;exact rfl));apply ds_guardP;exact rfl;exact rfl;exact rfl;all_goals intro hg)|((fail_if_success (apply ds_known;exact rfl));apply ds_guardB;exact rfl;exact rfl;exact rfl;all_goals intro hg))
  all_goals first
   | exact absurd hg (by omega)
   | exact ret_i rfl g2.symm
end Go.Proofs.YtapciiffpnociadGreat
namespace Go.Proofs.YtapciiffpnociadGreat
open Go Go.RowKit
section
variable {Γ : Ctx} {k : Nat} {L : Sl} {H : Hp} {K : Next'} {ops : List Oper} {rest : List Oper} {t t' ty : TypeId} {x y : Operand}
theorem ds_bs0 {d te:TypeId} {pos:String} {af:Array Edge} {g:Option (Nat × Bool)} {es:Nat} (ht:(tiGet Γ.τ t).sh = .slice te) (hkn:(tiGet Γ.τ te).sh.known=true) (hes:(tiGet Γ.τ te).cells=es) (hpos:Nat.blt 0 es=true) (hz:zeroOk (tiGet Γ.τ te).zero=true) (hzl:Nat.beq (tiGet Γ.τ te).zero.length (tiGet Γ.τ te).cells=true) (hd:Nat.blt d Γ.n=true) (hw:wantedSV ops L g=some true)
  (hk:DS false Γ ops rest K (k + 1) ((d,.row k)::L) ((k,.row te es [])::H)):DS false Γ ops (⟨some d,.buildSlice t 0 #[],ty,pos,af,g⟩::rest) K k L H :=
 dl_op hw ((op_bs0 (lo_not k) ht hkn hes hpos hz hzl hd).cast (with1_lo k)) hk
theorem ds_eqnil {d te:TypeId} {pos:String} {af:Array Edge} {g:Option (Nat × Bool)} {es:Nat} {xs:List (List D)} (hx:opSV L x = .d (.slice es xs)) (hy:opSV L y = .nils) (ht:(tiGet Γ.τ t).sh = .slice te) (hd:Nat.blt d Γ.n=true) (hw:wantedSV ops L g=some true)
  (h1:xs=[]→DS false Γ ops rest K k ((d,.d (.bool true))::L) H) (h2:DS false Γ ops rest K k ((d,.d (.bool false))::L) H):DS false Γ ops (⟨some d,.binOp .eql t x y t',ty,pos,af,g⟩::rest) K k L H:=by
 refine dl_run hw fun e a w m=>?_
 obtain⟨ao,cap,hv,_,_,hnone⟩:=(evT m hx (cSV_slice · _ _)).slice_inv
 have hvy:a.eval y = .slice none 0 0:=by
  have hok:opOk y:=by
   cases y with
   | const v=>simp only [opSV] at hy;unfold cSV at hy;split at hy <;> simp_all [opOk,cOk]
   | _=>trivial
  have:=m.op y hok
  rw [hy] at this;exact this
 have hrun:(execOp a.eval ⟨some d,.binOp .eql t x y t',ty,pos,af,g⟩).run Γ.P w = .ok (.value (.bool ao.isNone)) w:=by
  simp [execOp,hv,hvy,eqGuard,Lib.run_eql_slice_nil w t te ao xs.length cap 0 0 (Ctx.slice ht)]
 unfold Oper.wp
 rw [hrun]
 cases ao with
 | none=>exact⟨k,_,H,e,m.put (s:=.d (.bool true)) (v:=.bool true) (Nat.le_of_ble_eq_true hd) .bool,h1 (hnone rfl)⟩
 | some ad=>exact⟨k,_,H,e,m.put (s:=.d (.bool false)) (v:=.bool false) (Nat.le_of_ble_eq_true hd) .bool,h2⟩
end
attribute [local irreducible] DW DS DL DQ Ev FnOk FnP thenD inBlockD DT
set_option maxHeartbeats 8000000 in
theorem cloneI_fn (l:List (Int)) (hl:l.length≤17592186044416):Fn 67 [.d (.slice 1 (l.map encI))] (fun r=>r = .d (.slice 1 (l.map encI))):=by
 refine fnp_enter' _ Tryz.func67 rfl rfl (by kernel_rfl) ?_
 intro O w0 E0 β0
 have la:(l.map encI).length=l.length:=List.length_map _
 repeat' (first|refine z0 ?_|apply ds_nil|apply dw_seq2|refine z16 ?_|apply thenD_n)
 refine ds_eqnil rfl rfl rfl rfl rfl (fun h=>?_) ?_
 ·have h0:l=[]:=List.map_eq_nil_iff.1 h
  subst h0
  repeat' (first|refine z0 ?_|apply ds_nil|apply dw_seq2|refine z16 ?_|refine z18 ?_|apply thenD_n)
  refine dw_ent (ent_nild 2 1 rfl) ?_
  repeat' (first|apply dw_ret|apply thenD_r)
  exact⟨.inl rfl,_,rfl,rfl,rfl⟩
 ·repeat' (first|(apply ds_bs0;exact rfl;exact rfl;exact rfl;exact rfl;exact rfl;exact rfl;exact rfl;exact rfl)|(first|refine z0 ?_|apply ds_nil|apply dw_seq2|refine z16 ?_|apply dw_skip|refine z19 ?_|apply thenD_n|refine z2 ?_|fail))
  refine dw_ent (ent_seal 2 rfl rfl rfl) ?_
  repeat' (apply dw_ret)
  exact⟨.inl rfl,_,rfl,rfl,rfl⟩
set_option maxHeartbeats 8000000 in
theorem rsame_fn (a b:Fct):Fn 108 [elFct a,elFct b] (fun r=>r = .d (.bool (decide (ordF a b=0)))):=by
 refine fnp_enter' _ Tryz.func108 rfl rfl (by kernel_rfl) ?_
 intro O w0 E0 β0
 have w:=orderF_fn a b
 repeat' (first|refine z0 ?_|apply ds_nil|apply dw_seq2|refine z16 ?_|apply dw_ret|apply thenD_n|refine z21 ?_ (hc:=by apply w)|refine z1 ?_|fail)
 exact ret_b rfl rfl
set_option maxHeartbeats 8000000 in
theorem setAny_fn (a:Fct):Fn 74 [elFct a] (fun r=>r = .d (.bool true)):=by
 refine fnp_enter' _ Tryz.func74 rfl rfl (by kernel_rfl) ?_
 intro O w0 E0 β0
 repeat' (first|refine z0 ?_|apply ds_nil|apply dw_seq2|refine z16 ?_|apply dw_ret|apply thenD_n|refine z1 ?_|fail)
 exact ret_b rfl rfl
set_option maxHeartbeats 8000000 in
theorem own_fn (a:Fct) (h:a.args.length≤17592186044416):Fn 130 [elFct a] (fun r=>r=elFct a):=by
 refine fnp_enter' _ Tryz.func130 rfl rfl (by kernel_rfl) ?_
 intro O w0 E0 β0
 have w:=cloneI_fn a.args h
 repeat' (first|apply ds_nil|refine z5 ?_|refine z6 ?_|refine z10 ?_|apply dw_seq2|refine z16 ?_|refine z20 ?_|apply dw_ret|apply thenD_n|refine z22 ?_ (hc:=by apply w)|refine z1 ?_|fail)
 exact⟨.inl rfl,_,rfl,rfl,rfl⟩
end Go.Proofs.YtapciiffpnociadGreat
