/- Several texts in one: RelO Tab TokP TokE LstP WirE WirA WirB TokR WirC RelA. Condition: none. -/
import Derived.Test.YtapciiffpnociacGreatW08
import Derived.Sort.Statements
import Derived.Shelf.SlSortCmp.Insertion
import Derived.Test.YtapciiffpnociacGreatProg
import Derived.Test.YtapciiffpnociacGreatW01
import Derived.KernelRfl
import Derived.Test.YtapciiffpnociacGreatW07
namespace Go.Proofs.YtapciiffpnociacGreat
theorem cmpI_anti (a b:Int):cmpI a b = - cmpI b a:=by unfold cmpI;split <;> split <;> (try split) <;> omega
theorem cmpI_lt {a b:Int}:cmpI a b < 0↔a < b:=by
 unfold cmpI
 split
 ·rename_i h;simp [h]
 ·rename_i h
  split <;> simp [h]
theorem ordL_anti:∀ (l m:List Int),ordL l m = - ordL m l
 | [],[]=>rfl
 | [],_::_=>rfl
 | _::_,[]=>rfl
 | a::l,b::m=>by
  unfold ordL
  rw [cmpI_anti a b]
  by_cases h:cmpI b a=0
  ·rw [h,if_pos (by omega),if_pos rfl];exact ordL_anti l m
  ·rw [if_neg (by omega),if_neg h]
theorem ordL_eq0:∀ {l m:List Int},ordL l m=0→l=m
 | [],[],_=>rfl
 | [],_::_,h=>by unfold ordL at h;omega
 | _::_,[],h=>by unfold ordL at h;omega
 | a::l,b::m,h=>by
  unfold ordL at h
  split at h
  ·rename_i h1;rw [cmpI_zero h1,ordL_eq0 h]
  ·rename_i h1;exact absurd h h1
theorem ordL_trans:∀ {l m n:List Int},ordL l m < 0→ordL m n < 0→ordL l n < 0
 | [],[],_,h,_=>by unfold ordL at h;omega
 | _::_,[],_,h,_=>by unfold ordL at h;omega
 | [],_::_,[],_,h=>by unfold ordL at h;omega
 | [],_::_,_::_,_,_=>by unfold ordL;omega
 | _::_,_::_,[],_,h=>by unfold ordL at h;omega
 | a::l,b::m,c::n,h,g=>by
  unfold ordL at h g ⊢
  by_cases h1:cmpI a b=0
  ·have:=cmpI_zero h1;subst this
   rw [if_pos h1] at h
   by_cases g1:cmpI a c=0
   ·rw [if_pos g1] at g ⊢;exact ordL_trans h g
   ·rw [if_neg g1] at g ⊢;exact g
  ·rw [if_neg h1] at h
   by_cases g1:cmpI b c=0
   ·have:=cmpI_zero g1;subst this
    rw [if_neg h1];exact h
   ·rw [if_neg g1] at g
    have h2:=cmpI_lt.1 h
    have g2:=cmpI_lt.1 g
    have h3:cmpI a c < 0:=cmpI_lt.2 (by omega)
    rw [if_neg (by omega)];exact h3
theorem ordF_anti (a b:Fct):c9 a b = - c9 b a:=by
 unfold c9
 rw [cmpI_anti a.pred b.pred]
 by_cases h:cmpI b.pred a.pred=0
 ·rw [h,if_pos (by omega),if_pos rfl];exact ordL_anti _ _
 ·rw [if_neg (by omega),if_neg h]
theorem ordF_eq0 {a b:Fct} (h:c9 a b=0):a=b:=by
 unfold c9 at h
 split at h
 ·rename_i h1
  cases a;cases b
  simp only at h h1 ⊢
  rw [cmpI_zero h1,ordL_eq0 h]
 ·rename_i h1;exact absurd h h1
theorem ordF_trans {a b c:Fct} (h:c9 a b < 0) (g:c9 b c < 0):c9 a c < 0:=by
 unfold c9 at h g ⊢
 by_cases h1:cmpI a.pred b.pred=0
 ·rw [if_pos h1] at h
  rw [cmpI_zero h1]
  by_cases g1:cmpI b.pred c.pred=0
  ·rw [if_pos g1] at g ⊢;exact ordL_trans h g
  ·rw [if_neg g1] at g ⊢;exact g
 ·rw [if_neg h1] at h
  by_cases g1:cmpI b.pred c.pred=0
  ·rw [← cmpI_zero g1,if_neg h1];exact h
  ·rw [if_neg g1] at g
   have h2:=cmpI_lt.1 h
   have g2:=cmpI_lt.1 g
   have h3:cmpI a.pred c.pred < 0:=cmpI_lt.2 (by omega)
   rw [if_neg (by omega)];exact h3
theorem ordF_le {a b c:Fct} (h:0≤c9 a b) (g:0≤c9 b c):0≤c9 a c:=by
 by_cases h1:c9 a b=0
 ·rw [ordF_eq0 h1];exact g
 ·by_cases g1:c9 b c=0
  ·rw [← ordF_eq0 g1];exact h
  ·have h2:c9 b a < 0:=by rw [ordF_anti];omega
   have g2:c9 c b < 0:=by rw [ordF_anti];omega
   have:=ordF_trans g2 h2
   rw [ordF_anti] at this
   omega
theorem swoF:Go.Sort.SWO (ltOf c9) where
 irrefl x:=by unfold ltOf;rw [ordF_self];rfl
 trans x y z h g:=decide_eq_true (ordF_trans (of_decide_eq_true h) (of_decide_eq_true g))
 ntrans x y z h g:=by
  have h:=of_decide_eq_false h
  have g:=of_decide_eq_false g
  exact decide_eq_false (by have:=ordF_le (a:=x) (b:=y) (c:=z) (by omega) (by omega);omega)
open Go
def tab:List (Nat × TI):=[
 (2,⟨.int .i64,1,8,[.int .i64 0],false⟩),
 (3,⟨.int .i64,1,8,[.int .i64 0],false⟩),
 (4,⟨.bool,1,1,[.bool false],false⟩),
 (5,⟨.int .u8,1,1,[.int .u8 0],false⟩),
 (6,⟨.int .u8,1,1,[.int .u8 0],false⟩),
 (7,⟨.struct [(0,2,1),(1,3,1),(2,4,1),(3,6,1)],4,24,[.int .i64 0,.int .i64 0,.bool false,.int .u8 0],true⟩),
 (8,⟨.struct [(0,2,1),(1,3,1),(2,4,1),(3,6,1)],4,24,[.int .i64 0,.int .i64 0,.bool false,.int .u8 0],true⟩),
 (9,⟨.str,1,16,[.string ⟨#[]⟩],false⟩),
 (10,⟨.str,1,16,[.string ⟨#[]⟩],false⟩),
 (11,⟨.str,1,16,[.string ⟨#[]⟩],false⟩),
 (12,⟨.int .u64,1,8,[.int .u64 0],false⟩),
 (13,⟨.struct [(0,9,1),(1,12,1)],2,24,[.string ⟨#[]⟩,.int .u64 0],false⟩),
 (14,⟨.struct [(0,9,1),(1,12,1)],2,24,[.string ⟨#[]⟩,.int .u64 0],false⟩),
 (15,⟨.ptr 263,1,8,[.pointer none],false⟩),
 (16,⟨.ptr 266,1,8,[.pointer none],false⟩),
 (17,⟨.ptr 275,1,8,[.pointer none],false⟩),
 (18,⟨.struct [(0,17,1)],1,8,[.pointer none],false⟩),
 (19,⟨.struct [(0,17,1)],1,8,[.pointer none],false⟩),
 (21,⟨.int .i32,1,4,[.int .i32 0],false⟩),
 (22,⟨.slice 3,1,24,[.slice none 0 0],false⟩),
 (23,⟨.slice 9,1,24,[.slice none 0 0],false⟩),
 (24,⟨.slice 36,1,24,[.slice none 0 0],false⟩),
 (25,⟨.struct [(0,22,1),(1,23,1),(2,24,1)],3,72,[.slice none 0 0,.slice none 0 0,.slice none 0 0],true⟩),
 (26,⟨.struct [(0,22,1),(1,23,1),(2,24,1)],3,72,[.slice none 0 0,.slice none 0 0,.slice none 0 0],true⟩),
 (27,⟨.slice 48,1,24,[.slice none 0 0],false⟩),
 (28,⟨.slice 22,1,24,[.slice none 0 0],false⟩),
 (29,⟨.int .i64,1,8,[.int .i64 0],false⟩),
 (33,⟨.slice 141,1,24,[.slice none 0 0],false⟩),
 (34,⟨.slice 40,1,24,[.slice none 0 0],false⟩),
 (35,⟨.struct [(0,3,1),(1,33,1),(2,3,1),(3,34,1),(4,3,1)],5,72,[.int .i64 0,.slice none 0 0,.int .i64 0,.slice none 0 0,.int .i64 0],true⟩),
 (36,⟨.struct [(0,3,1),(1,33,1),(2,3,1),(3,34,1),(4,3,1)],5,72,[.int .i64 0,.slice none 0 0,.int .i64 0,.slice none 0 0,.int .i64 0],true⟩),
 (39,⟨.struct [(0,3,1),(1,3,1),(2,3,1),(3,33,1)],4,48,[.int .i64 0,.int .i64 0,.int .i64 0,.slice none 0 0],true⟩),
 (40,⟨.struct [(0,3,1),(1,3,1),(2,3,1),(3,33,1)],4,48,[.int .i64 0,.int .i64 0,.int .i64 0,.slice none 0 0],true⟩),
 (47,⟨.struct [(0,3,1),(1,22,1)],2,32,[.int .i64 0,.slice none 0 0],true⟩),
 (48,⟨.struct [(0,3,1),(1,22,1)],2,32,[.int .i64 0,.slice none 0 0],true⟩),
 (50,⟨.slice 4,1,24,[.slice none 0 0],false⟩),
 (61,⟨.struct [(0,27,1),(1,27,1)],2,48,[.slice none 0 0,.slice none 0 0],true⟩),
 (62,⟨.struct [(0,27,1),(1,27,1)],2,48,[.slice none 0 0,.slice none 0 0],true⟩),
 (72,⟨.slice 81,1,24,[.slice none 0 0],false⟩),
 (80,⟨.struct [(0,48,2),(2,3,1),(3,22,1)],4,64,[.int .i64 0,.slice none 0 0,.int .i64 0,.slice none 0 0],true⟩),
 (81,⟨.struct [(0,48,2),(2,3,1),(3,22,1)],4,64,[.int .i64 0,.slice none 0 0,.int .i64 0,.slice none 0 0],true⟩),
 (98,⟨.slice 166,1,24,[.slice none 0 0],false⟩),
 (112,⟨.slice 27,1,24,[.slice none 0 0],false⟩),
 (114,⟨.ptr 116,1,8,[.pointer none],false⟩),
 (115,⟨.struct [(0,26,3),(3,27,1),(4,27,1)],5,120,[.slice none 0 0,.slice none 0 0,.slice none 0 0,.slice none 0 0,.slice none 0 0],true⟩),
 (116,⟨.struct [(0,26,3),(3,27,1),(4,27,1)],5,120,[.slice none 0 0,.slice none 0 0,.slice none 0 0,.slice none 0 0,.slice none 0 0],true⟩),
 (119,⟨.ptr 121,1,8,[.pointer none],false⟩),
 (120,⟨.struct [(0,26,3),(3,98,1),(4,72,1)],5,120,[.slice none 0 0,.slice none 0 0,.slice none 0 0,.slice none 0 0,.slice none 0 0],true⟩),
 (121,⟨.struct [(0,26,3),(3,98,1),(4,72,1)],5,120,[.slice none 0 0,.slice none 0 0,.slice none 0 0,.slice none 0 0,.slice none 0 0],true⟩),
 (131,⟨.ptr 133,1,8,[.pointer none],false⟩),
 (132,⟨.struct [(0,36,5),(5,27,1),(6,22,1),(7,50,1),(8,3,1),(9,28,1)],10,176,[.int .i64 0,.slice none 0 0,.int .i64 0,.slice none 0 0,.int .i64 0,.slice none 0 0,.slice none 0 0,.slice none 0 0,.int .i64 0,.slice none 0 0],true⟩),
 (133,⟨.struct [(0,36,5),(5,27,1),(6,22,1),(7,50,1),(8,3,1),(9,28,1)],10,176,[.int .i64 0,.slice none 0 0,.int .i64 0,.slice none 0 0,.int .i64 0,.slice none 0 0,.slice none 0 0,.slice none 0 0,.int .i64 0,.slice none 0 0],true⟩),
 (140,⟨.struct [(0,3,1),(1,3,1)],2,16,[.int .i64 0,.int .i64 0],true⟩),
 (141,⟨.struct [(0,3,1),(1,3,1)],2,16,[.int .i64 0,.int .i64 0],true⟩),
 (142,⟨.slice 144,1,24,[.slice none 0 0],false⟩),
 (144,⟨.ptr 146,1,8,[.pointer none],false⟩),
 (145,⟨.struct [(0,22,1),(1,22,1)],2,48,[.slice none 0 0,.slice none 0 0],true⟩),
 (146,⟨.struct [(0,22,1),(1,22,1)],2,48,[.slice none 0 0,.slice none 0 0],true⟩),
 (150,⟨.ptr 152,1,8,[.pointer none],false⟩),
 (151,⟨.struct [(0,26,3),(3,27,1),(4,98,1)],5,120,[.slice none 0 0,.slice none 0 0,.slice none 0 0,.slice none 0 0,.slice none 0 0],true⟩),
 (152,⟨.struct [(0,26,3),(3,27,1),(4,98,1)],5,120,[.slice none 0 0,.slice none 0 0,.slice none 0 0,.slice none 0 0,.slice none 0 0],true⟩),
 (166,⟨.struct [(0,48,2),(2,3,1),(3,22,1)],4,64,[.int .i64 0,.slice none 0 0,.int .i64 0,.slice none 0 0],true⟩),
 (177,⟨.int .u64,1,8,[.int .u64 0],false⟩),
 (182,⟨.struct [(0,36,5),(5,27,1),(6,28,1),(7,4,1)],8,128,[.int .i64 0,.slice none 0 0,.int .i64 0,.slice none 0 0,.int .i64 0,.slice none 0 0,.slice none 0 0,.bool false],true⟩),
 (183,⟨.struct [(0,36,5),(5,27,1),(6,28,1),(7,4,1)],8,128,[.int .i64 0,.slice none 0 0,.int .i64 0,.slice none 0 0,.int .i64 0,.slice none 0 0,.slice none 0 0,.bool false],true⟩),
 (200,⟨.slice 34,1,24,[.slice none 0 0],false⟩),
 (204,⟨.int .i64,1,8,[.int .i64 0],false⟩),
 (211,⟨.int .u32,1,4,[.int .u32 0],false⟩),
 (213,⟨.int .u64,1,8,[.int .u64 0],false⟩),
 (216,⟨.ptr 183,1,8,[.pointer none],false⟩),
 (227,⟨.int .u64,1,8,[.int .u64 0],false⟩),
 (231,⟨.ptr 3,1,8,[.pointer none],false⟩),
 (240,⟨.ptr 227,1,8,[.pointer none],false⟩),
 (244,⟨.slice 248,1,24,[.slice none 0 0],false⟩),
 (247,⟨.struct [(0,3,1),(1,3,1),(2,9,1)],3,32,[.int .i64 0,.int .i64 0,.string ⟨#[]⟩],true⟩),
 (248,⟨.struct [(0,3,1),(1,3,1),(2,9,1)],3,32,[.int .i64 0,.int .i64 0,.string ⟨#[]⟩],true⟩),
 (250,⟨.ptr 252,1,8,[.pointer none],false⟩),
 (251,⟨.struct [(0,9,1),(1,3,1)],2,24,[.string ⟨#[]⟩,.int .i64 0],true⟩),
 (252,⟨.struct [(0,9,1),(1,3,1)],2,24,[.string ⟨#[]⟩,.int .i64 0],true⟩),
 (262,⟨.struct [(0,17,1),(1,17,1),(2,17,1),(3,9,1)],4,40,[.pointer none,.pointer none,.pointer none,.string ⟨#[]⟩],false⟩),
 (263,⟨.struct [(0,17,1),(1,17,1),(2,17,1),(3,9,1)],4,40,[.pointer none,.pointer none,.pointer none,.string ⟨#[]⟩],false⟩),
 (265,⟨.struct [(0,264,0)],0,0,[],false⟩),
 (266,⟨.struct [(0,264,0)],0,0,[],false⟩),
 (268,⟨.int .u8,1,1,[.int .u8 0],false⟩),
 (269,⟨.int .u8,1,1,[.int .u8 0],false⟩),
 (271,⟨.ptr 5,1,8,[.pointer none],false⟩),
 (272,⟨.int .i32,1,4,[.int .i32 0],false⟩),
 (273,⟨.int .i32,1,4,[.int .i32 0],false⟩),
 (274,⟨.struct [(0,12,1),(1,12,1),(2,211,1),(3,268,1),(4,5,1),(5,5,1),(6,269,1),(7,270,1),(8,271,1),(9,272,1),(10,273,1)],11,48,[.int .u64 0,.int .u64 0,.int .u32 0,.int .u8 0,.int .u8 0,.int .u8 0,.int .u8 0,.nilFunc,.pointer none,.int .i32 0,.int .i32 0],false⟩),
 (275,⟨.struct [(0,12,1),(1,12,1),(2,211,1),(3,268,1),(4,5,1),(5,5,1),(6,269,1),(7,270,1),(8,271,1),(9,272,1),(10,273,1)],11,48,[.int .u64 0,.int .u64 0,.int .u32 0,.int .u8 0,.int .u8 0,.int .u8 0,.int .u8 0,.nilFunc,.pointer none,.int .i32 0,.int .i32 0],false⟩)]
theorem b8:TabOk Tryz.prog tab:=by
 unfold TabOk
 kernel_rfl
def smallB (c:UInt8):Bool:=decide ((97:Int)≤c.toNat) && decide ((c.toNat:Int)≤122)
def greatB (c:UInt8):Bool:=decide ((65:Int)≤c.toNat) && decide ((c.toNat:Int)≤90)
def cz (c:UInt8):Bool:=decide ((48:Int)≤c.toNat) && decide ((c.toNat:Int)≤57)
def letterB (c:UInt8):Bool:=smallB c || greatB c
def alnumB (c:UInt8):Bool:=letterB c || cz c
def takeW (p:UInt8→Bool):List UInt8→Nat
 | []=>0
 | c::l=>if p c then takeW p l + 1 else 0
theorem takeW_le (p:UInt8→Bool):∀ l,takeW p l≤l.length
 | []=>Nat.le_refl _
 | c::l=>by
  unfold takeW
  have:=takeW_le p l
  split <;> simp <;> omega
theorem takeW_step (p:UInt8→Bool) (l:List UInt8) (i:Nat) (h:i < l.length) (hp:p l[i]=true):takeW p (l.drop i)=takeW p (l.drop (i + 1)) + 1:=by
 rw [List.drop_eq_getElem_cons h,takeW,if_pos hp]
theorem takeW_stop (p:UInt8→Bool) (l:List UInt8) (i:Nat) (h:i < l.length) (hp:p l[i]=false):takeW p (l.drop i)=0:=by
 rw [List.drop_eq_getElem_cons h,takeW,if_neg (by rw [hp];exact Bool.false_ne_true)]
theorem takeW_end (p:UInt8→Bool) (l:List UInt8) (i:Nat) (h:l.length≤i):takeW p (l.drop i)=0:=by
 rw [List.drop_of_length_le h];rfl
def signs:List UInt8:=[40,41,44,46,60,61,43,45,42]
def pairB:List UInt8→Bool
 | a::b::_=>(a == 58 && b == 45) || (a == 60 && b == 61) || (a == 33 && b == 61)
 | _=>false
def ck:List UInt8→Int × Nat
 | []=>(0,0)
 | c::l=>if letterB c then (if smallB c then 1 else 2,1 + takeW alnumB l)
  else if cz c then (3,1 + takeW cz l)
  else if pairB (c::l) then (4,2)
  else if signs.contains c then (4,1)
  else (0,0)
structure Tok where
 kind:Int
 at_:Int
 text:ByteArray
def sameAll {α:Type} (p:α→α→Bool):List α→List α→Bool
 | [],[]=>true
 | x::xs,y::ys=>p x y && sameAll p xs ys
 | _,_=>false
def Tok.same (at_:Bool) (x y:Tok):Bool:=decide (x.kind=y.kind) && decide (x.text=y.text) && (!at_ || decide (x.at_=y.at_))
theorem tokAt_cons (c:UInt8) (l:List UInt8):ck (c::l)=(if letterB c then (if smallB c then 1 else 2,1 + takeW alnumB l)
  else if cz c then (3,1 + takeW cz l)
  else if pairB (c::l) then (4,2)
  else if signs.contains c then (4,1)
  else (0,0)):=rfl
theorem tokAt_le (l:List UInt8):(ck l).2≤l.length:=by
 cases l with
 | nil=>simp [ck]
 | cons c l =>
  have h1:=takeW_le alnumB l
  have h2:=takeW_le cz l
  rw [tokAt_cons]
  by_cases a:letterB c=true
  ·rw [if_pos a];simp only [List.length_cons];omega
  ·rw [if_neg a]
   by_cases b:cz c=true
   ·rw [if_pos b];simp only [List.length_cons];omega
   ·rw [if_neg b]
    by_cases d:pairB (c::l)=true
    ·rw [if_pos d]
     cases l with
     | nil=>simp [pairB] at d
     | cons b l=>simp
    ·rw [if_neg d]
     by_cases e:signs.contains c=true
     ·rw [if_pos e];simp
     ·rw [if_neg e];simp
theorem tokAt_pos (l:List UInt8) (h:(ck l).1≠0):1≤(ck l).2:=by
 cases l with
 | nil=>simp [ck] at h
 | cons c l =>
  rw [tokAt_cons] at h ⊢
  by_cases a:letterB c=true
  ·rw [if_pos a];simp
  ·rw [if_neg a] at h ⊢
   by_cases b:cz c=true
   ·rw [if_pos b];simp
   ·rw [if_neg b] at h ⊢
    by_cases d:pairB (c::l)=true
    ·rw [if_pos d];simp
    ·rw [if_neg d] at h ⊢
     by_cases e:signs.contains c=true
     ·rw [if_pos e];simp
     ·rw [if_neg e] at h;simp at h
def tokErr (kind:Int) (n:Nat) (c:UInt8):Int :=
 if kind=0 then 1
 else if ((kind=1∨kind=2)∧12 < n)∨(kind=3∧7 < n) then 2
 else if kind=3∧1 < n∧c=48 then 1
 else 0
def scanGo (s:ByteArray):Nat→Bool→Nat→Except (Int × Int) (List Tok)
 | 0,_,_=>.ok []
 | f + 1,note,i =>
  if h:i < s.size then
   if note || s[i] == 37 then scanGo s f (s[i] != 10) (i + 1)
   else if s[i] == 32 || s[i] == 9 || s[i] == 10 then scanGo s f false (i + 1)
   else
    let q:=ck (s.data.toList.drop i)
    if tokErr q.1 q.2 s[i]=0 then (scanGo s f false (i + q.2)).map (Tok.mk q.1 i (s.extract i (i + q.2))::·)
    else .error (i,tokErr q.1 q.2 s[i])
  else .ok []
theorem scanGo_fuel (s:ByteArray):∀ (f g:Nat) (note:Bool) (i:Nat),s.size - i≤f→s.size - i≤g→scanGo s f note i=scanGo s g note i:=by
 intro f
 induction f with
 | zero =>
  intro g note i h1 h2
  cases g with
  | zero=>rfl
  | succ g=>simp only [scanGo];rw [dif_neg (by omega)]
 | succ f ih =>
  intro g note i h1 h2
  cases g with
  | zero=>simp only [scanGo];rw [dif_neg (by omega)]
  | succ g =>
   simp only [scanGo]
   by_cases h:i < s.size
   ·rw [dif_pos h,dif_pos h]
    split
    ·exact ih g _ _ (by omega) (by omega)
    ·split
     ·exact ih g _ _ (by omega) (by omega)
     ·split
      ·rename_i he
       have hk:(ck (s.data.toList.drop i)).1≠0:=fun h0=>by simp [tokErr,h0] at he
       have:=tokAt_pos _ hk
       rw [ih g _ _ (by omega) (by omega)]
      ·rfl
   ·rw [dif_neg h,dif_neg h]
def ct (s:ByteArray) (note:Bool) (i:Nat):Except (Int × Int) (List Tok):=scanGo s (s.size - i) note i
theorem scanAt_end (s:ByteArray) (note:Bool) (i:Nat) (h:s.size≤i):ct s note i = .ok []:=by
 unfold ct
 rw [show s.size - i=0 by omega];rfl
theorem scanAt_note (s:ByteArray) (note:Bool) (i:Nat) (h:i < s.size) (hn:(note || s[i] == 37)=true):ct s note i=ct s (s[i] != 10) (i + 1):=by
 unfold ct
 rw [show s.size - i=(s.size - (i + 1)) + 1 by omega,scanGo,dif_pos h,if_pos hn]
theorem scanAt_blank (s:ByteArray) (i:Nat) (h:i < s.size) (hn:(s[i] == 37)=false) (hb:(s[i] == 32 || s[i] == 9 || s[i] == 10)=true):ct s false i=ct s false (i + 1):=by
 unfold ct
 rw [show s.size - i=(s.size - (i + 1)) + 1 by omega,scanGo,dif_pos h,if_neg (by simp [hn]),if_pos hb]
theorem scanAt_err (s:ByteArray) (i:Nat) (h:i < s.size) (hn:(s[i] == 37)=false) (hb:(s[i] == 32 || s[i] == 9 || s[i] == 10)=false) (he:tokErr (ck (s.data.toList.drop i)).1 (ck (s.data.toList.drop i)).2 s[i]≠0) :
  ct s false i = .error (i,tokErr (ck (s.data.toList.drop i)).1 (ck (s.data.toList.drop i)).2 s[i]):=by
 unfold ct
 rw [show s.size - i=(s.size - (i + 1)) + 1 by omega,scanGo,dif_pos h,if_neg (by simp [hn]),if_neg (by simp [hb])]
 exact if_neg he
theorem scanAt_tok (s:ByteArray) (i:Nat) (h:i < s.size) (hn:(s[i] == 37)=false) (hb:(s[i] == 32 || s[i] == 9 || s[i] == 10)=false) (he:tokErr (ck (s.data.toList.drop i)).1 (ck (s.data.toList.drop i)).2 s[i]=0) :
  ct s false i=(ct s false (i + (ck (s.data.toList.drop i)).2)).map (Tok.mk (ck (s.data.toList.drop i)).1 i (s.extract i (i + (ck (s.data.toList.drop i)).2))::·):=by
 have hk:(ck (s.data.toList.drop i)).1≠0:=fun h0=>by simp [tokErr,h0] at he
 have:=tokAt_pos _ hk
 unfold ct
 rw [scanGo_fuel s (s.size - i) ((s.size - (i + 1)) + 1) false i (Nat.le_refl _) (by omega)]
 rw [scanGo,dif_pos h,if_neg (by simp [hn]),if_neg (by simp [hb])]
 show (if _ then _ else _)=_
 rw [if_pos he,scanGo_fuel s (s.size - (i + 1)) (s.size - (i + (ck (s.data.toList.drop i)).2)) false _ (by omega) (Nat.le_refl _)]
def scanS (s:ByteArray):List Tok × Int × Int :=
 if 5000 < s.size then ([],0,2) else match ct s false 0 with
  | .ok l=>(l,0,0)
  | .error (p,e)=>([],p,e)
attribute [irreducible] smallB greatB cz letterB alnumB pairB takeW ck tokErr scanGo ct scanS sameAll Tok.same
open Go Go.RowKit
def encTok (t:Tok):List D:=[.int .i64 t.kind,.int .i64 t.at_,.str t.text]
def encToks (l:List Tok):D:=.slice 3 (l.map encTok)
abbrev FnD (dr:Bool) (f:FuncId) (args:List SV) (R:SV→Prop):Prop:=FnP dr Tryz.prog tab b8 f args R
abbrev Fn (f:FuncId) (args:List SV) (R:SV→Prop):Prop:=FnP false Tryz.prog tab b8 f args R
theorem byteAt (s:ByteArray) (i:Nat) (h:i < s.size):s.data.toList[i]'(by simpa using h)=s[i]'h:=by simp [ByteArray.getElem_eq_getElem_data]
def idxF {α:Type} (p:α→Bool) (l:List α):Int:=match l.findIdx? p with
 | some i=>i
 | none=>-1
theorem idxF_hit {α:Type} {p:α→Bool} {l:List α} {i:Nat} (h:∀ j (hj:j < l.length),j < i→p l[j]=false) (hi:i < l.length) (hp:p l[i]=true):idxF p l=i:=by
 unfold idxF
 have:l.findIdx? p=some i:=by
  rw [List.findIdx?_eq_some_iff_getElem]
  exact⟨hi,hp,fun j hj=>by simpa using h j (by omega) hj⟩
 rw [this]
theorem idxF_none {α:Type} {p:α→Bool} {l:List α} (h:∀ j (hj:j < l.length),p l[j]=false):idxF p l = -1:=by
 unfold idxF
 have:l.findIdx? p=none:=by
  rw [List.findIdx?_eq_none_iff]
  intro x hx
  obtain⟨i,hi,rfl⟩:=List.mem_iff_getElem.1 hx
  exact h i hi
 rw [this]
theorem idxF_any {α:Type} (p:α→Bool) (l:List α):decide (idxF p l ≥ 0)=l.any p:=by
 unfold idxF
 cases h:l.findIdx? p with
 | none =>
  rw [List.findIdx?_eq_none_iff] at h
  have:l.any p=false:=by
   rw [List.any_eq_false]
   intro x hx
   rw [h x hx];exact Bool.false_ne_true
  rw [this];rfl
 | some i =>
  rw [List.findIdx?_eq_some_iff_getElem] at h
  obtain⟨hi,hp,_⟩:=h
  have:l.any p=true:=List.any_eq_true.2 ⟨l[i],List.getElem_mem hi,hp⟩
  rw [this]
  exact decide_eq_true (by show (0:Int)≤(i:Int);omega)
theorem none_step {α:Type} {p:α→Bool} {l:List α} {i:Nat} (h:∀ j (hj:j < l.length),j < i→p l[j]=false) (hi:i < l.length) (hp:p l[i]=false):∀ j (hj:j < l.length),j < i + 1→p l[j]=false:=by
 intro j hj hlt
 by_cases he:j=i
 ·subst he;exact hp
 ·exact h j hj (by omega)
attribute [local irreducible] DW DS DL DQ Ev FnOk FnP thenD b7 DT
def bf (n:Int):List D:=[.int .i64 n]
def ay (f:Fct):List D:=[.int .i64 f.pred,.slice 1 (f.args.map bf)]
abbrev elI (n:Int):SV:=.d (.int .i64 n)
abbrev elFct (f:Fct):SV:=.agg [.d (.int .i64 f.pred),.d (.slice 1 (f.args.map bf))]
set_option maxHeartbeats 8000000 in
theorem indexFuncInt_fn {f:FuncId} {caps:List SV} (p:Int→Bool) (l:List (Int)) (hcap:SV.lowL 0 caps=true) (hp:∀ x∈l,Fn f (elI x::caps) (fun r=>r = .d (.bool (p x)))):Fn 152 [.d (.slice 1 (l.map bf)),.fn f caps] (fun r=>r = .d (.int .i64 (idxF p l))):=by
 refine au _ Tryz.func152 rfl rfl (by kernel_rfl) ?_
 intro O w0 E0 β0
 refine da (t:=0) rfl fun hb=>?_
 repeat' (first|refine z0 ?_|apply ag|apply ae|refine z16 ?_|apply ah|apply aa)
 refine bh (ι:=Nat) (fun i=>⟨0,[(0,.d (.slice 1 (l.map bf))),(1,.fn f caps),(7,.d (.int .i64 l.length)),(8,.d (.int .i64 i))],[]⟩)
  (fun i=>i≤l.length∧∀ j (hj:j < l.length),j < i→p l[j]=false) (fun i=>l.length - i) 0 ⟨Nat.zero_le _,fun j _ h=>absurd h (Nat.not_lt_zero j)⟩
  (aj id ⟨rfl,congrArg (SV.fn f) (SV.renL_id caps).symm,by simp;rfl,rfl,trivial⟩ trivial (by simp [Sl.low,SV.low,hcap]) rfl rfl rfl rfl rfl) ?_
 rintro i ⟨h1,h2⟩
 repeat' (first|refine z0 ?_|apply ag|apply ae|refine z16 ?_|apply aa)
 refine cw rfl (fun h=>?_) (fun h=>?_)
 ·have hi:i < l.length:=by omega
  have hpx:=hp l[i] (List.getElem_mem hi)
  repeat' (first|refine z0 ?_|apply ag|apply ae|refine z16 ?_|apply ah|apply ai|apply aa|(apply ds_callV;exact rfl;exact rfl;exact rfl;exact rfl;apply hpx;exact rfl;(assumption);exact rfl;rintro _ rfl))
  refine bu rfl (fun hb=>?_) (fun hb=>?_)
  ·repeat' (first|refine z0 ?_|apply ag|apply ae|refine z16 ?_|apply ak|apply aa|apply av|apply bq)
   exact cb rfl (idxF_hit h2 hi hb).symm
  ·repeat' (first|refine z0 ?_|apply ag|refine z16 ?_|apply ai|apply aa|apply aw)
   exact⟨i + 1,⟨hi,none_step h2 hi hb⟩,aj id ⟨rfl,congrArg (SV.fn f) (SV.renL_id caps).symm,rfl,rfl,trivial⟩ trivial (by simp [Sl.low,SV.low,hcap]) rfl rfl rfl rfl rfl,by omega⟩
 ·repeat' (first|refine z0 ?_|apply ag|apply ae|refine z16 ?_|apply aq|apply ak|apply aa|apply ap|refine z17 ?_|fail)
  exact cb rfl (idxF_none fun j hj=>h2 j hj (by omega)).symm
set_option maxHeartbeats 8000000 in
theorem containsFuncInt_fn {f:FuncId} {caps:List SV} (p:Int→Bool) (l:List (Int)) (hcap:SV.lowL 0 caps=true) (hp:∀ x∈l,Fn f (elI x::caps) (fun r=>r = .d (.bool (p x)))):Fn 113 [.d (.slice 1 (l.map bf)),.fn f caps] (fun r=>r = .d (.bool (l.any p))):=by
 refine au _ Tryz.func113 rfl rfl (by kernel_rfl) ?_
 intro O w0 E0 β0
 have hx:=indexFuncInt_fn p l hcap hp
 have hlow:SV.lowL 0 [.d (.slice 1 (l.map bf)),.fn f caps]=true:=by simp [SV.lowL,SV.low,hcap]
 repeat' (first|refine z0 ?_|apply ag|apply ae|refine z16 ?_|apply ak|apply aa|refine z21 ?_ (hc:=by apply hx)|fail)
 exact db rfl (idxF_any p l)
set_option maxHeartbeats 8000000 in
theorem isNaN_fnD (dr:Bool) (a:Int):FnD dr 139 [.d (.int .i64 a)] (fun r=>r = .d (.bool false)):=by
 refine au _ Tryz.func139 rfl rfl (by kernel_rfl) ?_
 intro O w0 E0 β0
 repeat' (first|refine z0 ?_|apply ag|apply ae|refine z16 ?_|apply ak|apply aa)
 exact db rfl (by simp)
set_option maxHeartbeats 8000000 in
theorem compare_fnD (dr:Bool) (a b:Int):FnD dr 100 [.d (.int .i64 a),.d (.int .i64 b)] (fun r=>r = .d (.int .i64 (cmpI a b))):=by
 refine au _ Tryz.func100 rfl rfl (by kernel_rfl) ?_
 intro O w0 E0 β0
 repeat' (first|refine z0 ?_|apply ag|apply ae|refine z16 ?_|apply ai|apply ak|refine z19 ?_|apply aa|apply av|refine z21 ?_ (hc:=by apply isNaN_fnD)|(refine z23 ?_ ?_ <;> intro hg)|fail)
 all_goals exact cb rfl (by unfold cmpI;simp [*])
def orL:List Int→Int
 | []=>0
 | a::l=>if a=0 then orL l else a
set_option maxHeartbeats 8000000 in
theorem or_fnD (dr:Bool) (l:List Int):FnD dr 99 [.d (.slice 1 (l.map bf))] (fun r=>r = .d (.int .i64 (orL l))):=by
 refine au _ Tryz.func99 rfl rfl (by kernel_rfl) ?_
 intro O w0 E0 β0
 refine da (t:=0) rfl fun hb=>?_
 repeat' (first|refine z0 ?_|apply ag|apply ae|refine z16 ?_|apply ah|apply aa)
 refine bh (ι:=Nat) (fun i=>⟨0,[(3,.d (.int .i64 0)),(6,.d (.slice 1 (l.map bf))),(7,.d (.int .i64 l.length)),(8,.d (.int .i64 i))],[]⟩)
  (fun i=>i≤l.length∧orL l=orL (l.drop i)) (fun i=>l.length - i) 0 ⟨Nat.zero_le _,rfl⟩
  (aj id ⟨rfl,rfl,by simp;rfl,rfl,trivial⟩ trivial rfl rfl rfl rfl rfl rfl) ?_
 rintro i ⟨h1,h2⟩
 repeat' (first|refine z0 ?_|apply ag|apply ae|refine z16 ?_|apply aa)
 refine cw rfl (fun h=>?_) (fun h=>?_)
 ·have hi:i < l.length:=by omega
  have hd:=List.drop_eq_getElem_cons hi
  repeat' (first|refine z0 ?_|apply ag|apply ae|refine z16 ?_|apply ah|apply ai|apply aa)
  refine cw rfl (fun hb=>?_) (fun hb=>?_)
  ·repeat' (first|refine z0 ?_|apply ag|apply ae|refine z16 ?_|apply ak|apply aa|apply av|apply bq)
   exact cb rfl (by rw [h2,hd,orL,if_neg hb])
  ·repeat' (first|refine z0 ?_|apply ag|refine z16 ?_|apply ai|apply aa|apply aw)
   exact⟨i + 1,⟨hi,by rw [h2,hd,orL,if_pos (Decidable.not_not.1 hb)]⟩,aj id ⟨rfl,rfl,rfl,rfl,trivial⟩ trivial rfl rfl rfl rfl rfl rfl,by omega⟩
 ·repeat' (first|refine z0 ?_|apply ag|apply ae|refine z16 ?_|apply aq|apply ak|apply aa|apply ap|refine z17 ?_|fail)
  exact cb rfl (by rw [h2,List.drop_of_length_le (by omega)];rfl)
theorem ordL_step {l m:List Int} {i:Nat} (h1:i < l.length) (h2:i < m.length):ordL (l.drop i) (m.drop i)=if cmpI l[i] m[i]=0 then ordL (l.drop (i + 1)) (m.drop (i + 1)) else cmpI l[i] m[i]:=by
 rw [List.drop_eq_getElem_cons h1,List.drop_eq_getElem_cons h2,ordL]
theorem ordL_more {l m:List Int} {i:Nat} (h1:i < l.length) (h2:m.length≤i):ordL (l.drop i) (m.drop i)=1:=by
 rw [List.drop_eq_getElem_cons h1,List.drop_of_length_le h2];unfold ordL;rfl
theorem ordL_less {l m:List Int} {i:Nat} (h1:l.length≤i) (h2:i < m.length):ordL (l.drop i) (m.drop i) = -1:=by
 rw [List.drop_eq_getElem_cons h2,List.drop_of_length_le h1];unfold ordL;rfl
theorem ordL_end {l m:List Int} {i:Nat} (h1:l.length≤i) (h2:m.length≤i):ordL (l.drop i) (m.drop i)=0:=by
 rw [List.drop_of_length_le h1,List.drop_of_length_le h2];unfold ordL;rfl
set_option maxHeartbeats 8000000 in
theorem compareInts_fnD (dr:Bool) (l m:List Int):FnD dr 88 [.d (.slice 1 (l.map bf)),.d (.slice 1 (m.map bf))] (fun r=>r = .d (.int .i64 (ordL l m))):=by
 refine au _ Tryz.func88 rfl rfl (by kernel_rfl) ?_
 intro O w0 E0 β0
 refine da (t:=0) rfl fun hb=>?_
 refine da (t:=1) rfl fun hb2=>?_
 repeat' (first|refine z0 ?_|apply ag|apply ae|refine z16 ?_|apply ah|apply aa)
 refine bh (ι:=Nat) (fun i=>⟨0,[(0,.d (.slice 1 (l.map bf))),(1,.d (.slice 1 (m.map bf))),(9,.d (.slice 1 (l.map bf))),(10,.d (.int .i64 l.length)),(11,.d (.int .i64 i))],[]⟩)
  (fun i=>i≤l.length∧i≤m.length∧ordL l m=ordL (l.drop i) (m.drop i)) (fun i=>l.length - i) 0 ⟨Nat.zero_le _,Nat.zero_le _,rfl⟩
  (aj id ⟨rfl,rfl,rfl,by simp;rfl,rfl,trivial⟩ trivial rfl rfl rfl rfl rfl rfl) ?_
 rintro i ⟨h1,h2,h3⟩
 repeat' (first|refine z0 ?_|apply ag|apply ae|refine z16 ?_|apply aa)
 refine cw rfl (fun h=>?_) (fun h=>?_)
 ·have hi:i < l.length:=by omega
  repeat' (first|refine z0 ?_|apply ag|apply ae|refine z16 ?_|apply ah|apply ai|apply aa)
  refine cw rfl (fun hb=>?_) (fun hb=>?_)
  ·repeat' (first|refine z0 ?_|apply ag|apply ae|refine z16 ?_|apply ak|apply aa|apply av|apply bq)
   exact cb rfl (by rw [h3,ordL_more hi (by rw [List.length_map] at hb;omega)])
  ·have hm:i < m.length:=by rw [List.length_map] at hb;omega
   have hs:=ordL_step hi hm
   repeat' (first|refine z0 ?_|apply ag|apply ae|refine z16 ?_|apply ai|apply aa|refine z21 ?_ (hc:=by apply compare_fnD)|fail)
   refine cw rfl (fun hc=>?_) (fun hc=>?_)
   ·repeat' (first|refine z0 ?_|apply ag|apply ae|refine z16 ?_|apply ak|apply aa|apply av|apply bq)
    exact cb rfl (by rw [h3,hs,if_neg hc])
   ·repeat' (first|refine z0 ?_|apply ag|refine z16 ?_|apply ai|apply aa|apply aw)
    exact⟨i + 1,⟨hi,hm,by rw [h3,hs,if_pos (Decidable.not_not.1 hc)]⟩,aj id ⟨rfl,rfl,rfl,rfl,rfl,trivial⟩ trivial rfl rfl rfl rfl rfl rfl,by omega⟩
 ·repeat' (first|refine z0 ?_|apply ag|apply ae|refine z16 ?_|apply aq|apply aa|apply ap|refine z17 ?_|fail)
  refine cw rfl (fun hb=>?_) (fun hb=>?_)
  ·repeat' (first|refine z0 ?_|apply ag|apply ae|refine z16 ?_|apply ak|apply aa|apply av)
   exact cb rfl (by rw [h3,ordL_less (by omega) (by rw [List.length_map,List.length_map] at hb;omega)])
  ·repeat' (first|refine z0 ?_|apply ag|apply ae|refine z16 ?_|apply ai|apply ak|apply aa)
   exact cb rfl (by rw [h3,ordL_end (by omega) (by rw [List.length_map,List.length_map] at hb;omega)])
theorem ordF_or (a b:Fct):c9 a b=orL [cmpI a.pred b.pred,ordL a.args b.args]:=by
 unfold c9
 simp only [orL]
 split
 ·split
  ·assumption
  ·rfl
 ·rfl
set_option maxHeartbeats 8000000 in
theorem orderF_fnD (dr:Bool) (a b:Fct):FnD dr 63 [elFct a,elFct b] (fun r=>r = .d (.int .i64 (c9 a b))):=by
 refine au _ Tryz.func63 rfl rfl (by kernel_rfl) ?_
 intro O w0 E0 β0
 have ho:=or_fnD dr [cmpI a.pred b.pred,ordL a.args b.args]
 repeat' (first|refine z0 ?_|apply ag|refine z5 ?_|refine z10 ?_|apply ae|refine z16 ?_|refine z20 ?_|apply ak|apply aa|refine z22 ?_ (hc:=by apply compare_fnD)|refine z22 ?_ (hc:=by apply compareInts_fnD)|refine z22 ?_ (hc:=by apply ho)|refine z1 ?_|fail)
 exact cb rfl (ordF_or a b).symm
theorem orderF_fn (a b:Fct):Fn 63 [elFct a,elFct b] (fun r=>r = .d (.int .i64 (c9 a b))):=orderF_fnD false a b

set_option maxHeartbeats 8000000 in
theorem between_fn (n a b:Int):Fn 53 [.d (.int .i64 n),.d (.int .i64 a),.d (.int .i64 b)] (fun r=>r = .d (.bool (decide (a≤n) && decide (n≤b)))):=by
 refine au _ Tryz.func53 rfl rfl (by kernel_rfl) ?_
 intro O w0 E0 β0
 repeat' (first|refine z0 ?_|refine z12 ?_|apply ag|apply ae|refine z16 ?_|apply ak|apply aa|((fail_if_success (apply a8;exact rfl));apply a6;exact rfl;exact rfl;exact rfl;all_goals intro hg))
 all_goals exact db rfl (by first|(simp_all;done)|(simp_all;omega))
set_option maxHeartbeats 8000000 in
theorem isSmall_fn (c:UInt8):Fn 204 [.d (.int .u8 (c.toNat:Int))] (fun r=>r = .d (.bool (smallB c))):=by
 refine au _ Tryz.func204 rfl rfl (by kernel_rfl) ?_
 intro O w0 E0 β0
 repeat' (first|refine z0 ?_|apply ag|apply ae|refine z16 ?_|apply ak|apply aa|refine z21 ?_ (hc:=by apply between_fn)|fail)
 all_goals exact db rfl (by unfold smallB;rfl)
set_option maxHeartbeats 8000000 in
theorem isLetter_fn (c:UInt8):Fn 202 [.d (.int .u8 (c.toNat:Int))] (fun r=>r = .d (.bool (letterB c))):=by
 refine au _ Tryz.func202 rfl rfl (by kernel_rfl) ?_
 intro O w0 E0 β0
 repeat' (first|refine z0 ?_|refine z12 ?_|apply ag|apply ae|refine z16 ?_|apply ak|apply aa|refine z21 ?_ (hc:=by apply between_fn)|refine z21 ?_ (hc:=by apply isSmall_fn)|((fail_if_success (apply a8;exact rfl));apply ds_guardB;exact rfl;exact rfl;exact rfl;all_goals intro hg))
 all_goals exact db rfl (by unfold letterB greatB;rw [hg];rfl)
set_option maxHeartbeats 8000000 in
theorem isDigit_fn (c:UInt8):Fn 203 [.d (.int .u8 (c.toNat:Int))] (fun r=>r = .d (.bool (cz c))):=by
 refine au _ Tryz.func203 rfl rfl (by kernel_rfl) ?_
 intro O w0 E0 β0
 repeat' (first|refine z0 ?_|apply ag|apply ae|refine z16 ?_|apply ak|apply aa|refine z21 ?_ (hc:=by apply between_fn)|fail)
 all_goals exact db rfl (by unfold cz;rfl)
theorem ext2 (s:ByteArray) (i:Nat) (h:i + 1 < s.size):s.extract i (i + 2)=⟨#[s[i],s[i + 1]]⟩:=by
 apply ByteArray.ext
 simp only [ByteArray.data_extract]
 apply Array.toList_inj.1
 rw [Array.toList_extract]
 have hl:s.data.toList.length=s.size:=by simp
 rw [List.extract_eq_take_drop,show i + 2 - i=2 by omega,List.drop_eq_getElem_cons (by omega),List.drop_eq_getElem_cons (by omega),byteAt _ _ (by omega),byteAt _ _ (by omega)]
 rfl
theorem pair_ext (s:ByteArray) (i:Nat) (h:i + 1 < s.size):pairB (s[i]::s.data.toList.drop (i + 1))=(decide (s.extract i (i + 2)=⟨#[58,45]⟩) || decide (s.extract i (i + 2)=⟨#[60,61]⟩) || decide (s.extract i (i + 2)=⟨#[33,61]⟩)):=by
 have hl:s.data.toList.length=s.size:=by simp
 have key:∀ a b c d:UInt8,decide ((⟨#[a,b]⟩:ByteArray)=⟨#[c,d]⟩)=(a == c && b == d):=fun a b c d=>by
  rw [Bool.eq_iff_iff];simp
 rw [ext2 s i h,key,key,key,List.drop_eq_getElem_cons (by omega),byteAt _ _ (by omega),pairB]
theorem signs_step (c:UInt8) (i:Nat) (h:i < (⟨#[40,41,44,46,60,61,43,45,42]⟩:ByteArray).size):(signs.drop i).contains c=(decide ((((⟨#[40,41,44,46,60,61,43,45,42]⟩:ByteArray)[i]'h).toNat:Int)=(c.toNat:Int)) || (signs.drop (i + 1)).contains c):=by
 have h':i < signs.length:=h
 have e:signs[i]=(⟨#[40,41,44,46,60,61,43,45,42]⟩:ByteArray)[i]'h:=byteAt _ i h
 rw [List.drop_eq_getElem_cons h',List.contains_cons,e]
 congr 1
 rw [Bool.eq_iff_iff]
 simp only [beq_iff_eq,decide_eq_true_eq]
 exact⟨fun h=>by rw [h],fun h=>(UInt8.toNat_inj.1 (by omega)).symm⟩
set_option maxHeartbeats 8000000 in
theorem tokenAt_fn (s:ByteArray) (at_:Nat) (hat:at_ < s.size) (hs:s.size≤5000) :
  Fn 178 [.d (.str s),.d (.int .i64 at_)] (fun r=>r = .tup [.d (.int .i64 (ck (s.data.toList.drop at_)).1),.d (.int .i64 ((ck (s.data.toList.drop at_)).2:Nat))]):=by
 refine au _ Tryz.func178 rfl rfl (by kernel_rfl) ?_
 intro O w0 E0 β0
 repeat' (first|refine z0 ?_|apply ag|apply ae|refine z16 ?_|apply ah|apply aa|refine z21 ?_ (hc:=by apply isLetter_fn)|fail)
 have hl0:s.data.toList.length=s.size:=by simp
 have htok:ck (s.data.toList.drop at_)=ck (s[at_]::s.data.toList.drop (at_ + 1)):=by
  rw [List.drop_eq_getElem_cons (by omega),byteAt]
 refine bu rfl (fun hl=>?_) (fun hl=>?_)
 ·have hres:ck (s.data.toList.drop at_)=(if smallB s[at_] then 1 else 2,1 + takeW alnumB (s.data.toList.drop (at_ + 1))):=by
   rw [htok,tokAt_cons,if_pos hl]
  repeat' (first|apply ae|apply ah)
  refine bh (ι:=Nat) (fun n=>⟨0,[(0,.d (.str s)),(1,.d (.int .i64 at_)),(6,.d (.int .u8 s[at_].toNat)),(7,.d (.int .i64 n))],[]⟩)
   (fun n=>1≤n∧at_ + n≤s.size∧n + takeW alnumB (s.data.toList.drop (at_ + n))=1 + takeW alnumB (s.data.toList.drop (at_ + 1))) (fun n=>s.size - n) 1 ⟨by omega,by omega,rfl⟩
   (aj id ⟨rfl,rfl,rfl,rfl,trivial⟩ trivial rfl rfl rfl rfl rfl rfl) ?_
  rintro n ⟨h1,h2,h3⟩
  have hstep:(h:(at_:Int) + n < s.size)→alnumB (s[at_ + n]'(by omega))=true→n + 1 + takeW alnumB (s.data.toList.drop (at_ + (n + 1)))=1 + takeW alnumB (s.data.toList.drop (at_ + 1)):=fun h hp=>by
   have h4:=takeW_step alnumB s.data.toList (at_ + n) (by omega) (by rw [byteAt _ _ (by omega)];exact hp)
   rw [← Nat.add_assoc at_ n 1];omega
  have hstop:(h:(at_:Int) + n < s.size)→alnumB (s[at_ + n]'(by omega))=false→1 + takeW alnumB (s.data.toList.drop (at_ + 1))=n:=fun h hp=>by
   have h4:=takeW_stop alnumB s.data.toList (at_ + n) (by omega) (by rw [byteAt _ _ (by omega)];exact hp)
   omega
  have hend:¬ (at_:Int) + n < s.size→1 + takeW alnumB (s.data.toList.drop (at_ + 1))=n:=fun h=>by
   have h4:=takeW_end alnumB s.data.toList (at_ + n) (by omega)
   omega
  clear htok
  repeat' (first|refine z0 ?_|refine z12 ?_|apply ag|apply ae|refine z16 ?_|apply ah|apply ai|apply aq|apply ak|refine z18 ?_|refine z19 ?_|apply aa|apply ap|apply av|apply aw|apply bq|refine z17 ?_|refine z21 ?_ (hc:=by apply isLetter_fn)|refine z21 ?_ (hc:=by apply isDigit_fn)|refine z21 ?_ (hc:=by apply isSmall_fn)|(apply bu;exact rfl;all_goals intro hg)|((fail_if_success (apply a8;exact rfl));apply a6;exact rfl;exact rfl;exact rfl;all_goals intro hg)|((fail_if_success (apply a8;exact rfl));apply ds_guardB;exact rfl;exact rfl;exact rfl;all_goals intro hg))
  all_goals first
   | (refine⟨n + 1,⟨?_,?_,?_⟩,aj id ⟨rfl,rfl,rfl,rfl,trivial⟩ trivial rfl rfl rfl rfl rfl rfl,?_⟩
      ·omega
      ·omega
      ·apply hstep <;> first|assumption|(unfold alnumB;simp [*])
      ·omega)
   | (refine ret_2 rfl ⟨?_,?_⟩
      ·rw [hres,hg];rfl
      ·rw [hres]
       refine congrArg (fun q:Nat=>D.int .i64 (q:Int)) (Eq.symm ?_)
       first
        | (apply hend;assumption)
        | (apply hstop <;> first|assumption|(unfold alnumB;simp [*])))
 ·repeat' (first|refine z0 ?_|apply ag|apply ae|refine z16 ?_|apply aa|refine z21 ?_ (hc:=by apply isDigit_fn)|fail)
  refine bu rfl (fun hd=>?_) (fun hd=>?_)
  ·have hres:ck (s.data.toList.drop at_)=(3,1 + takeW cz (s.data.toList.drop (at_ + 1))):=by
    rw [htok,tokAt_cons,if_neg (by rw [hl];exact Bool.false_ne_true),if_pos hd]
   repeat' (first|apply ae|apply ah)
   refine bh (ι:=Nat) (fun n=>⟨0,[(0,.d (.str s)),(1,.d (.int .i64 at_)),(6,.d (.int .u8 s[at_].toNat)),(7,.d (.int .i64 n))],[]⟩)
    (fun n=>1≤n∧at_ + n≤s.size∧n + takeW cz (s.data.toList.drop (at_ + n))=1 + takeW cz (s.data.toList.drop (at_ + 1))) (fun n=>s.size - n) 1 ⟨by omega,by omega,rfl⟩
    (aj id ⟨rfl,rfl,rfl,rfl,trivial⟩ trivial rfl rfl rfl rfl rfl rfl) ?_
   rintro n ⟨h1,h2,h3⟩
   have hstep:(h:(at_:Int) + n < s.size)→cz (s[at_ + n]'(by omega))=true→n + 1 + takeW cz (s.data.toList.drop (at_ + (n + 1)))=1 + takeW cz (s.data.toList.drop (at_ + 1)):=fun h hp=>by
    have h4:=takeW_step cz s.data.toList (at_ + n) (by omega) (by rw [byteAt _ _ (by omega)];exact hp)
    rw [← Nat.add_assoc at_ n 1];omega
   have hstop:(h:(at_:Int) + n < s.size)→cz (s[at_ + n]'(by omega))=false→1 + takeW cz (s.data.toList.drop (at_ + 1))=n:=fun h hp=>by
    have h4:=takeW_stop cz s.data.toList (at_ + n) (by omega) (by rw [byteAt _ _ (by omega)];exact hp)
    omega
   have hend:¬ (at_:Int) + n < s.size→1 + takeW cz (s.data.toList.drop (at_ + 1))=n:=fun h=>by
    have h4:=takeW_end cz s.data.toList (at_ + n) (by omega)
    omega
   clear htok
   repeat' (first|refine z0 ?_|refine z12 ?_|apply ag|apply ae|refine z16 ?_|apply ah|apply ai|apply aq|apply ak|refine z19 ?_|apply aa|apply ap|apply av|apply aw|apply bq|refine z17 ?_|refine z21 ?_ (hc:=by apply isDigit_fn)|(apply bu;exact rfl;all_goals intro hg)|((fail_if_success (apply a8;exact rfl));apply a6;exact rfl;exact rfl;exact rfl;all_goals intro hg))
   all_goals first
    | (refine⟨n + 1,⟨?_,?_,?_⟩,aj id ⟨rfl,rfl,rfl,rfl,trivial⟩ trivial rfl rfl rfl rfl rfl rfl,?_⟩
       ·omega
       ·omega
       ·apply hstep <;> assumption
       ·omega)
    | (refine ret_2 rfl ⟨?_,?_⟩
       ·rw [hres]
       ·rw [hres]
        refine congrArg (fun q:Nat=>D.int .i64 (q:Int)) (Eq.symm ?_)
        first
         | (apply hend;assumption)
         | (apply hstop <;> assumption))
  ·have hres:ck (s.data.toList.drop at_)=if pairB (s[at_]::s.data.toList.drop (at_ + 1)) then (4,2) else if signs.contains s[at_] then (4,1) else (0,0):=by
    rw [htok,tokAt_cons,if_neg (by rw [hl];exact Bool.false_ne_true),if_neg (by rw [hd];exact Bool.false_ne_true)]
   repeat' (first|refine z0 ?_|apply ag|apply ae|refine z16 ?_|apply ai|apply aa|apply aw)
   refine cw rfl (fun h2=>?_) (fun h2=>?_)
   ·have hp:=pair_ext s at_ (by omega)
    repeat' (first|refine z0 ?_|refine z12 ?_|apply ag|apply ae|refine z16 ?_|apply ah|apply ai|apply ak|refine z18 ?_|apply aa|apply av|(refine z23 ?_ ?_ <;> intro hg)|((fail_if_success (apply a8;exact rfl));apply a6;exact rfl;exact rfl;exact rfl;all_goals intro hg))
    all_goals first
     | (refine ret_2 rfl ⟨?_,?_⟩ <;> (rw [hres,hp];simp [*];done))
     | skip
    have hpf:pairB (s[at_]::s.data.toList.drop (at_ + 1))=false:=by rw [hp];simp [*]
    rw [hpf] at hres
    refine bh (ι:=Nat) (fun i=>⟨0,[(6,.d (.int .u8 s[at_].toNat)),(9,.d (.str ⟨#[40,41,44,46,60,61,43,45,42]⟩)),(10,.d (.int .i64 i))],[]⟩)
     (fun i=>i≤9∧signs.contains s[at_]=(signs.drop i).contains s[at_]) (fun i=>9 - i) 0 ⟨by omega,rfl⟩ (aj id ⟨rfl,rfl,rfl,trivial⟩ trivial rfl rfl rfl rfl rfl rfl) ?_
    rintro i ⟨hi,hc⟩
    have hst:=fun h=>signs_step s[at_] i h
    have h9:((⟨#[40,41,44,46,60,61,43,45,42]⟩:ByteArray).size:Int)=9:=rfl
    repeat' (first|refine z0 ?_|apply ag|apply ae|refine z16 ?_|apply ah|apply ai|apply aq|apply ak|apply aa|apply ap|apply av|apply aw|apply bq|refine z17 ?_|(refine z23 ?_ ?_ <;> intro hg)|fail)
    all_goals first
     | (refine ret_2 rfl ⟨?_,?_⟩
        ·rw [hres,hc,hst (by rw [← Int.ofNat_lt];assumption),decide_eq_true ‹_›];rfl
        ·rw [hres,hc,hst (by rw [← Int.ofNat_lt];assumption),decide_eq_true ‹_›];rfl)
     | (refine⟨i + 1,⟨?_,?_⟩,aj id ⟨rfl,rfl,rfl,trivial⟩ trivial rfl rfl rfl rfl rfl rfl,?_⟩
        ·omega
        ·rw [hc,hst (by rw [← Int.ofNat_lt];assumption),decide_eq_false ‹_›];rfl
        ·omega)
     | (have hi9:i=9:=by omega
        subst hi9
        refine ret_2 rfl ⟨?_,?_⟩
        ·rw [hres,hc];rfl
        ·rw [hres,hc];rfl)
   ·repeat' (first|refine z0 ?_|apply ag|apply ae|refine z16 ?_|apply ah|apply ai|apply aa)
    have hpf:pairB (s[at_]::s.data.toList.drop (at_ + 1))=false:=by
     rw [List.drop_of_length_le (by omega)];unfold pairB;rfl
    rw [hpf] at hres
    refine bh (ι:=Nat) (fun i=>⟨0,[(6,.d (.int .u8 s[at_].toNat)),(9,.d (.str ⟨#[40,41,44,46,60,61,43,45,42]⟩)),(10,.d (.int .i64 i))],[]⟩)
     (fun i=>i≤9∧signs.contains s[at_]=(signs.drop i).contains s[at_]) (fun i=>9 - i) 0 ⟨by omega,rfl⟩ (aj id ⟨rfl,rfl,rfl,trivial⟩ trivial rfl rfl rfl rfl rfl rfl) ?_
    rintro i ⟨hi,hc⟩
    have hst:=fun h=>signs_step s[at_] i h
    have h9:((⟨#[40,41,44,46,60,61,43,45,42]⟩:ByteArray).size:Int)=9:=rfl
    repeat' (first|refine z0 ?_|apply ag|apply ae|refine z16 ?_|apply ah|apply ai|apply aq|apply ak|apply aa|apply ap|apply av|apply aw|apply bq|refine z17 ?_|(refine z23 ?_ ?_ <;> intro hg)|fail)
    all_goals first
     | (refine ret_2 rfl ⟨?_,?_⟩
        ·rw [hres,hc,hst (by rw [← Int.ofNat_lt];assumption),decide_eq_true ‹_›];rfl
        ·rw [hres,hc,hst (by rw [← Int.ofNat_lt];assumption),decide_eq_true ‹_›];rfl)
     | (refine⟨i + 1,⟨?_,?_⟩,aj id ⟨rfl,rfl,rfl,trivial⟩ trivial rfl rfl rfl rfl rfl rfl,?_⟩
        ·omega
        ·rw [hc,hst (by rw [← Int.ofNat_lt];assumption),decide_eq_false ‹_›];rfl
        ·omega)
     | (have hi9:i=9:=by omega
        subst hi9
        refine ret_2 rfl ⟨?_,?_⟩
        ·rw [hres,hc];rfl
        ·rw [hres,hc];rfl)
theorem rbetween_fn (n a b:Int):Fn 53 [.d (.int .i64 n),.d (.int .i64 a),.d (.int .i64 b)] (fun r=>r = .d (.bool (inR n a b))):=between_fn n a b
theorem fct_not {x y:Fct} {b:Bool} (h:decide (c9 x y≠0) = !b):Fct.same x y=b:=by
 unfold Fct.same
 cases b <;> simpa using h
theorem ordL_lt {l m:List Int} {i:Nat} (h1:i < l.length) (h2:i < m.length) (h:l[i] < m[i]):ordL (l.drop i) (m.drop i) = -1:=by
 have e:cmpI l[i] m[i] = -1:=by unfold cmpI;rw [if_pos h]
 rw [ordL_step h1 h2,e];rfl
theorem ordL_gt {l m:List Int} {i:Nat} (h1:i < l.length) (h2:i < m.length) (h:m[i] < l[i]):ordL (l.drop i) (m.drop i)=1:=by
 have e:cmpI l[i] m[i]=1:=by unfold cmpI;rw [if_neg (by omega),if_pos h]
 rw [ordL_step h1 h2,e];rfl
theorem ordL_eq {l m:List Int} {i:Nat} (h1:i < l.length) (h2:i < m.length) (h:l[i]=m[i]):ordL (l.drop i) (m.drop i)=ordL (l.drop (i + 1)) (m.drop (i + 1)):=by
 rw [ordL_step h1 h2,h,if_pos (cmpI_self _)]
theorem cmpI_eq (a b:Int):(cmpI a b=0)=(a=b):=by unfold cmpI;rw [eq_iff_iff];split <;> (try split) <;> simp <;> omega
set_option maxHeartbeats 8000000 in
theorem orderOf_fn (a b:Fct):Fn 42 [elFct a,elFct b] (fun r=>r = .d (.int .i64 (c9 a b))):=by
 refine au _ Tryz.func42 rfl rfl (by kernel_rfl) ?_
 intro O w0 E0 β0
 repeat' (first|refine z0 ?_|apply ag|apply ae|refine z16 ?_|apply aa|refine z1 ?_|fail)
 refine cw rfl (fun hp=>?_) (fun hp=>?_)
 ·repeat' (first|refine z0 ?_|apply ag|apply ae|refine z16 ?_|apply ai|apply ak|apply aa|apply av|(refine z23 ?_ ?_ <;> intro hg)|fail)
  all_goals exact cb rfl (by unfold c9;rw [if_neg (by rw [cmpI_eq];exact hp)];unfold cmpI;repeat' split;all_goals first|rfl|omega)
 ·have hF:c9 a b=ordL a.args b.args:=by unfold c9;rw [if_pos (by rw [cmpI_eq];exact Decidable.not_not.1 hp)]
  repeat' (first|refine z0 ?_|apply ag|apply ae|refine z16 ?_|apply ah|apply ai|apply aa)
  refine bh (ι:=Nat) (fun i=>⟨2,[(2,.loc 0 0),(3,.loc 1 0),(5,.d (.int .i64 i))],[(0,.blk 48 [.d (.int .i64 a.pred),.d (.slice 1 (a.args.map bf))]),(1,.blk 48 [.d (.int .i64 b.pred),.d (.slice 1 (b.args.map bf))])]⟩)
   (fun i=>i≤a.args.length∧i≤b.args.length∧c9 a b=ordL (a.args.drop i) (b.args.drop i)) (fun i=>a.args.length - i) 0 ⟨Nat.zero_le _,Nat.zero_le _,hF⟩
   (aj id ⟨rfl,rfl,rfl,trivial⟩ ⟨rfl,rfl,trivial⟩ rfl rfl rfl rfl rfl rfl) ?_
  rintro i ⟨h1,h2,h3⟩
  refine dw_lenC 0 1 rfl rfl fun hb=>?_
  have la:(a.args.map bf).length=a.args.length:=List.length_map _
  have lb:(b.args.map bf).length=b.args.length:=List.length_map _
  repeat' (first|refine z0 ?_|refine z12 ?_|apply ag|refine z5 ?_|refine z10 ?_|apply ae|refine z16 ?_|refine z20 ?_|apply ah|apply ai|apply aq|apply ak|refine z19 ?_|apply aa|apply ap|apply av|apply aw|apply bq|refine z17 ?_|(refine z23 ?_ ?_ <;> intro hg)|((fail_if_success (apply a8;exact rfl));apply a6;exact rfl;exact rfl;exact rfl;all_goals intro hg))
  all_goals first
   | (refine cb rfl (Eq.trans ?_ h3.symm);refine (ordL_lt ?_ ?_ ?_).symm <;> first|assumption|omega)
   | (refine cb rfl (Eq.trans ?_ h3.symm);refine (ordL_gt ?_ ?_ ?_).symm <;> first|assumption|omega)
   | (refine cb rfl (Eq.trans ?_ h3.symm);refine (ordL_less ?_ ?_).symm <;> omega)
   | (refine cb rfl (Eq.trans ?_ h3.symm);refine (ordL_more ?_ ?_).symm <;> omega)
   | (refine cb rfl (Eq.trans ?_ h3.symm);refine (ordL_end ?_ ?_).symm <;> omega)
   | (refine⟨i + 1,⟨?_,?_,h3.trans (ordL_eq ?_ ?_ ?_)⟩,aj id ⟨rfl,rfl,rfl,trivial⟩ ⟨rfl,rfl,trivial⟩ rfl rfl rfl rfl rfl rfl,?_⟩ <;> omega)
set_option maxHeartbeats 8000000 in
theorem sameFacts_fn (l m:List (Fct)):Fn 28 [.d (.slice 2 (l.map ay)),.d (.slice 2 (m.map ay))] (fun r=>r = .d (.bool (sameL Fct.same l m))):=by
 refine au _ Tryz.func28 rfl rfl (by kernel_rfl) ?_
 intro O w0 E0 β0
 refine da (t:=0) rfl fun hb=>?_
 repeat' (first|refine z0 ?_|apply ag|apply ae|refine z16 ?_|apply aa)
 refine cw rfl (fun h=>?_) (fun h=>?_)
 ·have hne:l.length≠m.length:=by rw [List.length_map,List.length_map] at h;omega
  repeat' (first|refine z0 ?_|apply ag|apply ae|refine z16 ?_|apply ak|apply aa|apply av)
  exact db rfl (sameL_len _ _ _ hne).symm
 ·have hlen:l.length=m.length:=by rw [List.length_map,List.length_map] at h;omega
  repeat' (first|refine z0 ?_|apply ag|apply ae|refine z16 ?_|apply ah|apply ai|apply aa)
  refine bh (ι:=Nat) (fun i=>⟨0,[(0,.d (.slice 2 (l.map ay))),(1,.d (.slice 2 (m.map ay))),(5,.d (.int .i64 i))],[]⟩)
   (fun i=>i≤l.length∧sameL Fct.same l m=sameL Fct.same (l.drop i) (m.drop i)) (fun i=>l.length - i) 0 ⟨Nat.zero_le _,rfl⟩
   (aj id ⟨rfl,rfl,rfl,trivial⟩ trivial rfl rfl rfl rfl rfl rfl) ?_
  rintro i ⟨h1,h2⟩
  repeat' (first|refine z0 ?_|apply ag|apply ae|refine z16 ?_|apply aa)
  refine cw rfl (fun h=>?_) (fun h=>?_)
  ·have hi:i < l.length:=by rw [List.length_map] at h;omega
   have hm:i < m.length:=by omega
   have hd:=sameL_drop Fct.same l m i hi hm
   repeat' (first|refine z5 ?_|refine z10 ?_|apply ae|refine z20 ?_|apply ah|apply ai|apply aa|refine z22 ?_ (hc:=by apply orderOf_fn)|fail)
   refine bu rfl (fun hb=>?_) (fun hb=>?_)
   ·have hp:Fct.same l[i] m[i]=false:=by exact fct_not hb
    repeat' (first|refine z0 ?_|apply ag|apply ae|refine z16 ?_|apply ak|apply aa|apply av|apply bq)
    exact db rfl (by rw [h2,hd,hp];rfl)
   ·have hp:Fct.same l[i] m[i]=true:=by exact fct_not hb
    repeat' (first|refine z0 ?_|apply ag|refine z16 ?_|apply ai|apply aa|apply aw)
    exact⟨i + 1,⟨hi,by rw [h2,hd,hp];rfl⟩,aj id ⟨rfl,rfl,rfl,trivial⟩ trivial rfl rfl rfl rfl rfl rfl,by omega⟩
  ·repeat' (first|refine z0 ?_|apply ag|apply ae|refine z16 ?_|apply aq|apply ak|apply aa|apply ap|refine z17 ?_|fail)
   exact db rfl (by rw [h2,sameL_end _ _ _ _ (by rw [List.length_map] at h;omega) (by rw [List.length_map] at h;omega)])
set_option maxHeartbeats 8000000 in
theorem hasFact_fn (l:List Fct) (f:Fct):Fn 19 [.d (.slice 2 (l.map ay)),elFct f] (fun r=>r = .d (.bool (hasF l f))):=by
 refine au _ Tryz.func19 rfl rfl (by kernel_rfl) ?_
 intro O w0 E0 β0
 have la:(l.map ay).length=l.length:=List.length_map _
 refine dw_len (t:=0) rfl (fun hk=>?_)
 unfold hasF
 repeat' (first|refine z0 ?_|apply ag|apply ae|refine z16 ?_|apply ah|apply aa|refine z1 ?_|fail)
 refine bh (ι:=Nat) (fun i=>⟨1,[(0,.d (.slice 2 (l.map ay))),(3,.loc 0 0),(4,.d (.bool false)),(5,.d (.int .i64 i))],[(0,.blk 48 [.d (.int .i64 f.pred),.d (.slice 1 (f.args.map bf))])]⟩)
  (fun i=>i≤l.length∧(l.any fun x=>decide (c9 x f=0))=((l.drop i).any fun x=>decide (c9 x f=0))) (fun i=>l.length - i) 0 ⟨Nat.zero_le _,rfl⟩ (aj id ⟨rfl,rfl,rfl,rfl,trivial⟩ ⟨rfl,trivial⟩ rfl rfl rfl rfl rfl rfl) ?_
 rintro i ⟨g1,g2⟩
 by_cases hi:i < l.length
 ·have w:=orderOf_fn l[i] f
  rw [List.drop_eq_getElem_cons hi,List.any_cons] at g2
  generalize c9 l[i] f=q at w g2
  repeat' (first|refine z0 ?_|apply ag|refine z5 ?_|refine z10 ?_|apply ae|refine z16 ?_|refine z20 ?_|apply ah|apply ai|apply aq|apply ak|apply aa|apply ap|apply av|apply aw|apply bq|refine z17 ?_|refine z22 ?_ (hc:=by apply w)|(refine z23 ?_ ?_ <;> intro hg)|fail)
  all_goals first
   | (exfalso;omega)
   | (refine db rfl ?_;rw [g2];simp_all;done)
   | exact⟨i + 1,⟨by omega,by rw [g2];simp_all⟩,aj id ⟨rfl,rfl,rfl,rfl,trivial⟩ ⟨rfl,trivial⟩ rfl rfl rfl rfl rfl rfl,by show l.length - (i + 1) < l.length - i;omega⟩
 ·rw [List.drop_of_length_le (by omega)] at g2
  repeat' (first|refine z0 ?_|apply ag|refine z5 ?_|apply ae|refine z16 ?_|refine z20 ?_|apply ah|apply ai|apply aq|apply ak|apply aa|apply ap|refine z17 ?_|(refine z23 ?_ ?_ <;> intro hg)|fail)
  all_goals first
   | (exfalso;omega)
   | exact db rfl g2.symm
set_option maxHeartbeats 8000000 in
theorem setOf_fn (l:List Fct) (hl:l.length≤4398046511104):Fn 29 [.d (.slice 2 (l.map ay))] (fun r=>r = .d (.slice 2 ((b9 l).map ay))):=by
 refine au _ Tryz.func29 rfl rfl (by kernel_rfl) ?_
 intro O w0 E0 β0
 have la:(l.map ay).length=l.length:=List.length_map _
 repeat' (first|refine z0 ?_|apply ag|apply ae|refine z16 ?_|apply ah|apply aa)
 refine bl (ent_nilrow (t:=3) 48 2 rfl) ?_
 refine bh (ι:=Nat × List Fct) (fun x=>⟨1,[(0,.d (.slice 2 (l.map ay))),(3,.row 0),(4,.d (.int .i64 x.1))],[(0,.row 48 2 (x.2.map ay))]⟩)
  (fun x=>x.1≤l.length∧x.2=(l.take x.1).foldl insF []) (fun x=>l.length - x.1) (0,[]) ⟨Nat.zero_le _,rfl⟩ (aj id ⟨rfl,rfl,rfl,trivial⟩ ⟨rfl,trivial⟩ rfl rfl rfl rfl rfl rfl) ?_
 rintro⟨i,o⟩ ⟨g1,g2⟩
 dsimp only at g1 g2 ⊢
 have lo:(o.map ay).length=o.length:=List.length_map _
 have hol:o.length≤i:=by
  have:=setF_len (l.take i) []
  rw [← g2] at this
  simp at this
  omega
 by_cases hi:i < l.length
 ·have hstep:=setF_take (l:=l) hi
  rw [← g2] at hstep
  repeat' (first|refine z0 ?_|apply ag|apply ae|refine z16 ?_|apply ah|apply ai|apply aq|apply ak|apply aa|apply ap|refine z17 ?_|(refine z23 ?_ ?_ <;> intro hg)|fail)
  all_goals try (exfalso;omega)
  refine ds_callS 0 (hasFact_fn o l[i]) rfl rfl (by rintro _ rfl;rfl) rfl rfl rfl rfl ?_
  rintro _ rfl
  cases hh:hasF o l[i] with
  | true =>
   have hins:insF o l[i]=o:=by unfold insF;rw [if_pos hh]
   repeat' (first|refine z0 ?_|apply ag|refine z16 ?_|apply aq|refine z18 ?_|apply aa|apply ap|refine z17 ?_|fail)
   exact⟨(i + 1,o),⟨by dsimp only;omega,by dsimp only;rw [hstep,hins]⟩,aj id ⟨rfl,rfl,rfl,trivial⟩ ⟨rfl,trivial⟩ rfl rfl rfl rfl rfl rfl,by show l.length - (i + 1) < l.length - i;omega⟩
  | false =>
   have hins:insF o l[i]=o.take (kFrom o l[i] o.length)++l[i]::o.drop (kFrom o l[i] o.length):=by unfold insF;rw [hh];rfl
   rw [hins] at hstep
   repeat' (first|refine z0 ?_|apply ag|apply ae|refine z16 ?_|apply ah|apply ai|refine z19 ?_|apply aa|refine z4 ?_|refine z2 ?_|fail)
   have hin:o.map ay++[[D.int .i64 l[i].pred,D.slice 1 (l[i].args.map bf)]]=(o.take o.length++l[i]::o.drop o.length).map ay:=by
    rw [List.take_of_length_le (Nat.le_refl _),List.drop_of_length_le (Nat.le_refl _),List.map_append];rfl
   rw [hin]
   refine bh (ι:=Nat × List Fct) (fun x=>⟨2,[(0,.d (.slice 2 (l.map ay))),(3,.row 1),(4,.d (.int .i64 i)),(5,.d (.int .i64 x.1))],[(1,.row 48 2 (x.2.map ay))]⟩)
    (fun x=>x.1≤o.length∧kFrom o l[i] o.length=kFrom o l[i] x.1∧∃ y,x.2=o.take x.1++y::o.drop x.1) (fun x=>x.1) (o.length,o.take o.length++l[i]::o.drop o.length) ⟨Nat.le_refl _,rfl,_,rfl⟩
    (by rw [lo];exact aj id ⟨rfl,rfl,rfl,rfl,trivial⟩ ⟨rfl,trivial⟩ rfl rfl rfl rfl rfl rfl) ?_
   rintro⟨k,o'⟩ ⟨e1,e2,y,e3⟩
   dsimp only at e1 e2 e3 ⊢
   have lo':(o'.map ay).length=o'.length:=List.length_map _
   have ho':o'.length=o.length + 1:=by rw [e3];simp;omega
   cases k with
   | zero =>
    repeat' (first|refine z0 ?_|apply ag|(apply ds_stP;exact rfl;exact rfl;(apply hv_get;(omega));exact rfl;exact rfl;(exact hv_set rfl);exact rfl;exact rfl;exact rfl;exact rfl;exact rfl;exact rfl)|refine z5 ?_|refine z14 ?_|refine z10 ?_|apply ae|refine z16 ?_|refine z20 ?_|apply aq|refine z19 ?_|apply aa|apply ap|apply aw|refine z17 ?_|fail)
    all_goals try (exfalso;omega)
    refine⟨(i + 1,o'.set 0 l[i]),⟨by dsimp only;omega,?_⟩,aj (fun _=>1) ⟨rfl,rfl,rfl,trivial⟩ ⟨rfl,trivial⟩ rfl rfl rfl rfl rfl rfl,by show l.length - (i + 1) < l.length - i;omega⟩
    dsimp only
    rw [hstep,e2,e3,shift_end e1]
    rfl
   | succ k =>
    have hk:o'[k]'(by omega)=o[k]'(by omega):=by
     have:=shift_get (l:=o) (y:=y) (k:=k) (by omega)
     rw [← e3,List.getElem?_eq_getElem (by omega)] at this
     injection this
    have w:=orderOf_fn (o'[k]'(by omega)) l[i]
    rw [kFrom_succ (by omega),← hk] at e2
    repeat' (first|refine z0 ?_|apply ag|(apply ds_stP;exact rfl;exact rfl;(apply hv_get;(omega));exact rfl;exact rfl;(exact hv_set rfl);exact rfl;exact rfl;exact rfl;exact rfl;exact rfl;exact rfl)|refine z5 ?_|refine z14 ?_|refine z10 ?_|apply ae|refine z16 ?_|refine z20 ?_|apply ah|apply ai|apply aq|refine z19 ?_|apply aa|apply ap|apply aw|refine z17 ?_|refine z22 ?_ (hc:=by apply w)|(refine z23 ?_ ?_ <;> intro hg)|((fail_if_success (apply dt_known;exact rfl));apply c8;exact rfl;exact rfl;exact rfl;all_goals intro hg))
    all_goals try (exfalso;omega)
    ·rw [if_pos (by assumption)] at e2
     simp only [nat_sub_1]
     refine⟨(k,o'.set (k + 1) (o'[k]'(by omega))),⟨by dsimp only;omega,e2,o'[k]'(by omega),?_⟩,aj id ⟨rfl,rfl,rfl,rfl,trivial⟩ ⟨rfl,trivial⟩ rfl rfl rfl rfl rfl rfl,by show k < k + 1;omega⟩
     have h5:=shift_step (l:=o) (y:=y) (k:=k) (by omega)
     rw [← e3] at h5
     dsimp only
     rw [hk]
     exact h5
    ·rw [if_neg (by assumption)] at e2
     refine⟨(i + 1,o'.set (k + 1) l[i]),⟨by dsimp only;omega,?_⟩,aj (fun _=>1) ⟨rfl,rfl,rfl,trivial⟩ ⟨rfl,trivial⟩ rfl rfl rfl rfl rfl rfl,by show l.length - (i + 1) < l.length - i;omega⟩
     dsimp only
     rw [hstep,e2,e3,shift_end e1]
 ·repeat' (first|refine z0 ?_|apply ag|apply ae|refine z16 ?_|apply ah|apply ai|apply aq|apply aa|apply ap|refine z17 ?_|(refine z23 ?_ ?_ <;> intro hg)|fail)
  all_goals try (exfalso;omega)
  refine bl (cg 2 rfl rfl rfl) ?_
  repeat' (apply ak)
  have:o=b9 l:=by rw [g2,List.take_of_length_le (by omega)];rfl
  rw [← this]
  exact⟨.inl rfl,_,rfl,rfl,rfl⟩
end Go.Proofs.YtapciiffpnociacGreat
