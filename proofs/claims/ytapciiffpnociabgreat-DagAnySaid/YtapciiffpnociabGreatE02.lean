/- Several texts in one: Tab GxOps GxMem. Condition: none. -/
import Derived.Test.YtapciiffpnociabGreatProg
import Derived.Test.YtapciiffpnociabGreatE01
import Derived.KernelRfl
import Derived.WalkSpells
import Derived.Orders
namespace Go.Proofs.YtapciiffpnociabGreat
open Go
def tab:List (Nat × TI):=[
 (2,⟨.int .i64,1,8,[.int .i64 0],false⟩),
 (3,⟨.int .i64,1,8,[.int .i64 0],false⟩),
 (4,⟨.bool,1,1,[.bool false],false⟩),
 (5,⟨.int .u8,1,1,[.int .u8 0],false⟩),
 (6,⟨.int .u8,1,1,[.int .u8 0],false⟩),
 (7,⟨.struct [(0,2,1),(1,3,1),(2,4,1),(3,6,1)],4,24,[.int .i64 0,.int .i64 0,.bool false,.int .u8 0],true⟩),
 (8,⟨.struct [(0,2,1),(1,3,1),(2,4,1),(3,6,1)],4,24,[.int .i64 0,.int .i64 0,.bool false,.int .u8 0],true⟩),
 (9,⟨.str,1,16,[.string ⟨#[]⟩],false⟩),
 (10,⟨.str,1,16,[.string ⟨#[]⟩],false⟩),
 (11,⟨.str,1,16,[.string ⟨#[]⟩],false⟩),
 (12,⟨.int .u64,1,8,[.int .u64 0],false⟩),
 (13,⟨.struct [(0,9,1),(1,12,1)],2,24,[.string ⟨#[]⟩,.int .u64 0],false⟩),
 (14,⟨.struct [(0,9,1),(1,12,1)],2,24,[.string ⟨#[]⟩,.int .u64 0],false⟩),
 (15,⟨.ptr 323,1,8,[.pointer none],false⟩),
 (16,⟨.ptr 326,1,8,[.pointer none],false⟩),
 (17,⟨.ptr 335,1,8,[.pointer none],false⟩),
 (18,⟨.struct [(0,17,1)],1,8,[.pointer none],false⟩),
 (19,⟨.struct [(0,17,1)],1,8,[.pointer none],false⟩),
 (21,⟨.int .i32,1,4,[.int .i32 0],false⟩),
 (22,⟨.slice 3,1,24,[.slice none 0 0],false⟩),
 (23,⟨.slice 9,1,24,[.slice none 0 0],false⟩),
 (24,⟨.slice 87,1,24,[.slice none 0 0],false⟩),
 (25,⟨.struct [(0,22,1),(1,23,1),(2,24,1)],3,72,[.slice none 0 0,.slice none 0 0,.slice none 0 0],true⟩),
 (26,⟨.struct [(0,22,1),(1,23,1),(2,24,1)],3,72,[.slice none 0 0,.slice none 0 0,.slice none 0 0],true⟩),
 (27,⟨.slice 35,1,24,[.slice none 0 0],false⟩),
 (28,⟨.struct [(0,27,1),(1,27,1)],2,48,[.slice none 0 0,.slice none 0 0],true⟩),
 (29,⟨.struct [(0,27,1),(1,27,1)],2,48,[.slice none 0 0,.slice none 0 0],true⟩),
 (30,⟨.struct [(0,3,1),(1,3,1)],2,16,[.int .i64 0,.int .i64 0],true⟩),
 (31,⟨.struct [(0,3,1),(1,3,1)],2,16,[.int .i64 0,.int .i64 0],true⟩),
 (32,⟨.slice 31,1,24,[.slice none 0 0],false⟩),
 (33,⟨.slice 95,1,24,[.slice none 0 0],false⟩),
 (34,⟨.struct [(0,31,2),(2,32,1),(3,33,1),(4,32,1)],5,88,[.int .i64 0,.int .i64 0,.slice none 0 0,.slice none 0 0,.slice none 0 0],true⟩),
 (35,⟨.struct [(0,31,2),(2,32,1),(3,33,1),(4,32,1)],5,88,[.int .i64 0,.int .i64 0,.slice none 0 0,.slice none 0 0,.slice none 0 0],true⟩),
 (38,⟨.int .i64,1,8,[.int .i64 0],false⟩),
 (47,⟨.slice 64,1,24,[.slice none 0 0],false⟩),
 (60,⟨.slice 27,1,24,[.slice none 0 0],false⟩),
 (63,⟨.struct [(0,33,1),(1,33,1)],2,48,[.slice none 0 0,.slice none 0 0],true⟩),
 (64,⟨.struct [(0,33,1),(1,33,1)],2,48,[.slice none 0 0,.slice none 0 0],true⟩),
 (77,⟨.slice 22,1,24,[.slice none 0 0],false⟩),
 (84,⟨.slice 154,1,24,[.slice none 0 0],false⟩),
 (85,⟨.slice 156,1,24,[.slice none 0 0],false⟩),
 (86,⟨.struct [(0,3,1),(1,84,1),(2,3,1),(3,85,1),(4,3,1)],5,72,[.int .i64 0,.slice none 0 0,.int .i64 0,.slice none 0 0,.int .i64 0],true⟩),
 (87,⟨.struct [(0,3,1),(1,84,1),(2,3,1),(3,85,1),(4,3,1)],5,72,[.int .i64 0,.slice none 0 0,.int .i64 0,.slice none 0 0,.int .i64 0],true⟩),
 (94,⟨.struct [(0,3,1),(1,22,1)],2,32,[.int .i64 0,.slice none 0 0],true⟩),
 (95,⟨.struct [(0,3,1),(1,22,1)],2,32,[.int .i64 0,.slice none 0 0],true⟩),
 (103,⟨.ptr 107,1,8,[.pointer none],false⟩),
 (106,⟨.struct [(0,29,2),(2,26,3),(5,33,1)],6,144,[.slice none 0 0,.slice none 0 0,.slice none 0 0,.slice none 0 0,.slice none 0 0,.slice none 0 0],true⟩),
 (107,⟨.struct [(0,29,2),(2,26,3),(5,33,1)],6,144,[.slice none 0 0,.slice none 0 0,.slice none 0 0,.slice none 0 0,.slice none 0 0,.slice none 0 0],true⟩),
 (110,⟨.ptr 29,1,8,[.pointer none],false⟩),
 (111,⟨.slice 29,1,24,[.slice none 0 0],false⟩),
 (116,⟨.ptr 119,1,8,[.pointer none],false⟩),
 (117,⟨.slice 5,1,24,[.slice none 0 0],false⟩),
 (118,⟨.struct [(0,117,1)],1,24,[.slice none 0 0],true⟩),
 (119,⟨.struct [(0,117,1)],1,24,[.slice none 0 0],true⟩),
 (123,⟨.ptr 125,1,8,[.pointer none],false⟩),
 (124,⟨.struct [(0,9,1),(1,4,1)],2,24,[.string ⟨#[]⟩,.bool false],true⟩),
 (125,⟨.struct [(0,9,1),(1,4,1)],2,24,[.string ⟨#[]⟩,.bool false],true⟩),
 (147,⟨.struct [(0,87,5),(5,33,1),(6,77,1),(7,4,1)],8,128,[.int .i64 0,.slice none 0 0,.int .i64 0,.slice none 0 0,.int .i64 0,.slice none 0 0,.slice none 0 0,.bool false],true⟩),
 (148,⟨.struct [(0,87,5),(5,33,1),(6,77,1),(7,4,1)],8,128,[.int .i64 0,.slice none 0 0,.int .i64 0,.slice none 0 0,.int .i64 0,.slice none 0 0,.slice none 0 0,.bool false],true⟩),
 (150,⟨.slice 4,1,24,[.slice none 0 0],false⟩),
 (153,⟨.struct [(0,3,1),(1,3,1)],2,16,[.int .i64 0,.int .i64 0],true⟩),
 (154,⟨.struct [(0,3,1),(1,3,1)],2,16,[.int .i64 0,.int .i64 0],true⟩),
 (155,⟨.struct [(0,3,1),(1,3,1),(2,3,1),(3,84,1)],4,48,[.int .i64 0,.int .i64 0,.int .i64 0,.slice none 0 0],true⟩),
 (156,⟨.struct [(0,3,1),(1,3,1),(2,3,1),(3,84,1)],4,48,[.int .i64 0,.int .i64 0,.int .i64 0,.slice none 0 0],true⟩),
 (171,⟨.map 31 3,1,8,[.map none],false⟩),
 (174,⟨.int .u32,1,4,[.int .u32 0],false⟩),
 (175,⟨.int .u64,1,8,[.int .u64 0],false⟩),
 (181,⟨.ptr 183,1,8,[.pointer none],false⟩),
 (182,⟨.struct [(0,87,5),(5,33,1),(6,22,1),(7,150,1),(8,3,1),(9,77,1)],10,176,[.int .i64 0,.slice none 0 0,.int .i64 0,.slice none 0 0,.int .i64 0,.slice none 0 0,.slice none 0 0,.slice none 0 0,.int .i64 0,.slice none 0 0],true⟩),
 (183,⟨.struct [(0,87,5),(5,33,1),(6,22,1),(7,150,1),(8,3,1),(9,77,1)],10,176,[.int .i64 0,.slice none 0 0,.int .i64 0,.slice none 0 0,.int .i64 0,.slice none 0 0,.slice none 0 0,.slice none 0 0,.int .i64 0,.slice none 0 0],true⟩),
 (189,⟨.slice 191,1,24,[.slice none 0 0],false⟩),
 (191,⟨.ptr 193,1,8,[.pointer none],false⟩),
 (192,⟨.struct [(0,22,1),(1,22,1)],2,48,[.slice none 0 0,.slice none 0 0],true⟩),
 (193,⟨.struct [(0,22,1),(1,22,1)],2,48,[.slice none 0 0,.slice none 0 0],true⟩),
 (197,⟨.ptr 148,1,8,[.pointer none],false⟩),
 (214,⟨.ptr 216,1,8,[.pointer none],false⟩),
 (215,⟨.struct [(0,27,1),(1,171,1)],2,32,[.slice none 0 0,.map none],true⟩),
 (216,⟨.struct [(0,27,1),(1,171,1)],2,32,[.slice none 0 0,.map none],true⟩),
 (240,⟨.slice 309,1,24,[.slice none 0 0],false⟩),
 (244,⟨.slice 32,1,24,[.slice none 0 0],false⟩),
 (248,⟨.slice 85,1,24,[.slice none 0 0],false⟩),
 (253,⟨.int .i64,1,8,[.int .i64 0],false⟩),
 (261,⟨.int .u64,1,8,[.int .u64 0],false⟩),
 (273,⟨.int .u64,1,8,[.int .u64 0],false⟩),
 (277,⟨.ptr 3,1,8,[.pointer none],false⟩),
 (284,⟨.ptr 286,1,8,[.pointer none],false⟩),
 (285,⟨.struct [(0,26,3),(3,33,1),(4,240,1)],5,120,[.slice none 0 0,.slice none 0 0,.slice none 0 0,.slice none 0 0,.slice none 0 0],true⟩),
 (286,⟨.struct [(0,26,3),(3,33,1),(4,240,1)],5,120,[.slice none 0 0,.slice none 0 0,.slice none 0 0,.slice none 0 0,.slice none 0 0],true⟩),
 (288,⟨.ptr 273,1,8,[.pointer none],false⟩),
 (292,⟨.slice 296,1,24,[.slice none 0 0],false⟩),
 (295,⟨.struct [(0,3,1),(1,3,1),(2,9,1)],3,32,[.int .i64 0,.int .i64 0,.string ⟨#[]⟩],true⟩),
 (296,⟨.struct [(0,3,1),(1,3,1),(2,9,1)],3,32,[.int .i64 0,.int .i64 0,.string ⟨#[]⟩],true⟩),
 (301,⟨.ptr 303,1,8,[.pointer none],false⟩),
 (302,⟨.struct [(0,9,1),(1,3,1)],2,24,[.string ⟨#[]⟩,.int .i64 0],true⟩),
 (303,⟨.struct [(0,9,1),(1,3,1)],2,24,[.string ⟨#[]⟩,.int .i64 0],true⟩),
 (308,⟨.struct [(0,95,2),(2,3,1),(3,22,1)],4,64,[.int .i64 0,.slice none 0 0,.int .i64 0,.slice none 0 0],true⟩),
 (309,⟨.struct [(0,95,2),(2,3,1),(3,22,1)],4,64,[.int .i64 0,.slice none 0 0,.int .i64 0,.slice none 0 0],true⟩),
 (319,⟨.slice 33,1,24,[.slice none 0 0],false⟩),
 (322,⟨.struct [(0,17,1),(1,17,1),(2,17,1),(3,9,1)],4,40,[.pointer none,.pointer none,.pointer none,.string ⟨#[]⟩],false⟩),
 (323,⟨.struct [(0,17,1),(1,17,1),(2,17,1),(3,9,1)],4,40,[.pointer none,.pointer none,.pointer none,.string ⟨#[]⟩],false⟩),
 (325,⟨.struct [(0,324,0)],0,0,[],false⟩),
 (326,⟨.struct [(0,324,0)],0,0,[],false⟩),
 (328,⟨.int .u8,1,1,[.int .u8 0],false⟩),
 (329,⟨.int .u8,1,1,[.int .u8 0],false⟩),
 (331,⟨.ptr 5,1,8,[.pointer none],false⟩),
 (332,⟨.int .i32,1,4,[.int .i32 0],false⟩),
 (333,⟨.int .i32,1,4,[.int .i32 0],false⟩),
 (334,⟨.struct [(0,12,1),(1,12,1),(2,174,1),(3,328,1),(4,5,1),(5,5,1),(6,329,1),(7,330,1),(8,331,1),(9,332,1),(10,333,1)],11,48,[.int .u64 0,.int .u64 0,.int .u32 0,.int .u8 0,.int .u8 0,.int .u8 0,.int .u8 0,.nilFunc,.pointer none,.int .i32 0,.int .i32 0],false⟩),
 (335,⟨.struct [(0,12,1),(1,12,1),(2,174,1),(3,328,1),(4,5,1),(5,5,1),(6,329,1),(7,330,1),(8,331,1),(9,332,1),(10,333,1)],11,48,[.int .u64 0,.int .u64 0,.int .u32 0,.int .u8 0,.int .u8 0,.int .u8 0,.int .u8 0,.nilFunc,.pointer none,.int .i32 0,.int .i32 0],false⟩)]
theorem tab_ok:TabOk Tryz.prog tab:=by
 unfold TabOk
 kernel_rfl
end Go.Proofs.YtapciiffpnociabGreat
namespace Go.Proofs.YtapciiffpnociabGreat
open Go Go.RowKit
theorem str_beq (s u:ByteArray):(s.toList == u.toList)=decide (s=u):=by
 rw [ByteArray.toList_eq,ByteArray.toList_eq,Bool.eq_iff_iff]
 simp only [beq_iff_eq,decide_eq_true_eq]
 exact⟨fun h=>by cases s;cases u;congr 1;exact Array.toList_inj.1 h,fun h=>by rw [h]⟩
def Ctx.sh (Γ:Ctx) (t:TypeId):Sh:=(tiGet Γ.τ t).sh
def Ctx.cells (Γ:Ctx) (t:TypeId):Nat:=(tiGet Γ.τ t).cells
theorem Ctx.ti {Γ:Ctx} {t:TypeId} (h:Γ.sh t≠.other):tiOf Γ.P t=some (tiGet Γ.τ t):=tiGet_ok Γ.τok t h
theorem ti_parts {P:Program} {t:TypeId} {i:TI} (h:tiOf P t=some i):∃ u inf z,P.underlying t=some u∧P.info? t=some inf∧inf.zero=some z∧i.sh=shOf P u∧inf.size=i.cells∧inf.bytes=i.bytes∧z.cells.toList=i.zero∧i.eqs=flatEqB P t:=by
 unfold tiOf at h
 split at h
 ·rename_i u inf h1 h2
  split at h
  ·rename_i z hz
   cases h
   exact⟨u,inf,z,h1,h2,hz,rfl,rfl,rfl,rfl,rfl⟩
  ·cases h
 ·cases h
theorem Ctx.str {Γ:Ctx} {t:TypeId} (h:Γ.sh t = .str):Γ.P.underlying t=some .string:=by
 obtain⟨u,inf,z,h1,_,_,h4,_⟩:=ti_parts (Γ.ti (by rw [h];intro h;cases h))
 rw [h1]
 have:shOf Γ.P u = .str:=h4▸h
 cases u <;> simp [shOf] at this ⊢
theorem Ctx.slice {Γ:Ctx} {t e:TypeId} (h:Γ.sh t = .slice e):Γ.P.underlying t=some (.slice e):=by
 obtain⟨u,inf,z,h1,_,_,h4,_⟩:=ti_parts (Γ.ti (by rw [h];intro h;cases h))
 rw [h1]
 have:shOf Γ.P u = .slice e:=h4▸h
 cases u <;> simp [shOf] at this ⊢
 exact this
theorem Ctx.info {Γ:Ctx} {t:TypeId} (h:Γ.sh t≠.other):∃ inf z,Γ.P.info? t=some inf∧inf.zero=some z∧inf.size=Γ.cells t∧inf.bytes=(tiGet Γ.τ t).bytes∧z.cells.toList=(tiGet Γ.τ t).zero:=by
 obtain⟨u,inf,z,h1,h2,h3,h4,h5,h6,h7,_⟩:=ti_parts (Γ.ti h)
 exact⟨inf,z,h2,h3,h5,h6,h7⟩
theorem Ctx.struct {Γ:Ctx} {t:TypeId} {l} (h:Γ.sh t = .struct l):∃ fs,Γ.P.underlying t=some (.struct fs)∧l=fs.toList.map fun f=>(f.offset,f.type,((Γ.P.info? f.type).map (·.size)).getD 0):=by
 obtain⟨u,inf,z,h1,_,_,h4,_⟩:=ti_parts (Γ.ti (by rw [h];intro h;cases h))
 have:shOf Γ.P u = .struct l:=h4▸h
 cases u <;> simp [shOf] at this
 rename_i fs
 exact⟨fs,h1,this.symm⟩
def Sh.known:Sh→Bool|.other=>false|_=>true
theorem Sh.known_ne {s:Sh} (h:s.known=true):s≠.other:=by intro e;subst e;cases h
def Sh.isAgg:Sh→Bool|.struct _=>true|_=>false
theorem Ctx.agg {Γ:Ctx} {t:TypeId} (h:Γ.sh t≠.other):∀ w,(Go.isAgg t).run Γ.P w = .ok (Γ.sh t).isAgg w:=by
 intro w
 obtain⟨u,inf,z,h1,_,_,h4,_⟩:=ti_parts (Γ.ti h)
 have h5:shOf Γ.P u=Γ.sh t:=h4.symm
 rw [← h5] at h ⊢
 cases u <;> simp [Go.isAgg,run_underlying h1,shOf,Sh.isAgg] at h ⊢
def cOkB:Value→Bool
 | .int k n=>(Lit.int k n).wf
 | .string s=>Nat.ble s.size maxLen
 | _=>true
def opOkB:Operand→Bool
 | .const v=>cOkB v
 | _=>true
theorem opOkB_spec {x:Operand} (h:opOkB x=true):opOk x:=by
 cases x with
 | const v =>
  cases v with
  | int k n=>exact h
  | string s=>exact Nat.le_of_ble_eq_true h
  | _=>trivial
 | _=>trivial
section
variable {Γ : Ctx} {k : Nat → Prop} {L : Sl} {H : Hp} {K : Next'} {ops : List Oper} {rest : List Oper} {a : Act} {w : World} {e : Env}
theorem evI (m:Models Γ k L H e a w) {x:Operand} {i:IntKind} {n:Int} (h:opSV L x = .d (.int i n)):a.eval x = .int i n:=by
 cases x with
 | tmp t =>
  have hr:=m.slot t
  simp only [opSV] at h
  rw [h] at hr
  show a.tmps.getD t undef=_
  generalize a.tmps.getD t undef=v at hr
  cases hr;rfl
 | const v =>
  simp only [opSV] at h
  unfold cSV at h
  split at h <;> cases h
  rfl
 | global g=>cases h
 | func f=>cases h
theorem evIw (m:Models Γ k L H e a w) {x:Operand} {i:IntKind} {n:Int} (hx:opOkB x=true) (h:opSV L x = .d (.int i n)):(Lit.int i n).wf=true:=by
 have hr:=m.op x (opOkB_spec hx)
 rw [h] at hr
 generalize a.eval x=v at hr
 cases hr;assumption
theorem evB (m:Models Γ k L H e a w) {x:Operand} {b:Bool} (h:opSV L x = .d (.bool b)):a.eval x = .bool b:=by
 cases x with
 | tmp t =>
  have hr:=m.slot t
  simp only [opSV] at h
  rw [h] at hr
  show a.tmps.getD t undef=_
  generalize a.tmps.getD t undef=v at hr
  cases hr;rfl
 | const v =>
  simp only [opSV] at h
  unfold cSV at h
  split at h <;> cases h
  rfl
 | global g=>cases h
 | func f=>cases h
theorem evS (m:Models Γ k L H e a w) {x:Operand} {s:ByteArray} (h:opSV L x = .d (.str s)):a.eval x = .string s:=by
 cases x with
 | tmp t =>
  have hr:=m.slot t
  simp only [opSV] at h
  rw [h] at hr
  show a.tmps.getD t undef=_
  generalize a.tmps.getD t undef=v at hr
  cases hr;rfl
 | const v =>
  simp only [opSV] at h
  unfold cSV at h
  split at h <;> cases h
  rfl
 | global g=>cases h
 | func f=>cases h
def Ev (Γ:Ctx) (k:Nat→Prop) (L:Sl) (H:Hp) (op:Op) (ty:TypeId) (s:SV):Prop :=
 ∀ e a w,Models Γ k L H e a w→∃ v,(∀ (dst:Option Tmp) pos after guard w',Below w.heap.size w w'→(execOp a.eval ⟨dst,op,ty,pos,after,guard⟩).run Γ.P w' = .ok (.value v) w')∧Rel (Γ.X e H) e w s v
def OpOk (Γ:Ctx) (o:Oper) (k:Nat→Prop) (L:Sl) (H:Hp) (k':Nat→Prop) (L':Sl) (H':Hp):Prop :=
 ∀ e a w Q,Models Γ k L H e a w→o.wp Γ.P a w (fun a' w'=>∃ e',Models Γ k' L' H' e' a' w') Q
theorem op_ev {d:Nat} {op:Op} {ty:TypeId} {pos:String} {af:Array Edge} {g:Option (Nat × Bool)} {s:SV} (h:Ev Γ k L H op ty s) (hd:Nat.blt d Γ.n=true) :
  OpOk Γ ⟨some d,op,ty,pos,af,g⟩ k L H k ((d,s)::L) H:=by
 intro e a w Q m
 obtain⟨v,h1,h2⟩:=h e a w m
 unfold Oper.wp
 rw [h1 (some d) pos af g w (Below.refl _ _)]
 exact⟨e,m.put (Nat.le_of_ble_eq_true hd) h2⟩
def nthOp:List Oper→Nat→Option Oper
 | [],_=>none
 | o::_,0=>some o
 | _::l,n + 1=>nthOp l n
theorem nthOp_eq:∀ (l:List Oper) (n:Nat),nthOp l n=l[n]?
 | [],_=>by simp [nthOp]
 | o::_,0=>by simp [nthOp]
 | _::l,n + 1=>by simp [nthOp,nthOp_eq l n]
def wantedSV (ops:List Oper) (L:Sl):Option (Nat × Bool)→Option Bool
 | none=>some true
 | some (j,want)=>match nthOp ops j with
  | some o=>match o.dst with
   | some t=>match L.get t with
    | .d (.bool true)=>some want
    | .d (.bool false)=>some (!want)
    | .tup []=>some false
    | _=>none
   | none=>none
  | none=>none
theorem wantedSV_spec {o:Oper} {b:Bool} (m:Models Γ k L H e a w) (h:wantedSV ops L o.guard=some b):Region.wanted o (yielded ops.toArray a.tmps)=b:=by
 unfold Region.wanted
 cases hg:o.guard with
 | none=>rw [hg] at h;simpa [wantedSV] using h
 | some q =>
  obtain⟨j,want⟩:=q
  rw [hg] at h
  simp only [wantedSV,nthOp_eq] at h
  cases ho:ops[j]? with
  | none=>simp [ho] at h
  | some oj =>
   simp only [ho] at h
   cases hd:oj.dst with
   | none=>simp [hd] at h
   | some t =>
    simp only [hd] at h
    have hr:=m.slot t
    have hy:∀ b',L.get t = .d (.bool b')→yielded ops.toArray a.tmps j=some b':=by
     intro b' hb'
     rw [hb'] at hr
     generalize hv:a.tmps.getD t undef=v at hr
     cases hr
     have hv':a.tmps[t]?.getD undef=Value.bool b':=by rw [← Array.getD_eq_getD_getElem?];exact hv
     cases ht:a.tmps[t]? with
     | none=>rw [ht] at hv';cases hv'
     | some u=>rw [ht] at hv';simp only [Option.getD_some] at hv';subst hv';simp [yielded,ho,hd,ht]
    cases hs:L.get t with
    | tup ss =>
     cases ss with
     | cons _ _=>simp [hs] at h
     | nil =>
      simp only [hs,Option.some.injEq] at h
      subst h
      rw [hs] at hr
      obtain⟨vs,hv,hl⟩:=hr
      cases vs with
      | cons _ _=>exact hl.elim
      | nil =>
       have hn:yielded ops.toArray a.tmps j=none:=by
        have hv':a.tmps[t]?.getD undef=Value.tuple #[]:=by rw [← Array.getD_eq_getD_getElem?];exact hv
        cases ht:a.tmps[t]? with
        | none=>simp [yielded,ho,hd,ht]
        | some u=>rw [ht] at hv';simp only [Option.getD_some] at hv';subst hv';simp [yielded,ho,hd,ht]
       show (yielded ops.toArray a.tmps j == some want)=false
       rw [hn];rfl
    | d x =>
     cases x with
     | bool b' =>
      simp only [hs] at h
      simp only [hy b' hs]
      cases b' <;> cases want <;> simp_all
     | _=>simp [hs] at h
    | _=>simp [hs] at h
end
section
variable {Γ : Ctx} {k : Nat} {L : Sl} {H : Hp} {K : Next'} {ops : List Oper} {rest : List Oper} {a : Act} {w : World} {e : Env}
theorem dl_run {op:Op} {ty:TypeId} {pos:String} {af:Array Edge} {g:Option (Nat × Bool)} {d:Option Nat} (hw:wantedSV ops L g=some true)
  (h:∀ e a w,Models Γ k L H e a w→(Oper.mk d op ty pos af g).wp Γ.P a w (fun a' w'=>∃ (k':Nat) (L':Sl) (H':Hp) (e':Env),Models Γ k' L' H' e' a' w'∧DL Γ ops rest K k' L' H') (lift Γ (onNormal K))) :
  DL Γ ops (⟨d,op,ty,pos,af,g⟩::rest) K k L H:=by
 intro e a w m
 refine wpList_step fun K' hK'=>?_
 rw [if_pos (wantedSV_spec m hw)]
 refine Oper.wp_mono ?_ (h e a w m)
 rintro a' w' ⟨k',L',H',e',m',hd⟩
 exact hK' _ _ (hd e' a' w' m')
theorem dl_skip {op:Op} {ty:TypeId} {pos:String} {af:Array Edge} {g:Option (Nat × Bool)} {d:Nat} (hw:wantedSV ops L g=some false) (hd:Nat.blt d Γ.n=true)
  (h:DL Γ ops rest K k ((d,.tup [])::L) H):DL Γ ops (⟨some d,op,ty,pos,af,g⟩::rest) K k L H:=by
 intro e a w m
 refine wpList_step fun K' hK'=>?_
 rw [if_neg (by rw [wantedSV_spec m hw];exact Bool.false_ne_true)]
 exact hK' _ _ (h e _ w (m.put (s:=.tup []) (Nat.le_of_ble_eq_true hd) ⟨[],rfl,trivial⟩))
theorem dl_op {op:Op} {ty:TypeId} {pos:String} {af:Array Edge} {g:Option (Nat × Bool)} {d:Option Nat} {k':Nat} {L':Sl} {H':Hp} (hw:wantedSV ops L g=some true)
  (h:OpOk Γ ⟨d,op,ty,pos,af,g⟩ k L H k' L' H') (hk:DL Γ ops rest K k' L' H'):DL Γ ops (⟨d,op,ty,pos,af,g⟩::rest) K k L H:=by
 refine dl_run hw fun e a w m=>Oper.wp_mono ?_ (h e a w _ m)
 rintro a' w' ⟨e',m'⟩
 exact⟨k',L',H',e',m',hk⟩
theorem dl_ev {d:Nat} {op:Op} {ty:TypeId} {pos:String} {af:Array Edge} {g:Option (Nat × Bool)} {s:SV} (hw:wantedSV ops L g=some true) (h:Ev Γ k L H op ty s) (hd:Nat.blt d Γ.n=true)
  (hk:DL Γ ops rest K k ((d,s)::L) H):DL Γ ops (⟨some d,op,ty,pos,af,g⟩::rest) K k L H:=by
 refine dl_run hw fun e a w m=>?_
 obtain⟨v,h1,h2⟩:=h e a w m
 unfold Oper.wp
 rw [h1 (some d) pos af g w (Below.refl _ _)]
 exact⟨k,_,H,e,m.put (Nat.le_of_ble_eq_true hd) h2,hk⟩
theorem dl_split {t:Nat} {b:Bool} (hb:L.get t = .d (.bool b)) (ht:b=true→DL Γ ops rest K k ((t,.d (.bool true))::L) H) (hf:b=false→DL Γ ops rest K k ((t,.d (.bool false))::L) H) :
  DL Γ ops rest K k L H:=by
 intro e a w m
 have key:∀ b',b=b'→Models Γ k ((t,.d (.bool b'))::L) H e a w:=fun b' hb' =>
  ⟨m.toHeap,m.defers,m.len,fun t'=>by
    rw [Sl.get_cons]
    split
    ·rename_i h;subst h;rw [← hb',← hb];exact m.slot t
    ·exact m.slot t'⟩
 cases b with
 | true=>exact ht rfl e a w (key true rfl)
 | false=>exact hf rfl e a w (key false rfl)
end
section
variable {Γ : Ctx} {k : Nat → Prop} {L : Sl} {H : Hp} {K : Next'} {ops : List Oper} {rest : List Oper} {a : Act} {w : World} {e : Env}
theorem ev_move {x:Operand} {ty:TypeId} (hx:opOkB x=true):Ev Γ k L H (.move x) ty (opSV L x):=by
 intro e a w m
 exact⟨a.eval x,fun _ _ _ _ w' _=>by simp [execOp],m.op x (opOkB_spec hx)⟩
theorem ev_assign {x:Operand} {ty:TypeId} (hx:opOkB x=true):Ev Γ k L H (.assign x) ty (opSV L x):=by
 intro e a w m
 exact⟨a.eval x,fun _ _ _ _ w' _=>by simp [execOp],m.op x (opOkB_spec hx)⟩
theorem ev_bin_int {op:BinOp} {t t' ty:TypeId} {x y:Operand} {i:IntKind} {n m':Int} {s:SV} {v:Value} (hx:opSV L x = .d (.int i n)) (hy:opSV L y = .d (.int i m'))
  (hr:∀ P w,(binOp op t (.int i n) (.int i m')).run P w = .ok v w) (hv:∀ X e w,Rel X e w s v):Ev Γ k L H (.binOp op t x y t') ty s:=by
 intro e a w m
 refine⟨v,fun _ _ _ _ w' _=>?_,hv _ _ _⟩
 simp only [execOp,evI m hx,evI m hy]
 have he:eqGuard op t x y (Value.int i n) (Value.int i m')=pure ():=by unfold eqGuard;split <;> rfl
 simp [he,hr]
section
variable {t t' ty : TypeId} {x y : Operand} {i : IntKind} {n m' : Int}
theorem ev_lss (hx:opSV L x = .d (.int i n)) (hy:opSV L y = .d (.int i m')):Ev Γ k L H (.binOp .lss t x y t') ty (.d (.bool (decide (n < m')))) :=
 ev_bin_int hx hy (fun P w=>by simp [binOp,Op.intCmp]) fun _ _ _=>.bool
theorem ev_leq (hx:opSV L x = .d (.int i n)) (hy:opSV L y = .d (.int i m')):Ev Γ k L H (.binOp .leq t x y t') ty (.d (.bool (decide (n≤m')))) :=
 ev_bin_int hx hy (fun P w=>by simp [binOp,Op.intCmp]) fun _ _ _=>.bool
theorem ev_gtr (hx:opSV L x = .d (.int i n)) (hy:opSV L y = .d (.int i m')):Ev Γ k L H (.binOp .gtr t x y t') ty (.d (.bool (decide (m' < n)))) :=
 ev_bin_int hx hy (fun P w=>by simp [binOp,Op.intCmp]) fun _ _ _=>.bool
theorem ev_geq (hx:opSV L x = .d (.int i n)) (hy:opSV L y = .d (.int i m')):Ev Γ k L H (.binOp .geq t x y t') ty (.d (.bool (decide (m'≤n)))) :=
 ev_bin_int hx hy (fun P w=>by simp [binOp,Op.intCmp]) fun _ _ _=>.bool
theorem ev_eql (hx:opSV L x = .d (.int i n)) (hy:opSV L y = .d (.int i m')):Ev Γ k L H (.binOp .eql t x y t') ty (.d (.bool (decide (n=m')))) :=
 ev_bin_int hx hy (fun P w=>by simp [binOp,Op.intCmp];rfl) fun _ _ _=>.bool
theorem ev_neq (hx:opSV L x = .d (.int i n)) (hy:opSV L y = .d (.int i m')):Ev Γ k L H (.binOp .neq t x y t') ty (.d (.bool (decide (n≠m')))) :=
 ev_bin_int hx hy (fun P w=>by simp [binOp,Op.intCmp];rfl) fun _ _ _=>.bool
theorem ev_add (hx:opSV L x = .d (.int .i64 n)) (hy:opSV L y = .d (.int .i64 m')) (hw:-9223372036854775808≤n + m'∧n + m'≤9223372036854775807):Ev Γ k L H (.binOp .add t x y t') ty (.d (.int .i64 (n + m'))) :=
 ev_bin_int hx hy (fun P w=>by simp [binOp,Op.intArith];rfl) fun _ _ _=>by rw [IntWalk.i64_in _ hw];exact .int (WalkArith.wf_i64 hw)
end
section
variable {t t' ty : TypeId} {x y : Operand} {i : IntKind} {n m' : Int}
theorem ev_not {b:Bool} (hx:opSV L x = .d (.bool b)):Ev Γ k L H (.unOp .not t x) ty (.d (.bool (!b))):=by
 intro e a w m
 exact⟨.bool (!b),fun _ _ _ _ w' _=>by simp [execOp,evB m hx,Op.unary],.bool⟩
theorem ev_pick {c:Operand} {b:Bool} (hc:opSV L c = .d (.bool b)) (hx:b=true→opOkB x=true) (hy:b=false→opOkB y=true) :
  Ev Γ k L H (.pick c x y) ty (match b with|true=>opSV L x|false=>opSV L y):=by
 intro e a w m
 cases b with
 | true=>exact⟨a.eval x,fun _ _ _ _ w' _=>by simp [execOp,evB m hc,asBool],m.op x (opOkB_spec (hx rfl))⟩
 | false=>exact⟨a.eval y,fun _ _ _ _ w' _=>by simp [execOp,evB m hc,asBool],m.op y (opOkB_spec (hy rfl))⟩
theorem ev_eqs {s u:ByteArray} (hx:opSV L x = .d (.str s)) (hy:opSV L y = .d (.str u)):Ev Γ k L H (.binOp .eql t x y t') ty (.d (.bool (decide (s=u)))):=by
 intro e a w m
 refine⟨_,fun _ _ _ _ w' _=>?_,.bool⟩
 simp only [execOp,evS m hx,evS m hy]
 simp [eqGuard,binOp,Op.stringOp,str_beq]
theorem ev_nes {s u:ByteArray} (hx:opSV L x = .d (.str s)) (hy:opSV L y = .d (.str u)):Ev Γ k L H (.binOp .neq t x y t') ty (.d (.bool (decide (s≠u)))):=by
 intro e a w m
 refine⟨_,fun _ _ _ _ w' _=>?_,.bool⟩
 simp only [execOp,evS m hx,evS m hy]
 simp [eqGuard,binOp,Op.stringOp,str_beq]
theorem ev_len_str {s:ByteArray} (ht:Γ.sh t = .str) (hx:opSV L x = .d (.str s)) (hxo:opOkB x=true):Ev Γ k L H (.call { callee:=.builtin .len,args:=#[x],argTypes:=#[t] }) ty (.d (.int .i64 s.size)):=by
 intro e a w m
 have hs:s.size≤maxLen:=by
  have hr:=m.op x (opOkB_spec hxo)
  rw [hx] at hr
  generalize a.eval x=v at hr
  cases hr;assumption
 refine⟨.int .i64 s.size,fun _ _ _ _ w' _=>?_,.int (WalkArith.wf_i64 (by unfold maxLen at hs;omega))⟩
 simp [execOp,resolve,invoke,builtin,evS m hx,Builtin.len_,goInt,run_underlying (Ctx.str ht)]
theorem ev_index_str {s:ByteArray} {n:Int} (ht:Γ.sh t = .str) (hx:opSV L x = .d (.str s)) (hy:opSV L y = .d (.int .i64 n)) (h0:0≤n) (h1:n.toNat < s.size) :
  Ev Γ k L H (.index t x y) ty (.d (.int .u8 (s[n.toNat]'h1).toNat)):=by
 intro e a w m
 refine⟨.int .u8 (s[n.toNat]'h1).toNat,fun _ _ _ _ w' _=>?_,.int (WalkArith.wf_u8 (by have:=(s[n.toNat]'h1).toNat_lt;omega))⟩
 simp [execOp,Instr.index,evS m hx,evI m hy,asIntOf,run_underlying (Ctx.str ht),h0,h1]
end
end
end Go.Proofs.YtapciiffpnociabGreat
namespace Go.Proofs.YtapciiffpnociabGreat
open Go Go.RowKit
section
variable {Γ : Ctx} {k : Nat → Prop} {L : Sl} {H : Hp} {K : Next'} {ops : List Oper} {rest : List Oper} {a : Act} {w : World} {e : Env} {t t' ty : TypeId} {x y : Operand}
theorem Addr.add_at (b off j:Nat):(⟨b,off,none⟩:Addr).add j=⟨b,off + j,none⟩:=by
 unfold Go.Addr.add
 split
 ·rename_i h;subst h;rfl
 ·rfl
theorem evT (m:Models Γ k L H e a w) {x:Operand} {s:SV} (h:opSV L x=s) (hs:∀ v,cSV v≠s):Rel (Γ.X e H) e w s (a.eval x):=by
 cases x with
 | tmp t=>rw [← h];exact m.slot t
 | const v=>exact absurd h (hs v)
 | global g=>rw [← h];trivial
 | func f=>rw [← h];exact⟨[],rfl,trivial⟩
theorem cSV_slice (v:Value) (es:Nat) (xs:List (List D)):cSV v≠.d (.slice es xs):=by unfold cSV;split <;> simp
theorem cSV_pd (v:Value) (ds:List D):cSV v≠.pd ds:=by unfold cSV;split <;> simp
theorem cSV_loc (v:Value) (i o:Nat):cSV v≠.loc i o:=by unfold cSV;split <;> simp
theorem cSV_row (v:Value) (i:Nat):cSV v≠.row i:=by unfold cSV;split <;> simp
theorem cSV_prow (v:Value) (i j s o:Nat):cSV v≠.prow i j s o:=by unfold cSV;split <;> simp
theorem cSV_agg (v:Value) (ss:List SV):cSV v≠.agg ss:=by unfold cSV;split <;> simp
theorem cSV_tup (v:Value) (ss:List SV):cSV v≠.tup ss:=by unfold cSV;split <;> simp
theorem RepC.slice_inv {X w v es xs} (h:RepC X w v (.slice es xs)):∃ ao cap,v = .slice ao xs.length cap∧xs.length≤cap∧cap≤maxLen∧(ao=none→xs=[]):=by
 cases h with
 | nil=>exact⟨none,0,rfl,by simp,Nat.zero_le _,fun _=>rfl⟩
 | zero=>exact⟨_,0,rfl,by simp,Nat.zero_le _,fun _=>rfl⟩
 | slice c hn hc hm=>subst hn;exact⟨_,_,rfl,hc,hm,fun h=>by cases h⟩
theorem ev_len_d {es:Nat} {xs:List (List D)} (ht:Γ.sh t = .slice t') (hx:opSV L x = .d (.slice es xs)):Ev Γ k L H (.call { callee:=.builtin .len,args:=#[x],argTypes:=#[t] }) ty (.d (.int .i64 xs.length)):=by
 intro e a w m
 obtain⟨ao,cap,hv,h1,h2,_⟩:=(evT m hx (cSV_slice · _ _)).slice_inv
 refine⟨.int .i64 xs.length,fun _ _ _ _ w' _=>?_,.int (WalkArith.wf_i64 (by unfold maxLen at h2;omega))⟩
 simp [execOp,resolve,invoke,builtin,hv,Builtin.len_,goInt,run_underlying (Ctx.slice ht)]
theorem ev_len_nils (ht:Γ.sh t = .slice t') (hx:opSV L x = .nils):Ev Γ k L H (.call { callee:=.builtin .len,args:=#[x],argTypes:=#[t] }) ty (.d (.int .i64 0)):=by
 intro e a w m
 have hv:a.eval x = .slice none 0 0:=by
  have hok:opOk x:=by
   cases x with
   | const v=>simp only [opSV] at hx;unfold cSV at hx;split at hx <;> simp_all [opOk,cOk]
   | _=>trivial
  have:=m.op x hok
  rw [hx] at this;exact this
 refine⟨.int .i64 0,fun _ _ _ _ w' _=>?_,.int (by decide)⟩
 simp [execOp,resolve,invoke,builtin,hv,Builtin.len_,goInt,run_underlying (Ctx.slice ht)]
theorem Hp.mem_of {id:Nat} {b:HB} (h:Hp.get H id=some b):(id,b)∈H:=Hp.get_mem H id b h
theorem ev_len_row {id es:Nat} {xs:List (List D)} {te:TypeId} (ht:Γ.sh t = .slice t') (hx:opSV L x = .row id) (hH:Hp.get H id=some (.row te es xs)) :
  Ev Γ k L H (.call { callee:=.builtin .len,args:=#[x],argTypes:=#[t] }) ty (.d (.int .i64 xs.length)):=by
 intro e a w m
 have hv:=(evT m hx (cSV_row · _)).2.1
 obtain⟨vs,ho,_⟩:=(m.heap _ (Hp.mem_of hH)).2
 have hs:∃ ao cap,e.η id = .slice ao xs.length cap∧xs.length≤maxLen:=by
  rcases ho.2 with ⟨h1,h2⟩|⟨g,cap,cur,h1,_,_,h3,h4,_⟩
  ·exact⟨none,0,by rw [h1,h2],by rw [h2];exact Nat.zero_le _⟩
  ·exact⟨_,_,h1,Nat.le_trans h3 h4⟩
 obtain⟨ao,cap,hs,hm⟩:=hs
 rw [hs] at hv
 refine⟨.int .i64 xs.length,fun _ _ _ _ w' _=>?_,.int (WalkArith.wf_i64 (by unfold maxLen at hm;omega))⟩
 simp [execOp,resolve,invoke,builtin,hv,Builtin.len_,goInt,run_underlying (Ctx.slice ht)]
theorem RepC.at {X w v es} {xs:List (List D)} (h:RepC X w v (.slice es xs)) (i:Nat) (hi:i < xs.length):∃ b off n cap,v = .slice (some ⟨b,off,none⟩) n cap∧n=xs.length∧¬ X b∧b < w.heap.size ∧
  ∀ j (hj:j < xs[i].length),∃ u,w.cell? ⟨b,off + i * es + j,none⟩=some u∧RepC X w u xs[i][j]:=by
 cases h with
 | nil=>simp at hi
 | zero=>simp at hi
 | slice c hn hc hm hX hb he hcell hrep=>exact⟨_,_,_,_,rfl,hn,hX,hb,fun j hj=>⟨_,hcell i hi j hj,hrep i hi j hj⟩⟩
theorem run_sizeOf {inf:TypeInfo} (h:Γ.P.info? t=some inf) (w:World):(sizeOf t).run Γ.P w = .ok inf.size w:=by
 simp [sizeOf,typeInfo,h]
theorem ev_index_d {es:Nat} {xs:List (List D)} {n:Int} (ht:Γ.sh t = .slice t') (hc:Γ.cells t' = es) (hkn:(Γ.sh t').known=true) (hx:opSV L x = .d (.slice es xs)) (hy:opSV L y = .d (.int .i64 n))
  (h0:0≤n) (h1:n.toNat < xs.length):Ev Γ k L H (.indexAddr t x y) ty (.pd (xs[n.toNat]'h1)):=by
 intro e a w m
 have ho:=Sh.known_ne hkn
 obtain⟨b,off,n',cap,hv,hn,hX,hb,hcell⟩:=(evT m hx (cSV_slice · _ _)).at _ h1
 obtain⟨inf,z,hi,_,hs,_⟩:=Ctx.info ho
 refine⟨.pointer (some ⟨b,off + n.toNat * es,none⟩),fun _ _ _ _ w' _=>?_,⟨b,_,rfl,hb,hX,hcell⟩⟩
 have hlt:n < (n':Int):=by omega
 simp [execOp,Instr.indexAt,hv,evI m hy,asIntOf,run_underlying (Ctx.slice ht),h0,hlt,run_sizeOf hi,hs,hc,Addr.add_at]
theorem ev_fieldAddr {s:TypeId} {f off fty sz:Nat} {l} {a0 a1:SV} (hs:Γ.sh s = .struct l) (hf:l[f]? = some (off,fty,sz)) (hz:Nat.beq sz 0=false)
  (hx:opSV L x=a0) (ha:(∃ ds,a0 = .pd ds∧a1 = .pd (ds.drop off))∨(∃ i o,a0 = .loc i o∧a1 = .loc i (o + off))∨(∃ i j es o,a0 = .prow i j es o∧a1 = .prow i j es (o + off))) :
  Ev Γ k L H (.fieldAddr s x f) ty a1:=by
 obtain⟨fs,hu,hl⟩:=Ctx.struct hs
 subst hl
 rw [List.getElem?_map] at hf
 cases hff:fs.toList[f]? with
 | none=>rw [hff] at hf;cases hf
 | some fd =>
  rw [hff] at hf
  simp only [Option.map_some,Option.some.injEq,Prod.mk.injEq] at hf
  obtain⟨h1,h2,h3⟩:=hf
  have hfa:fs[f]? = some fd:=by rw [← Array.getElem?_toList];exact hff
  have hinf:∃ inf,Γ.P.info? fd.type=some inf∧inf.size≠0:=by
   cases hi:Γ.P.info? fd.type with
   | none=>rw [hi] at h3;exact absurd h3.symm (Nat.ne_of_beq_eq_false hz)
   | some inf=>rw [hi] at h3;exact⟨inf,rfl,fun h=>Nat.ne_of_beq_eq_false hz (by rw [← h3,← h];rfl)⟩
  obtain⟨inf,hi,hne⟩:=hinf
  have run:∀ (b o:Nat) (A:Act) (dst:Option Tmp) pos after guard w',A.eval x = .pointer (some ⟨b,o,none⟩) →
    (execOp A.eval ⟨dst,.fieldAddr s x f,ty,pos,after,guard⟩).run Γ.P w' = .ok (.value (.pointer (some ⟨b,o + off,none⟩))) w':=by
   intro b o A dst pos after guard w' hA
   simp [execOp,Instr.fieldAt,hA,run_underlying hu,hfa,Instr.sureAddr,fieldPlace,run_sizeOf hi,hne,h1,Addr.add_at]
  intro e A w m
  rcases ha with ⟨ds,rfl,rfl⟩|⟨i,o,rfl,rfl⟩|⟨i,j,es,o,rfl,rfl⟩
  ·obtain⟨b,o,hv,hb,hX,hcell⟩:=evT m hx (cSV_pd · _)
   refine⟨_,fun dst pos after guard w' _=>run b o A dst pos after guard w' hv,⟨b,_,rfl,hb,hX,fun j hj=>?_⟩⟩
   have hj':off + j < ds.length:=by simp at hj;omega
   obtain⟨u,g1,g2⟩:=hcell (off + j) hj'
   exact⟨u,by rw [Nat.add_assoc];exact g1,by simpa using g2⟩
  ·obtain⟨hid,hv⟩:=evT m hx (cSV_loc · _ _)
   exact⟨_,fun dst pos after guard w' _=>run _ o A dst pos after guard w' hv,⟨hid,rfl⟩⟩
  ·obtain⟨hid,g,n,cap,h5,hv⟩:=evT m hx (cSV_prow · _ _ _ _)
   exact⟨_,fun dst pos after guard w' _=>run _ _ A dst pos after guard w' hv,⟨hid,g,n,cap,h5,by rw [Nat.add_assoc]⟩⟩
theorem ev_field_pd {s:TypeId} {f off fty sz:Nat} {l} {ds:List D} (hs:Γ.sh s = .struct l) (hf:l[f]? = some (off,fty,sz)) (hz:Nat.beq sz 0=false) (hx:opSV L x = .pd ds):Ev Γ k L H (.fieldAddr s x f) ty (.pd (ds.drop off)) :=
 ev_fieldAddr hs hf hz hx (.inl ⟨ds,rfl,rfl⟩)
theorem ev_field_loc {s:TypeId} {f off fty sz i o:Nat} {l} (hs:Γ.sh s = .struct l) (hf:l[f]? = some (off,fty,sz)) (hz:Nat.beq sz 0=false) (hx:opSV L x = .loc i o):Ev Γ k L H (.fieldAddr s x f) ty (.loc i (o + off)) :=
 ev_fieldAddr hs hf hz hx (.inr (.inl ⟨i,o,rfl,rfl⟩))
theorem ev_field_prow {s:TypeId} {f off fty sz i j es o:Nat} {l} (hs:Γ.sh s = .struct l) (hf:l[f]? = some (off,fty,sz)) (hz:Nat.beq sz 0=false) (hx:opSV L x = .prow i j es o):Ev Γ k L H (.fieldAddr s x f) ty (.prow i j es (o + off)) :=
 ev_fieldAddr hs hf hz hx (.inr (.inr ⟨i,j,es,o,rfl,rfl⟩))
theorem run_load1 (ho:Γ.sh t≠.other) (hg:(Γ.sh t).isAgg=false) {A:Act} {p:Addr} {v:Value} {w':World} (hA:A.eval x = .pointer (some p)) (hc:w'.cell? p=some v) (dst:Option Tmp) (pos) (after) (guard) :
  (execOp A.eval ⟨dst,.load t x,ty,pos,after,guard⟩).run Γ.P w' = .ok (.value v) w':=by
 simp [execOp,Instr.loadAt,hA,Instr.sureAddr,loadVar,Ctx.agg ho,hg,hc]
theorem cell_below {w w':World} (hb:Below w.heap.size w w') {p:Addr} {v:Value} (h:w.cell? p=some v):w'.cell? p=some v:=by
 rw [hb.cell (World.block_lt_of_cell? w p h)];exact h
theorem ev_load_pd {d0:D} {ds:List D} (hkn:(Γ.sh t).known=true) (hg:(Γ.sh t).isAgg=false) (hx:opSV L x = .pd (d0::ds)):Ev Γ k L H (.load t x) ty (.d d0):=by
 intro e a w m
 have ho:=Sh.known_ne hkn
 obtain⟨b,off,hv,hb,hX,hcell⟩:=evT m hx (cSV_pd · _)
 obtain⟨u,g1,g2⟩:=hcell 0 (by simp)
 exact⟨u,fun _ _ _ _ w' hw=>run_load1 ho hg hv (cell_below hw g1) _ _ _ _,g2⟩
theorem HRel.blk_cell {X e w} {id:Nat} {te:TypeId} {cs:List SV} (h:HRel X e w (id,.blk te cs)) {o:Nat} {s:SV} (hc:cs[o]? = some s):∃ v,w.cell? ⟨e.β id,o,none⟩=some v∧Rel X e w s v:=by
 obtain⟨vs,h1,h2,_⟩:=h
 obtain⟨v,g1,g2⟩:=RelL.get cs vs h2 o s hc
 exact⟨v,by rw [cell_of_row w _ o _ te (0,0) h1];simpa using g1,g2⟩
theorem ev_load_loc {i o:Nat} {te:TypeId} {cs:List SV} {s:SV} (hkn:(Γ.sh t).known=true) (hg:(Γ.sh t).isAgg=false) (hx:opSV L x = .loc i o) (hH:Hp.get H i=some (.blk te cs)) (hc:cs[o]? = some s) :
  Ev Γ k L H (.load t x) ty s:=by
 intro e a w m
 have ho:=Sh.known_ne hkn
 obtain⟨_,hv⟩:=evT m hx (cSV_loc · _ _)
 obtain⟨v,g1,g2⟩:=HRel.blk_cell (m.heap _ (Hp.mem_of hH)).2 hc
 exact⟨v,fun _ _ _ _ w' hw=>run_load1 ho hg hv (cell_below hw g1) _ _ _ _,g2⟩
theorem ev_nilCheck {s:SV} (hx:opSV L x=s) (hs:(∃ ds,s = .pd ds)∨(∃ i o,s = .loc i o)∨(∃ i j es o,s = .prow i j es o)):Ev Γ k L H (.nilCheck x) ty s:=by
 intro e a w m
 have hv:∃ p,a.eval x = .pointer (some p)∧Rel (Γ.X e H) e w s (a.eval x):=by
  rcases hs with ⟨ds,rfl⟩|⟨i,o,rfl⟩|⟨i,j,es,o,rfl⟩
  ·have hr:=evT m hx (cSV_pd · _);obtain⟨b,off,hv,_⟩:=hr;exact⟨_,hv,evT m hx (cSV_pd · _)⟩
  ·have hr:=evT m hx (cSV_loc · _ _);exact⟨_,hr.2,hr⟩
  ·have hr:=evT m hx (cSV_prow · _ _ _ _);obtain⟨_,g,n,cap,_,hv⟩:=hr;exact⟨_,hv,evT m hx (cSV_prow · _ _ _ _)⟩
 obtain⟨p,hv,hr⟩:=hv
 exact⟨a.eval x,fun _ _ _ _ w' _=>by simp [execOp,hv],hr⟩
theorem cSV_ptr (v:Value) (ds:List D):cSV v≠.d (.ptr ds):=by unfold cSV;split <;> simp
theorem ev_nilPtr {ds:List D} (hx:opSV L x = .d (.ptr ds)):Ev Γ k L H (.nilCheck x) ty (.pd ds):=by
 intro e a w m
 have hr:RepC (Γ.X e H) w (a.eval x) (.ptr ds):=evT m hx (cSV_ptr · _)
 obtain⟨v,hv⟩:∃ v,v=a.eval x:=⟨_,rfl⟩
 rw [← hv] at hr
 cases hr with
 | @ptr b off ds c h1 h2 h3 h4 =>
  exact⟨a.eval x,fun _ _ _ _ w' _=>by simp [execOp,← hv],b,off,hv.symm,h2,h1,fun j hj=>⟨c j,h3 j hj,h4 j hj⟩⟩
theorem ev_extract {i:Nat} {ss:List SV} {s:SV} (hx:opSV L x = .tup ss) (hi:ss[i]? = some s):Ev Γ k L H (.extract x i) ty s:=by
 intro e a w m
 obtain⟨vs,hv,hr⟩:=evT m hx (cSV_tup · _)
 obtain⟨v,g1,g2⟩:=RelL.get ss vs hr i s hi
 exact⟨v,fun _ _ _ _ w' _=>by simp [execOp,Instr.extract,hv,g1],g2⟩
theorem RelL.drop {X e w}:∀ (ss:List SV) (vs:List Value),RelL X e w ss vs→∀ n,RelL X e w (ss.drop n) (vs.drop n)
 | _,_,h,0=>h
 | [],[],_,_ + 1=>trivial
 | [],_::_,h,_=>h.elim
 | _::_,[],h,_=>h.elim
 | _::ss,_::vs,⟨_,h⟩,n + 1=>RelL.drop ss vs h n
theorem RelL.take {X e w}:∀ (ss:List SV) (vs:List Value),RelL X e w ss vs→∀ n,RelL X e w (ss.take n) (vs.take n)
 | _,_,_,0=>by simp [RelL]
 | [],[],_,_ + 1=>trivial
 | [],_::_,h,_=>h.elim
 | _::_,[],h,_=>h.elim
 | _::ss,_::vs,⟨h1,h2⟩,n + 1=>⟨h1,RelL.take ss vs h2 n⟩
theorem RelL.append {X e w}:∀ (ss:List SV) (vs:List Value) (ss':List SV) (vs':List Value),RelL X e w ss vs→RelL X e w ss' vs'→RelL X e w (ss++ss') (vs++vs')
 | [],[],_,_,_,h=>h
 | [],_::_,_,_,h,_=>h.elim
 | _::_,[],_,_,h,_=>h.elim
 | _::ss,_::vs,ss',vs',⟨h1,h2⟩,h=>⟨h1,RelL.append ss vs ss' vs' h2 h⟩
theorem HRel.blk_cells {X e w} {id:Nat} {te:TypeId} {cs:List SV} (h:HRel X e w (id,.blk te cs)) (o n:Nat) (hn:o + n≤cs.length) :
  ∃ vs:List Value,vs.length=n∧(∀ j v,vs[j]? = some v→w.cell? ((⟨e.β id,o,none⟩:Addr).add j)=some v)∧RelL X e w ((cs.drop o).take n) vs∧∀ v∈vs,v.oneCell' = true:=by
 obtain⟨vs,h1,h2,h3⟩:=h
 have hl:=RelL.length _ _ h2
 refine⟨(vs.drop o).take n,by simp;omega,fun j v hj=>?_,RelL.take _ _ (RelL.drop _ _ h2 o) n,fun v hv=>h3 v (List.mem_of_mem_drop (List.mem_of_mem_take hv))⟩
 rw [Addr.add_at,cell_of_row w _ _ _ te (0,0) h1]
 rw [List.getElem?_take] at hj
 split at hj
 ·simpa using hj
 ·cases hj
theorem run_load_agg (ho:Γ.sh t≠.other) (hg:(Γ.sh t).isAgg=true) {p:Addr} {vs:List Value} {w':World} (hn:vs.length=Γ.cells t) (hc:∀ j v,vs[j]? = some v→w'.cell? (p.add j)=some v) :
  (loadVar t p).run Γ.P w' = .ok (.agg vs.toArray) w':=by
 obtain⟨inf,z,hi,_,hs,_⟩:=Ctx.info ho
 have:=run_loadCells_list (P:=Γ.P) (w:=w') p vs hc
 rw [hn,← hs] at this
 simp [loadVar,Ctx.agg ho,hg,run_sizeOf hi,this]
theorem ev_load_agg_loc {i o:Nat} {te:TypeId} {cs:List SV} {l} (ht:Γ.sh t = .struct l) (hx:opSV L x = .loc i o) (hH:Hp.get H i=some (.blk te cs)) (hn:Nat.ble (o + Γ.cells t) cs.length=true) :
  Ev Γ k L H (.load t x) ty (.agg ((cs.drop o).take (Γ.cells t))):=by
 intro e a w m
 obtain⟨_,hv⟩:=evT m hx (cSV_loc · _ _)
 obtain⟨vs,g1,g2,g3,_⟩:=HRel.blk_cells (m.heap _ (Hp.mem_of hH)).2 o (Γ.cells t) (Nat.le_of_ble_eq_true hn)
 have ho:Γ.sh t≠.other:=by rw [ht];intro h;cases h
 refine⟨.agg vs.toArray,fun _ _ _ _ w' hw=>?_,⟨vs,rfl,g3⟩⟩
 have hr:=run_load_agg (Γ:=Γ) (t:=t) (w':=w') (p:=⟨e.β i,o,none⟩) ho (by rw [ht];rfl) g1 (fun j v hj=>cell_below hw (g2 j v hj))
 simp [execOp,Instr.loadAt,hv,Instr.sureAddr,hr]
theorem ev_load_agg_pd {ds:List D} {l} (ht:Γ.sh t = .struct l) (hx:opSV L x = .pd ds) (hnb:Nat.ble (Γ.cells t) ds.length=true):Ev Γ k L H (.load t x) ty (.agg ((ds.take (Γ.cells t)).map .d)):=by
 intro e a w m
 have hn:=Nat.le_of_ble_eq_true hnb
 obtain⟨b,off,hv,hb,hX,hcell⟩:=evT m hx (cSV_pd · _)
 have ho:Γ.sh t≠.other:=by rw [ht];intro h;cases h
 have key:∀ n,n≤ds.length→∃ vs:List Value,vs.length=n∧(∀ j v,vs[j]? = some v→w.cell? ((⟨b,off,none⟩:Addr).add j)=some v)∧RelL (Γ.X e H) e w ((ds.take n).map .d) vs:=by
  intro n
  induction n with
  | zero=>intro _;exact⟨[],rfl,by simp,by simp [RelL]⟩
  | succ n ih =>
   intro hle
   obtain⟨vs,h1,h2,h3⟩:=ih (by omega)
   obtain⟨u,g1,g2⟩:=hcell n (by omega)
   refine⟨vs++[u],by simp [h1],fun j v hj=>?_,?_⟩
   ·by_cases hlt:j < vs.length
    ·rw [List.getElem?_append_left hlt] at hj;exact h2 j v hj
    ·rw [List.getElem?_append_right (by omega)] at hj
     have:j=n:=by
      rcases Nat.lt_or_ge (j - vs.length) 1 with h|h
      ·omega
      ·rw [List.getElem?_eq_none (by simpa using h)] at hj;cases hj
     subst this
     rw [Addr.add_at]
     simp [h1] at hj
     rw [← hj];exact g1
   ·rw [List.take_succ_eq_append_getElem (by omega),List.map_append]
    exact RelL.append _ _ _ _ h3 ⟨g2,trivial⟩
 obtain⟨vs,g1,g2,g3⟩:=key _ hn
 refine⟨.agg vs.toArray,fun _ _ _ _ w' hw=>?_,⟨vs,rfl,g3⟩⟩
 have hr:=run_load_agg (Γ:=Γ) (t:=t) (w':=w') (p:=⟨b,off,none⟩) ho (by rw [ht];rfl) g1 (fun j v hj=>cell_below hw (g2 j v hj))
 simp [execOp,Instr.loadAt,hv,Instr.sureAddr,hr]
end
end Go.Proofs.YtapciiffpnociabGreat
