/- GxStep. Condition: none. -/
import Derived.Test.YtapciiffpnociadGreatM03
import Derived.OpenShut
import Derived.Laws.StructEq
import Derived.Laws.BytesString
set_option linter.all false
open Bool renaming and_eq_true→Ad
open Int renaming ediv_nonneg→En,emod_add_mul_ediv→D9,mul_nonneg→Fa,tmod_eq_emod_of_nonneg→E9,tmod_nonneg→Hk,toNat_of_nonneg→Az
open List renaming all_cons→Dp,eq_nil_of_length_eq_zero→Bm,getD→A9,getElem?_eq_getElem→Ab,getElem?_eq_none→Ba,getElem_mem→Ag,map_cons→A7
open Nat renaming add_mul→B4,beq→Aw,ble→B6,eq_of_beq_eq_true→Aj,le_of_ble_eq_true→Ac
open Option renaming map_none→Gf,map_some→B3
namespace Go.Proofs.YtapciiffpnociadGreat
open Go Go.RowKit
variable [Bnds]
abbrev Pv:=Option (Prop×SV)
def pq {α:Type} (s:SV) (k:SV->α):α:=match s with
 | .junk=>k .junk
 | .d x=>k (.d x)
 | .nils=>k .nils
 | .pd ds=>k (.pd ds)
 | .loc i o=>k (.loc i o)
 | .row i=>k (.row i)
 | .mp i=>k (.mp i)
 | .md kd kvs=>k (.md kd kvs)
 | .prow i j es o=>k (.prow i j es o)
 | .sl i o n c=>k (.sl i o n c)
 | .rsl i es j n=>k (.rsl i es j n)
 | .rg B q x=>k (.rg B q x)
 | .fn f c=>k (.fn f c)
 | .agg ss=>k (.agg ss)
 | .tup ss=>k (.tup ss)
 | .val v=>k (.val v)
theorem ka {α:Type} (s:SV) (k:SV->α):pq s k=k s:=by cases s<;>rfl
def qx {α:Type}:List SV->(List SV->α)->α
 | [],k=>k []
 | s::ss,k=>pq s λv=>qx ss λvs=>k (v::vs)
theorem fj {α:Type}:∀ (ss:List SV) (k:List SV->α),qx ss k=k ss
 | [],_=>rfl
 | s::ss,k=>by simp only [qx,ka,fj ss]
def sameK:IntKind->IntKind->Bool
 | .i8,.i8|.i16,.i16|.i32,.i32|.i64,.i64|.u8,.u8|.u16,.u16|.u32,.u32|.u64,.u64=>true
 | _,_=>false
theorem lz:∀ {i j:IntKind},sameK i j=true->i=j:=by
 intro i j h;cases i<;>cases j<;>first|rfl|(simp [sameK] at h)
def u9 (i:IntKind) (r:Int):Pv:=match i with
 | .i64=>some (-9223372036854775808<=r/\r<=9223372036854775807,.d (.int .i64 r))
 | i=>some (True,.d (.int i (i.wrap r)))
def eqD:Sh->D->D->Option Bool
 | .int k,.int i n,.int j m=>match sameK k i && sameK k j with
  | true=>some (decide (n=m))
  | false=>none
 | .bool,.bool b,.bool c=>some (b == c)
 | .str,.str s,.str u=>some (decide (s=u))
 | _,_,_=>none
def eqFl (τ:List (Nat×TI)):List (Nat×TypeId×Nat)->Nat->List SV->List SV->Option Bool
 | [],_,[],[]=>some true
 | (off,ft,_)::l,o,.d x::a,.d y::b=>match Aw off o with
  | true=>match eqD (aj τ ft).sh x y,eqFl τ l (o+1) a b with
   | some p,some q=>some (p && q)
   | _,_=>none
  | false=>none
 | _,_,_,_=>none
def shlN (i:IntKind) (n:Int) (m:Int):Int:=i.wrap (n*2 ^ min m.toNat i.bits)
def shrN (i:IntKind) (n:Int) (m:Int):Int:=n.fdiv (2 ^ min m.toNat i.bits)
def orN (i:IntKind) (n m:Int):Int:=i.wrap (((n % ((2 ^ i.bits:Nat):Int)).toNat ||| (m % ((2 ^ i.bits:Nat):Int)).toNat:Nat):Int)
theorem orN_eq (i:IntKind) (n m:Int):i.wrap (BitVec.ofInt i.bits n ||| BitVec.ofInt i.bits m).toNat=orN i n m:=by
 unfold orN;rw [BitVec.toNat_or,BitVec.toNat_ofInt,BitVec.toNat_ofInt]
def binC (τ:List (Nat×TI)) (t:TypeId) (op:BinOp):SV->SV->Pv
 | .d (.int i n),.d (.int j m)=>match op with
  | .shl=>some (0<=m,.d (.int i (shlN i n m)))
  | .shr=>some (0<=m,.d (.int i (shrN i n m)))
  | _=>match sameK i j with
  | true=>match op with
   | .lss=>some (True,.d (.bool (decide (n<m))))
   | .leq=>some (True,.d (.bool (decide (n<=m))))
   | .gtr=>some (True,.d (.bool (decide (m<n))))
   | .geq=>some (True,.d (.bool (decide (m<=n))))
   | .eql=>some (True,.d (.bool (decide (n=m))))
   | .neq=>some (True,.d (.bool (decide (n≠m))))
   | .add=>u9 i (n+m)
   | .sub=>u9 i (n-m)
   | .mul=>u9 i (n*m)
   | .or=>some (True,.d (.int i (orN i n m)))
   | .quo=>match u9 i (n.tdiv m) with
    | some (p,s)=>some (m≠0/\p,s)
    | none=>none
   | .rem=>some (m≠0,.d (.int i (n.tmod m)))
   | _=>none
  | false=>none
 | .d (.str s),.d (.str u)=>match op with
   | .eql=>some (True,.d (.bool (decide (s=u))))
   | .neq=>some (True,.d (.bool (decide (s≠u))))
   | .add=>some (s.size+u.size<=maxLen,.d (.str (s++u)))
   | _=>none
 | .d (.bool b),.d (.bool c)=>match (aj τ t).sh with
   | .bool=>match op with
    | .eql=>some (True,.d (.bool (b == c)))
    | .neq=>some (True,.d (.bool (b != c)))
    | _=>none
   | _=>none
 | .agg a,.agg b=>match (aj τ t).sh,(aj τ t).eqs with
   | .struct l,true=>match eqFl τ l 0 a b with
    | some r=>match op with
     | .eql=>some (True,.d (.bool r))
     | .neq=>some (True,.d (.bool (!r)))
     | _=>none
    | none=>none
   | _,_=>none
 | _,_=>none
abbrev rj (xs:List (List D)) (n:Nat):List D:=xs.getD n []
def sp (τ:List (Nat×TI)) (t:TypeId) (s:SV) (η:Nat->Option HB):Pv:=match s with
 | .pd ds=>match (aj τ t).sh with
  | .other=>none
  | .struct _=>match B6 (aj τ t).cells ds.length with
   | true=>qx ((ds.take (aj τ t).cells).map .d) λl=>some (True,.agg l)
   | false=>none
  | _=>match ds with
   | d0::_=>some (True,.d d0)
   | []=>none
 | .loc i o=>match η i with
  | some (.blk _ cs)=>match (aj τ t).sh with
   | .other=>none
   | .struct _=>match B6 (o+(aj τ t).cells) cs.length with
    | true=>qx ((cs.drop o).take (aj τ t).cells) λl=>some (True,.agg l)
    | false=>none
   | _=>match cs[o]? with
    | some s=>pq s λv=>some (True,v)
    | none=>none
  | _=>none
 | _=>none
def fieldC (τ:List (Nat×TI)) (s:TypeId) (f:Nat) (v:SV):Pv:=match (aj τ s).sh with
 | .struct l=>match l[f]? with
  | some (off,_,sz)=>match Aw sz 0 with
   | false=>match v with
    | .pd ds=>some (True,.pd (ds.drop off))
    | .loc i o=>some (True,.loc i (o+off))
    | .prow i j es o=>some (True,.prow i j es (o+off))
    | _=>none
   | true=>none
  | none=>none
 | _=>none
def indexC (τ:List (Nat×TI)) (t:TypeId) (a b:SV):Pv:=match (aj τ t).sh with
 | .slice te=>match a,b with
  | .d (.slice es xs),.d (.int .i64 n)=>match Aw (aj τ te).cells es && (aj τ te).sh.known with
   | true=>some (0<=n/\n.toNat<xs.length,.pd (rj xs n.toNat))
   | false=>none
  | .d (.own _ (.slice es xs)),.d (.int .i64 n)=>match Aw (aj τ te).cells es && (aj τ te).sh.known with
   | true=>some (0<=n/\n.toNat<xs.length,.pd (rj xs n.toNat))
   | false=>none
  | _,_=>none
 | _=>none
def loadRow (τ:List (Nat×TI)) (t:TypeId) (ds:List D) (o:Nat):SV:=match sp τ t (.pd (ds.drop o)) (λ_=>none) with
 | some (_,s)=>s
 | none=>.junk
def loadP (τ:List (Nat×TI)) (t:TypeId) (s:SV) (η:Nat->Option HB):Pv:=match s with
 | .prow i j es o=>match η i with
  | some (.row _ es' xs)=>match Aw es es' && ((aj τ t).sh.known && (Nat.blt 0 (aj τ t).cells && B6 (o+(aj τ t).cells) es)) with
   | true=>some (j<xs.length,loadRow τ t (rj xs j) o)
   | false=>none
  | _=>none
 | s=>sp τ t s η
def indexP (τ:List (Nat×TI)) (t:TypeId) (a b:SV) (η:Nat->Option HB):Pv:=match a with
 | .row i=>match (aj τ t).sh,b,η i with
  | .slice te,.d (.int .i64 n),some (.row _ es xs)=>match Aw (aj τ te).cells es && (aj τ te).sh.known with
   | true=>some (0<=n/\n.toNat<xs.length,.prow i n.toNat es 0)
   | false=>none
  | _,_,_=>none
 | .sl i o len _=>match (aj τ t).sh,b with
  | .slice te,.d (.int .i64 n)=>match (aj τ te).sh.known with
   | true=>some (0<=n/\n.toNat<len,.loc i (o+n.toNat*(aj τ te).cells))
   | false=>none
  | _,_=>none
 | .rsl i es j len=>match (aj τ t).sh,b with
  | .slice te,.d (.int .i64 n)=>match Aw (aj τ te).cells es && (aj τ te).sh.known with
   | true=>some (0<=n/\n.toNat<len,.prow i (j+n.toNat) es 0)
   | false=>none
  | _,_=>none
 | a=>indexC τ t a b
def sat (s:ByteArray) (i:Nat):Int:=if h:i<s.size then ((s[i]'h).toNat:Int) else 0
theorem sat_eq {s:ByteArray} {i:Nat} (h:i<s.size):sat s i=((s[i]'h).toNat:Int):=by unfold sat;rw [dif_pos h]
def strAtC (τ:List (Nat×TI)) (t:TypeId) (a b:SV):Pv:=match (aj τ t).sh with
 | .str=>match a,b with
  | .d (.str s),.d (.int .i64 n)=>some (0<=n/\n.toNat<s.size,.d (.int .u8 (sat s n.toNat)))
  | _,_=>none
 | _=>none
def lenC (τ:List (Nat×TI)) (t:TypeId) (a:SV) (η:Nat->Option HB):Pv:=match (aj τ t).sh with
 | .slice _=>match a with
  | .d (.slice _ xs)=>some (True,.d (.int .i64 xs.length))
  | .d (.own _ (.slice _ xs))=>some (True,.d (.int .i64 xs.length))
  | .nils=>some (True,.d (.int .i64 0))
  | .row i=>match η i with
   | some (.row _ _ xs)=>some (True,.d (.int .i64 xs.length))
   | _=>none
  | .sl _ _ n _=>some (True,.d (.int .i64 n))
  | .rsl _ _ _ n=>some (True,.d (.int .i64 n))
  | _=>none
 | .str=>match a with
  | .d (.str s)=>some (True,.d (.int .i64 s.size))
  | _=>none
 | _=>none
def vk:Option SV->Option Int
 | none=>some 0
 | some (.d (.int .i64 n))=>some n
 | _=>none
def mq (size:Nat):Option SV->Option Int
 | none=>some size
 | some (.d (.int .i64 n))=>some n
 | _=>none
def sliceC (τ:List (Nat×TI)) (t:TypeId) (a:SV) (lo hi:Option SV) (η:Nat->Option HB):Pv:=match (aj τ t).sh with
 | .str=>match a with
  | .d (.str s)=>match vk lo,mq s.size hi with
   | some n,some m=>some (0<=n/\n<=m/\m<=s.size,.d (.str (s.extract n.toNat m.toNat)))
   | _,_=>none
  | _=>none
 | .slice te=>match a with
  | .sl i o len cap=>match vk lo,mq len hi,(aj τ te).sh.known with
   | some n,some m,true=>some (0<=n/\n<=m/\m<=cap,.sl i (o+n.toNat*(aj τ te).cells) (m.toNat-n.toNat) (cap-n.toNat))
   | _,_,_=>none
  | .nils=>match vk lo,mq 0 hi,(aj τ te).sh.known with
   | some n,some m,true=>some (n=0/\m=0,.nils)
   | _,_,_=>none
  | .d (.slice es xs)=>match vk lo,mq xs.length hi,Aw (aj τ te).cells es && (aj τ te).sh.known with
   | some n,some m,true=>some (0<=n/\n<=m/\m<=xs.length,.d (.slice es ((xs.take m.toNat).drop n.toNat)))
   | _,_,_=>none
  | .row i=>match η i with
   | some (.row _ es xs)=>match vk lo,mq xs.length hi,Aw (aj τ te).cells es && (aj τ te).sh.known with
    | some n,some m,true=>some (0<=n/\n<=m/\m<=xs.length,.rsl i es n.toNat (m.toNat-n.toNat))
    | _,_,_=>none
   | _=>none
  | .rsl i es j len=>match vk lo,mq len hi,Aw (aj τ te).cells es && (aj τ te).sh.known with
   | some n,some m,true=>some (0<=n/\n<=m/\m<=len,.rsl i es (j+n.toNat) (m.toNat-n.toNat))
   | _,_,_=>none
  | _=>none
 | _=>none
def byteD:List D->UInt8
 | [.int .u8 n]=>UInt8.ofNat n.toNat
 | _=>0
def pm (xs:List (List D)):ByteArray:=⟨(xs.map byteD).toArray⟩
def zp (xs:List (List D)):Prop:=∀ x∈xs,∃ n,x=[D.int .u8 n]
def convC (τ:List (Nat×TI)) (s d:TypeId) (a:SV) (η:Nat->Option HB):Pv:=match (aj τ s).sh,(aj τ d).sh,a with
 | .int .u8,.int .i64,.d (.int .u8 n)=>some (0<=n/\n<=255,.d (.int .i64 n))
 | .int .u8,.str,.d (.int .u8 n)=>some (0<=n/\n<128,.d (.str ⟨#[UInt8.ofNat n.toNat]⟩))
 | .int k,.int j,.d (.int i n)=>match sameK k i with
  | true=>u9 j n
  | false=>none
 | .slice te,.str,.d (.slice es xs)=>match (aj τ te).sh,Aw es 1 with
  | .int .u8,true=>some (zp xs,.d (.str (pm xs)))
  | _,_=>none
 | .slice te,.str,.row i=>match (aj τ te).sh,η i with
  | .int .u8,some (.row _ es xs)=>match Aw es 1 with
   | true=>some (zp xs,.d (.str (pm xs)))
   | false=>none
  | _,_=>none
 | _,_,_=>none
def evC (τ:List (Nat×TI)) (g:Operand->SV) (η:Nat->Option HB):Op->Pv
 | .move x=>pq (g x) λv=>some (True,v)
 | .assign x=>pq (g x) λv=>some (True,v)
 | .pick c a b=>match g c with
  | .d (.bool true)=>pq (g a) λv=>some (True,v)
  | .d (.bool false)=>pq (g b) λv=>some (True,v)
  | _=>none
 | .binOp op t x y _=>binC τ t op (g x) (g y)
 | .unOp .not _ x=>match g x with
  | .d (.bool b)=>some (True,.d (.bool (!b)))
  | _=>none
 | .load t x=>loadP τ t (g x) η
 | .fieldAddr s x f=>fieldC τ s f (g x)
 | .indexAddr t x y=>indexP τ t (g x) (g y) η
 | .index t x y=>strAtC τ t (g x) (g y)
 | .call { callee:=.builtin .len,args,argTypes }=>match args.toList,argTypes.toList with
  | [x],[t]=>lenC τ t (g x) η
  | _,_=>none
 | .slice t x lo hi none=>sliceC τ t (g x) (lo.map g) (hi.map g) η
 | .convert s d x=>convC τ s d (g x) η
 | .nilCheck x=>match g x with
  | .pd ds=>some (True,.pd ds)
  | .d (.ptr ds)=>some (True,.pd ds)
  | .loc i o=>some (True,.loc i o)
  | .prow i j es o=>some (True,.prow i j es o)
  | _=>none
 | .extract x i=>match g x with
  | .tup ss=>match ss[i]? with
   | some s=>pq s λv=>some (True,v)
   | none=>none
  | _=>none
 | .makeFunc (.func f) first captured=>match first.toList with
  | []=>qx (captured.toList.map g) λl=>some (True,.fn f l)
  | _=>none
 | .build te ps=>match (aj τ te).sh with
  | .struct l=>match o9 τ l && ek (aj τ te).zero with
   | true=>match nk (vy l) (ly τ te) (ps.toList.map λp=>(p.1,g p.2)) with
    | some cs=>qx cs λl=>some (True,.agg l)
    | none=>none
   | false=>none
  | _=>none
 | _=>none
def bt (op:Op):Bool:=op.operands.toList.all de
section
variable {Γ : Ctx} {k : Nat -> Prop} {L : Sl} {H : Hp} {a : Act} {w : World} {e : Env} {t t' ty : TypeId} {x y : Operand} {p : Prop} {s : SV}
theorem arithC_inv {i:IntKind} {r:Int} (h:u9 i r=some (p,s)):(i = .i64/\p=(-9223372036854775808<=r/\r<=9223372036854775807)/\s = .d (.int .i64 r))∨s = .d (.int i (i.wrap r)):=by
 cases i<;>simp only [u9,Option.some.injEq,Prod.mk.injEq] at h<;>first|(exact .inr h.2.symm)|(exact .inl ⟨rfl,h.1.symm,h.2.symm⟩)
theorem ev_arith {op:BinOp} {i:IntKind} {n m' r:Int} (hx:ai L x = .d (.int i n)) (hy:ai L y = .d (.int i m')) (hr:∀ P w,(binOp op t (.int i n) (.int i m')).run P w = .ok (.int i (i.wrap r)) w)
  (h:u9 i r=some (p,s)) (hp:p):Ev Γ k L H (.binOp op t x y t') ty s:=by
 rcases arithC_inv h with ⟨rfl,rfl,rfl⟩|rfl
 ·exact ji hx hy hr λ_ _ _=>by rw [IntWalk.i64_in _ hp];exact .int (WalkArith.wf_i64 hp)
 ·exact ji hx hy hr λ_ _ _=>.int (wf_wrap i r)
theorem ev_cat {u v:ByteArray} (hx:ai L x = .d (.str u)) (hy:ai L y = .d (.str v)) (h:u.size+v.size<=maxLen):Ev Γ k L H (.binOp .add t x y t') ty (.d (.str (u++v))):=by
 intro e a w m;refine⟨_,λ_ _ _ _ w' _=>?_,.str (by rw [ByteArray.size_append];exact h)⟩
 have hm:¬ (((u.size+v.size:Nat):Int) > IntKind.i64.max):=by
  unfold maxLen at h;show ¬ (((u.size+v.size:Nat):Int) > 9223372036854775807);omega
 simp only [execOp,evS m hx,evS m hy];simp only [binOp,Op.stringOp];rw [if_neg hm];simp [eqGuard]
theorem ev_eqb {b c:Bool} (ht:Γ.sh t = .bool) (hx:ai L x = .d (.bool b)) (hy:ai L y = .d (.bool c)):Ev Γ k L H (.binOp .eql t x y t') ty (.d (.bool (b == c)))/\Ev Γ k L H (.binOp .neq t x y t') ty (.d (.bool (b != c))):=by
 have hu:Γ.P.underlying t=some .bool:=by
  obtain⟨u,inf,z,h1,_,_,h4,_⟩:=iq (Γ.ti (by rw [ht];intro h;cases h));rw [h1];have:nx Γ.P u = .bool:=h4▸ht
  cases u<;>simp [nx] at this ⊢
 constructor
 ·intro e a w m;refine⟨.bool (b == c),λ_ _ _ _ w' _=>?_,.bool⟩
  simp only [execOp,evB m hx,evB m hy];simp [eqGuard,binOp,run_equal_bool w' t b c hu]
 ·intro e a w m;refine⟨.bool (b != c),λ_ _ _ _ w' _=>?_,.bool⟩
  simp only [execOp,evB m hx,evB m hy];simp [eqGuard,binOp,run_equal_bool w' t b c hu,bne]
theorem eqD_run {X e w} {p:Bool} {x y:D} {v u:Value} {tu:TypeDesc} {w':World} (t1:Γ.P.underlying t=some tu) (hp:eqD (nx Γ.P tu) x y=some p) (hv:Rel X e w (.d x) v) (hu:Rel X e w (.d y) u):(Op.equalIn 9999 t v u).run Γ.P w' = .ok p w':=by
 cases tu with
 | int k =>
  simp only [nx] at hp;unfold eqD at hp;split at hp
  ·rename_i k1 i n j m e1;injection e1 with e1
   subst e1;split at hp
   ·rename_i hk;simp only [Ad] at hk;have h1:=lz hk.1;have h2:=lz hk.2;subst h1;subst h2;cases hp;cases hv;cases hu;rw [run_equalIn_int w' 9998 t _ _ n m t1];rfl
   ·cases hp
  ·rename_i e1;cases e1
  ·rename_i e1;cases e1
  ·cases hp
 | bool =>
  simp only [nx] at hp;unfold eqD at hp;split at hp
  ·rename_i e1;cases e1
  ·cases hp;cases hv;cases hu;rw [run_equalIn_bool w' 9998 t _ _ t1]
  ·rename_i e1;cases e1
  ·cases hp
 | string =>
  simp only [nx] at hp;unfold eqD at hp;split at hp
  ·rename_i e1;cases e1
  ·rename_i e1;cases e1
  ·cases hp;cases hv;cases hu;rw [run_equalIn_string w' 9998 t _ _ t1,str_beq]
  ·cases hp
 | _=>simp [nx,eqD] at hp
theorem eqFl_run {X e w}:∀ (fs:List Field) (l:List (Nat×TypeId×Nat)) (o:Nat) (a b:List SV) (pre pre' vs us:List Value) (r:Bool) (w':World),l=(fs.map λf=>(f.offset,f.type,((Γ.P.info? f.type).map (·.size)).getD 0))->pre.length=o->pre'.length=o ->
  RelL X e w a vs -> RelL X e w b us -> eqFl Γ.τ l o a b=some r -> (fs.all λf => f.name != "_")=true -> (Op.eqFields 9999 (pre ++ vs).toArray (pre' ++ us).toArray fs).run Γ.P w' = .ok r w'
 | [],l,o,a,b,pre,pre',vs,us,r,w',hl,_,_,_,_,h,_=>by
  subst hl;cases a<;>cases b<;>simp [eqFl] at h
  subst h;simp [Op.eqFields]
 | f::fs,l,o,a,b,pre,pre',vs,us,r,w',hl,h1,h2,ha,hb,h,hn=>by
  subst hl;simp only [A7] at h;simp only [Dp,Ad] at hn;cases a with
  | nil=>simp [eqFl] at h
  | cons x a =>
   cases b with
   | nil=>cases x<;>simp [eqFl] at h
   | cons y b =>
    cases x<;>cases y<;>simp only [eqFl] at h<;>try cases h
    rename_i x y;cases vs with
    | nil=>exact ha.elim
    | cons v vs =>
     cases us with
     | nil=>exact hb.elim
     | cons u us =>
      obtain⟨hv,ha⟩:=ha;obtain⟨hu,hb⟩:=hb;split at h
      ·rename_i hoff;have hoff:=Aj hoff;split at h
       ·rename_i p q hp hq;cases h;have ih:=eqFl_run fs _ (o+1) a b (pre++[v]) (pre'++[u]) vs us q w' rfl (by simp [h1]) (by simp [h2]) ha hb hq hn.2;simp only [List.append_assoc,List.singleton_append] at ih;have hsh:(Γ.sh f.type)≠.other:=by
         intro hc;have hc:(aj Γ.τ f.type).sh = .other:=hc;rw [hc] at hp;simp [eqD] at hp
        have hag:(Γ.sh f.type).isAgg=false:=by
         show (aj Γ.τ f.type).sh.isAgg=false;cases hs:(aj Γ.τ f.type).sh<;>rw [hs] at hp<;>first|rfl|(simp [eqD] at hp)
        obtain⟨tu,inf,z,t1,_,_,t4,_⟩:=iq (Γ.ti hsh);have hpa:(part f.type (pre++v::vs).toArray f.offset).run Γ.P w' = .ok v w':=by
         have hg:(pre++v::vs).toArray[f.offset]?=some v:=by simp [hoff,<- h1]
         unfold part;simp [Ctx.agg hsh,hag,hg]
        have hpb:(part f.type (pre'++u::us).toArray f.offset).run Γ.P w' = .ok u w':=by
         have hg:(pre'++u::us).toArray[f.offset]?=some u:=by simp [hoff,<- h2]
         unfold part;simp [Ctx.agg hsh,hag,hg]
        have heq:(Op.equalIn 9999 f.type v u).run Γ.P w' = .ok p w':=by
         exact eqD_run t1 (t4▸hp) hv hu
        have hne : f.name ≠ "_" := by simpa using hn.1
        simp only [Op.eqFields,if_pos hne,Sem.run_bind,hpa,hpb,heq,Result.andThen_ok];cases p
        ·simp
        ·simp only [Bool.not_true,Bool.false_eq_true,if_false,Bool.true_and];exact ih
       ·cases h
      ·cases h
theorem ev_eqAgg {l} {a' b':List SV} {r:Bool} (ht:Γ.sh t = .struct l) (he:(aj Γ.τ t).eqs=true) (hx:ai L x = .agg a') (hy:ai L y = .agg b') (hr:eqFl Γ.τ l 0 a' b'=some r) :
  Ev Γ k L H (.binOp .eql t x y t') ty (.d (.bool r))/\Ev Γ k L H (.binOp .neq t x y t') ty (.d (.bool (!r))):=by
 have hso:Γ.sh t≠.other:=by rw [ht];intro h;cases h
 obtain⟨fs,hu,hl⟩:=Ctx.struct ht;obtain⟨_,_,_,_,_,_,_,_,_,_,h8⟩:=iq (Γ.ti hso);rw [he] at h8;unfold flatEqB at h8;rw [hu] at h8;simp only [Bool.true_eq,Ad,Bool.not_eq_true'] at h8;obtain⟨hs,hg,hn⟩:=h8;have hf:Γ.P.fieldsOf t=fs:=by unfold Program.fieldsOf;rw [hu]
 have key:∀ (e:Env) (A:Act) (w w':World),Models Γ k L H e A w->∃ vs us,A.eval x = .agg vs/\A.eval y = .agg us/\(Op.equalIn 10000 t (.agg vs) (.agg us)).run Γ.P w' = .ok r w':=by
  intro e A w w' m;obtain⟨vs,hvs,rvs⟩:=evT m hx (cSV_agg · _);obtain⟨us,hus,rus⟩:=evT m hy (cSV_agg · _);refine⟨_,_,hvs,hus,?_⟩
  rw [run_equalIn_struct w' 9999 t _ _ (by rw [hf];exact hu) hs,hf];exact eqFl_run fs.toList l 0 a' b' [] [] vs us r w' hl rfl rfl rvs rus hr (by simpa using hn)
 constructor
 ·intro e A w m;refine⟨.bool r,λ_ _ _ _ w' _=>?_,.bool⟩
  obtain⟨vs,us,h1,h2,h3⟩:=key e A w w' m;simp only [execOp,h1,h2,Sem.run_bind,run_eqGuard_agg w' .eql t x y vs us hg,Result.andThen_ok,run_eql_struct,h3];simp
 ·intro e A w m;refine⟨.bool (!r),λ_ _ _ _ w' _=>?_,.bool⟩
  obtain⟨vs,us,h1,h2,h3⟩:=key e A w w' m;simp only [execOp,h1,h2,Sem.run_bind,run_eqGuard_agg w' .neq t x y vs us hg,Result.andThen_ok,run_neq_struct,h3];simp
theorem ev_shl {i j:IntKind} {n m':Int} (hx:ai L x = .d (.int i n)) (hy:ai L y = .d (.int j m')) (h0:0<=m'):Ev Γ k L H (.binOp .shl t x y t') ty (.d (.int i (shlN i n m'))):=by
 intro e a w m;refine⟨.int i (shlN i n m'),λ_ _ _ _ w' _=>?_,.int (wf_wrap i _)⟩
 simp only [execOp,evI m hx,evI m hy];have he:eqGuard .shl t x y (Value.int i n) (Value.int j m')=pure ():=by unfold eqGuard;split<;>rfl
 simp [he,binOp,Op.shift,show ¬ m'<0 by omega,shlN]
theorem fdiv_le {n:Int} {d:Nat} (hd:0<d):(0<=n->0<=n.fdiv d/\n.fdiv d<=n)/\(n<0->n<=n.fdiv d/\n.fdiv d<0):=by
 have hd':(0:Int)<(d:Int):=by omega
 rw [Int.fdiv_eq_ediv_of_nonneg _ (by omega)];constructor
 ·intro h;exact⟨En h (by omega),Int.ediv_le_self _ h⟩
 ·intro h;refine⟨?_,Int.ediv_neg_of_neg_of_pos h hd'⟩
  rw [Int.le_ediv_iff_mul_le hd'];have:n*d<=n*1:=Int.mul_le_mul_of_nonpos_left (by omega) (by omega)
  omega
theorem wf_bounds {i:IntKind} {n r:Int} (h:(Lit.int i n).wf=true) (h1:0<=n->0<=r/\r<=n) (h2:n<0->n<=r/\r<=0):(Lit.int i r).wf=true:=by
 cases i<;>simp [Lit.wf,IntKind.min,IntKind.max,IntKind.bits,IntKind.signed] at h ⊢<;>omega
theorem ev_shr {i j:IntKind} {n m':Int} (hx:ai L x = .d (.int i n)) (hy:ai L y = .d (.int j m')) (hxo:de x=true) (h0:0<=m'):Ev Γ k L H (.binOp .shr t x y t') ty (.d (.int i (shrN i n m'))):=by
 intro e a w m;refine⟨.int i (shrN i n m'),λ_ _ _ _ w' _=>?_,.int ?_⟩
 ·simp only [execOp,evI m hx,evI m hy];have he:eqGuard .shr t x y (Value.int i n) (Value.int j m')=pure ():=by unfold eqGuard;split<;>rfl
  simp [he,binOp,Op.shift,show ¬ m'<0 by omega,shrN]
 ·have hw:=evIw m hxo hx;have hd:=fdiv_le (n:=n) (d:=2 ^ min m'.toNat i.bits) (Nat.two_pow_pos _);unfold shrN;refine wf_bounds hw (λh=>?_) (λh=>?_)
  ·simpa using hd.1 h
  ·have:=hd.2 h
   push_cast at this ⊢
   omega
theorem ev_rem {i:IntKind} {n m':Int} (hx:ai L x = .d (.int i n)) (hy:ai L y = .d (.int i m')) (hxo:de x=true) (h0:m'≠0):Ev Γ k L H (.binOp .rem t x y t') ty (.d (.int i (n.tmod m'))):=by
 intro e a w m;refine⟨.int i (n.tmod m'),λ_ _ _ _ w' _=>?_,.int ?_⟩
 ·simp only [execOp,evI m hx,evI m hy];have he:eqGuard .rem t x y (Value.int i n) (Value.int i m')=pure ():=by unfold eqGuard;split<;>rfl
  simp [he,binOp,Op.intDiv,h0]
 ·refine wf_bounds (evIw m hxo hx) (λh=>?_) (λh=>?_)
  ·refine⟨Hk _ h,?_⟩
   have h1:=E9 (b:=m') h;have h3:n.tmod m'=n % m':=h1;rw [h3];rcases Int.lt_or_le 0 m' with hm|hm
   ·have:=D9 n m'
    have h5:0<=m'*(n / m'):=Fa (by omega) (En h (by omega));omega
   ·have e1:n % m'=n % (-m'):=(Int.emod_neg n m').symm;rw [e1];have:=D9 n (-m')
    have h5:0<=(-m')*(n / (-m')):=Fa (by omega) (En h (by omega));omega
  ·have e0:n.tmod m' = -((-n).tmod m'):=by rw [Int.neg_tmod];omega
   have hn:0<=-n:=by omega
   have h1:=E9 (b:=m') hn;have h4:=Hk m' hn;rw [e0];rw [h1] at h4 ⊢;rcases Int.lt_or_le 0 m' with hm|hm
   ·have:=D9 (-n) m'
    have h5:0<=m'*(-n / m'):=Fa (by omega) (En hn (by omega));omega
   ·have e1:-n % m' = -n % (-m'):=(Int.emod_neg (-n) m').symm;rw [e1] at h4 ⊢;have:=D9 (-n) (-m')
    have h5:0<=(-m')*(-n / (-m')):=Fa (by omega) (En hn (by omega));omega
theorem binC_sound {op:BinOp} (h:binC Γ.τ t op (ai L x) (ai L y)=some (p,s)) (hp:p) (hxo:de x=true):Ev Γ k L H (.binOp op t x y t') ty s:=by
 unfold binC at h;split at h
 ·rename_i i n j m' hx hy;split at h
  ·cases h;exact ev_shl hx hy hp
  ·cases h;exact ev_shr hx hy hxo hp
  split at h
  ·rename_i hk;have:=lz hk
   subst this;split at h
   ·cases h;exact ev_lss hx hy
   ·cases h;exact ev_leq hx hy
   ·cases h;exact ev_gtr hx hy
   ·cases h;exact ev_geq hx hy
   ·cases h;exact ev_eql hx hy
   ·cases h;exact ev_neq hx hy
   ·exact ev_arith hx hy (λP w=>by simp [binOp,Op.intArith]) h hp
   ·exact ev_arith hx hy (λP w=>by simp [binOp,Op.intArith]) h hp
   ·exact ev_arith hx hy (λP w=>by simp [binOp,Op.intArith]) h hp
   ·cases h;refine ji hx hy (v:=.int i (orN i n m')) (λP w=>?_) λ_ _ _=>.int (wf_wrap i _)
    rw [<- orN_eq];simp [binOp,Op.intBits]
   ·split at h
    ·rename_i p' s' hq;cases h;exact ev_arith hx hy (λP w=>by simp [binOp,Op.intDiv,hp.1]) hq hp.2
    ·cases h
   ·cases h;exact ev_rem hx hy hxo hp
   ·cases h
  ·cases h
 ·rename_i u v hx hy;split at h
  ·cases h;exact ev_eqs hx hy
  ·cases h;exact ev_nes hx hy
  ·cases h;exact ev_cat hx hy hp
  ·cases h
 ·rename_i b c hx hy;split at h
  ·rename_i ht;split at h
   ·cases h;exact (ev_eqb (Γ:=Γ) ht hx hy).1
   ·cases h;exact (ev_eqb (Γ:=Γ) ht hx hy).2
   ·cases h
  ·cases h
 ·rename_i a b hx hy;split at h
  ·rename_i l ht he;split at h
   ·rename_i r hr;split at h
    ·cases h;exact (ev_eqAgg (Γ:=Γ) ht he hx hy hr).1
    ·cases h;exact (ev_eqAgg (Γ:=Γ) ht he hx hy hr).2
    ·cases h
   ·cases h
  ·cases h
 ·cases h
theorem loadC_sound (h:sp Γ.τ t (ai L x) (Hp.get H)=some (p,s)):Ev Γ k L H (.load t x) ty s:=by
 simp only [sp,ka,fj] at h;split at h
 ·rename_i ds hx;split at h
  ·cases h
  ·rename_i l ht;split at h
   ·rename_i hb;cases h;exact ev_load_agg_pd (Γ:=Γ) ht hx hb
   ·cases h
  ·rename_i h1 h2;split at h
   ·cases h;have hs:(Γ.sh t).known=true/\(Γ.sh t).isAgg=false:=by
     show (aj Γ.τ t).sh.known=true/\(aj Γ.τ t).sh.isAgg=false;generalize (aj Γ.τ t).sh=q at *;cases q<;>simp_all [Sh.known,Sh.isAgg]
    exact ev_load_pd hs.1 hs.2 hx
   ·cases h
 ·rename_i i o hx;split at h
  ·rename_i te cs hH;split at h
   ·cases h
   ·rename_i l ht;split at h
    ·rename_i hb;cases h;exact ev_load_agg_loc (Γ:=Γ) ht hx hH hb
    ·cases h
   ·rename_i h1 h2;split at h
    ·rename_i s' hc;cases h;have hs:(Γ.sh t).known=true/\(Γ.sh t).isAgg=false:=by
      show (aj Γ.τ t).sh.known=true/\(aj Γ.τ t).sh.isAgg=false;generalize (aj Γ.τ t).sh=q at *;cases q<;>simp_all [Sh.known,Sh.isAgg]
     exact ev_load_loc hs.1 hs.2 hx hH hc
    ·cases h
  ·cases h
 ·cases h
theorem fieldC_sound {f:Nat} (h:fieldC Γ.τ t f (ai L x)=some (p,s)):Ev Γ k L H (.fieldAddr t x f) ty s:=by
 unfold fieldC at h;split at h
 ·rename_i l hs;split at h
  ·rename_i off fty sz hf;split at h
   ·rename_i hz;split at h
    ·rename_i ds hx;cases h;exact ev_field_pd (Γ:=Γ) hs hf hz hx
    ·rename_i i o hx;cases h;exact ev_field_loc (Γ:=Γ) hs hf hz hx
    ·rename_i i j es o hx;cases h;exact ev_field_prow (Γ:=Γ) hs hf hz hx
    ·cases h
   ·cases h
  ·cases h
 ·cases h
theorem cSV_own (v:Value) (B:Nat) (x:D):cSV v≠.d (.own B x):=by unfold cSV;split<;>simp
theorem ev_index_own {B es:Nat} {xs:List (List D)} {n:Int} (ht:Γ.sh t = .slice t') (hc:Γ.cells t'=es) (hkn:(Γ.sh t').known=true) (hx:ai L x = .d (.own B (.slice es xs))) (hy:ai L y = .d (.int .i64 n))
  (h0:0<=n) (h1:n.toNat<xs.length):Ev Γ k L H (.indexAddr t x y) ty (.pd (xs[n.toNat]'h1)):=by
 intro e a w m;have ho:=Sh.known_ne hkn;have hr:RepC (Γ.X e H) w (a.eval x) (.own B (.slice es xs)):=evT m hx (cSV_own · _ _);obtain⟨inf,z,hi,_,hs,_⟩:=Ctx.info ho;generalize hv:a.eval x=v at hr;cases hr with
 | own hr =>
  cases hr with
  | nil=>simp at h1
  | zero=>simp at h1
  | slice c hn hcc hm hX hb he hcell hrep hz =>
   rename_i b off n' cap;refine⟨.pointer (some ⟨b,off+n.toNat*es,none⟩),λ_ _ _ _ w' _=>?_,b,off+n.toNat*es,rfl,hb,λhx=>hX (.inl hx),λj hj=>⟨c n.toNat j,hcell _ h1 j hj,?_⟩⟩
   ·have hlt:n<(n':Int):=by omega
    simp [execOp,Instr.indexAt,hv,evI m hy,asIntOf,run_underlying (Ctx.slice ht),h0,hlt,cw hi,hs,hc,Addr.add_at]
   ·exact RepC.keep (Nat.le_refl _) (λ_ _ _=>rfl) (λ_ _ h=>.inl h) (hrep _ h1 j hj)
theorem indexC_sound (h:indexC Γ.τ t (ai L x) (ai L y)=some (p,s)) (hp:p):Ev Γ k L H (.indexAddr t x y) ty s:=by
 unfold indexC at h;split at h
 ·rename_i te ht;split at h
  ·rename_i es xs n hx hy;split at h
   ·rename_i hc;cases h;simp only [Ad] at hc;have h1:=ev_index_d (Γ:=Γ) (k:=k) (H:=H) (ty:=ty) ht (Aj hc.1) hc.2 hx hy hp.1 hp.2;have:rj xs n.toNat=xs[n.toNat]'hp.2:=by simp [rj,A9,Ab hp.2]
    rw [this];exact h1
   ·cases h
  ·rename_i B es xs n hx hy;split at h
   ·rename_i hc;cases h;simp only [Ad] at hc;have h1:=ev_index_own (Γ:=Γ) (k:=k) (H:=H) (ty:=ty) ht (Aj hc.1) hc.2 hx hy hp.1 hp.2;have:rj xs n.toNat=xs[n.toNat]'hp.2:=by simp [rj,A9,Ab hp.2]
    rw [this];exact h1
   ·cases h
  ·cases h
 ·cases h
theorem ev_index_row {i es:Nat} {xs:List (List D)} {te:TypeId} {n:Int} {j:Nat} (ht:Γ.sh t = .slice t') (hc:Γ.cells t'=es) (hkn:(Γ.sh t').known=true) (hx:ai L x = .row i) (hy:ai L y = .d (.int .i64 n))
  (hH:Hp.get H i=some (.row te es xs)) (hn:n=(j:Int)) (h1:j<xs.length):Ev Γ k L H (.indexAddr t x y) ty (.prow i j es 0):=by
 subst hn;intro e a w m;obtain⟨hid,hv,_⟩:=evT m hx (pu · _);obtain⟨vs,ho,_⟩:=(m.heap _ (Hp.mem_of hH)).2;obtain⟨inf,z,hi,_,hs,_⟩:=Ctx.info (Sh.known_ne hkn);rcases ho.2 with ⟨_,h3⟩|⟨g,cap,cur,h2,_⟩
 ·omega
 ·rw [h2] at hv;refine⟨.pointer (some ⟨g,j*es+0,none⟩),λ_ _ _ _ w' _=>?_,hid,g,_,_,h2,rfl⟩
  simp [execOp,Instr.indexAt,hv,evI m hy,asIntOf,run_underlying (Ctx.slice ht),h1,cw hi,hs,hc,Addr.add_at]
theorem prow_cells (m:Models Γ k L H e a w) {i j es o:Nat} {te:TypeId} {xs:List (List D)} (hx:ai L x = .prow i j es o) (hH:Hp.get H i=some (.row te es xs)) (hj:j<xs.length) :
  ∃ b off,a.eval x = .pointer (some ⟨b,off,none⟩)/\∀ q (h:q<((xs[j]'hj).drop o).length),∃ u,w.cell? ⟨b,off+q,none⟩=some u/\RepC (Γ.X e H) w u ((xs[j]'hj).drop o)[q]:=by
 obtain⟨_,g,n,cap,hη,hv⟩:=evT m hx (yb · _ _ _ _);obtain⟨vs,ho,hes,_,hrep⟩:=(m.heap _ (Hp.mem_of hH)).2;refine⟨g,_,hv,λq hq=>?_⟩
 rcases ho.2 with ⟨h2,h3⟩|⟨g',cap',cur,h2,_,hg,_,_,_,htake⟩
 ·omega
 ·rw [hη] at h2;cases h2;simp only [List.length_drop] at hq;obtain⟨v,p1,p2⟩:=hrep j hj (o+q) (by omega);refine⟨v,?_,by simpa using p2⟩
  rw [cell_of_row w g _ cur te (0,0) hg];have hc:(cur.toList.take (xs.length*es))[j*es+(o+q)]?=some v:=by rw [htake];exact p1
  rw [List.getElem?_take] at hc;split at hc
  ·rw [Array.getElem?_toList] at hc;rw [Nat.add_assoc,hc]
  ·cases hc
theorem ev_load_cell {d0:D} {ds:List D} (hkn:(Γ.sh t).known=true) (hg:(Γ.sh t).isAgg=false)
  (hx:∀ e a w,Models Γ k L H e a w->∃ b off,a.eval x = .pointer (some ⟨b,off,none⟩)/\∀ q (h:q<(d0::ds).length),∃ u,w.cell? ⟨b,off+q,none⟩=some u/\RepC (Γ.X e H) w u (d0::ds)[q]):Ev Γ k L H (.load t x) ty (.d d0):=by
 intro e a w m;obtain⟨b,off,hv,hcell⟩:=hx e a w m;obtain⟨u,g1,g2⟩:=hcell 0 (by simp);exact⟨u,λ_ _ _ _ w' hw=>sc (Sh.known_ne hkn) hg hv (f9 hw g1) _ _ _ _,g2⟩
theorem ev_load_cells {ds:List D} {l} (ht:Γ.sh t = .struct l) (hnb:B6 (Γ.cells t) ds.length=true)
  (hx:∀ e a w,Models Γ k L H e a w->∃ b off,a.eval x = .pointer (some ⟨b,off,none⟩)/\∀ q (h:q<ds.length),∃ u,w.cell? ⟨b,off+q,none⟩=some u/\RepC (Γ.X e H) w u ds[q]):Ev Γ k L H (.load t x) ty (.agg ((ds.take (Γ.cells t)).map .d)):=by
 intro e a w m;have hn:=Ac hnb;obtain⟨b,off,hv,hcell⟩:=hx e a w m;have ho:Γ.sh t≠.other:=by rw [ht];intro h;cases h
 have key:∀ n,n<=ds.length->∃ vs:List Value,vs.length=n/\(∀ j v,vs[j]?=some v->w.cell? ((⟨b,off,none⟩:Addr).add j)=some v)/\RelL (Γ.X e H) e w ((ds.take n).map .d) vs:=by
  intro n;induction n with
  | zero=>intro _;exact⟨[],rfl,by simp,by simp [RelL]⟩
  | succ n ih =>
   intro hle;obtain⟨vs,h1,h2,h3⟩:=ih (by omega);obtain⟨u,g1,g2⟩:=hcell n (by omega);refine⟨vs++[u],by simp [h1],λj v hj=>?_,?_⟩
   ·by_cases hlt:j<vs.length
    ·rw [List.getElem?_append_left hlt] at hj;exact h2 j v hj
    ·rw [List.getElem?_append_right (by omega)] at hj;have:j=n:=by
      rcases Nat.lt_or_ge (j-vs.length) 1 with h|h
      ·omega
      ·rw [Ba (by simpa using h)] at hj;cases hj
     subst this;rw [Addr.add_at];simp [h1] at hj;rw [<- hj];exact g1
   ·rw [List.take_succ_eq_append_getElem (by omega),List.map_append];exact RelL.append _ _ _ _ h3 ⟨g2,trivial⟩
 obtain⟨vs,g1,g2,g3⟩:=key _ hn;refine⟨.agg vs.toArray,λ_ _ _ _ w' hw=>?_,⟨vs,rfl,g3⟩⟩
 have hr:=m8 (Γ:=Γ) (t:=t) (w':=w') (p:=⟨b,off,none⟩) ho (by rw [ht];rfl) g1 (λj v hj=>f9 hw (g2 j v hj));simp [execOp,Instr.loadAt,hv,Instr.sureAddr,hr]
theorem ev_load_prow {i j es o:Nat} {te:TypeId} {xs:List (List D)} {ds:List D} {p:Prop} {s:SV} (hx:ai L x = .prow i j es o) (hH:Hp.get H i=some (.row te es xs)) (hj:j<xs.length) (hds:xs[j]=ds)
  (h:sp Γ.τ t (.pd (ds.drop o)) (λ_=>none)=some (p,s)):Ev Γ k L H (.load t x) ty s:=by
 have hcs:∀ e a w,Models Γ k L H e a w->∃ b off,a.eval x = .pointer (some ⟨b,off,none⟩)/\∀ q (h:q<(ds.drop o).length),∃ u,w.cell? ⟨b,off+q,none⟩=some u/\RepC (Γ.X e H) w u (ds.drop o)[q] :=
  λe a w m=>by subst hds;exact prow_cells m hx hH hj
 simp only [sp,fj] at h;generalize ds.drop o=ds' at *;split at h
 ·cases h
 ·rename_i l ht;split at h
  ·rename_i hb;cases h;exact ev_load_cells (Γ:=Γ) ht hb hcs
  ·cases h
 ·rename_i h1 h2;split at h
  ·cases h;have hs:(Γ.sh t).known=true/\(Γ.sh t).isAgg=false:=by
    show (aj Γ.τ t).sh.known=true/\(aj Γ.τ t).sh.isAgg=false;generalize (aj Γ.τ t).sh=q at *;cases q<;>simp_all [Sh.known,Sh.isAgg]
   exact ev_load_cell hs.1 hs.2 hcs
  ·cases h
theorem loadP_sound (h:loadP Γ.τ t (ai L x) (Hp.get H)=some (p,s)) (hp:p):Ev Γ k L H (.load t x) ty s:=by
 unfold loadP at h;split at h
 ·rename_i i j es o hx;split at h
  ·rename_i te es' xs hH;split at h
   ·rename_i hc;cases h;simp only [Ad] at hc;obtain⟨c1,c2,c3,c4⟩:=hc;have c1:=Aj c1;subst c1;have c4:=Ac c4;have c3:=Ac c3;have hr:rj xs j=xs[j]'hp:=by simp [rj,A9,Ab hp]
    rw [hr];intro e a w m;have hlen:(xs[j]'hp).length=es:=((m.heap _ (Hp.mem_of hH)).2.choose_spec.2.1) j hp;have hsome:∃ q,sp Γ.τ t (.pd ((xs[j]'hp).drop o)) (λ_=>none)=some q:=by
     simp only [sp,fj];have hl:((xs[j]'hp).drop o).length=es-o:=by simp [hlen]
     generalize (xs[j]'hp).drop o=ds at hl;have hk:(aj Γ.τ t).sh.known=true:=c2;split
     ·rename_i hs;rw [hs] at hk;cases hk
     ·rw [Nat.ble_eq_true_of_le (show (aj Γ.τ t).cells<=ds.length by omega)];exact⟨_,rfl⟩
     ·cases ds with
      | nil=>simp at hl;omega
      | cons d ds=>exact⟨_,rfl⟩
    obtain⟨⟨p',s'⟩,hq⟩:=hsome;have:=ev_load_prow (Γ:=Γ) (k:=k) (ty:=ty) hx hH hp rfl hq e a w m
    unfold loadRow;rw [hq];exact this
   ·cases h
  ·cases h
 ·exact loadC_sound h
theorem cSV_sl (v:Value) (i o n c:Nat):cSV v≠.sl i o n c:=by
 unfold cSV;split<;>exact λh=>by cases h
theorem cSV_rsl (v:Value) (i o n c:Nat):cSV v≠.rsl i o n c:=by
 unfold cSV;split<;>exact λh=>by cases h
theorem ev_len_sl {i o n c:Nat} (ht:Γ.sh t = .slice t') (hx:ai L x = .sl i o n c):Ev Γ k L H (.call { callee:=.builtin .len,args:=#[x],argTypes:=#[t] }) ty (.d (.int .i64 n)):=by
 intro e a w m;obtain⟨_,h1,h2,o',hv,_⟩:=evT m hx (cSV_sl · _ _ _ _);refine⟨.int .i64 n,λ_ _ _ _ w' _=>?_,.int (WalkArith.wf_i64 (by unfold maxLen at h2;omega))⟩
 simp [execOp,resolve,invoke,builtin,hv,Builtin.len_,goInt,run_underlying (Ctx.slice ht)]
theorem ev_index_sl {i o len c:Nat} {n:Int} (ht:Γ.sh t = .slice t') (hkn:(Γ.sh t').known=true) (hx:ai L x = .sl i o len c) (hy:ai L y = .d (.int .i64 n)) (h0:0<=n) (h1:n.toNat<len):Ev Γ k L H (.indexAddr t x y) ty (.loc i (o+n.toNat*Γ.cells t')):=by
 intro e a w m;have ho:=Sh.known_ne hkn;obtain⟨hd,h2,_,o',hv,ho'⟩:=evT m hx (cSV_sl · _ _ _ _);obtain⟨inf,z,hi,_,hs,_⟩:=Ctx.info ho;have:=ho' (by omega)
 subst this;refine⟨.pointer (some ⟨e.β i,o'+n.toNat*Γ.cells t',none⟩),λ_ _ _ _ w' _=>?_,⟨hd,rfl⟩⟩
 have hlt:n<(len:Int):=by omega
 simp [execOp,Instr.indexAt,hv,evI m hy,asIntOf,run_underlying (Ctx.slice ht),h0,hlt,cw hi,hs,Addr.add_at]
theorem pz {k:Nat->Prop} (m:Models Γ k L H e a w) (ao:Option Addr) {len cap:Nat} {lo hi:Option Operand} {n m':Int} (ht:Γ.sh t = .slice t') (hkn:(Γ.sh t').known=true) (hl:vk (lo.map (ai L))=some n) (hh:mq len (hi.map (ai L))=some m')
  (h0:0<=n) (h1:n<=m') (h2:m'<=cap) (w':World):(Instr.slice t (.slice ao len cap) (lo.map a.eval) (hi.map a.eval) none).run Γ.P w' = .ok (sliced ao n.toNat m'.toNat cap (Γ.cells t')) w':=by
 obtain⟨inf,z,hi',_,hs,_⟩:=Ctx.info (Sh.known_ne hkn);have hel:Γ.P.underlying t=some (.slice (Γ.P.elem t)):=by
  have h:=Ctx.slice ht;rw [h];simp [Program.elem,h]
 have hE:Γ.P.elem t=t':=by
  have h:=Ctx.slice ht;simp [Program.elem,h]
 have hso:(sizeOf (Γ.P.elem t)).run Γ.P w' = .ok (Γ.cells t') w':=by rw [hE,cw hi',hs]
 have lo1:∀ z,lo=some z->ai L z = .d (.int .i64 n):=by
  rintro z rfl;simp only [B3] at hl;generalize ai L z=sz at hl;unfold vk at hl;split at hl
  ·rename_i h;cases h
  ·rename_i h;cases h;cases hl;rfl
  ·cases hl
 have hi1:∀ z,hi=some z->ai L z = .d (.int .i64 m'):=by
  rintro z rfl;simp only [B3] at hh;generalize ai L z=sz at hh;unfold mq at hh;split at hh
  ·rename_i h;cases h
  ·rename_i h;cases h;cases hh;rfl
  ·cases hh
 cases lo with
 | none =>
  cases hl;cases hi with
  | none =>
   cases hh;have:=run_slice_all (P:=Γ.P) (w:=w') t ao len cap hel
   rw [hso] at this;simpa [Result.andThen] using this
  | some z =>
   have:=run_slice_h (P:=Γ.P) (w:=w') t ao len cap hel .i64 m' (by omega) (by omega)
   rw [hso] at this;simpa [Result.andThen,evI m (hi1 z rfl)] using this
 | some y =>
  cases hi with
  | none =>
   cases hh;have:=run_slice_l (P:=Γ.P) (w:=w') t ao len cap hel .i64 n h0 h1
   rw [hso] at this;simpa [Result.andThen,evI m (lo1 y rfl)] using this
  | some z =>
   have:=run_slice_lh (P:=Γ.P) (w:=w') t ao len cap hel .i64 .i64 n m' h0 h1 (by omega)
   rw [hso] at this;simpa [Result.andThen,evI m (lo1 y rfl),evI m (hi1 z rfl)] using this
theorem ev_slice_sl {i o len cap:Nat} {lo hi:Option Operand} {n m':Int} (ht:Γ.sh t = .slice t') (hkn:(Γ.sh t').known=true) (hx:ai L x = .sl i o len cap) (hl:vk (lo.map (ai L))=some n) (hh:mq len (hi.map (ai L))=some m')
  (h0:0<=n) (h1:n<=m') (h2:m'<=cap):Ev Γ k L H (.slice t x lo hi none) ty (.sl i (o+n.toNat*Γ.cells t') (m'.toNat-n.toNat) (cap-n.toNat)):=by
 intro e a w m;obtain⟨hd,hlc,hmx,o',hv,ho'⟩:=evT m hx (cSV_sl · _ _ _ _);obtain⟨inf,z,hi',_,hs,_⟩:=Ctx.info (Sh.known_ne hkn);have hrun:=λw'=>pz m (some ⟨e.β i,o',none⟩) ht hkn hl hh h0 h1 h2 w'
 refine⟨sliced (some ⟨e.β i,o',none⟩) n.toNat m'.toNat cap (Γ.cells t'),λ_ _ _ _ w' _=>by simp [execOp,Instr.sliceAt,hv,run_underlying (Ctx.slice ht),hrun w'],hd,by omega,by omega,?_⟩
 unfold sliced;by_cases hc:cap=n.toNat
 ·rw [if_pos hc];exact⟨o',rfl,λh=>by omega⟩
 ·rw [if_neg hc,B3,Addr.add_at];exact⟨_,rfl,λ_=>by rw [ho' (by omega)]⟩
theorem ev_len_rsl {i es j n:Nat} (ht:Γ.sh t = .slice t') (hx:ai L x = .rsl i es j n):Ev Γ k L H (.call { callee:=.builtin .len,args:=#[x],argTypes:=#[t] }) ty (.d (.int .i64 n)):=by
 intro e a w m;obtain⟨hd,_,hc⟩:=evT m hx (cSV_rsl · _ _ _ _);rcases hc with ⟨_,hv,_,rfl⟩|⟨g,n0,cap,o,hη,hk,hmx,hn,hv,_⟩
 ·refine⟨.int .i64 0,λ_ _ _ _ w' _=>?_,.int (WalkArith.wf_i64 (by omega))⟩
  simp [execOp,resolve,invoke,builtin,hv,Builtin.len_,goInt,run_underlying (Ctx.slice ht)]
 ·refine⟨.int .i64 n,λ_ _ _ _ w' _=>?_,.int (WalkArith.wf_i64 (by unfold maxLen at hmx;omega))⟩
  simp [execOp,resolve,invoke,builtin,hv,Builtin.len_,goInt,run_underlying (Ctx.slice ht)]
theorem ev_index_rsl {i es j len:Nat} {n:Int} (ht:Γ.sh t = .slice t') (hc:Γ.cells t'=es) (hkn:(Γ.sh t').known=true) (hx:ai L x = .rsl i es j len) (hy:ai L y = .d (.int .i64 n)) (h0:0<=n) (h1:n.toNat<len):Ev Γ k L H (.indexAddr t x y) ty (.prow i (j+n.toNat) es 0):=by
 intro e a w m;obtain⟨hd,_,hcs⟩:=evT m hx (cSV_rsl · _ _ _ _);obtain⟨inf,z,hi,_,hs,_⟩:=Ctx.info (Sh.known_ne hkn);rcases hcs with ⟨_,hv,_,rfl⟩|⟨g,n0,cap,o,hη,hk,hmx,hn,hv,ho⟩
 ·omega
 ·have:=ho (.inl (by omega))
  subst this;refine⟨.pointer (some ⟨g,(j+n.toNat)*es+0,none⟩),λ_ _ _ _ w' _=>?_,hd,g,n0,cap,hη,rfl⟩
  have hlt:n<(len:Int):=by omega
  simp [execOp,Instr.indexAt,hv,evI m hy,asIntOf,run_underlying (Ctx.slice ht),h0,hlt,cw hi,hs,hc,Addr.add_at,B4]
theorem ev_slice_nils {lo hi:Option Operand} {n m':Int} (ht:Γ.sh t = .slice t') (hkn:(Γ.sh t').known=true) (hx:ai L x = .nils) (hl:vk (lo.map (ai L))=some n) (hh:mq 0 (hi.map (ai L))=some m') (h0:n=0/\m'=0):Ev Γ k L H (.slice t x lo hi none) ty .nils:=by
 obtain⟨rfl,rfl⟩:=h0;intro e a w m;have hv:a.eval x = .slice none 0 0:=by
  have hok:opOk x:=by
   cases x with
   | const v=>simp only [ai] at hx;unfold cSV at hx;split at hx<;>simp_all [opOk,cOk]
   | _=>trivial
  have:=m.op x hok
  rw [hx] at this;exact this
 have hrun:=λw'=>pz m none ht hkn hl hh (Int.le_refl _) (Int.le_refl _) (cap:=0) (by omega) w'
 exact⟨.slice none 0 0,λ_ _ _ _ w' _=>by simp [execOp,Instr.sliceAt,hv,run_underlying (Ctx.slice ht),hrun w',sliced],rfl⟩
theorem ev_slice_row {i es:Nat} {te:TypeId} {xs:List (List D)} {lo hi:Option Operand} {n m':Int} (ht:Γ.sh t = .slice t') (hc:Γ.cells t'=es) (hkn:(Γ.sh t').known=true) (hx:ai L x = .row i) (hH:Hp.get H i=some (.row te es xs)) (hl:vk (lo.map (ai L))=some n) (hh:mq xs.length (hi.map (ai L))=some m')
  (h0:0<=n) (h1:n<=m') (h2:m'<=xs.length):Ev Γ k L H (.slice t x lo hi none) ty (.rsl i es n.toNat (m'.toNat-n.toNat)):=by
 intro e a w m;obtain⟨hd,hv,_⟩:=evT m hx (pu · _);obtain⟨vs,ho,_⟩:=(m.heap _ (Hp.mem_of hH)).2;rcases ho.2 with ⟨hη,h3⟩|⟨g,cap,cur,hη,_,_,hnc,hmx,_⟩
 ·rw [hη] at hv;have hx0:xs.length=0:=h3;have e1:n.toNat=0:=by omega
  have e2:m'.toNat=0:=by omega
  have hrun:=λw'=>pz m none ht hkn hl (hx0▸hh) h0 h1 (cap:=0) (by omega) w'
  refine⟨.slice none 0 0,λ_ _ _ _ w' _=>by simp [execOp,Instr.sliceAt,hv,run_underlying (Ctx.slice ht),hrun w',sliced,e1,e2],hd,rfl,.inl ⟨hη,rfl,e1,by omega⟩⟩
 ·rw [hη] at hv;have hrun:=λw'=>pz m (some ⟨g,0,none⟩) ht hkn hl hh h0 h1 (cap:=cap) (by omega) w'
  refine⟨sliced (some ⟨g,0,none⟩) n.toNat m'.toNat cap (Γ.cells t'),λ_ _ _ _ w' _=>by simp [execOp,Instr.sliceAt,hv,run_underlying (Ctx.slice ht),hrun w'],hd,rfl,.inr ⟨g,xs.length,cap,if cap=n.toNat then 0 else n.toNat*es,hη,by omega,hmx,by omega,?_,?_⟩⟩
  ·unfold sliced;split
   ·rename_i h;rw [h]
   ·rw [B3,Addr.add_at,hc,Nat.zero_add]
  ·intro h;split
   ·rcases h with h|h
    ·omega
    ·rw [h,Nat.zero_mul]
   ·rfl
theorem ev_slice_rsl {i es j len:Nat} {lo hi:Option Operand} {n m':Int} (ht:Γ.sh t = .slice t') (hc:Γ.cells t'=es) (hkn:(Γ.sh t').known=true) (hx:ai L x = .rsl i es j len) (hl:vk (lo.map (ai L))=some n) (hh:mq len (hi.map (ai L))=some m')
  (h0:0<=n) (h1:n<=m') (h2:m'<=len):Ev Γ k L H (.slice t x lo hi none) ty (.rsl i es (j+n.toNat) (m'.toNat-n.toNat)):=by
 intro e a w m;obtain⟨hd,_,hcs⟩:=evT m hx (cSV_rsl · _ _ _ _);rcases hcs with ⟨hη,hv,rfl,rfl⟩|⟨g,n0,cap,o,hη,hk,hmx,hn,hv,ho⟩
 ·have e1:n.toNat=0:=by omega
  have e2:m'.toNat=0:=by omega
  have hrun:=λw'=>pz m none ht hkn hl hh h0 h1 (cap:=0) (by omega) w'
  refine⟨.slice none 0 0,λ_ _ _ _ w' _=>by simp [execOp,Instr.sliceAt,hv,run_underlying (Ctx.slice ht),hrun w',sliced,e1,e2],hd,rfl,.inl ⟨hη,rfl,by omega,by omega⟩⟩
 ·have hrun:=λw'=>pz m (some ⟨g,o,none⟩) ht hkn hl hh h0 h1 (cap:=cap-j) (by omega) w'
  refine⟨sliced (some ⟨g,o,none⟩) n.toNat m'.toNat (cap-j) (Γ.cells t'),λ_ _ _ _ w' _=>by simp [execOp,Instr.sliceAt,hv,run_underlying (Ctx.slice ht),hrun w'],hd,rfl,.inr ⟨g,n0,cap,if cap-j=n.toNat then o else o+n.toNat*es,hη,by omega,hmx,by omega,?_,?_⟩⟩
  ·unfold sliced;rw [Nat.sub_sub];split
   ·rfl
   ·rw [B3,Addr.add_at,hc]
  ·intro h;split
   ·rcases h with h|h
    ·omega
    ·rw [ho (.inr (by omega)),h,show j=0 by omega]
   ·rw [ho (by omega),B4]
theorem indexP_sound (h:indexP Γ.τ t (ai L x) (ai L y) (Hp.get H)=some (p,s)) (hp:p):Ev Γ k L H (.indexAddr t x y) ty s:=by
 unfold indexP at h;split at h
 ·rename_i i hx;split at h
  ·rename_i te n te' es xs ht hy hH;split at h
   ·rename_i hc;cases h;simp only [Ad] at hc;exact ev_index_row (Γ:=Γ) ht (Aj hc.1) hc.2 hx hy hH (Az hp.1).symm hp.2
   ·cases h
  ·cases h
 ·rename_i i o len c hx;split at h
  ·rename_i te n ht hy;split at h
   ·rename_i hc;cases h;exact ev_index_sl (Γ:=Γ) ht hc hx hy hp.1 hp.2
   ·cases h
  ·cases h
 ·rename_i i es j len hx;split at h
  ·rename_i te n ht hy;split at h
   ·rename_i hc;cases h;simp only [Ad] at hc;exact ev_index_rsl (Γ:=Γ) ht (Aj hc.1) hc.2 hx hy hp.1 hp.2
   ·cases h
  ·cases h
 ·exact indexC_sound h hp
theorem strAtC_sound (h:strAtC Γ.τ t (ai L x) (ai L y)=some (p,s)) (hp:p):Ev Γ k L H (.index t x y) ty s:=by
 unfold strAtC at h;split at h
 ·rename_i ht;split at h
  ·rename_i u n hx hy;cases h;rw [sat_eq hp.2];exact ev_index_str (Γ:=Γ) ht hx hy hp.1 hp.2
  ·cases h
 ·cases h
theorem ev_len_own {B es:Nat} {xs:List (List D)} (ht:Γ.sh t = .slice t') (hx:ai L x = .d (.own B (.slice es xs))):Ev Γ k L H (.call { callee:=.builtin .len,args:=#[x],argTypes:=#[t] }) ty (.d (.int .i64 xs.length)):=by
 intro e a w m;have hr:RepC (Γ.X e H) w (a.eval x) (.own B (.slice es xs)):=evT m hx (cSV_own · _ _);generalize hv:a.eval x=v at hr;cases hr with
 | own h =>
  obtain⟨ao,cap,rfl,h1,h2,_⟩:=h.slice_inv;refine⟨.int .i64 xs.length,λ_ _ _ _ w' _=>?_,.int (WalkArith.wf_i64 (by unfold maxLen at h2;omega))⟩
  simp [execOp,resolve,invoke,builtin,hv,Builtin.len_,goInt,run_underlying (Ctx.slice ht)]
theorem lenC_sound (h:lenC Γ.τ t (ai L x) (Hp.get H)=some (p,s)) (hx:de x=true):Ev Γ k L H (.call { callee:=.builtin .len,args:=#[x],argTypes:=#[t] }) ty s:=by
 unfold lenC at h;split at h
 ·rename_i te ht;split at h
  ·rename_i hx;cases h;exact ev_len_d (Γ:=Γ) ht hx
  ·rename_i hx;cases h;exact ev_len_own (Γ:=Γ) ht hx
  ·rename_i hx;cases h;exact ev_len_nils (Γ:=Γ) ht hx
  ·rename_i i hx;split at h
   ·rename_i hH;cases h;exact ev_len_row (Γ:=Γ) ht hx hH
   ·cases h
  ·rename_i hx;cases h;exact ev_len_sl (Γ:=Γ) ht hx
  ·rename_i hx;cases h;exact ev_len_rsl (Γ:=Γ) ht hx
  ·cases h
 ·rename_i ht;split at h
  ·rename_i u hu;cases h;exact ev_len_str (Γ:=Γ) ht hu hx
  ·cases h
 ·cases h
theorem ev_slice_strO {u:ByteArray} {lo hi:Option Operand} {n m':Int} (ht:Γ.sh t = .str) (hx:ai L x = .d (.str u)) (hxo:de x=true) (hl:vk (lo.map (ai L))=some n) (hh:mq u.size (hi.map (ai L))=some m')
  (h0:0<=n) (h1:n<=m') (h2:m'<=u.size):Ev Γ k L H (.slice t x lo hi none) ty (.d (.str (u.extract n.toNat m'.toNat))):=by
 intro e a w m;have hs:u.size<=maxLen:=by
  have hr:=m.op x (b7 hxo);rw [hx] at hr;generalize a.eval x=v at hr;cases hr;assumption
 have h3:0<=m':=by omega
 have h4:n<=(m'.toNat:Int):=by omega
 refine⟨.string (u.extract n.toNat m'.toNat),λ_ _ _ _ w' _=>?_,.str (by simp [ByteArray.size_extract];omega)⟩
 have key:∀ (z:Operand) (r:Int),ai L z = .d (.int .i64 r)->a.eval z = .int .i64 r:=λz r hz=>evI m hz
 cases lo with
 | none =>
  simp only [Gf,vk,Option.some.injEq] at hl;subst hl;cases hi with
  | none =>
   simp only [Gf,mq,Option.some.injEq] at hh;subst hh;simp [execOp,Instr.sliceAt,Instr.slice,Instr.sliceBounds,evS m hx,run_underlying (Ctx.str ht)]
  | some z =>
   have hz:ai L z = .d (.int .i64 m'):=by
    simp only [B3] at hh;unfold mq at hh;split at hh<;>simp_all
   simp [execOp,Instr.sliceAt,Instr.slice,Instr.sliceBounds,Instr.sliceBound,evS m hx,key z _ hz,asIntOf,run_underlying (Ctx.str ht),h2,h3]
 | some q =>
  have hq:ai L q = .d (.int .i64 n):=by
   simp only [B3] at hl;unfold vk at hl;split at hl<;>simp_all
  cases hi with
  | none =>
   simp only [Gf,mq,Option.some.injEq] at hh;subst hh;simp [execOp,Instr.sliceAt,Instr.slice,Instr.sliceBounds,Instr.sliceBound,evS m hx,key q _ hq,asIntOf,run_underlying (Ctx.str ht),h0,h1]
  | some z =>
   have hz:ai L z = .d (.int .i64 m'):=by
    simp only [B3] at hh;unfold mq at hh;split at hh<;>simp_all
   simp [execOp,Instr.sliceAt,Instr.slice,Instr.sliceBounds,Instr.sliceBound,evS m hx,key q _ hq,key z _ hz,asIntOf,run_underlying (Ctx.str ht),h0,h2,h3];intro hc;omega
theorem ev_sliceD {es:Nat} {xs:List (List D)} {lo hi:Option Operand} {n m':Int} (ht:Γ.sh t = .slice t') (hc:Γ.cells t'=es) (hkn:(Γ.sh t').known=true) (hx:ai L x = .d (.slice es xs)) (hl:vk (lo.map (ai L))=some n) (hh:mq xs.length (hi.map (ai L))=some m')
  (h0:0<=n) (h1:n<=m') (h2:m'<=xs.length):Ev Γ k L H (.slice t x lo hi none) ty (.d (.slice es ((xs.take m'.toNat).drop n.toNat))):=by
 intro e a w m;have hrep:=evT m hx (og · _ _);obtain⟨inf,z,hi',_,hs,_⟩:=Ctx.info (Sh.known_ne hkn);obtain⟨ao,cap,hv,hlen,hmx,hnil⟩:=hrep.slice_inv;have eN:((n.toNat:Nat):Int)=n:=Az h0;have eM:((m'.toNat:Nat):Int)=m':=Az (by omega);have hel:Γ.P.underlying t=some (.slice (Γ.P.elem t)):=by
  have h:=Ctx.slice ht;rw [h];simp [Program.elem,h]
 have hE:Γ.P.elem t=t':=by
  have h:=Ctx.slice ht;simp [Program.elem,h]
 have hrun:∀ w',(Instr.slice t (.slice ao xs.length cap) (lo.map a.eval) (hi.map a.eval) none).run Γ.P w' = .ok (sliced ao n.toNat m'.toNat cap es) w':=by
  intro w';have hso:(sizeOf (Γ.P.elem t)).run Γ.P w' = .ok es w':=by rw [hE,cw hi',hs,hc]
  have lo1:∀ z,lo=some z->ai L z = .d (.int .i64 n):=by
   rintro z rfl;simp only [B3] at hl;generalize ai L z=sz at hl;unfold vk at hl;split at hl
   ·rename_i h;cases h
   ·rename_i h;cases h;cases hl;rfl
   ·cases hl
  have hi1:∀ z,hi=some z->ai L z = .d (.int .i64 m'):=by
   rintro z rfl;simp only [B3] at hh;generalize ai L z=sz at hh;unfold mq at hh;split at hh
   ·rename_i h;cases h
   ·rename_i h;cases h;cases hh;rfl
   ·cases hh
  cases lo with
  | none =>
   cases hl;cases hi with
   | none =>
    cases hh;have:=run_slice_all (P:=Γ.P) (w:=w') t ao xs.length cap hel
    rw [hso] at this;simpa [Result.andThen] using this
   | some z =>
    have:=run_slice_h (P:=Γ.P) (w:=w') t ao xs.length cap hel .i64 m' (by omega) (by omega)
    rw [hso] at this;simpa [Result.andThen,evI m (hi1 z rfl)] using this
  | some y =>
   cases hi with
   | none =>
    cases hh;have:=run_slice_l (P:=Γ.P) (w:=w') t ao xs.length cap hel .i64 n h0 h1
    rw [hso] at this;simpa [Result.andThen,evI m (lo1 y rfl)] using this
   | some z =>
    have:=run_slice_lh (P:=Γ.P) (w:=w') t ao xs.length cap hel .i64 .i64 n m' h0 h1 (by omega)
    rw [hso] at this;simpa [Result.andThen,evI m (lo1 y rfl),evI m (hi1 z rfl)] using this
 refine⟨sliced ao n.toNat m'.toNat cap es,λ_ _ _ _ w' _=>?_,?_⟩
 ·simp [execOp,Instr.sliceAt,hv,run_underlying (Ctx.slice ht),hrun w']
 ·rw [hv] at hrep;have hN:n.toNat<=m'.toNat:=by omega
  have hM:m'.toNat<=xs.length:=by omega
  generalize n.toNat=N at hN;generalize m'.toNat=M at hN hM;clear hrun hh hl;have hlen2:((xs.take M).drop N).length=M-N:=by simp;omega
  unfold sliced;generalize hq:xs.length=q at hrep hM hlen;cases hrep with
  | nil =>
   have hN0:N=0:=by simp at hq;omega
   have hM0:M=0:=by simp at hq;omega
   subst hN0;subst hM0;exact .nil
  | zero =>
   have hN0:N=0:=by simp at hq;omega
   have hM0:M=0:=by simp at hq;omega
   subst hN0;subst hM0;exact .zero
  | slice c hn hcc hm hX hb he hcell hrep hz =>
   rename_i b off;by_cases hcn:cap=N
   ·rw [if_pos hcn];have h0:(xs.take M).drop N=[]:=Bm (by omega);rw [h0,show M-N=0 by omega,show cap-N=0 by omega];exact .zero
   ·rw [if_neg hcn,B3,Addr.add_at];have hget:∀ i (h:i<((xs.take M).drop N).length),((xs.take M).drop N)[i]'h=xs[N+i]'(by omega):=by intro i h;simp
    refine .slice (λi j=>c (N+i) j) hlen2.symm (by omega) (by omega) hX hb (λi h=>?_) (λi h j hj=>?_) (λi h j hj=>?_) (λhF i h j hj=>?_)
    ·rw [hget i h];exact he _ _
    ·have hj2:j<(xs[N+i]'(by omega)).length:=by rw [<- hget i h];exact hj
     have:=hcell (N+i) (by omega) j hj2
     rw [show off+(N+i)*es+j=off+N*es+i*es+j by rw [B4];omega] at this;exact this
    ·have hj2:j<(xs[N+i]'(by omega)).length:=by rw [<- hget i h];exact hj
     have h3:=hrep (N+i) (by omega) j hj2;have h4:(((xs.take M).drop N)[i]'h)[j]'hj=(xs[N+i]'(by omega))[j]'hj2:=by simp only [hget i h]
     rw [h4];exact h3
    ·have hj2:j<(xs[N+i]'(by omega)).length:=by rw [<- hget i h];exact hj
     have:=hz hF (N+i) (by omega) j hj2
     rw [show off+(N+i)*es+j=off+N*es+i*es+j by rw [B4];omega] at this;exact this
theorem sliceC_sound {lo hi:Option Operand} (h:sliceC Γ.τ t (ai L x) (lo.map (ai L)) (hi.map (ai L)) (Hp.get H)=some (p,s)) (hp:p) (hx:de x=true):Ev Γ k L H (.slice t x lo hi none) ty s:=by
 unfold sliceC at h;split at h
 ·rename_i ht;split at h
  ·rename_i u hu;split at h
   ·rename_i n m' hl hh;cases h;exact ev_slice_strO (Γ:=Γ) ht hu hx hl hh hp.1 hp.2.1 hp.2.2
   ·cases h
  ·cases h
 ·rename_i te ht;split at h
  ·rename_i i o len cap hu;split at h
   ·rename_i n m' hl hh hkn;cases h;exact ev_slice_sl (Γ:=Γ) ht hkn hu hl hh hp.1 hp.2.1 hp.2.2
   ·cases h
  ·rename_i hu;split at h
   ·rename_i n m' hl hh hkn;cases h;exact ev_slice_nils (Γ:=Γ) ht hkn hu hl hh hp
   ·cases h
  ·rename_i es xs hu;split at h
   ·rename_i n m' hl hh hc;cases h;simp only [Ad] at hc;exact ev_sliceD (Γ:=Γ) ht (Aj hc.1) hc.2 hu hl hh hp.1 hp.2.1 hp.2.2
   ·cases h
  ·rename_i i hu;split at h
   ·rename_i te' es xs hH;split at h
    ·rename_i n m' hl hh hc;cases h;simp only [Ad] at hc;exact ev_slice_row (Γ:=Γ) ht (Aj hc.1) hc.2 hu hH hl hh hp.1 hp.2.1 hp.2.2
    ·cases h
   ·cases h
  ·rename_i i es j len hu;split at h
   ·rename_i n m' hl hh hc;cases h;simp only [Ad] at hc;exact ev_slice_rsl (Γ:=Γ) ht (Aj hc.1) hc.2 hu hl hh hp.1 hp.2.1 hp.2.2
   ·cases h
  ·cases h
 ·cases h
theorem ev_conv_chr {n:Int} {td:TypeId} (ht:Γ.sh t = .int .u8) (hd:Γ.sh td = .str) (hx:ai L x = .d (.int .u8 n)) (hb:0<=n/\n<128):Ev Γ k L H (.convert t td x) ty (.d (.str ⟨#[UInt8.ofNat n.toNat]⟩)):=by
 intro e a w m;have h1:Γ.P.underlying t=some (.int .u8):=by
  obtain⟨u,inf,z,h1,_,_,h4,_⟩:=iq (Γ.ti (by rw [ht];intro h;cases h));rw [h1];have:nx Γ.P u = .int .u8:=h4▸ht
  cases u<;>simp [nx] at this ⊢
  exact this
 have h2:=Ctx.str (Γ:=Γ) hd;have henc:Utf8.encode n=⟨#[UInt8.ofNat n.toNat]⟩:=by
  have hv:Utf8.valid n=true:=by
   unfold Utf8.valid;simp;omega
  unfold Utf8.encode;simp only [hv,if_true];rw [if_pos (by omega)]
 refine⟨.string ⟨#[UInt8.ofNat n.toNat]⟩,λ_ _ _ _ w' _=>?_,.str (by show 1<=maxLen;decide)⟩
 simp [execOp,Go.convert,evI m hx,run_underlying h1,run_underlying h2,Conv.intToString,henc]
theorem Ctx.int {t:TypeId} {i:IntKind} (h:Γ.sh t = .int i):Γ.P.underlying t=some (.int i):=by
 obtain⟨u,inf,z,h1,_,_,h4,_⟩:=iq (Γ.ti (by rw [h];intro h;cases h));rw [h1];have:nx Γ.P u = .int i:=h4▸h
 cases u<;>simp [nx] at this ⊢
 exact this
theorem ev_conv_int {i j kk:IntKind} {n:Int} {td:TypeId} (ht:Γ.sh t = .int kk) (hd:Γ.sh td = .int j) (hx:ai L x = .d (.int i n)) (h:u9 j n=some (p,s)) (hp:p):Ev Γ k L H (.convert t td x) ty s:=by
 have hrun:∀ (a:Act) (dst:Option Tmp) pos after guard (w':World),a.eval x = .int i n->(execOp a.eval ⟨dst,.convert t td x,ty,pos,after,guard⟩).run Γ.P w' = .ok (.value (.int j (j.wrap n))) w':=by
  intro a dst pos after guard w' ha;simp [execOp,Go.convert,ha,run_underlying (Ctx.int (Γ:=Γ) ht),run_underlying (Ctx.int (Γ:=Γ) hd),Conv.intToInt]
 intro e a w m;refine⟨.int j (j.wrap n),λdst pos after guard w' _=>hrun a dst pos after guard w' (evI m hx),?_⟩
 rcases arithC_inv h with ⟨rfl,rfl,rfl⟩|rfl
 ·rw [IntWalk.i64_in _ hp];exact .int (WalkArith.wf_i64 hp)
 ·exact .int (wf_wrap j n)
theorem bytes_fold:∀ (xs:List (List D)) (r:ByteArray),zp xs->((xs.map λx=>match x with|[.int .u8 n]=>n|_=>0).foldl (λr n=>r.push (UInt8.ofNat n.toNat)) r).data.toList=r.data.toList++xs.map byteD
 | [],r,_=>by simp
 | x::xs,r,h=>by
  obtain⟨n,rfl⟩:=h x (List.mem_cons_self ..)
  simp only [A7,List.foldl_cons]
  rw [bytes_fold xs _ λy hy=>h y (List.mem_cons_of_mem _ hy)]
  simp [byteD]
theorem run_bytes {P:Program} {w:World} {ao:Option Addr} {n cap:Nat} {xs:List (List D)} {vs:List Value} (hn:n=xs.length) (hl:vs.length=n) (h0:ao=none->xs=[])
  (hc:∀ ad,ao=some ad->∀ j u,vs[j]?=some u->w.cell? (ad.add j)=some u) (hv:∀ i (hi:i<xs.length),∃ q,xs[i]=[D.int .u8 q]/\vs[i]?=some (.int .u8 q)) :
  (Conv.bytesToString (.slice ao n cap)).run P w = .ok (.string (pm xs)) w:=by
 have hok:zp xs:=by
  intro x hx;obtain⟨i,hi,rfl⟩:=List.mem_iff_getElem.1 hx;obtain⟨q,hq,_⟩:=hv i hi;exact⟨q,hq⟩
 cases ao with
 | none =>
  have:=h0 rfl
  subst this;rfl
 | some ad =>
  have hvs:vs=(xs.map λx=>match x with|[.int .u8 n]=>n|_=>0).map (Value.int .u8):=by
   apply List.ext_getElem?;intro i;by_cases hi:i<xs.length
   ·obtain⟨q,h1,h2⟩:=hv i hi;rw [h2];simp [hi,h1]
   ·rw [Ba (by omega),Ba (by simp;omega)]
  have hload:=run_loadCells_list (P:=P) (w:=w) ad vs (hc ad rfl);rw [hl,hvs] at hload;rw [run_bytesToString w ad n cap _ hload];congr 2;have:=bytes_fold xs ByteArray.empty hok
  exact ByteArray.ext (Array.ext' (by rw [this];simp [pm]))
theorem ww {te td:TypeId} {v:Value} {r:ByteArray} {a:Act} {w':World} (ht:Γ.sh t = .slice te) (hte:Γ.sh te = .int .u8) (hd:Γ.sh td = .str) (ha:a.eval x=v) (hv:∃ ao n cap,v = .slice ao n cap)
  (hr:(Conv.bytesToString v).run Γ.P w' = .ok (.string r) w') (dst:Option Tmp) (pos) (after) (guard):(execOp a.eval ⟨dst,.convert t td x,ty,pos,after,guard⟩).run Γ.P w' = .ok (.value (.string r)) w':=by
 obtain⟨ao,n,cap,rfl⟩:=hv;cases ao<;>simp [execOp,Go.convert,ha,run_underlying (Ctx.slice (Γ:=Γ) ht),run_underlying (Ctx.str (Γ:=Γ) hd),run_underlying (Ctx.int (Γ:=Γ) hte),hr]
theorem ev_conv_bytes_d {te td:TypeId} {es:Nat} {xs:List (List D)} (ht:Γ.sh t = .slice te) (hte:Γ.sh te = .int .u8) (hd:Γ.sh td = .str) (hes:Aw es 1=true) (hx:ai L x = .d (.slice es xs)) (hok:zp xs) :
  Ev Γ k L H (.convert t td x) ty (.d (.str (pm xs))):=by
 have hes:=Aj hes;subst hes;intro e a w m;have hr0:=evT m hx (og · _ _);obtain⟨ao,cap,hv,h1,h2,h3⟩:=hr0.slice_inv;have hsz:(pm xs).size<=maxLen:=by simp [pm,ByteArray.size];omega
 have hr:RepC (Γ.X e H) w (.slice ao xs.length cap) (.slice 1 xs):=by
  have h:RepC (Γ.X e H) w (a.eval x) (.slice 1 xs):=hr0;rw [hv] at h;exact h
 have hcells:∃ vs:List Value,vs.length=xs.length/\(∀ ad,ao=some ad->∀ j u,vs[j]?=some u->w.cell? (ad.add j)=some u)/\∀ i (hi:i<xs.length),∃ q,xs[i]=[D.int .u8 q]/\vs[i]?=some (.int .u8 q):=by
  cases ao with
  | none=>have:=h3 rfl;subst this;exact⟨[],rfl,λ_ h=>(by cases h),λi hi=>absurd hi (Nat.not_lt_zero i)⟩
  | some ad =>
   obtain⟨_,_,vs,v1,v2,_,v4⟩:=sliceAddr hr;refine⟨vs,by omega,λad' h j u hj=>by cases h;exact v2 j u hj,λi hi=>?_⟩
   obtain⟨q,hq⟩:=hok xs[i] (Ag hi);obtain⟨v,p1,p2⟩:=v4 i hi 0 (by rw [hq];exact Nat.one_pos);simp only [hq] at p2;refine⟨q,hq,?_⟩
   rw [Nat.mul_one,Nat.add_zero] at p1;rw [p1];change RepC _ w v (.int .u8 q) at p2;cases p2;rfl
 obtain⟨vs,c1,c2,c3⟩:=hcells;refine⟨.string (pm xs),λdst pos after guard w' hw=>?_,.str hsz⟩
 refine ww (Γ:=Γ) ht hte hd hv ⟨_,_,_,rfl⟩ (run_bytes rfl c1 h3 (λad had j u hj=>f9 hw (c2 ad had j u hj)) c3) _ _ _ _
theorem ev_conv_bytes_row {te td te':TypeId} {i es:Nat} {xs:List (List D)} (ht:Γ.sh t = .slice te) (hte:Γ.sh te = .int .u8) (hd:Γ.sh td = .str) (hes:Aw es 1=true) (hx:ai L x = .row i) (hH:Hp.get H i=some (.row te' es xs)) (hok:zp xs) :
  Ev Γ k L H (.convert t td x) ty (.d (.str (pm xs))):=by
 have hes:=Aj hes;subst hes;intro e a w m;have hv0:=(evT m hx (pu · _)).2.1;obtain⟨vs,ho,hxe,_,hrep⟩:=(m.heap _ (Hp.mem_of hH)).2;have hcells:∃ ao cap,e.η i = .slice ao xs.length cap/\xs.length<=maxLen/\(ao=none->xs=[])/\vs.length=xs.length/\∀ ad,ao=some ad->∀ j u,vs[j]?=some u->w.cell? (ad.add j)=some u:=by
  have hl:=ho.1;rcases ho.2 with ⟨h1,h2⟩|⟨g,cap,cur,h1,_,h5,h3,h4,h6,h7⟩
  ·have:xs=[]:=Bm h2
   subst this;exact⟨none,0,h1,Nat.zero_le _,λ_=>rfl,by simpa using hl,λ_ h=>(by cases h)⟩
  ·refine⟨_,_,h1,Nat.le_trans h3 h4,λh=>(by cases h),by omega,λad had j u hj=>?_⟩
   cases had;exact ho.cells (g:=g) (by rw [h1];rfl) j u hj
 obtain⟨ao,cap,g1,g2,g3,g4,g5⟩:=hcells;have hsz:(pm xs).size<=maxLen:=by simp [pm,ByteArray.size];omega
 refine⟨.string (pm xs),λdst pos after guard w' hw=>?_,.str hsz⟩
 refine ww (Γ:=Γ) ht hte hd (hv0.trans g1) ⟨_,_,_,rfl⟩ (run_bytes rfl g4 g3 (λad had j u hj=>f9 hw (g5 ad had j u hj)) λi' hi=>?_) _ _ _ _;obtain⟨q,hq⟩:=hok xs[i'] (Ag hi);obtain⟨v,p1,p2⟩:=hrep i' hi 0 (by rw [hq];exact Nat.one_pos);simp only [hq] at p2;refine⟨q,hq,?_⟩
 rw [Nat.mul_one,Nat.add_zero] at p1;rw [p1];change RepC _ w v (.int .u8 q) at p2;cases p2;rfl
theorem convC_sound (h:convC Γ.τ t t' (ai L x) (Hp.get H)=some (p,s)) (hp:p):Ev Γ k L H (.convert t t' x) ty s:=by
 unfold convC at h;split at h
 ·rename_i h1 h2 h3;cases h;exact ev_conv_u8 (Γ:=Γ) h1 h2 h3 hp
 ·rename_i n h1 h2 h3;cases h;exact ev_conv_chr (Γ:=Γ) h1 h2 h3 hp
 ·rename_i h1 h2 h3;split at h
  ·exact ev_conv_int (Γ:=Γ) h1 h2 h3 h hp
  ·cases h
 ·rename_i h1 h2 h3;split at h
  ·rename_i h4 h5;cases h;exact ev_conv_bytes_d (Γ:=Γ) h1 h4 h2 h5 h3 hp
  ·cases h
 ·rename_i h1 h2 h3;split at h
  ·rename_i h4 hH;split at h
   ·rename_i h5;cases h;exact ev_conv_bytes_row (Γ:=Γ) h1 h4 h2 h5 h3 hH hp
   ·cases h
  ·cases h
 ·cases h
theorem xc:∀ (ps:List (Nat×Operand)),jy L ps=ps.map λp=>(p.1,ai L p.2)
 | []=>rfl
 | (i,x)::ps=>by simp [jy,xc ps]
theorem xd:∀ (ps:List (Nat×Operand)),(ps.all λp=>de p.2)=true->jz ps=true
 | [],_=>rfl
 | (i,x)::ps,h=>by
  simp only [Dp,Ad] at h
  simp [jz,h.1,xd ps (by simpa using h.2)]
theorem j5:∀ (xs:List Operand),mz L xs=xs.map (ai L)
 | []=>rfl
 | x::xs=>by simp [mz,j5 xs]
theorem n3:∀ (xs:List Operand),xs.all de=true->dy xs=true
 | [],_=>rfl
 | x::xs,h=>by
  simp only [Dp,Ad] at h
  simp [dy,h.1,n3 xs h.2]
theorem evC_sound {op:Op} (h:evC Γ.τ (ai L) (Hp.get H) op=some (p,s)) (hp:p) (hok:bt op=true):Ev Γ k L H op ty s:=by
 unfold bt at hok;cases op with
 | move x=>simp only [evC,ka] at h;cases h;exact ev_move (by simpa [Op.operands] using hok)
 | assign x=>simp only [evC,ka] at h;cases h;exact ev_assign (by simpa [Op.operands] using hok)
 | pick c x y =>
  simp only [Op.operands,Dp,Ad] at hok;simp only [evC,ka] at h;split at h
  ·rename_i hc;cases h;exact ev_pick (b:=true) hc (λ_=>hok.2.1) (λh=>by cases h)
  ·rename_i hc;cases h;exact ev_pick (b:=false) hc (λh=>by cases h) (λ_=>hok.2.2.1)
  ·cases h
 | binOp op _ x y _=>exact binC_sound h hp (by simp [Op.operands] at hok;exact hok.1)
 | unOp op _ x =>
  cases op<;>simp only [evC] at h
  case not =>
   split at h
   ·rename_i hx;cases h;exact ev_not hx
   ·cases h
  all_goals cases h
 | load t x=>exact loadP_sound h hp
 | fieldAddr t x f=>exact fieldC_sound h
 | indexAddr t x y=>exact indexP_sound h hp
 | index t x y=>exact strAtC_sound h hp
 | slice t x lo hi mx =>
  cases mx with
  | none=>exact sliceC_sound h hp (by simp [Op.operands] at hok;exact hok.1)
  | some z=>simp [evC] at h
 | convert t t' x=>exact convC_sound h hp
 | nilCheck x =>
  simp only [evC] at h;split at h
  ·rename_i hx;cases h;exact xw hx (.inl ⟨_,rfl⟩)
  ·rename_i hx;cases h;exact ev_nilPtr hx
  ·rename_i hx;cases h;exact xw hx (.inr (.inl ⟨_,_,rfl⟩))
  ·rename_i hx;cases h;exact xw hx (.inr (.inr ⟨_,_,_,_,rfl⟩))
  ·cases h
 | extract x i =>
  simp only [evC,ka] at h;split at h
  ·rename_i hx;split at h
   ·rename_i hi;cases h;exact ev_extract hx hi
   ·cases h
  ·cases h
 | makeFunc fn first captured =>
  cases fn with
  | func f =>
   simp only [evC,fj] at h;split at h
   ·rename_i hf;cases h;obtain⟨fl⟩:=first
    simp only at hf;subst hf;obtain⟨cl⟩:=captured;have:=ev_makeFunc (Γ:=Γ) (k:=k) (L:=L) (H:=H) (f:=f) (ty:=ty) (xs:=cl) rfl (n3 _ (by simpa [Op.operands] using hok))
    rw [j5] at this;exact this
   ·cases h
  | _=>simp [evC] at h
 | build te ps =>
  simp only [evC,fj] at h;split at h
  ·rename_i l ht;split at h
   ·rename_i hc;simp only [Ad] at hc;split at h
    ·rename_i cs hf;cases h;obtain⟨pl⟩:=ps;have hok':jz pl=true:=xd _ (by simpa [Op.operands,List.all_map,Function.comp_def] using hok);rw [show (List.map (λp=>(p.1,ai L p.2)) (Array.mk pl).toList)=jy L pl from (xc pl).symm] at hf;exact ev_build (Γ:=Γ) ht hc.1 hc.2 rfl hok' hf
    ·cases h
   ·cases h
  ·cases h
 | call c =>
  obtain⟨callee,args,ts⟩:=c;cases callee with
  | builtin b =>
   cases b<;>simp only [evC] at h
   case len =>
    split at h
    ·rename_i x t hx ht;obtain⟨al⟩:=args;obtain⟨tl⟩:=ts;simp only at hx ht;subst hx;subst ht;exact lenC_sound h (by simp [Op.operands,Call.operands] at hok;exact hok)
    ·cases h
   all_goals cases h
  | _=>simp [evC] at h
 | _=>simp [evC] at h
end
end Go.Proofs.YtapciiffpnociadGreat
