/- Several texts in one: ShbC ShbD GxMap GxVew GxStb GxPtr ShwD ShwF ShwK ShbF GxSts ShwL. Condition: none. -/
import Derived.Test.YtapciiffpnociabGreatDoorR13
import Derived.Test.YtapciiffpnociabGreatDoorR09
import Derived.Maps.Keyed
import Derived.Test.YtapciiffpnociabGreatDoorR12
import Derived.Lib.AppendStr
import Derived.Lib.Builder
import Derived.Lib.UnsafeStr
import Derived.Test.YtapciiffpnociabGreatDoorR11
import Derived.Test.YtapciiffpnociabGreatDoorR08
namespace Go.Proofs.YtapciiffpnociabGreatDoor
open Go Go.RowKit
theorem word_of {f:Int} (h1:1≤f) (h4:f≤4):f=1∨f=2∨f=3∨f=4:=by omega
theorem first_word {l r:List Tok} {i:Nat} {f:Int} (h1:1≤f) (h4:f≤4) (h:l.drop i=tz 1 (wordsL.getD f.toNat ⟨#[]⟩)::r):foldT l true i 0=f:=by
 show firstT l i foldsT 1=f
 rcases word_of h1 h4 with rfl|rfl|rfl|rfl <;>
 ·unfold foldsT wordsL
  simp only [List.drop_succ_cons,List.drop_zero]
  unfold firstT
  rw [sees_head h]
  simp only [firstT,sees_head h]
  decide
theorem word_not {f:Int} (h1:1≤f) (h4:f≤4):wordsL.getD f.toNat ⟨#[]⟩≠rpS:=by
 rcases word_of h1 h4 with rfl|rfl|rfl|rfl <;> decide
theorem tmsK_len:∀ ts:List TTm,ts.length≤(tmsK ts).length
 | []=>Nat.zero_le _
 | [t]=>by
  show 1≤(tmK t++[tz 4 rpS]).length
  simp
 | t::u::ts=>by
  have:=tmsK_len (u::ts)
  show (t::u::ts).length≤(tmK t++tz 4 coS::tmsK (u::ts)).length
  simp only [List.length_append,List.length_cons] at this ⊢
  omega
theorem tmsF_len (f:Int):∀ ts:List TTm,ts.length≤(tmsF f ts).length
 | []=>Nat.zero_le _
 | [t]=>by
  show 1≤(tz 1 _::(tmK t++[tz 4 rpS])).length
  simp
 | t::u::ts=>by
  have:=tmsF_len f (u::ts)
  show (t::u::ts).length≤(tmK t++tz 4 coS::tmsF f (u::ts)).length
  simp only [List.length_append,List.length_cons] at this ⊢
  omega
theorem termsF_back {l r:List Tok} {f:Int} (f1:1≤f) (f4:f≤4):∀ (ts:List TTm) (n i:Nat) (acc:List TTm),ts≠[]→(∀ t∈ts,tmOk t=true)→ts.length≤n→l.drop i=tmsF f ts++r→termsGo l true n i acc = .ok ((acc++ts,f),i + (tmsF f ts).length)∧l.drop (i + (tmsF f ts).length)=r
 | [],_,_,_,h,_,_,_=>absurd rfl h
 | _::_,0,_,_,_,_,h,_=>by simp at h
 | [t],n + 1,i,acc,_,ht,_,h=>by
  have h0:=ht t (List.mem_cons_self ..)
  have h:l.drop i=tz 1 (wordsL.getD f.toNat ⟨#[]⟩)::(tmK t++(tz 4 rpS::r)):=by rw [h];simp [tmsF]
  have hf:=first_word f1 f4 h
  have h2:=at_head h
  obtain⟨a1,a2⟩:=term_back h0 h2.2
  have b1:=at_head a2
  have e:i + (tmsF f [t]).length=i + 1 + (tmK t).length + 1:=by
   show i + (tz 1 _::(tmK t++[tz 4 rpS])).length=_
   rw [List.length_cons,List.length_append,List.length_singleton]
   omega
  rw [e]
  refine⟨?_,b1.2⟩
  have f0:f≠0:=by omega
  rw [termsGo_succ,hf,if_pos f0,a1]
  dsimp only
  rw [if_pos (.inl f0),sees_head a2,if_pos (decide_eq_true rfl)]
 | t::u::ts,n + 1,i,acc,_,ht,hn,h=>by
  have h0:=ht t (List.mem_cons_self ..)
  have h:l.drop i=tmK t++(tz 4 coS::(tmsF f (u::ts)++r)):=by rw [h];simp [tmsF]
  obtain⟨a1,a2⟩:=term_back h0 h
  have hf:foldT l true i 0=0:=first_tm h0 h
  have b1:=at_head a2
  obtain⟨c1,c2⟩:=termsF_back f1 f4 (u::ts) n (i + (tmK t).length + 1) (acc++[t]) (by simp) (fun x hx=>ht x (List.mem_cons_of_mem _ hx)) (by simp only [List.length_cons] at hn ⊢;omega) b1.2
  have e:i + (tmsF f (t::u::ts)).length=i + (tmK t).length + 1 + (tmsF f (u::ts)).length:=by
   show i + (tmK t++tz 4 coS::tmsF f (u::ts)).length=_
   rw [List.length_append,List.length_cons]
   omega
  rw [e]
  refine⟨?_,c2⟩
  rw [termsGo_succ,hf,if_neg (fun h=>h rfl),a1]
  dsimp only
  rw [sees_head a2,if_neg (by rintro (h|h);exact h rfl;rw [decide_eq_true rfl] at h;cases h),c1,List.append_assoc]
  rfl
def atomK (name:ByteArray) (ts:List TTm) (f:Int):List Tok:=tz 1 name::tz 4 lpS::(if f=0 then tmsK ts else tmsF f ts)
theorem drop_len {l r:List Tok} {i:Nat} {u:List Tok} (h:l.drop i=u++r):u.length≤l.length:=by
 have:=congrArg List.length h
 rw [List.length_drop,List.length_append] at this
 omega
theorem name_back {l r:List Tok} {i:Nat} {s:ByteArray} {k:Int} (hn:nameS s=true) (h:l.drop i=tz k s::r):nameT l i = .ok (s,i + 1):=by
 unfold nameT
 rw [(at_head h).1]
 dsimp only
 rw [if_pos hn]
theorem termsT_back {l r:List Tok} {i:Nat} {ts:List TTm} (head:Bool) (ht:∀ t∈ts,tmOk t=true) (h:l.drop i=tz 4 lpS::(tmsK ts++r)):termsT l i head = .ok ((ts,0),i + 1 + (tmsK ts).length)∧l.drop (i + 1 + (tmsK ts).length)=r:=by
 have h1:=at_head h
 have h2:=at_head h
 unfold termsT
 rw [sees_head h,if_pos (decide_eq_true rfl)]
 match ts,ht,h1.2 with
 | [],_,h3 =>
  have h3:l.drop (i + 1)=tz 4 rpS::r:=h3
  rw [sees_head h3,if_pos (decide_eq_true rfl)]
  exact⟨rfl,(at_head h3).2⟩
 | t::ts,ht,h3 =>
  have hl:=Nat.le_trans (tmsK_len (t::ts)) (drop_len h3)
  obtain⟨q,hq⟩:∃ q,tmsK (t::ts)++r=tmK t++q:=by
   cases ts with
   | nil=>exact⟨tz 4 rpS::r,by simp [tmsK]⟩
   | cons u ts=>exact⟨tz 4 coS::(tmsK (u::ts)++r),by simp [tmsK]⟩
  rw [sees_not (ht t (List.mem_cons_self ..)) (by rw [h3,hq]) notTm_rp,if_neg Bool.false_ne_true]
  have:=terms_back head (t::ts) (l.length + 1) (i + 1) [] (by simp) ht (by omega) h3
  rw [List.nil_append] at this
  exact this
theorem termsT_fold {l r:List Tok} {i:Nat} {ts:List TTm} {f:Int} (f1:1≤f) (f4:f≤4) (hne:ts≠[]) (ht:∀ t∈ts,tmOk t=true) (h:l.drop i=tz 4 lpS::(tmsF f ts++r)):termsT l i true = .ok ((ts,f),i + 1 + (tmsF f ts).length)∧l.drop (i + 1 + (tmsF f ts).length)=r:=by
 have h1:=at_head h
 have h3:=h1.2
 unfold termsT
 rw [sees_head h,if_pos (decide_eq_true rfl)]
 have hl:=Nat.le_trans (tmsF_len f ts) (drop_len h3)
 have hs:seesT l (i + 1) ⟨#[41]⟩=false:=by
  match ts,hne,ht,h3 with
  | [t],_,_,h3 =>
   have h3:l.drop (i + 1)=tz 1 (wordsL.getD f.toNat ⟨#[]⟩)::((tmK t++[tz 4 rpS])++r):=h3
   rw [sees_head h3]
   exact decide_eq_false (word_not f1 f4)
  | t::u::ts,_,ht,h3 =>
   exact sees_not (r:=tz 4 coS::(tmsF f (u::ts)++r)) (ht t (List.mem_cons_self ..)) (by rw [h3];simp [tmsF]) notTm_rp
 rw [hs,if_neg Bool.false_ne_true]
 have:=termsF_back f1 f4 ts (l.length + 1) (i + 1) [] hne ht (by omega) h3
 rw [List.nil_append] at this
 exact this
theorem atom_back {l r:List Tok} {i:Nat} {name:ByteArray} {ts:List TTm} {f:Int} (hn:nameS name=true) (ht:∀ t∈ts,tmOk t=true) (hf:f=0∨(1≤f∧f≤4∧ts≠[])) (h:l.drop i=atomK name ts f++r) :
  nameT l i = .ok (name,i + 1)∧termsT l (i + 1) true = .ok ((ts,f),i + (atomK name ts f).length)∧(f=0→termsT l (i + 1) false = .ok ((ts,0),i + (atomK name ts f).length))∧l.drop (i + (atomK name ts f).length)=r:=by
 unfold atomK at h ⊢
 by_cases h0:f=0
 ·subst h0
  rw [if_pos rfl] at h ⊢
  have h:l.drop i=tz 1 name::(tz 4 lpS::(tmsK ts++r)):=h
  have h1:=at_head h
  have a:=termsT_back true ht h1.2
  have b:=termsT_back false ht h1.2
  have e:i + (tz 1 name::tz 4 lpS::tmsK ts).length=i + 1 + 1 + (tmsK ts).length:=by
   rw [List.length_cons,List.length_cons];omega
  rw [e]
  exact⟨name_back hn h,a.1,fun _=>b.1,a.2⟩
 ·rw [if_neg h0] at h ⊢
  obtain⟨f1,f4,hne⟩:1≤f∧f≤4∧ts≠[]:=by rcases hf with h|h;exact absurd h h0;exact h
  have h:l.drop i=tz 1 name::(tz 4 lpS::(tmsF f ts++r)):=h
  have h1:=at_head h
  have a:=termsT_fold f1 f4 hne ht h1.2
  have e:i + (tz 1 name::tz 4 lpS::tmsF f ts).length=i + 1 + 1 + (tmsF f ts).length:=by
   rw [List.length_cons,List.length_cons];omega
  rw [e]
  exact⟨name_back hn h,a.1,fun h=>absurd h h0,a.2⟩
abbrev opZ (n:Int):ByteArray:=opsS.getD n.toNat ⟨#[]⟩
def litK (x:TLt):List Tok :=
 if x.kind=1 then atomK x.name x.terms 0
 else if x.kind=2 then tz 1 noS::atomK x.name x.terms 0
 else if x.kind=3 then tmK (x.terms.getD 0 t0S)++tz 4 (opZ x.op)::tmK (x.terms.getD 1 t0S)
 else tmK (x.terms.getD 0 t0S)++tz 4 (opZ x.op)::(tmK (x.terms.getD 1 t0S)++tz 4 eqZ::tmK (x.terms.getD 2 t0S))
theorem name_no {s:ByteArray} (h:nameS s=true):s≠noS:=by
 rintro rfl
 rw [show nameS noS=false by kernel_rfl] at h
 cases h
theorem notTm_no:NotTm noS:=⟨by kernel_rfl,⟨110,by decide,by unfold digitB;decide⟩,by decide⟩
theorem tm_kind {l r:List Tok} {i:Nat} {t:TTm} (h:l.drop i=tmK t++r):isTestT l i=true:=by
 have:∃ x q,tmK t=x::q∧x.kind≠1:=by
  unfold tmK
  split
  ·split
   ·exact⟨_,_,rfl,show (4:Int)≠1 by decide⟩
   ·exact⟨_,_,rfl,show (3:Int)≠1 by decide⟩
  ·exact⟨_,_,rfl,show (2:Int)≠1 by decide⟩
 obtain⟨x,q,hx,hk⟩:=this
 rw [hx] at h
 unfold isTestT
 rw [(at_head (r:=q++r) h).1]
 exact decide_eq_true hk
theorem first_op {l r:List Tok} {i:Nat} {n:Int} (h1:1≤n) (h7:n≤7) (h:l.drop i=tz 4 (opZ n)::r):firstQ l opsT i 0=n:=by
 show firstT l i opsT 1=n
 have:n=1∨n=2∨n=3∨n=4∨n=5∨n=6∨n=7:=by omega
 rcases this with rfl|rfl|rfl|rfl|rfl|rfl|rfl <;>
 ·unfold opsT
  simp only [firstT,sees_head h]
  decide
theorem drop_app {l u r:List Tok} {i:Nat} (h:l.drop i=u++r):l.drop (i + u.length)=r:=by
 rw [← List.drop_drop,h,List.drop_left]
theorem here_head {l r:List Tok} {i:Nat} {x:Tok} (h:l.drop i=x::r) (e:Int):hereT l e i=x.at_:=by
 unfold hereT
 rw [(at_head h).1]
theorem all_mem {ts:List TTm} (h:tmsOk ts=true):∀ t∈ts,tmOk t=true:=fun t ht=>List.all_eq_true.1 h t ht
theorem tmK_at0 {l r:List Tok} {i:Nat} {t:TTm} (h:l.drop i=tmK t++r) (e:Int):hereT l e i=0:=by
 have:∃ x q,tmK t=x::q∧x.at_=0:=by
  unfold tmK
  split
  ·split
   ·exact⟨_,_,rfl,rfl⟩
   ·exact⟨_,_,rfl,rfl⟩
  ·exact⟨_,_,rfl,rfl⟩
 obtain⟨x,q,hx,hk⟩:=this
 rw [hx] at h
 rw [here_head (r:=q++r) h,hk]
theorem lit_back {l r:List Tok} {i:Nat} {e:Int} {x:TLt} (hx:tlOk x=true) (h:l.drop i=litK x++r):litT l e i = .ok (stripL x,i + (litK x).length):=by
 unfold tlOk at hx
 rw [Bool.and_eq_true] at hx
 obtain⟨ht,hx⟩:=hx
 have ht:=all_mem ht
 unfold litK at h ⊢
 unfold litT stripL
 by_cases k1:x.kind=1
 ·rw [if_pos k1] at h ⊢
  rw [if_pos (.inl k1)] at hx
  simp only [Bool.and_eq_true,decide_eq_true_eq] at hx
  obtain⟨a1,_,a3,_⟩:=atom_back hx.2 ht (.inl rfl) h
  have h':l.drop i=tz 1 x.name::(tz 4 lpS::(tmsK x.terms++r)):=h
  rw [sees_head h',decide_eq_false (name_no hx.2)]
  dsimp only
  have hT:isTestT l i=false:=by
   unfold isTestT
   rw [(at_head h').1]
   rfl
  rw [hT]
  dsimp only
  rw [a1]
  dsimp only
  rw [a3 rfl,here_head h',k1,hx.1]
 by_cases k2:x.kind=2
 ·rw [if_neg k1,if_pos k2] at h ⊢
  rw [if_pos (.inr k2)] at hx
  simp only [Bool.and_eq_true,decide_eq_true_eq] at hx
  have h':l.drop i=tz 1 noS::(atomK x.name x.terms 0++r):=h
  obtain⟨a1,_,a3,_⟩:=atom_back hx.2 ht (.inl rfl) (at_head h').2
  rw [sees_head h',decide_eq_true rfl]
  dsimp only
  rw [a1]
  dsimp only
  rw [a3 rfl,here_head h',k2,hx.1]
  dsimp only
  rw [List.length_cons,Nat.add_comm (atomK x.name x.terms 0).length 1,← Nat.add_assoc]
 by_cases k3:x.kind=3
 ·rw [if_neg k1,if_neg k2,if_pos k3] at h ⊢
  rw [if_neg (by omega),if_pos k3] at hx
  simp only [Bool.and_eq_true,decide_eq_true_eq] at hx
  obtain⟨⟨h1,h2⟩,h3⟩:=hx
  obtain⟨kind,at_,op,name,terms⟩:=x
  dsimp only at k1 k2 k3 h1 h2 h3 h ht ⊢
  match terms,h3,ht,h with
  | [a,b],_,ht,h =>
   have h:l.drop i=tmK a++(tz 4 (opZ op)::(tmK b++r)):=by rw [h];simp
   have ha:=ht a (List.mem_cons_self ..)
   have hb:=ht b (List.mem_cons_of_mem _ (List.mem_cons_self ..))
   obtain⟨a1,a2⟩:=term_back ha h
   have b1:=at_head a2
   obtain⟨c1,c2⟩:=term_back hb b1.2
   have ho:=first_op h1.1 (by omega) a2
   rw [sees_not ha h notTm_no]
   dsimp only
   rw [tm_kind h]
   dsimp only
   unfold testT
   rw [a1]
   dsimp only
   rw [ho,if_neg (by omega),c1]
   dsimp only
   rw [if_pos (by omega),tmK_at0 h,k3,h2]
   dsimp only
   rw [List.getD_cons_zero,List.getD_cons_succ,List.getD_cons_zero,List.length_append,List.length_cons,← Nat.add_assoc]
   rw [show i + (tmK a).length + ((tmK b).length + 1)=i + (tmK a).length + 1 + (tmK b).length by omega]
 ·rw [if_neg k1,if_neg k2,if_neg k3] at h ⊢
  rw [if_neg (by omega),if_neg k3] at hx
  by_cases k4:x.kind=4
  rotate_left
  ·rw [if_neg k4] at hx;cases hx
  rw [if_pos k4] at hx
  simp only [Bool.and_eq_true,decide_eq_true_eq] at hx
  obtain⟨⟨h1,h2⟩,h3⟩:=hx
  obtain⟨kind,at_,op,name,terms⟩:=x
  dsimp only at k1 k2 k3 k4 h1 h2 h3 h ht ⊢
  match terms,h3,ht,h with
  | [a,b,c],_,ht,h =>
   have h:l.drop i=tmK a++(tz 4 (opZ op)::(tmK b++(tz 4 eqZ::(tmK c++r)))):=by rw [h];simp
   have ha:=ht a (List.mem_cons_self ..)
   have hb:=ht b (List.mem_cons_of_mem _ (List.mem_cons_self ..))
   have hc:=ht c (List.mem_cons_of_mem _ (List.mem_cons_of_mem _ (List.mem_cons_self ..)))
   obtain⟨a1,a2⟩:=term_back ha h
   have b1:=at_head a2
   obtain⟨c1,c2⟩:=term_back hb b1.2
   have d1:=at_head c2
   obtain⟨e1,e2⟩:=term_back hc d1.2
   have ho:=first_op (by omega) (by omega) a2
   rw [sees_not ha h notTm_no]
   dsimp only
   rw [tm_kind h]
   dsimp only
   unfold testT
   rw [a1]
   dsimp only
   rw [ho,if_neg (by omega),c1]
   dsimp only
   rw [if_neg (by omega),sees_head c2,if_pos (decide_eq_true rfl),e1]
   dsimp only
   rw [tmK_at0 h,k4,h2]
   rw [List.getD_cons_zero,List.getD_cons_succ,List.getD_cons_zero,List.getD_cons_succ,List.getD_cons_succ,List.getD_cons_zero,List.length_append,List.length_cons,List.length_append,List.length_cons]
   rw [show i + ((tmK a).length + ((tmK b).length + ((tmK c).length + 1) + 1))=i + (tmK a).length + 1 + (tmK b).length + 1 + (tmK c).length by omega]
def litsK:List TLt→List Tok
 | []=>[]
 | [x]=>litK x
 | x::y::l=>litK x++tz 4 coS::litsK (y::l)
theorem litsK_len:∀ b:List TLt,b.length≤(litsK b).length + 1
 | []=>Nat.zero_le _
 | [x]=>by simp
 | x::y::b=>by
  have:=litsK_len (y::b)
  show (x::y::b).length≤(litK x++tz 4 coS::litsK (y::b)).length + 1
  simp only [List.length_append,List.length_cons] at this ⊢
  omega
theorem lits_back {l r:List Tok} {e:Int}:∀ (b:List TLt) (n i:Nat) (acc:List TLt),b≠[]→(∀ x∈b,tlOk x=true)→b.length≤n→l.drop i=litsK b++tz 4 doS::r→litsGo l e n i acc = .ok (acc++b.map stripL,i + (litsK b).length)
 | [],_,_,_,h,_,_,_=>absurd rfl h
 | _::_,0,_,_,_,_,h,_=>by simp at h
 | [x],n + 1,i,acc,_,hx,_,h=>by
  have h:l.drop i=litK x++tz 4 doS::r:=h
  have a1:=lit_back (e:=e) (hx x (List.mem_cons_self ..)) h
  have a2:=drop_app h
  rw [litsGo_succ,a1]
  dsimp only
  rw [sees_head a2,if_neg (by decide)]
  rfl
 | x::y::b,n + 1,i,acc,_,hx,hn,h=>by
  have h:l.drop i=litK x++(tz 4 coS::(litsK (y::b)++tz 4 doS::r)):=by rw [h];simp [litsK]
  have a1:=lit_back (e:=e) (hx x (List.mem_cons_self ..)) h
  have a2:=drop_app h
  have ih:=lits_back (e:=e) (y::b) n (i + (litK x).length + 1) (acc++[stripL x]) (by simp) (fun z hz=>hx z (List.mem_cons_of_mem _ hz)) (by simp only [List.length_cons] at hn ⊢;omega) (at_head a2).2
  rw [litsGo_succ,a1]
  dsimp only
  rw [sees_head a2,if_pos (decide_eq_true rfl),ih]
  have e1:i + (litK x).length + 1 + (litsK (y::b)).length=i + (litsK (x::y::b)).length:=by
   show _=i + (litK x++tz 4 coS::litsK (y::b)).length
   rw [List.length_append,List.length_cons]
   omega
  rw [e1,List.append_assoc]
  rfl
def ruleK (r:TRu):List Tok:=atomK r.name r.terms r.fold++(if r.body=[] then [tz 4 doS] else tz 4 ifZ::(litsK r.body++[tz 4 doS]))
theorem rule_back {l q:List Tok} {i:Nat} {e:Int} {r:TRu} (hr:truOk r=true) (h:l.drop i=ruleK r++q):ruleT l e i = .ok (stripR r,i + (ruleK r).length):=by
 unfold truOk at hr
 simp only [Bool.and_eq_true,Bool.or_eq_true,decide_eq_true_eq] at hr
 obtain⟨⟨⟨⟨t1,t2⟩,t3⟩,t4⟩,t5⟩:=hr
 have hf:r.fold=0∨(1≤r.fold∧r.fold≤4∧r.terms≠[]):=by
  rcases t4 with t4|t4
  ·exact .inl t4
  ·by_cases h0:r.fold=0
   ·exact .inl h0
   ·exact .inr ⟨by omega,t3.2,t4.1⟩
 have hb:∀ x∈r.body,tlOk x=true:=fun x hx=>List.all_eq_true.1 t5 x hx
 unfold ruleK at h ⊢
 rw [List.append_assoc] at h
 obtain⟨a1,a2,_,a4⟩:=atom_back t1 (all_mem t2) hf h
 have hat:hereT l e i=0:=by
  have h':l.drop i=tz 1 r.name::(tz 4 lpS::((if r.fold=0 then tmsK r.terms else tmsF r.fold r.terms)++((if r.body=[] then [tz 4 doS] else tz 4 ifZ::(litsK r.body++[tz 4 doS]))++q))):=h
  exact here_head h' e
 unfold ruleT
 rw [a1]
 dsimp only
 rw [a2]
 dsimp only
 rw [hat]
 unfold stripR
 by_cases hbn:r.body=[]
 ·rw [if_pos hbn] at a4 ⊢
  have a4:l.drop (i + (atomK r.name r.terms r.fold).length)=tz 4 doS::q:=a4
  have h0:r.fold=0:=by
   rcases t4 with t4|t4
   ·exact t4
   ·exact absurd hbn t4.2
  rw [sees_head a4,if_pos ⟨h0,decide_eq_true rfl⟩,hbn,List.length_append]
  rfl
 ·rw [if_neg hbn] at a4 ⊢
  have a4:l.drop (i + (atomK r.name r.terms r.fold).length)=tz 4 ifZ::(litsK r.body++(tz 4 doS::q)):=by rw [a4];simp
  have b1:=at_head a4
  have hl:=drop_len b1.2
  have:=litsK_len r.body
  have c1:=lits_back (e:=e) r.body (l.length + 1) (i + (atomK r.name r.terms r.fold).length + 1) [] hbn hb (by omega) b1.2
  have c2:=drop_app b1.2
  rw [sees_head a4,if_neg (by rintro⟨_,h⟩;revert h;decide),sees_head a4,if_pos (decide_eq_true rfl),c1]
  dsimp only
  rw [sees_head c2,if_pos (decide_eq_true rfl),List.nil_append,List.length_append,List.length_cons,List.length_append,List.length_singleton]
  rw [show i + ((atomK r.name r.terms r.fold).length + ((litsK r.body).length + 1 + 1))=i + (atomK r.name r.terms r.fold).length + 1 + (litsK r.body).length + 1 by omega]
def treeK:List TRu→List Tok
 | []=>[]
 | r::rs=>ruleK r++treeK rs
theorem ruleK_pos (r:TRu):0 < (ruleK r).length:=by
 unfold ruleK atomK
 rw [List.length_append,List.length_cons]
 omega
theorem rules_back {l:List Tok} {e:Int}:∀ (rs:List TRu) (n i:Nat) (acc:List TRu),(∀ r∈rs,truOk r=true)→rs.length < n→i≤l.length→l.drop i=treeK rs→rulesGo l e n i acc = .ok (acc++rs.map stripR)
 | _,0,_,_,_,h,_,_=>by cases h
 | [],n + 1,i,acc,_,_,_,h=>by
  have:l.length≤i:=List.drop_eq_nil_iff.1 h
  rw [rulesGo_succ,if_neg (by omega)]
  simp
 | r::rs,n + 1,i,acc,hr,hn,hi,h=>by
  have h:l.drop i=ruleK r++treeK rs:=h
  have a1:=rule_back (e:=e) (hr r (List.mem_cons_self ..)) h
  have a2:=drop_app h
  have hp:=ruleK_pos r
  have hlen:=congrArg List.length h
  rw [List.length_drop,List.length_append] at hlen
  have ih:=rules_back (e:=e) rs n (i + (ruleK r).length) (acc++[stripR r]) (fun z hz=>hr z (List.mem_cons_of_mem _ hz)) (by simp only [List.length_cons] at hn;omega) (by omega) a2
  rw [rulesGo_succ,if_pos (by omega),a1]
  dsimp only
  rw [ih,List.append_assoc]
  rfl
theorem treeK_len:∀ rs:List TRu,rs.length≤(treeK rs).length
 | []=>Nat.zero_le _
 | r::rs=>by
  have:=treeK_len rs
  have:=ruleK_pos r
  show rs.length + 1≤(ruleK r++treeK rs).length
  rw [List.length_append]
  omega
theorem tree_back {rs:List TRu} (h:checkT rs=0) (e:Int):rulesGo (treeK rs) e ((treeK rs).length + 1) 0 [] = .ok (rs.map stripR):=by
 have hr:∀ r∈rs,truOk r=true:=by
  unfold checkT at h
  split at h
  ·cases h
  split at h
  ·rename_i ha
   exact fun r hr=>List.all_eq_true.1 ha r hr
  ·cases h
 have:=treeK_len rs
 rw [rules_back rs _ 0 [] hr (by omega) (Nat.zero_le _) (List.drop_zero ..),List.nil_append]
end Go.Proofs.YtapciiffpnociabGreatDoor
namespace Go.Proofs.YtapciiffpnociabGreatDoor
open Go Go.RowKit
open Go.Maps (Keyed)
def MK.kd:MK→Bool
 | .str _=>true
 | .pair _ _=>false
section
variable {Γ : Ctx} {k : Nat → Prop} {L : Sl} {H : Hp} {K : Next'} {ops : List Oper} {rest : List Oper} {a : Act} {w : World} {e : Env} {t t' ty : TypeId} {x y : Operand}
end
section
variable {Γ : Ctx} {k : Nat} {L : Sl} {H : Hp} {K : Next'} {ops : List Oper} {rest : List Oper} {t t' ty : TypeId} {x y : Operand} {q : Bool}
end
end Go.Proofs.YtapciiffpnociabGreatDoor
namespace Go.Proofs.YtapciiffpnociabGreatDoor
open Go Go.RowKit
section
variable {Γ : Ctx} {k : Nat} {L : Sl} {H H' : Hp} {Q : Post} {c : Code}
end
section
variable {Γ : Ctx} {kk : Nat → Prop} {L : Sl} {H : Hp} {a : Act} {w : World} {e : Env}
end
section
variable {Γ : Ctx} {k : Nat} {L : Sl} {H H' : Hp} {K : Next'} {ops : List Oper} {rest : List Oper} {t : TypeId}
end
section
variable {Γ : Ctx} {k : Nat} {L : Sl} {H : Hp} {K : Next'} {ops : List Oper} {rest : List Oper} {t : TypeId}
theorem evNils {kk:Nat→Prop} {a:Act} {w:World} {e:Env} (m:Models Γ kk L H e a w) {x:Operand} (hx:opSV L x = .nils):a.eval x = .slice none 0 0:=by
 have hok:opOk x:=by
  cases x with
  | const v=>simp only [opSV] at hx;unfold cSV at hx;split at hx <;> simp_all [opOk,cOk]
  | _=>trivial
 have:=m.op x hok
 rw [hx] at this;exact this
end
end Go.Proofs.YtapciiffpnociabGreatDoor
namespace Go.Proofs.YtapciiffpnociabGreatDoor
open Go Go.RowKit
section
variable {Γ : Ctx} {k : Nat → Prop} {L : Sl} {H : Hp} {t t' ty : TypeId} {x y : Operand}
theorem run_eql_nilptr {P:Program} (w:World) {tp te:TypeId} (hp:P.underlying tp=some (.pointer te)):(binOp .eql tp (.pointer none) (.pointer none)).run P w = .ok (.bool true) w:=by
 have h:∀ d:Nat,(Op.equalIn (d + 1) tp (.pointer none) (.pointer none)).run P w = .ok true w:=fun d=>by
  simp [Op.equalIn,run_underlying hp]
 simp only [binOp]
 simp [Op.equal,Op.maxDepth,h 9999]
theorem ev_ptrNil {te:TypeId} {n:Nat} (ht:Γ.P.underlying t=some (.pointer te)) (hx:L.get n = .val (.pointer none)):Ev Γ k L H (.binOp .eql t (.tmp n) (.const (.pointer none)) t') ty (.d (.bool true)):=by
 intro e a w m
 have hv:a.eval (.tmp n) = .pointer none:=by
  have h:=m.slot n
  rw [hx] at h
  exact h
 refine⟨.bool true,fun _ _ _ _ w' _=>?_,.bool⟩
 have hc:a.eval (.const (.pointer none)) = .pointer none:=rfl
 simp [execOp,hv,hc,eqGuard,run_eql_nilptr w' ht]
theorem run_eql_ptr_some {P:Program} (w:World) {tp te:TypeId} (ad:Addr) (hp:P.underlying tp=some (.pointer te)):(binOp .eql tp (.pointer (some ad)) (.pointer none)).run P w = .ok (.bool false) w:=by
 have h:∀ d:Nat,(Op.equalIn (d + 1) tp (.pointer (some ad)) (.pointer none)).run P w = .ok false w:=fun d=>by
  simp [Op.equalIn,run_underlying hp]
 simp only [binOp]
 simp [Op.equal,Op.maxDepth,h 9999]
theorem ev_ptrSome {te:TypeId} {n i o:Nat} (ht:Γ.P.underlying t=some (.pointer te)) (hx:L.get n = .loc i o):Ev Γ k L H (.binOp .eql t (.tmp n) (.const (.pointer none)) t') ty (.d (.bool false)):=by
 intro e a w m
 have hv:=m.slot n
 rw [hx] at hv
 have hv':a.eval (.tmp n) = .pointer (some ⟨e.β i,o,none⟩):=hv.2
 refine⟨.bool false,fun _ _ _ _ w' _=>?_,.bool⟩
 have hc:a.eval (.const (.pointer none)) = .pointer none:=rfl
 simp [execOp,hv',hc,eqGuard,run_eql_ptr_some w' _ ht]
theorem ev_ptrSame {te:TypeId} {n n' i o:Nat} (ht:Γ.P.underlying t=some (.pointer te)) (hsz:(Γ.P.info? te).isSome=true) (hx:L.get n = .loc i o) (hy:L.get n' = .loc i o):Ev Γ k L H (.binOp .neq t (.tmp n) (.tmp n') t') ty (.d (.bool false)):=by
 intro e a w m
 obtain⟨j,hj⟩:=Option.isSome_iff_exists.1 hsz
 have hv:=m.slot n
 rw [hx] at hv
 have hv':a.eval (.tmp n) = .pointer (some ⟨e.β i,o,none⟩):=hv.2
 have hu:=m.slot n'
 rw [hy] at hu
 have hu':a.eval (.tmp n') = .pointer (some ⟨e.β i,o,none⟩):=hu.2
 refine⟨.bool false,fun _ _ _ _ w' _=>?_,.bool⟩
 simp [execOp,hv',hu',eqGuard,Lib.run_neq_ptr_same w' _ ht hj]
theorem ev_toUnsafe {te i n:Nat} {src dst:TypeId} {T:TypeId} {cs:List SV} (hs:Γ.P.underlying src=some (.pointer te)) (hd:Γ.P.underlying dst=some .unsafePointer) (hte:((Γ.P.info? te).map fun j=>Nat.blt 0 j.size)=some true)
  (hx:L.get n = .loc i 0) (hH:Hp.get H i=some (.blk T cs)) (hc:Nat.blt 0 cs.length=true):Ev Γ k L H (.convert src dst (.tmp n)) ty (.loc i 0):=by
 intro e a w m
 obtain⟨j,hj,hj2⟩:=Option.map_eq_some_iff.1 hte
 have hj2:0 < j.size:=Nat.le_of_ble_eq_true hj2
 have hv:=m.slot n
 rw [hx] at hv
 have hv':a.eval (.tmp n) = .pointer (some ⟨e.β i,0,none⟩):=hv.2
 obtain⟨vs,hb,hr,_⟩:=(m.heap _ (Hp.mem_of hH)).2
 have hl:=RelL.length _ _ hr
 refine⟨.pointer (some ⟨e.β i,0,none⟩),fun _ _ _ _ w' hw=>?_,⟨hv.1,rfl⟩⟩
 have hb':w'.heap[e.β i]? = some (.cells vs.toArray T (0,0)):=(hw.block _ (lt_of_heap hb)).trans hb
 have hsh:w'.shape? (e.β i)=some (T,vs.length):=by simp [World.shape?,hb']
 have hc':0 < cs.length:=Nat.le_of_ble_eq_true hc
 have hrun:=Lib.run_to_unsafe w' (⟨e.β i,0,none⟩:Addr) hs hd hj (by omega) hsh (by show 0 < vs.length;omega)
 simp [execOp,hv',hrun]
theorem ev_fromUnsafe {te i n c:Nat} {src dst:TypeId} {T:TypeId} {cs:List SV} (hs:Γ.P.underlying src=some .unsafePointer) (hd:Γ.P.underlying dst=some (.pointer te)) (hte:(Γ.P.info? te).isSome=true)
  (hx:L.get n = .loc i 0) (hH:Hp.get H i=some (.blk T cs)) (hc:Nat.beq cs.length c=true) (hlies:liesAt Γ.P Γ.P.depth T (c / Γ.P.cellsOf T) 0 te 1=true):Ev Γ k L H (.convert src dst (.tmp n)) ty (.loc i 0):=by
 intro e a w m
 obtain⟨j,hj⟩:=Option.isSome_iff_exists.1 hte
 have hv:=m.slot n
 rw [hx] at hv
 have hv':a.eval (.tmp n) = .pointer (some ⟨e.β i,0,none⟩):=hv.2
 obtain⟨vs,hb,hr,_⟩:=(m.heap _ (Hp.mem_of hH)).2
 have hl:=RelL.length _ _ hr
 have hc':cs.length=c:=Nat.eq_of_beq_eq_true hc
 refine⟨.pointer (some ⟨e.β i,0,none⟩),fun _ _ _ _ w' hw=>?_,⟨hv.1,rfl⟩⟩
 have hb':w'.heap[e.β i]? = some (.cells vs.toArray T (0,0)):=(hw.block _ (lt_of_heap hb)).trans hb
 have hsh:w'.shape? (e.β i)=some (T,c):=by simp [World.shape?,hb'];omega
 have hrun:=Lib.run_from_unsafe w' (⟨e.β i,0,none⟩:Addr) hs hd hj hsh hlies
 simp [execOp,hv',hrun]
theorem ev_noEscape {f : FuncId} {fn : Func} {n i : Nat} {ts : Array TypeId} (hf : Γ.P.funcs[f]? = some fn) (hname : (fn.name == "runtime.NumGoroutine") = false)
  (hb:fn.body.isNone=true) (hn:Extern.findNext fn=none) (he:Extern.find fn=some Extern.AbiNoEscape.same) (hx:L.get n = .loc i 0):Ev Γ k L H (.call { callee:=.value (.func f),args:=#[.tmp n],argTypes:=ts }) ty (.loc i 0):=by
 intro e a w m
 have hv:=m.slot n
 rw [hx] at hv
 have hv':a.eval (.tmp n) = .pointer (some ⟨e.β i,0,none⟩):=hv.2
 refine⟨.pointer (some ⟨e.β i,0,none⟩),fun _ _ _ _ w' hw=>?_,⟨hv.1,rfl⟩⟩
 have h:=run_callFunc_extern (P:=Γ.P) hf hname hb hn he #[.pointer (some ⟨e.β i,0,none⟩)] w'
 rw [Lib.run_noEscape] at h
 simp [execOp,resolve,Deferred.ofValue,invoke,hv']
 exact h
def strD (s:ByteArray):List (List D):=s.data.toList.map fun b=>[.int .u8 b.toNat]
theorem strD_length (s:ByteArray):(strD s).length=s.size:=by
 rw [strD,List.length_map,Array.length_toList];rfl
theorem strD_app (s u:ByteArray):strD (s++u)=strD s++strD u:=by
 unfold strD
 rw [← List.map_append]
 congr 1
theorem append_ownS {P:Program} {w:World} {t u ty te:TypeId} {inf:TypeInfo} (ht:P.underlying t=some (.slice te)) (hu:P.underlying u=some .string) (hi:P.info? te=some inf) (hz:inf.zero=some (.int .u8 0)) (hsize:inf.size=1) (hby:inf.bytes=1)
  {v:Value} {n:Nat} {xs:List Value} (hown:w.ownsRow 0 te 1 v n xs) (s:ByteArray) (hbytes:n + s.size≤140737488355328) :
  ∃ v' w',(Builtin.append_ #[t,u] ty #[v,.string s]).run P w = .ok v' w'∧w'.ownsRow 0 te 1 v' (n + s.size) (xs++Lib.strCells s)∧w.grownBy w' v.ownBlock∧(∀ c,v'.ownBlock=some c→v.ownBlock=some c∨w.heap.size≤c):=by
 obtain⟨v',w',hr,g1,g2,_⟩:=Lib.run_append_own_string (P:=P) w 0 t u ty te inf ht hu hi hz hsize hby v n xs hown s (by unfold maxLen;omega) hbytes (Nat.zero_le _)
 refine⟨v',w',hr,g1,g2,?_⟩
 rcases hown.2 with ⟨rfl,rfl⟩|⟨g,cap,cur,rfl,hbg,hg,hnc,hcm,hcs,htake⟩
 ·obtain⟨v2,w2,hr2,g3,_,_⟩:=Lib.run_append_own_string (P:=P) w w.heap.size t u ty te inf ht hu hi hz hsize hby (.slice none 0 0) 0 xs ⟨hown.1,.inl ⟨rfl,rfl⟩⟩ s (by unfold maxLen;omega) (by omega) (Nat.le_refl _)
  rw [hr] at hr2
  cases hr2
  exact fun c hc=>.inr (g3.lt c hc).1
 ·by_cases hroom:n + s.size≤cap
  ·have hcs':cur.size=cap:=by simpa using hcs
   have hr2:=Lib.run_append_room_string (P:=P) w t u ty te inf ht hu hi hsize g n cap cur hg s hroom (by omega)
   rw [hr] at hr2
   cases hr2
   exact fun c hc=>.inl hc
  ·have holds:∀ j u,xs[j]? = some u→w.cell? ((⟨g,0,none⟩:Addr).add j)=some u:=hown.cells (g:=g) rfl
   have hxl:xs.length=n:=by simpa using hown.1
   have hr2:=Lib.run_append_grow_string (P:=P) w t u ty te inf (.int .u8 0) ht hu hi hz ⟨g,0,none⟩ n cap xs (by rw [hsize];simpa using hxl) holds s (by omega) (by omega) (by rw [hby];exact growslice_fits (by omega) (by omega))
   rw [hr] at hr2
   cases hr2
   intro c hc
   simp only [Value.ownBlock,Option.some.injEq] at hc
   exact .inr (by omega)
theorem op_append_rowS [NoDr Γ] {d z i:Nat} {te t2:TypeId} {pos:String} {af:Array Edge} {g:Option (Nat × Bool)} {xs:List (List D)} {s:ByteArray}
  (hz':¬ k z) (ht:Γ.sh t = .slice te) (hu:Γ.sh t' = .str) (hkn:(Γ.sh te).known=true) (hes:Γ.cells te=1) (hby:(tiGet Γ.τ te).bytes=1) (hz0:((Γ.P.info? te).bind fun j=>j.zero)=some (.int .u8 0))
  (hx:opSV L x = .row i) (hH:Hp.get H i=some (.row te 1 xs)) (hy:opSV L y = .d (.str s)) (hyo:opOkB y=true) (hd:Nat.blt d Γ.n=true)
  (hroom:xs.length + s.size≤140737488355328) :
  OpOk Γ ⟨some d,.call { callee:=.builtin .append,args:=#[x,y],argTypes:=#[t,t'] },t2,pos,af,g⟩ k L H (with1 k z) ((d,.row z)::L) ((z,.row te 1 (xs++strD s))::Hp.del H i):=by
 intro e a w Q m
 have hze:¬ e.dom z:=fun h=>hz' ((m.top z).1 h)
 obtain⟨inf,zv,hi,hzz,hs,hb,hzc⟩:=Ctx.info (Sh.known_ne hkn)
 have hzz:inf.zero=some (.int .u8 0):=by rw [hi] at hz0;exact hz0
 obtain⟨_,hvx,_⟩:=evT m hx (cSV_row · _)
 have hvy:a.eval y = .string s:=by
  have hr:=m.op y (opOkB_spec hyo)
  rw [hy] at hr
  generalize a.eval y=v at hr
  cases hr;rfl
 obtain⟨vs,ho,hxe,hone,hrep⟩:=(m.heap _ (Hp.mem_of hH)).2
 obtain⟨v',w',hrun,hown',hgr,hblk⟩:=append_ownS (P:=Γ.P) (ty:=t2) (Ctx.slice ht) (Ctx.str hu) hi hzz (hs.trans hes) (hb.trans hby) ho s hroom
 have hop:(execOp a.eval ⟨some d,.call { callee:=.builtin .append,args:=#[x,y],argTypes:=#[t,t'] },t2,pos,af,g⟩).run Γ.P w = .ok (.value v') w':=by
  simp only [execOp,resolve,invoke,builtin,Sem.run_bind,Sem.run_pure,Result.andThen_ok,List.map_toArray,List.map_cons,List.map_nil,hvx,hvy,hrun]
 unfold Oper.wp
 rw [hop]
 have hη:(e.bindRow z v').η z=v':=if_pos rfl
 have hl:=ho.1
 have hye:∀ j (h:j < (strD s).length),((strD s)[j]'h).length=1:=by
  intro j h
  simp [strD]
 have hrep2:∀ i' (hi:i' < (strD s).length) j (hj:j < ((strD s)[i']'hi).length),∃ v,(Lib.strCells s)[i' * 1 + j]? = some v∧RepC (Γ.X e H) w v (((strD s)[i']'hi)[j]'hj):=by
  intro i' hi' j hj
  have hj0:j=0:=by have:=hye i' hi';omega
  subst hj0
  have hi2:i' < s.data.toList.length:=by simpa [strD] using hi'
  refine⟨.int .u8 (s.data.toList[i']'hi2).toNat,?_,?_⟩
  ·simp only [Nat.mul_one,Nat.add_zero,Lib.strCells,List.getElem?_map,List.getElem?_eq_getElem hi2,Option.map_some]
  ·have:((strD s)[i']'hi')[0]'hj = .int .u8 (s.data.toList[i']'hi2).toNat:=by simp [strD]
   rw [this]
   refine .int ?_
   exact WalkArith.wf_u8 (by have:=(s.data.toList[i']'hi2).toNat_lt;omega)
 have m2:=m.trade (hb:=.row te 1 (xs++strD s)) hH hz' (e':=e.bindRow z v') (w':=w') (fun i=>or_congr (m.top i) Iff.rfl) (e.bindRow_ext _ _ hze) hgr.size hgr.os hgr.tape hgr.output NoDr.any
  (fun c hc hne=>hgr.block c hc (fun h=>hne (by simp [HB.owned,h]))) (fun c hc=>by simp only [HB.owned,hη] at hc;exact hblk c hc) (fun hX=>by
   have hkeep:∀ b,b < w.heap.size→¬ Γ.X e H b→w'.heap[b]? = w.heap[b]?:=fun b hb hx=>hgr.block b hb (fun h=>hx (.inr (List.mem_filterMap.2 ⟨_,Hp.mem_of hH,by simp [HB.owned,h]⟩)))
   obtain⟨q1,q2⟩:=rows_append hxe hye hl hrep hrep2
   refine⟨vs++Lib.strCells s,?_,q1,fun v hv=>?_,fun i' hi' j hj=>?_⟩
   ·rw [hη,List.length_append,strD_length];exact hown'
   ·rcases List.mem_append.1 hv with hv|hv
    ·exact hone v hv
    ·exact Lib.strCells_oneCell s v hv
   ·obtain⟨v,p1,p2⟩:=q2 i' hi' j hj
    exact⟨v,p1,RepC.keep hgr.size hkeep hX p2⟩)
 exact⟨_,m2.put (s:=.row z) (v:=v') (Nat.le_of_ble_eq_true hd) ⟨.inr rfl,hη.symm,ownsRow_one hown'⟩⟩
theorem ev_sliceData {i:Nat} {te:TypeId} {xs:List (List D)} (hx:opSV L x = .row i) (hH:Hp.get H i=some (.row te 1 xs)) (hne:xs≠[]):Ev Γ k L H (.call { callee:=.builtin .unsafeSliceData,args:=#[x],argTypes:=#[t] }) ty (.prow i 0 1 0):=by
 intro e a w m
 obtain⟨hd,hvx,_⟩:=evT m hx (cSV_row · _)
 obtain⟨vs,ho,_⟩:=(m.heap _ (Hp.mem_of hH)).2
 have hl:0 < xs.length:=List.length_pos_iff.2 hne
 rcases ho.2 with ⟨_,h4⟩|⟨g,cap,cur,hη,_,_,hnc,_⟩
 ·omega
 ·refine⟨.pointer (some ⟨g,0,none⟩),fun _ _ _ _ w' _=>?_,⟨hd,g,xs.length,cap,hη,rfl⟩⟩
  have hr:=Lib.run_unsafeSliceData_row (P:=Γ.P) w' #[t] ty ⟨g,0,none⟩ xs.length cap (by omega)
  simp only [execOp,resolve,invoke,builtin,Sem.run_bind,Sem.run_pure,Result.andThen_ok,List.map_toArray,List.map_cons,List.map_nil,hvx,hη,hr]
theorem ev_sliceDataNil (hx:opSV L x = .nils):Ev Γ k L H (.call { callee:=.builtin .unsafeSliceData,args:=#[x],argTypes:=#[t] }) ty (.val (.pointer none)):=by
 intro e a w m
 have hvx:=evNils m hx
 refine⟨.pointer none,fun _ _ _ _ w' _=>?_,rfl⟩
 have hr:=Lib.run_unsafeSliceData_nil (P:=Γ.P) w' #[t] ty 0 0
 simp only [execOp,resolve,invoke,builtin,Sem.run_bind,Sem.run_pure,Result.andThen_ok,List.map_toArray,List.map_cons,List.map_nil,hvx,hr]
theorem ev_unsafeStringNil {n:Nat} {tp tn:TypeId} (hx:L.get n = .val (.pointer none)) (hy:opSV L y = .d (.int .i64 0)):Ev Γ k L H (.call { callee:=.builtin .unsafeString,args:=#[.tmp n,y],argTypes:=#[tp,tn] }) ty (.d (.str ⟨#[]⟩)):=by
 intro e a w m
 have hv:a.eval (.tmp n) = .pointer none:=by
  have h:=m.slot n
  rw [hx] at h
  exact h
 have hvy:=evI m hy
 refine⟨.string ⟨#[]⟩,fun _ _ _ _ w' _=>?_,RepC.str (by show 0≤maxLen;exact Nat.zero_le _)⟩
 have hr:=Lib.run_unsafeString_none (P:=Γ.P) w' tp tn ty none
 simp only [execOp,resolve,invoke,builtin,Sem.run_bind,Sem.run_pure,Result.andThen_ok,List.map_toArray,List.map_cons,List.map_nil,hv,hvy,hr]
 rfl
theorem op_unsafeString [NoDr Γ] {d z i:Nat} {te tp tn t2:TypeId} {pos:String} {af:Array Edge} {g:Option (Nat × Bool)} {s:ByteArray}
  (hz':¬ k z) (htp:Γ.P.underlying tp=some (.pointer te)) (hc1:Γ.P.cellsOf te=1) (hx:opSV L x = .prow i 0 1 0) (hH:Hp.get H i=some (.row te 1 (strD s))) (hs0:s.size≠0) (hy:opSV L y = .d (.int .i64 s.size)) (hd:Nat.blt d Γ.n=true) :
  OpOk Γ ⟨some d,.call { callee:=.builtin .unsafeString,args:=#[x,y],argTypes:=#[tp,tn] },t2,pos,af,g⟩ k L H (with1 k z) ((d,.d (.str s))::L) ((z,.row te 1 [])::Hp.del H i):=by
 intro e a w Q m
 have hze:¬ e.dom z:=fun h=>hz' ((m.top z).1 h)
 obtain⟨hd0,g0,n0,cap0,hη,hvx⟩:=evT m hx (cSV_prow · _ _ _ _)
 have hvy:=evI m hy
 obtain⟨vs,ho,hxe,hone,hrep⟩:=(m.heap _ (Hp.mem_of hH)).2
 have hlen:=strD_length s
 have ho2:=ho.2
 rw [hη] at ho2
 rcases ho2 with ⟨h,_⟩|⟨g1,cap,cur,hη2,_,hg,hnc,hcm,hcs,htake⟩
 ·cases h
 cases hη2
 have hs2:s.data.toList.length=s.size:=Array.length_toList ..
 have hcells:∀ j x,s.data.toList[j]? = some x→w.cell? ((⟨g0,0,none⟩:Addr).add j)=some (.int .u8 x.toNat):=by
  intro j x hj
  obtain⟨hjl,hjx⟩:=List.getElem?_eq_some_iff.1 hj
  have hjs:j < (strD s).length:=by omega
  have e1:(strD s)[j]'hjs=[.int .u8 x.toNat]:=by simp [strD,← hjx]
  obtain⟨v,g1,g2⟩:=hrep j hjs 0 (by rw [e1];exact Nat.zero_lt_one)
  have g2:RepC (Γ.X e H) w v (.int .u8 x.toNat):=by
   have:((strD s)[j]'hjs)[0]'(by rw [e1];exact Nat.zero_lt_one) = .int .u8 x.toNat:=by simp [e1]
   rw [this] at g2
   exact g2
  cases g2
  have:=ho.cells (g:=g0) (by rw [hη];rfl) j _ (by simpa using g1)
  exact this
 have hr:=Lib.run_unsafeString_row (P:=Γ.P) w tp tn t2 te htp hc1 g0 cur.size (by simp [World.shape?,hg]) s.data.toList (by intro h;rw [h] at hs2;simp at hs2;omega) (by omega) (by unfold maxLen at hcm;omega) hcells
 have hstr:(⟨s.data.toList.toArray⟩:ByteArray)=s:=by cases s;simp
 rw [hstr,hs2] at hr
 have hvx':a.eval x = .pointer (some ⟨g0,0,none⟩):=hvx
 have hop:(execOp a.eval ⟨some d,.call { callee:=.builtin .unsafeString,args:=#[x,y],argTypes:=#[tp,tn] },t2,pos,af,g⟩).run Γ.P w = .ok (.value (.string s)) (w.freeze ⟨g0,0,none⟩ s.size):=by
  simp only [execOp,resolve,invoke,builtin,Sem.run_bind,Sem.run_pure,Result.andThen_ok,List.map_toArray,List.map_cons,List.map_nil,hvx',hvy,hr]
 unfold Oper.wp
 rw [hop]
 have hηz:(e.bindRow z (.slice none 0 0)).η z = .slice none 0 0:=if_pos rfl
 obtain⟨w',hw',q1,q2,q3,q4,hfz⟩:∃ w',w' = w.freeze ⟨g0,0,none⟩ s.size∧w'.os=w.os∧w'.tape=w.tape∧w'.output=w.output∧w'.heap.size=w.heap.size∧∀ c,c≠g0→w'.heap[c]? = w.heap[c]?:=by
  refine⟨_,rfl,?_⟩
  unfold World.freeze
  rw [if_neg hs0]
  refine⟨rfl,rfl,rfl,by simp,fun c hc=>?_⟩
  simp only [Array.getElem?_modify]
  rw [if_neg (fun h=>hc h.symm)]
 rw [← hw']
 have hown:HB.owned e (i,.row te 1 (strD s))=some g0:=by
  show (e.η i).ownBlock=some g0
  rw [hη]
  rfl
 have m2:=m.trade (hb:=.row te 1 []) hH hz' (e':=e.bindRow z (.slice none 0 0)) (w':=w') (fun i=>or_congr (m.top i) Iff.rfl) (e.bindRow_ext _ _ hze) (by rw [q4];exact Nat.le_refl _) q1 q2 q3 NoDr.any
  (fun c hc hne=>hfz c fun h=>hne (by rw [hown,h])) (fun c hc=>by simp [HB.owned,hηz,Value.ownBlock] at hc) (fun hX=>by
   refine⟨[],?_,by simp,by simp,by simp⟩
   rw [hηz]
   exact World.ownsRow_nil _ _ _ _)
 exact⟨_,m2.put (s:=.d (.str s)) (v:=.string s) (Nat.le_of_ble_eq_true hd) (RepC.str (by omega))⟩
end
section
variable {Γ : Ctx} {L : Sl} {H : Hp} {t ty : TypeId} {x : Operand} {ops : List Oper}
theorem dt_sliceData (i0:Nat) {κ i:Nat} {rem:List (Nat × Oper)} {lg:Log} {Kf:FS→Prop} {te:TypeId} {xs:List (List D)} {d:Nat} {pos:String} {af:Array Edge} {g:Option (Nat × Bool)} (hx:opSV L x = .row i0) (hH:Hp.get H i0=some (.row te 1 xs)) (hne:xs≠[])
  (hw:wantedSV ops L g=some true) (hd:Nat.blt d Γ.n=true) (hlog:okLog ops i [i0] [] lg=true) (hk:DT Γ ops κ rem ((i,[i0],[])::lg) Kf ((d,.prow i0 0 1 0)::L) H) :
  DT Γ ops κ ((i,⟨some d,.call { callee:=.builtin .unsafeSliceData,args:=#[x],argTypes:=#[t] },ty,pos,af,g⟩)::rem) lg Kf L H:=by
 unfold DT at hk ⊢
 refine .cons true _ [i0] [] (.look d i0 (.prow i0 0 1 0) ((wantedF_eq ops L g).trans hw) rfl rfl (fun k' L' H' h1 h2=>?_) hd) hlog ⟨_,_,rfl,rfl⟩ (fun v u hv=>by rw [hv.2];rfl) fun v u hv=>?_
 ·have e1:opSV L' x = .row i0:=by rw [h1 x (by simp [Op.operands,Call.operands]),ofL_op];exact hx
  exact ev_sliceData e1 (h2.trans hH) hne
 ·obtain⟨rfl,rfl⟩:=hv
  show DR Γ ops κ rem _ Kf ((ofL L H).app (κ + i) (some d) _ .no)
  rw [show (ofL L H).app (κ + i) (some d) (.prow i0 0 1 0) .no=ofL ((d,.prow i0 0 1 0)::L) H from ofL_put L H (some d) _]
  exact hk
theorem dt_sliceNil (i0:Nat) {κ i:Nat} {rem:List (Nat × Oper)} {lg:Log} {Kf:FS→Prop} {d:Nat} {pos:String} {af:Array Edge} {g:Option (Nat × Bool)} (hx:opSV L x = .nils)
  (hw:wantedSV ops L g=some true) (hd:Nat.blt d Γ.n=true) (hlog:okLog ops i [i0] [] lg=true) (hk:DT Γ ops κ rem ((i,[i0],[])::lg) Kf ((d,.val (.pointer none))::L) H) :
  DT Γ ops κ ((i,⟨some d,.call { callee:=.builtin .unsafeSliceData,args:=#[x],argTypes:=#[t] },ty,pos,af,g⟩)::rem) lg Kf L H:=by
 unfold DT at hk ⊢
 refine .cons true _ [i0] [] (.look d i0 (.val (.pointer none)) ((wantedF_eq ops L g).trans hw) rfl rfl (fun k' L' H' h1 h2=>?_) hd) hlog ⟨_,_,rfl,rfl⟩ (fun v u hv=>by rw [hv.2];rfl) fun v u hv=>?_
 ·have e1:opSV L' x = .nils:=by rw [h1 x (by simp [Op.operands,Call.operands]),ofL_op];exact hx
  exact ev_sliceDataNil e1
 ·obtain⟨rfl,rfl⟩:=hv
  show DR Γ ops κ rem _ Kf ((ofL L H).app (κ + i) (some d) _ .no)
  rw [show (ofL L H).app (κ + i) (some d) (.val (.pointer none)) .no=ofL ((d,.val (.pointer none))::L) H from ofL_put L H (some d) _]
  exact hk
end
section
variable {Γ : Ctx} {k : Nat} {L : Sl} {H : Hp} {K : Next'} {ops : List Oper} {rest : List Oper} {t t' : TypeId} {x y : Operand}
theorem ds_append_rowS [NoDr Γ] {d i:Nat} {te t2:TypeId} {pos:String} {af:Array Edge} {g:Option (Nat × Bool)} {xs:List (List D)} {s:ByteArray}
  (ht:Γ.sh t = .slice te) (hu:Γ.sh t' = .str) (hkn:(Γ.sh te).known=true) (hes:Γ.cells te=1) (hby:(tiGet Γ.τ te).bytes=1) (hz0:((Γ.P.info? te).bind fun j=>j.zero)=some (.int .u8 0))
  (hx:opSV L x = .row i) (hH:Hp.get H i=some (.row te 1 xs)) (hy:opSV L y = .d (.str s)) (hyo:opOkB y=true) (hw:wantedSV ops L g=some true) (hd:Nat.blt d Γ.n=true)
  (hroom:xs.length + s.size≤140737488355328)
  (hk:DS false Γ ops rest K (k + 1) ((d,.row k)::L) ((k,.row te 1 (xs++strD s))::Hp.del H i)) :
  DS false Γ ops (⟨some d,.call { callee:=.builtin .append,args:=#[x,y],argTypes:=#[t,t'] },t2,pos,af,g⟩::rest) K k L H :=
 dl_op hw ((op_append_rowS (lo_not k) ht hu hkn hes hby hz0 hx hH hy hyo hd hroom).cast (with1_lo k)) hk
theorem ds_unsafeString [NoDr Γ] {d i:Nat} {te tp tn t2:TypeId} {pos:String} {af:Array Edge} {g:Option (Nat × Bool)} {s:ByteArray}
  (htp:Γ.P.underlying tp=some (.pointer te)) (hc1:Γ.P.cellsOf te=1) (hx:opSV L x = .prow i 0 1 0) (hH:Hp.get H i=some (.row te 1 (strD s))) (hs0:s.size≠0) (hy:opSV L y = .d (.int .i64 s.size)) (hw:wantedSV ops L g=some true) (hd:Nat.blt d Γ.n=true)
  (hk:DS false Γ ops rest K (k + 1) ((d,.d (.str s))::L) ((k,.row te 1 [])::Hp.del H i)) :
  DS false Γ ops (⟨some d,.call { callee:=.builtin .unsafeString,args:=#[x,y],argTypes:=#[tp,tn] },t2,pos,af,g⟩::rest) K k L H :=
 dl_op hw ((op_unsafeString (lo_not k) htp hc1 hx hH hs0 hy hd).cast (with1_lo k)) hk
end
end Go.Proofs.YtapciiffpnociabGreatDoor
namespace Go.Proofs.YtapciiffpnociabGreatDoor
open Go Go.RowKit
section
variable {Γ : Ctx} {k : Nat} {L : Sl} {H : Hp} {a : Act} {w : World} {e : Env} {S : Nat → Prop} {X' : Nat → Prop}
end
section
variable {Γ : Ctx} {k : Nat} {L : Sl} {H : Hp} {K : Next'} {ops : List Oper} {rest : List Oper}
end
section
variable {Γ : Ctx} {k : Nat} {L : Sl} {H : Hp} {K : Next'} {ops : List Oper} {rest : List Oper} {t t' ty : TypeId} {x y : Operand}
end
abbrev bldA (used:Bool):SV:=match used with|true=>.loc 0 0|false=>.val (.pointer none)
attribute [local irreducible] DW DS DL DQ Ev FnOk FnP thenD inBlockD DT
set_option maxHeartbeats 8000000 in
theorem ccheck_new (xs:List (List D)):FnOk false Tryz.prog tab tab_ok 50 [.loc 0 0] 2 2 [(0,.blk 58 [.val (.pointer none),.row 1]),(1,.row 5 1 xs)] (fun k r H=>k=2∧r = .tup []∧H=[(0,.blk 58 [.loc 0 0,.row 1]),(1,.row 5 1 xs)]):=by
 refine fn_enterR _ Tryz.func50 rfl rfl (by kernel_rfl) ?_
 intro O w0 E0 β0
 repeat' (first|refine z0 ?_|apply dw_seq2|refine z16 ?_|fail)
 refine ds_ev (ev_ptrNil (te:=56) (by kernel_rfl) rfl) rfl rfl ?_
 repeat' (first|refine z0 ?_|apply ds_nil|refine z16 ?_|refine z18 ?_|apply thenD_n)
 refine ds_ev (ev_toUnsafe (te:=56) (T:=58) (i:=0) (by kernel_rfl) (by kernel_rfl) (by kernel_rfl) rfl rfl rfl) rfl rfl ?_
 refine ds_ev (ev_noEscape (i:=0) Tryz.func85 (by kernel_rfl) (by kernel_rfl) (by kernel_rfl) (by kernel_rfl) rfl) rfl rfl ?_
 refine ds_ev (ev_fromUnsafe (te:=56) (T:=58) (i:=0) (c:=2) (by kernel_rfl) (by kernel_rfl) (by kernel_rfl) rfl rfl rfl (by kernel_rfl)) rfl rfl ?_
 repeat' (first|refine z0 ?_|apply ds_nil|refine z3 ?_|fail)
 exact⟨.inr rfl,_,rfl,id,2,_,[(0,.blk 58 [.loc 0 0,.row 1]),(1,.row 5 1 xs)],rfl,⟨rfl,rfl,trivial⟩,rfl,rfl,rfl,rfl,rfl,rfl,rfl,rfl,rfl⟩
set_option maxHeartbeats 8000000 in
theorem ccheck_used (xs:List (List D)):FnOk false Tryz.prog tab tab_ok 50 [.loc 0 0] 2 2 [(0,.blk 58 [.loc 0 0,.row 1]),(1,.row 5 1 xs)] (fun k r H=>k=2∧r = .tup []∧H=[(0,.blk 58 [.loc 0 0,.row 1]),(1,.row 5 1 xs)]):=by
 refine fn_enterR _ Tryz.func50 rfl rfl (by kernel_rfl) ?_
 intro O w0 E0 β0
 repeat' (first|refine z0 ?_|apply dw_seq2|refine z16 ?_|fail)
 refine ds_ev (ev_ptrSome (te:=56) (by kernel_rfl) rfl) rfl rfl ?_
 repeat' (first|refine z0 ?_|apply ds_nil|apply dw_seq2|refine z16 ?_|refine z19 ?_|apply thenD_n)
 refine ds_ev (ev_ptrSame (te:=56) (by kernel_rfl) (by kernel_rfl) rfl rfl) rfl rfl ?_
 repeat' (first|apply ds_nil|apply dw_skip|refine z19 ?_|apply thenD_n)
 exact⟨.inr rfl,_,rfl,id,2,_,[(0,.blk 58 [.loc 0 0,.row 1]),(1,.row 5 1 xs)],rfl,⟨rfl,rfl,trivial⟩,rfl,rfl,rfl,rfl,rfl,rfl,rfl,rfl,rfl⟩
set_option maxHeartbeats 8000000 in
theorem wstr_fn (used:Bool) (b s:ByteArray) (hr:b.size + s.size≤140737488355328):FnOk false Tryz.prog tab tab_ok 21 [.loc 0 0,.d (.str s)] 1 2 [(0,.blk 58 [bldA used,.row 1]),(1,.row 5 1 (strD b))]
  (fun k r H=>k=2∧r = .tup [.d (.int .i64 s.size),.val .nilIface]∧H=[(0,.blk 58 [.loc 0 0,.row 1]),(1,.row 5 1 (strD (b++s)))]):=by
 refine fn_enterR _ Tryz.func21 rfl rfl (by kernel_rfl) ?_
 intro O w0 E0 β0
 repeat' (first|refine z0 ?_|apply ds_nil|apply dw_seq2|refine z16 ?_|apply thenD_n)
 cases used with
 | true =>
  refine ds_callF id (ccheck_used _) rfl rfl rfl rfl ⟨rfl,rfl,trivial⟩ rfl rfl rfl rfl rfl rfl ?_ ?_
  ·rintro k2 res H2 ⟨rfl,rfl,rfl⟩;exact⟨rfl,rfl⟩
  rintro k2 res H2 ⟨rfl,rfl,rfl⟩
  change DS _ _ _ _ _ _ _ _
  repeat' (first|refine z0 ?_|apply ds_nil|apply dw_seq2|refine z16 ?_|apply thenD_n)
  refine ds_append_rowS (te:=5) (i:=1) (xs:=strD b) (s:=s) rfl rfl rfl rfl rfl (by kernel_rfl) rfl rfl rfl rfl rfl rfl (by rw [strD_length];exact hr) ?_
  repeat' (first|refine z0 ?_|apply ds_nil|apply dw_seq2|refine z16 ?_|apply dw_ret|apply thenD_n|refine z3 ?_|fail)
  exact⟨.inl rfl,_,rfl,(fun j=>match j with|1=>2|j=>j),2,_,[(0,.blk 58 [.loc 0 0,.row 1]),(1,.row 5 1 (strD (b++s)))],rfl,⟨rfl,by rw [strD_app];rfl,trivial⟩,rfl,rfl,rfl,rfl,rfl,rfl,rfl,rfl,rfl⟩
 | false =>
  refine ds_callF id (ccheck_new _) rfl rfl rfl rfl ⟨rfl,rfl,trivial⟩ rfl rfl rfl rfl rfl rfl ?_ ?_
  ·rintro k2 res H2 ⟨rfl,rfl,rfl⟩;exact⟨rfl,rfl⟩
  rintro k2 res H2 ⟨rfl,rfl,rfl⟩
  change DS _ _ _ _ _ _ _ _
  repeat' (first|refine z0 ?_|apply ds_nil|apply dw_seq2|refine z16 ?_|apply thenD_n)
  refine ds_append_rowS (te:=5) (i:=1) (xs:=strD b) (s:=s) rfl rfl rfl rfl rfl (by kernel_rfl) rfl rfl rfl rfl rfl rfl (by rw [strD_length];exact hr) ?_
  repeat' (first|refine z0 ?_|apply ds_nil|apply dw_seq2|refine z16 ?_|apply dw_ret|apply thenD_n|refine z3 ?_|fail)
  exact⟨.inl rfl,_,rfl,(fun j=>match j with|1=>2|j=>j),2,_,[(0,.blk 58 [.loc 0 0,.row 1]),(1,.row 5 1 (strD (b++s)))],rfl,⟨rfl,by rw [strD_app];rfl,trivial⟩,rfl,rfl,rfl,rfl,rfl,rfl,rfl,rfl,rfl⟩
set_option maxHeartbeats 8000000 in
theorem bstr_fn (b:ByteArray) (hb:b.size≠0):FnOk false Tryz.prog tab tab_ok 25 [.loc 0 0] 0 2 [(0,.blk 58 [.loc 0 0,.row 1]),(1,.row 5 1 (strD b))] (fun _ r H=>H=[]∧r = .d (.str b)):=by
 refine fn_enterR _ Tryz.func25 rfl rfl (by kernel_rfl) ?_
 intro O w0 E0 β0
 have hne:strD b≠[]:=by
  intro h
  have:=strD_length b
  rw [h] at this
  exact hb this.symm
 repeat' ((fail_if_success (apply dw_stopS 1));(first|refine z0 ?_|apply ds_nil|apply dw_seq2|refine z16 ?_|apply thenD_n))
 refine dw_seq2 ?_
 refine dw_tail 10 (by kernel_rfl) (by kernel_rfl) (by kernel_rfl) rfl rfl rfl ?_
 repeat' refine z5 ?_
 refine dt_sliceData 1 rfl rfl hne rfl rfl rfl ?_
 repeat' (first|refine z5 ?_|refine z10 ?_|fail)
 refine ds_unsafeString (te:=5) (i:=1) (s:=b) (by kernel_rfl) (by kernel_rfl) rfl rfl hb (by show SV.d (.int .i64 ((strD b).length:Nat))=_;rw [strD_length]) rfl rfl ?_
 repeat' (first|refine z0 ?_|apply ds_nil|apply dw_ret|apply thenD_n)
 exact⟨.inl rfl,_,rfl,id,0,_,[],rfl,trivial,rfl,rfl,rfl,rfl,rfl,rfl,rfl,rfl⟩
def endS:ByteArray:=⟨#[46,10]⟩
def ifS:ByteArray:=⟨#[32,58,45,32]⟩
def showRu (r:TRu):ByteArray:=atomS r.name r.terms r.fold++(if r.body=[] then ⟨#[]⟩ else ifS++eachS (r.body.map showLt))++endS
def showS:List TRu→ByteArray
 | []=>⟨#[]⟩
 | r::rs=>showRu r++showS rs
structure RuShow (r:TRu):Prop where
 name:r.name.size≤4294967296
 terms:∀ t∈r.terms,nOk t
 len:r.terms.length≤3
 fold:r.fold=0∨(1≤r.fold∧r.fold≤4∧0 < r.terms.length)
 body:∀ x∈r.body,LtOk x
 blen:r.body.length≤4
theorem showS_snoc (l:List TRu) (r:TRu):showS (l++[r])=showS l++showRu r:=by
 induction l with
 | nil =>
  show showRu r++⟨#[]⟩=⟨#[]⟩++showRu r
  have e1:showRu r++(⟨#[]⟩:ByteArray)=showRu r:=ByteArray.append_empty ..
  have e2:(⟨#[]⟩:ByteArray)++showRu r=showRu r:=ByteArray.empty_append ..
  rw [e1,e2]
 | cons a l ih=>simp [showS,ih,ByteArray.append_assoc]
theorem atomS_sizeF (name:ByteArray) (l:List TTm) (fold:Int) (hl:l.length≤16) (hok:∀ t∈l,nOk t) (hn:name.size≤4294967296) (hf:fold=0∨(1≤fold∧fold≤4∧0 < l.length)):(atomS name l fold).size≤137438953472:=by
 have s40:(⟨#[40]⟩:ByteArray).size=1:=rfl
 have s41:(⟨#[41]⟩:ByteArray).size=1:=rfl
 have s32:(⟨#[32]⟩:ByteArray).size=1:=rfl
 have scm:cmS.size=2:=rfl
 unfold atomS
 split
 ·have hs:=eachTm_size l hl hok
  simp only [ByteArray.size_append]
  omega
 ·rename_i h0
  obtain⟨f1,f2,f3⟩:1≤fold∧fold≤4∧0 < l.length:=by rcases hf with h|h;exact absurd h h0;exact h
  have hs:=eachTm_size (l.take (l.length - 1)) (by rw [List.length_take];omega) (fun t ht=>hok t (List.mem_of_mem_take ht))
  have hw:∀ x∈wordsL,x.size≤5:=by decide
  have hfw:fold.toNat < wordsL.length:=by show fold.toNat < 5;omega
  have hgw:wordsL.getD fold.toNat ⟨#[]⟩=wordsL[fold.toNat]:=by rw [List.getD_eq_getElem?_getD,List.getElem?_eq_getElem hfw];rfl
  have hw2:=hw _ (List.getElem_mem hfw)
  have hlast:l.length - 1 < l.length:=by omega
  have hg:l.getD (l.length - 1) ⟨⟨#[]⟩,0⟩=l[l.length - 1]:=by rw [List.getD_eq_getElem?_getD,List.getElem?_eq_getElem hlast];rfl
  have hs2:=showTm_size (hok _ (List.getElem_mem hlast))
  rw [hg,hgw]
  split
  ·simp only [ByteArray.size_append];omega
  ·simp only [ByteArray.size_append];omega
theorem eachLt_size (l:List TLt) (hl:l.length≤4) (hok:∀ x∈l,LtOk x):(eachS (l.map showLt)).size≤549755813896:=by
 have hs:=join_size cmS (by decide) (l.map showLt) 137438953472 (fun x hx=>by
  obtain⟨t,ht,rfl⟩:=List.mem_map.1 hx
  exact showLt_size (hok t ht))
 rw [List.length_map] at hs
 have:l.length * (137438953472 + 2)≤4 * (137438953472 + 2):=Nat.mul_le_mul_right _ hl
 exact Nat.le_trans hs (Nat.le_trans this (by decide))
theorem showRu_size {r:TRu} (h:RuShow r):(showRu r).size≤1099511627776:=by
 have h1:=atomS_sizeF r.name r.terms r.fold (by have:=h.len;omega) h.terms h.name h.fold
 have h2:=eachLt_size r.body h.blen h.body
 have s1:endS.size=2:=rfl
 have s2:ifS.size=4:=rfl
 have s0:(⟨#[]⟩:ByteArray).size=0:=rfl
 unfold showRu
 split
 ·simp only [ByteArray.size_append];omega
 ·simp only [ByteArray.size_append];omega
theorem showS_size:∀ (rs:List TRu),(∀ r∈rs,RuShow r)→(showS rs).size≤rs.length * 1099511627776
 | [],_=>Nat.zero_le _
 | r::rs,h=>by
  have h1:=showRu_size (h r (List.mem_cons_self ..))
  have h2:=showS_size rs fun x hx=>h x (List.mem_cons_of_mem _ hx)
  show (showRu r++showS rs).size≤_
  rw [ByteArray.size_append,List.length_cons,Nat.succ_mul]
  omega
def rho1:Nat→Nat
 | 0=>1
 | 1=>2
 | j=>j
def bU:Nat→Bool
 | 0=>false
 | _ + 1=>true
abbrev pA (i:Nat):SV:=(bldA (bU i)).ren rho1
set_option maxHeartbeats 8000000 in
theorem sshow_fn (rs:List TRu) (hne:rs≠[]) (hc:checkT rs=0) (hl:rs.length≤12) (hok:∀ r∈rs,RuShow r):Fn 8 [.agg [.d (.slice 5 (rs.map encTRu))]] (fun r=>r = .tup [.d (.str (showS rs)),.d (.int .i64 0)]):=by
 refine fnp_enter' _ Tryz.func8 rfl rfl (by kernel_rfl) ?_
 intro O w0 E0 β0
 have ll:(rs.map encTRu).length=rs.length:=List.length_map _
 have w1:=tcheck_fn rs
 rw [hc] at w1
 repeat' (first|refine z0 ?_|apply ds_nil|apply dw_seq2|refine z16 ?_|apply dw_block|apply dw_skip|refine z19 ?_|apply thenD_n|refine z21 ?_ (hc:=by apply w1)|refine z1 ?_|fail)
 refine dw_ent (ent_cellrow 1 1 5 1 rfl rfl rfl) ?_
 refine ds_loop (ι:=Nat) (fun i=>⟨3,[(5,.loc 1 0),(16,.d (.slice 5 (rs.map encTRu))),(17,.d (.int .i64 rs.length)),(18,.d (.int .i64 i))],[(1,.blk 58 [pA i,.row 2]),(2,.row 5 1 (strD (showS (rs.take i))))]⟩)
  (fun i=>i≤rs.length) (fun i=>rs.length - i) 0 (Nat.zero_le _) (ent_ren id ⟨rfl,rfl,by rw [← ll];rfl,rfl,trivial⟩ ⟨rfl,rfl,trivial⟩ rfl rfl rfl rfl rfl rfl) ?_
 clear w1
 intro i hle
 dsimp only at hle ⊢
 by_cases hi:i < rs.length
 ·have hr:=hok _ (List.getElem_mem hi)
  have hst:showS (rs.take (i + 1))=showS (rs.take i)++showRu rs[i]:=by rw [List.take_succ_eq_append_getElem hi,showS_snoc]
  have hz:(showS (rs.take i)).size≤14293651161088:=by
   have:=showS_size (rs.take i) fun x hx=>hok x (List.mem_of_mem_take hx)
   have h2:(rs.take i).length * 1099511627776≤13 * 1099511627776:=Nat.mul_le_mul_right _ (by rw [List.length_take];omega)
   exact Nat.le_trans this h2
  have w1:=satom_fn rs[i].name rs[i].terms rs[i].fold (by have:=hr.len;omega) hr.terms hr.name hr.fold
  have w2:=eachLt_fn rs[i].body (by have:=hr.blen;omega) hr.body
  have yz1:=atomS_sizeF rs[i].name rs[i].terms rs[i].fold (by have:=hr.len;omega) hr.terms hr.name hr.fold
  have yz2:=eachLt_size rs[i].body hr.blen hr.body
  have hd:showRu rs[i]=atomS rs[i].name rs[i].terms rs[i].fold++(if rs[i].body=[] then ⟨#[]⟩ else ifS++eachS (rs[i].body.map showLt))++endS:=rfl
  generalize showRu rs[i]=RU at *
  generalize atomS rs[i].name rs[i].terms rs[i].fold=A at *
  generalize eachS (rs[i].body.map showLt)=E at *
  generalize showS (rs.take i)=B at *
  repeat' ((fail_if_success (apply dw_stopS 8));(first|refine z0 ?_|apply ds_nil|apply dw_seq2|refine z16 ?_|apply dw_block|apply dw_skip|apply dw_exit|apply thenD_n|apply thenD_e|refine z17 ?_|refine z1 ?_|refine z3 ?_|(refine z23 ?_ ?_ <;> intro hg)|fail))
  all_goals try (exfalso;omega)
  refine dw_seq2 ?_
  refine dw_tail 10 (by kernel_rfl) (by kernel_rfl) (by kernel_rfl) rfl rfl rfl ?_
  repeat' (first|refine z5 ?_|refine z11 ?_|refine z22 ?_ (hc:=by apply w1)|fail)
  refine ds_callF rho1 (wstr_fn (bU i) B A (by omega)) rfl rfl rfl rfl ⟨rfl,rfl,trivial⟩ (by cases i <;> rfl) rfl rfl rfl rfl rfl ?_ ?_
  ·rintro k2 res H2 ⟨rfl,rfl,rfl⟩;exact⟨rfl,rfl⟩
  rintro k2 res H2 ⟨rfl,rfl,rfl⟩
  change DS _ _ _ _ _ _ _ _
  repeat' ((fail_if_success (apply dw_stopS 9));(first|apply ds_nil|apply dw_seq2|apply thenD_n))
  refine dw_ent (show Ent _ _ _ _ 4 [(5,.loc 1 0),(7,.loc 3 0),(16,.d (.slice 5 (rs.map encTRu))),(17,.d (.int .i64 rs.length)),(18,.d (.int .i64 i))] [(1,.blk 58 [.loc 1 0,.row 2]),(2,.row 5 1 (strD (B++A))),(3,.blk 47 [.d (.int .i64 rs[i].at_),.d (.str rs[i].name),.d (.slice 2 (rs[i].terms.map encTTm)),.d (.int .i64 rs[i].fold),.d (.slice 5 (rs[i].body.map encTLt))])] from ent_ren (fun j=>match j with|2=>15|j=>j) ⟨rfl,rfl,rfl,rfl,rfl,trivial⟩ ⟨rfl,rfl,rfl,trivial⟩ rfl rfl rfl rfl rfl rfl) ?_
  have s1:endS.size=2:=rfl
  have s2:ifS.size=4:=rfl
  have s3:(⟨#[32,58,45,32]⟩:ByteArray).size=4:=rfl
  have lb:(rs[i].body.map encTLt).length=rs[i].body.length:=List.length_map _
  by_cases hb:rs[i].body=[]
  ·have hb0:rs[i].body.length=0:=by rw [hb];rfl
   rw [if_pos hb] at hd
   repeat' ((fail_if_success (apply dw_stopS 11));(first|refine z0 ?_|apply ds_nil|refine z5 ?_|apply dw_seq2|refine z16 ?_|refine z20 ?_|apply dw_skip|apply thenD_n|(refine z23 ?_ ?_ <;> intro hg)|fail))
   all_goals try (exfalso;omega)
   repeat' fail
   refine ds_callF rho1 (wstr_fn true (B++A) (endS) (by simp only [ByteArray.size_append];omega)) rfl rfl rfl rfl ⟨rfl,rfl,trivial⟩ rfl rfl rfl rfl rfl rfl ?_ ?_
   ·rintro k2 res H2 ⟨rfl,rfl,rfl⟩;exact⟨rfl,rfl⟩
   rintro k2 res H2 ⟨rfl,rfl,rfl⟩
   change DS _ _ _ _ _ _ _ _
   have e1:showS (rs.take (i + 1))=B++A++endS:=by
    have e0:A++(⟨#[]⟩:ByteArray)=A:=ByteArray.append_empty ..
    rw [hst,hd,e0,ByteArray.append_assoc]
   repeat' (first|refine z0 ?_|apply ds_nil|refine z16 ?_|apply thenD_n|apply inB_n)
   all_goals try (exfalso;omega)
   exact⟨i + 1,hi,ent_ren (fun j=>match j with|2=>5|j=>j) ⟨rfl,rfl,rfl,rfl,trivial⟩ ⟨rfl,by rw [e1];rfl,trivial⟩ rfl rfl rfl rfl rfl rfl,by omega⟩
  ·have hb0:0 < rs[i].body.length:=List.length_pos_iff.2 hb
   rw [if_neg hb] at hd
   repeat' ((fail_if_success (apply dw_stopT 10));(first|refine z0 ?_|apply ds_nil|apply dw_seq2|refine z16 ?_|apply dw_skip|apply thenD_n|(refine z23 ?_ ?_ <;> intro hg)|fail))
   all_goals try (exfalso;omega)
   refine dw_tail 7 (by kernel_rfl) (by kernel_rfl) (by kernel_rfl) rfl rfl rfl ?_
   repeat' (first|refine z5 ?_|refine z10 ?_|refine z22 ?_ (hc:=by apply w2)|fail)
   refine ds_callF rho1 (wstr_fn true (B++A) (ifS++E) (by simp only [ByteArray.size_append];omega)) rfl rfl rfl rfl ⟨rfl,rfl,trivial⟩ rfl rfl rfl rfl rfl rfl ?_ ?_
   ·rintro k2 res H2 ⟨rfl,rfl,rfl⟩;exact⟨rfl,rfl⟩
   rintro k2 res H2 ⟨rfl,rfl,rfl⟩
   change DS _ _ _ _ _ _ _ _
   repeat' (first|refine z0 ?_|apply ds_nil|refine z16 ?_|apply thenD_n)
   refine ds_callF (fun j=>match j with|0=>1|1=>5|j=>j) (wstr_fn true (B++A++(ifS++E)) endS (by simp only [ByteArray.size_append];omega)) rfl rfl rfl rfl ⟨rfl,rfl,trivial⟩ rfl rfl rfl rfl rfl rfl ?_ ?_
   ·rintro k2 res H2 ⟨rfl,rfl,rfl⟩;exact⟨rfl,rfl⟩
   rintro k2 res H2 ⟨rfl,rfl,rfl⟩
   change DS _ _ _ _ _ _ _ _
   have e1:showS (rs.take (i + 1))=B++A++(ifS++E)++endS:=by
    rw [hst,hd]
    simp only [ByteArray.append_assoc]
   repeat' (first|refine z0 ?_|apply ds_nil|refine z16 ?_|apply thenD_n|apply inB_n)
   all_goals try (exfalso;omega)
   exact⟨i + 1,hi,ent_ren (fun j=>match j with|2=>7|j=>j) ⟨rfl,rfl,rfl,rfl,trivial⟩ ⟨rfl,by rw [e1];rfl,trivial⟩ rfl rfl rfl rfl rfl rfl,by omega⟩
 ·rw [List.take_of_length_le (by omega)]
  have hpos:0 < rs.length:=List.length_pos_iff.2 hne
  obtain⟨n,hn⟩:∃ n,i=n + 1:=⟨i - 1,by omega⟩
  subst hn
  have hb0:(showS rs).size≠0:=by
   match rs,hne with
   | r::l,_ =>
    have s1:endS.size=2:=rfl
    show (showRu r++showS l).size≠0
    unfold showRu
    simp only [ByteArray.size_append]
    omega
  repeat' (first|refine z0 ?_|apply ds_nil|refine z5 ?_|apply dw_seq2|refine z16 ?_|refine z20 ?_|apply dw_block|apply dw_skip|apply dw_exit|apply thenD_n|apply thenD_e|refine z17 ?_|refine z1 ?_|refine z3 ?_|(refine z23 ?_ ?_ <;> intro hg)|fail)
  all_goals try (exfalso;omega)
  refine ds_callF rho1 (bstr_fn (showS rs) hb0) rfl rfl rfl rfl ⟨rfl,rfl,trivial⟩ rfl rfl rfl rfl rfl rfl ?_ ?_
  ·rintro k2 res H2 ⟨rfl,rfl⟩;exact⟨rfl,rfl⟩
  rintro k2 res H2 ⟨rfl,rfl⟩
  change DS _ _ _ _ _ _ _ _
  repeat' (first|refine z0 ?_|apply ds_nil|apply dw_ret|apply thenD_n)
  all_goals exact⟨.inl rfl,_,rfl,rfl,rfl⟩
theorem each_one (x:ByteArray):eachS [x]=x:=by
 apply ByteArray.ext
 simp [eachS,joinB,Lib.join,List.intercalate]
theorem each_none:eachS []=⟨#[]⟩:=rfl
def tmP (t:TTm):List Pc:=(tmK t).map .tok
abbrev rpP:Pc:=.tok (tz 4 rpS)
abbrev coP:Pc:=.tok (tz 4 coS)
abbrev doP:Pc:=.tok (tz 4 doS)
def tmsP:List TTm→List Pc
 | []=>[rpP]
 | [t]=>tmP t++[rpP]
 | t::u::l=>tmP t++coP::.sp 32::tmsP (u::l)
abbrev wordZ (f:Int):ByteArray:=wordsL.getD f.toNat ⟨#[]⟩
def tmsQ (f:Int):List TTm→List Pc
 | []=>[rpP]
 | [t]=>.tok (tz 1 (wordZ f))::.sp 32::(tmP t++[rpP])
 | t::u::l=>tmP t++coP::.sp 32::tmsQ f (u::l)
def atomP (name:ByteArray) (ts:List TTm) (f:Int):List Pc:=.tok (tz 1 name)::.tok (tz 4 lpS)::(if f=0 then tmsP ts else tmsQ f ts)
def litP (x:TLt):List Pc :=
 if x.kind=1 then atomP x.name x.terms 0
 else if x.kind=2 then .tok (tz 1 noS)::.sp 32::atomP x.name x.terms 0
 else if x.kind=3 then tmP (x.terms.getD 0 t0S)++.sp 32::.tok (tz 4 (opZ x.op))::.sp 32::tmP (x.terms.getD 1 t0S)
 else tmP (x.terms.getD 0 t0S)++.sp 32::.tok (tz 4 (opZ x.op))::.sp 32::(tmP (x.terms.getD 1 t0S)++.sp 32::.tok (tz 4 eqZ)::.sp 32::tmP (x.terms.getD 2 t0S))
def litsP:List TLt→List Pc
 | []=>[]
 | [x]=>litP x
 | x::y::l=>litP x++coP::.sp 32::litsP (y::l)
def ruleP (r:TRu):List Pc:=atomP r.name r.terms r.fold++((if r.body=[] then [doP] else .sp 32::.tok (tz 4 ifZ)::.sp 32::(litsP r.body++[doP]))++[.sp 10])
def treeP:List TRu→List Pc
 | []=>[]
 | r::rs=>ruleP r++treeP rs
theorem tmP_toks (t:TTm):toksP (tmP t)=tmK t:=by
 unfold tmP
 generalize tmK t=l
 induction l with
 | nil=>rfl
 | cons a l ih =>
  show a::toksP (l.map .tok)=a::l
  rw [ih]
theorem tmsP_toks:∀ ts,toksP (tmsP ts)=tmsK ts
 | []=>rfl
 | [t]=>by
  show toksP (tmP t++[rpP])=tmK t++[tz 4 rpS]
  rw [toksP_app,tmP_toks]
  rfl
 | t::u::l=>by
  show toksP (tmP t++coP::.sp 32::tmsP (u::l))=tmK t++tz 4 coS::tmsK (u::l)
  rw [toksP_app,tmP_toks,← tmsP_toks (u::l)]
  rfl
theorem tmsQ_toks (f:Int):∀ ts,toksP (tmsQ f ts)=tmsF f ts
 | []=>rfl
 | [t]=>by
  show tz 1 (wordZ f)::toksP (tmP t++[rpP])=tz 1 (wordZ f)::(tmK t++[tz 4 rpS])
  rw [toksP_app,tmP_toks]
  rfl
 | t::u::l=>by
  show toksP (tmP t++coP::.sp 32::tmsQ f (u::l))=tmK t++tz 4 coS::tmsF f (u::l)
  rw [toksP_app,tmP_toks,← tmsQ_toks f (u::l)]
  rfl
theorem atomP_toks (name:ByteArray) (ts:List TTm) (f:Int):toksP (atomP name ts f)=atomK name ts f:=by
 unfold atomP atomK
 split
 ·rw [← tmsP_toks];rfl
 ·rw [← tmsQ_toks];rfl
theorem litP_toks (x:TLt):toksP (litP x)=litK x:=by
 unfold litP litK
 split
 ·exact atomP_toks ..
 split
 ·rw [← atomP_toks];rfl
 split
 ·rw [toksP_app,tmP_toks,← tmP_toks (x.terms.getD 1 t0S)];rfl
 ·rw [toksP_app,tmP_toks,← tmP_toks (x.terms.getD 2 t0S),← tmP_toks (x.terms.getD 1 t0S)]
  show _++_::toksP (tmP (x.terms.getD 1 t0S)++_)=_
  rw [toksP_app]
  rfl
theorem litsP_toks:∀ b,toksP (litsP b)=litsK b
 | []=>rfl
 | [x]=>litP_toks x
 | x::y::l=>by
  show toksP (litP x++coP::.sp 32::litsP (y::l))=litK x++tz 4 coS::litsK (y::l)
  rw [toksP_app,litP_toks,← litsP_toks (y::l)]
  rfl
theorem ruleP_toks (r:TRu):toksP (ruleP r)=ruleK r:=by
 unfold ruleP ruleK
 rw [toksP_app,atomP_toks,toksP_app]
 split
 ·rfl
 ·show _++(tz 4 ifZ::toksP (litsP r.body++[doP])++[])=_
  rw [toksP_app,litsP_toks,List.append_nil]
  rfl
theorem treeP_toks:∀ rs,toksP (treeP rs)=treeK rs
 | []=>rfl
 | r::rs=>by
  show toksP (ruleP r++treeP rs)=ruleK r++treeK rs
  rw [toksP_app,ruleP_toks,treeP_toks rs]
theorem bts (a b:ByteArray):(a++b).data.toList=a.data.toList++b.data.toList:=by
 simp only [ByteArray.data_append,Array.toList_append]
theorem tmP_text (t:TTm):textP (tmP t)=(showTm t).data.toList:=by
 unfold tmP tmK showTm
 split
 ·split
  ·obtain⟨u,hu⟩:∃ u:Nat,-t.n=(u:Int):=⟨t.n.natAbs,by omega⟩
   have h:=itoaB_neg (u:=u) (by omega)
   rw [← hu,Int.neg_neg] at h
   rw [h,bts]
   show _++(_++[])=_
   rw [List.append_nil]
  ·show _++[]=_
   rw [List.append_nil]
 ·show _++[]=_
  rw [List.append_nil]
theorem each_cons (a b:ByteArray) (l:List ByteArray):eachS (a::b::l)=a++cmS++eachS (b::l):=by
 apply ByteArray.ext
 simp [eachS,joinB,Lib.join,List.intercalate]
theorem tmsP_text:∀ ts,textP (tmsP ts)=(eachS (ts.map showTm)).data.toList++[41]
 | []=>by
  show textP [rpP]=(eachS []).data.toList++[41]
  rw [each_none]
  rfl
 | [t]=>by
  show textP (tmP t++[rpP])=(eachS [showTm t]).data.toList++[41]
  rw [textP_app,tmP_text,each_one]
  rfl
 | t::u::l=>by
  have ih:=tmsP_text (u::l)
  show textP (tmP t++coP::.sp 32::tmsP (u::l))=(eachS (showTm t::showTm u::l.map showTm)).data.toList++[41]
  rw [textP_app,tmP_text,each_cons,bts,bts]
  show _++(44::(32::textP (tmsP (u::l))))=_
  rw [ih]
  simp [cmS]
abbrev foldSZ (ts:List TTm) (f:Int):ByteArray:=(if 1 < ts.length then eachS ((ts.take (ts.length - 1)).map showTm)++cmS else eachS ((ts.take (ts.length - 1)).map showTm))++wordZ f++⟨#[32]⟩++showTm (ts.getD (ts.length - 1) ⟨⟨#[]⟩,0⟩)
theorem tmsQ_text (f:Int):∀ ts,ts≠[]→textP (tmsQ f ts)=(foldSZ ts f).data.toList++[41]
 | [],h=>absurd rfl h
 | [t],_=>by
  show textP (.tok (tz 1 (wordZ f))::.sp 32::(tmP t++[rpP]))=(eachS []++wordZ f++⟨#[32]⟩++showTm t).data.toList++[41]
  rw [each_none]
  show (wordZ f).data.toList++(32::textP (tmP t++[rpP]))=_
  rw [textP_app,tmP_text]
  simp only [bts]
  simp [textP]
 | [t,u],_=>by
  show textP (tmP t++coP::.sp 32::(.tok (tz 1 (wordZ f))::.sp 32::(tmP u++[rpP])))=(eachS [showTm t]++cmS++wordZ f++⟨#[32]⟩++showTm u).data.toList++[41]
  rw [each_one,textP_app,tmP_text]
  show _++(44::(32::((wordZ f).data.toList++(32::textP (tmP u++[rpP])))))=_
  rw [textP_app,tmP_text]
  simp only [bts]
  simp [textP,cmS]
 | t::u::v::l,_=>by
  have ih:=tmsQ_text f (u::v::l) (by simp)
  have h1:foldSZ (t::u::v::l) f=showTm t++cmS++foldSZ (u::v::l) f:=by
   unfold foldSZ
   rw [if_pos (by simp),if_pos (by simp)]
   simp only [List.length_cons,Nat.add_sub_cancel,List.take_succ_cons,List.map_cons,List.getD_cons_succ]
   rw [each_cons]
   simp only [ByteArray.append_assoc]
  rw [h1]
  show textP (tmP t++coP::.sp 32::tmsQ f (u::v::l))=_
  rw [textP_app,tmP_text,bts,bts]
  show _++(44::(32::textP (tmsQ f (u::v::l))))=_
  rw [ih]
  simp [cmS]
theorem atomP_text (name:ByteArray) (ts:List TTm) (f:Int) (hf:f=0∨ts≠[]):textP (atomP name ts f)=(atomS name ts f).data.toList:=by
 unfold atomP atomS
 by_cases h0:f=0
 ·rw [if_pos h0,if_pos h0]
  show name.data.toList++(40::textP (tmsP ts))=_
  rw [tmsP_text]
  simp only [bts]
  simp
 ·rw [if_neg h0,if_neg h0]
  have hne:ts≠[]:=by rcases hf with h|h;exact absurd h h0;exact h
  show name.data.toList++(40::textP (tmsQ f ts))=_
  rw [tmsQ_text f ts hne]
  unfold foldSZ
  generalize (if 1 < ts.length then eachS ((ts.take (ts.length - 1)).map showTm)++cmS else eachS ((ts.take (ts.length - 1)).map showTm))=E
  simp only [bts]
  simp
theorem litP_text (x:TLt):textP (litP x)=(showLt x).data.toList:=by
 unfold litP showLt
 split
 ·exact atomP_text _ _ _ (.inl rfl)
 split
 ·rw [bts,← atomP_text _ _ _ (.inl rfl)];rfl
 split
 ·rw [textP_app,tmP_text]
  show _++(32::((opZ x.op).data.toList++(32::textP (tmP _))))=_
  rw [tmP_text]
  simp only [bts]
  simp
 ·rw [textP_app,tmP_text]
  show _++(32::((opZ x.op).data.toList++(32::textP (tmP _++_))))=_
  rw [textP_app,tmP_text]
  show _++(32::((opZ x.op).data.toList++(32::(_++(32::(61::(32::textP (tmP _))))))))=_
  rw [tmP_text]
  simp only [bts]
  simp
theorem litsP_text:∀ b,textP (litsP b)=(eachS (b.map showLt)).data.toList
 | []=>by rw [List.map_nil,each_none];rfl
 | [x]=>by rw [List.map_cons,List.map_nil,each_one];exact litP_text x
 | x::y::l=>by
  have ih:=litsP_text (y::l)
  show textP (litP x++coP::.sp 32::litsP (y::l))=(eachS (showLt x::showLt y::l.map showLt)).data.toList
  rw [textP_app,litP_text,each_cons,bts,bts]
  show _++(44::(32::textP (litsP (y::l))))=_
  rw [ih]
  simp [cmS]
theorem ruleP_text (r:TRu) (hf:r.fold=0∨r.terms≠[]):textP (ruleP r)=(showRu r).data.toList:=by
 unfold ruleP showRu
 rw [textP_app,atomP_text _ _ _ hf,textP_app,bts,bts]
 split
 ·rw [List.append_assoc];rfl
 ·show _++(32::(58::(45::(32::textP (litsP r.body++[doP]))))++[10])=_
  rw [textP_app,litsP_text,bts]
  simp [ifS,endS,textP]
theorem treeP_text:∀ rs:List TRu,(∀ r∈rs,r.fold=0∨r.terms≠[])→textP (treeP rs)=(showS rs).data.toList
 | [],_=>rfl
 | r::rs,h=>by
  show textP (ruleP r++treeP rs)=(showRu r++showS rs).data.toList
  rw [textP_app,ruleP_text r (h r (List.mem_cons_self ..)),treeP_text rs (fun x hx=>h x (List.mem_cons_of_mem _ hx)),bts]
end Go.Proofs.YtapciiffpnociabGreatDoor
namespace Go.Proofs.YtapciiffpnociabGreatDoor
open Go Go.RowKit
section
variable {Γ : Ctx} {κ i : Nat} {L : Sl} {H : Hp} {ops : List Oper} {rem : List (Nat × Oper)} {lg : Log} {Kf : FS → Prop} {t ty : TypeId}
end
abbrev kOk (x:TLt):Prop:=1≤x.kind∧x.kind≤4
attribute [local irreducible] DW DS DL DQ Ev FnOk FnP thenD inBlockD DT
end Go.Proofs.YtapciiffpnociabGreatDoor
