/- Several texts in one: WirP ScoP LstP WirE ScoE StrP StrQ. Condition: none. -/
import Derived.Test.YtapciiffpnociaaB01
import Derived.Test.YtapciiffpnociaaB08
import Derived.Test.YtapciiffpnociaaB07

/- Plain words on updates, their order, their bytes: no program in sight. Condition: none. -/
namespace Go.Proofs.Ytapciiffpnociaa

structure UId where
  author : Int
  number : Int
structure Fct where
  pred : Int
  args : List Int
structure Upd where
  id : UId
  parents : List UId
  says : List Fct
  takes : List UId

def cmpI (a b : Int) : Int := if a < b then -1 else if b < a then 1 else 0
def ordId (a b : UId) : Int := if cmpI a.author b.author = 0 then cmpI a.number b.number else cmpI a.author b.author
/-- Lists of numbers, in order: the shorter one first. -/
def ordL : List Int → List Int → Int
  | [], [] => 0
  | [], _ :: _ => -1
  | _ :: _, [] => 1
  | a :: l, b :: m => if cmpI a b = 0 then ordL l m else cmpI a b
def ordF (a b : Fct) : Int := if cmpI a.pred b.pred = 0 then ordL a.args b.args else cmpI a.pred b.pred

def rises {α : Type} (o : α → α → Int) : List α → Bool
  | a :: b :: l => decide (o a b < 0) && rises o (b :: l)
  | _ => true

def inR (n a b : Int) : Bool := decide (a ≤ n) && decide (n ≤ b)
def numB (n : Int) : Bool := inR n (-1000000) 1000000
def idB (i : UId) : Bool := inR i.author 0 5 && inR i.number 1 200
def UId.same (a b : UId) : Bool := decide (a.author = b.author) && decide (a.number = b.number)
def saysB (f : Fct) : Bool := inR f.pred 0 9 && (decide (f.args.length ≤ 3) && f.args.all numB)

/-- What is wrong with an update: 0: nothing. -/
def checkU (u : Upd) : Int :=
  if idB u.id = false then 3
  else if 6 < u.parents.length ∨ 6 < u.says.length ∨ 6 < u.takes.length then 2
  else if u.parents.all idB = false ∨ u.takes.all idB = false then 3
  else if rises ordId u.parents = false ∨ rises ordId u.takes = false then 4
  else if 1 < u.id.number ∧ (u.parents.any fun i => i.same ⟨u.id.author, u.id.number - 1⟩) = false then 5
  else if u.says.all saysB = false then 3
  else if rises ordF u.says = false then 4
  else 0

/-- Bytes of a number, the lowest first. -/
def putN (n : Nat) : Nat → List UInt8
  | 0 => []
  | k + 1 => UInt8.ofNat n :: putN (n / 256) k
def put (n : Int) (k : Nat) : List UInt8 := putN (n % 4294967296).toNat k
def putId (i : UId) : List UInt8 := put i.author 1 ++ put i.number 2
def putIds (l : List UId) : List UInt8 := put l.length 1 ++ l.flatMap putId
def putFact (f : Fct) : List UInt8 := put f.pred 1 ++ put f.args.length 1 ++ f.args.flatMap fun n => put n 4
def encodeU (u : Upd) : List UInt8 := putId u.id ++ putIds u.parents ++ put u.says.length 1 ++ u.says.flatMap putFact ++ putIds u.takes

/-- A number of bytes, the lowest first. -/
def leN : List UInt8 → Nat
  | [] => 0
  | b :: l => b.toNat + 256 * leN l
/-- .. with a sign, if it has four bytes. -/
def sgn (n : Nat) : Int := if 2147483647 < n then (n : Int) - 4294967296 else n
/-- What is left of the bytes; none: there were too few. -/
abbrev Rd := Option (List UInt8)
def tk (k : Nat) : Rd → Int × Rd
  | none => (0, none)
  | some l => if l.length < k then (0, none) else (sgn (leN (l.take k)), some (l.drop k))
theorem tk_eq (k : Nat) (l : List UInt8) : tk k (some l) = if l.length < k then (0, none) else (sgn (leN (l.take k)), some (l.drop k)) := rfl
def rdId (r : Rd) : UId × Rd := (⟨(tk 1 r).1, (tk 2 (tk 1 r).2).1⟩, (tk 2 (tk 1 r).2).2)
/-- As often as is told, while there are bytes. -/
def rdMany {α : Type} (f : Rd → α × Rd) : Nat → Rd → List α × Rd
  | 0, r => ([], r)
  | _ + 1, none => ([], none)
  | n + 1, some l => ((f (some l)).1 :: (rdMany f n (f (some l)).2).1, (rdMany f n (f (some l)).2).2)
def rdList {α : Type} (f : Rd → α × Rd) (r : Rd) : List α × Rd := rdMany f (tk 1 r).1.toNat (tk 1 r).2
def rdFact (r : Rd) : Fct × Rd := (⟨(tk 1 r).1, (rdList (tk 4) (tk 1 r).2).1⟩, (rdList (tk 4) (tk 1 r).2).2)
def rdUpd (r : Rd) : Upd × Rd :=
  let a := rdId r
  let b := rdList rdId a.2
  let c := rdList rdFact b.2
  let d := rdList rdId c.2
  (⟨a.1, b.1, c.1, d.1⟩, d.2)
def noUpd : Upd := ⟨⟨0, 0⟩, [], [], []⟩
def decodeU (s : List UInt8) : Upd × Int :=
  match rdUpd (some s) with
  | (u, some []) => if checkU u = 0 then (u, 0) else (noUpd, checkU u)
  | _ => (noUpd, 1)

def sameL {α : Type} (p : α → α → Bool) : List α → List α → Bool
  | [], [] => true
  | x :: xs, y :: ys => p x y && sameL p xs ys
  | _, _ => false
def Fct.same (x y : Fct) : Bool := decide (ordF x y = 0)
def Upd.same (a b : Upd) : Bool := a.id.same b.id && (sameL UId.same a.parents b.parents && (sameL Fct.same a.says b.says && sameL UId.same a.takes b.takes))

theorem cmpI_self (a : Int) : cmpI a a = 0 := by unfold cmpI; rw [if_neg (by omega), if_neg (by omega)]
theorem cmpI_zero {a b : Int} (h : cmpI a b = 0) : a = b := by
  unfold cmpI at h
  split at h
  · cases h
  · split at h
    · cases h
    · omega
theorem ordL_self : ∀ l : List Int, ordL l l = 0
  | [] => rfl
  | a :: l => by unfold ordL; rw [if_pos (cmpI_self a)]; exact ordL_self l
theorem ordF_self (f : Fct) : ordF f f = 0 := by unfold ordF; rw [if_pos (cmpI_self _)]; exact ordL_self _
theorem sameL_refl {α : Type} {p : α → α → Bool} (hp : ∀ x, p x x = true) : ∀ l, sameL p l l = true
  | [] => rfl
  | x :: l => by unfold sameL; rw [hp x, sameL_refl hp l]; rfl
theorem UId.same_refl (a : UId) : a.same a = true := by unfold UId.same; simp
theorem Upd.same_refl (u : Upd) : u.same u = true := by
  unfold Upd.same
  rw [UId.same_refl, sameL_refl UId.same_refl, sameL_refl UId.same_refl, sameL_refl fun x => by unfold Fct.same; simp [ordF_self]]
  rfl

theorem sameL_drop {α : Type} (p : α → α → Bool) (xs ys : List α) (k : Nat) (h1 : k < xs.length) (h2 : k < ys.length) :
    sameL p (xs.drop k) (ys.drop k) = (p xs[k] ys[k] && sameL p (xs.drop (k + 1)) (ys.drop (k + 1))) := by
  rw [List.drop_eq_getElem_cons h1, List.drop_eq_getElem_cons h2]; rfl
theorem sameL_end {α : Type} (p : α → α → Bool) (xs ys : List α) (k : Nat) (h1 : xs.length ≤ k) (h2 : ys.length ≤ k) :
    sameL p (xs.drop k) (ys.drop k) = true := by
  rw [List.drop_of_length_le h1, List.drop_of_length_le h2]; rfl
theorem sameL_len {α : Type} (p : α → α → Bool) : ∀ (xs ys : List α), xs.length ≠ ys.length → sameL p xs ys = false
  | [], [], h => absurd rfl h
  | [], _ :: _, _ => rfl
  | _ :: _, [], _ => rfl
  | x :: xs, y :: ys, h => by rw [sameL, sameL_len p xs ys (fun e => h (by simp [e])), Bool.and_false]

/-! Decoding what was encoded. -/
theorem putN_len : ∀ (k n : Nat), (putN n k).length = k
  | 0, _ => rfl
  | k + 1, n => by simp [putN, putN_len k]
theorem leN_put : ∀ (k n : Nat), leN (putN n k) = n % 256 ^ k
  | 0, n => by simp [putN, leN, Nat.mod_one]
  | k + 1, n => by
    have e : (UInt8.ofNat n).toNat = n % 256 := by simp
    simp only [putN, leN, leN_put k, e]
    rw [Nat.pow_succ, Nat.mul_comm (256 ^ k) 256, Nat.mod_mul]
theorem tk_put (k : Nat) (n : Int) (r : List UInt8) : tk k (some (put n k ++ r)) = (sgn ((n % 4294967296).toNat % 256 ^ k), some r) := by
  have hl : (put n k).length = k := putN_len k _
  rw [tk_eq, if_neg (by rw [List.length_append, hl]; omega), List.take_append_of_le_length (by omega), List.take_of_length_le (by omega), List.drop_append_of_le_length (by omega), List.drop_of_length_le (by omega)]
  unfold put
  rw [leN_put]
  rfl
theorem tk1 (n : Int) (r : List UInt8) (h0 : 0 ≤ n) (h1 : n < 256) : tk 1 (some (put n 1 ++ r)) = (n, some r) := by
  rw [tk_put]
  have : ((n % 4294967296).toNat % 256 ^ 1 : Nat) = n.toNat := by omega
  rw [this]
  unfold sgn
  rw [if_neg (by omega), Int.toNat_of_nonneg h0]
theorem tk2 (n : Int) (r : List UInt8) (h0 : 0 ≤ n) (h1 : n < 65536) : tk 2 (some (put n 2 ++ r)) = (n, some r) := by
  rw [tk_put]
  have : ((n % 4294967296).toNat % 256 ^ 2 : Nat) = n.toNat := by omega
  rw [this]
  unfold sgn
  rw [if_neg (by omega), Int.toNat_of_nonneg h0]
theorem tk4 (n : Int) (r : List UInt8) (h : numB n = true) : tk 4 (some (put n 4 ++ r)) = (n, some r) := by
  rw [tk_put]
  unfold numB inR at h
  simp only [Bool.and_eq_true, decide_eq_true_eq] at h
  have : (((n % 4294967296).toNat % 256 ^ 4 : Nat) : Int) = n % 4294967296 := by omega
  unfold sgn
  congr 1
  split <;> omega
theorem rdMany_put {α : Type} {f : Rd → α × Rd} {p : α → List UInt8} {ok : α → Bool} (h : ∀ x r, ok x = true → f (some (p x ++ r)) = (x, some r)) : ∀ (l : List α) (r : List UInt8), l.all ok = true → rdMany f l.length (some (l.flatMap p ++ r)) = (l, some r)
  | [], r, _ => rfl
  | x :: l, r, hl => by
    simp only [List.all_cons, Bool.and_eq_true] at hl
    simp only [List.flatMap_cons, List.append_assoc, List.length_cons, rdMany]
    rw [h x _ hl.1]
    dsimp only
    rw [rdMany_put h l r hl.2]
theorem rdList_put {α : Type} {f : Rd → α × Rd} {p : α → List UInt8} {ok : α → Bool} (h : ∀ x r, ok x = true → f (some (p x ++ r)) = (x, some r)) (l : List α) (r : List UInt8) (hl : l.all ok = true) (hn : l.length < 256) :
    rdList f (some (put l.length 1 ++ l.flatMap p ++ r)) = (l, some r) := by
  unfold rdList
  rw [List.append_assoc, tk1 _ _ (by omega) (by omega)]
  dsimp only
  rw [Int.toNat_natCast]
  exact rdMany_put h l r hl
theorem idB_parts {i : UId} (h : idB i = true) : 0 ≤ i.author ∧ i.author ≤ 5 ∧ 1 ≤ i.number ∧ i.number ≤ 200 := by
  unfold idB inR at h
  simp only [Bool.and_eq_true, decide_eq_true_eq] at h
  omega
theorem rdId_put (i : UId) (r : List UInt8) (h : idB i = true) : rdId (some (putId i ++ r)) = (i, some r) := by
  obtain ⟨h1, h2, h3, h4⟩ := idB_parts h
  unfold rdId putId
  rw [List.append_assoc, tk1 _ _ h1 (by omega)]
  dsimp only
  rw [tk2 _ _ (by omega) (by omega)]
theorem saysB_parts {f : Fct} (h : saysB f = true) : 0 ≤ f.pred ∧ f.pred ≤ 9 ∧ f.args.length ≤ 3 ∧ f.args.all numB = true := by
  unfold saysB inR at h
  simp only [Bool.and_eq_true, decide_eq_true_eq] at h
  exact ⟨h.1.1, h.1.2, h.2.1, h.2.2⟩
theorem rdFact_put (f : Fct) (r : List UInt8) (h : saysB f = true) : rdFact (some (putFact f ++ r)) = (f, some r) := by
  obtain ⟨h1, h2, h3, h4⟩ := saysB_parts h
  unfold rdFact putFact
  have e : put f.pred 1 ++ put f.args.length 1 ++ (f.args.flatMap fun n => put n 4) ++ r = put f.pred 1 ++ (put f.args.length 1 ++ (f.args.flatMap fun n => put n 4) ++ r) := by simp
  rw [e, tk1 _ _ h1 (by omega)]
  dsimp only
  rw [rdList_put (f := tk 4) (p := fun n => put n 4) (ok := numB) (fun x r hx => tk4 x r hx) f.args r h4 (by omega)]

structure GoodU (u : Upd) : Prop where
  id : idB u.id = true
  np : u.parents.length ≤ 6
  ns : u.says.length ≤ 6
  nt : u.takes.length ≤ 6
  parents : u.parents.all idB = true
  takes : u.takes.all idB = true
  says : u.says.all saysB = true

theorem checkU_good {u : Upd} (h : checkU u = 0) : GoodU u := by
  unfold checkU at h
  split at h
  · cases h
  split at h
  · cases h
  split at h
  · cases h
  split at h
  · cases h
  split at h
  · cases h
  split at h
  · cases h
  rename_i h1 h2 h3 h4 h5 h6
  simp only [Bool.not_eq_false, not_or] at h1 h2 h3 h6
  exact ⟨h1, by omega, by omega, by omega, h3.1, h3.2, h6⟩

theorem decode_encode {u : Upd} (h : checkU u = 0) : decodeU (encodeU u) = (u, 0) := by
  have g := checkU_good h
  have hr : rdUpd (some (encodeU u)) = (u, some []) := by
    have e : encodeU u = putId u.id ++ (put u.parents.length 1 ++ u.parents.flatMap putId ++ (put u.says.length 1 ++ u.says.flatMap putFact ++ (put u.takes.length 1 ++ u.takes.flatMap putId ++ []))) := by
      unfold encodeU putIds; simp
    unfold rdUpd
    rw [e, rdId_put _ _ g.id]
    dsimp only
    rw [rdList_put (fun x r hx => rdId_put x r hx) u.parents _ g.parents (by have := g.np; omega)]
    dsimp only
    rw [rdList_put (fun x r hx => rdFact_put x r hx) u.says _ g.says (by have := g.ns; omega)]
    dsimp only
    rw [rdList_put (fun x r hx => rdId_put x r hx) u.takes _ g.takes (by have := g.nt; omega)]
  unfold decodeU
  rw [hr]
  dsimp only
  rw [if_pos h]

/-! Encoding what was decoded. -/
theorem putN_le : ∀ (l : List UInt8) (n : Nat), n % 256 ^ l.length = leN l → putN n l.length = l
  | [], _, _ => rfl
  | b :: l, n, h => by
    simp only [List.length_cons, putN, leN] at h ⊢
    have hb := b.toNat_lt
    rw [Nat.pow_succ, Nat.mul_comm (256 ^ l.length) 256, Nat.mod_mul] at h
    have h1 : n % 256 = b.toNat := by omega
    have h2 : n / 256 % 256 ^ l.length = leN l := by omega
    rw [putN_le l (n / 256) h2]
    congr 1
    exact UInt8.toNat_inj.1 (by simp [h1])
theorem leN_lt : ∀ l : List UInt8, leN l < 256 ^ l.length
  | [] => by simp [leN]
  | b :: l => by
    have hb := b.toNat_lt
    have := leN_lt l
    simp only [leN, List.length_cons, Nat.pow_succ]
    omega
theorem put_tk {k : Nat} {l r : List UInt8} {n : Int} (hk : k = 1 ∨ k = 2 ∨ k = 4) (h : tk k (some l) = (n, some r)) : l = put n k ++ r := by
  rw [tk_eq] at h
  split at h
  · cases h
  · rename_i hl
    injection h with h1 h2
    injection h2 with h2
    have hlen : (l.take k).length = k := by rw [List.length_take]; omega
    have hlt := leN_lt (l.take k)
    have hput : put n k = l.take k := by
      unfold put
      have := putN_le (l.take k) (n % 4294967296).toNat ?_
      · rw [hlen] at this; exact this
      · rw [hlen] at hlt ⊢
        rw [← h1]
        unfold sgn
        rcases hk with rfl | rfl | rfl <;> (simp only [Nat.reducePow] at hlt ⊢; split <;> omega)
    rw [hput, ← h2, List.take_append_drop]
theorem tk_none {k : Nat} : tk k none = (0, none) := rfl
theorem tk_some {k : Nat} {r : Rd} {n : Int} {q : List UInt8} (h : tk k r = (n, some q)) : ∃ l, r = some l := by
  cases r with
  | none => rw [tk_none] at h; cases h
  | some l => exact ⟨l, rfl⟩
theorem rdId_get {r : Rd} {i : UId} {q : List UInt8} (h : rdId r = (i, some q)) : ∃ l, r = some l ∧ l = putId i ++ q := by
  unfold rdId at h
  cases h1 : tk 1 r with
  | mk a r1 =>
    rw [h1] at h
    dsimp only at h
    cases h2 : tk 2 r1 with
    | mk n r2 =>
      rw [h2] at h
      dsimp only at h
      injection h with e1 e2
      subst e2
      obtain ⟨l1, rfl⟩ := tk_some h2
      obtain ⟨l, rfl⟩ := tk_some h1
      have p1 := put_tk (.inl rfl) h1
      have p2 := put_tk (.inr (.inl rfl)) h2
      refine ⟨l, rfl, ?_⟩
      rw [← e1, putId, p1, p2]
      simp
theorem rdMany_get {α : Type} {f : Rd → α × Rd} {p : α → List UInt8} (h : ∀ r x q, f r = (x, some q) → ∃ l, r = some l ∧ l = p x ++ q) : ∀ (n : Nat) (r : Rd) (l : List α) (q : List UInt8), rdMany f n r = (l, some q) → ∃ m, r = some m ∧ m = l.flatMap p ++ q ∧ l.length = n
  | 0, r, l, q, e => by
    simp only [rdMany] at e
    injection e with e1 e2
    subst e1; subst e2
    exact ⟨q, rfl, by simp, rfl⟩
  | n + 1, none, l, q, e => by simp [rdMany] at e
  | n + 1, some m, l, q, e => by
    simp only [rdMany] at e
    cases h1 : f (some m) with
    | mk x r1 =>
      rw [h1] at e
      dsimp only at e
      cases h2 : rdMany f n r1 with
      | mk l2 r2 =>
        rw [h2] at e
        dsimp only at e
        injection e with e1 e2
        subst e1; subst e2
        obtain ⟨m1, rfl, g1, g2⟩ := rdMany_get h n r1 l2 q h2
        obtain ⟨m2, g3, g4⟩ := h _ _ _ h1
        injection g3 with g3
        subst g3
        refine ⟨m, rfl, ?_, by simp [g2]⟩
        rw [g4, g1]
        simp
theorem tk1_range {r : Rd} {n : Int} {q : List UInt8} (h : tk 1 r = (n, some q)) : 0 ≤ n ∧ n < 256 := by
  obtain ⟨l, rfl⟩ := tk_some h
  rw [tk_eq] at h
  split at h
  · cases h
  · injection h with h1 h2
    have hlt := leN_lt (l.take 1)
    rw [List.length_take] at hlt
    have : min 1 l.length = 1 := by omega
    rw [this] at hlt
    rw [← h1]
    unfold sgn
    split <;> omega
theorem rdList_get {α : Type} {f : Rd → α × Rd} {p : α → List UInt8} (h : ∀ r x q, f r = (x, some q) → ∃ l, r = some l ∧ l = p x ++ q) {r : Rd} {l : List α} {q : List UInt8} (e : rdList f r = (l, some q)) :
    ∃ m, r = some m ∧ m = put l.length 1 ++ l.flatMap p ++ q := by
  unfold rdList at e
  cases h1 : tk 1 r with
  | mk n r1 =>
    rw [h1] at e
    dsimp only at e
    obtain ⟨m1, rfl, g1, g2⟩ := rdMany_get h _ _ _ _ e
    have hr := tk1_range h1
    obtain ⟨m, rfl⟩ := tk_some h1
    have p1 := put_tk (.inl rfl) h1
    refine ⟨m, rfl, ?_⟩
    rw [p1, g1, g2, Int.toNat_of_nonneg hr.1]
    simp
theorem rdFact_get {r : Rd} {f : Fct} {q : List UInt8} (h : rdFact r = (f, some q)) : ∃ l, r = some l ∧ l = putFact f ++ q := by
  unfold rdFact at h
  cases h1 : tk 1 r with
  | mk a r1 =>
    rw [h1] at h
    dsimp only at h
    cases h2 : rdList (tk 4) r1 with
    | mk l r2 =>
      rw [h2] at h
      dsimp only at h
      injection h with e1 e2
      subst e2
      obtain ⟨m1, rfl, g1⟩ := rdList_get (p := fun n => put n 4) (fun r x q hx => by
        obtain ⟨l, rfl⟩ := tk_some hx
        exact ⟨l, rfl, put_tk (.inr (.inr rfl)) hx⟩) h2
      obtain ⟨m, rfl⟩ := tk_some h1
      have p1 := put_tk (.inl rfl) h1
      refine ⟨m, rfl, ?_⟩
      rw [← e1, putFact, p1, g1]
      simp
theorem encode_decode {s : List UInt8} {u : Upd} (h : decodeU s = (u, 0)) : checkU u = 0 ∧ encodeU u = s := by
  unfold decodeU at h
  split at h
  · rename_i u' hr
    split at h
    · rename_i hc
      injection h with h1 h2
      subst h1
      refine ⟨hc, ?_⟩
      unfold rdUpd at hr
      cases h1 : rdId (some s) with
      | mk a r1 =>
        rw [h1] at hr
        dsimp only at hr
        cases h2 : rdList rdId r1 with
        | mk b r2 =>
          rw [h2] at hr
          dsimp only at hr
          cases h3 : rdList rdFact r2 with
          | mk c r3 =>
            rw [h3] at hr
            dsimp only at hr
            cases h4 : rdList rdId r3 with
            | mk d r4 =>
              rw [h4] at hr
              dsimp only at hr
              injection hr with e1 e2
              subst e2
              obtain ⟨m3, rfl, g4⟩ := rdList_get (fun _ _ _ hx => rdId_get hx) h4
              obtain ⟨m2, rfl, g3⟩ := rdList_get (fun _ _ _ hx => rdFact_get hx) h3
              obtain ⟨m1, rfl, g2⟩ := rdList_get (fun _ _ _ hx => rdId_get hx) h2
              obtain ⟨m0, g0, g1⟩ := rdId_get h1
              injection g0 with g0
              rw [g0, g1, g2, g3, g4, ← e1]
              unfold encodeU putIds
              simp
    · rename_i hc
      injection h with h1 h2
      exact absurd h2 hc
  · injection h with h1 h2
    cases h2
theorem decode_none {s : List UInt8} {u : Upd} {e : Int} (h : decodeU s = (u, e)) (he : e ≠ 0) : u = noUpd := by
  unfold decodeU at h
  split at h
  · split at h
    · injection h with h1 h2; exact absurd h2.symm he
    · injection h with h1 h2; exact h1.symm
  · injection h with h1 h2; exact h1.symm
end Go.Proofs.Ytapciiffpnociaa

/- Plain words on programs, their rules, what is wrong with them; bound variables: no program is in sight. Condition: none. -/
namespace Go.Proofs.Ytapciiffpnociaa

structure Trm where
  var : Int
  n : Int
structure Ltl where
  kind : Int
  op : Int
  pred : Int
  terms : List Trm
structure Rul where
  pred : Int
  terms : List Trm
  fold : Int
  body : List Ltl
  vars : Int
structure Prg where
  arity : List Int
  names : List ByteArray
  rules : List Rul

/-- The first thing that is wrong, along a list; 0: nothing is. -/
def firstL {α : Type} (f : α → Int) : List α → Int
  | [] => 0
  | x :: l => if f x ≠ 0 then f x else firstL f l
theorem firstL_step {α : Type} {f : α → Int} {l : List α} {i : Nat} (hi : i < l.length) : firstL f (l.drop i) = if f l[i] ≠ 0 then f l[i] else firstL f (l.drop (i + 1)) := by
  rw [List.drop_eq_getElem_cons hi]; rfl
theorem firstL_end {α : Type} {f : α → Int} {l : List α} {i : Nat} (hi : l.length ≤ i) : firstL f (l.drop i) = 0 := by
  rw [List.drop_of_length_le hi]; rfl
/-- .. by places. -/
def firstI (f : Nat → Int) : Nat → Nat → Int
  | _, 0 => 0
  | i, k + 1 => if f i ≠ 0 then f i else firstI f (i + 1) k
theorem firstI_step {f : Nat → Int} {n i : Nat} (h : i < n) : firstI f i (n - i) = if f i ≠ 0 then f i else firstI f (i + 1) (n - (i + 1)) := by
  rw [show n - i = (n - (i + 1)) + 1 by omega]; rfl
theorem firstI_end {f : Nat → Int} {n i : Nat} (h : n ≤ i) : firstI f i (n - i) = 0 := by
  rw [show n - i = 0 by omega]; rfl

def termE (vars : Int) (t : Trm) : Int := if inR t.var (-1) (vars - 1) = false then 5 else if numB t.n = false ∨ (0 ≤ t.var ∧ t.n ≠ 0) then 3 else 0
def termsE (vars : Int) (l : List Trm) : Int := firstL (termE vars) l
def opB (kind n : Int) : Bool := if kind = 3 then inR n 1 4 else if kind = 4 then inR n 5 7 else decide (n = 0)
def litE (arity : List Int) (vars : Int) (l : Ltl) : Int :=
  if inR l.kind 1 4 = false then 7
  else if opB l.kind l.op = false then 3
  else if l.kind = 1 ∨ l.kind = 2 then
    if inR l.pred 0 ((arity.length : Int) - 1) = false then 5
    else if (l.terms.length : Int) ≠ arity.getD l.pred.toNat 0 then 1
    else termsE vars l.terms
  else if l.pred ≠ 0 ∨ (l.terms.length : Int) ≠ l.kind - 1 then 1
  else termsE vars l.terms

/-! Bound variables. -/
def isT (bs : List Bool) (t : Trm) : Bool := decide (t.var < 0) || bs.getD t.var.toNat false
def setT (bs : List Bool) (t : Trm) : List Bool := if t.var < 0 then bs else bs.set t.var.toNat true
def firesB (bs : List Bool) (l : Ltl) : Bool := decide (l.kind = 1) || (decide (l.kind = 4) && (l.terms.take 2).all (isT bs))
def litTs (l : Ltl) : List Trm := if l.kind = 1 then l.terms else l.terms.drop 2
def bLit (bs : List Bool) (l : Ltl) : List Bool := if firesB bs l then (litTs l).foldl setT bs else bs
def bRound (body : List Ltl) (bs : List Bool) : List Bool := body.foldl bLit bs
def bIter (body : List Ltl) : Nat → List Bool → List Bool
  | 0, bs => bs
  | n + 1, bs => bIter body n (bRound body bs)
def boundL (r : Rul) : List Bool := bIter r.body (r.body.length + 1) (List.replicate r.vars.toNat false)
def safeB (r : Rul) : Bool := (boundL r).all id

def ruleE (arity : List Int) (r : Rul) : Int :=
  if inR r.pred 0 ((arity.length : Int) - 1) = false then 5
  else if (r.terms.length : Int) ≠ arity.getD r.pred.toNat 0 then 1
  else if inR r.vars 0 8 = false then 3
  else if termsE r.vars r.terms ≠ 0 then termsE r.vars r.terms
  else if inR r.fold 0 4 = false then 7
  else if r.fold ≠ 0 ∧ (r.terms.length = 0 ∨ r.body.length = 0) then 1
  else if 4 < r.body.length then 2
  else if firstL (litE arity r.vars) r.body ≠ 0 then firstL (litE arity r.vars) r.body
  else if safeB r = false then 4
  else 0
def nameE (nameB : ByteArray → Bool) (p : Prg) (i : Nat) : Int :=
  if inR (p.arity.getD i 0) 0 3 = false then 3
  else if nameB (p.names.getD i ⟨#[]⟩) = false then 1
  else if (p.names.take i).any (fun s => decide (s = p.names.getD i ⟨#[]⟩)) then 6
  else 0
def progE (nameB : ByteArray → Bool) (p : Prg) : Int :=
  if 10 < p.arity.length ∨ 12 < p.rules.length then 2
  else if p.names.length ≠ p.arity.length then 1
  else if firstI (nameE nameB p) 0 p.names.length ≠ 0 then firstI (nameE nameB p) 0 p.names.length
  else firstL (ruleE p.arity) p.rules

/-! Rounds come to rest. -/
theorem setT_len (bs : List Bool) (t : Trm) : (setT bs t).length = bs.length := by unfold setT; split <;> simp
theorem setTs_len : ∀ (l : List Trm) (bs : List Bool), (l.foldl setT bs).length = bs.length
  | [], _ => rfl
  | t :: l, bs => by rw [List.foldl_cons, setTs_len l, setT_len]
theorem bLit_len (bs : List Bool) (l : Ltl) : (bLit bs l).length = bs.length := by unfold bLit; split; exact setTs_len _ _; rfl
theorem bRound_len : ∀ (body : List Ltl) (bs : List Bool), (bRound body bs).length = bs.length
  | [], _ => rfl
  | l :: body, bs => by
    have := bRound_len body (bLit bs l)
    rw [bLit_len] at this
    exact this
theorem bIter_len (body : List Ltl) : ∀ (n : Nat) (bs : List Bool), (bIter body n bs).length = bs.length
  | 0, _ => rfl
  | n + 1, bs => by rw [bIter, bIter_len body n, bRound_len]

/-- What was bound is. -/
def leB (a b : List Bool) : Prop := a.length = b.length ∧ ∀ i, a.getD i false = true → b.getD i false = true
theorem leB.refl (a : List Bool) : leB a a := ⟨rfl, fun _ h => h⟩
theorem leB.trans {a b c : List Bool} (h : leB a b) (g : leB b c) : leB a c := ⟨h.1.trans g.1, fun i hi => g.2 i (h.2 i hi)⟩
theorem leB.anti {a b : List Bool} (h : leB a b) (g : leB b a) : a = b := by
  refine List.ext_getElem h.1 fun i h1 h2 => ?_
  have p := h.2 i
  have q := g.2 i
  simp only [List.getD, List.getElem?_eq_getElem h1, List.getElem?_eq_getElem h2, Option.getD_some] at p q
  cases ha : a[i] <;> cases hb : b[i] <;> simp_all
theorem setT_le (bs : List Bool) (t : Trm) : leB bs (setT bs t) := by
  refine ⟨(setT_len _ _).symm, fun i h => ?_⟩
  unfold setT
  split
  · exact h
  · simp only [List.getD, List.getElem?_set] at h ⊢
    split
    · rename_i hi
      rw [hi]
      by_cases hl : i < bs.length
      · simp [hl]
      · rw [List.getElem?_eq_none (by omega)] at h; cases h
    · exact h
theorem setTs_le : ∀ (l : List Trm) (bs : List Bool), leB bs (l.foldl setT bs)
  | [], bs => leB.refl bs
  | t :: l, bs => (setT_le bs t).trans (setTs_le l _)
theorem bLit_le (bs : List Bool) (l : Ltl) : leB bs (bLit bs l) := by unfold bLit; split; exact setTs_le _ _; exact leB.refl _
theorem bRound_le : ∀ (body : List Ltl) (bs : List Bool), leB bs (bRound body bs)
  | [], bs => leB.refl bs
  | l :: body, bs => (bLit_le bs l).trans (bRound_le body _)
theorem isT_mono {a b : List Bool} (h : leB a b) {t : Trm} (ht : isT a t = true) : isT b t = true := by
  unfold isT at ht ⊢
  rw [Bool.or_eq_true] at ht ⊢
  exact ht.imp id (h.2 _)
theorem fires_mono {a b : List Bool} (h : leB a b) {l : Ltl} (hl : firesB a l = true) : firesB b l = true := by
  unfold firesB at hl ⊢
  simp only [Bool.or_eq_true, Bool.and_eq_true, List.all_eq_true] at hl ⊢
  exact hl.imp id fun ⟨g1, g2⟩ => ⟨g1, fun t ht => isT_mono h (g2 t ht)⟩
/-- A term that is bound changes nothing. -/
theorem setT_same {bs : List Bool} {t : Trm} (h : isT bs t = true) : setT bs t = bs := by
  unfold isT at h
  unfold setT
  split
  · rfl
  · rename_i hn
    rw [decide_eq_false hn, Bool.false_or] at h
    simp only [List.getD] at h
    cases hg : bs[t.var.toNat]? with
    | none => rw [hg] at h; cases h
    | some b =>
      rw [hg] at h
      simp only [Option.getD_some] at h
      subst h
      have hlt := (List.getElem?_eq_some_iff.1 hg).1
      refine List.ext_getElem? fun i => ?_
      rw [List.getElem?_set]
      split
      · rename_i hi; subst hi; exact hg.symm
      · rfl
theorem setTs_same : ∀ {l : List Trm} {bs : List Bool}, (∀ t ∈ l, isT bs t = true) → l.foldl setT bs = bs
  | [], _, _ => rfl
  | t :: l, bs, h => by
    rw [List.foldl_cons, setT_same (h t (List.mem_cons_self ..))]
    exact setTs_same fun x hx => h x (List.mem_cons_of_mem _ hx)
/-- Variables that are in their range. -/
def okT (v : Nat) (t : Trm) : Prop := t.var < (v : Int)
theorem setT_is {bs : List Bool} {t : Trm} (h : okT bs.length t) : isT (setT bs t) t = true := by
  unfold isT setT
  unfold okT at h
  split
  · rename_i hn; rw [decide_eq_true hn]; rfl
  · rename_i hn
    rw [decide_eq_false hn, Bool.false_or]
    simp only [List.getD, List.getElem?_set]
    have : t.var.toNat < bs.length := by omega
    simp [this]
theorem setTs_is : ∀ {l : List Trm} {bs : List Bool}, (∀ t ∈ l, okT bs.length t) → ∀ t ∈ l, isT (l.foldl setT bs) t = true
  | [], _, _, t, ht => by simp at ht
  | x :: l, bs, h, t, ht => by
    rw [List.foldl_cons]
    rcases List.mem_cons.1 ht with rfl | ht
    · exact isT_mono (setTs_le l _) (setT_is (h t (List.mem_cons_self ..)))
    · exact setTs_is (bs := setT bs x) (fun y hy => by rw [setT_len]; exact h y (List.mem_cons_of_mem _ hy)) t ht
theorem bLit_same {bs : List Bool} {l : Ltl} (h : firesB bs l = true → ∀ t ∈ litTs l, isT bs t = true) : bLit bs l = bs := by
  unfold bLit
  split
  · rename_i hf; exact setTs_same (h hf)
  · rfl
theorem bRound_same : ∀ {body : List Ltl} {bs : List Bool}, (∀ l ∈ body, firesB bs l = true → ∀ t ∈ litTs l, isT bs t = true) → bRound body bs = bs
  | [], _, _ => rfl
  | l :: body, bs, h => by
    show bRound body (bLit bs l) = bs
    rw [bLit_same (h l (List.mem_cons_self ..))]
    exact bRound_same fun x hx => h x (List.mem_cons_of_mem _ hx)
/-- Behind a round all is bound of what fired ahead of it. -/
theorem bRound_done : ∀ {body : List Ltl} {bs : List Bool}, (∀ l ∈ body, ∀ t ∈ litTs l, okT bs.length t) → ∀ l ∈ body, firesB bs l = true → ∀ t ∈ litTs l, isT (bRound body bs) t = true
  | [], _, _, l, hl, _, _, _ => by simp at hl
  | x :: body, bs, hok, l, hl, hf, t, ht => by
    show isT (bRound body (bLit bs x)) t = true
    rcases List.mem_cons.1 hl with rfl | hl
    · refine isT_mono (bRound_le body _) ?_
      unfold bLit
      rw [if_pos hf]
      exact setTs_is (hok l (List.mem_cons_self ..)) t ht
    · exact bRound_done (bs := bLit bs x) (fun y hy z hz => by rw [bLit_len]; exact hok y (List.mem_cons_of_mem _ hy) z hz) l hl (fires_mono (bLit_le bs x) hf) t ht
/-- How many fire. -/
def nFire (body : List Ltl) (bs : List Bool) : Nat := (body.filter (firesB bs)).length
theorem nFire_mono {a b : List Bool} (h : leB a b) : ∀ (body : List Ltl), nFire body a ≤ nFire body b
  | [] => Nat.le_refl _
  | l :: body => by
    have ih := nFire_mono h body
    unfold nFire at ih ⊢
    rw [List.filter_cons, List.filter_cons]
    cases ha : firesB a l with
    | true => rw [fires_mono h ha]; simpa using ih
    | false =>
      cases hb : firesB b l with
      | true => simp; omega
      | false => simpa using ih
theorem nFire_same {a b : List Bool} (h : leB a b) : ∀ {body : List Ltl}, nFire body b ≤ nFire body a → ∀ l ∈ body, firesB b l = true → firesB a l = true
  | [], _, l, hl, _ => by simp at hl
  | x :: body, hn, l, hl, hf => by
    have ih := nFire_mono h body
    have ihs := @nFire_same a b h body
    unfold nFire at hn ih ihs
    rw [List.filter_cons, List.filter_cons] at hn
    rcases List.mem_cons.1 hl with rfl | hl
    · cases ha : firesB a l with
      | true => rfl
      | false => rw [hf, ha] at hn; simp at hn; omega
    · refine ihs ?_ l hl hf
      cases ha : firesB a x with
      | true => rw [ha, fires_mono h ha] at hn; simpa using hn
      | false =>
        cases hb : firesB b x with
        | true => rw [ha, hb] at hn; simp at hn; omega
        | false => rw [ha, hb] at hn; simpa using hn
theorem bIter_succ (body : List Ltl) : ∀ (n : Nat) (bs : List Bool), bIter body (n + 1) bs = bRound body (bIter body n bs)
  | 0, _ => rfl
  | n + 1, bs => by rw [bIter, bIter_succ body n]; rfl
/-- One more round changes nothing, or more and more fire. -/
theorem bIter_rest {body : List Ltl} {bs : List Bool} (hok : ∀ l ∈ body, ∀ t ∈ litTs l, okT bs.length t) : ∀ n, bRound body (bIter body n bs) = bIter body n bs ∨ n + 1 ≤ nFire body (bIter body n bs)
  | 0 => by
    by_cases h : nFire body bs = 0
    · left
      refine bRound_same fun l hl hf => ?_
      have : l ∈ body.filter (firesB bs) := List.mem_filter.2 ⟨hl, hf⟩
      unfold nFire at h
      rw [List.eq_nil_of_length_eq_zero h] at this
      simp at this
    · right; show 1 ≤ nFire body bs; omega
  | n + 1 => by
    rcases bIter_rest hok n with h | h
    · left; rw [bIter_succ, h, h]
    · have hle := bRound_le body (bIter body n bs)
      have hm := nFire_mono hle body
      by_cases hn : nFire body (bRound body (bIter body n bs)) ≤ nFire body (bIter body n bs)
      · left
        rw [bIter_succ]
        refine bRound_same fun l hl hf => ?_
        exact bRound_done (fun x hx t ht => by rw [bIter_len]; exact hok x hx t ht) l hl (nFire_same hle hn l hl hf)
      · right; rw [bIter_succ]; omega
theorem bRound_rest {body : List Ltl} {bs : List Bool} (hok : ∀ l ∈ body, ∀ t ∈ litTs l, okT bs.length t) : bRound body (bIter body body.length bs) = bIter body body.length bs := by
  rcases bIter_rest hok body.length with h | h
  · exact h
  · have := List.length_filter_le (firesB (bIter body body.length bs)) body
    unfold nFire at h
    omega
theorem bIter_fix {body : List Ltl} {bs : List Bool} (h : bRound body bs = bs) : ∀ n, bIter body n bs = bs
  | 0 => rfl
  | n + 1 => by rw [bIter, h, bIter_fix h n]
theorem bIter_add (body : List Ltl) : ∀ (m n : Nat) (bs : List Bool), bIter body (m + n) bs = bIter body n (bIter body m bs)
  | 0, n, bs => by rw [Nat.zero_add]; rfl
  | m + 1, n, bs => by rw [show m + 1 + n = (m + n) + 1 by omega, bIter, bIter, bIter_add body m n]
/-- Wherever the rounds rest, it is there. -/
theorem rest_is {r : Rul} (hok : ∀ l ∈ r.body, ∀ t ∈ litTs l, okT r.vars.toNat t) {m : Nat} (h : bRound r.body (bIter r.body m (List.replicate r.vars.toNat false)) = bIter r.body m (List.replicate r.vars.toNat false)) : bIter r.body m (List.replicate r.vars.toNat false) = boundL r := by
  have h2 := bRound_rest (body := r.body) (bs := List.replicate r.vars.toNat false) (by rw [List.length_replicate]; exact hok)
  unfold boundL
  rw [bIter_succ, h2]
  rcases Nat.le_total m r.body.length with hm | hm
  · obtain ⟨d, hd⟩ := Nat.exists_eq_add_of_le hm
    rw [hd, bIter_add, bIter_fix h]
  · obtain ⟨d, hd⟩ := Nat.exists_eq_add_of_le hm
    rw [hd, bIter_add, bIter_fix h2]
end Go.Proofs.Ytapciiffpnociaa

/- Plain words on lists: first places, any, all. Condition: none. -/
namespace Go.Proofs.Ytapciiffpnociaa

/-- The first place of what is so; -1: there is none. -/
def idxF {α : Type} (p : α → Bool) (l : List α) : Int := match l.findIdx? p with
  | some i => i
  | none => -1

theorem idxF_hit {α : Type} {p : α → Bool} {l : List α} {i : Nat} (h : ∀ j (hj : j < l.length), j < i → p l[j] = false) (hi : i < l.length) (hp : p l[i] = true) : idxF p l = i := by
  unfold idxF
  have : l.findIdx? p = some i := by
    rw [List.findIdx?_eq_some_iff_getElem]
    exact ⟨hi, hp, fun j hj => by simpa using h j (by omega) hj⟩
  rw [this]
theorem idxF_none {α : Type} {p : α → Bool} {l : List α} (h : ∀ j (hj : j < l.length), p l[j] = false) : idxF p l = -1 := by
  unfold idxF
  have : l.findIdx? p = none := by
    rw [List.findIdx?_eq_none_iff]
    intro x hx
    obtain ⟨i, hi, rfl⟩ := List.mem_iff_getElem.1 hx
    exact h i hi
  rw [this]
theorem idxF_any {α : Type} (p : α → Bool) (l : List α) : decide (idxF p l ≥ 0) = l.any p := by
  unfold idxF
  cases h : l.findIdx? p with
  | none =>
    rw [List.findIdx?_eq_none_iff] at h
    have : l.any p = false := by
      rw [List.any_eq_false]
      intro x hx
      rw [h x hx]; exact Bool.false_ne_true
    rw [this]; rfl
  | some i =>
    rw [List.findIdx?_eq_some_iff_getElem] at h
    obtain ⟨hi, hp, _⟩ := h
    have : l.any p = true := List.any_eq_true.2 ⟨l[i], List.getElem_mem hi, hp⟩
    rw [this]
    exact decide_eq_true (by show (0 : Int) ≤ (i : Int); omega)
theorem none_step {α : Type} {p : α → Bool} {l : List α} {i : Nat} (h : ∀ j (hj : j < l.length), j < i → p l[j] = false) (hi : i < l.length) (hp : p l[i] = false) : ∀ j (hj : j < l.length), j < i + 1 → p l[j] = false := by
  intro j hj hlt
  by_cases he : j = i
  · subst he; exact hp
  · exact h j hj (by omega)
theorem any_none {α : Type} {p : α → Bool} {l : List α} (h : ∀ j (hj : j < l.length), p l[j] = false) : l.any p = false := by
  rw [List.any_eq_false]
  intro x hx
  obtain ⟨i, hi, rfl⟩ := List.mem_iff_getElem.1 hx
  rw [h i hi]; exact Bool.false_ne_true
theorem any_hit {α : Type} {p : α → Bool} {l : List α} {i : Nat} (hi : i < l.length) (hp : p l[i] = true) : l.any p = true := List.any_eq_true.2 ⟨l[i], List.getElem_mem hi, hp⟩
theorem all_any {α : Type} (p : α → Bool) (l : List α) : l.all p = !l.any fun x => !p x := by
  induction l with
  | nil => rfl
  | cons x l ih => simp [ih]
end Go.Proofs.Ytapciiffpnociaa

/- How updates lie in the program's values; lists that are gone through. Condition: none. -/
namespace Go.Proofs.Ytapciiffpnociaa
open Go Go.RowKit
attribute [local irreducible] DW DS DL DQ Ev FnOk FnP thenD inBlockD DT
def encI (n : Int) : List D := [.int .i64 n]
def encInts (l : List Int) : D := .slice 1 (l.map encI)
def encId (i : UId) : List D := [.int .i64 i.author, .int .i64 i.number]
def encIds (l : List UId) : D := .slice 2 (l.map encId)
def encFct (f : Fct) : List D := [.int .i64 f.pred, .slice 1 (f.args.map encI)]
def encFcts (l : List Fct) : D := .slice 2 (l.map encFct)
def encUpd (u : Upd) : List D := [.int .i64 u.id.author, .int .i64 u.id.number, .slice 2 (u.parents.map encId), .slice 2 (u.says.map encFct), .slice 2 (u.takes.map encId)]
abbrev elI (n : Int) : SV := .d (.int .i64 n)
abbrev elId (i : UId) : SV := .agg [.d (.int .i64 i.author), .d (.int .i64 i.number)]
abbrev elFct (f : Fct) : SV := .agg [.d (.int .i64 f.pred), .d (.slice 1 (f.args.map encI))]
abbrev elUpd (u : Upd) : SV := .agg [.d (.int .i64 u.id.author), .d (.int .i64 u.id.number), .d (.slice 2 (u.parents.map encId)), .d (.slice 2 (u.says.map encFct)), .d (.slice 2 (u.takes.map encId))]

set_option maxHeartbeats 8000000 in
theorem indexFuncId_fn {f : FuncId} {caps : List SV} (p : UId → Bool) (l : List (UId)) (hcap : SV.lowL 0 caps = true) (hp : ∀ x ∈ l, Fn f (elId x :: caps) (fun r => r = .d (.bool (p x)))) : Fn 155 [.d (.slice 2 (l.map encId)), .fn f caps] (fun r => r = .d (.int .i64 (idxF p l))) := by
  refine fnp_enter' _ Try.func155 rfl rfl (by kernel_rfl) ?_
  intro O w0 E0 β0
  refine dw_len_map (t := 0) rfl fun hb => ?_
  repeat' (first | (apply ds_evC; exact rfl; (with_reducible exact trivial); (with_reducible exact rfl); exact rfl; exact rfl; exact rfl) | apply ds_nil | apply dw_seq2 | (apply ds_region; exact rfl) | apply dw_block | apply thenD_n)
  refine ds_loop (ι := Nat) (fun i => ⟨0, [(0, .d (.slice 2 (l.map encId))), (1, .fn f caps), (7, .d (.int .i64 l.length)), (8, .d (.int .i64 i))], []⟩)
    (fun i => i ≤ l.length ∧ ∀ j (hj : j < l.length), j < i → p l[j] = false) (fun i => l.length - i) 0 ⟨Nat.zero_le _, fun j _ h => absurd h (Nat.not_lt_zero j)⟩
    (ent_ren id ⟨rfl, congrArg (SV.fn f) (SV.renL_id caps).symm, by simp; rfl, rfl, trivial⟩ trivial (by simp [Sl.low, SV.low, hcap]) rfl rfl rfl rfl rfl) ?_
  rintro i ⟨h1, h2⟩
  repeat' (first | (apply ds_evC; exact rfl; (with_reducible exact trivial); (with_reducible exact rfl); exact rfl; exact rfl; exact rfl) | apply ds_nil | apply dw_seq2 | (apply ds_region; exact rfl) | apply thenD_n)
  refine dw_condP rfl (fun h => ?_) (fun h => ?_)
  · have hi : i < l.length := by omega
    have hpx := hp l[i] (List.getElem_mem hi)
    repeat' (first | (apply ds_evC; exact rfl; (first | (with_reducible exact trivial) | (simp only [List.length_map]; omega)); (first | ((with_reducible apply hv_row); (exact rfl); (rw [List.length_map]; omega)) | (with_reducible exact rfl)); exact rfl; exact rfl; exact rfl) | apply ds_nil | apply dw_seq2 | (apply ds_region; exact rfl) | apply dw_block | apply dw_skip | apply thenD_n | (apply ds_callV; exact rfl; exact rfl; exact rfl; exact rfl; apply hpx; exact rfl; (assumption); exact rfl; rintro _ rfl))
    refine dw_cond rfl (fun hb => ?_) (fun hb => ?_)
    · repeat' (first | (apply ds_evC; exact rfl; (with_reducible exact trivial); (with_reducible exact rfl); exact rfl; exact rfl; exact rfl) | apply ds_nil | apply dw_seq2 | (apply ds_region; exact rfl) | apply dw_ret | apply thenD_n | apply thenD_r | apply inB_r)
      exact ret_i rfl (idxF_hit h2 hi hb).symm
    · repeat' (first | (apply ds_evC; exact rfl; (first | (with_reducible exact trivial) | omega); (with_reducible exact rfl); exact rfl; exact rfl; exact rfl) | apply ds_nil | (apply ds_region; exact rfl) | apply dw_skip | apply thenD_n | apply inB_n)
      exact ⟨i + 1, ⟨hi, none_step h2 hi hb⟩, ent_ren id ⟨rfl, congrArg (SV.fn f) (SV.renL_id caps).symm, rfl, rfl, trivial⟩ trivial (by simp [Sl.low, SV.low, hcap]) rfl rfl rfl rfl rfl, by omega⟩
  · repeat' (first | (apply ds_evC; exact rfl; (with_reducible exact trivial); (with_reducible exact rfl); exact rfl; exact rfl; exact rfl) | apply ds_nil | apply dw_seq2 | (apply ds_region; exact rfl) | apply dw_exit | apply dw_ret | apply thenD_n | apply thenD_e | (apply inB_e; exact rfl))
    exact ret_i rfl (idxF_none fun j hj => h2 j hj (by omega)).symm

set_option maxHeartbeats 8000000 in
theorem indexFuncFct_fn {f : FuncId} {caps : List SV} (p : Fct → Bool) (l : List (Fct)) (hcap : SV.lowL 0 caps = true) (hp : ∀ x ∈ l, Fn f (elFct x :: caps) (fun r => r = .d (.bool (p x)))) : Fn 157 [.d (.slice 2 (l.map encFct)), .fn f caps] (fun r => r = .d (.int .i64 (idxF p l))) := by
  refine fnp_enter' _ Try.func157 rfl rfl (by kernel_rfl) ?_
  intro O w0 E0 β0
  refine dw_len_map (t := 0) rfl fun hb => ?_
  repeat' (first | (apply ds_evC; exact rfl; (with_reducible exact trivial); (with_reducible exact rfl); exact rfl; exact rfl; exact rfl) | apply ds_nil | apply dw_seq2 | (apply ds_region; exact rfl) | apply dw_block | apply thenD_n)
  refine ds_loop (ι := Nat) (fun i => ⟨0, [(0, .d (.slice 2 (l.map encFct))), (1, .fn f caps), (7, .d (.int .i64 l.length)), (8, .d (.int .i64 i))], []⟩)
    (fun i => i ≤ l.length ∧ ∀ j (hj : j < l.length), j < i → p l[j] = false) (fun i => l.length - i) 0 ⟨Nat.zero_le _, fun j _ h => absurd h (Nat.not_lt_zero j)⟩
    (ent_ren id ⟨rfl, congrArg (SV.fn f) (SV.renL_id caps).symm, by simp; rfl, rfl, trivial⟩ trivial (by simp [Sl.low, SV.low, hcap]) rfl rfl rfl rfl rfl) ?_
  rintro i ⟨h1, h2⟩
  repeat' (first | (apply ds_evC; exact rfl; (with_reducible exact trivial); (with_reducible exact rfl); exact rfl; exact rfl; exact rfl) | apply ds_nil | apply dw_seq2 | (apply ds_region; exact rfl) | apply thenD_n)
  refine dw_condP rfl (fun h => ?_) (fun h => ?_)
  · have hi : i < l.length := by omega
    have hpx := hp l[i] (List.getElem_mem hi)
    repeat' (first | (apply ds_evC; exact rfl; (first | (with_reducible exact trivial) | (simp only [List.length_map]; omega)); (first | ((with_reducible apply hv_row); (exact rfl); (rw [List.length_map]; omega)) | (with_reducible exact rfl)); exact rfl; exact rfl; exact rfl) | apply ds_nil | apply dw_seq2 | (apply ds_region; exact rfl) | apply dw_block | apply dw_skip | apply thenD_n | (apply ds_callV; exact rfl; exact rfl; exact rfl; exact rfl; apply hpx; exact rfl; (assumption); exact rfl; rintro _ rfl))
    refine dw_cond rfl (fun hb => ?_) (fun hb => ?_)
    · repeat' (first | (apply ds_evC; exact rfl; (with_reducible exact trivial); (with_reducible exact rfl); exact rfl; exact rfl; exact rfl) | apply ds_nil | apply dw_seq2 | (apply ds_region; exact rfl) | apply dw_ret | apply thenD_n | apply thenD_r | apply inB_r)
      exact ret_i rfl (idxF_hit h2 hi hb).symm
    · repeat' (first | (apply ds_evC; exact rfl; (first | (with_reducible exact trivial) | omega); (with_reducible exact rfl); exact rfl; exact rfl; exact rfl) | apply ds_nil | (apply ds_region; exact rfl) | apply dw_skip | apply thenD_n | apply inB_n)
      exact ⟨i + 1, ⟨hi, none_step h2 hi hb⟩, ent_ren id ⟨rfl, congrArg (SV.fn f) (SV.renL_id caps).symm, rfl, rfl, trivial⟩ trivial (by simp [Sl.low, SV.low, hcap]) rfl rfl rfl rfl rfl, by omega⟩
  · repeat' (first | (apply ds_evC; exact rfl; (with_reducible exact trivial); (with_reducible exact rfl); exact rfl; exact rfl; exact rfl) | apply ds_nil | apply dw_seq2 | (apply ds_region; exact rfl) | apply dw_exit | apply dw_ret | apply thenD_n | apply thenD_e | (apply inB_e; exact rfl))
    exact ret_i rfl (idxF_none fun j hj => h2 j hj (by omega)).symm

set_option maxHeartbeats 8000000 in
theorem indexFuncInt_fn {f : FuncId} {caps : List SV} (p : Int → Bool) (l : List (Int)) (hcap : SV.lowL 0 caps = true) (hp : ∀ x ∈ l, Fn f (elI x :: caps) (fun r => r = .d (.bool (p x)))) : Fn 195 [.d (.slice 1 (l.map encI)), .fn f caps] (fun r => r = .d (.int .i64 (idxF p l))) := by
  refine fnp_enter' _ Try.func195 rfl rfl (by kernel_rfl) ?_
  intro O w0 E0 β0
  refine dw_len_map (t := 0) rfl fun hb => ?_
  repeat' (first | (apply ds_evC; exact rfl; (with_reducible exact trivial); (with_reducible exact rfl); exact rfl; exact rfl; exact rfl) | apply ds_nil | apply dw_seq2 | (apply ds_region; exact rfl) | apply dw_block | apply thenD_n)
  refine ds_loop (ι := Nat) (fun i => ⟨0, [(0, .d (.slice 1 (l.map encI))), (1, .fn f caps), (7, .d (.int .i64 l.length)), (8, .d (.int .i64 i))], []⟩)
    (fun i => i ≤ l.length ∧ ∀ j (hj : j < l.length), j < i → p l[j] = false) (fun i => l.length - i) 0 ⟨Nat.zero_le _, fun j _ h => absurd h (Nat.not_lt_zero j)⟩
    (ent_ren id ⟨rfl, congrArg (SV.fn f) (SV.renL_id caps).symm, by simp; rfl, rfl, trivial⟩ trivial (by simp [Sl.low, SV.low, hcap]) rfl rfl rfl rfl rfl) ?_
  rintro i ⟨h1, h2⟩
  repeat' (first | (apply ds_evC; exact rfl; (with_reducible exact trivial); (with_reducible exact rfl); exact rfl; exact rfl; exact rfl) | apply ds_nil | apply dw_seq2 | (apply ds_region; exact rfl) | apply thenD_n)
  refine dw_condP rfl (fun h => ?_) (fun h => ?_)
  · have hi : i < l.length := by omega
    have hpx := hp l[i] (List.getElem_mem hi)
    repeat' (first | (apply ds_evC; exact rfl; (first | (with_reducible exact trivial) | (simp only [List.length_map]; omega)); (first | ((with_reducible apply hv_row); (exact rfl); (rw [List.length_map]; omega)) | (with_reducible exact rfl)); exact rfl; exact rfl; exact rfl) | apply ds_nil | apply dw_seq2 | (apply ds_region; exact rfl) | apply dw_block | apply dw_skip | apply thenD_n | (apply ds_callV; exact rfl; exact rfl; exact rfl; exact rfl; apply hpx; exact rfl; (assumption); exact rfl; rintro _ rfl))
    refine dw_cond rfl (fun hb => ?_) (fun hb => ?_)
    · repeat' (first | (apply ds_evC; exact rfl; (with_reducible exact trivial); (with_reducible exact rfl); exact rfl; exact rfl; exact rfl) | apply ds_nil | apply dw_seq2 | (apply ds_region; exact rfl) | apply dw_ret | apply thenD_n | apply thenD_r | apply inB_r)
      exact ret_i rfl (idxF_hit h2 hi hb).symm
    · repeat' (first | (apply ds_evC; exact rfl; (first | (with_reducible exact trivial) | omega); (with_reducible exact rfl); exact rfl; exact rfl; exact rfl) | apply ds_nil | (apply ds_region; exact rfl) | apply dw_skip | apply thenD_n | apply inB_n)
      exact ⟨i + 1, ⟨hi, none_step h2 hi hb⟩, ent_ren id ⟨rfl, congrArg (SV.fn f) (SV.renL_id caps).symm, rfl, rfl, trivial⟩ trivial (by simp [Sl.low, SV.low, hcap]) rfl rfl rfl rfl rfl, by omega⟩
  · repeat' (first | (apply ds_evC; exact rfl; (with_reducible exact trivial); (with_reducible exact rfl); exact rfl; exact rfl; exact rfl) | apply ds_nil | apply dw_seq2 | (apply ds_region; exact rfl) | apply dw_exit | apply dw_ret | apply thenD_n | apply thenD_e | (apply inB_e; exact rfl))
    exact ret_i rfl (idxF_none fun j hj => h2 j hj (by omega)).symm

set_option maxHeartbeats 8000000 in
theorem containsFuncId_fn {f : FuncId} {caps : List SV} (p : UId → Bool) (l : List (UId)) (hcap : SV.lowL 0 caps = true) (hp : ∀ x ∈ l, Fn f (elId x :: caps) (fun r => r = .d (.bool (p x)))) : Fn 94 [.d (.slice 2 (l.map encId)), .fn f caps] (fun r => r = .d (.bool (l.any p))) := by
  refine fnp_enter' _ Try.func94 rfl rfl (by kernel_rfl) ?_
  intro O w0 E0 β0
  have hx := indexFuncId_fn p l hcap hp
  have hlow : SV.lowL 0 [.d (.slice 2 (l.map encId)), .fn f caps] = true := by simp [SV.lowL, SV.low, hcap]
  repeat' (first | (apply ds_evC; exact rfl; (with_reducible exact trivial); (with_reducible exact rfl); exact rfl; exact rfl; exact rfl) | apply ds_nil | apply dw_seq2 | (apply ds_region; exact rfl) | apply dw_ret | apply thenD_n | (apply ds_call; exact rfl; exact rfl; apply hx; exact rfl; (assumption); exact rfl; rintro _ rfl))
  exact ret_b rfl (idxF_any p l)

set_option maxHeartbeats 8000000 in
theorem containsFuncFct_fn {f : FuncId} {caps : List SV} (p : Fct → Bool) (l : List (Fct)) (hcap : SV.lowL 0 caps = true) (hp : ∀ x ∈ l, Fn f (elFct x :: caps) (fun r => r = .d (.bool (p x)))) : Fn 98 [.d (.slice 2 (l.map encFct)), .fn f caps] (fun r => r = .d (.bool (l.any p))) := by
  refine fnp_enter' _ Try.func98 rfl rfl (by kernel_rfl) ?_
  intro O w0 E0 β0
  have hx := indexFuncFct_fn p l hcap hp
  have hlow : SV.lowL 0 [.d (.slice 2 (l.map encFct)), .fn f caps] = true := by simp [SV.lowL, SV.low, hcap]
  repeat' (first | (apply ds_evC; exact rfl; (with_reducible exact trivial); (with_reducible exact rfl); exact rfl; exact rfl; exact rfl) | apply ds_nil | apply dw_seq2 | (apply ds_region; exact rfl) | apply dw_ret | apply thenD_n | (apply ds_call; exact rfl; exact rfl; apply hx; exact rfl; (assumption); exact rfl; rintro _ rfl))
  exact ret_b rfl (idxF_any p l)

set_option maxHeartbeats 8000000 in
theorem containsFuncInt_fn {f : FuncId} {caps : List SV} (p : Int → Bool) (l : List (Int)) (hcap : SV.lowL 0 caps = true) (hp : ∀ x ∈ l, Fn f (elI x :: caps) (fun r => r = .d (.bool (p x)))) : Fn 158 [.d (.slice 1 (l.map encI)), .fn f caps] (fun r => r = .d (.bool (l.any p))) := by
  refine fnp_enter' _ Try.func158 rfl rfl (by kernel_rfl) ?_
  intro O w0 E0 β0
  have hx := indexFuncInt_fn p l hcap hp
  have hlow : SV.lowL 0 [.d (.slice 1 (l.map encI)), .fn f caps] = true := by simp [SV.lowL, SV.low, hcap]
  repeat' (first | (apply ds_evC; exact rfl; (with_reducible exact trivial); (with_reducible exact rfl); exact rfl; exact rfl; exact rfl) | apply ds_nil | apply dw_seq2 | (apply ds_region; exact rfl) | apply dw_ret | apply thenD_n | (apply ds_call; exact rfl; exact rfl; apply hx; exact rfl; (assumption); exact rfl; rintro _ rfl))
  exact ret_b rfl (idxF_any p l)

end Go.Proofs.Ytapciiffpnociaa

/- How programs lie in the program's values. Condition: none. -/
namespace Go.Proofs.Ytapciiffpnociaa
open Go Go.RowKit
attribute [local irreducible] DW DS DL DQ Ev FnOk FnP thenD inBlockD DT
def encBl (b : Bool) : List D := [.bool b]
def encT (s : ByteArray) : List D := [.str s]
def encTrm (t : Trm) : List D := [.int .i64 t.var, .int .i64 t.n]
def encLtl (l : Ltl) : List D := [.int .i64 l.kind, .int .i64 l.op, .int .i64 l.pred, .slice 2 (l.terms.map encTrm)]
def encRul (r : Rul) : List D := [.int .i64 r.pred, .slice 2 (r.terms.map encTrm), .int .i64 r.fold, .slice 4 (r.body.map encLtl), .int .i64 r.vars]
abbrev elTrm (t : Trm) : SV := .agg [.d (.int .i64 t.var), .d (.int .i64 t.n)]
abbrev elLtl (l : Ltl) : SV := .agg [.d (.int .i64 l.kind), .d (.int .i64 l.op), .d (.int .i64 l.pred), .d (.slice 2 (l.terms.map encTrm))]
abbrev elRul (r : Rul) : SV := .agg [.d (.int .i64 r.pred), .d (.slice 2 (r.terms.map encTrm)), .d (.int .i64 r.fold), .d (.slice 4 (r.body.map encLtl)), .d (.int .i64 r.vars)]
abbrev elPrg (p : Prg) : SV := .agg [.d (.slice 1 (p.arity.map encI)), .d (.slice 1 (p.names.map encT)), .d (.slice 5 (p.rules.map encRul))]

set_option maxHeartbeats 8000000 in
theorem swithin_fn (n a b : Int) : Fn 196 [.d (.int .i64 n), .d (.int .i64 a), .d (.int .i64 b)] (fun r => r = .d (.bool (inR n a b))) := by
  refine fnp_enter' _ Try.func196 rfl rfl (by kernel_rfl) ?_
  intro O w0 E0 β0
  unfold inR
  repeat' (first | (apply ds_evC; exact rfl; (with_reducible exact trivial); (with_reducible exact rfl); exact rfl; exact rfl; exact rfl) | (apply ds_skip; exact rfl; exact rfl) | apply ds_nil | apply dw_seq2 | (apply ds_region; exact rfl) | apply dw_ret | apply thenD_n | ((fail_if_success (apply ds_known; exact rfl)); apply ds_guardP; exact rfl; exact rfl; exact rfl; all_goals intro hg))
  all_goals exact ret_b rfl (by simp_all <;> omega)

set_option maxHeartbeats 8000000 in
theorem snumber_fn (n : Int) : Fn 160 [.d (.int .i64 n)] (fun r => r = .d (.bool (numB n))) := by
  refine fnp_enter' _ Try.func160 rfl rfl (by kernel_rfl) ?_
  intro O w0 E0 β0
  unfold numB
  repeat' (first | (apply ds_evC; exact rfl; (with_reducible exact trivial); (with_reducible exact rfl); exact rfl; exact rfl; exact rfl) | apply ds_nil | apply dw_seq2 | (apply ds_region; exact rfl) | apply dw_ret | apply thenD_n | (apply ds_call; exact rfl; exact rfl; apply swithin_fn; exact rfl; (exact rfl); exact rfl; rintro _ rfl))
  exact ret_b rfl rfl

set_option maxHeartbeats 8000000 in
theorem op_fn (kind n : Int) : Fn 224 [.d (.int .i64 kind), .d (.int .i64 n)] (fun r => r = .d (.bool (opB kind n))) := by
  refine fnp_enter' _ Try.func224 rfl rfl (by kernel_rfl) ?_
  intro O w0 E0 β0
  unfold opB
  repeat' (first | (apply ds_evC; exact rfl; (with_reducible exact trivial); (with_reducible exact rfl); exact rfl; exact rfl; exact rfl) | apply ds_nil | apply dw_seq2 | (apply ds_region; exact rfl) | apply dw_block | apply dw_skip | apply dw_ret | apply thenD_n | apply thenD_r | apply inB_n | apply inB_r | (apply ds_call; exact rfl; exact rfl; apply swithin_fn; exact rfl; (exact rfl); exact rfl; rintro _ rfl) | (apply dw_condP; exact rfl; all_goals intro hg))
  all_goals exact ret_b rfl (by simp_all <;> omega)

set_option maxHeartbeats 8000000 in
theorem terms_fn (l : List Trm) (vars : Int) (h0 : 0 ≤ vars) (h8 : vars ≤ 8) : Fn 199 [.d (.slice 2 (l.map encTrm)), .d (.int .i64 vars)] (fun r => r = .d (.int .i64 (termsE vars l))) := by
  refine fnp_enter' _ Try.func199 rfl rfl (by kernel_rfl) ?_
  intro O w0 E0 β0
  have la : (l.map encTrm).length = l.length := List.length_map _
  unfold termsE
  repeat' (first | (apply ds_evC; exact rfl; (with_reducible exact trivial); (with_reducible exact rfl); exact rfl; exact rfl; exact rfl) | apply ds_nil | apply dw_seq2 | (apply ds_region; exact rfl) | apply dw_block | apply thenD_n)
  refine dw_len (t := 7) rfl (fun hk => ?_)
  refine ds_loop (ι := Nat) (fun i => ⟨0, [(1, .d (.int .i64 vars)), (4, .d (.int .i64 0)), (7, .d (.slice 2 (l.map encTrm))), (8, .d (.int .i64 (l.map encTrm).length)), (9, .d (.int .i64 i))], []⟩)
    (fun i => i ≤ l.length ∧ firstL (termE vars) l = firstL (termE vars) (l.drop i)) (fun i => l.length - i) 0 ⟨Nat.zero_le _, rfl⟩ (ent_ren id ⟨rfl, rfl, rfl, rfl, rfl, trivial⟩ trivial rfl rfl rfl rfl rfl rfl) ?_
  rintro i ⟨g1, g2⟩
  by_cases hi : i < l.length
  · rw [firstL_step hi, show termE vars l[i] = if inR l[i].var (-1) (vars - 1) = false then 5 else if numB l[i].n = false ∨ (0 ≤ l[i].var ∧ l[i].n ≠ 0) then 3 else 0 from rfl] at g2
    repeat' (first | (apply ds_evC; exact rfl; (first | (with_reducible exact trivial) | omega); (first | ((with_reducible apply hv_row); (exact rfl); (omega)) | (with_reducible exact rfl)); exact rfl; exact rfl; exact rfl) | (apply ds_skip; exact rfl; exact rfl) | apply ds_nil | apply dw_seq2 | (apply ds_region; exact rfl) | apply dw_block | apply dw_skip | apply dw_exit | apply dw_ret | (apply dw_condT; exact rfl) | (apply dw_condF; exact rfl) | apply thenD_n | apply thenD_e | apply thenD_r | apply inB_n | apply inB_r | (apply inB_e; exact rfl) | (apply ds_call; exact rfl; exact rfl; apply swithin_fn; exact rfl; (exact rfl); exact rfl; rintro _ rfl) | (apply ds_call; exact rfl; exact rfl; apply snumber_fn; exact rfl; (exact rfl); exact rfl; rintro _ rfl) | (apply ds_newC; exact rfl; (with_reducible exact trivial); exact rfl; exact rfl; exact rfl) | (apply ds_setC; exact rfl; exact rfl; exact rfl; exact rfl) | (apply dw_condP; exact rfl; all_goals intro hg) | (apply dw_cond; exact rfl; all_goals intro hg) | ((fail_if_success (apply ds_known; exact rfl)); apply ds_guardP; exact rfl; exact rfl; exact rfl; all_goals intro hg) | ((fail_if_success (apply ds_known; exact rfl)); apply ds_guardB; exact rfl; exact rfl; exact rfl; all_goals intro hg))
    all_goals first
      | exact absurd hg (by omega)
      | exact ret_i rfl (by rw [g2]; simp_all <;> omega)
      | exact ⟨i + 1, ⟨by omega, by rw [g2]; simp_all <;> omega⟩, ent_ren id ⟨rfl, rfl, rfl, rfl, rfl, trivial⟩ trivial rfl rfl rfl rfl rfl rfl, by show l.length - (i + 1) < l.length - i; omega⟩
  · rw [firstL_end (by omega)] at g2
    repeat' (first | (apply ds_evC; exact rfl; (first | (with_reducible exact trivial) | omega); (first | ((with_reducible apply hv_row); (exact rfl); (omega)) | (with_reducible exact rfl)); exact rfl; exact rfl; exact rfl) | (apply ds_skip; exact rfl; exact rfl) | apply ds_nil | apply dw_seq2 | (apply ds_region; exact rfl) | apply dw_block | apply dw_skip | apply dw_exit | apply dw_ret | (apply dw_condT; exact rfl) | (apply dw_condF; exact rfl) | apply thenD_n | apply thenD_e | apply thenD_r | apply inB_n | apply inB_r | (apply inB_e; exact rfl) | (apply ds_call; exact rfl; exact rfl; apply swithin_fn; exact rfl; (exact rfl); exact rfl; rintro _ rfl) | (apply ds_call; exact rfl; exact rfl; apply snumber_fn; exact rfl; (exact rfl); exact rfl; rintro _ rfl) | (apply ds_newC; exact rfl; (with_reducible exact trivial); exact rfl; exact rfl; exact rfl) | (apply ds_setC; exact rfl; exact rfl; exact rfl; exact rfl) | (apply dw_condP; exact rfl; all_goals intro hg) | (apply dw_cond; exact rfl; all_goals intro hg) | ((fail_if_success (apply ds_known; exact rfl)); apply ds_guardP; exact rfl; exact rfl; exact rfl; all_goals intro hg) | ((fail_if_success (apply ds_known; exact rfl)); apply ds_guardB; exact rfl; exact rfl; exact rfl; all_goals intro hg))
    all_goals first
      | exact absurd hg (by omega)
      | exact ret_i rfl g2.symm
end Go.Proofs.Ytapciiffpnociaa

/- Plain words on levels: no program is in sight. Condition: none. -/
namespace Go.Proofs.Ytapciiffpnociaa
/-- How much a literal lifts. -/
def liftN (fold : Int) (x : Ltl) : Int := if x.kind = 2 ∨ fold ≠ 0 then 1 else 0
def lvLit (fold pred : Int) (lv : List Int) (x : Ltl) : List Int :=
  if 2 < x.kind then lv
  else if lv.getD pred.toNat 0 < lv.getD x.pred.toNat 0 + liftN fold x then lv.set pred.toNat (lv.getD x.pred.toNat 0 + liftN fold x) else lv
def lvRule (lv : List Int) (r : Rul) : List Int := r.body.foldl (lvLit r.fold r.pred) lv
def lvRound (l : List Rul) (lv : List Int) : List Int := l.foldl lvRule lv
def lvIter (l : List Rul) : Nat → List Int → List Int
  | 0, lv => lv
  | n + 1, lv => lvIter l n (lvRound l lv)
theorem lvLit_len (f q : Int) (lv : List Int) (x : Ltl) : (lvLit f q lv x).length = lv.length := by
  unfold lvLit
  split
  · rfl
  · split <;> simp
theorem lvLits_len (f q : Int) : ∀ (b : List Ltl) (lv : List Int), (b.foldl (lvLit f q) lv).length = lv.length
  | [], _ => rfl
  | x :: b, lv => by rw [List.foldl_cons, lvLits_len f q b, lvLit_len]
theorem lvRule_len (lv : List Int) (r : Rul) : (lvRule lv r).length = lv.length := lvLits_len _ _ _ _
theorem lvRound_len : ∀ (l : List Rul) (lv : List Int), (lvRound l lv).length = lv.length
  | [], _ => rfl
  | r :: l, lv => by
    have := lvRound_len l (lvRule lv r)
    rw [lvRule_len] at this
    exact this
theorem lvIter_len (l : List Rul) : ∀ (n : Nat) (lv : List Int), (lvIter l n lv).length = lv.length
  | 0, _ => rfl
  | n + 1, lv => by rw [lvIter, lvIter_len l n, lvRound_len]
/-- Levels that are no less. -/
def leL (a b : List Int) : Prop := a.length = b.length ∧ ∀ i, a.getD i 0 ≤ b.getD i 0
theorem leL.refl (a : List Int) : leL a a := ⟨rfl, fun _ => Int.le_refl _⟩
theorem leL.trans {a b c : List Int} (h : leL a b) (g : leL b c) : leL a c := ⟨h.1.trans g.1, fun i => Int.le_trans (h.2 i) (g.2 i)⟩
theorem lvLit_le (f q : Int) (lv : List Int) (x : Ltl) : leL lv (lvLit f q lv x) := by
  refine ⟨(lvLit_len f q lv x).symm, fun i => ?_⟩
  unfold lvLit
  split
  · exact Int.le_refl _
  · split
    · rename_i h
      simp only [List.getD, List.getElem?_set] at h ⊢
      split
      · rename_i hi
        subst hi
        by_cases hl : q.toNat < lv.length
        · rw [if_pos hl]
          simp only [Option.getD_some]
          omega
        · rw [if_neg hl, List.getElem?_eq_none (by omega)]
          exact Int.le_refl _
      · exact Int.le_refl _
    · exact Int.le_refl _
theorem lvLits_le (f q : Int) : ∀ (b : List Ltl) (lv : List Int), leL lv (b.foldl (lvLit f q) lv)
  | [], lv => leL.refl lv
  | x :: b, lv => (lvLit_le f q lv x).trans (lvLits_le f q b _)
theorem lvRound_le : ∀ (l : List Rul) (lv : List Int), leL lv (lvRound l lv)
  | [], lv => leL.refl lv
  | r :: l, lv => (lvLits_le r.fold r.pred r.body lv).trans (lvRound_le l (lvRule lv r))
end Go.Proofs.Ytapciiffpnociaa

/- Plain words on the program's levels. Condition: none. -/
namespace Go.Proofs.Ytapciiffpnociaa
def hangsB (x : Ltl) : Bool := decide (x.kind = 1) || decide (x.kind = 2)
def strictB (fold : Int) (x : Ltl) : Bool := decide (x.kind = 2) || decide (fold ≠ 0)
def liftS (fold : Int) (x : Ltl) : Int := if strictB fold x then 1 else 0
/-- One literal: what it lifts; nothing, if it asks too much. -/
def rawLit (fold pred : Int) (x : Ltl) (lv : List Int) (ch : Bool) : List Int × Bool :=
  if lv.getD pred.toNat 0 < lv.getD x.pred.toNat 0 + liftS fold x then (lv.set pred.toNat (lv.getD x.pred.toNat 0 + liftS fold x), true) else (lv, ch)
def rawStep (n fold pred : Int) (st : Option (List Int × Bool)) (x : Ltl) : Option (List Int × Bool) := match st with
  | none => none
  | some (lv, ch) => if n < lv.getD x.pred.toNat 0 + liftS fold x then none else some (rawLit fold pred x lv ch)
def rawRule (n : Int) (st : Option (List Int × Bool)) (r : Rul) : Option (List Int × Bool) := (r.body.filter hangsB).foldl (rawStep n r.fold r.pred) st
def rawRound (n : Int) (l : List Rul) (lv : List Int) : Option (List Int × Bool) := l.foldl (rawRule n) (some (lv, false))
def rawIter (n : Int) (l : List Rul) : Nat → List Int → Option (List Int)
  | 0, _ => none
  | k + 1, lv => match rawRound n l lv with
    | none => none
    | some (lv', true) => rawIter n l k lv'
    | some (lv', false) => some lv'
def gap (n : Int) (lv : List Int) : Nat := (lv.map fun v => (n - v).toNat).sum
def zeros (n : Nat) : List Int := List.replicate n 0
def rawL (p : Prg) : Option (List Int) := rawIter p.arity.length p.rules (p.arity.length * p.arity.length + 1) (zeros p.arity.length)

theorem gap_set {n : Int} : ∀ {lv : List Int} {i : Nat} {v : Int} (h : i < lv.length), lv[i] < v → v ≤ n → gap n (lv.set i v) < gap n lv
  | [], _, _, h, _, _ => by simp at h
  | u :: lv, 0, v, _, hv, hn => by
    simp only [gap, List.set_cons_zero, List.map_cons, List.sum_cons, List.getElem_cons_zero] at hv ⊢
    omega
  | u :: lv, i + 1, v, h, hv, hn => by
    have := gap_set (n := n) (lv := lv) (i := i) (v := v) (by simpa using h) (by simpa using hv) hn
    simp only [gap, List.set_cons_succ, List.map_cons, List.sum_cons] at this ⊢
    omega
theorem gap_zeros (n m : Nat) : gap n (zeros m) = m * n := by
  unfold gap zeros
  rw [List.map_replicate, List.sum_replicate_nat]
  simp
/-- How a round goes: how long the levels are, whether one rose. -/
def Rs (n : Int) (lv0 lv : List Int) (ch : Bool) : Prop := lv.length = lv0.length ∧ (∀ v ∈ lv, 0 ≤ v ∧ v ≤ n) ∧ gap n lv ≤ gap n lv0 ∧ (ch = true → gap n lv < gap n lv0)
theorem Rs.refl {n : Int} {lv : List Int} (h : ∀ v ∈ lv, 0 ≤ v ∧ v ≤ n) : Rs n lv lv false := ⟨rfl, h, Nat.le_refl _, fun h => by cases h⟩
theorem Rs.step {n fold pred : Int} {lv0 lv : List Int} {ch : Bool} {x : Ltl} (h : Rs n lv0 lv ch) (hp : pred.toNat < lv0.length) (hl : ¬ n < lv.getD x.pred.toNat 0 + liftS fold x) : Rs n lv0 (rawLit fold pred x lv ch).1 (rawLit fold pred x lv ch).2 := by
  obtain ⟨h1, h2, h3, h4⟩ := h
  unfold rawLit
  split
  · rename_i hlt
    have hp' : pred.toNat < lv.length := by omega
    rw [List.getD, List.getElem?_eq_getElem hp', Option.getD_some] at hlt
    have := gap_set (n := n) hp' hlt (by omega)
    refine ⟨by simpa using h1, fun v hv => ?_, by simp only; omega, fun _ => by simp only; omega⟩
    rcases List.mem_or_eq_of_mem_set hv with h | h
    · exact h2 v h
    · have := (h2 _ (List.getElem_mem hp')).1
      omega
  · exact ⟨h1, h2, h3, h4⟩
theorem rawStep_none (n fold pred : Int) : ∀ (b : List Ltl), b.foldl (rawStep n fold pred) none = none
  | [] => rfl
  | _ :: b => rawStep_none n fold pred b
theorem rawRule_none (n : Int) : ∀ (l : List Rul), l.foldl (rawRule n) none = none
  | [] => rfl
  | r :: l => by
    rw [List.foldl_cons, show rawRule n none r = none from rawStep_none _ _ _ _]
    exact rawRule_none n l
theorem rawStep_if {n fold pred : Int} {lv : List Int} {ch : Bool} {x : Ltl} (h1 : x.pred.toNat < lv.length) (h2 : pred.toNat < lv.length) : rawStep n fold pred (some (lv, ch)) x =
    if n < lv[x.pred.toNat] + liftS fold x then none else if lv[pred.toNat] < lv[x.pred.toNat] + liftS fold x then some (lv.set pred.toNat (lv[x.pred.toNat] + liftS fold x), true) else some (lv, ch) := by
  simp only [rawStep, rawLit, List.getD, List.getElem?_eq_getElem h1, List.getElem?_eq_getElem h2, Option.getD_some]
  split
  · rfl
  · split <;> rfl
theorem Rs.next {n fold pred : Int} {lv0 lv lv' : List Int} {ch ch' : Bool} {x : Ltl} (h : Rs n lv0 lv ch) (hp : pred.toNat < lv0.length) (hs : rawStep n fold pred (some (lv, ch)) x = some (lv', ch')) : Rs n lv0 lv' ch' := by
  unfold rawStep at hs
  split at hs
  · cases hs
  · rename_i heq
    cases heq
    split at hs
    · cases hs
    · rename_i hl
      have := h.step (fold := fold) hp hl
      injection hs with hs
      rw [hs] at this
      exact this
end Go.Proofs.Ytapciiffpnociaa
