/- Plain words on updates, their order, their bytes: no program in sight. Condition: none. -/
import Derived.Test.YtapciiffpnociaaGx
namespace Go.Proofs.Ytapciiffpnociaa

structure UId where
  author : Int
  number : Int
structure Fct where
  pred : Int
  args : List Int
structure Upd where
  id : UId
  parents : List UId
  says : List Fct
  takes : List UId

def cmpI (a b : Int) : Int := if a < b then -1 else if b < a then 1 else 0
def ordId (a b : UId) : Int := if cmpI a.author b.author = 0 then cmpI a.number b.number else cmpI a.author b.author
/-- Lists of numbers, in order: the shorter one first. -/
def ordL : List Int → List Int → Int
  | [], [] => 0
  | [], _ :: _ => -1
  | _ :: _, [] => 1
  | a :: l, b :: m => if cmpI a b = 0 then ordL l m else cmpI a b
def ordF (a b : Fct) : Int := if cmpI a.pred b.pred = 0 then ordL a.args b.args else cmpI a.pred b.pred

def rises {α : Type} (o : α → α → Int) : List α → Bool
  | a :: b :: l => decide (o a b < 0) && rises o (b :: l)
  | _ => true

def inR (n a b : Int) : Bool := decide (a ≤ n) && decide (n ≤ b)
def numB (n : Int) : Bool := inR n (-1000000) 1000000
def idB (i : UId) : Bool := inR i.author 0 5 && inR i.number 1 200
def UId.same (a b : UId) : Bool := decide (a.author = b.author) && decide (a.number = b.number)
def saysB (f : Fct) : Bool := inR f.pred 0 9 && (decide (f.args.length ≤ 3) && f.args.all numB)

/-- What is wrong with an update: 0: nothing. -/
def checkU (u : Upd) : Int :=
  if idB u.id = false then 3
  else if 6 < u.parents.length ∨ 6 < u.says.length ∨ 6 < u.takes.length then 2
  else if u.parents.all idB = false ∨ u.takes.all idB = false then 3
  else if rises ordId u.parents = false ∨ rises ordId u.takes = false then 4
  else if 1 < u.id.number ∧ (u.parents.any fun i => i.same ⟨u.id.author, u.id.number - 1⟩) = false then 5
  else if u.says.all saysB = false then 3
  else if rises ordF u.says = false then 4
  else 0

/-- Bytes of a number, the lowest first. -/
def putN (n : Nat) : Nat → List UInt8
  | 0 => []
  | k + 1 => UInt8.ofNat n :: putN (n / 256) k
def put (n : Int) (k : Nat) : List UInt8 := putN (n % 4294967296).toNat k
def putId (i : UId) : List UInt8 := put i.author 1 ++ put i.number 2
def putIds (l : List UId) : List UInt8 := put l.length 1 ++ l.flatMap putId
def putFact (f : Fct) : List UInt8 := put f.pred 1 ++ put f.args.length 1 ++ f.args.flatMap fun n => put n 4
def encodeU (u : Upd) : List UInt8 := putId u.id ++ putIds u.parents ++ put u.says.length 1 ++ u.says.flatMap putFact ++ putIds u.takes

/-- A number of bytes, the lowest first. -/
def leN : List UInt8 → Nat
  | [] => 0
  | b :: l => b.toNat + 256 * leN l
/-- .. with a sign, if it has four bytes. -/
def sgn (n : Nat) : Int := if 2147483647 < n then (n : Int) - 4294967296 else n
/-- What is left of the bytes; none: there were too few. -/
abbrev Rd := Option (List UInt8)
def tk (k : Nat) : Rd → Int × Rd
  | none => (0, none)
  | some l => if l.length < k then (0, none) else (sgn (leN (l.take k)), some (l.drop k))
theorem tk_eq (k : Nat) (l : List UInt8) : tk k (some l) = if l.length < k then (0, none) else (sgn (leN (l.take k)), some (l.drop k)) := rfl
def rdId (r : Rd) : UId × Rd := (⟨(tk 1 r).1, (tk 2 (tk 1 r).2).1⟩, (tk 2 (tk 1 r).2).2)
/-- As often as is told, while there are bytes. -/
def rdMany {α : Type} (f : Rd → α × Rd) : Nat → Rd → List α × Rd
  | 0, r => ([], r)
  | _ + 1, none => ([], none)
  | n + 1, some l => ((f (some l)).1 :: (rdMany f n (f (some l)).2).1, (rdMany f n (f (some l)).2).2)
def rdList {α : Type} (f : Rd → α × Rd) (r : Rd) : List α × Rd := rdMany f (tk 1 r).1.toNat (tk 1 r).2
def rdFact (r : Rd) : Fct × Rd := (⟨(tk 1 r).1, (rdList (tk 4) (tk 1 r).2).1⟩, (rdList (tk 4) (tk 1 r).2).2)
def rdUpd (r : Rd) : Upd × Rd :=
  let a := rdId r
  let b := rdList rdId a.2
  let c := rdList rdFact b.2
  let d := rdList rdId c.2
  (⟨a.1, b.1, c.1, d.1⟩, d.2)
def noUpd : Upd := ⟨⟨0, 0⟩, [], [], []⟩
def decodeU (s : List UInt8) : Upd × Int :=
  match rdUpd (some s) with
  | (u, some []) => if checkU u = 0 then (u, 0) else (noUpd, checkU u)
  | _ => (noUpd, 1)

def sameL {α : Type} (p : α → α → Bool) : List α → List α → Bool
  | [], [] => true
  | x :: xs, y :: ys => p x y && sameL p xs ys
  | _, _ => false
def Fct.same (x y : Fct) : Bool := decide (ordF x y = 0)
def Upd.same (a b : Upd) : Bool := a.id.same b.id && (sameL UId.same a.parents b.parents && (sameL Fct.same a.says b.says && sameL UId.same a.takes b.takes))

theorem cmpI_self (a : Int) : cmpI a a = 0 := by unfold cmpI; rw [if_neg (by omega), if_neg (by omega)]
theorem cmpI_zero {a b : Int} (h : cmpI a b = 0) : a = b := by
  unfold cmpI at h
  split at h
  · cases h
  · split at h
    · cases h
    · omega
theorem ordL_self : ∀ l : List Int, ordL l l = 0
  | [] => rfl
  | a :: l => by unfold ordL; rw [if_pos (cmpI_self a)]; exact ordL_self l
theorem ordF_self (f : Fct) : ordF f f = 0 := by unfold ordF; rw [if_pos (cmpI_self _)]; exact ordL_self _
theorem sameL_refl {α : Type} {p : α → α → Bool} (hp : ∀ x, p x x = true) : ∀ l, sameL p l l = true
  | [] => rfl
  | x :: l => by unfold sameL; rw [hp x, sameL_refl hp l]; rfl
theorem UId.same_refl (a : UId) : a.same a = true := by unfold UId.same; simp
theorem Upd.same_refl (u : Upd) : u.same u = true := by
  unfold Upd.same
  rw [UId.same_refl, sameL_refl UId.same_refl, sameL_refl UId.same_refl, sameL_refl fun x => by unfold Fct.same; simp [ordF_self]]
  rfl

theorem sameL_drop {α : Type} (p : α → α → Bool) (xs ys : List α) (k : Nat) (h1 : k < xs.length) (h2 : k < ys.length) :
    sameL p (xs.drop k) (ys.drop k) = (p xs[k] ys[k] && sameL p (xs.drop (k + 1)) (ys.drop (k + 1))) := by
  rw [List.drop_eq_getElem_cons h1, List.drop_eq_getElem_cons h2]; rfl
theorem sameL_end {α : Type} (p : α → α → Bool) (xs ys : List α) (k : Nat) (h1 : xs.length ≤ k) (h2 : ys.length ≤ k) :
    sameL p (xs.drop k) (ys.drop k) = true := by
  rw [List.drop_of_length_le h1, List.drop_of_length_le h2]; rfl
theorem sameL_len {α : Type} (p : α → α → Bool) : ∀ (xs ys : List α), xs.length ≠ ys.length → sameL p xs ys = false
  | [], [], h => absurd rfl h
  | [], _ :: _, _ => rfl
  | _ :: _, [], _ => rfl
  | x :: xs, y :: ys, h => by rw [sameL, sameL_len p xs ys (fun e => h (by simp [e])), Bool.and_false]

/-! Decoding what was encoded. -/
theorem putN_len : ∀ (k n : Nat), (putN n k).length = k
  | 0, _ => rfl
  | k + 1, n => by simp [putN, putN_len k]
theorem leN_put : ∀ (k n : Nat), leN (putN n k) = n % 256 ^ k
  | 0, n => by simp [putN, leN, Nat.mod_one]
  | k + 1, n => by
    have e : (UInt8.ofNat n).toNat = n % 256 := by simp
    simp only [putN, leN, leN_put k, e]
    rw [Nat.pow_succ, Nat.mul_comm (256 ^ k) 256, Nat.mod_mul]
theorem tk_put (k : Nat) (n : Int) (r : List UInt8) : tk k (some (put n k ++ r)) = (sgn ((n % 4294967296).toNat % 256 ^ k), some r) := by
  have hl : (put n k).length = k := putN_len k _
  rw [tk_eq, if_neg (by rw [List.length_append, hl]; omega), List.take_append_of_le_length (by omega), List.take_of_length_le (by omega), List.drop_append_of_le_length (by omega), List.drop_of_length_le (by omega)]
  unfold put
  rw [leN_put]
  rfl
theorem tk1 (n : Int) (r : List UInt8) (h0 : 0 ≤ n) (h1 : n < 256) : tk 1 (some (put n 1 ++ r)) = (n, some r) := by
  rw [tk_put]
  have : ((n % 4294967296).toNat % 256 ^ 1 : Nat) = n.toNat := by omega
  rw [this]
  unfold sgn
  rw [if_neg (by omega), Int.toNat_of_nonneg h0]
theorem tk2 (n : Int) (r : List UInt8) (h0 : 0 ≤ n) (h1 : n < 65536) : tk 2 (some (put n 2 ++ r)) = (n, some r) := by
  rw [tk_put]
  have : ((n % 4294967296).toNat % 256 ^ 2 : Nat) = n.toNat := by omega
  rw [this]
  unfold sgn
  rw [if_neg (by omega), Int.toNat_of_nonneg h0]
theorem tk4 (n : Int) (r : List UInt8) (h : numB n = true) : tk 4 (some (put n 4 ++ r)) = (n, some r) := by
  rw [tk_put]
  unfold numB inR at h
  simp only [Bool.and_eq_true, decide_eq_true_eq] at h
  have : (((n % 4294967296).toNat % 256 ^ 4 : Nat) : Int) = n % 4294967296 := by omega
  unfold sgn
  congr 1
  split <;> omega
theorem rdMany_put {α : Type} {f : Rd → α × Rd} {p : α → List UInt8} {ok : α → Bool} (h : ∀ x r, ok x = true → f (some (p x ++ r)) = (x, some r)) : ∀ (l : List α) (r : List UInt8), l.all ok = true → rdMany f l.length (some (l.flatMap p ++ r)) = (l, some r)
  | [], r, _ => rfl
  | x :: l, r, hl => by
    simp only [List.all_cons, Bool.and_eq_true] at hl
    simp only [List.flatMap_cons, List.append_assoc, List.length_cons, rdMany]
    rw [h x _ hl.1]
    dsimp only
    rw [rdMany_put h l r hl.2]
theorem rdList_put {α : Type} {f : Rd → α × Rd} {p : α → List UInt8} {ok : α → Bool} (h : ∀ x r, ok x = true → f (some (p x ++ r)) = (x, some r)) (l : List α) (r : List UInt8) (hl : l.all ok = true) (hn : l.length < 256) :
    rdList f (some (put l.length 1 ++ l.flatMap p ++ r)) = (l, some r) := by
  unfold rdList
  rw [List.append_assoc, tk1 _ _ (by omega) (by omega)]
  dsimp only
  rw [Int.toNat_natCast]
  exact rdMany_put h l r hl
theorem idB_parts {i : UId} (h : idB i = true) : 0 ≤ i.author ∧ i.author ≤ 5 ∧ 1 ≤ i.number ∧ i.number ≤ 200 := by
  unfold idB inR at h
  simp only [Bool.and_eq_true, decide_eq_true_eq] at h
  omega
theorem rdId_put (i : UId) (r : List UInt8) (h : idB i = true) : rdId (some (putId i ++ r)) = (i, some r) := by
  obtain ⟨h1, h2, h3, h4⟩ := idB_parts h
  unfold rdId putId
  rw [List.append_assoc, tk1 _ _ h1 (by omega)]
  dsimp only
  rw [tk2 _ _ (by omega) (by omega)]
theorem saysB_parts {f : Fct} (h : saysB f = true) : 0 ≤ f.pred ∧ f.pred ≤ 9 ∧ f.args.length ≤ 3 ∧ f.args.all numB = true := by
  unfold saysB inR at h
  simp only [Bool.and_eq_true, decide_eq_true_eq] at h
  exact ⟨h.1.1, h.1.2, h.2.1, h.2.2⟩
theorem rdFact_put (f : Fct) (r : List UInt8) (h : saysB f = true) : rdFact (some (putFact f ++ r)) = (f, some r) := by
  obtain ⟨h1, h2, h3, h4⟩ := saysB_parts h
  unfold rdFact putFact
  have e : put f.pred 1 ++ put f.args.length 1 ++ (f.args.flatMap fun n => put n 4) ++ r = put f.pred 1 ++ (put f.args.length 1 ++ (f.args.flatMap fun n => put n 4) ++ r) := by simp
  rw [e, tk1 _ _ h1 (by omega)]
  dsimp only
  rw [rdList_put (f := tk 4) (p := fun n => put n 4) (ok := numB) (fun x r hx => tk4 x r hx) f.args r h4 (by omega)]

structure GoodU (u : Upd) : Prop where
  id : idB u.id = true
  np : u.parents.length ≤ 6
  ns : u.says.length ≤ 6
  nt : u.takes.length ≤ 6
  parents : u.parents.all idB = true
  takes : u.takes.all idB = true
  says : u.says.all saysB = true

theorem checkU_good {u : Upd} (h : checkU u = 0) : GoodU u := by
  unfold checkU at h
  split at h
  · cases h
  split at h
  · cases h
  split at h
  · cases h
  split at h
  · cases h
  split at h
  · cases h
  split at h
  · cases h
  rename_i h1 h2 h3 h4 h5 h6
  simp only [Bool.not_eq_false, not_or] at h1 h2 h3 h6
  exact ⟨h1, by omega, by omega, by omega, h3.1, h3.2, h6⟩

theorem decode_encode {u : Upd} (h : checkU u = 0) : decodeU (encodeU u) = (u, 0) := by
  have g := checkU_good h
  have hr : rdUpd (some (encodeU u)) = (u, some []) := by
    have e : encodeU u = putId u.id ++ (put u.parents.length 1 ++ u.parents.flatMap putId ++ (put u.says.length 1 ++ u.says.flatMap putFact ++ (put u.takes.length 1 ++ u.takes.flatMap putId ++ []))) := by
      unfold encodeU putIds; simp
    unfold rdUpd
    rw [e, rdId_put _ _ g.id]
    dsimp only
    rw [rdList_put (fun x r hx => rdId_put x r hx) u.parents _ g.parents (by have := g.np; omega)]
    dsimp only
    rw [rdList_put (fun x r hx => rdFact_put x r hx) u.says _ g.says (by have := g.ns; omega)]
    dsimp only
    rw [rdList_put (fun x r hx => rdId_put x r hx) u.takes _ g.takes (by have := g.nt; omega)]
  unfold decodeU
  rw [hr]
  dsimp only
  rw [if_pos h]

/-! Encoding what was decoded. -/
theorem putN_le : ∀ (l : List UInt8) (n : Nat), n % 256 ^ l.length = leN l → putN n l.length = l
  | [], _, _ => rfl
  | b :: l, n, h => by
    simp only [List.length_cons, putN, leN] at h ⊢
    have hb := b.toNat_lt
    rw [Nat.pow_succ, Nat.mul_comm (256 ^ l.length) 256, Nat.mod_mul] at h
    have h1 : n % 256 = b.toNat := by omega
    have h2 : n / 256 % 256 ^ l.length = leN l := by omega
    rw [putN_le l (n / 256) h2]
    congr 1
    exact UInt8.toNat_inj.1 (by simp [h1])
theorem leN_lt : ∀ l : List UInt8, leN l < 256 ^ l.length
  | [] => by simp [leN]
  | b :: l => by
    have hb := b.toNat_lt
    have := leN_lt l
    simp only [leN, List.length_cons, Nat.pow_succ]
    omega
theorem put_tk {k : Nat} {l r : List UInt8} {n : Int} (hk : k = 1 ∨ k = 2 ∨ k = 4) (h : tk k (some l) = (n, some r)) : l = put n k ++ r := by
  rw [tk_eq] at h
  split at h
  · cases h
  · rename_i hl
    injection h with h1 h2
    injection h2 with h2
    have hlen : (l.take k).length = k := by rw [List.length_take]; omega
    have hlt := leN_lt (l.take k)
    have hput : put n k = l.take k := by
      unfold put
      have := putN_le (l.take k) (n % 4294967296).toNat ?_
      · rw [hlen] at this; exact this
      · rw [hlen] at hlt ⊢
        rw [← h1]
        unfold sgn
        rcases hk with rfl | rfl | rfl <;> (simp only [Nat.reducePow] at hlt ⊢; split <;> omega)
    rw [hput, ← h2, List.take_append_drop]
theorem tk_none {k : Nat} : tk k none = (0, none) := rfl
theorem tk_some {k : Nat} {r : Rd} {n : Int} {q : List UInt8} (h : tk k r = (n, some q)) : ∃ l, r = some l := by
  cases r with
  | none => rw [tk_none] at h; cases h
  | some l => exact ⟨l, rfl⟩
theorem rdId_get {r : Rd} {i : UId} {q : List UInt8} (h : rdId r = (i, some q)) : ∃ l, r = some l ∧ l = putId i ++ q := by
  unfold rdId at h
  cases h1 : tk 1 r with
  | mk a r1 =>
    rw [h1] at h
    dsimp only at h
    cases h2 : tk 2 r1 with
    | mk n r2 =>
      rw [h2] at h
      dsimp only at h
      injection h with e1 e2
      subst e2
      obtain ⟨l1, rfl⟩ := tk_some h2
      obtain ⟨l, rfl⟩ := tk_some h1
      have p1 := put_tk (.inl rfl) h1
      have p2 := put_tk (.inr (.inl rfl)) h2
      refine ⟨l, rfl, ?_⟩
      rw [← e1, putId, p1, p2]
      simp
theorem rdMany_get {α : Type} {f : Rd → α × Rd} {p : α → List UInt8} (h : ∀ r x q, f r = (x, some q) → ∃ l, r = some l ∧ l = p x ++ q) : ∀ (n : Nat) (r : Rd) (l : List α) (q : List UInt8), rdMany f n r = (l, some q) → ∃ m, r = some m ∧ m = l.flatMap p ++ q ∧ l.length = n
  | 0, r, l, q, e => by
    simp only [rdMany] at e
    injection e with e1 e2
    subst e1; subst e2
    exact ⟨q, rfl, by simp, rfl⟩
  | n + 1, none, l, q, e => by simp [rdMany] at e
  | n + 1, some m, l, q, e => by
    simp only [rdMany] at e
    cases h1 : f (some m) with
    | mk x r1 =>
      rw [h1] at e
      dsimp only at e
      cases h2 : rdMany f n r1 with
      | mk l2 r2 =>
        rw [h2] at e
        dsimp only at e
        injection e with e1 e2
        subst e1; subst e2
        obtain ⟨m1, rfl, g1, g2⟩ := rdMany_get h n r1 l2 q h2
        obtain ⟨m2, g3, g4⟩ := h _ _ _ h1
        injection g3 with g3
        subst g3
        refine ⟨m, rfl, ?_, by simp [g2]⟩
        rw [g4, g1]
        simp
theorem tk1_range {r : Rd} {n : Int} {q : List UInt8} (h : tk 1 r = (n, some q)) : 0 ≤ n ∧ n < 256 := by
  obtain ⟨l, rfl⟩ := tk_some h
  rw [tk_eq] at h
  split at h
  · cases h
  · injection h with h1 h2
    have hlt := leN_lt (l.take 1)
    rw [List.length_take] at hlt
    have : min 1 l.length = 1 := by omega
    rw [this] at hlt
    rw [← h1]
    unfold sgn
    split <;> omega
theorem rdList_get {α : Type} {f : Rd → α × Rd} {p : α → List UInt8} (h : ∀ r x q, f r = (x, some q) → ∃ l, r = some l ∧ l = p x ++ q) {r : Rd} {l : List α} {q : List UInt8} (e : rdList f r = (l, some q)) :
    ∃ m, r = some m ∧ m = put l.length 1 ++ l.flatMap p ++ q := by
  unfold rdList at e
  cases h1 : tk 1 r with
  | mk n r1 =>
    rw [h1] at e
    dsimp only at e
    obtain ⟨m1, rfl, g1, g2⟩ := rdMany_get h _ _ _ _ e
    have hr := tk1_range h1
    obtain ⟨m, rfl⟩ := tk_some h1
    have p1 := put_tk (.inl rfl) h1
    refine ⟨m, rfl, ?_⟩
    rw [p1, g1, g2, Int.toNat_of_nonneg hr.1]
    simp
theorem rdFact_get {r : Rd} {f : Fct} {q : List UInt8} (h : rdFact r = (f, some q)) : ∃ l, r = some l ∧ l = putFact f ++ q := by
  unfold rdFact at h
  cases h1 : tk 1 r with
  | mk a r1 =>
    rw [h1] at h
    dsimp only at h
    cases h2 : rdList (tk 4) r1 with
    | mk l r2 =>
      rw [h2] at h
      dsimp only at h
      injection h with e1 e2
      subst e2
      obtain ⟨m1, rfl, g1⟩ := rdList_get (p := fun n => put n 4) (fun r x q hx => by
        obtain ⟨l, rfl⟩ := tk_some hx
        exact ⟨l, rfl, put_tk (.inr (.inr rfl)) hx⟩) h2
      obtain ⟨m, rfl⟩ := tk_some h1
      have p1 := put_tk (.inl rfl) h1
      refine ⟨m, rfl, ?_⟩
      rw [← e1, putFact, p1, g1]
      simp
theorem encode_decode {s : List UInt8} {u : Upd} (h : decodeU s = (u, 0)) : checkU u = 0 ∧ encodeU u = s := by
  unfold decodeU at h
  split at h
  · rename_i u' hr
    split at h
    · rename_i hc
      injection h with h1 h2
      subst h1
      refine ⟨hc, ?_⟩
      unfold rdUpd at hr
      cases h1 : rdId (some s) with
      | mk a r1 =>
        rw [h1] at hr
        dsimp only at hr
        cases h2 : rdList rdId r1 with
        | mk b r2 =>
          rw [h2] at hr
          dsimp only at hr
          cases h3 : rdList rdFact r2 with
          | mk c r3 =>
            rw [h3] at hr
            dsimp only at hr
            cases h4 : rdList rdId r3 with
            | mk d r4 =>
              rw [h4] at hr
              dsimp only at hr
              injection hr with e1 e2
              subst e2
              obtain ⟨m3, rfl, g4⟩ := rdList_get (fun _ _ _ hx => rdId_get hx) h4
              obtain ⟨m2, rfl, g3⟩ := rdList_get (fun _ _ _ hx => rdFact_get hx) h3
              obtain ⟨m1, rfl, g2⟩ := rdList_get (fun _ _ _ hx => rdId_get hx) h2
              obtain ⟨m0, g0, g1⟩ := rdId_get h1
              injection g0 with g0
              rw [g0, g1, g2, g3, g4, ← e1]
              unfold encodeU putIds
              simp
    · rename_i hc
      injection h with h1 h2
      exact absurd h2 hc
  · injection h with h1 h2
    cases h2
theorem decode_none {s : List UInt8} {u : Upd} {e : Int} (h : decodeU s = (u, e)) (he : e ≠ 0) : u = noUpd := by
  unfold decodeU at h
  split at h
  · split at h
    · injection h with h1 h2; exact absurd h2.symm he
    · injection h with h1 h2; exact h1.symm
  · injection h with h1 h2; exact h1.symm
end Go.Proofs.Ytapciiffpnociaa
