/- Plain words on tokens of a text: no program in sight. Condition: none. -/
import Derived.Test.YtapciiffpnociaaGx
namespace Go.Proofs.Ytapciiffpnociaa

def smallB (c : UInt8) : Bool := decide ((97:Int) ≤ c.toNat) && decide ((c.toNat:Int) ≤ 122)
def greatB (c : UInt8) : Bool := decide ((65:Int) ≤ c.toNat) && decide ((c.toNat:Int) ≤ 90)
def digitB (c : UInt8) : Bool := decide ((48:Int) ≤ c.toNat) && decide ((c.toNat:Int) ≤ 57)
def letterB (c : UInt8) : Bool := smallB c || greatB c
def alnumB (c : UInt8) : Bool := letterB c || digitB c

def takeW (p : UInt8 → Bool) : List UInt8 → Nat
  | [] => 0
  | c :: l => if p c then takeW p l + 1 else 0

theorem takeW_le (p : UInt8 → Bool) : ∀ l, takeW p l ≤ l.length
  | [] => Nat.le_refl _
  | c :: l => by
    unfold takeW
    have := takeW_le p l
    split <;> simp <;> omega

theorem takeW_step (p : UInt8 → Bool) (l : List UInt8) (i : Nat) (h : i < l.length) (hp : p l[i] = true) : takeW p (l.drop i) = takeW p (l.drop (i + 1)) + 1 := by
  rw [List.drop_eq_getElem_cons h, takeW, if_pos hp]
theorem takeW_stop (p : UInt8 → Bool) (l : List UInt8) (i : Nat) (h : i < l.length) (hp : p l[i] = false) : takeW p (l.drop i) = 0 := by
  rw [List.drop_eq_getElem_cons h, takeW, if_neg (by rw [hp]; exact Bool.false_ne_true)]
theorem takeW_end (p : UInt8 → Bool) (l : List UInt8) (i : Nat) (h : l.length ≤ i) : takeW p (l.drop i) = 0 := by
  rw [List.drop_of_length_le h]; rfl

def signs : List UInt8 := [40, 41, 44, 46, 60, 61, 43, 45, 42]

def pairB : List UInt8 → Bool
  | a :: b :: _ => (a == 58 && b == 45) || (a == 60 && b == 61) || (a == 33 && b == 61)
  | _ => false

/-- The token that begins a text: its kind, how long it is; 0: none does. -/
def tokAt : List UInt8 → Int × Nat
  | [] => (0, 0)
  | c :: l => if letterB c then (if smallB c then 1 else 2, 1 + takeW alnumB l)
    else if digitB c then (3, 1 + takeW digitB l)
    else if pairB (c :: l) then (4, 2)
    else if signs.contains c then (4, 1)
    else (0, 0)

structure Tok where
  kind : Int
  at_ : Int
  text : ByteArray

def sameAll {α : Type} (p : α → α → Bool) : List α → List α → Bool
  | [], [] => true
  | x :: xs, y :: ys => p x y && sameAll p xs ys
  | _, _ => false
theorem sameAll_drop {α : Type} (p : α → α → Bool) (xs ys : List α) (k : Nat) (h1 : k < xs.length) (h2 : k < ys.length) :
    sameAll p (xs.drop k) (ys.drop k) = (p xs[k] ys[k] && sameAll p (xs.drop (k + 1)) (ys.drop (k + 1))) := by
  rw [List.drop_eq_getElem_cons h1, List.drop_eq_getElem_cons h2]; rfl
theorem sameAll_end {α : Type} (p : α → α → Bool) (xs ys : List α) (k : Nat) (h1 : xs.length ≤ k) (h2 : ys.length ≤ k) :
    sameAll p (xs.drop k) (ys.drop k) = true := by
  rw [List.drop_of_length_le h1, List.drop_of_length_le h2]; rfl
theorem sameAll_len {α : Type} (p : α → α → Bool) : ∀ (xs ys : List α), xs.length ≠ ys.length → sameAll p xs ys = false
  | [], [], h => absurd rfl h
  | [], _ :: _, _ => rfl
  | _ :: _, [], _ => rfl
  | x :: xs, y :: ys, h => by rw [sameAll, sameAll_len p xs ys (fun e => h (by simp [e])), Bool.and_false]
def Tok.same (at_ : Bool) (x y : Tok) : Bool := decide (x.kind = y.kind) && decide (x.text = y.text) && (!at_ || decide (x.at_ = y.at_))

theorem tokAt_cons (c : UInt8) (l : List UInt8) : tokAt (c :: l) = (if letterB c then (if smallB c then 1 else 2, 1 + takeW alnumB l)
    else if digitB c then (3, 1 + takeW digitB l)
    else if pairB (c :: l) then (4, 2)
    else if signs.contains c then (4, 1)
    else (0, 0)) := rfl
theorem tokAt_le (l : List UInt8) : (tokAt l).2 ≤ l.length := by
  cases l with
  | nil => simp [tokAt]
  | cons c l =>
    have h1 := takeW_le alnumB l
    have h2 := takeW_le digitB l
    rw [tokAt_cons]
    by_cases a : letterB c = true
    · rw [if_pos a]; simp only [List.length_cons]; omega
    · rw [if_neg a]
      by_cases b : digitB c = true
      · rw [if_pos b]; simp only [List.length_cons]; omega
      · rw [if_neg b]
        by_cases d : pairB (c :: l) = true
        · rw [if_pos d]
          cases l with
          | nil => simp [pairB] at d
          | cons b l => simp
        · rw [if_neg d]
          by_cases e : signs.contains c = true
          · rw [if_pos e]; simp
          · rw [if_neg e]; simp
theorem tokAt_pos (l : List UInt8) (h : (tokAt l).1 ≠ 0) : 1 ≤ (tokAt l).2 := by
  cases l with
  | nil => simp [tokAt] at h
  | cons c l =>
    rw [tokAt_cons] at h ⊢
    by_cases a : letterB c = true
    · rw [if_pos a]; simp
    · rw [if_neg a] at h ⊢
      by_cases b : digitB c = true
      · rw [if_pos b]; simp
      · rw [if_neg b] at h ⊢
        by_cases d : pairB (c :: l) = true
        · rw [if_pos d]; simp
        · rw [if_neg d] at h ⊢
          by_cases e : signs.contains c = true
          · rw [if_pos e]; simp
          · rw [if_neg e] at h; simp at h

/-- What is wrong with a token of a kind, so long, that begins with c: 0: nothing. -/
def tokErr (kind : Int) (n : Nat) (c : UInt8) : Int :=
  if kind = 0 then 1
  else if ((kind = 1 ∨ kind = 2) ∧ 12 < n) ∨ (kind = 3 ∧ 7 < n) then 2
  else if kind = 3 ∧ 1 < n ∧ c = 48 then 1
  else 0

/-- The tokens of a text from a place on; or what is wrong, and where. -/
def scanGo (s : ByteArray) : Nat → Bool → Nat → Except (Int × Int) (List Tok)
  | 0, _, _ => .ok []
  | f + 1, note, i =>
    if h : i < s.size then
      if note || s[i] == 37 then scanGo s f (s[i] != 10) (i + 1)
      else if s[i] == 32 || s[i] == 9 || s[i] == 10 then scanGo s f false (i + 1)
      else
        let q := tokAt (s.data.toList.drop i)
        if tokErr q.1 q.2 s[i] = 0 then (scanGo s f false (i + q.2)).map (Tok.mk q.1 i (s.extract i (i + q.2)) :: ·)
        else .error (i, tokErr q.1 q.2 s[i])
    else .ok []

theorem scanGo_fuel (s : ByteArray) : ∀ (f g : Nat) (note : Bool) (i : Nat), s.size - i ≤ f → s.size - i ≤ g → scanGo s f note i = scanGo s g note i := by
  intro f
  induction f with
  | zero =>
    intro g note i h1 h2
    cases g with
    | zero => rfl
    | succ g => simp only [scanGo]; rw [dif_neg (by omega)]
  | succ f ih =>
    intro g note i h1 h2
    cases g with
    | zero => simp only [scanGo]; rw [dif_neg (by omega)]
    | succ g =>
      simp only [scanGo]
      by_cases h : i < s.size
      · rw [dif_pos h, dif_pos h]
        split
        · exact ih g _ _ (by omega) (by omega)
        · split
          · exact ih g _ _ (by omega) (by omega)
          · split
            · rename_i he
              have hk : (tokAt (s.data.toList.drop i)).1 ≠ 0 := fun h0 => by simp [tokErr, h0] at he
              have := tokAt_pos _ hk
              rw [ih g _ _ (by omega) (by omega)]
            · rfl
      · rw [dif_neg h, dif_neg h]

def scanAt (s : ByteArray) (note : Bool) (i : Nat) : Except (Int × Int) (List Tok) := scanGo s (s.size - i) note i

theorem scanAt_end (s : ByteArray) (note : Bool) (i : Nat) (h : s.size ≤ i) : scanAt s note i = .ok [] := by
  unfold scanAt
  rw [show s.size - i = 0 by omega]; rfl
theorem scanAt_note (s : ByteArray) (note : Bool) (i : Nat) (h : i < s.size) (hn : (note || s[i] == 37) = true) : scanAt s note i = scanAt s (s[i] != 10) (i + 1) := by
  unfold scanAt
  rw [show s.size - i = (s.size - (i + 1)) + 1 by omega, scanGo, dif_pos h, if_pos hn]
theorem scanAt_blank (s : ByteArray) (i : Nat) (h : i < s.size) (hn : (s[i] == 37) = false) (hb : (s[i] == 32 || s[i] == 9 || s[i] == 10) = true) : scanAt s false i = scanAt s false (i + 1) := by
  unfold scanAt
  rw [show s.size - i = (s.size - (i + 1)) + 1 by omega, scanGo, dif_pos h, if_neg (by simp [hn]), if_pos hb]
theorem scanAt_err (s : ByteArray) (i : Nat) (h : i < s.size) (hn : (s[i] == 37) = false) (hb : (s[i] == 32 || s[i] == 9 || s[i] == 10) = false) (he : tokErr (tokAt (s.data.toList.drop i)).1 (tokAt (s.data.toList.drop i)).2 s[i] ≠ 0) :
    scanAt s false i = .error (i, tokErr (tokAt (s.data.toList.drop i)).1 (tokAt (s.data.toList.drop i)).2 s[i]) := by
  unfold scanAt
  rw [show s.size - i = (s.size - (i + 1)) + 1 by omega, scanGo, dif_pos h, if_neg (by simp [hn]), if_neg (by simp [hb])]
  exact if_neg he
theorem scanAt_tok (s : ByteArray) (i : Nat) (h : i < s.size) (hn : (s[i] == 37) = false) (hb : (s[i] == 32 || s[i] == 9 || s[i] == 10) = false) (he : tokErr (tokAt (s.data.toList.drop i)).1 (tokAt (s.data.toList.drop i)).2 s[i] = 0) :
    scanAt s false i = (scanAt s false (i + (tokAt (s.data.toList.drop i)).2)).map (Tok.mk (tokAt (s.data.toList.drop i)).1 i (s.extract i (i + (tokAt (s.data.toList.drop i)).2)) :: ·) := by
  have hk : (tokAt (s.data.toList.drop i)).1 ≠ 0 := fun h0 => by simp [tokErr, h0] at he
  have := tokAt_pos _ hk
  unfold scanAt
  rw [scanGo_fuel s (s.size - i) ((s.size - (i + 1)) + 1) false i (Nat.le_refl _) (by omega)]
  rw [scanGo, dif_pos h, if_neg (by simp [hn]), if_neg (by simp [hb])]
  show (if _ then _ else _) = _
  rw [if_pos he, scanGo_fuel s (s.size - (i + 1)) (s.size - (i + (tokAt (s.data.toList.drop i)).2)) false _ (by omega) (Nat.le_refl _)]

/-- What Scan answers. -/
def scanS (s : ByteArray) : List Tok × Int × Int :=
  if 5000 < s.size then ([], 0, 2) else match scanAt s false 0 with
    | .ok l => (l, 0, 0)
    | .error (p, e) => ([], p, e)

attribute [irreducible] smallB greatB digitB letterB alnumB pairB takeW tokAt tokErr scanGo scanAt scanS sameAll Tok.same
end Go.Proofs.Ytapciiffpnociaa
