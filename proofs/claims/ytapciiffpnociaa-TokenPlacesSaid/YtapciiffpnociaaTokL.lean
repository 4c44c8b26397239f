/- Plain laws on tokens: what is scanned is a token by itself; what is joined is scanned as it was. Condition: none. -/
import Derived.Test.YtapciiffpnociaaTokK
namespace Go.Proofs.Ytapciiffpnociaa
open Go Go.RowKit

theorem takeW_full (p : UInt8 → Bool) (x : UInt8) (r : List UInt8) (hx : p x = false) : ∀ l, takeW p l = l.length → takeW p (l ++ x :: r) = l.length
  | [], _ => by unfold takeW; simp [hx]
  | c :: l, h => by
    unfold takeW at h
    by_cases hc : p c = true
    · rw [if_pos hc] at h
      have := takeW_full p x r hx l (by simpa using h)
      rw [List.cons_append, takeW, if_pos hc, this]; rfl
    · rw [if_neg hc] at h; simp at h

theorem takeW_take (p : UInt8 → Bool) : ∀ l, takeW p (l.take (takeW p l)) = takeW p l
  | [] => by rw [List.take_nil]
  | c :: l => by
    by_cases hc : p c = true
    · have e : takeW p (c :: l) = takeW p l + 1 := by rw [takeW, if_pos hc]
      rw [e, List.take_succ_cons, takeW, if_pos hc, takeW_take p l]
    · have e : takeW p (c :: l) = 0 := by rw [takeW, if_neg hc]
      rw [e]; unfold takeW; rfl

theorem alnum32 : alnumB 32 = false := by unfold alnumB letterB smallB greatB digitB; decide
theorem digit32 : digitB 32 = false := by unfold digitB; decide
theorem pairB_cons2 (a b : UInt8) (r r' : List UInt8) : pairB (a :: b :: r) = pairB (a :: b :: r') := by unfold pairB; rfl
theorem pairB_one (a : UInt8) : pairB [a] = false := by unfold pairB; rfl
theorem pairB_32 (a : UInt8) (r : List UInt8) : pairB (a :: 32 :: r) = false := by
  unfold pairB
  simp

theorem tokAt_app (u : List UInt8) (k : Int) (hu : u ≠ []) (h : tokAt u = (k, u.length)) (r : List UInt8) : tokAt (u ++ 32 :: r) = (k, u.length) := by
  cases u with
  | nil => exact absurd rfl hu
  | cons c l =>
    rw [List.cons_append]
    rw [tokAt_cons] at h ⊢
    by_cases a : letterB c = true
    · rw [if_pos a] at h ⊢
      injection h with h1 h2
      rw [h1, takeW_full alnumB 32 r alnum32 l (by simp only [List.length_cons] at h2; omega)]
      simp only [List.length_cons]; rw [Nat.add_comm]
    · rw [if_neg a] at h ⊢
      by_cases b : digitB c = true
      · rw [if_pos b] at h ⊢
        injection h with h1 h2
        rw [h1, takeW_full digitB 32 r digit32 l (by simp only [List.length_cons] at h2; omega)]
        simp only [List.length_cons]; rw [Nat.add_comm]
      · rw [if_neg b] at h ⊢
        by_cases d : pairB (c :: l) = true
        · rw [if_pos d] at h
          injection h with h1 h2
          match l, h2, d with
          | [b'], h2, d =>
            rw [List.singleton_append, pairB_cons2 c b' (32 :: r) [], if_pos d, h1]
            rfl
        · rw [if_neg d] at h
          by_cases e : signs.contains c = true
          · rw [if_pos e] at h
            injection h with h1 h2
            match l, h2 with
            | [], _ =>
              rw [List.nil_append, if_neg (by rw [pairB_32]; exact Bool.false_ne_true), if_pos e, h1]
              rfl
          · rw [if_neg e] at h
            injection h with h1 h2
            simp at h2

theorem tokAt_take (w : List UInt8) (k : Int) (n : Nat) (h : tokAt w = (k, n)) (hk : k ≠ 0) : tokAt (w.take n) = (k, n) := by
  cases w with
  | nil =>
    unfold tokAt at h
    injection h with h1 h2
    exact absurd h1.symm hk
  | cons c l =>
    rw [tokAt_cons] at h
    by_cases a : letterB c = true
    · rw [if_pos a] at h
      injection h with h1 h2
      subst h2
      rw [Nat.add_comm, List.take_succ_cons, tokAt_cons, if_pos a, takeW_take, h1, Nat.add_comm]
    · rw [if_neg a] at h
      by_cases b : digitB c = true
      · rw [if_pos b] at h
        injection h with h1 h2
        subst h2
        rw [Nat.add_comm, List.take_succ_cons, tokAt_cons, if_neg a, if_pos b, takeW_take, h1, Nat.add_comm]
      · rw [if_neg b] at h
        by_cases d : pairB (c :: l) = true
        · rw [if_pos d] at h
          injection h with h1 h2
          subst h2
          match l, d with
          | [], d => rw [pairB_one] at d; exact absurd d Bool.false_ne_true
          | b' :: l, d =>
            show tokAt [c, b'] = _
            rw [tokAt_cons, if_neg a, if_neg b, pairB_cons2 c b' [] l, if_pos d, h1]
        · rw [if_neg d] at h
          by_cases e : signs.contains c = true
          · rw [if_pos e] at h
            injection h with h1 h2
            subst h2
            show tokAt [c] = _
            rw [tokAt_cons, if_neg a, if_neg b, if_neg (by rw [pairB_one]; exact Bool.false_ne_true), if_pos e, h1]
          · rw [if_neg e] at h
            injection h with h1 h2
            exact absurd h1.symm hk

theorem tokAt_37 (l : List UInt8) : (tokAt (37 :: l)).1 = 0 := by
  rw [tokAt_cons, if_neg (by unfold letterB smallB greatB; decide), if_neg (by unfold digitB; decide), if_neg (by unfold pairB; cases l <;> simp), if_neg (by decide)]
theorem tokAt_32 (l : List UInt8) : (tokAt (32 :: l)).1 = 0 := by
  rw [tokAt_cons, if_neg (by unfold letterB smallB greatB; decide), if_neg (by unfold digitB; decide), if_neg (by unfold pairB; cases l <;> simp), if_neg (by decide)]
theorem tokAt_9 (l : List UInt8) : (tokAt (9 :: l)).1 = 0 := by
  rw [tokAt_cons, if_neg (by unfold letterB smallB greatB; decide), if_neg (by unfold digitB; decide), if_neg (by unfold pairB; cases l <;> simp), if_neg (by decide)]
theorem tokAt_10 (l : List UInt8) : (tokAt (10 :: l)).1 = 0 := by
  rw [tokAt_cons, if_neg (by unfold letterB smallB greatB; decide), if_neg (by unfold digitB; decide), if_neg (by unfold pairB; cases l <;> simp), if_neg (by decide)]

theorem tokErr_kind {k : Int} {n : Nat} {c : UInt8} (h : tokErr k n c = 0) : k ≠ 0 := by
  intro hk
  rw [tokErr_eq, if_pos hk] at h
  cases h

theorem drop_byte (s : ByteArray) (i : Nat) (h : i < s.size) : s.data.toList.drop i = s[i] :: s.data.toList.drop (i + 1) := by
  rw [List.drop_eq_getElem_cons (by simpa using h)]; rfl

theorem ext_list (s : ByteArray) (i n : Nat) : (s.extract i (i + n)).data.toList = (s.data.toList.drop i).take n := by
  simp [ByteArray.data_extract, Array.toList_extract, List.extract_eq_take_drop]

theorem bytes_inj {a b : ByteArray} (h : a.data.toList = b.data.toList) : a = b := ByteArray.ext (Array.ext' h)

/-- One token, then on. -/
theorem scan_one (s : ByteArray) (i : Nat) (k : Int) (n : Nat) (h : i < s.size) (ht : tokAt (s.data.toList.drop i) = (k, n)) (he : tokErr k n s[i] = 0) :
    scanAt s false i = (scanAt s false (i + n)).map (Tok.mk k i (s.extract i (i + n)) :: ·) := by
  have hk := tokErr_kind he
  have hd := drop_byte s i h
  have hb : ∀ c : UInt8, (∀ l, (tokAt (c :: l)).1 = 0) → s[i] ≠ c := by
    intro c hc e
    rw [hd, e] at ht
    have := hc (s.data.toList.drop (i + 1))
    rw [ht] at this
    exact hk this
  have h37 := hb 37 tokAt_37
  have h32 := hb 32 tokAt_32
  have h9 := hb 9 tokAt_9
  have h10 := hb 10 tokAt_10
  have := scanAt_tok s i h (by simpa using h37) (by simp [h32, h9, h10]) (by rw [ht]; exact he)
  rw [ht] at this
  exact this

/-- Tokens that stand in a text, each behind the last. -/
def Chain (s : ByteArray) : Nat → List Tok → Prop
  | _, [] => True
  | i, t :: l => ∃ j, i ≤ j ∧ t.at_ = j ∧ (∃ h : j < s.size, tokAt (s.data.toList.drop j) = (t.kind, t.text.size) ∧ tokErr t.kind t.text.size s[j] = 0) ∧ j + t.text.size ≤ s.size ∧ t.text = s.extract j (j + t.text.size) ∧ Chain s (j + t.text.size) l

theorem Chain.mono {s : ByteArray} {i i' : Nat} {l : List Tok} (h : Chain s i' l) (hi : i ≤ i') : Chain s i l := by
  cases l with
  | nil => trivial
  | cons t l =>
    obtain ⟨j, h1, h2⟩ := h
    exact ⟨j, Nat.le_trans hi h1, h2⟩

theorem scanGo_chain (s : ByteArray) : ∀ (f : Nat) (note : Bool) (i : Nat) (l : List Tok), scanGo s f note i = .ok l → Chain s i l := by
  intro f
  induction f with
  | zero =>
    intro note i l h
    simp only [scanGo] at h
    cases h
    trivial
  | succ f ih =>
    intro note i l h
    simp only [scanGo] at h
    by_cases hi : i < s.size
    · rw [dif_pos hi] at h
      split at h
      · exact (ih _ _ _ h).mono (by omega)
      · split at h
        · exact (ih _ _ _ h).mono (by omega)
        · split at h
          · rename_i he
            cases hr : scanGo s f false (i + (tokAt (s.data.toList.drop i)).2) with
            | error e => rw [hr] at h; cases h
            | ok l' =>
              rw [hr] at h
              cases h
              have hle := tokAt_le (s.data.toList.drop i)
              rw [List.length_drop, show s.data.toList.length = s.size from Array.length_toList] at hle
              have hsz : (s.extract i (i + (tokAt (s.data.toList.drop i)).2)).size = (tokAt (s.data.toList.drop i)).2 := by rw [ByteArray.size_extract]; omega
              exact ⟨i, Nat.le_refl _, rfl, ⟨hi, by rw [hsz], by rw [hsz]; exact he⟩, by rw [hsz]; omega, by rw [hsz], by rw [hsz]; exact ih _ _ _ hr⟩
          · cases h
    · rw [dif_neg hi] at h
      cases h
      trivial

theorem scanGo_err (s : ByteArray) : ∀ (f : Nat) (note : Bool) (i : Nat) (p e : Int), scanGo s f note i = .error (p, e) → e ≠ 0 := by
  intro f
  induction f with
  | zero =>
    intro note i p e h
    simp only [scanGo] at h
    cases h
  | succ f ih =>
    intro note i p e h
    simp only [scanGo] at h
    by_cases hi : i < s.size
    · rw [dif_pos hi] at h
      split at h
      · exact ih _ _ _ _ h
      · split at h
        · exact ih _ _ _ _ h
        · split at h
          · cases hr : scanGo s f false (i + (tokAt (s.data.toList.drop i)).2) with
            | error e' => rw [hr] at h; cases h; exact ih _ _ _ _ hr
            | ok l' => rw [hr] at h; cases h
          · rename_i he
            injection h with h
            injection h with h1 h2
            rw [← h2]; exact he
    · rw [dif_neg hi] at h
      cases h

theorem scanS_chain (s : ByteArray) (l : List Tok) (p : Int) (h : scanS s = (l, p, 0)) : Chain s 0 l ∧ s.size ≤ 5000 ∧ p = 0 := by
  unfold scanS at h
  split at h
  · injection h with h1 h2; injection h2 with h2 h3; cases h3
  · rename_i hs
    split at h
    · rename_i l' hl
      injection h with h1 h2
      injection h2 with h2 h3
      subst h1
      unfold scanAt at hl
      exact ⟨scanGo_chain _ _ _ _ _ hl, by omega, h2.symm⟩
    · rename_i p' e hl
      injection h with h1 h2
      injection h2 with h2 h3
      subst h1
      unfold scanAt at hl
      exact absurd h3 (scanGo_err _ _ _ _ _ _ hl)

theorem isTok_eq (kind : Int) (s : ByteArray) : isTok kind s = true ↔ ∃ h : 0 < s.size, s.size ≤ 5000 ∧ tokAt s.data.toList = (kind, s.size) ∧ tokErr kind s.size s[0] = 0 := by
  unfold isTok
  by_cases h : 0 < s.size
  · rw [dif_pos h]
    simp only [Bool.and_eq_true, decide_eq_true_eq]
    constructor
    · rintro ⟨⟨⟨⟨h1, h2⟩, h3⟩, h4⟩, h5⟩
      exact ⟨h, h1, Prod.ext h3 h4, h5⟩
    · rintro ⟨_, h1, h2, h3⟩
      exact ⟨⟨⟨⟨h1, tokErr_kind h3⟩, by rw [h2]⟩, by rw [h2]⟩, h3⟩
  · rw [dif_neg h]
    exact ⟨fun h' => absurd h' Bool.false_ne_true, fun ⟨h', _⟩ => absurd h' h⟩

theorem oneS_eq (kind : Int) (s : ByteArray) : oneS kind s = isTok kind s := by
  rw [Bool.eq_iff_iff, isTok_eq]
  constructor
  · intro h
    unfold oneS at h
    split at h
    · rename_i t p e hs
      simp only [Bool.and_eq_true, decide_eq_true_eq] at h
      obtain ⟨h1, h2, h3⟩ := h
      subst h1
      obtain ⟨⟨j, g1, g2, ⟨g3, g4, g5⟩, g6, g7, _⟩, hsz, _⟩ := scanS_chain s [t] p hs
      rw [h3] at g4 g5 g6
      have hj : j = 0 := by omega
      subst hj
      rw [h2] at g4 g5
      exact ⟨g3, hsz, g4, g5⟩
    · cases h
  · rintro ⟨h, h1, h2, h3⟩
    have := scan_one s 0 kind s.size h h2 h3
    rw [scanAt_end s false (0 + s.size) (by omega)] at this
    have hext : s.extract 0 (0 + s.size) = s := bytes_inj (by rw [ext_list, List.drop_zero]; exact List.take_of_length_le (Nat.le_of_eq (Array.length_toList (xs := s.data))))
    rw [hext] at this
    unfold oneS
    rw [scanS_ok s (by omega) _ this]
    simp
end Go.Proofs.Ytapciiffpnociaa
