/- Plain laws on tokens: what is scanned is joined to what is scanned so; where tokens stand. Condition: none. -/
import Derived.Test.YtapciiffpnociaaTokL
namespace Go.Proofs.Ytapciiffpnociaa
open Go Go.RowKit

theorem all_cons' {t : Tok} {l : List Tok} (h : (t :: l).all tokOk = true) : tokOk t = true ∧ l.all tokOk = true := by
  simpa only [List.all_cons, Bool.and_eq_true] using h

theorem same_refl (t : Tok) (k : Int) : Tok.same false t ⟨t.kind, k, t.text⟩ = true := by
  unfold Tok.same
  simp

/-- The texts of tokens, a blank between two. -/
def textsOf : List Tok → List UInt8
  | [] => []
  | [t] => t.text.data.toList
  | t :: l => t.text.data.toList ++ 32 :: textsOf l

theorem textsOf_cons2 (t t' : Tok) (l : List Tok) : textsOf (t :: t' :: l) = t.text.data.toList ++ 32 :: textsOf (t' :: l) := by
  rw [textsOf]
  simp

theorem joinTail_cons (sep x : List UInt8) (r : List (List UInt8)) : Lib.joinTail sep (x :: r) = sep ++ x ++ Lib.joinTail sep r := by
  simp [Lib.joinTail]

theorem join_texts : ∀ (l : List Tok), (joinB (l.map (·.text)) ⟨#[32]⟩).data.toList = textsOf l
  | [] => rfl
  | [t] => by simp [joinB, textsOf, Lib.join_one]
  | t :: t' :: l => by
    have ih := join_texts (t' :: l)
    rw [textsOf_cons2, ← ih]
    simp only [joinB, List.map_cons]
    show Lib.join (t.text.data.toList :: t'.text.data.toList :: _) [32] = t.text.data.toList ++ 32 :: Lib.join (t'.text.data.toList :: _) [32]
    rw [Lib.join_cons, Lib.join_cons, joinTail_cons]
    simp

theorem drop_size (s : ByteArray) (i : Nat) : (s.data.toList.drop i).length = s.size - i := by
  rw [List.length_drop, show s.data.toList.length = s.size from Array.length_toList]

theorem byte_of_drop (s : ByteArray) (i : Nat) (h : i < s.size) (c : UInt8) (l : List UInt8) (hd : s.data.toList.drop i = c :: l) : s[i] = c := by
  rw [drop_byte s i h] at hd
  injection hd

theorem drop_append_right (s : ByteArray) (i : Nat) (u r : List UInt8) (hd : s.data.toList.drop i = u ++ r) : s.data.toList.drop (i + u.length) = r := by
  rw [← List.drop_drop, hd, List.drop_left]

theorem ok_parts {t : Tok} (h : tokOk t = true) : ∃ h : 0 < t.text.size, t.text.size ≤ 5000 ∧ tokAt t.text.data.toList = (t.kind, t.text.size) ∧ tokErr t.kind t.text.size t.text[0] = 0 := by
  unfold tokOk at h
  rw [oneS_eq] at h
  exact (isTok_eq t.kind t.text).1 h

theorem first_byte (u : ByteArray) (h : 0 < u.size) : ∃ l, u.data.toList = u[0] :: l := by
  have := drop_byte u 0 h
  rw [List.drop_zero] at this
  exact ⟨_, this⟩

/-- What is joined is scanned as it was. -/
theorem scan_texts (s : ByteArray) : ∀ (l : List Tok) (i : Nat), l.all tokOk = true → s.data.toList.drop i = textsOf l → ∃ m, scanAt s false i = .ok m ∧ sameAll (Tok.same false) l m = true
  | [], i, _, hd => by
    have := drop_size s i
    rw [hd] at this
    exact ⟨[], scanAt_end s false i (by simp [textsOf] at this; omega), by unfold sameAll; rfl⟩
  | [t], i, hok, hd => by
    obtain ⟨h0, h1, h2, h3⟩ := ok_parts (all_cons' hok).1
    obtain ⟨l0, hl0⟩ := first_byte t.text h0
    have hd' : s.data.toList.drop i = t.text.data.toList := hd
    have hs := drop_size s i
    rw [hd', show t.text.data.toList.length = t.text.size from Array.length_toList] at hs
    have hi : i < s.size := by omega
    have hb := byte_of_drop s i hi _ _ (hd'.trans hl0)
    have := scan_one s i t.kind t.text.size hi (by rw [hd']; exact h2) (by rw [hb]; exact h3)
    rw [scanAt_end s false (i + t.text.size) (by omega)] at this
    refine ⟨_, this, ?_⟩
    have hx : s.extract i (i + t.text.size) = t.text := bytes_inj (by rw [ext_list, hd']; exact List.take_of_length_le (Nat.le_of_eq (Array.length_toList (xs := t.text.data))))
    rw [hx]
    unfold sameAll
    rw [same_refl, Bool.true_and]
    unfold sameAll
    rfl
  | t :: t' :: l, i, hok, hd => by
    obtain ⟨hok1, hok2⟩ := all_cons' hok
    obtain ⟨h0, h1, h2, h3⟩ := ok_parts hok1
    obtain ⟨l0, hl0⟩ := first_byte t.text h0
    rw [textsOf_cons2] at hd
    have hlen : t.text.data.toList.length = t.text.size := Array.length_toList
    have hs := drop_size s i
    rw [hd, List.length_append, hlen, List.length_cons] at hs
    have hi : i < s.size := by omega
    have hb := byte_of_drop s i hi _ (l0 ++ 32 :: textsOf (t' :: l)) (by rw [hd, hl0]; rfl)
    have hne : t.text.data.toList ≠ [] := by rw [hl0]; exact List.cons_ne_nil _ _
    have hta := tokAt_app t.text.data.toList t.kind hne (by rw [h2, hlen]) (textsOf (t' :: l))
    rw [hlen] at hta
    have h5 := scan_one s i t.kind t.text.size hi (by rw [hd]; exact hta) (by rw [hb]; exact h3)
    have hd2 := drop_append_right s i _ _ hd
    rw [hlen] at hd2
    have hi2 : i + t.text.size < s.size := by omega
    have hb2 := byte_of_drop s _ hi2 _ _ hd2
    have h6 := scanAt_blank s (i + t.text.size) hi2 (by rw [hb2]; rfl) (by rw [hb2]; rfl)
    have hd3 : s.data.toList.drop (i + t.text.size + 1) = textsOf (t' :: l) := by
      rw [← List.drop_drop, hd2]; rfl
    obtain ⟨m, hm, hsame⟩ := scan_texts s (t' :: l) (i + t.text.size + 1) hok2 hd3
    rw [h6, hm] at h5
    refine ⟨_, h5, ?_⟩
    have hx : s.extract i (i + t.text.size) = t.text := bytes_inj (by rw [ext_list, hd, ← hlen]; exact List.take_left)
    rw [hx]
    show sameAll (Tok.same false) (t :: t' :: l) (_ :: m) = true
    rw [sameAll, same_refl, Bool.true_and]
    exact hsame

theorem joinS_ok {l : List Tok} {t : ByteArray} (h : joinS l = (t, 0)) : l.all tokOk = true ∧ joinW l ≤ 5001 ∧ t = joinB (l.map (·.text)) ⟨#[32]⟩ := by
  unfold joinS at h
  split at h
  · split at h
    · injection h with h1 h2; cases h2
    · injection h with h1 h2
      exact ⟨by assumption, by omega, h1.symm⟩
  · injection h with h1 h2; cases h2

theorem joinTail_total : ∀ (l : List Tok), (textsOf l).length + 1 ≤ joinW l ∨ l = []
  | [] => .inr rfl
  | [t] => .inl (by
    have : t.text.data.toList.length = t.text.size := Array.length_toList
    simp only [textsOf, joinW, this]; omega)
  | t :: t' :: l => .inl (by
    have ih := joinTail_total (t' :: l)
    have : t.text.data.toList.length = t.text.size := Array.length_toList
    rw [textsOf_cons2, List.length_append, List.length_cons, this]
    rw [show joinW (t :: t' :: l) = 1 + t.text.size + joinW (t' :: l) from rfl]
    rcases ih with ih | ih
    · omega
    · cases ih)

theorem back_join {l : List Tok} {t : ByteArray} (h : joinS l = (t, 0)) : ∃ m, scanS t = (m, 0, 0) ∧ sameAll (Tok.same false) l m = true := by
  obtain ⟨h1, h2, h3⟩ := joinS_ok h
  have hd : t.data.toList.drop 0 = textsOf l := by rw [List.drop_zero, h3]; exact join_texts l
  obtain ⟨m, hm, hs⟩ := scan_texts t l 0 h1 hd
  have hsz : t.size ≤ 5000 := by
    have e : t.size = (textsOf l).length := by rw [← hd, List.drop_zero]; exact (Array.length_toList).symm
    rcases joinTail_total l with h4 | h4
    · rw [e]; omega
    · rw [e, h4]; simp [textsOf]
  exact ⟨m, scanS_ok t (by omega) m hm, hs⟩

theorem ext_byte (s : ByteArray) (j n : Nat) (hj : j < s.size) (h0 : 0 < (s.extract j (j + n)).size) : (s.extract j (j + n))[0] = s[j] := ext0 s j n hj h0

theorem chain_ok (s : ByteArray) (hs : s.size ≤ 5000) : ∀ (l : List Tok) (i : Nat), Chain s i l → l.all tokOk = true
  | [], _, _ => rfl
  | t :: l, i, h => by
    obtain ⟨j, _, _, ⟨hj, h1, h2⟩, h3, h4, h5⟩ := h
    rw [List.all_cons, chain_ok s hs l _ h5, Bool.and_true]
    have hk := tokErr_kind h2
    have hp := tokAt_pos (s.data.toList.drop j) (by rw [h1]; exact hk)
    rw [h1] at hp
    have hl : t.text.data.toList = (s.data.toList.drop j).take t.text.size := by
      have e := congrArg (fun x : ByteArray => x.data.toList) h4
      rw [ext_list] at e
      exact e
    unfold tokOk
    rw [oneS_eq]
    refine (isTok_eq t.kind t.text).2 ⟨hp, by omega, ?_, ?_⟩
    · rw [hl]; exact tokAt_take _ _ _ h1 hk
    · have hb : t.text[0] = s[j] := by
        obtain ⟨l0, hl0⟩ := first_byte t.text hp
        have hd := drop_byte s j hj
        rw [hd, hl0] at hl
        rw [show t.text.size = (t.text.size - 1) + 1 from by omega, List.take_succ_cons] at hl
        injection hl
      rw [hb]
      exact h2

theorem scanS_all {s : ByteArray} {l : List Tok} {p : Int} (h : scanS s = (l, p, 0)) : l.all tokOk = true := by
  obtain ⟨h1, h2, _⟩ := scanS_chain s l p h
  exact chain_ok s h2 l 0 h1

theorem scanS_none {s : ByteArray} {l : List Tok} {p e : Int} (h : scanS s = (l, p, e)) (he : e ≠ 0) : l = [] := by
  unfold scanS at h
  split at h
  · injection h with h1 h2; exact h1.symm
  · split at h
    · injection h with h1 h2
      injection h2 with h2 h3
      exact absurd h3.symm he
    · injection h with h1 h2; exact h1.symm

theorem joinS_many {l : List Tok} (h : l.all tokOk = true) {t : ByteArray} {e : Int} (hj : joinS l = (t, e)) (he : e ≠ 0) : e = 2 := by
  unfold joinS at hj
  rw [if_pos h] at hj
  split at hj
  · injection hj with h1 h2; exact h2.symm
  · injection hj with h1 h2; exact absurd h2.symm he

theorem chain_len (s : ByteArray) : ∀ (l : List Tok) (i : Nat), Chain s i l → l.length ≤ s.size - i
  | [], _, _ => Nat.zero_le _
  | t :: l, i, h => by
    obtain ⟨j, h0, _, ⟨hj, h1, h2⟩, h3, h4, h5⟩ := h
    have ih := chain_len s l _ h5
    have hp := tokAt_pos (s.data.toList.drop j) (by rw [h1]; exact tokErr_kind h2)
    rw [h1] at hp
    dsimp only at hp
    simp only [List.length_cons]
    omega
end Go.Proofs.Ytapciiffpnociaa
