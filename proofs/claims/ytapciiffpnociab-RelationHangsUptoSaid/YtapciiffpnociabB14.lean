/- GxUpt. Condition: none. -/
import Derived.Test.YtapciiffpnociabRows
import Derived.Test.YtapciiffpnociabB10

/- What the bound of an upto statement gives. Condition: none. -/
namespace Go.Proofs.Ytapciiffpnociab
open Go Go.RowKit

section
variable {H : Type} {P : Program} {M : Nat}
theorem bulk_pos (d : DataW H) : 1 ≤ Rows.uptoBulk d := by
  cases d with
  | lit l => cases l <;> simp [Rows.uptoBulk]
  | _ => simp [Rows.uptoBulk]
theorem bulk_len : ∀ l : List (DataW H), l.length ≤ Rows.uptoBulkAll l
  | [] => by simp
  | x :: r => by
    have h1 := bulk_pos x
    have h2 := bulk_len r
    simp only [Rows.uptoBulkAll, List.length_cons]; omega
theorem up_le {n a b M : Nat} (h : n ≤ a * M) (g : a ≤ b) : n ≤ b * M := Nat.le_trans h (Nat.mul_le_mul_right M g)

theorem weightsAll_le {e : TypeId} (h : ∀ (d : DataW H), ∀ n ∈ d.weights P e, n ≤ Rows.uptoBulk d * M) : ∀ (l : List (DataW H)), ∀ n ∈ DataW.weightsAll P e l, n ≤ Rows.uptoBulkAll l * M
  | [], n, hn => by simp [DataW.weightsAll] at hn
  | d :: r, n, hn => by
    simp only [DataW.weightsAll, List.mem_append] at hn
    rcases hn with hn | hn
    · exact up_le (h d n hn) (by simp only [Rows.uptoBulkAll]; omega)
    · exact up_le (weightsAll_le h r n hn) (by simp only [Rows.uptoBulkAll]; omega)
mutual
/-- Elements take M bytes at the most. -/
def RT.fits (M : Nat) : RT → Bool
  | .struct fs => RT.fitsL M fs
  | .slice _ b e => Nat.ble b M && e.fits M
  | .bool => true
  | .int _ => true
  | .str => true
def RT.fitsL (M : Nat) : List RT → Bool
  | [] => true
  | r :: rs => r.fits M && RT.fitsL M rs
end
theorem plain_le {t : TypeId} (h1 : 1 ≤ M) (h2 : ∀ e, P.underlying t ≠ some (.pointer e)) (h3 : ∀ e, P.underlying t ≠ some (.slice e)) (h4 : ∀ e, P.underlying t ≠ some (.struct e)) (h5 : ∀ n e, P.underlying t ≠ some (.array n e)) (h6 : ∀ k e, P.underlying t ≠ some (.map k e)) (d : DataW H) : ∀ n ∈ d.weights P t, n ≤ Rows.uptoBulk d * M := by
  intro n hn
  cases d with
  | lit l =>
    cases l with
    | string b =>
      simp only [DataW.weights, List.mem_singleton] at hn
      subst hn
      simp only [Rows.uptoBulk]
      exact up_le (a := b.length) (Nat.le_mul_of_pos_right _ h1) (by omega)
    | _ => simp [DataW.weights] at hn
  | _ =>
    simp only [DataW.weights] at hn
    first
      | (simp at hn; done)
      | (split at hn <;> first | (rename_i hh; exact absurd hh (by first | exact h2 _ | exact h3 _ | exact h4 _ | exact h5 _ _ | exact h6 _ _)) | (simp at hn; done))
theorem string_le {b : List UInt8} (h1 : 1 ≤ M) {t : TypeId} : ∀ n ∈ DataW.weights (H := H) P t (.lit (.string b)), n ≤ Rows.uptoBulk (DataW.lit (H := H) (.string b)) * M := by
  intro n hn
  simp only [DataW.weights, List.mem_singleton] at hn
  subst hn
  simp only [Rows.uptoBulk]
  exact up_le (a := b.length) (Nat.le_mul_of_pos_right _ h1) (by omega)
mutual
theorem weights_le (h1 : 1 ≤ M) : ∀ (r : RT) (t : TypeId) (d : DataW H), rtB P r t = true → r.fits M = true → ∀ n ∈ d.weights P t, n ≤ Rows.uptoBulk d * M
  | .bool, t, d, hb, _ => by
    have ht : P.underlying t = some .bool := by
      unfold rtB at hb; split at hb <;> first | assumption | cases hb
    refine plain_le h1 ?_ ?_ ?_ ?_ ?_ d <;> (intros; rw [ht]; simp)
  | .int k, t, d, hb, _ => by
    have ht : P.underlying t = some (.int k) := by
      unfold rtB at hb
      split at hb
      · rename_i k' hk; rw [hk, sameK_spec hb]
      · cases hb
    refine plain_le h1 ?_ ?_ ?_ ?_ ?_ d <;> (intros; rw [ht]; simp)
  | .str, t, d, hb, _ => by
    have ht : P.underlying t = some .string := by
      unfold rtB at hb; split at hb <;> first | assumption | cases hb
    refine plain_le h1 ?_ ?_ ?_ ?_ ?_ d <;> (intros; rw [ht]; simp)
  | .slice c b e, t, d, hb, hf => by
    obtain ⟨te, ht, hby, hre⟩ : ∃ te, P.underlying t = some (.slice te) ∧ P.bytesOf te = b ∧ rtB P e te = true := by
      unfold rtB at hb
      split at hb
      · rename_i te ht
        simp only [Bool.and_eq_true] at hb
        exact ⟨te, ht, Nat.eq_of_beq_eq_true hb.2.1, hb.2.2.2.2⟩
      · cases hb
    simp only [RT.fits, Bool.and_eq_true] at hf
    have hbm := Nat.le_of_ble_eq_true hf.1
    intro n hn
    cases d with
    | slice elems spare =>
      simp only [DataW.weights, ht, List.mem_cons, List.mem_append] at hn
      rcases hn with rfl | hn | hn
      · have g1 := bulk_len elems
        have g2 := bulk_len spare
        rw [hby]
        refine Nat.le_trans (Nat.mul_le_mul_left _ hbm) (Nat.mul_le_mul_right M ?_)
        simp only [Rows.uptoBulk]; omega
      · exact up_le (weightsAll_le (fun d => weights_le h1 e te d hre hf.2) elems n hn) (by simp only [Rows.uptoBulk]; omega)
      · exact up_le (weightsAll_le (fun d => weights_le h1 e te d hre hf.2) spare n hn) (by simp only [Rows.uptoBulk]; omega)
    | lit l =>
      cases l with
      | string b => exact string_le h1 n hn
      | _ => simp [DataW.weights] at hn
    | _ => simp [DataW.weights, ht] at hn
  | .struct fs, t, d, hb, hf => by
    obtain ⟨fl, ht, hfl⟩ : ∃ fl, P.underlying t = some (.struct fl) ∧ rtL P fs fl.toList 0 = true := by
      unfold rtB at hb
      split at hb
      · rename_i fl ht
        simp only [Bool.and_eq_true] at hb
        exact ⟨fl, ht, hb.1⟩
      · cases hb
    simp only [RT.fits] at hf
    intro n hn
    cases d with
    | agg parts =>
      simp only [DataW.weights, ht] at hn
      exact up_le (weightsL_le h1 fs fl.toList 0 parts hfl hf n hn) (by simp only [Rows.uptoBulk]; omega)
    | lit l =>
      cases l with
      | string b => exact string_le h1 n hn
      | _ => simp [DataW.weights] at hn
    | _ => simp [DataW.weights, ht] at hn
theorem weightsL_le (h1 : 1 ≤ M) : ∀ (rs : List RT) (fl : List Field) (o : Nat) (ds : List (DataW H)), rtL P rs fl o = true → RT.fitsL M rs = true → ∀ n ∈ DataW.weightsEach P (fl.map (·.type)) ds, n ≤ Rows.uptoBulkAll ds * M
  | [], [], _, ds, _, _ => by intro n hn; simp [DataW.weightsEach] at hn
  | [], _ :: _, _, _, hb, _ => by simp [rtL] at hb
  | _ :: _, [], _, _, hb, _ => by simp [rtL] at hb
  | r :: rs, f :: fl, o, [], _, _ => by intro n hn; simp [DataW.weightsEach] at hn
  | r :: rs, f :: fl, o, d :: ds, hb, hf => by
    simp only [rtL, Bool.and_eq_true] at hb
    simp only [RT.fitsL, Bool.and_eq_true] at hf
    intro n hn
    simp only [List.map_cons, DataW.weightsEach, List.mem_append] at hn
    rcases hn with hn | hn
    · exact up_le (weights_le h1 r f.type d hb.2.2.1 hf.1 n hn) (by simp only [Rows.uptoBulkAll]; omega)
    · exact up_le (weightsL_le h1 rs fl _ ds hb.2.2.2 hf.2 n hn) (by simp only [Rows.uptoBulkAll]; omega)
end
theorem weightsR_le (h1 : 1 ≤ M) : ∀ (rs : List RT) (ts : List TypeId) (ds : List (DataW H)), rtsB P rs ts = true → RT.fitsL M rs = true → ∀ n ∈ DataW.weightsEach P ts ds, n ≤ Rows.uptoBulkAll ds * M
  | [], [], ds, _, _ => by intro n hn; simp [DataW.weightsEach] at hn
  | [], _ :: _, _, hb, _ => by simp [rtsB] at hb
  | _ :: _, [], _, hb, _ => by simp [rtsB] at hb
  | r :: rs, t :: ts, [], _, _ => by intro n hn; simp [DataW.weightsEach] at hn
  | r :: rs, t :: ts, d :: ds, hb, hf => by
    simp only [rtsB, Bool.and_eq_true] at hb
    simp only [RT.fitsL, Bool.and_eq_true] at hf
    intro n hn
    simp only [DataW.weightsEach, List.mem_append] at hn
    rcases hn with hn | hn
    · exact up_le (weights_le h1 r t d hb.1 hf.1 n hn) (by simp only [Rows.uptoBulkAll]; omega)
    · exact up_le (weightsR_le h1 rs ts ds hb.2 hf.2 n hn) (by simp only [Rows.uptoBulkAll]; omega)
theorem upto_weights {rs : List RT} {ts : List TypeId} {ds : List (DataW H)} (hb : rtsB P rs ts = true) (hf : RT.fitsL 4096 rs = true) (hk : Rows.uptoSmall H ds = true) : ∀ n ∈ DataW.weightsEach P ts ds, n ≤ 4294967296 := by
  intro n hn
  have hb2 : Rows.uptoBulkAll ds ≤ 1048576 := of_decide_eq_true hk
  have := up_le (weightsR_le (by decide) rs ts ds hb hf n hn) hb2
  omega
end
end Go.Proofs.Ytapciiffpnociab
