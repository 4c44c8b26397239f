/- Two updates that are the same; what must be in any case. Condition: none. -/
import Derived.Test.YtapciiffpnociaaWirF
import Derived.Test.YtapciiffpnociaaWirG
import Derived.Test.YtapciiffpnociaaWirL
namespace Go.Proofs.Ytapciiffpnociaa
open Go Go.RowKit
attribute [local irreducible] DW DS DL DQ Ev FnOk FnP thenD inBlockD DT

set_option maxHeartbeats 8000000 in
theorem sameUpdate_fn (a b : Upd) : Fn 27 [elUpd a, elUpd b] (fun r => r = .d (.bool (a.same b))) := by
  refine fnp_enter' _ Try.func27 rfl rfl (by kernel_rfl) ?_
  intro O w0 E0 β0
  have h1 := sameIds_fn a.parents b.parents
  have h2 := sameFacts_fn a.says b.says
  have h3 := sameIds_fn a.takes b.takes
  unfold Upd.same
  have e : a.id.same b.id = (decide (a.id.author = b.id.author) && (decide (a.id.number = b.id.number) && true)) := by unfold UId.same; rw [Bool.and_true]
  rw [e]
  generalize sameL UId.same a.parents b.parents = x1 at h1 ⊢
  generalize sameL Fct.same a.says b.says = x2 at h2 ⊢
  generalize sameL UId.same a.takes b.takes = x3 at h3 ⊢
  repeat' (first | (apply ds_evC; exact rfl; (with_reducible exact trivial); (with_reducible exact rfl); exact rfl; exact rfl; exact rfl) | (apply ds_skip; exact rfl; exact rfl) | apply ds_nil | apply dw_seq2 | apply ds_region | apply dw_ret | apply thenD_n | (apply ds_call; exact rfl; exact rfl; apply h1; exact rfl; (exact rfl); exact rfl; rintro _ rfl) | (apply ds_call; exact rfl; exact rfl; apply h2; exact rfl; (exact rfl); exact rfl; rintro _ rfl) | (apply ds_call; exact rfl; exact rfl; apply h3; exact rfl; (exact rfl); exact rfl; rintro _ rfl) | (apply ds_newC; exact rfl; (with_reducible exact trivial); exact rfl; exact rfl; exact rfl) | ((fail_if_success (apply ds_known; exact rfl)); apply ds_guardB; exact rfl; exact rfl; exact rfl; all_goals intro hg))
  all_goals exact ret_b rfl (by simp_all)

set_option maxHeartbeats 8000000 in
theorem fact_fn (p : Int) (l : List Int) : Fn 123 [.d (.int .i64 p), .d (.slice 1 (l.map encI))] (fun r => r = elFct ⟨p, l⟩) := by
  refine fnp_enter' _ Try.func123 rfl rfl (by kernel_rfl) ?_
  intro O w0 E0 β0
  repeat' (first | (apply ds_evC; exact rfl; (with_reducible exact trivial); (with_reducible exact rfl); exact rfl; exact rfl; exact rfl) | apply ds_nil | apply dw_seq2 | apply ds_region | apply dw_ret | apply thenD_n | (apply ds_newC; exact rfl; (with_reducible exact trivial); exact rfl; exact rfl; exact rfl) | (apply ds_setC; exact rfl; exact rfl; exact rfl; exact rfl))
  exact ⟨.inl rfl, _, rfl, rfl, rfl⟩

def firstU : Upd := ⟨⟨0, 1⟩, [], [⟨0, [1, 2]⟩, ⟨0, [2, 3]⟩], []⟩
def secondU : Upd := ⟨⟨1, 1⟩, [⟨0, 1⟩], [⟨0, [4, 5]⟩], [⟨0, 1⟩]⟩

set_option maxHeartbeats 8000000 in
theorem pairs_fn : Fn 153 [] (fun r => r = .d (.slice 2 (firstU.says.map encFct))) := by
  refine fnp_enter' _ Try.func153 rfl rfl (by kernel_rfl) ?_
  intro O w0 E0 β0
  have h1 := fact_fn 0 [1, 2]
  have h2 := fact_fn 0 [2, 3]
  repeat' (first | (apply ds_evC; exact rfl; (with_reducible exact trivial); (with_reducible exact rfl); exact rfl; exact rfl; exact rfl) | apply ds_nil | apply dw_seq2 | apply ds_region | apply dw_ret | apply thenD_n | (apply ds_call; exact rfl; exact rfl; apply h1; exact rfl; (exact rfl); exact rfl; rintro _ rfl) | (apply ds_call; exact rfl; exact rfl; apply h2; exact rfl; (exact rfl); exact rfl; rintro _ rfl) | (apply ds_bsC; exact rfl; exact rfl; exact rfl; exact rfl))
  exact ⟨.inl rfl, _, rfl, rfl, rfl⟩

set_option maxHeartbeats 8000000 in
theorem first_fn : Fn 91 [] (fun r => r = elUpd firstU) := by
  refine fnp_enter' _ Try.func91 rfl rfl (by kernel_rfl) ?_
  intro O w0 E0 β0
  repeat' (first | (apply ds_evC; exact rfl; (with_reducible exact trivial); (with_reducible exact rfl); exact rfl; exact rfl; exact rfl) | apply ds_nil | apply dw_seq2 | apply ds_region | apply thenD_n | (apply ds_call; exact rfl; exact rfl; apply pairs_fn; exact rfl; (exact rfl); exact rfl; rintro _ rfl) | (apply ds_newC; exact rfl; (with_reducible exact trivial); exact rfl; exact rfl; exact rfl) | (apply ds_setC; exact rfl; exact rfl; exact rfl; exact rfl))
  refine dw_ent (ent_cellnil 0 2 2 rfl rfl rfl) ?_
  refine dw_ent (ent_cellnil 0 4 2 rfl rfl rfl) ?_
  repeat' (apply dw_ret)
  exact ⟨.inl rfl, _, rfl, rfl, rfl⟩

set_option maxHeartbeats 8000000 in
theorem second_fn : Fn 90 [] (fun r => r = elUpd secondU) := by
  refine fnp_enter' _ Try.func90 rfl rfl (by kernel_rfl) ?_
  intro O w0 E0 β0
  have h1 := fact_fn 0 [4, 5]
  repeat' (first | (apply ds_evC; exact rfl; (with_reducible exact trivial); (with_reducible exact rfl); exact rfl; exact rfl; exact rfl) | apply ds_nil | apply dw_seq2 | apply ds_region | apply dw_ret | apply thenD_n | (apply ds_call; exact rfl; exact rfl; apply h1; exact rfl; (exact rfl); exact rfl; rintro _ rfl) | (apply ds_newC; exact rfl; (with_reducible exact trivial); exact rfl; exact rfl; exact rfl) | (apply ds_setC; exact rfl; exact rfl; exact rfl; exact rfl) | (apply ds_bsC; exact rfl; exact rfl; exact rfl; exact rfl))
  exact ⟨.inl rfl, _, rfl, rfl, rfl⟩

theorem second_ok : checkU secondU = 0 := by kernel_rfl
theorem first_ok : checkU firstU = 0 := by kernel_rfl
theorem second_enc : encS secondU = (⟨#[1, 1, 0, 1, 0, 1, 0, 1, 0, 2, 4, 0, 0, 0, 5, 0, 0, 0, 1, 0, 1, 0]⟩, 0) := by kernel_rfl
theorem second_str : strB (encodeU secondU) = ⟨#[1, 1, 0, 1, 0, 1, 0, 1, 0, 2, 4, 0, 0, 0, 5, 0, 0, 0, 1, 0, 1, 0]⟩ := by kernel_rfl

set_option maxHeartbeats 8000000 in
theorem wireBegun_fn : Fn 25 [] (fun r => r = .d (.bool true)) := by
  refine fnp_enter' _ Try.func25 rfl rfl (by kernel_rfl) ?_
  intro O w0 E0 β0
  have h1 := encode_fn secondU
  have h2 := decode_fn (encodeU secondU)
  rw [second_enc] at h1
  rw [decode_encode second_ok, second_str] at h2
  have h3 := checkU_fn firstU
  rw [first_ok] at h3
  have h4 := sameUpdate_fn secondU secondU
  rw [Upd.same_refl] at h4
  dsimp only at h1 h2
  repeat' (first | (apply ds_evC; exact rfl; (with_reducible exact trivial); (with_reducible exact rfl); exact rfl; exact rfl; exact rfl) | apply ds_nil | (apply dt_ev; exact rfl; exact rfl; (with_reducible exact trivial); (with_reducible exact rfl); exact rfl; exact rfl; exact rfl; exact rfl) | (apply dt_nil0; exact rfl; exact rfl; exact rfl; exact rfl) | apply dw_seq2 | apply ds_region | (apply dw_any; kernel_rfl; kernel_rfl; exact rfl) | apply dw_ret | apply thenD_n | (apply ds_call; exact rfl; exact rfl; apply second_fn; exact rfl; (exact rfl); exact rfl; rintro _ rfl) | (apply dt_call; exact rfl; exact rfl; apply second_fn; exact rfl; (exact rfl); exact rfl; exact rfl; exact ⟨_, rfl⟩; rintro _ rfl) | (apply dt_call; exact rfl; exact rfl; apply first_fn; exact rfl; (exact rfl); exact rfl; exact rfl; exact ⟨_, rfl⟩; rintro _ rfl) | (apply ds_call; exact rfl; exact rfl; apply h1; exact rfl; (exact rfl); exact rfl; rintro _ rfl) | (apply ds_call; exact rfl; exact rfl; apply h2; exact rfl; (exact rfl); exact rfl; rintro _ rfl) | (apply dt_call; exact rfl; exact rfl; apply h3; exact rfl; (exact rfl); exact rfl; exact rfl; exact ⟨_, rfl⟩; rintro _ rfl) | (apply dt_call; exact rfl; exact rfl; apply h4; exact rfl; (exact rfl); exact rfl; exact rfl; exact ⟨_, rfl⟩; rintro _ rfl) | (apply ds_newC; exact rfl; (with_reducible exact trivial); exact rfl; exact rfl; exact rfl) | (apply ds_setC; exact rfl; exact rfl; exact rfl; exact rfl))
  all_goals exact ret_b rfl (by decide)

set_option maxHeartbeats 8000000 in
theorem wireTells_fn (u : Upd) (s : List UInt8) : Fn 7 [elUpd u, .d (.str (strB s))] (fun r => r = .d (.bool true)) := by
  refine fnp_enter' _ Try.func7 rfl rfl (by kernel_rfl) ?_
  intro O w0 E0 β0
  have h1 := encode_fn u
  have h2 := decode_fn s
  have h3 := checkUpdate_fn u
  have h4 := checkU_fn u
  have h6 := decodeOf_fn s
  have h7 := sameUpdate_fn (decodeU s).1 (decodeU s).1
  rw [Upd.same_refl] at h7
  unfold encS at h1
  by_cases hc : checkU u = 0
  · have h5 := encodeOf_fn u (checkU_good hc)
    rw [if_pos hc] at h1
    rw [hc] at h3 h4
    dsimp only at h1
    repeat' (first | (apply ds_evC; exact rfl; (with_reducible exact trivial); (with_reducible exact rfl); exact rfl; exact rfl; exact rfl) | (apply ds_skip; exact rfl; exact rfl) | apply ds_nil | apply dw_seq2 | apply ds_region | apply dw_ret | (apply dw_condT; exact rfl) | apply thenD_n | (apply ds_call; exact rfl; exact rfl; apply h1; exact rfl; (exact rfl); exact rfl; rintro _ rfl) | (apply ds_call; exact rfl; exact rfl; apply h2; exact rfl; (exact rfl); exact rfl; rintro _ rfl) | (apply ds_call; exact rfl; exact rfl; apply h3; exact rfl; (exact rfl); exact rfl; rintro _ rfl) | (apply ds_call; exact rfl; exact rfl; apply h4; exact rfl; (exact rfl); exact rfl; rintro _ rfl) | (apply ds_call; exact rfl; exact rfl; apply h5; exact rfl; (exact rfl); exact rfl; rintro _ rfl) | (apply ds_call; exact rfl; exact rfl; apply h6; exact rfl; (exact rfl); exact rfl; rintro _ rfl) | (apply ds_call; exact rfl; exact rfl; apply h7; exact rfl; (exact rfl); exact rfl; rintro _ rfl) | (apply ds_call; exact rfl; exact rfl; apply wireBegun_fn; exact rfl; (exact rfl); exact rfl; rintro _ rfl) | (apply ds_newC; exact rfl; (with_reducible exact trivial); exact rfl; exact rfl; exact rfl) | (apply ds_setC; exact rfl; exact rfl; exact rfl; exact rfl) | ((fail_if_success (apply ds_known; exact rfl)); apply ds_guardP; exact rfl; exact rfl; exact rfl; all_goals intro hg))
    all_goals first
      | exact absurd rfl hg
      | exact ret_b rfl (by simp)
  · rw [if_neg hc] at h1
    dsimp only at h1
    repeat' (first | (apply ds_evC; exact rfl; (with_reducible exact trivial); (with_reducible exact rfl); exact rfl; exact rfl; exact rfl) | (apply ds_skip; exact rfl; exact rfl) | apply ds_nil | apply dw_seq2 | apply ds_region | apply dw_skip | apply dw_ret | apply thenD_n | (apply ds_call; exact rfl; exact rfl; apply h1; exact rfl; (exact rfl); exact rfl; rintro _ rfl) | (apply ds_call; exact rfl; exact rfl; apply h2; exact rfl; (exact rfl); exact rfl; rintro _ rfl) | (apply ds_call; exact rfl; exact rfl; apply h3; exact rfl; (exact rfl); exact rfl; rintro _ rfl) | (apply ds_call; exact rfl; exact rfl; apply h4; exact rfl; (exact rfl); exact rfl; rintro _ rfl) | (apply ds_call; exact rfl; exact rfl; apply h6; exact rfl; (exact rfl); exact rfl; rintro _ rfl) | (apply ds_call; exact rfl; exact rfl; apply h7; exact rfl; (exact rfl); exact rfl; rintro _ rfl) | (apply ds_call; exact rfl; exact rfl; apply wireBegun_fn; exact rfl; (exact rfl); exact rfl; rintro _ rfl) | (apply ds_newC; exact rfl; (with_reducible exact trivial); exact rfl; exact rfl; exact rfl) | (apply ds_setC; exact rfl; exact rfl; exact rfl; exact rfl) | (apply dw_condP; exact rfl; all_goals intro hg) | ((fail_if_success (apply ds_known; exact rfl)); apply ds_guardP; exact rfl; exact rfl; exact rfl; all_goals intro hg))
    all_goals first
      | exact absurd hg hc
      | exact absurd rfl hg
      | exact ret_b rfl (by simp)

set_option maxHeartbeats 8000000 in
theorem wireBack_fn (u : Upd) (s : List UInt8) : Fn 8 [elUpd u, .d (.str (strB s))] (fun r => r = .d (.bool true)) := by
  refine fnp_enter' _ Try.func8 rfl rfl (by kernel_rfl) ?_
  intro O w0 E0 β0
  have h1 := encode_fn u
  have h2 := decode_fn s
  have tail : ∀ d, decodeU s = d → d.2 ≠ 0 → d.1 = noUpd := fun d hd h => decode_none (e := d.2) (by rw [hd]) h
  have tail2 : ∀ d, decodeU s = d → d.2 = 0 → encS d.1 = (strB s, 0) := by
    intro d hd h
    have := encode_decode (s := s) (u := d.1) (by rw [hd, ← h])
    unfold encS
    rw [if_pos this.1, this.2]
  generalize hd : decodeU s = d at h2
  have tail := tail d hd
  have tail2 := tail2 d hd
  obtain ⟨x, f⟩ := d
  dsimp only at tail tail2 h2
  have h8 := encode_fn x
  unfold encS at h1
  by_cases hf : f = 0
  · have t2 := tail2 hf
    rw [t2] at h8
    rw [hf] at h2
    dsimp only at h8
    by_cases hc : checkU u = 0
    · have h3 := decode_fn (encodeU u)
      have h7 := sameUpdate_fn u u
      rw [Upd.same_refl] at h7
      rw [decode_encode hc] at h3
      rw [if_pos hc] at h1
      dsimp only at h1 h3
      repeat' (first | (apply ds_evC; exact rfl; (with_reducible exact trivial); (with_reducible exact rfl); exact rfl; exact rfl; exact rfl) | apply ds_nil | apply dw_seq2 | apply ds_region | apply dw_skip | apply dw_ret | (apply dw_condT; exact rfl) | (apply dw_condF; exact rfl) | apply thenD_n | (apply ds_call; exact rfl; exact rfl; apply h1; exact rfl; (exact rfl); exact rfl; rintro _ rfl) | (apply ds_call; exact rfl; exact rfl; apply h3; exact rfl; (exact rfl); exact rfl; rintro _ rfl) | (apply ds_call; exact rfl; exact rfl; apply h7; exact rfl; (exact rfl); exact rfl; rintro _ rfl) | (apply ds_call; exact rfl; exact rfl; apply h2; exact rfl; (exact rfl); exact rfl; rintro _ rfl) | (apply ds_call; exact rfl; exact rfl; apply h8; exact rfl; (exact rfl); exact rfl; rintro _ rfl) | (apply ds_call; exact rfl; exact rfl; apply wireBegun_fn; exact rfl; (exact rfl); exact rfl; rintro _ rfl) | (apply ds_newC; exact rfl; (with_reducible exact trivial); exact rfl; exact rfl; exact rfl) | (apply ds_setC; exact rfl; exact rfl; exact rfl; exact rfl))
      all_goals first
        | exact absurd rfl hg
        | exact ret_b rfl (by simp)
    · rw [if_neg hc] at h1
      dsimp only at h1
      repeat' (first | (apply ds_evC; exact rfl; (with_reducible exact trivial); (with_reducible exact rfl); exact rfl; exact rfl; exact rfl) | apply ds_nil | apply dw_seq2 | apply ds_region | apply dw_skip | apply dw_ret | (apply dw_condF; exact rfl) | apply thenD_n | (apply ds_call; exact rfl; exact rfl; apply h1; exact rfl; (exact rfl); exact rfl; rintro _ rfl) | (apply ds_call; exact rfl; exact rfl; apply h2; exact rfl; (exact rfl); exact rfl; rintro _ rfl) | (apply ds_call; exact rfl; exact rfl; apply h8; exact rfl; (exact rfl); exact rfl; rintro _ rfl) | (apply ds_call; exact rfl; exact rfl; apply wireBegun_fn; exact rfl; (exact rfl); exact rfl; rintro _ rfl) | (apply ds_newC; exact rfl; (with_reducible exact trivial); exact rfl; exact rfl; exact rfl) | (apply ds_setC; exact rfl; exact rfl; exact rfl; exact rfl) | (apply dw_condP; exact rfl; all_goals intro hg))
      all_goals first
        | exact absurd hg hc
        | exact absurd rfl hg
        | exact ret_b rfl (by simp)

  · have t2 := tail hf
    subst t2
    have n1 : (noUpd.parents.map encId).length = 0 := rfl
    have n2 : (noUpd.says.map encFct).length = 0 := rfl
    have n3 : (noUpd.takes.map encId).length = 0 := rfl
    by_cases hc : checkU u = 0
    · have h3 := decode_fn (encodeU u)
      have h7 := sameUpdate_fn u u
      rw [Upd.same_refl] at h7
      rw [decode_encode hc] at h3
      rw [if_pos hc] at h1
      dsimp only at h1 h3
      repeat' (first | (apply ds_evC; exact rfl; (first | (with_reducible exact trivial) | omega); (with_reducible exact rfl); exact rfl; exact rfl; exact rfl) | apply ds_nil | apply dw_seq2 | apply ds_region | apply dw_skip | apply dw_ret | (apply dw_condT; exact rfl) | (apply dw_condF; exact rfl) | apply thenD_n | apply thenD_r | (apply ds_call; exact rfl; exact rfl; apply h1; exact rfl; (exact rfl); exact rfl; rintro _ rfl) | (apply ds_call; exact rfl; exact rfl; apply h3; exact rfl; (exact rfl); exact rfl; rintro _ rfl) | (apply ds_call; exact rfl; exact rfl; apply h7; exact rfl; (exact rfl); exact rfl; rintro _ rfl) | (apply ds_call; exact rfl; exact rfl; apply h2; exact rfl; (exact rfl); exact rfl; rintro _ rfl) | (apply ds_call; exact rfl; exact rfl; apply wireBegun_fn; exact rfl; (exact rfl); exact rfl; rintro _ rfl) | (apply ds_newC; exact rfl; (with_reducible exact trivial); exact rfl; exact rfl; exact rfl) | (apply ds_setC; exact rfl; exact rfl; exact rfl; exact rfl) | (apply dw_condP; exact rfl; all_goals intro hg))
      all_goals first
        | exact absurd rfl hg
        | exact absurd (Decidable.not_not.1 hg) hf
        | exact ret_b rfl (by simp [noUpd])
    · rw [if_neg hc] at h1
      dsimp only at h1
      repeat' (first | (apply ds_evC; exact rfl; (first | (with_reducible exact trivial) | omega); (with_reducible exact rfl); exact rfl; exact rfl; exact rfl) | apply ds_nil | apply dw_seq2 | apply ds_region | apply dw_skip | apply dw_ret | (apply dw_condF; exact rfl) | apply thenD_n | apply thenD_r | (apply ds_call; exact rfl; exact rfl; apply h1; exact rfl; (exact rfl); exact rfl; rintro _ rfl) | (apply ds_call; exact rfl; exact rfl; apply h2; exact rfl; (exact rfl); exact rfl; rintro _ rfl) | (apply ds_call; exact rfl; exact rfl; apply wireBegun_fn; exact rfl; (exact rfl); exact rfl; rintro _ rfl) | (apply ds_newC; exact rfl; (with_reducible exact trivial); exact rfl; exact rfl; exact rfl) | (apply ds_setC; exact rfl; exact rfl; exact rfl; exact rfl) | (apply dw_condP; exact rfl; all_goals intro hg))
      all_goals first
        | exact absurd hg hc
        | exact absurd rfl hg
        | exact absurd (Decidable.not_not.1 hg) hf
        | exact ret_b rfl (by simp [noUpd])

end Go.Proofs.Ytapciiffpnociaa
