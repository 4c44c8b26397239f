/- The document's CheckUpdate. Condition: none. -/
import Derived.Test.YtapciiffpnociaaWirC
namespace Go.Proofs.Ytapciiffpnociaa
open Go Go.RowKit
attribute [local irreducible] DW DS DL DQ Ev FnOk FnP thenD inBlockD DT

theorem saysB_pred {f : Fct} (h : inR f.pred 0 9 = false) : saysB f = false := by unfold saysB; rw [h]; rfl
theorem saysB_many {f : Fct} (h : ¬ f.args.length ≤ 3) : saysB f = false := by unfold saysB; rw [decide_eq_false h, Bool.false_and, Bool.and_false]
theorem saysB_all {f : Fct} (h1 : inR f.pred 0 9 = true) (h2 : f.args.length ≤ 3) : saysB f = f.args.all numB := by unfold saysB; rw [h1, decide_eq_true h2, Bool.true_and, Bool.true_and]

set_option maxHeartbeats 8000000 in
theorem checkUpdate_fn (u : Upd) : Fn 22 [elUpd u] (fun r => r = .d (.int .i64 (checkU u))) := by
  refine fnp_enter' _ Try.func22 rfl rfl (by kernel_rfl) ?_
  intro O w0 E0 β0
  have h1 := areIds_fn u.parents
  have h2 := areIds_fn u.takes
  have h3 := idsRise_fn u.parents
  have h4 := idsRise_fn u.takes
  have h5 := hasId_fn u.parents ⟨u.id.author, u.id.number - 1⟩
  have h8 := isId_fn u.id
  have hid := fun h => (idB_parts (i := u.id) h).2.2.2
  have hid1 := fun h => (idB_parts (i := u.id) h).2.2.1
  generalize hans : checkU u = ans
  unfold checkU at hans
  generalize idB u.id = b0 at *
  have hidN : b0 = false ∨ (b0 = true ∧ 1 ≤ u.id.number ∧ u.id.number ≤ 200) := by
    cases b0 with
    | false => exact .inl rfl
    | true => exact .inr ⟨rfl, hid1 rfl, hid rfl⟩
  clear hid hid1
  rcases hidN with rfl | ⟨rfl, n1, n2⟩
  · repeat' (first | (apply ds_evC; exact rfl; (with_reducible exact trivial); (with_reducible exact rfl); exact rfl; exact rfl; exact rfl) | apply ds_nil | apply dw_seq2 | apply ds_region | apply dw_ret | (apply dw_condT; exact rfl) | apply thenD_n | apply thenD_r | (apply ds_call; exact rfl; exact rfl; apply h8; exact rfl; (exact rfl); exact rfl; rintro _ rfl) | (apply ds_newC; exact rfl; (with_reducible exact trivial); exact rfl; exact rfl; exact rfl))
    all_goals exact ret_i rfl (by simpa using hans)
  generalize (u.parents.all fun x => idB x) = b1 at *
  generalize (u.takes.all fun x => idB x) = b2 at *
  generalize rises ordId u.parents = b3 at *
  generalize rises ordId u.takes = b4 at *
  generalize (u.parents.any fun x => x.same ⟨u.id.author, u.id.number - 1⟩) = b5 at *
  repeat' (first | (apply ds_evC; exact rfl; (first | (with_reducible exact trivial) | omega); (with_reducible exact rfl); exact rfl; exact rfl; exact rfl) | (apply ds_skip; exact rfl; exact rfl) | apply ds_nil | apply dw_seq2 | apply ds_region | apply dw_block | apply dw_skip | apply dw_ret | (apply dw_condT; exact rfl) | (apply dw_condF; exact rfl) | apply thenD_n | apply thenD_r | (apply ds_call; exact rfl; exact rfl; apply h8; exact rfl; (exact rfl); exact rfl; rintro _ rfl) | (apply ds_call; exact rfl; exact rfl; apply h1; exact rfl; (exact rfl); exact rfl; rintro _ rfl) | (apply ds_call; exact rfl; exact rfl; apply h2; exact rfl; (exact rfl); exact rfl; rintro _ rfl) | (apply ds_call; exact rfl; exact rfl; apply h3; exact rfl; (exact rfl); exact rfl; rintro _ rfl) | (apply ds_call; exact rfl; exact rfl; apply h4; exact rfl; (exact rfl); exact rfl; rintro _ rfl) | (apply ds_call; exact rfl; exact rfl; apply h5; exact rfl; (exact rfl); exact rfl; rintro _ rfl) | (apply ds_newC; exact rfl; (with_reducible exact trivial); exact rfl; exact rfl; exact rfl) | (apply dw_condP; exact rfl; all_goals intro hg) | (apply dw_cond; exact rfl; all_goals intro hg) | ((fail_if_success (apply ds_known; exact rfl)); apply ds_guardP; exact rfl; exact rfl; exact rfl; all_goals intro hg) | ((fail_if_success (apply ds_known; exact rfl)); apply ds_guardB; exact rfl; exact rfl; exact rfl; all_goals intro hg))
  all_goals first
    | (refine ret_i rfl ?_
       clear h1 h2 h3 h4 h5 h8
       first | (simp_all; done) | (simp_all; omega) | (simp_all; intros; omega))
    | skip
  all_goals
    have hC : ans = if u.says.all saysB = false then 3 else if rises ordF u.says = false then 4 else 0 := by
      clear h1 h2 h3 h4 h5 h8
      have l1 : (u.parents.map encId).length = u.parents.length := List.length_map _
      have l2 : (u.says.map encFct).length = u.says.length := List.length_map _
      have l3 : (u.takes.map encId).length = u.takes.length := List.length_map _
      rw [← hans, if_neg (by simp), if_neg (by omega), if_neg (by simp_all), if_neg (by simp_all), if_neg (by first | (simp_all; done) | (simp_all; omega))]
    clear hans h1 h2 h3 h4 h5 h8
    refine dw_lenC 0 3 rfl rfl fun hb => ?_
    have ls : (u.says.map encFct).length = u.says.length := List.length_map _
    refine ds_loop (ι := Nat) (fun i => ⟨1, [(1, .loc 0 0), (3, .d (.int .i64 i))], [(0, .blk 40 [.d (.int .i64 u.id.author), .d (.int .i64 u.id.number), .d (.slice 2 (u.parents.map encId)), .d (.slice 2 (u.says.map encFct)), .d (.slice 2 (u.takes.map encId))])]⟩)
      (fun i => i ≤ u.says.length ∧ u.says.all saysB = (u.says.drop i).all saysB) (fun i => u.says.length - i) 0 ⟨Nat.zero_le _, rfl⟩
      (ent_ren id ⟨rfl, rfl, trivial⟩ ⟨rfl, trivial⟩ rfl rfl rfl rfl rfl rfl) ?_
    rintro i ⟨g1, g2⟩
    repeat' (first | (apply ds_evC; exact rfl; (with_reducible exact trivial); (with_reducible exact rfl); exact rfl; exact rfl; exact rfl) | apply ds_nil | apply dw_seq2 | apply ds_region | apply thenD_n)
    refine dw_condP rfl (fun h => ?_) (fun h => ?_)
    · have hi : i < u.says.length := by omega
      have hd := all_step (p := saysB) hi
      generalize hf : u.says[i] = f at hd
      repeat' (first | (apply ds_evC; exact rfl; (first | (with_reducible exact trivial) | omega); (first | ((with_reducible apply hv_row); (exact rfl); (omega)) | (with_reducible exact rfl)); exact rfl; exact rfl; exact rfl) | apply ds_nil | apply dw_seq2 | apply ds_region | apply dw_block | apply dw_skip | apply thenD_n | (apply ds_newC; exact rfl; (with_reducible exact trivial); exact rfl; exact rfl; exact rfl) | (apply ds_setC; exact rfl; exact rfl; exact rfl; exact rfl))
      rw [hf]
      repeat' (first | (apply ds_evC; exact rfl; (with_reducible exact trivial); (with_reducible exact rfl); exact rfl; exact rfl; exact rfl) | (apply ds_skip; exact rfl; exact rfl) | apply ds_nil | apply dw_seq2 | apply ds_region | apply dw_block | apply dw_skip | apply dw_ret | (apply dw_condT; exact rfl) | apply thenD_n | apply thenD_r | apply inB_r | (apply ds_call; exact rfl; exact rfl; apply rbetween_fn; exact rfl; (exact rfl); exact rfl; rintro _ rfl) | (apply dw_condP; exact rfl; all_goals intro hg) | ((fail_if_success (apply ds_known; exact rfl)); apply ds_guardB; exact rfl; exact rfl; exact rfl; all_goals intro hg))
      all_goals first
        | (refine ret_i rfl ?_
           have la : (f.args.map encI).length = f.args.length := List.length_map _
           have hF : saysB f = false := by
             first
               | (apply saysB_many; omega)
               | (apply saysB_pred; simp_all; done)
           rw [hC, g2, hd, hF]; rfl)
        | skip
      have hF : saysB f = f.args.all numB := saysB_all (by simp_all) (by have la : (f.args.map encI).length = f.args.length := List.length_map _; omega)
      refine ds_loop (ι := Nat) (fun k => ⟨2, [(1, .loc 0 0), (3, .d (.int .i64 i)), (4, .loc 1 0), (5, .d (.int .i64 k))], [(0, .blk 40 [.d (.int .i64 u.id.author), .d (.int .i64 u.id.number), .d (.slice 2 (u.parents.map encId)), .d (.slice 2 (u.says.map encFct)), .d (.slice 2 (u.takes.map encId))]), (1, .blk 89 [.d (.int .i64 f.pred), .d (.slice 1 (f.args.map encI))])]⟩)
        (fun k => k ≤ f.args.length ∧ f.args.all numB = (f.args.drop k).all numB) (fun k => f.args.length - k) 0 ⟨Nat.zero_le _, rfl⟩
        (ent_ren id ⟨rfl, rfl, rfl, rfl, trivial⟩ ⟨rfl, rfl, trivial⟩ rfl rfl rfl rfl rfl rfl) ?_
      rintro k ⟨q1, q2⟩
      have la : (f.args.map encI).length = f.args.length := List.length_map _
      repeat' (first | (apply ds_evC; exact rfl; (with_reducible exact trivial); (with_reducible exact rfl); exact rfl; exact rfl; exact rfl) | apply ds_nil | apply dw_seq2 | apply ds_region | apply thenD_n)
      refine dw_condP rfl (fun hk => ?_) (fun hk => ?_)
      · have hkl : k < f.args.length := by omega
        have hd2 := all_step (p := numB) hkl
        repeat' (first | (apply ds_evC; exact rfl; (first | (with_reducible exact trivial) | omega); (first | ((with_reducible apply hv_row); (exact rfl); (omega)) | (with_reducible exact rfl)); exact rfl; exact rfl; exact rfl) | apply ds_nil | apply dw_seq2 | apply ds_region | apply dw_block | apply dw_skip | apply thenD_n | (apply ds_call; exact rfl; exact rfl; apply isNumber_fn; exact rfl; (exact rfl); exact rfl; rintro _ rfl))
        refine dw_cond rfl (fun hn => ?_) (fun hn => ?_)
        · repeat' (first | (apply ds_evC; exact rfl; (with_reducible exact trivial); (with_reducible exact rfl); exact rfl; exact rfl; exact rfl) | apply ds_nil | apply dw_seq2 | apply ds_region | apply dw_ret | apply thenD_n | apply thenD_r | apply inB_r)
          refine ret_i rfl ?_
          have : numB f.args[k] = false := by simpa using hn
          rw [hC, g2, hd, hF, q2, hd2, this]; rfl
        · repeat' (first | (apply ds_evC; exact rfl; (first | (with_reducible exact trivial) | omega); (with_reducible exact rfl); exact rfl; exact rfl; exact rfl) | apply ds_nil | apply ds_region | apply dw_skip | apply thenD_n | apply inB_n)
          have : numB f.args[k] = true := by simpa using hn
          exact ⟨k + 1, ⟨hkl, by rw [q2, hd2, this]; rfl⟩, ent_ren id ⟨rfl, rfl, rfl, rfl, trivial⟩ ⟨rfl, rfl, trivial⟩ rfl rfl rfl rfl rfl rfl, by omega⟩
      · repeat' (first | (apply ds_evC; exact rfl; (first | (with_reducible exact trivial) | omega); (with_reducible exact rfl); exact rfl; exact rfl; exact rfl) | apply ds_nil | apply ds_region | apply dw_exit | apply thenD_n | apply thenD_e | apply inB_n | (apply inB_e; exact rfl))
        exact ⟨i + 1, ⟨hi, by rw [g2, hd, hF, q2, all_end (by omega)]; rfl⟩, ent_ren id ⟨rfl, rfl, trivial⟩ ⟨rfl, trivial⟩ rfl rfl rfl rfl rfl rfl, by omega⟩
    · have hS : u.says.all saysB = true := by rw [g2, all_end (by omega)]
      rw [hS, if_neg (by simp)] at hC
      repeat' (first | (apply ds_evC; exact rfl; (with_reducible exact trivial); (with_reducible exact rfl); exact rfl; exact rfl; exact rfl) | apply ds_nil | apply dw_seq2 | apply ds_region | apply dw_block | apply dw_exit | apply thenD_n | apply thenD_e | (apply inB_e; exact rfl))
      refine ds_loop (ι := Nat) (fun i => ⟨1, [(1, .loc 0 0), (6, .d (.int .i64 ((i : Int) + 1)))], [(0, .blk 40 [.d (.int .i64 u.id.author), .d (.int .i64 u.id.number), .d (.slice 2 (u.parents.map encId)), .d (.slice 2 (u.says.map encFct)), .d (.slice 2 (u.takes.map encId))])]⟩)
        (fun i => i ≤ u.says.length ∧ rises ordF u.says = rises ordF (u.says.drop i)) (fun i => u.says.length - i) 0 ⟨Nat.zero_le _, rfl⟩
        (ent_ren id ⟨rfl, rfl, trivial⟩ ⟨rfl, trivial⟩ rfl rfl rfl rfl rfl rfl) ?_
      rintro j ⟨j1, j2⟩
      repeat' (first | (apply ds_evC; exact rfl; (with_reducible exact trivial); (with_reducible exact rfl); exact rfl; exact rfl; exact rfl) | apply ds_nil | apply dw_seq2 | apply ds_region | apply thenD_n)
      refine dw_condP rfl (fun h => ?_) (fun h => ?_)
      · have hj : j + 1 < u.says.length := by omega
        have e0 : ∀ (m : Nat) (hm : m < u.says.length), m = j → u.says[m]'hm = u.says[j]'(by omega) := by rintro m hm rfl; rfl
        repeat' (first | (apply dt_ev; exact rfl; exact rfl; (first | (with_reducible exact trivial) | omega); (first | ((with_reducible apply hv_row); (first | exact nat_add_1 _ | exact (Int.toNat_of_nonneg (by omega)).symm); (omega)) | (with_reducible exact rfl)); exact rfl; exact rfl; exact rfl; exact rfl) | (apply dt_nil0; exact rfl; exact rfl; exact rfl; exact rfl) | apply dw_seq2 | (apply dw_any; kernel_rfl; kernel_rfl; exact rfl) | apply dw_block | apply dw_skip | apply thenD_n | (apply dt_call; exact rfl; exact rfl; apply orderOf_fn; exact rfl; (exact rfl); exact rfl; exact rfl; exact ⟨_, rfl⟩; rintro _ rfl))
        refine dw_condP rfl (fun hb => ?_) (fun hb => ?_)
        · repeat' (first | (apply ds_evC; exact rfl; (with_reducible exact trivial); (with_reducible exact rfl); exact rfl; exact rfl; exact rfl) | apply ds_nil | apply dw_seq2 | apply ds_region | apply dw_ret | apply thenD_n | apply thenD_r | apply inB_r)
          rw [e0 _ _ (by omega)] at hb
          exact ret_i rfl (by rw [hC, j2, rises_bad hj (by omega)]; rfl)
        · repeat' (first | (apply ds_evC; exact rfl; (first | (with_reducible exact trivial) | omega); (with_reducible exact rfl); exact rfl; exact rfl; exact rfl) | apply ds_nil | apply ds_region | apply dw_skip | apply thenD_n | apply inB_n)
          rw [e0 _ _ (by omega)] at hb
          exact ⟨j + 1, ⟨by omega, by rw [j2, rises_ok hj (by omega)]⟩, ent_ren id ⟨rfl, rfl, trivial⟩ ⟨rfl, trivial⟩ rfl rfl rfl rfl rfl rfl, by omega⟩
      · repeat' (first | (apply ds_evC; exact rfl; (with_reducible exact trivial); (with_reducible exact rfl); exact rfl; exact rfl; exact rfl) | apply ds_nil | apply dw_seq2 | apply ds_region | apply dw_exit | apply dw_ret | apply thenD_n | apply thenD_e | (apply inB_e; exact rfl))
        exact ret_i rfl (by rw [hC, j2, rises_end (by omega)]; rfl)
end Go.Proofs.Ytapciiffpnociaa
