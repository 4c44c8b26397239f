/- The document's bytes of updates. Condition: none. -/
import Derived.Test.YtapciiffpnociaaWirF
namespace Go.Proofs.Ytapciiffpnociaa
open Go Go.RowKit
attribute [local irreducible] DW DS DL DQ Ev FnOk FnP thenD inBlockD DT

theorem strB_app (a b : List UInt8) : strB a ++ strB b = strB (a ++ b) := by
  apply ByteArray.ext
  apply Array.ext'
  simp [strB]
theorem strB_size (a : List UInt8) : (strB a).size = a.length := by simp [strB, ByteArray.size]
theorem byte_rem (m : Nat) : bytesD [[D.int .u8 (IntKind.u8.wrap (((m : Nat) : Int).tmod 256))]] = strB [UInt8.ofNat m] := by
  have e : ((m : Nat) : Int).tmod 256 = ((m % 256 : Nat) : Int) := rfl
  rw [e]
  have e2 : ((m : Int) % 256).toNat = m % 256 := by omega
  have e3 : UInt8.ofNat (m % 256) = UInt8.ofNat m := UInt8.toNat_inj.1 (by simp)
  unfold bytesD strB
  simp [byteD, IntKind.wrap_u8, e2, e3]
theorem byte_quo (m : Nat) : ((m : Nat) : Int).tdiv 256 = ((m / 256 : Nat) : Int) := rfl

set_option maxHeartbeats 8000000 in
theorem bytes_fn (n : Int) (k : Nat) (h1 : -4294967296 ≤ n) (h2 : n < 4294967296) (hk : k ≤ 4) : Fn 86 [.d (.int .i64 n), .d (.int .i64 k)] (fun r => r = .d (.str (strB (put n k)))) := by
  refine fnp_enter' _ Try.func86 rfl rfl (by kernel_rfl) ?_
  intro O w0 E0 β0
  unfold put
  have hn0 : (n % 4294967296).toNat < 4294967296 := by omega
  have hs1 : (strB []).size = 0 := rfl
  repeat' (first | (apply ds_evC; exact rfl; (with_reducible exact trivial); (with_reducible exact rfl); exact rfl; exact rfl; exact rfl) | apply ds_nil | apply dw_seq2 | apply ds_region | apply thenD_n)
  refine dw_condP rfl (fun hneg => ?_) (fun hneg => ?_)
  all_goals
    repeat' (first | (apply ds_evC; exact rfl; (first | (with_reducible exact trivial) | omega); (with_reducible exact rfl); exact rfl; exact rfl; exact rfl) | apply ds_nil | apply dw_seq2 | apply ds_region | apply dw_block | apply dw_skip | apply thenD_n)
    first
      | rw [show n + 4294967296 = (((n % 4294967296).toNat : Nat) : Int) by omega]
      | (generalize hnn : (n % 4294967296).toNat = n0 at *; obtain rfl : n = (n0 : Int) := by omega)
    try generalize (n % 4294967296).toNat = n0 at *
    refine ds_loop (ι := Nat × Nat × List UInt8) (fun x => ⟨0, [(0, .d (.int .i64 x.2.1)), (1, .d (.int .i64 k)), (5, .d (.str (strB x.2.2))), (6, .d (.int .i64 x.1))], []⟩)
      (fun x => x.1 ≤ k ∧ x.2.2.length = x.1 ∧ x.2.1 < 4294967296 ∧ putN n0 k = x.2.2 ++ putN x.2.1 (k - x.1)) (fun x => k - x.1) (0, n0, []) ⟨Nat.zero_le _, rfl, hn0, rfl⟩
      (ent_ren id ⟨rfl, rfl, rfl, rfl, trivial⟩ trivial rfl rfl rfl rfl rfl rfl) ?_
    rintro ⟨i, m, cs⟩ ⟨g1, g2, g3, g4⟩
    dsimp only at g1 g2 g3 g4 ⊢
    have z1 : (strB cs).size ≤ 4 := by rw [strB_size]; omega
    have z2 : (bytesD [[D.int .u8 (IntKind.u8.wrap (((m : Nat) : Int).tmod 256))]]).size = 1 := rfl
    have z3 := byte_quo m
    repeat' (first | (apply ds_evC; exact rfl; (with_reducible exact trivial); (with_reducible exact rfl); exact rfl; exact rfl; exact rfl) | apply ds_nil | apply dw_seq2 | apply ds_region | apply thenD_n)
    refine dw_condP rfl (fun h => ?_) (fun h => ?_)
    · have hi : i < k := by omega
      repeat' (first | (apply ds_evC; exact rfl; (first | (with_reducible exact trivial) | omega | (with_reducible exact bytesOk_one) | (unfold maxLen at *; omega)); (with_reducible exact rfl); exact rfl; exact rfl; exact rfl) | apply ds_nil | apply dw_seq2 | apply ds_region | apply dw_block | apply dw_skip | apply thenD_n | apply inB_n | (apply ds_bsC; exact rfl; exact rfl; exact rfl; exact rfl))
      refine ⟨(i + 1, m / 256, cs ++ [UInt8.ofNat m]), ⟨hi, by simp; omega, by show m / 256 < _; omega, ?_⟩, ?_, ?_⟩
      · dsimp only
        rw [g4, show k - i = (k - (i + 1)) + 1 by omega, putN]; simp
      · dsimp only
        rw [byte_rem, byte_quo, strB_app]
        exact ent_ren id ⟨rfl, rfl, rfl, rfl, trivial⟩ trivial rfl rfl rfl rfl rfl rfl
      · show k - (i + 1) < k - i; omega
    · repeat' (first | (apply ds_evC; exact rfl; (with_reducible exact trivial); (with_reducible exact rfl); exact rfl; exact rfl; exact rfl) | apply ds_nil | apply dw_seq2 | apply ds_region | apply dw_exit | apply dw_ret | apply thenD_n | apply thenD_e | (apply inB_e; exact rfl))
      refine ret_d rfl ?_
      have hik : i = k := by omega
      subst hik
      rw [Nat.sub_self] at g4
      rw [g4]; simp [putN]

theorem nums {n : Int} (h : numB n = true) : -4294967296 ≤ n ∧ n < 4294967296 := by
  unfold numB inR at h
  simp only [Bool.and_eq_true, decide_eq_true_eq] at h
  omega

set_option maxHeartbeats 8000000 in
theorem idsBytes_fn (l : List UId) (hl : l.length ≤ 6) (hok : l.all idB = true) : Fn 87 [.d (.slice 2 (l.map encId))] (fun r => r = .d (.str (strB (putIds l)))) := by
  refine fnp_enter' _ Try.func87 rfl rfl (by kernel_rfl) ?_
  intro O w0 E0 β0
  have ll : (l.map encId).length = l.length := List.length_map _
  have hc := bytes_fn l.length 1 (by omega) (by omega) (by omega)
  rw [← ll] at hc
  have p1 : (put (l.length : Int) 1).length = 1 := putN_len 1 _
  repeat' (first | (apply ds_evC; exact rfl; (with_reducible exact trivial); (with_reducible exact rfl); exact rfl; exact rfl; exact rfl) | apply ds_nil | apply dw_seq2 | apply ds_region | apply dw_block | apply thenD_n | (apply ds_call; exact rfl; exact rfl; apply hc; exact rfl; (exact rfl); exact rfl; rintro _ rfl))
  rw [ll]
  refine ds_loop (ι := Nat × List UInt8) (fun x => ⟨0, [(0, .d (.slice 2 (l.map encId))), (3, .d (.str (strB x.2))), (4, .d (.int .i64 x.1))], []⟩)
    (fun x => x.1 ≤ l.length ∧ x.2.length = 1 + 3 * x.1 ∧ putIds l = x.2 ++ (l.drop x.1).flatMap putId) (fun x => l.length - x.1) (0, put l.length 1) ⟨Nat.zero_le _, p1, rfl⟩
    (ent_ren id ⟨rfl, rfl, rfl, trivial⟩ trivial rfl rfl rfl rfl rfl rfl) ?_
  rintro ⟨i, cs⟩ ⟨h1, h2, h3⟩
  dsimp only at h1 h2 h3 ⊢
  repeat' (first | (apply ds_evC; exact rfl; (with_reducible exact trivial); (with_reducible exact rfl); exact rfl; exact rfl; exact rfl) | apply ds_nil | apply dw_seq2 | apply ds_region | apply thenD_n)
  refine dw_condP rfl (fun h => ?_) (fun h => ?_)
  · have hi : i < l.length := by omega
    have hd : (l.drop i).flatMap putId = putId l[i] ++ (l.drop (i + 1)).flatMap putId := by rw [List.drop_eq_getElem_cons hi, List.flatMap_cons]
    obtain ⟨a1, a2, a3, a4⟩ := idB_parts (List.all_eq_true.1 hok _ (List.getElem_mem hi))
    have c1 := bytes_fn l[i].author 1 (by omega) (by omega) (by omega)
    have c2 := bytes_fn l[i].number 2 (by omega) (by omega) (by omega)
    have z1 : (strB (put l[i].author 1)).size = 1 := by rw [strB_size]; exact putN_len 1 _
    have z2 : (strB (put l[i].number 2)).size = 2 := by rw [strB_size]; exact putN_len 2 _
    have z3 : (strB cs).size ≤ 1000 := by rw [strB_size]; omega
    have z4 : (strB (put l[i].author 1) ++ strB (put l[i].number 2)).size = 3 := by rw [ByteArray.size_append, z1, z2]
    repeat' (first | (apply ds_evC; exact rfl; (first | (with_reducible exact trivial) | omega); (with_reducible exact rfl); exact rfl; exact rfl; exact rfl) | apply ds_nil | (apply dt_ev; exact rfl; exact rfl; (first | (with_reducible exact trivial) | omega | (unfold maxLen at *; omega)); (first | ((with_reducible apply hv_row); (exact rfl); (omega)) | (with_reducible exact rfl)); exact rfl; exact rfl; exact rfl; exact rfl) | (apply dt_nil0; exact rfl; exact rfl; exact rfl; exact rfl) | apply dw_seq2 | apply ds_region | (apply dw_any; kernel_rfl; kernel_rfl; exact rfl) | apply dw_block | apply dw_skip | apply thenD_n | apply inB_n | (apply dt_call; exact rfl; exact rfl; apply c1; exact rfl; (exact rfl); exact rfl; exact rfl; exact ⟨_, rfl⟩; rintro _ rfl) | (apply dt_call; exact rfl; exact rfl; apply c2; exact rfl; (exact rfl); exact rfl; exact rfl; exact ⟨_, rfl⟩; rintro _ rfl))
    refine ⟨(i + 1, cs ++ putId l[i]), ⟨hi, by rw [List.length_append, putId_len]; omega, by rw [h3, hd, List.append_assoc]⟩, ?_, by show l.length - (i + 1) < l.length - i; omega⟩
    dsimp only
    rw [strB_app, strB_app]
    exact ent_ren id ⟨rfl, rfl, rfl, trivial⟩ trivial rfl rfl rfl rfl rfl rfl
  · repeat' (first | (apply ds_evC; exact rfl; (with_reducible exact trivial); (with_reducible exact rfl); exact rfl; exact rfl; exact rfl) | apply ds_nil | apply dw_seq2 | apply ds_region | apply dw_exit | apply dw_ret | apply thenD_n | apply thenD_e | (apply inB_e; exact rfl))
    refine ret_d rfl ?_
    rw [h3, List.drop_of_length_le (by omega)]; simp

theorem putFact_len (f : Fct) : (putFact f).length = 2 + 4 * f.args.length := by
  unfold putFact
  have : ∀ l : List Int, (l.flatMap fun n => put n 4).length = 4 * l.length := by
    intro l
    induction l with
    | nil => rfl
    | cons n l ih => rw [List.flatMap_cons, List.length_append, ih, show (put n 4).length = 4 from putN_len 4 _, List.length_cons]; omega
  rw [List.length_append, List.length_append, this, show (put f.pred 1).length = 1 from putN_len 1 _, show (put (f.args.length : Int) 1).length = 1 from putN_len 1 _]

set_option maxHeartbeats 8000000 in
theorem encodeOf_fn (u : Upd) (g : GoodU u) : Fn 23 [elUpd u] (fun r => r = .d (.str (strB (encodeU u)))) := by
  refine fnp_enter' _ Try.func23 rfl rfl (by kernel_rfl) ?_
  intro O w0 E0 β0
  obtain ⟨a1, a2, a3, a4⟩ := idB_parts g.id
  have ls : (u.says.map encFct).length = u.says.length := List.length_map _
  have g1 := g.np
  have g2 := g.ns
  have g3 := g.nt
  have c1 := bytes_fn u.id.author 1 (by omega) (by omega) (by omega)
  have c2 := bytes_fn u.id.number 2 (by omega) (by omega) (by omega)
  have c3 := idsBytes_fn u.parents g1 g.parents
  have c4 := idsBytes_fn u.takes g3 g.takes
  have c5 := bytes_fn u.says.length 1 (by omega) (by omega) (by omega)
  rw [← ls] at c5
  have z1 : (strB (put u.id.author 1)).size = 1 := by rw [strB_size]; exact putN_len 1 _
  have z2 : (strB (put u.id.number 2)).size = 2 := by rw [strB_size]; exact putN_len 2 _
  have z3 : (strB (putIds u.parents)).size ≤ 19 := by rw [strB_size, putIds_len]; omega
  have z4 : (strB (putIds u.takes)).size ≤ 19 := by rw [strB_size, putIds_len]; omega
  have z5 : (strB (put ((u.says.map encFct).length : Int) 1)).size = 1 := by rw [strB_size]; exact putN_len 1 _
  have y1 : (strB (put u.id.author 1) ++ strB (put u.id.number 2)).size = 3 := by rw [ByteArray.size_append, z1, z2]
  have y2 : (strB (put u.id.author 1) ++ strB (put u.id.number 2) ++ strB (putIds u.parents)).size ≤ 22 := by rw [ByteArray.size_append, y1]; omega
  repeat' (first | (apply ds_evC; exact rfl; (with_reducible exact trivial); (with_reducible exact rfl); exact rfl; exact rfl; exact rfl) | apply ds_nil | (apply dt_ev; exact rfl; exact rfl; (first | (with_reducible exact trivial) | (unfold maxLen at *; omega)); (with_reducible exact rfl); exact rfl; exact rfl; exact rfl; exact rfl) | (apply dt_nil0; exact rfl; exact rfl; exact rfl; exact rfl) | apply dw_seq2 | apply ds_region | (apply dw_any; kernel_rfl; kernel_rfl; exact rfl) | apply dw_block | apply thenD_n | (apply dt_call; exact rfl; exact rfl; apply c1; exact rfl; (exact rfl); exact rfl; exact rfl; exact ⟨_, rfl⟩; rintro _ rfl) | (apply dt_call; exact rfl; exact rfl; apply c2; exact rfl; (exact rfl); exact rfl; exact rfl; exact ⟨_, rfl⟩; rintro _ rfl) | (apply dt_call; exact rfl; exact rfl; apply c3; exact rfl; (exact rfl); exact rfl; exact rfl; exact ⟨_, rfl⟩; rintro _ rfl) | (apply dt_call; exact rfl; exact rfl; apply c5; exact rfl; (exact rfl); exact rfl; exact rfl; exact ⟨_, rfl⟩; rintro _ rfl) | (apply ds_newC; exact rfl; (with_reducible exact trivial); exact rfl; exact rfl; exact rfl))
  rw [ls, strB_app, strB_app, strB_app]
  generalize hB : put u.id.author 1 ++ put u.id.number 2 ++ putIds u.parents ++ put u.says.length 1 = B
  have hBl : B.length ≤ 23 := by
    rw [← hB]
    have e : (put u.id.author 1 ++ put u.id.number 2 ++ putIds u.parents ++ put u.says.length 1).length = 1 + 2 + (putIds u.parents).length + 1 := by
      rw [List.length_append, List.length_append, List.length_append, show (put u.id.author 1).length = 1 from putN_len 1 _, show (put u.id.number 2).length = 2 from putN_len 2 _, show (put (u.says.length : Int) 1).length = 1 from putN_len 1 _]
    rw [e, putIds_len]; omega
  refine ds_loop (ι := Nat × List UInt8) (fun x => ⟨1, [(1, .loc 0 0), (3, .d (.str (strB x.2))), (4, .d (.int .i64 x.1))], [(0, .blk 40 [.d (.int .i64 u.id.author), .d (.int .i64 u.id.number), .d (.slice 2 (u.parents.map encId)), .d (.slice 2 (u.says.map encFct)), .d (.slice 2 (u.takes.map encId))])]⟩)
    (fun x => x.1 ≤ u.says.length ∧ x.2.length ≤ 23 + 20 * x.1 ∧ B ++ u.says.flatMap putFact = x.2 ++ (u.says.drop x.1).flatMap putFact) (fun x => u.says.length - x.1) (0, B) ⟨Nat.zero_le _, hBl, rfl⟩
    (ent_ren id ⟨rfl, rfl, rfl, trivial⟩ ⟨rfl, trivial⟩ rfl rfl rfl rfl rfl rfl) ?_
  rintro ⟨i, cs⟩ ⟨h1, h2, h3⟩
  dsimp only at h1 h2 h3 ⊢
  have zc : (strB cs).size ≤ 1000 := by rw [strB_size]; omega
  repeat' (first | (apply ds_evC; exact rfl; (with_reducible exact trivial); (with_reducible exact rfl); exact rfl; exact rfl; exact rfl) | apply ds_nil | apply dw_seq2 | apply ds_region | apply thenD_n)
  refine dw_condP rfl (fun h => ?_) (fun h => ?_)
  · have hi : i < u.says.length := by omega
    have hd : (u.says.drop i).flatMap putFact = putFact u.says[i] ++ (u.says.drop (i + 1)).flatMap putFact := by rw [List.drop_eq_getElem_cons hi, List.flatMap_cons]
    obtain ⟨f1, f2, f3, f4⟩ := saysB_parts (List.all_eq_true.1 g.says _ (List.getElem_mem hi))
    have la : (u.says[i].args.map encI).length = u.says[i].args.length := List.length_map _
    have d1 := bytes_fn u.says[i].pred 1 (by omega) (by omega) (by omega)
    have d2 := bytes_fn u.says[i].args.length 1 (by omega) (by omega) (by omega)
    rw [← la] at d2
    have x1 : (strB (put u.says[i].pred 1)).size = 1 := by rw [strB_size]; exact putN_len 1 _
    have x2 : (strB (put ((u.says[i].args.map encI).length : Int) 1)).size = 1 := by rw [strB_size]; exact putN_len 1 _
    have x3 : (strB (put u.says[i].pred 1) ++ strB (put ((u.says[i].args.map encI).length : Int) 1)).size = 2 := by rw [ByteArray.size_append, x1, x2]
    repeat' (first | (apply ds_evC; exact rfl; (with_reducible exact trivial); (with_reducible exact rfl); exact rfl; exact rfl; exact rfl) | apply ds_nil | (apply dt_ev; exact rfl; exact rfl; (first | (with_reducible exact trivial) | omega | (unfold maxLen at *; omega)); (first | ((with_reducible apply hv_row); (exact rfl); (omega)) | (with_reducible exact rfl)); exact rfl; exact rfl; exact rfl; exact rfl) | (apply dt_nil0; exact rfl; exact rfl; exact rfl; exact rfl) | apply dw_seq2 | apply ds_region | (apply dw_any; kernel_rfl; kernel_rfl; exact rfl) | apply dw_block | apply dw_skip | apply thenD_n | (apply dt_call; exact rfl; exact rfl; apply d1; exact rfl; (exact rfl); exact rfl; exact rfl; exact ⟨_, rfl⟩; rintro _ rfl) | (apply dt_call; exact rfl; exact rfl; apply d2; exact rfl; (exact rfl); exact rfl; exact rfl; exact ⟨_, rfl⟩; rintro _ rfl))
    rw [la, strB_app, strB_app]
    refine ds_loop (ι := Nat × List UInt8) (fun x => ⟨1, [(1, .loc 0 0), (3, .d (.str (strB x.2))), (4, .d (.int .i64 i)), (5, .d (.int .i64 x.1))], [(0, .blk 40 [.d (.int .i64 u.id.author), .d (.int .i64 u.id.number), .d (.slice 2 (u.parents.map encId)), .d (.slice 2 (u.says.map encFct)), .d (.slice 2 (u.takes.map encId))])]⟩)
      (fun x => x.1 ≤ u.says[i].args.length ∧ x.2.length = cs.length + 2 + 4 * x.1 ∧ cs ++ putFact u.says[i] = x.2 ++ (u.says[i].args.drop x.1).flatMap fun n => put n 4) (fun x => u.says[i].args.length - x.1)
      (0, cs ++ (put u.says[i].pred 1 ++ put u.says[i].args.length 1)) ⟨Nat.zero_le _, by rw [List.length_append, List.length_append, show (put u.says[i].pred 1).length = 1 from putN_len 1 _, show (put (u.says[i].args.length : Int) 1).length = 1 from putN_len 1 _]; omega, by simp [putFact]⟩
      (ent_ren id ⟨rfl, rfl, rfl, rfl, trivial⟩ ⟨rfl, trivial⟩ rfl rfl rfl rfl rfl rfl) ?_
    rintro ⟨j, ds⟩ ⟨j1, j2, j3⟩
    dsimp only at j1 j2 j3 ⊢
    have zd : (strB ds).size ≤ 2000 := by rw [strB_size]; omega
    repeat' (first | (apply ds_evC; exact rfl; (first | (with_reducible exact trivial) | omega); (first | ((with_reducible apply hv_row); (exact rfl); (omega)) | (with_reducible exact rfl)); exact rfl; exact rfl; exact rfl) | apply ds_nil | apply dw_seq2 | apply ds_region | apply thenD_n)
    refine dw_condP rfl (fun hj => ?_) (fun hj => ?_)
    · have hjl : j < u.says[i].args.length := by omega
      have hd2 : ((u.says[i].args.drop j).flatMap fun n => put n 4) = put u.says[i].args[j] 4 ++ (u.says[i].args.drop (j + 1)).flatMap fun n => put n 4 := by rw [List.drop_eq_getElem_cons hjl, List.flatMap_cons]
      have hn := nums (List.all_eq_true.1 f4 _ (List.getElem_mem hjl))
      have d3 := bytes_fn u.says[i].args[j] 4 hn.1 hn.2 (by omega)
      have x4 : (strB (put u.says[i].args[j] 4)).size = 4 := by rw [strB_size]; exact putN_len 4 _
      repeat' (first | (apply ds_evC; exact rfl; (first | (with_reducible exact trivial) | omega | (unfold maxLen at *; omega)); (first | ((with_reducible apply hv_row); (exact rfl); (omega)) | (with_reducible exact rfl)); exact rfl; exact rfl; exact rfl) | apply ds_nil | apply dw_seq2 | apply ds_region | apply dw_block | apply dw_skip | apply thenD_n | apply inB_n | (apply ds_call; exact rfl; exact rfl; apply d3; exact rfl; (exact rfl); exact rfl; rintro _ rfl))
      refine ⟨(j + 1, ds ++ put u.says[i].args[j] 4), ⟨hjl, by rw [List.length_append, show (put u.says[i].args[j] 4).length = 4 from putN_len 4 _]; omega, by rw [j3, hd2, List.append_assoc]⟩, ?_, by show u.says[i].args.length - (j + 1) < u.says[i].args.length - j; omega⟩
      dsimp only
      rw [strB_app]
      exact ent_ren id ⟨rfl, rfl, rfl, rfl, trivial⟩ ⟨rfl, trivial⟩ rfl rfl rfl rfl rfl rfl
    · repeat' (first | (apply ds_evC; exact rfl; (first | (with_reducible exact trivial) | omega); (with_reducible exact rfl); exact rfl; exact rfl; exact rfl) | apply ds_nil | apply ds_region | apply dw_exit | apply thenD_n | apply thenD_e | apply inB_n | (apply inB_e; exact rfl))
      have e : ds = cs ++ putFact u.says[i] := by rw [j3, List.drop_of_length_le (by omega)]; simp
      exact ⟨(i + 1, ds), ⟨hi, by show ds.length ≤ 23 + 20 * (i + 1); omega, by rw [h3, hd, e, List.append_assoc]⟩, ent_ren id ⟨rfl, rfl, rfl, trivial⟩ ⟨rfl, trivial⟩ rfl rfl rfl rfl rfl rfl, by show u.says.length - (i + 1) < u.says.length - i; omega⟩
  · repeat' (first | (apply ds_evC; exact rfl; (first | (with_reducible exact trivial) | (unfold maxLen at *; omega)); (with_reducible exact rfl); exact rfl; exact rfl; exact rfl) | apply ds_nil | apply dw_seq2 | apply ds_region | apply dw_exit | apply dw_ret | apply thenD_n | apply thenD_e | (apply inB_e; exact rfl) | (apply ds_call; exact rfl; exact rfl; apply c4; exact rfl; (exact rfl); exact rfl; rintro _ rfl))
    rw [strB_app]
    refine ret_d rfl ?_
    rw [List.drop_of_length_le (by omega)] at h3
    simp only [List.flatMap_nil, List.append_nil] at h3
    unfold encodeU putId
    rw [hB, h3]
end Go.Proofs.Ytapciiffpnociaa
