/- The program's writer of bytes; Encode. Condition: none. -/
import Derived.Test.YtapciiffpnociaaWirD
namespace Go.Proofs.Ytapciiffpnociaa
open Go Go.RowKit
attribute [local irreducible] DW DS DL DQ Ev FnOk FnP thenD inBlockD DT

abbrev FnH (f : FuncId) (args : List SV) (J k : Nat) (H : Hp) (R : Nat → SV → Hp → Prop) : Prop := FnOk Try.prog tab tab_ok f args J k H R
def encB (b : UInt8) : List D := [.int .u8 (b.toNat : Int)]
abbrev wrHx (bs : List UInt8) (r : Hp) : Hp := (0, .blk 109 [.row 1]) :: (1, .row 5 1 (bs.map encB)) :: r
abbrev wrH (bs : List UInt8) : Hp := wrHx bs []
theorem wrH_snoc (bs : List UInt8) (b : UInt8) : wrH (bs ++ [b]) = [(0, .blk 109 [.row 1]), (1, .row 5 1 (bs.map encB ++ [encB b]))] := by simp [wrH, wrHx]
theorem encB_wrap (v : Nat) : [D.int .u8 (IntKind.u8.wrap (v : Int))] = encB (UInt8.ofNat v) := by simp [encB, IntKind.wrap_u8]
theorem shr8 (v : Nat) : shrN .u32 (v : Int) 8 = ((v / 256 : Nat) : Int) := by
  unfold shrN
  rw [Int.fdiv_eq_ediv_of_nonneg _ (by decide)]
  rfl
theorem wrap32 (n : Int) : IntKind.u32.wrap n = (((n % 4294967296).toNat : Nat) : Int) := by
  rw [IntKind.wrap_u32]; omega

set_option maxHeartbeats 8000000 in
theorem put_fn (bs : List UInt8) (n : Int) (k : Nat) (hb : bs.length ≤ 1000000) (hk : k ≤ 4) : FnH 73 [.loc 0 0, .d (.int .i64 n), .d (.int .i64 k)] 1 2 (wrH bs) (fun k2 r H2 => k2 = 2 ∧ r = .tup [] ∧ H2 = wrH (bs ++ put n k)) := by
  refine fn_enterF _ Try.func73 rfl rfl (by kernel_rfl) ?_
  intro O w0 E0 β0
  unfold put
  repeat' (first | (apply ds_evC; exact rfl; (with_reducible exact trivial); (with_reducible exact rfl); exact rfl; exact rfl; exact rfl) | apply ds_nil | apply dw_seq2 | apply ds_region | apply dw_block | apply thenD_n)
  rw [wrap32]
  generalize (n % 4294967296).toNat = n0
  refine ds_loop (ι := Nat × Nat × List UInt8) (fun x => ⟨2, [(0, .loc 0 0), (6, .d (.int .u32 x.2.1)), (9, .d (.int .i64 k)), (10, .d (.int .i64 x.1))], wrH x.2.2⟩)
    (fun x => x.1 ≤ k ∧ x.2.2.length = bs.length + x.1 ∧ bs ++ putN n0 k = x.2.2 ++ putN x.2.1 (k - x.1)) (fun x => k - x.1) (0, n0, bs) ⟨Nat.zero_le _, rfl, rfl⟩
    (ent_ren id ⟨rfl, rfl, rfl, rfl, trivial⟩ ⟨rfl, rfl, trivial⟩ rfl rfl rfl rfl rfl rfl) ?_
  rintro ⟨j, v, cs⟩ ⟨h1, h2, h3⟩
  dsimp only at h1 h2 h3 ⊢
  have lc : (cs.map encB).length = cs.length := List.length_map _
  repeat' (first | (apply ds_evC; exact rfl; (with_reducible exact trivial); (with_reducible exact rfl); exact rfl; exact rfl; exact rfl) | apply ds_nil | apply dw_seq2 | apply ds_region | apply thenD_n)
  refine dw_condP rfl (fun h => ?_) (fun h => ?_)
  · have hj : j < k := by omega
    repeat' (first | (apply ds_evC; exact rfl; (first | (with_reducible exact trivial) | omega); (with_reducible exact rfl); exact rfl; exact rfl; exact rfl) | apply ds_nil | apply dw_seq2 | apply ds_region | apply dw_block | apply dw_skip | apply thenD_n | apply inB_n | (apply ds_setC; exact rfl; exact rfl; exact rfl; exact rfl) | (apply ds_bsC; exact rfl; exact rfl; exact rfl; exact rfl) | (apply ds_tradeC; exact rfl; (unfold maxLen; simp <;> omega); exact rfl; exact rfl; exact rfl; exact rfl))
    refine ⟨(j + 1, v / 256, cs ++ [UInt8.ofNat v]), ⟨hj, ?_, ?_⟩, ?_, ?_⟩
    · simp; omega
    · dsimp only
      rw [h3, show k - j = (k - (j + 1)) + 1 by omega, putN]; simp
    · dsimp only
      rw [shr8, encB_wrap, wrH_snoc]
      exact ent_ren (fun i => match i with | 0 => 0 | _ => 2) ⟨rfl, rfl, rfl, rfl, trivial⟩ ⟨rfl, rfl, trivial⟩ rfl rfl rfl rfl rfl rfl
    · show k - (j + 1) < k - j; omega
  · repeat' (first | apply dw_exit | apply thenD_e | (apply inB_e; exact rfl))
    have hjk : j = k := by omega
    subst hjk
    rw [Nat.sub_self] at h3
    have h4 : bs ++ putN n0 j = cs := by rw [h3]; simp [putN]
    exact ⟨.inr rfl, _, rfl, 2, wrH cs, ⟨rfl, rfl, trivial⟩, rfl, rfl, rfl, rfl, rfl, rfl, by rw [h4]⟩

set_option maxHeartbeats 8000000 in
theorem putId_fn (bs : List UInt8) (i : UId) (hb : bs.length ≤ 999000) : FnH 71 [.loc 0 0, elId i] 1 2 (wrH bs) (fun k2 r H2 => k2 = 2 ∧ r = .tup [] ∧ H2 = wrH (bs ++ putId i)) := by
  refine fn_enterF _ Try.func71 rfl rfl (by kernel_rfl) ?_
  intro O w0 E0 β0
  repeat' (first | (apply ds_evC; exact rfl; (with_reducible exact trivial); (with_reducible exact rfl); exact rfl; exact rfl; exact rfl) | apply ds_nil | apply dw_seq2 | apply ds_region | apply thenD_n | (apply ds_newC; exact rfl; (with_reducible exact trivial); exact rfl; exact rfl; exact rfl))
  have hp1 : (put i.author 1).length = 1 := putN_len 1 _
  have hp2 : (bs ++ put i.author 1).length ≤ 1000000 := by rw [List.length_append]; omega
  (refine ds_callF id (put_fn bs i.author 1 (by omega) (by omega)) rfl rfl rfl rfl ⟨rfl, rfl, trivial⟩ rfl rfl rfl rfl rfl rfl ?_ ?_)
  · rintro k2 r H2 ⟨rfl, rfl, rfl⟩
    exact ⟨rfl, rfl⟩
  rintro k2 r H2 ⟨rfl, rfl, rfl⟩
  change DS _ _ _ _ _ _ _ _
  refine ds_ent (ent_ren (k' := 3) (L' := [(0, .loc 0 0), (3, .loc 2 0)]) (H' := wrHx (bs ++ put i.author 1) [(2, .blk 36 [.d (.int .i64 i.author), .d (.int .i64 i.number)])]) (fun j => match j with | 0 => 0 | 1 => 4 | _ => 2) ⟨rfl, rfl, trivial⟩ ⟨rfl, rfl, rfl, trivial⟩ rfl rfl rfl rfl rfl rfl) ?_
  repeat' (first | (apply ds_evC; exact rfl; (with_reducible exact trivial); (with_reducible exact rfl); exact rfl; exact rfl; exact rfl) | apply ds_nil | apply ds_region | apply thenD_n)
  (refine ds_callF id (put_fn (bs ++ put i.author 1) i.number 2 hp2 (by omega)) rfl rfl rfl rfl ⟨rfl, rfl, trivial⟩ rfl rfl rfl rfl rfl rfl ?_ ?_)
  · rintro k2 r H2 ⟨rfl, rfl, rfl⟩
    exact ⟨rfl, rfl⟩
  rintro k2 r H2 ⟨rfl, rfl, rfl⟩
  change DS _ _ _ _ _ _ _ _
  refine ds_ent (ent_ren (k' := 2) (L' := []) (H' := wrH (bs ++ put i.author 1 ++ put i.number 2)) (fun j => match j with | 0 => 0 | _ => 4) trivial ⟨rfl, rfl, trivial⟩ rfl rfl rfl rfl rfl rfl) ?_
  repeat' (apply ds_nil)
  exact ⟨.inr rfl, _, rfl, 2, wrH _, ⟨rfl, rfl, trivial⟩, rfl, rfl, rfl, rfl, rfl, rfl, by rw [putId, List.append_assoc]⟩

theorem putId_len (i : UId) : (putId i).length = 3 := by unfold putId; rw [List.length_append]; rw [show (put i.author 1).length = 1 from putN_len 1 _, show (put i.number 2).length = 2 from putN_len 2 _]

set_option maxHeartbeats 8000000 in
theorem putIds_fn (bs : List UInt8) (l : List UId) (hb : bs.length ≤ 990000) (hl : l.length ≤ 100) : FnH 72 [.loc 0 0, .d (.slice 2 (l.map encId))] 1 2 (wrH bs) (fun k2 r H2 => k2 = 2 ∧ r = .tup [] ∧ H2 = wrH (bs ++ putIds l)) := by
  refine fn_enterF _ Try.func72 rfl rfl (by kernel_rfl) ?_
  intro O w0 E0 β0
  have ll : (l.map encId).length = l.length := List.length_map _
  repeat' (first | (apply ds_evC; exact rfl; (with_reducible exact trivial); (with_reducible exact rfl); exact rfl; exact rfl; exact rfl) | apply dw_seq2 | apply ds_region)
  have hc := put_fn bs l.length 1 (by omega) (by omega)
  rw [← ll] at hc
  (refine ds_callF id (hc) rfl rfl rfl rfl ⟨rfl, rfl, trivial⟩ rfl rfl rfl rfl rfl rfl ?_ ?_)
  · rintro k2 r H2 ⟨rfl, rfl, rfl⟩
    exact ⟨rfl, rfl⟩
  rintro k2 r H2 ⟨rfl, rfl, rfl⟩
  rw [ll]
  change DS _ _ _ _ _ _ _ _
  refine ds_ent (ent_ren (k' := 2) (L' := [(0, .loc 0 0), (1, .d (.slice 2 (l.map encId)))]) (H' := wrH (bs ++ put l.length 1)) (fun j => match j with | 0 => 0 | _ => 3) ⟨rfl, rfl, trivial⟩ ⟨rfl, rfl, trivial⟩ rfl rfl rfl rfl rfl rfl) ?_
  repeat' (first | (apply ds_evC; exact rfl; (with_reducible exact trivial); (with_reducible exact rfl); exact rfl; exact rfl; exact rfl) | apply ds_nil | apply dw_seq2 | apply ds_region | apply dw_block | apply thenD_n)
  have hp1 : (put (l.length : Int) 1).length = 1 := putN_len 1 _
  refine ds_loop (ι := Nat × List UInt8) (fun x => ⟨2, [(0, .loc 0 0), (10, .d (.slice 2 (l.map encId))), (11, .d (.int .i64 l.length)), (12, .d (.int .i64 x.1))], wrH x.2⟩)
    (fun x => x.1 ≤ l.length ∧ x.2.length = bs.length + 1 + 3 * x.1 ∧ bs ++ putIds l = x.2 ++ (l.drop x.1).flatMap putId) (fun x => l.length - x.1) (0, bs ++ put l.length 1) ⟨Nat.zero_le _, by simp [hp1], by simp [putIds]⟩
    (ent_ren id ⟨rfl, rfl, by simp; rfl, rfl, trivial⟩ ⟨rfl, rfl, trivial⟩ rfl rfl rfl rfl rfl rfl) ?_
  rintro ⟨i, cs⟩ ⟨h1, h2, h3⟩
  dsimp only at h1 h2 h3 ⊢
  repeat' (first | (apply ds_evC; exact rfl; (with_reducible exact trivial); (with_reducible exact rfl); exact rfl; exact rfl; exact rfl) | apply ds_nil | apply dw_seq2 | apply ds_region | apply thenD_n)
  refine dw_condP rfl (fun h => ?_) (fun h => ?_)
  · have hi : i < l.length := by omega
    have hd : (l.drop i).flatMap putId = putId l[i] ++ (l.drop (i + 1)).flatMap putId := by rw [List.drop_eq_getElem_cons hi, List.flatMap_cons]
    repeat' (first | (apply ds_evC; exact rfl; (first | (with_reducible exact trivial) | omega); (first | ((with_reducible apply hv_row); (exact rfl); (omega)) | (with_reducible exact rfl)); exact rfl; exact rfl; exact rfl) | apply ds_nil | apply dw_seq2 | apply ds_region | apply dw_block | apply dw_skip | apply thenD_n | (apply ds_newC; exact rfl; (with_reducible exact trivial); exact rfl; exact rfl; exact rfl) | (apply ds_setC; exact rfl; exact rfl; exact rfl; exact rfl))
    (refine ds_callF id (putId_fn cs l[i] (by omega)) rfl rfl rfl rfl ⟨rfl, rfl, trivial⟩ rfl rfl rfl rfl rfl rfl ?_ ?_)
    · rintro k2 r H2 ⟨rfl, rfl, rfl⟩
      exact ⟨rfl, rfl⟩
    rintro k2 r H2 ⟨rfl, rfl, rfl⟩
    change DS _ _ _ _ _ _ _ _
    refine ds_ent (ent_ren (k' := 2) (L' := [(0, .loc 0 0), (10, .d (.slice 2 (l.map encId))), (11, .d (.int .i64 l.length)), (12, .d (.int .i64 i))]) (H' := wrH (cs ++ putId l[i])) (fun j => match j with | 0 => 0 | _ => 4) ⟨rfl, rfl, rfl, rfl, trivial⟩ ⟨rfl, rfl, trivial⟩ rfl rfl rfl rfl rfl rfl) ?_
    repeat' (first | (apply ds_evC; exact rfl; (first | (with_reducible exact trivial) | omega); (with_reducible exact rfl); exact rfl; exact rfl; exact rfl) | apply ds_nil | apply ds_region | apply thenD_n | apply inB_n)
    exact ⟨(i + 1, cs ++ putId l[i]), ⟨hi, by rw [List.length_append, putId_len]; omega, by rw [h3, hd, List.append_assoc]⟩, ent_ren id ⟨rfl, rfl, rfl, rfl, trivial⟩ ⟨rfl, rfl, trivial⟩ rfl rfl rfl rfl rfl rfl, by show l.length - (i + 1) < l.length - i; omega⟩
  · repeat' (first | apply dw_exit | apply thenD_e | (apply inB_e; exact rfl))
    refine ⟨.inr rfl, _, rfl, 2, wrH cs, ⟨rfl, rfl, trivial⟩, rfl, rfl, rfl, rfl, rfl, rfl, ?_⟩
    rw [h3, List.drop_of_length_le (by omega)]
    simp

theorem flatMap_len : ∀ l : List UId, (l.flatMap putId).length = 3 * l.length
  | [] => rfl
  | i :: l => by rw [List.flatMap_cons, List.length_append, putId_len, flatMap_len l, List.length_cons]; omega
theorem putIds_len (l : List UId) : (putIds l).length = 1 + 3 * l.length := by
  unfold putIds
  rw [List.length_append, flatMap_len, show (put (l.length : Int) 1).length = 1 from putN_len 1 _]

/-- Bytes as a string. -/
def strB (l : List UInt8) : ByteArray := ⟨l.toArray⟩
theorem bytesD_enc (l : List UInt8) : bytesD (l.map encB) = strB l := by
  unfold bytesD strB
  congr 2
  rw [List.map_map]
  conv => rhs; rw [← List.map_id l]
  apply List.map_congr_left
  intro b _
  simp [byteD, encB]
theorem bytesOk_enc (l : List UInt8) : BytesOk (l.map encB) := by
  intro x hx
  obtain ⟨b, _, rfl⟩ := List.mem_map.1 hx
  exact ⟨_, rfl⟩

/-- What Encode answers. -/
def encS (u : Upd) : ByteArray × Int := if checkU u = 0 then (strB (encodeU u), 0) else (⟨#[]⟩, checkU u)

set_option maxHeartbeats 8000000 in
theorem encode_fn (u : Upd) : Fn 20 [elUpd u] (fun r => r = .tup [.d (.str (encS u).1), .d (.int .i64 (encS u).2)]) := by
  refine fnp_enter' _ Try.func20 rfl rfl (by kernel_rfl) ?_
  intro O w0 E0 β0
  repeat' (first | (apply ds_evC; exact rfl; (with_reducible exact trivial); (with_reducible exact rfl); exact rfl; exact rfl; exact rfl) | apply ds_nil | apply dw_seq2 | apply ds_region | apply thenD_n | (apply ds_call; exact rfl; exact rfl; apply checkU_fn; exact rfl; (exact rfl); exact rfl; rintro _ rfl) | (apply ds_newC; exact rfl; (with_reducible exact trivial); exact rfl; exact rfl; exact rfl))
  refine dw_condP rfl (fun hc => ?_) (fun hc => ?_)
  · repeat' (first | (apply ds_evC; exact rfl; (with_reducible exact trivial); (with_reducible exact rfl); exact rfl; exact rfl; exact rfl) | apply ds_nil | apply dw_seq2 | apply ds_region | apply dw_ret | apply thenD_n | apply thenD_r)
    exact ret_2 rfl (by unfold encS; rw [if_neg hc]; exact ⟨rfl, rfl⟩)
  · have hc0 : checkU u = 0 := Decidable.not_not.1 hc
    have g := checkU_good hc0
    have l1 : (putId u.id).length = 3 := putId_len _
    have lp : ∀ l : List UId, (putIds l).length = 1 + 3 * l.length := putIds_len
    have p1 : ∀ n : Int, (put n 1).length = 1 := fun n => putN_len 1 _
    have p4 : ∀ n : Int, (put n 4).length = 4 := fun n => putN_len 4 _
    have g1 := g.np
    have g2 := g.ns
    have g3 := g.nt
    have ls : (u.says.map encFct).length = u.says.length := List.length_map _
    repeat' (first | (apply ds_evC; exact rfl; (with_reducible exact trivial); (with_reducible exact rfl); exact rfl; exact rfl; exact rfl) | apply ds_nil | apply dw_seq2 | apply ds_region | apply dw_skip | apply thenD_n | (apply ds_newC; exact rfl; (with_reducible exact trivial); exact rfl; exact rfl; exact rfl))
    refine ds_ent (ent_cellrow 1 0 5 1 rfl rfl rfl) ?_
    refine ds_ent (ent_ren (k' := 3) (L' := [(1, .loc 2 0), (5, .loc 0 0), (17, .loc 0 0), (19, elId u.id)]) (H' := wrHx [] [(2, .blk 40 [.d (.int .i64 u.id.author), .d (.int .i64 u.id.number), .d (.slice 2 (u.parents.map encId)), .d (.slice 2 (u.says.map encFct)), .d (.slice 2 (u.takes.map encId))])]) (fun j => match j with | 0 => 1 | 1 => 2 | _ => 0) ⟨rfl, rfl, rfl, rfl, trivial⟩ ⟨rfl, rfl, rfl, trivial⟩ rfl rfl rfl rfl rfl rfl) ?_
    (refine ds_callF id (putId_fn [] u.id (by simp)) rfl rfl rfl rfl ⟨rfl, rfl, trivial⟩ rfl rfl rfl rfl rfl rfl ?_ ?_)
    · rintro k2 r H2 ⟨rfl, rfl, rfl⟩
      exact ⟨rfl, rfl⟩
    rintro k2 r H2 ⟨rfl, rfl, rfl⟩
    change DS _ _ _ _ _ _ _ _
    refine ds_ent (ent_ren (k' := 3) (L' := [(1, .loc 2 0), (5, .loc 0 0)]) (H' := wrHx (putId u.id) [(2, .blk 40 [.d (.int .i64 u.id.author), .d (.int .i64 u.id.number), .d (.slice 2 (u.parents.map encId)), .d (.slice 2 (u.says.map encFct)), .d (.slice 2 (u.takes.map encId))])]) (fun j => match j with | 0 => 0 | 1 => 4 | j => j) ⟨rfl, rfl, trivial⟩ ⟨rfl, rfl, rfl, trivial⟩ rfl rfl rfl rfl rfl rfl) ?_
    repeat' (first | (apply ds_evC; exact rfl; (with_reducible exact trivial); (with_reducible exact rfl); exact rfl; exact rfl; exact rfl) | apply ds_nil | apply dw_seq2 | apply ds_region | apply thenD_n)
    (refine ds_callF id (putIds_fn (putId u.id) u.parents (by omega) (by omega)) rfl rfl rfl rfl ⟨rfl, rfl, trivial⟩ rfl rfl rfl rfl rfl rfl ?_ ?_)
    · rintro k2 r H2 ⟨rfl, rfl, rfl⟩
      exact ⟨rfl, rfl⟩
    rintro k2 r H2 ⟨rfl, rfl, rfl⟩
    change DS _ _ _ _ _ _ _ _
    refine ds_ent (ent_ren (k' := 3) (L' := [(1, .loc 2 0), (5, .loc 0 0)]) (H' := wrHx (putId u.id ++ putIds u.parents) [(2, .blk 40 [.d (.int .i64 u.id.author), .d (.int .i64 u.id.number), .d (.slice 2 (u.parents.map encId)), .d (.slice 2 (u.says.map encFct)), .d (.slice 2 (u.takes.map encId))])]) (fun j => match j with | 0 => 0 | 1 => 4 | j => j) ⟨rfl, rfl, trivial⟩ ⟨rfl, rfl, rfl, trivial⟩ rfl rfl rfl rfl rfl rfl) ?_
    repeat' (first | (apply ds_evC; exact rfl; (with_reducible exact trivial); (with_reducible exact rfl); exact rfl; exact rfl; exact rfl) | apply ds_nil | apply dw_seq2 | apply ds_region | apply thenD_n)
    have hb2 : (putId u.id ++ putIds u.parents).length ≤ 1000 := by rw [List.length_append, lp]; omega
    have hc3 := put_fn (putId u.id ++ putIds u.parents) u.says.length 1 (by omega) (by omega)
    rw [← ls] at hc3
    (refine ds_callF id (hc3) rfl rfl rfl rfl ⟨rfl, rfl, trivial⟩ rfl rfl rfl rfl rfl rfl ?_ ?_)
    · rintro k2 r H2 ⟨rfl, rfl, rfl⟩
      exact ⟨rfl, rfl⟩
    rintro k2 r H2 ⟨rfl, rfl, rfl⟩
    change DS _ _ _ _ _ _ _ _
    refine ds_ent (ent_ren (k' := 3) (L' := [(1, .loc 2 0), (5, .loc 0 0)]) (H' := wrHx (putId u.id ++ putIds u.parents ++ put (u.says.map encFct).length 1) [(2, .blk 40 [.d (.int .i64 u.id.author), .d (.int .i64 u.id.number), .d (.slice 2 (u.parents.map encId)), .d (.slice 2 (u.says.map encFct)), .d (.slice 2 (u.takes.map encId))])]) (fun j => match j with | 0 => 0 | 1 => 4 | j => j) ⟨rfl, rfl, trivial⟩ ⟨rfl, rfl, rfl, trivial⟩ rfl rfl rfl rfl rfl rfl) ?_
    rw [ls]
    generalize hB : putId u.id ++ putIds u.parents ++ put u.says.length 1 = B
    have hBl : B.length ≤ 1001 := by rw [← hB, List.length_append, p1]; omega
    repeat' (first | (apply ds_evC; exact rfl; (with_reducible exact trivial); (with_reducible exact rfl); exact rfl; exact rfl; exact rfl) | apply ds_nil | apply dw_seq2 | apply ds_region | apply dw_block | apply thenD_n)
    refine ds_loop (ι := Nat × List UInt8) (fun x => ⟨3, [(1, .loc 2 0), (5, .loc 0 0), (31, .d (.slice 2 (u.says.map encFct))), (32, .d (.int .i64 u.says.length)), (33, .d (.int .i64 x.1))], wrHx x.2 [(2, .blk 40 [.d (.int .i64 u.id.author), .d (.int .i64 u.id.number), .d (.slice 2 (u.parents.map encId)), .d (.slice 2 (u.says.map encFct)), .d (.slice 2 (u.takes.map encId))])]⟩)
      (fun x => x.1 ≤ u.says.length ∧ x.2.length ≤ 1001 + 20 * x.1 ∧ B ++ u.says.flatMap putFact = x.2 ++ (u.says.drop x.1).flatMap putFact) (fun x => u.says.length - x.1) (0, B) ⟨Nat.zero_le _, hBl, by simp⟩
      (ent_ren id ⟨rfl, rfl, rfl, by rw [ls]; rfl, rfl, trivial⟩ ⟨rfl, rfl, rfl, trivial⟩ rfl rfl rfl rfl rfl rfl) ?_
    rintro ⟨i, cs⟩ ⟨h1, h2, h3⟩
    dsimp only at h1 h2 h3 ⊢
    repeat' (first | (apply ds_evC; exact rfl; (with_reducible exact trivial); (with_reducible exact rfl); exact rfl; exact rfl; exact rfl) | apply ds_nil | apply dw_seq2 | apply ds_region | apply thenD_n)
    refine dw_condP rfl (fun h => ?_) (fun h => ?_)
    · have hi : i < u.says.length := by omega
      have hd : (u.says.drop i).flatMap putFact = putFact u.says[i] ++ (u.says.drop (i + 1)).flatMap putFact := by rw [List.drop_eq_getElem_cons hi, List.flatMap_cons]
      have hsay := saysB_parts (List.all_eq_true.1 g.says _ (List.getElem_mem hi))
      generalize hf : u.says[i] = f at hd hsay
      obtain ⟨f1, f2, f3, f4⟩ := hsay
      have la : (f.args.map encI).length = f.args.length := List.length_map _
      repeat' (first | (apply ds_evC; exact rfl; (first | (with_reducible exact trivial) | omega); (first | ((with_reducible apply hv_row); (exact rfl); (omega)) | (with_reducible exact rfl)); exact rfl; exact rfl; exact rfl) | apply ds_nil | apply dw_seq2 | apply ds_region | apply dw_block | apply dw_skip | apply thenD_n | (apply ds_newC; exact rfl; (with_reducible exact trivial); exact rfl; exact rfl; exact rfl) | (apply ds_setC; exact rfl; exact rfl; exact rfl; exact rfl))
      rw [hf]
      (refine ds_callF id (put_fn cs f.pred 1 (by omega) (by omega)) rfl rfl rfl rfl ⟨rfl, rfl, trivial⟩ rfl rfl rfl rfl rfl rfl ?_ ?_)
      · rintro k2 r H2 ⟨rfl, rfl, rfl⟩
        exact ⟨rfl, rfl⟩
      rintro k2 r H2 ⟨rfl, rfl, rfl⟩
      change DS _ _ _ _ _ _ _ _
      refine ds_ent (ent_ren (k' := 4) (L' := [(1, .loc 2 0), (5, .loc 0 0), (7, .loc 3 0), (31, .d (.slice 2 (u.says.map encFct))), (32, .d (.int .i64 u.says.length)), (33, .d (.int .i64 i))]) (H' := wrHx (cs ++ put f.pred 1) [(2, .blk 40 [.d (.int .i64 u.id.author), .d (.int .i64 u.id.number), .d (.slice 2 (u.parents.map encId)), .d (.slice 2 (u.says.map encFct)), .d (.slice 2 (u.takes.map encId))]), (3, .blk 89 [.d (.int .i64 f.pred), .d (.slice 1 (f.args.map encI))])]) (fun j => match j with | 0 => 0 | 1 => 5 | j => j) ⟨rfl, rfl, rfl, rfl, rfl, rfl, trivial⟩ ⟨rfl, rfl, rfl, rfl, trivial⟩ rfl rfl rfl rfl rfl rfl) ?_
      repeat' (first | (apply ds_evC; exact rfl; (with_reducible exact trivial); (with_reducible exact rfl); exact rfl; exact rfl; exact rfl) | apply ds_nil | apply dw_seq2 | apply ds_region | apply thenD_n)
      have hl2 : (cs ++ put f.pred 1).length ≤ 10000 := by rw [List.length_append, p1]; omega
      have hc4 := put_fn (cs ++ put f.pred 1) f.args.length 1 (by omega) (by omega)
      rw [← la] at hc4
      (refine ds_callF id (hc4) rfl rfl rfl rfl ⟨rfl, rfl, trivial⟩ rfl rfl rfl rfl rfl rfl ?_ ?_)
      · rintro k2 r H2 ⟨rfl, rfl, rfl⟩
        exact ⟨rfl, rfl⟩
      rintro k2 r H2 ⟨rfl, rfl, rfl⟩
      change DS _ _ _ _ _ _ _ _
      refine ds_ent (ent_ren (k' := 4) (L' := [(1, .loc 2 0), (5, .loc 0 0), (7, .loc 3 0), (31, .d (.slice 2 (u.says.map encFct))), (32, .d (.int .i64 u.says.length)), (33, .d (.int .i64 i))]) (H' := wrHx (cs ++ put f.pred 1 ++ put (f.args.map encI).length 1) [(2, .blk 40 [.d (.int .i64 u.id.author), .d (.int .i64 u.id.number), .d (.slice 2 (u.parents.map encId)), .d (.slice 2 (u.says.map encFct)), .d (.slice 2 (u.takes.map encId))]), (3, .blk 89 [.d (.int .i64 f.pred), .d (.slice 1 (f.args.map encI))])]) (fun j => match j with | 0 => 0 | 1 => 5 | j => j) ⟨rfl, rfl, rfl, rfl, rfl, rfl, trivial⟩ ⟨rfl, rfl, rfl, rfl, trivial⟩ rfl rfl rfl rfl rfl rfl) ?_
      rw [la]
      generalize hC : cs ++ put f.pred 1 ++ put f.args.length 1 = C
      have hCl : C.length = cs.length + 2 := by rw [← hC, List.length_append, List.length_append, p1, p1]
      repeat' (first | (apply ds_evC; exact rfl; (with_reducible exact trivial); (with_reducible exact rfl); exact rfl; exact rfl; exact rfl) | apply ds_nil | apply dw_seq2 | apply ds_region | apply dw_block | apply thenD_n)
      refine ds_loop (ι := Nat × List UInt8) (fun x => ⟨4, [(1, .loc 2 0), (5, .loc 0 0), (7, .loc 3 0), (31, .d (.slice 2 (u.says.map encFct))), (32, .d (.int .i64 u.says.length)), (33, .d (.int .i64 i)), (47, .d (.slice 1 (f.args.map encI))), (48, .d (.int .i64 f.args.length)), (49, .d (.int .i64 x.1))], wrHx x.2 [(2, .blk 40 [.d (.int .i64 u.id.author), .d (.int .i64 u.id.number), .d (.slice 2 (u.parents.map encId)), .d (.slice 2 (u.says.map encFct)), .d (.slice 2 (u.takes.map encId))]), (3, .blk 89 [.d (.int .i64 f.pred), .d (.slice 1 (f.args.map encI))])]⟩)
        (fun x => x.1 ≤ f.args.length ∧ x.2.length = C.length + 4 * x.1 ∧ C ++ (f.args.flatMap fun n => put n 4) = x.2 ++ (f.args.drop x.1).flatMap fun n => put n 4) (fun x => f.args.length - x.1) (0, C) ⟨Nat.zero_le _, rfl, by simp⟩
        (ent_ren id ⟨rfl, rfl, rfl, rfl, rfl, rfl, rfl, by rw [la]; rfl, rfl, trivial⟩ ⟨rfl, rfl, rfl, rfl, trivial⟩ rfl rfl rfl rfl rfl rfl) ?_
      rintro ⟨j, ds⟩ ⟨j1, j2, j3⟩
      dsimp only at j1 j2 j3 ⊢
      repeat' (first | (apply ds_evC; exact rfl; (with_reducible exact trivial); (with_reducible exact rfl); exact rfl; exact rfl; exact rfl) | apply ds_nil | apply dw_seq2 | apply ds_region | apply thenD_n)
      refine dw_condP rfl (fun hj => ?_) (fun hj => ?_)
      · have hjl : j < f.args.length := by omega
        have hd2 : ((f.args.drop j).flatMap fun n => put n 4) = put f.args[j] 4 ++ (f.args.drop (j + 1)).flatMap fun n => put n 4 := by rw [List.drop_eq_getElem_cons hjl, List.flatMap_cons]
        repeat' (first | (apply ds_evC; exact rfl; (first | (with_reducible exact trivial) | omega); (first | ((with_reducible apply hv_row); (exact rfl); (omega)) | (with_reducible exact rfl)); exact rfl; exact rfl; exact rfl) | apply ds_nil | apply dw_seq2 | apply ds_region | apply dw_block | apply dw_skip | apply thenD_n)
        (refine ds_callF id (put_fn ds f.args[j] 4 (by omega) (by omega)) rfl rfl rfl rfl ⟨rfl, rfl, trivial⟩ rfl rfl rfl rfl rfl rfl ?_ ?_)
        · rintro k2 r H2 ⟨rfl, rfl, rfl⟩
          exact ⟨rfl, rfl⟩
        rintro k2 r H2 ⟨rfl, rfl, rfl⟩
        change DS _ _ _ _ _ _ _ _
        refine ds_ent (ent_ren (k' := 4) (L' := [(1, .loc 2 0), (5, .loc 0 0), (7, .loc 3 0), (31, .d (.slice 2 (u.says.map encFct))), (32, .d (.int .i64 u.says.length)), (33, .d (.int .i64 i)), (47, .d (.slice 1 (f.args.map encI))), (48, .d (.int .i64 f.args.length)), (49, .d (.int .i64 j))]) (H' := wrHx (ds ++ put f.args[j] 4) [(2, .blk 40 [.d (.int .i64 u.id.author), .d (.int .i64 u.id.number), .d (.slice 2 (u.parents.map encId)), .d (.slice 2 (u.says.map encFct)), .d (.slice 2 (u.takes.map encId))]), (3, .blk 89 [.d (.int .i64 f.pred), .d (.slice 1 (f.args.map encI))])]) (fun j => match j with | 0 => 0 | 1 => 5 | j => j) ⟨rfl, rfl, rfl, rfl, rfl, rfl, rfl, rfl, rfl, trivial⟩ ⟨rfl, rfl, rfl, rfl, trivial⟩ rfl rfl rfl rfl rfl rfl) ?_
        repeat' (first | (apply ds_evC; exact rfl; (first | (with_reducible exact trivial) | omega); (with_reducible exact rfl); exact rfl; exact rfl; exact rfl) | apply ds_nil | apply ds_region | apply thenD_n | apply inB_n)
        exact ⟨(j + 1, ds ++ put f.args[j] 4), ⟨hjl, by rw [List.length_append, p4]; omega, by rw [j3, hd2, List.append_assoc]⟩, ent_ren id ⟨rfl, rfl, rfl, rfl, rfl, rfl, rfl, rfl, rfl, trivial⟩ ⟨rfl, rfl, rfl, rfl, trivial⟩ rfl rfl rfl rfl rfl rfl, by show f.args.length - (j + 1) < f.args.length - j; omega⟩
      · repeat' (first | (apply ds_evC; exact rfl; (first | (with_reducible exact trivial) | omega); (with_reducible exact rfl); exact rfl; exact rfl; exact rfl) | apply ds_nil | apply ds_region | apply dw_exit | apply thenD_n | apply thenD_e | apply inB_n | (apply inB_e; exact rfl))
        rw [List.drop_of_length_le (by omega)] at j3
        refine ⟨(i + 1, ds), ⟨hi, by show ds.length ≤ 1001 + 20 * (i + 1); omega, ?_⟩, ent_ren id ⟨rfl, rfl, rfl, rfl, rfl, trivial⟩ ⟨rfl, rfl, rfl, trivial⟩ rfl rfl rfl rfl rfl rfl, by show u.says.length - (i + 1) < u.says.length - i; omega⟩
        have e : ds = cs ++ putFact f := by
          have : ds = C ++ (f.args.flatMap fun n => put n 4) := by rw [j3]; simp
          rw [this, ← hC]; simp [putFact]
        rw [h3, hd, e, List.append_assoc]
    · repeat' (first | (apply ds_evC; exact rfl; (with_reducible exact trivial); (with_reducible exact rfl); exact rfl; exact rfl; exact rfl) | apply dw_seq2 | apply ds_region | apply dw_exit | apply thenD_n | apply thenD_e | (apply inB_e; exact rfl))
      (refine ds_callF id (putIds_fn cs u.takes (by omega) (by omega)) rfl rfl rfl rfl ⟨rfl, rfl, trivial⟩ rfl rfl rfl rfl rfl rfl ?_ ?_)
      · rintro k2 r H2 ⟨rfl, rfl, rfl⟩
        exact ⟨rfl, rfl⟩
      rintro k2 r H2 ⟨rfl, rfl, rfl⟩
      change DS _ _ _ _ _ _ _ _
      refine ds_ent (ent_ren (k' := 3) (L' := [(1, .loc 2 0), (5, .loc 0 0)]) (H' := wrHx (cs ++ putIds u.takes) [(2, .blk 40 [.d (.int .i64 u.id.author), .d (.int .i64 u.id.number), .d (.slice 2 (u.parents.map encId)), .d (.slice 2 (u.says.map encFct)), .d (.slice 2 (u.takes.map encId))])]) (fun j => match j with | 0 => 0 | 1 => 4 | j => j) ⟨rfl, rfl, trivial⟩ ⟨rfl, rfl, rfl, trivial⟩ rfl rfl rfl rfl rfl rfl) ?_
      have hBO := bytesOk_enc (cs ++ putIds u.takes)
      repeat' (first | (apply ds_evC; exact rfl; (first | (with_reducible exact trivial) | omega); (with_reducible exact rfl); exact rfl; exact rfl; exact rfl) | apply ds_nil | apply dw_seq2 | apply ds_region | apply dw_ret | apply thenD_n)
      have he : encodeU u = cs ++ putIds u.takes := by
        rw [List.drop_of_length_le (by omega)] at h3
        simp only [List.flatMap_nil, List.append_nil] at h3
        unfold encodeU
        rw [hB, h3]
      exact ret_2 rfl (by unfold encS; rw [if_pos hc0, he, bytesD_enc]; exact ⟨rfl, rfl⟩)
end Go.Proofs.Ytapciiffpnociaa
