/- How updates lie in the program's values; lists that are gone through. Condition: none. -/
import Derived.Test.YtapciiffpnociaaTokE
import Derived.Test.YtapciiffpnociaaGxCell
import Derived.Test.YtapciiffpnociaaWirP
import Derived.Test.YtapciiffpnociaaLstP
namespace Go.Proofs.Ytapciiffpnociaa
open Go Go.RowKit
attribute [local irreducible] DW DS DL DQ Ev FnOk FnP thenD inBlockD DT
def encI (n : Int) : List D := [.int .i64 n]
def encInts (l : List Int) : D := .slice 1 (l.map encI)
def encId (i : UId) : List D := [.int .i64 i.author, .int .i64 i.number]
def encIds (l : List UId) : D := .slice 2 (l.map encId)
def encFct (f : Fct) : List D := [.int .i64 f.pred, .slice 1 (f.args.map encI)]
def encFcts (l : List Fct) : D := .slice 2 (l.map encFct)
def encUpd (u : Upd) : List D := [.int .i64 u.id.author, .int .i64 u.id.number, .slice 2 (u.parents.map encId), .slice 2 (u.says.map encFct), .slice 2 (u.takes.map encId)]
abbrev elI (n : Int) : SV := .d (.int .i64 n)
abbrev elId (i : UId) : SV := .agg [.d (.int .i64 i.author), .d (.int .i64 i.number)]
abbrev elFct (f : Fct) : SV := .agg [.d (.int .i64 f.pred), .d (.slice 1 (f.args.map encI))]
abbrev elUpd (u : Upd) : SV := .agg [.d (.int .i64 u.id.author), .d (.int .i64 u.id.number), .d (.slice 2 (u.parents.map encId)), .d (.slice 2 (u.says.map encFct)), .d (.slice 2 (u.takes.map encId))]

set_option maxHeartbeats 8000000 in
theorem indexFuncId_fn {f : FuncId} {caps : List SV} (p : UId → Bool) (l : List (UId)) (hcap : SV.lowL 0 caps = true) (hp : ∀ x ∈ l, Fn f (elId x :: caps) (fun r => r = .d (.bool (p x)))) : Fn 155 [.d (.slice 2 (l.map encId)), .fn f caps] (fun r => r = .d (.int .i64 (idxF p l))) := by
  refine fnp_enter' _ Try.func155 rfl rfl (by kernel_rfl) ?_
  intro O w0 E0 β0
  refine dw_len_map (t := 0) rfl fun hb => ?_
  repeat' (first | (apply ds_evC; exact rfl; (with_reducible exact trivial); (with_reducible exact rfl); exact rfl; exact rfl; exact rfl) | apply ds_nil | apply dw_seq2 | apply ds_region | apply dw_block | apply thenD_n)
  refine ds_loop (ι := Nat) (fun i => ⟨0, [(0, .d (.slice 2 (l.map encId))), (1, .fn f caps), (7, .d (.int .i64 l.length)), (8, .d (.int .i64 i))], []⟩)
    (fun i => i ≤ l.length ∧ ∀ j (hj : j < l.length), j < i → p l[j] = false) (fun i => l.length - i) 0 ⟨Nat.zero_le _, fun j _ h => absurd h (Nat.not_lt_zero j)⟩
    (ent_ren id ⟨rfl, congrArg (SV.fn f) (SV.renL_id caps).symm, by simp; rfl, rfl, trivial⟩ trivial (by simp [Sl.low, SV.low, hcap]) rfl rfl rfl rfl rfl) ?_
  rintro i ⟨h1, h2⟩
  repeat' (first | (apply ds_evC; exact rfl; (with_reducible exact trivial); (with_reducible exact rfl); exact rfl; exact rfl; exact rfl) | apply ds_nil | apply dw_seq2 | apply ds_region | apply thenD_n)
  refine dw_condP rfl (fun h => ?_) (fun h => ?_)
  · have hi : i < l.length := by omega
    have hpx := hp l[i] (List.getElem_mem hi)
    repeat' (first | (apply ds_evC; exact rfl; (first | (with_reducible exact trivial) | (simp only [List.length_map]; omega)); (first | ((with_reducible apply hv_row); (exact rfl); (rw [List.length_map]; omega)) | (with_reducible exact rfl)); exact rfl; exact rfl; exact rfl) | apply ds_nil | apply dw_seq2 | apply ds_region | apply dw_block | apply dw_skip | apply thenD_n | (apply ds_callV; exact rfl; exact rfl; exact rfl; exact rfl; apply hpx; exact rfl; (assumption); exact rfl; rintro _ rfl))
    refine dw_cond rfl (fun hb => ?_) (fun hb => ?_)
    · repeat' (first | (apply ds_evC; exact rfl; (with_reducible exact trivial); (with_reducible exact rfl); exact rfl; exact rfl; exact rfl) | apply ds_nil | apply dw_seq2 | apply ds_region | apply dw_ret | apply thenD_n | apply thenD_r | apply inB_r)
      exact ret_i rfl (idxF_hit h2 hi hb).symm
    · repeat' (first | (apply ds_evC; exact rfl; (first | (with_reducible exact trivial) | omega); (with_reducible exact rfl); exact rfl; exact rfl; exact rfl) | apply ds_nil | apply ds_region | apply dw_skip | apply thenD_n | apply inB_n)
      exact ⟨i + 1, ⟨hi, none_step h2 hi hb⟩, ent_ren id ⟨rfl, congrArg (SV.fn f) (SV.renL_id caps).symm, rfl, rfl, trivial⟩ trivial (by simp [Sl.low, SV.low, hcap]) rfl rfl rfl rfl rfl, by omega⟩
  · repeat' (first | (apply ds_evC; exact rfl; (with_reducible exact trivial); (with_reducible exact rfl); exact rfl; exact rfl; exact rfl) | apply ds_nil | apply dw_seq2 | apply ds_region | apply dw_exit | apply dw_ret | apply thenD_n | apply thenD_e | (apply inB_e; exact rfl))
    exact ret_i rfl (idxF_none fun j hj => h2 j hj (by omega)).symm

set_option maxHeartbeats 8000000 in
theorem indexFuncFct_fn {f : FuncId} {caps : List SV} (p : Fct → Bool) (l : List (Fct)) (hcap : SV.lowL 0 caps = true) (hp : ∀ x ∈ l, Fn f (elFct x :: caps) (fun r => r = .d (.bool (p x)))) : Fn 157 [.d (.slice 2 (l.map encFct)), .fn f caps] (fun r => r = .d (.int .i64 (idxF p l))) := by
  refine fnp_enter' _ Try.func157 rfl rfl (by kernel_rfl) ?_
  intro O w0 E0 β0
  refine dw_len_map (t := 0) rfl fun hb => ?_
  repeat' (first | (apply ds_evC; exact rfl; (with_reducible exact trivial); (with_reducible exact rfl); exact rfl; exact rfl; exact rfl) | apply ds_nil | apply dw_seq2 | apply ds_region | apply dw_block | apply thenD_n)
  refine ds_loop (ι := Nat) (fun i => ⟨0, [(0, .d (.slice 2 (l.map encFct))), (1, .fn f caps), (7, .d (.int .i64 l.length)), (8, .d (.int .i64 i))], []⟩)
    (fun i => i ≤ l.length ∧ ∀ j (hj : j < l.length), j < i → p l[j] = false) (fun i => l.length - i) 0 ⟨Nat.zero_le _, fun j _ h => absurd h (Nat.not_lt_zero j)⟩
    (ent_ren id ⟨rfl, congrArg (SV.fn f) (SV.renL_id caps).symm, by simp; rfl, rfl, trivial⟩ trivial (by simp [Sl.low, SV.low, hcap]) rfl rfl rfl rfl rfl) ?_
  rintro i ⟨h1, h2⟩
  repeat' (first | (apply ds_evC; exact rfl; (with_reducible exact trivial); (with_reducible exact rfl); exact rfl; exact rfl; exact rfl) | apply ds_nil | apply dw_seq2 | apply ds_region | apply thenD_n)
  refine dw_condP rfl (fun h => ?_) (fun h => ?_)
  · have hi : i < l.length := by omega
    have hpx := hp l[i] (List.getElem_mem hi)
    repeat' (first | (apply ds_evC; exact rfl; (first | (with_reducible exact trivial) | (simp only [List.length_map]; omega)); (first | ((with_reducible apply hv_row); (exact rfl); (rw [List.length_map]; omega)) | (with_reducible exact rfl)); exact rfl; exact rfl; exact rfl) | apply ds_nil | apply dw_seq2 | apply ds_region | apply dw_block | apply dw_skip | apply thenD_n | (apply ds_callV; exact rfl; exact rfl; exact rfl; exact rfl; apply hpx; exact rfl; (assumption); exact rfl; rintro _ rfl))
    refine dw_cond rfl (fun hb => ?_) (fun hb => ?_)
    · repeat' (first | (apply ds_evC; exact rfl; (with_reducible exact trivial); (with_reducible exact rfl); exact rfl; exact rfl; exact rfl) | apply ds_nil | apply dw_seq2 | apply ds_region | apply dw_ret | apply thenD_n | apply thenD_r | apply inB_r)
      exact ret_i rfl (idxF_hit h2 hi hb).symm
    · repeat' (first | (apply ds_evC; exact rfl; (first | (with_reducible exact trivial) | omega); (with_reducible exact rfl); exact rfl; exact rfl; exact rfl) | apply ds_nil | apply ds_region | apply dw_skip | apply thenD_n | apply inB_n)
      exact ⟨i + 1, ⟨hi, none_step h2 hi hb⟩, ent_ren id ⟨rfl, congrArg (SV.fn f) (SV.renL_id caps).symm, rfl, rfl, trivial⟩ trivial (by simp [Sl.low, SV.low, hcap]) rfl rfl rfl rfl rfl, by omega⟩
  · repeat' (first | (apply ds_evC; exact rfl; (with_reducible exact trivial); (with_reducible exact rfl); exact rfl; exact rfl; exact rfl) | apply ds_nil | apply dw_seq2 | apply ds_region | apply dw_exit | apply dw_ret | apply thenD_n | apply thenD_e | (apply inB_e; exact rfl))
    exact ret_i rfl (idxF_none fun j hj => h2 j hj (by omega)).symm

set_option maxHeartbeats 8000000 in
theorem indexFuncInt_fn {f : FuncId} {caps : List SV} (p : Int → Bool) (l : List (Int)) (hcap : SV.lowL 0 caps = true) (hp : ∀ x ∈ l, Fn f (elI x :: caps) (fun r => r = .d (.bool (p x)))) : Fn 195 [.d (.slice 1 (l.map encI)), .fn f caps] (fun r => r = .d (.int .i64 (idxF p l))) := by
  refine fnp_enter' _ Try.func195 rfl rfl (by kernel_rfl) ?_
  intro O w0 E0 β0
  refine dw_len_map (t := 0) rfl fun hb => ?_
  repeat' (first | (apply ds_evC; exact rfl; (with_reducible exact trivial); (with_reducible exact rfl); exact rfl; exact rfl; exact rfl) | apply ds_nil | apply dw_seq2 | apply ds_region | apply dw_block | apply thenD_n)
  refine ds_loop (ι := Nat) (fun i => ⟨0, [(0, .d (.slice 1 (l.map encI))), (1, .fn f caps), (7, .d (.int .i64 l.length)), (8, .d (.int .i64 i))], []⟩)
    (fun i => i ≤ l.length ∧ ∀ j (hj : j < l.length), j < i → p l[j] = false) (fun i => l.length - i) 0 ⟨Nat.zero_le _, fun j _ h => absurd h (Nat.not_lt_zero j)⟩
    (ent_ren id ⟨rfl, congrArg (SV.fn f) (SV.renL_id caps).symm, by simp; rfl, rfl, trivial⟩ trivial (by simp [Sl.low, SV.low, hcap]) rfl rfl rfl rfl rfl) ?_
  rintro i ⟨h1, h2⟩
  repeat' (first | (apply ds_evC; exact rfl; (with_reducible exact trivial); (with_reducible exact rfl); exact rfl; exact rfl; exact rfl) | apply ds_nil | apply dw_seq2 | apply ds_region | apply thenD_n)
  refine dw_condP rfl (fun h => ?_) (fun h => ?_)
  · have hi : i < l.length := by omega
    have hpx := hp l[i] (List.getElem_mem hi)
    repeat' (first | (apply ds_evC; exact rfl; (first | (with_reducible exact trivial) | (simp only [List.length_map]; omega)); (first | ((with_reducible apply hv_row); (exact rfl); (rw [List.length_map]; omega)) | (with_reducible exact rfl)); exact rfl; exact rfl; exact rfl) | apply ds_nil | apply dw_seq2 | apply ds_region | apply dw_block | apply dw_skip | apply thenD_n | (apply ds_callV; exact rfl; exact rfl; exact rfl; exact rfl; apply hpx; exact rfl; (assumption); exact rfl; rintro _ rfl))
    refine dw_cond rfl (fun hb => ?_) (fun hb => ?_)
    · repeat' (first | (apply ds_evC; exact rfl; (with_reducible exact trivial); (with_reducible exact rfl); exact rfl; exact rfl; exact rfl) | apply ds_nil | apply dw_seq2 | apply ds_region | apply dw_ret | apply thenD_n | apply thenD_r | apply inB_r)
      exact ret_i rfl (idxF_hit h2 hi hb).symm
    · repeat' (first | (apply ds_evC; exact rfl; (first | (with_reducible exact trivial) | omega); (with_reducible exact rfl); exact rfl; exact rfl; exact rfl) | apply ds_nil | apply ds_region | apply dw_skip | apply thenD_n | apply inB_n)
      exact ⟨i + 1, ⟨hi, none_step h2 hi hb⟩, ent_ren id ⟨rfl, congrArg (SV.fn f) (SV.renL_id caps).symm, rfl, rfl, trivial⟩ trivial (by simp [Sl.low, SV.low, hcap]) rfl rfl rfl rfl rfl, by omega⟩
  · repeat' (first | (apply ds_evC; exact rfl; (with_reducible exact trivial); (with_reducible exact rfl); exact rfl; exact rfl; exact rfl) | apply ds_nil | apply dw_seq2 | apply ds_region | apply dw_exit | apply dw_ret | apply thenD_n | apply thenD_e | (apply inB_e; exact rfl))
    exact ret_i rfl (idxF_none fun j hj => h2 j hj (by omega)).symm

set_option maxHeartbeats 8000000 in
theorem containsFuncId_fn {f : FuncId} {caps : List SV} (p : UId → Bool) (l : List (UId)) (hcap : SV.lowL 0 caps = true) (hp : ∀ x ∈ l, Fn f (elId x :: caps) (fun r => r = .d (.bool (p x)))) : Fn 94 [.d (.slice 2 (l.map encId)), .fn f caps] (fun r => r = .d (.bool (l.any p))) := by
  refine fnp_enter' _ Try.func94 rfl rfl (by kernel_rfl) ?_
  intro O w0 E0 β0
  have hx := indexFuncId_fn p l hcap hp
  have hlow : SV.lowL 0 [.d (.slice 2 (l.map encId)), .fn f caps] = true := by simp [SV.lowL, SV.low, hcap]
  repeat' (first | (apply ds_evC; exact rfl; (with_reducible exact trivial); (with_reducible exact rfl); exact rfl; exact rfl; exact rfl) | apply ds_nil | apply dw_seq2 | apply ds_region | apply dw_ret | apply thenD_n | (apply ds_call; exact rfl; exact rfl; apply hx; exact rfl; (assumption); exact rfl; rintro _ rfl))
  exact ret_b rfl (idxF_any p l)

set_option maxHeartbeats 8000000 in
theorem containsFuncFct_fn {f : FuncId} {caps : List SV} (p : Fct → Bool) (l : List (Fct)) (hcap : SV.lowL 0 caps = true) (hp : ∀ x ∈ l, Fn f (elFct x :: caps) (fun r => r = .d (.bool (p x)))) : Fn 98 [.d (.slice 2 (l.map encFct)), .fn f caps] (fun r => r = .d (.bool (l.any p))) := by
  refine fnp_enter' _ Try.func98 rfl rfl (by kernel_rfl) ?_
  intro O w0 E0 β0
  have hx := indexFuncFct_fn p l hcap hp
  have hlow : SV.lowL 0 [.d (.slice 2 (l.map encFct)), .fn f caps] = true := by simp [SV.lowL, SV.low, hcap]
  repeat' (first | (apply ds_evC; exact rfl; (with_reducible exact trivial); (with_reducible exact rfl); exact rfl; exact rfl; exact rfl) | apply ds_nil | apply dw_seq2 | apply ds_region | apply dw_ret | apply thenD_n | (apply ds_call; exact rfl; exact rfl; apply hx; exact rfl; (assumption); exact rfl; rintro _ rfl))
  exact ret_b rfl (idxF_any p l)

set_option maxHeartbeats 8000000 in
theorem containsFuncInt_fn {f : FuncId} {caps : List SV} (p : Int → Bool) (l : List (Int)) (hcap : SV.lowL 0 caps = true) (hp : ∀ x ∈ l, Fn f (elI x :: caps) (fun r => r = .d (.bool (p x)))) : Fn 158 [.d (.slice 1 (l.map encI)), .fn f caps] (fun r => r = .d (.bool (l.any p))) := by
  refine fnp_enter' _ Try.func158 rfl rfl (by kernel_rfl) ?_
  intro O w0 E0 β0
  have hx := indexFuncInt_fn p l hcap hp
  have hlow : SV.lowL 0 [.d (.slice 1 (l.map encI)), .fn f caps] = true := by simp [SV.lowL, SV.low, hcap]
  repeat' (first | (apply ds_evC; exact rfl; (with_reducible exact trivial); (with_reducible exact rfl); exact rfl; exact rfl; exact rfl) | apply ds_nil | apply dw_seq2 | apply ds_region | apply dw_ret | apply thenD_n | (apply ds_call; exact rfl; exact rfl; apply hx; exact rfl; (assumption); exact rfl; rintro _ rfl))
  exact ret_b rfl (idxF_any p l)

end Go.Proofs.Ytapciiffpnociaa
