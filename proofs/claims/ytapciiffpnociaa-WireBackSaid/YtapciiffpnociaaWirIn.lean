/- Updates that are handed in, read as data. Condition: none. -/
import Derived.Test.YtapciiffpnociaaWirF
import Derived.Test.YtapciiffpnociaaGxLaw
namespace Go.Proofs.Ytapciiffpnociaa
open Go Go.RowKit

theorem listOf {α : Type} {e : RT} {enc : α → List D} (h : ∀ x, TyD e x → ∃ t, x = enc t) : ∀ (l : List (List D)), (∀ x ∈ l, TyD e x) → ∃ ts : List α, l = ts.map enc
  | [], _ => ⟨[], rfl⟩
  | x :: l, hl => by
    obtain ⟨t, rfl⟩ := h x (hl x (List.mem_cons_self ..))
    obtain ⟨ts, rfl⟩ := listOf h l fun y hy => hl y (List.mem_cons_of_mem _ hy)
    exact ⟨t :: ts, rfl⟩
theorem sliceOf {α : Type} {c b : Nat} {e : RT} {enc : α → List D} (h : ∀ x, TyD e x → ∃ t, x = enc t) (x : List D) (hx : TyD (.slice c b e) x) : ∃ ts : List α, x = [.slice c (ts.map enc)] := by
  obtain ⟨l, _, _, rfl, h3⟩ := hx
  obtain ⟨ts, rfl⟩ := listOf h l h3
  exact ⟨ts, rfl⟩

abbrev rtId : RT := .struct [.int .i64, .int .i64]
abbrev rtFct : RT := .struct [.int .i64, .slice 1 8 (.int .i64)]
abbrev rtUpd : RT := .struct [rtId, .slice 2 16 rtId, .slice 2 32 rtFct, .slice 2 16 rtId]

theorem int_of (x : List D) (h : TyD (.int .i64) x) : ∃ n : Int, x = encI n := by
  obtain ⟨n, _, rfl⟩ := h
  exact ⟨n, rfl⟩
theorem id_of (x : List D) (h : TyD rtId x) : ∃ t : UId, x = encId t := by
  obtain ⟨a, b, rfl, ⟨k, _, rfl⟩, c, d, rfl, ⟨p, _, rfl⟩, rfl⟩ := h
  exact ⟨⟨k, p⟩, rfl⟩
theorem fct_of (x : List D) (h : TyD rtFct x) : ∃ t : Fct, x = encFct t := by
  obtain ⟨a, b, rfl, ⟨k, _, rfl⟩, c, d, rfl, h2, rfl⟩ := h
  obtain ⟨l, rfl⟩ := sliceOf int_of c h2
  exact ⟨⟨k, l⟩, rfl⟩
theorem upd_of (x : List D) (h : TyD rtUpd x) : ∃ u : Upd, x = encUpd u := by
  obtain ⟨a, b, rfl, h1, c, d, rfl, h2, e, f, rfl, h3, g, h, rfl, h4, rfl⟩ := h
  obtain ⟨i, rfl⟩ := id_of a h1
  obtain ⟨l, rfl⟩ := sliceOf id_of c h2
  obtain ⟨m, rfl⟩ := sliceOf fct_of e h3
  obtain ⟨n, rfl⟩ := sliceOf id_of g h4
  exact ⟨⟨i, l, m, n⟩, rfl⟩
theorem upd_arg (x : List D) (h : TyD rtUpd x) : ∃ u : Upd, RT.arg rtUpd x = elUpd u := by
  obtain ⟨u, rfl⟩ := upd_of x h
  exact ⟨u, rfl⟩
theorem str_of (s : ByteArray) : ∃ l : List UInt8, s = strB l := ⟨s.data.toList, by unfold strB; simp⟩
end Go.Proofs.Ytapciiffpnociaa
