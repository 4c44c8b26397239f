/- Tokens that are handed in, read as data. Condition: none. -/
import Derived.Test.YtapciiffpnociaaTokE
import Derived.Test.YtapciiffpnociaaGxLaw
namespace Go.Proofs.Ytapciiffpnociaa
open Go Go.RowKit

theorem list_of {α : Type} {e : RT} {enc : α → List D} (h : ∀ x, TyD e x → ∃ t, x = enc t) : ∀ (l : List (List D)), (∀ x ∈ l, TyD e x) → ∃ ts : List α, l = ts.map enc
  | [], _ => ⟨[], rfl⟩
  | x :: l, hl => by
    obtain ⟨t, rfl⟩ := h x (hl x (List.mem_cons_self ..))
    obtain ⟨ts, rfl⟩ := list_of h l fun y hy => hl y (List.mem_cons_of_mem _ hy)
    exact ⟨t :: ts, rfl⟩

abbrev rtTok : RT := .struct [.int .i64, .int .i64, .str]
abbrev rtToks : RT := .slice 3 32 rtTok

theorem tok_of (x : List D) (h : TyD rtTok x) : ∃ t : Tok, x = encTok t := by
  obtain ⟨a, b, rfl, ⟨k, _, rfl⟩, c, d, rfl, ⟨p, _, rfl⟩, e, f, rfl, ⟨s, _, rfl⟩, rfl⟩ := h
  exact ⟨⟨k, p, s⟩, rfl⟩

theorem toks_of (x : List D) (h : TyD rtToks x) : ∃ l : List Tok, x = [encToks l] ∧ l.length ≤ 4398046511104 := by
  obtain ⟨l, h1, _, rfl, h3⟩ := h
  obtain ⟨ts, rfl⟩ := list_of tok_of l h3
  refine ⟨ts, rfl, ?_⟩
  rw [List.length_map] at h1
  unfold reachBytes at h1
  omega
end Go.Proofs.Ytapciiffpnociaa
