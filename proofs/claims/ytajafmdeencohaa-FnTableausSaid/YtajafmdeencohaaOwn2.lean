/-
  More words for rows of the call's own: what a store into one wants to know, and what a store elsewhere leaves.
-/
import Derived.Test.YtajafmdeencohaaOwn
namespace Go.Proofs.Ytajafmdeencohaa
open Go.RowKit

theorem own_grown {w w' : World} {base size n : Nat} {e : TypeId} {v : Value} {xs : List Value} {row : Option Nat} (h : w.ownsRow base e size v n xs) (hg : w.grownBy w' row) (hr : ∀ g, row = some g → g < base) : w'.ownsRow base e size v n xs := by
  refine ⟨h.1, ?_⟩
  rcases h.2 with h2 | ⟨g, cap, cur, hv, hb, hh, r⟩
  · exact Or.inl h2
  · exact Or.inr ⟨g, cap, cur, hv, hb, (hg.block g (Array.getElem?_eq_some_iff.1 hh).1 (fun e => by have := hr _ e.symm; omega)).trans hh, r⟩
/-- what a store into a row of the call's own wants to know -/
theorem own_cell {w : World} {base size n c i : Nat} {e : TypeId} {g : Nat} {xs : List Value} (h : w.ownsRow base e size (.slice (some ⟨g, 0, none⟩) n c) n xs) (hn : 0 < n) (hi : i < n * size) :
    (∃ u, w.cell? ⟨g, i, none⟩ = some u) ∧ w.frozen? ⟨g, i, none⟩ = false := by
  rcases h.2 with ⟨_, h0⟩ | ⟨g', cap, cur, hv, hbase, hh, hcap, _, hsz, htake⟩
  · omega
  · injection hv with hA _ hc
    injection hA with hA
    injection hA with hA
    subst hA
    have hlen := h.1
    have hle : i < cur.size := by
      have h2 : (cur.toList.take (n * size)).length = n * size := by rw [htake]; exact hlen
      rw [List.length_take, Array.length_toList] at h2
      omega
    exact ⟨⟨_, by rw [cell_of_row w g i cur _ (0, 0) hh]; exact Array.getElem?_eq_getElem hle⟩, by simp [World.frozen?, hh]⟩
theorem own_addr {w : World} {base size n c : Nat} {e : TypeId} {A : Option Addr} {xs : List Value} (h : w.ownsRow base e size (.slice A n c) n xs) (hn : 0 < n) : ∃ g, A = some ⟨g, 0, none⟩ := by
  rcases h.2 with ⟨_, h0⟩ | ⟨g', cap, cur, hv, _⟩
  · omega
  · injection hv with hA
    exact ⟨g', hA⟩
end Go.Proofs.Ytajafmdeencohaa
