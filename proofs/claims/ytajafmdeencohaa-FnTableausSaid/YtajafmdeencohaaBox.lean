/-
  A fraction's box: its two cells, and what keeps them.
-/
import Derived.Test.YtajafmdeencohaaRat
namespace Go.Proofs.Ytajafmdeencohaa
open Go.RowKit

/-- a fraction's box -/
def Box (w : World) (g : Nat) (x y : Int) : Prop :=
  w.cell? ⟨g, 0, none⟩ = some (.int .i64 x) ∧ w.cell? ⟨g, 1, none⟩ = some (.int .i64 y) ∧ w.frozen? ⟨g, 0, none⟩ = false ∧ w.frozen? ⟨g, 1, none⟩ = false ∧ g < w.heap.size
theorem Box.below {w w' : World} {g : Nat} {x y : Int} (h : Box w g x y) (hb : Below w.heap.size w w') : Box w' g x y := by
  obtain ⟨h0, h1, f0, f1, hl⟩ := h
  exact ⟨((bcell hb).1 g 0 hl).trans h0, ((bcell hb).1 g 1 hl).trans h1, ((bcell hb).2 g 0 hl).trans f0, ((bcell hb).2 g 1 hl).trans f1, Nat.lt_of_lt_of_le hl hb.size⟩
theorem Box.store {w : World} {g : Nat} {x y : Int} (h : Box w g x y) (a b : Int) : Box ((w.setCell ⟨g, 0, none⟩ (.int .i64 a)).setCell ⟨g, 1, none⟩ (.int .i64 b)) g a b := by
  obtain ⟨h0, h1, f0, f1, hl⟩ := h
  obtain ⟨c0, c1⟩ := set2_cells (X := w) (g := g) (x := .int .i64 a) (y := .int .i64 b) (by rw [h0]; rfl) (by rw [h1]; rfl)
  exact ⟨c0, c1, by rw [World.frozen?_setCell, World.frozen?_setCell]; exact f0, by rw [World.frozen?_setCell, World.frozen?_setCell]; exact f1, by simpa [World.setCell] using hl⟩
theorem Box.other {w : World} {g k : Nat} {x y : Int} {u v : Value} (h : Box w g x y) (hk : g ≠ k) : Box ((w.setCell ⟨k, 0, none⟩ u).setCell ⟨k, 1, none⟩ v) g x y := by
  obtain ⟨h0, h1, f0, f1, hl⟩ := h
  have n0 : ∀ i j, (⟨k, i, none⟩ : Addr) ≠ ⟨g, j, none⟩ := fun i j e => hk (by injection e with e; exact e.symm)
  exact ⟨by rw [World.cell?_setCell_other _ _ _ _ (n0 _ _), World.cell?_setCell_other _ _ _ _ (n0 _ _)]; exact h0, by rw [World.cell?_setCell_other _ _ _ _ (n0 _ _), World.cell?_setCell_other _ _ _ _ (n0 _ _)]; exact h1,
    by rw [World.frozen?_setCell, World.frozen?_setCell]; exact f0, by rw [World.frozen?_setCell, World.frozen?_setCell]; exact f1, by simpa [World.setCell] using hl⟩
theorem Box.alloc {w : World} {g : Nat} {x y : Int} (h : Box w g x y) (o : Obj) : Box (w.alloc o) g x y := h.below ((Below.refl _ _).alloc (Nat.le_refl _) o)

end Go.Proofs.Ytajafmdeencohaa
