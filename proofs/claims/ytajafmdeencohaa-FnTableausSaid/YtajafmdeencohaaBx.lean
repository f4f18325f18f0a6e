/-
  Blocks of cells of the call's own: what they hold, and what keeps them.
-/
import Derived.Test.YtajafmdeencohaaVecEq
namespace Go.Proofs.Ytajafmdeencohaa
open Go.RowKit

/-- the block g holds these cells, and may be stored into -/
def Bx (w : World) (g : Nat) (vs : List Value) : Prop := g < w.heap.size ∧ (∀ j v, vs[j]? = some v → w.cell? ⟨g, j, none⟩ = some v) ∧ ∀ j, w.frozen? ⟨g, j, none⟩ = false
theorem Bx.below {w w' : World} {g : Nat} {vs : List Value} (h : Bx w g vs) (hb : Below w.heap.size w w') : Bx w' g vs :=
  ⟨Nat.lt_of_lt_of_le h.1 hb.size, fun j v hv => (hb.cell (p := ⟨g, j, none⟩) h.1).trans (h.2.1 j v hv), fun j => (hb.frozen (p := ⟨g, j, none⟩) h.1).trans (h.2.2 j)⟩
theorem Bx.new (w : World) (cs : Array Value) (t : TypeId) : Bx (w.alloc (.cells cs t)) w.heap.size cs.toList :=
  ⟨by simp, fun j v hv => by simpa using hv, fun j => by simp⟩
theorem Bx.alloc {w : World} {g : Nat} {vs : List Value} (h : Bx w g vs) (o : Obj) : Bx (w.alloc o) g vs := h.below ((Below.refl _ _).alloc (Nat.le_refl _) o)
theorem Bx.set {w : World} {g k : Nat} {vs : List Value} (h : Bx w g vs) (hk : k < vs.length) (v : Value) : Bx (w.setCell ⟨g, k, none⟩ v) g (vs.set k v) := by
  refine ⟨by simpa [World.setCell] using h.1, fun j u hu => ?_, fun j => by rw [World.frozen?_setCell]; exact h.2.2 j⟩
  by_cases e : k = j
  · subst e
    rw [List.getElem?_set_self hk] at hu
    injection hu with hu
    subst hu
    exact World.cell?_setCell_same _ _ _ (h.2.1 k _ (List.getElem?_eq_getElem hk))
  · rw [List.getElem?_set_ne e] at hu
    rw [World.cell?_setCell_other _ _ _ _ (by intro e2; injection e2 with _ e3; exact e e3)]
    exact h.2.1 j u hu
theorem Bx.other {w : World} {g b k : Nat} {vs : List Value} (h : Bx w g vs) (hne : g ≠ b) (v : Value) : Bx (w.setCell ⟨b, k, none⟩ v) g vs :=
  ⟨by simpa [World.setCell] using h.1, fun j u hu => by rw [World.cell?_setCell_other _ _ _ _ (by intro e; injection e with e; exact hne e.symm)]; exact h.2.1 j u hu, fun j => by rw [World.frozen?_setCell]; exact h.2.2 j⟩

end Go.Proofs.Ytajafmdeencohaa
