/-
  The law FnExactParseRat walked: it returns true.
-/
import Derived.Test.YtkhmepbdjdodmaaDoorParseRatI
namespace Go.Proofs.YtkhmepbdjdodmaaDoor
open Go.RowKit

theorem fnExactParseRat_walk (s : ByteArray) (_ : s.size ≤ maxLen) (w : World) (ht : Tab w) :
    Calls Tryd.prog 5 #[.string s] w fun e w' => e = .returned (.bool true) ∧ Below w.heap.size w w' := by
  by_cases hbig : s.size ≤ 1048576
  · have hd := decide_eq_false (show ¬ (1048576 : Int) < (s.size : Int) by omega)
    have c1 := sparseR_any s hbig
    have c2 := iparseR_any s hbig
    obtain ⟨r, hr⟩ : ∃ r, r = Pl.parseR s := ⟨_, rfl⟩
    rw [← hr] at c1 c2
    clear hr
    obtain ⟨dx, dy, dk⟩ := r
    go_enter Tryd.func5, Tryd.ntmps5
    go_wp2_with fail
    refine (c1 _).mono ?_
    rintro e w1 ⟨rfl, hb1⟩
    go_wp2_with fail
    refine (c2 _ (ht.below (hb1.alloc hb1.size _))).mono ?_
    rintro e w2 ⟨rfl, hb⟩
    have b6 : Box w2 w1.heap.size dx dy := Box.below (w := w1.alloc _) ⟨by simp, by simp, by simp, by simp, by simp⟩ hb
    have H : Below w.heap.size w w2 := (hb1.alloc hb1.size _).trans (hb.mono (by have := hb1.size; simp; omega))
    obtain ⟨y0, y1, y2, y3, y4⟩ := id b6
    go_wp2_with fail
    refine (eqRat_any _ _ _ _ _).mono ?_
    rintro e w3 ⟨rfl, hb3⟩
    simp only [beq_self_eq_true, Bool.and_self]
    go_wp2
    go_ret
    exact ⟨rfl, (H.alloc H.size _).trans (hb3.mono (by have := H.size; simp; omega))⟩
  · have hd := decide_eq_true (show (1048576 : Int) < (s.size : Int) by omega)
    go_enter Tryd.func5, Tryd.ntmps5
    go_wp2
    go_ret
    exact ⟨rfl, Below.refl _ _⟩

end Go.Proofs.YtkhmepbdjdodmaaDoor
