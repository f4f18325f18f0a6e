/-
  The laws FnExactConstants, FnExactHasPlayer, FnExactCountCoalitions walked: each returns true.
-/
import Derived.Test.YtcamfjendhgonaaCoal
namespace Go.Proofs.Ytcamfjendhgonaa
open Go.RowKit

theorem fnExactConstants_walk (w : World) :
    Calls Try.prog 3 #[] w fun e w' => e = .returned (.bool true) ∧ Below w.heap.size w w' := by
  go_enter Try.func3, Try.ntmps3
  go_wp2
  go_ret
  exact ⟨rfl, Below.refl _ _⟩

theorem fnExactHasPlayer_walk (s : Int) (ws : (Lit.int .i64 s).wf = true) (k : Int) (_ : (Lit.int .i64 k).wf = true) (w : World) :
    Calls Try.prog 4 #[.int .i64 s, .int .i64 k] w fun e w' => e = .returned (.bool true) ∧ Below w.heap.size w w' := by
  have hs := (Pl.bounds ws).2
  clear ws
  go_enter Try.func4, Try.ntmps4
  go_wp2_with fail
  refine (shas_any s k _ hs).mono ?_
  rintro e w' ⟨rfl, rfl⟩
  go_wp2_with fail
  refine (ihas_any s k _ hs).mono ?_
  rintro e w' ⟨rfl, rfl⟩
  go_wp2
  go_ret
  exact ⟨rfl, Below.refl _ _⟩

theorem fnExactCountCoalitions_walk (n : Int) (_ : (Lit.int .i64 n).wf = true) (w : World) :
    Calls Try.prog 5 #[.int .i64 n] w fun e w' => e = .returned (.bool true) ∧ Below w.heap.size w w' := by
  go_enter Try.func5, Try.ntmps5
  go_wp2_with fail
  refine (scount_any n _).mono ?_
  rintro e w' ⟨rfl, rfl⟩
  go_wp2_with fail
  refine (icount_any n _).mono ?_
  rintro e w' ⟨rfl, rfl⟩
  go_wp2
  go_ret
  exact ⟨rfl, Below.refl _ _⟩

end Go.Proofs.Ytcamfjendhgonaa
