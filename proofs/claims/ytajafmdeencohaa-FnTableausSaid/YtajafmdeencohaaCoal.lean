/-
  Contracts of the small functions on coalitions: within, CountCoalitions, HasPlayer, IsSubset, Union, Overlap, SizeOf.
-/
import Derived.Test.YtajafmdeencohaaChecked
import Derived.Test.YtajafmdeencohaaPlain
import Derived.WalkKit
import Derived.WalkLawsBesides
import Derived.BigGuardPart
import Derived.BigQuiet
import Derived.Outline
import Derived.Lib.Hide
namespace Go.Proofs.Ytajafmdeencohaa
open Go.RowKit

theorem within_any (n lo hi : Int) (w : World) : Calls Try.prog 81 #[.int .i64 n, .int .i64 lo, .int .i64 hi] w fun e w' => e = .returned (.bool (Pl.within n lo hi)) ∧ w = w' := by
  by_cases h1 : lo ≤ n
  · by_cases h2 : n ≤ hi
    · rw [Pl.within_yes h1 h2]
      go_enter Try.func81, Try.ntmps81
      go_wp2
      go_ret
      exact ⟨rfl, rfl⟩
    · rw [Pl.within_no (Or.inr (by omega))]
      go_enter Try.func81, Try.ntmps81
      go_wp2
      go_ret
      exact ⟨rfl, rfl⟩
  · rw [Pl.within_no (Or.inl (by omega))]
    go_enter Try.func81, Try.ntmps81
    go_wp2
    go_ret
    exact ⟨rfl, rfl⟩

theorem l1In_any (n lo hi : Int) (w : World) : Calls Try.prog 78 #[.int .i64 n, .int .i64 lo, .int .i64 hi] w fun e w' => e = .returned (.bool (Pl.within n lo hi)) ∧ w = w' := by
  by_cases h1 : lo ≤ n
  · by_cases h2 : n ≤ hi
    · rw [Pl.within_yes h1 h2]
      go_enter Try.func78, Try.ntmps78
      go_wp2
      go_ret
      exact ⟨rfl, rfl⟩
    · rw [Pl.within_no (Or.inr (by omega))]
      go_enter Try.func78, Try.ntmps78
      go_wp2
      go_ret
      exact ⟨rfl, rfl⟩
  · rw [Pl.within_no (Or.inl (by omega))]
    go_enter Try.func78, Try.ntmps78
    go_wp2
    go_ret
    exact ⟨rfl, rfl⟩

end Go.Proofs.Ytajafmdeencohaa
