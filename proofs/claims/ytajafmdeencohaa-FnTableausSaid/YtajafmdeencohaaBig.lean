/-
  Contract of the laws' big.
-/
import Derived.Test.YtajafmdeencohaaChecked
import Derived.WalkKit
namespace Go.Proofs.Ytajafmdeencohaa
open Go.RowKit

theorem big_yes (A : Option Addr) (n c : Nat) (w : World) (h : (1048576 : Int) < (n : Int)) : Calls Try.prog 36 #[.slice A n c] w fun e w' => e = .returned (.bool true) ∧ w = w' := by
  have hd := decide_eq_true h
  go_enter Try.func36, Try.ntmps36
  go_wp2
  go_ret
  exact ⟨rfl, rfl⟩
theorem big_no (A : Option Addr) (n c : Nat) (w : World) (h : ¬ (1048576 : Int) < (n : Int)) : Calls Try.prog 36 #[.slice A n c] w fun e w' => e = .returned (.bool false) ∧ w = w' := by
  have hd := decide_eq_false h
  go_enter Try.func36, Try.ntmps36
  go_wp2
  go_ret
  exact ⟨rfl, rfl⟩

end Go.Proofs.Ytajafmdeencohaa
