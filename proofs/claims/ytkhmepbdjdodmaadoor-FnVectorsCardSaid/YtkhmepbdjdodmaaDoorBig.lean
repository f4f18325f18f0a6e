/-
  Contract of the laws' big.
-/
import Derived.Test.YtkhmepbdjdodmaaDoorChecked
import Derived.WalkKit
namespace Go.Proofs.YtkhmepbdjdodmaaDoor
open Go.RowKit

theorem big_yes (A : Option Addr) (n c : Nat) (w : World) (h : (1048576 : Int) < (n : Int)) : Calls Tryd.prog 23 #[.slice A n c] w fun e w' => e = .returned (.bool true) ∧ w = w' := by
  have hd := decide_eq_true h
  go_enter Tryd.func23, Tryd.ntmps23
  go_wp2
  go_ret
  exact ⟨rfl, rfl⟩
theorem big_no (A : Option Addr) (n c : Nat) (w : World) (h : ¬ (1048576 : Int) < (n : Int)) : Calls Tryd.prog 23 #[.slice A n c] w fun e w' => e = .returned (.bool false) ∧ w = w' := by
  have hd := decide_eq_false h
  go_enter Tryd.func23, Tryd.ntmps23
  go_wp2
  go_ret
  exact ⟨rfl, rfl⟩

end Go.Proofs.YtkhmepbdjdodmaaDoor
