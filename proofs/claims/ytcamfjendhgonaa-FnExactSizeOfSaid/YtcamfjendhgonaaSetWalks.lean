/-
  The laws FnExactIsSubset, FnExactUnion, FnExactOverlap, FnExactSizeOf walked: each returns true.
-/
import Derived.Test.YtcamfjendhgonaaSets
namespace Go.Proofs.Ytcamfjendhgonaa
open Go.RowKit

theorem fnExactIsSubset_walk (a : Int) (wa : (Lit.int .i64 a).wf = true) (b : Int) (wb : (Lit.int .i64 b).wf = true) (w : World) :
    Calls Try.prog 6 #[.int .i64 a, .int .i64 b] w fun e w' => e = .returned (.bool true) ∧ Below w.heap.size w w' := by
  have ha := (Pl.bounds wa).2
  have hb := (Pl.bounds wb).2
  clear wa wb
  go_enter Try.func6, Try.ntmps6
  go_wp2_with fail
  refine (ssub_any a b _ ha hb).mono ?_
  rintro e w' ⟨rfl, rfl⟩
  go_wp2_with fail
  refine (isub_any a b _).mono ?_
  rintro e w' ⟨rfl, rfl⟩
  go_wp2
  go_ret
  exact ⟨rfl, Below.refl _ _⟩

theorem fnExactUnion_walk (a : Int) (wa : (Lit.int .i64 a).wf = true) (b : Int) (wb : (Lit.int .i64 b).wf = true) (w : World) :
    Calls Try.prog 8 #[.int .i64 a, .int .i64 b] w fun e w' => e = .returned (.bool true) ∧ Below w.heap.size w w' := by
  have ha := (Pl.bounds wa).2
  have hb := (Pl.bounds wb).2
  clear wa wb
  go_enter Try.func8, Try.ntmps8
  go_wp2_with fail
  refine (sunion_any a b _ ha hb).mono ?_
  rintro e w' ⟨rfl, rfl⟩
  go_wp2_with fail
  refine (iunion_any a b _).mono ?_
  rintro e w' ⟨rfl, rfl⟩
  go_wp2
  go_ret
  exact ⟨rfl, Below.refl _ _⟩

theorem fnExactOverlap_walk (a : Int) (wa : (Lit.int .i64 a).wf = true) (b : Int) (wb : (Lit.int .i64 b).wf = true) (w : World) :
    Calls Try.prog 7 #[.int .i64 a, .int .i64 b] w fun e w' => e = .returned (.bool true) ∧ Below w.heap.size w w' := by
  have ha := (Pl.bounds wa).2
  have hb := (Pl.bounds wb).2
  clear wa wb
  go_enter Try.func7, Try.ntmps7
  go_wp2_with fail
  refine (sover_any a b _ ha hb).mono ?_
  rintro e w' ⟨rfl, rfl⟩
  go_wp2_with fail
  refine (iover_any a b _).mono ?_
  rintro e w' ⟨rfl, rfl⟩
  go_wp2
  go_ret
  exact ⟨rfl, Below.refl _ _⟩

theorem fnExactSizeOf_walk (a : Int) (wa : (Lit.int .i64 a).wf = true) (w : World) :
    Calls Try.prog 10 #[.int .i64 a] w fun e w' => e = .returned (.bool true) ∧ Below w.heap.size w w' := by
  have ha := (Pl.bounds wa).2
  clear wa
  go_enter Try.func10, Try.ntmps10
  go_wp2_with fail
  refine (ssize_any a _ ha).mono ?_
  rintro e w' ⟨rfl, rfl⟩
  go_wp2_with fail
  refine (isize_any a _ ha).mono ?_
  rintro e w' ⟨rfl, rfl⟩
  go_wp2
  go_ret
  exact ⟨rfl, Below.refl _ _⟩

end Go.Proofs.Ytcamfjendhgonaa
