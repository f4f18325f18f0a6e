/-
  The law FnExactFormatCoalition walked: it returns true.
-/
import Derived.Test.YtcamfjendhgonaaFmtCoal
namespace Go.Proofs.Ytcamfjendhgonaa
open Go.RowKit

theorem fnExactFormatCoalition_walk (s : Int) (ws : (Lit.int .i64 s).wf = true) (w : World) :
    Calls Try.prog 13 #[.int .i64 s] w fun e w' => e = .returned (.bool true) ∧ Below w.heap.size w w' := by
  have hs := (Pl.bounds ws).2
  clear ws
  go_enter Try.func13, Try.ntmps13
  go_wp2_with fail
  refine (sfmt_any s _ hs).mono ?_
  rintro e w' ⟨rfl, rfl⟩
  go_wp2_with fail
  refine (ifmt_any s _ hs).mono ?_
  rintro e w1 ⟨rfl, hb⟩
  go_wp2
  go_ret
  exact ⟨rfl, hb⟩

end Go.Proofs.Ytcamfjendhgonaa
