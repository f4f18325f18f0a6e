/-
  Contracts of MembersOf, of the program and of the reference: a new slice with the players of a coalition.
-/
import Derived.Test.YtojfahgnjfnflaaCoal
import Derived.Test.YtojfahgnjfnflaaOwn
namespace Go.Proofs.Ytojfahgnjfnflaa
open Go.RowKit

theorem infoInt : (Try.prog.info? 3).map (fun i => (i.zero, i.size, i.bytes)) = some (some (.int .i64 0), 1, 8) := by kernel_rfl

namespace Pl
def memTo (s : Int) : Nat → List Int
  | 0 => []
  | j + 1 => memTo s j ++ if has s j then [(j : Int)] else []
theorem memTo_succ (s : Int) (j : Nat) : memTo s (j + 1) = memTo s j ++ if has s j then [(j : Int)] else [] := rfl
theorem memTo_le (s : Int) (j : Nat) : (memTo s j).length ≤ j := by
  induction j with
  | zero => simp [memTo]
  | succ j ih =>
    rw [memTo_succ]
    split <;> simp <;> omega
def members (s : Int) : List Int := if within s 0 31 then memTo s 5 else []
end Pl

/-- returns a slice of the call's own that holds these integers -/
def OwnsInts (w : World) (zs : List Int) (e : Ending) (w' : World) : Prop :=
  ∃ v, e = .returned v ∧ w'.ownsRow w.heap.size 3 1 v zs.length (zs.map (Value.int .i64)) ∧ Below w.heap.size w w'

theorem good_any' (n : Int) (w : World) : Calls Try.prog 54 #[.int .i64 n] w fun e w' => e = .returned (.bool (Pl.within n 0 31)) ∧ w = w' := by
  go_enter Try.func54, Try.ntmps54
  go_wp2_with (go_at_call 67; refine (l1In_any _ _ _ _).mono ?_; rintro e w' ⟨rfl, rfl⟩)
  go_ret
  exact ⟨rfl, rfl⟩

theorem imembers_any (s : Int) (w : World) (hs : s ≤ 9223372036854775807) : Calls Try.prog 12 #[.int .i64 s] w (OwnsInts w (Pl.members s)) := by
  cases hg : Pl.within s 0 31
  · have e : Pl.members s = [] := by simp [Pl.members, hg]
    rw [e]
    clear e
    go_enter Try.func12, Try.ntmps12
    go_wp2_with (go_at_call 55; refine (within_any _ _ _ _).mono ?_; rintro e w' ⟨rfl, rfl⟩)
    go_ret
    exact ⟨_, rfl, World.ownsRow_nil _ _ _ _, Below.refl _ _⟩
  · have e : Pl.members s = Pl.memTo s 5 := by simp [Pl.members, hg]
    rw [e]
    clear e
    go_enter Try.func12, Try.ntmps12
    go_wp2_with (go_at_call 55; refine (within_any _ _ _ _).mono ?_; rintro e w' ⟨rfl, rfl⟩)
    go_loopw [3, 9] (fun o u wr => ∃ j : Nat, j ≤ 5 ∧ u = .int .i64 j ∧ wr.ownsRow w.heap.size 3 1 o (Pl.memTo s j).length ((Pl.memTo s j).map (Value.int .i64)) ∧ Below w.heap.size w wr) (fun _ u _ => 5 - (intOf u).toNat)
    case atStart => exact ⟨0, by omega, rfl, World.ownsRow_made w #[] 0 (Nat.le_refl _) (by decide) rfl, (Below.refl _ _).alloc (Nat.le_refl _) _⟩
    case round =>
      obtain ⟨j, hj, rfl, hown, hb⟩ := hrel
      have hle := Pl.memTo_le s j
      by_cases hlt : j < 5
      · cases hp : Pl.has s j
        · go_wp2_with (go_at_call 49; refine (ihas_any _ _ _ (by assumption)).mono ?_; rintro e w' ⟨rfl, rfl⟩)
          go_roundw
          case rel => exact ⟨j + 1, by omega, by go_num, by simpa [Pl.memTo_succ, hp] using hown, hb⟩
          case measure => simp [intOf]; omega
        · go_wp2_with (first | (go_at_call 49; refine (ihas_any _ _ _ (by assumption)).mono ?_; rintro e w' ⟨rfl, rfl⟩) | (at_builtin; refine wpList_push _ rfl _ _ 22 rfl w.heap.size 3 (.int .i64 0) 1 8 Try.underlying22 infoInt rfl (by decide) _ _ _ rfl hown [.int .i64 (j : Int)] rfl rfl (by simp [Value.oneCell']) (by decide) (by omega) hb.size ?_))
          intro v' w' hown' hk
          have hb' := hk _ _ (Nat.le_refl _) hb
          clear hk
          go_wp2
          go_roundw
          case rel => exact ⟨j + 1, by omega, by go_num, by simpa [Pl.memTo_succ, hp] using hown', hb'⟩
          case measure => simp [intOf]; omega
      · obtain rfl : j = 5 := by omega
        go_wp2
        go_ret
        exact ⟨_, rfl, hown, hb⟩

end Go.Proofs.Ytojfahgnjfnflaa
