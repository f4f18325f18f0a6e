/-
  Contract of the reference's MembersOf: a new slice with the players of a coalition.
-/
import Derived.Test.YtojfahgnjfnflaaMembers
namespace Go.Proofs.Ytojfahgnjfnflaa
open Go.RowKit

theorem smembers_any (s : Int) (w : World) (hs : s ≤ 9223372036854775807) : Calls Try.prog 11 #[.int .i64 s] w (OwnsInts w (Pl.members s)) := by
  cases hg : Pl.within s 0 31
  · have e : Pl.members s = [] := by simp [Pl.members, hg]
    rw [e]
    clear e
    go_enter Try.func11, Try.ntmps11
    go_wp2
    refine wp_loop_rounds 1 ?_
    rw [rounds_succ]
    go_wp2_with (go_at_call 54; refine (good_any' _ _).mono ?_; rintro e w' ⟨rfl, rfl⟩)
    go_ret
    exact ⟨_, rfl, World.ownsRow_made w #[] 0 (Nat.le_refl _) (by decide) rfl, (Below.refl _ _).alloc (Nat.le_refl _) _⟩
  · have e : Pl.members s = Pl.memTo s 5 := by simp [Pl.members, hg]
    rw [e]
    clear e
    go_enter Try.func11, Try.ntmps11
    go_wp2
    go_loopw [3, 4] (fun o u wr => ∃ j : Nat, j ≤ 5 ∧ u = .int .i64 j ∧ wr.ownsRow w.heap.size 3 1 o (Pl.memTo s j).length ((Pl.memTo s j).map (Value.int .i64)) ∧ Below w.heap.size w wr) (fun _ u _ => 5 - (intOf u).toNat)
    case atStart => exact ⟨0, by omega, rfl, World.ownsRow_made w #[] 0 (Nat.le_refl _) (by decide) rfl, (Below.refl _ _).alloc (Nat.le_refl _) _⟩
    case round =>
      obtain ⟨j, hj, rfl, hown, hb⟩ := hrel
      have hle := Pl.memTo_le s j
      by_cases hlt : j < 5
      · have dj := decide_eq_true (show (j : Int) < 5 by omega)
        cases hp : Pl.has s j
        · go_wp2_with (first | (go_at_call 50; refine (shas_any _ _ _ (by assumption)).mono ?_; rintro e w' ⟨rfl, rfl⟩) | (go_at_call 54; refine (good_any' _ _).mono ?_; rintro e w' ⟨rfl, rfl⟩))
          go_roundw
          case rel => exact ⟨j + 1, by omega, by go_num, by simpa [Pl.memTo_succ, hp] using hown, hb⟩
          case measure => simp [intOf]; omega
        · go_wp2_with (first | (go_at_call 50; refine (shas_any _ _ _ (by assumption)).mono ?_; rintro e w' ⟨rfl, rfl⟩) | (go_at_call 54; refine (good_any' _ _).mono ?_; rintro e w' ⟨rfl, rfl⟩) | (at_builtin; refine wpList_push _ rfl _ _ 22 rfl w.heap.size 3 (.int .i64 0) 1 8 Try.underlying22 infoInt rfl (by decide) _ _ _ rfl hown [.int .i64 (j : Int)] rfl rfl (by simp [Value.oneCell']) (by decide) (by omega) hb.size ?_))
          intro v' w' hown' hk
          have hb' := hk _ _ (Nat.le_refl _) hb
          clear hk
          go_wp2
          go_roundw
          case rel => exact ⟨j + 1, by omega, by go_num, by simpa [Pl.memTo_succ, hp] using hown', hb'⟩
          case measure => simp [intOf]; omega
      · obtain rfl : j = 5 := by omega
        go_wp2_with (go_at_call 54; refine (good_any' _ _).mono ?_; rintro e w' ⟨rfl, rfl⟩)
        go_ret
        exact ⟨_, rfl, hown, hb⟩

end Go.Proofs.Ytojfahgnjfnflaa
