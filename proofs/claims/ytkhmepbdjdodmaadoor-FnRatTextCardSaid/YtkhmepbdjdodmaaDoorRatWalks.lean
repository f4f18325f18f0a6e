/-
  Contracts of IsInteger and FloorRat; the laws FnExactIsValidRat, FnExactIsInteger, FnExactFloorRat walked: each returns true.
-/
import Derived.Test.YtkhmepbdjdodmaaDoorRat
import Derived.Test.YtkhmepbdjdodmaaDoorRat2Plain
namespace Go.Proofs.YtkhmepbdjdodmaaDoor
open Go.RowKit

theorem iinteger_any (n d : Int) (w : World) : Calls Tryd.prog 47 #[.agg #[.int .i64 n, .int .i64 d]] w fun e w' => e = .returned (.bool (Pl.valid n d && d == 1)) ∧ Below w.heap.size w w' := by
  cases hv : Pl.valid n d
  all_goals
    go_enter Tryd.func47, Tryd.ntmps47
    go_wp2_with (go_at_call 50; refine (ivalid_any _ _ _).mono ?_; rintro e w1 ⟨rfl, hb1⟩; obtain ⟨hc1, hf1⟩ := bcell hb1)
    go_ret
    exact ⟨rfl, ((Below.refl _ _).alloc (Nat.le_refl _) _).trans (hb1.mono (by simp))⟩

theorem sinteger_any (n d : Int) (w : World) : Calls Tryd.prog 48 #[.agg #[.int .i64 n, .int .i64 d]] w fun e w' => e = .returned (.bool (Pl.valid n d && d == 1)) ∧ Below w.heap.size w w' := by
  cases hv : Pl.valid n d
  all_goals
    go_enter Tryd.func48, Tryd.ntmps48
    go_wp2_with (go_at_call 43; refine (svalid_any _ _ _).mono ?_; rintro e w1 ⟨rfl, hb1⟩; obtain ⟨hc1, hf1⟩ := bcell hb1)
    go_ret
    exact ⟨rfl, ((Below.refl _ _).alloc (Nat.le_refl _) _).trans (hb1.mono (by simp))⟩

theorem ifloor_any (n d : Int) (w : World) : Calls Tryd.prog 45 #[.agg #[.int .i64 n, .int .i64 d]] w fun e w' => e = .returned (.int .i64 (Pl.floor n d)) ∧ Below w.heap.size w w' := by
  cases hv : Pl.valid n d
  · have e : Pl.floor n d = 0 := by simp [Pl.floor, hv]
    rw [e]
    clear e
    go_enter Tryd.func45, Tryd.ntmps45
    go_wp2_with (go_at_call 50; refine (ivalid_any _ _ _).mono ?_; rintro e w1 ⟨rfl, hb1⟩; obtain ⟨hc1, hf1⟩ := bcell hb1)
    go_ret
    exact ⟨rfl, ((Below.refl _ _).alloc (Nat.le_refl _) _).trans (hb1.mono (by simp))⟩
  · obtain ⟨h1, h2, h3, h4⟩ := Pl.valid_bounds hv
    have h0 : ¬ d = 0 := by omega
    by_cases hm : n.tmod d < 0
    · have hn : n < 0 := by
        rcases Int.lt_or_le n 0 with h | h
        · exact h
        · have := Int.tmod_nonneg d h
          omega
      have e : Pl.floor n d = n.tdiv d - 1 := by simp [Pl.floor, hv, hm]
      rw [e]
      clear e
      have t := Pl.tdiv_le n d 1000000000 h3 h4
      go_enter Tryd.func45, Tryd.ntmps45
      go_wp2_with (go_at_call 50; refine (ivalid_any _ _ _).mono ?_; rintro e w1 ⟨rfl, hb1⟩; obtain ⟨hc1, hf1⟩ := bcell hb1)
      go_ret
      exact ⟨rfl, ((Below.refl _ _).alloc (Nat.le_refl _) _).trans (hb1.mono (by simp))⟩
    · have e : Pl.floor n d = n.tdiv d := by simp [Pl.floor, hv, hm]
      rw [e]
      clear e
      have t := Pl.tdiv_le n d 1000000000 h3 h4
      go_enter Tryd.func45, Tryd.ntmps45
      go_wp2_with (go_at_call 50; refine (ivalid_any _ _ _).mono ?_; rintro e w1 ⟨rfl, hb1⟩; obtain ⟨hc1, hf1⟩ := bcell hb1)
      go_ret
      exact ⟨rfl, ((Below.refl _ _).alloc (Nat.le_refl _) _).trans (hb1.mono (by simp))⟩

theorem sfloor_any (n d : Int) (w : World) : Calls Tryd.prog 46 #[.agg #[.int .i64 n, .int .i64 d]] w fun e w' => e = .returned (.int .i64 (Pl.floor n d)) ∧ Below w.heap.size w w' := by
  cases hv : Pl.valid n d
  · have e : Pl.floor n d = 0 := by simp [Pl.floor, hv]
    rw [e]
    clear e
    go_enter Tryd.func46, Tryd.ntmps46
    go_wp2_with (go_at_call 43; refine (svalid_any _ _ _).mono ?_; rintro e w1 ⟨rfl, hb1⟩; obtain ⟨hc1, hf1⟩ := bcell hb1)
    go_ret
    exact ⟨rfl, ((Below.refl _ _).alloc (Nat.le_refl _) _).trans (hb1.mono (by simp))⟩
  · obtain ⟨h1, h2, h3, h4⟩ := Pl.valid_bounds hv
    have h0 : ¬ d = 0 := by omega
    by_cases hm : n.tmod d < 0
    · have hn : n < 0 := by
        rcases Int.lt_or_le n 0 with h | h
        · exact h
        · have := Int.tmod_nonneg d h
          omega
      have e : Pl.floor n d = n.tdiv d - 1 := by simp [Pl.floor, hv, hm]
      rw [e]
      clear e
      have t := Pl.tdiv_le n d 1000000000 h3 h4
      go_enter Tryd.func46, Tryd.ntmps46
      go_wp2_with (go_at_call 43; refine (svalid_any _ _ _).mono ?_; rintro e w1 ⟨rfl, hb1⟩; obtain ⟨hc1, hf1⟩ := bcell hb1)
      go_ret
      exact ⟨rfl, ((Below.refl _ _).alloc (Nat.le_refl _) _).trans (hb1.mono (by simp))⟩
    · have e : Pl.floor n d = n.tdiv d := by simp [Pl.floor, hv, hm]
      rw [e]
      clear e
      have t := Pl.tdiv_le n d 1000000000 h3 h4
      go_enter Tryd.func46, Tryd.ntmps46
      go_wp2_with (go_at_call 43; refine (svalid_any _ _ _).mono ?_; rintro e w1 ⟨rfl, hb1⟩; obtain ⟨hc1, hf1⟩ := bcell hb1)
      go_ret
      exact ⟨rfl, ((Below.refl _ _).alloc (Nat.le_refl _) _).trans (hb1.mono (by simp))⟩

end Go.Proofs.YtkhmepbdjdodmaaDoor
