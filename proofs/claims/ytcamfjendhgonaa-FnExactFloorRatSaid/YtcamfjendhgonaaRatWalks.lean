/-
  Contracts of IsInteger and FloorRat; the laws FnExactIsValidRat, FnExactIsInteger, FnExactFloorRat walked: each returns true.
-/
import Derived.Test.YtcamfjendhgonaaRat
import Derived.Test.YtcamfjendhgonaaRat2Plain
namespace Go.Proofs.Ytcamfjendhgonaa
open Go.RowKit

theorem iinteger_any (n d : Int) (w : World) : Calls Try.prog 30 #[.agg #[.int .i64 n, .int .i64 d]] w fun e w' => e = .returned (.bool (Pl.valid n d && d == 1)) ∧ Below w.heap.size w w' := by
  cases hv : Pl.valid n d
  all_goals
    go_enter Try.func30, Try.ntmps30
    go_wp2_with (go_at_call 26; refine (ivalid_any _ _ _).mono ?_; rintro e w1 ⟨rfl, hb1⟩; obtain ⟨hc1, hf1⟩ := bcell hb1)
    go_ret
    exact ⟨rfl, ((Below.refl _ _).alloc (Nat.le_refl _) _).trans (hb1.mono (by simp))⟩

theorem sinteger_any (n d : Int) (w : World) : Calls Try.prog 29 #[.agg #[.int .i64 n, .int .i64 d]] w fun e w' => e = .returned (.bool (Pl.valid n d && d == 1)) ∧ Below w.heap.size w w' := by
  cases hv : Pl.valid n d
  all_goals
    go_enter Try.func29, Try.ntmps29
    go_wp2_with (go_at_call 24; refine (svalid_any _ _ _).mono ?_; rintro e w1 ⟨rfl, hb1⟩; obtain ⟨hc1, hf1⟩ := bcell hb1)
    go_ret
    exact ⟨rfl, ((Below.refl _ _).alloc (Nat.le_refl _) _).trans (hb1.mono (by simp))⟩

theorem ifloor_any (n d : Int) (w : World) : Calls Try.prog 32 #[.agg #[.int .i64 n, .int .i64 d]] w fun e w' => e = .returned (.int .i64 (Pl.floor n d)) ∧ Below w.heap.size w w' := by
  cases hv : Pl.valid n d
  · have e : Pl.floor n d = 0 := by simp [Pl.floor, hv]
    rw [e]
    clear e
    go_enter Try.func32, Try.ntmps32
    go_wp2_with (go_at_call 26; refine (ivalid_any _ _ _).mono ?_; rintro e w1 ⟨rfl, hb1⟩; obtain ⟨hc1, hf1⟩ := bcell hb1)
    go_ret
    exact ⟨rfl, ((Below.refl _ _).alloc (Nat.le_refl _) _).trans (hb1.mono (by simp))⟩
  · obtain ⟨h1, h2, h3, h4⟩ := Pl.valid_bounds hv
    have h0 : ¬ d = 0 := by omega
    by_cases hm : n.tmod d < 0
    · have hn : n < 0 := by
        rcases Int.lt_or_le n 0 with h | h
        · exact h
        · have := Int.tmod_nonneg d h
          omega
      have e : Pl.floor n d = n.tdiv d - 1 := by simp [Pl.floor, hv, hm]
      rw [e]
      clear e
      have t := Pl.tdiv_le n d 1000000000 h3 h4
      go_enter Try.func32, Try.ntmps32
      go_wp2_with (go_at_call 26; refine (ivalid_any _ _ _).mono ?_; rintro e w1 ⟨rfl, hb1⟩; obtain ⟨hc1, hf1⟩ := bcell hb1)
      go_ret
      exact ⟨rfl, ((Below.refl _ _).alloc (Nat.le_refl _) _).trans (hb1.mono (by simp))⟩
    · have e : Pl.floor n d = n.tdiv d := by simp [Pl.floor, hv, hm]
      rw [e]
      clear e
      have t := Pl.tdiv_le n d 1000000000 h3 h4
      go_enter Try.func32, Try.ntmps32
      go_wp2_with (go_at_call 26; refine (ivalid_any _ _ _).mono ?_; rintro e w1 ⟨rfl, hb1⟩; obtain ⟨hc1, hf1⟩ := bcell hb1)
      go_ret
      exact ⟨rfl, ((Below.refl _ _).alloc (Nat.le_refl _) _).trans (hb1.mono (by simp))⟩

theorem sfloor_any (n d : Int) (w : World) : Calls Try.prog 31 #[.agg #[.int .i64 n, .int .i64 d]] w fun e w' => e = .returned (.int .i64 (Pl.floor n d)) ∧ Below w.heap.size w w' := by
  cases hv : Pl.valid n d
  · have e : Pl.floor n d = 0 := by simp [Pl.floor, hv]
    rw [e]
    clear e
    go_enter Try.func31, Try.ntmps31
    go_wp2_with (go_at_call 24; refine (svalid_any _ _ _).mono ?_; rintro e w1 ⟨rfl, hb1⟩; obtain ⟨hc1, hf1⟩ := bcell hb1)
    go_ret
    exact ⟨rfl, ((Below.refl _ _).alloc (Nat.le_refl _) _).trans (hb1.mono (by simp))⟩
  · obtain ⟨h1, h2, h3, h4⟩ := Pl.valid_bounds hv
    have h0 : ¬ d = 0 := by omega
    by_cases hm : n.tmod d < 0
    · have hn : n < 0 := by
        rcases Int.lt_or_le n 0 with h | h
        · exact h
        · have := Int.tmod_nonneg d h
          omega
      have e : Pl.floor n d = n.tdiv d - 1 := by simp [Pl.floor, hv, hm]
      rw [e]
      clear e
      have t := Pl.tdiv_le n d 1000000000 h3 h4
      go_enter Try.func31, Try.ntmps31
      go_wp2_with (go_at_call 24; refine (svalid_any _ _ _).mono ?_; rintro e w1 ⟨rfl, hb1⟩; obtain ⟨hc1, hf1⟩ := bcell hb1)
      go_ret
      exact ⟨rfl, ((Below.refl _ _).alloc (Nat.le_refl _) _).trans (hb1.mono (by simp))⟩
    · have e : Pl.floor n d = n.tdiv d := by simp [Pl.floor, hv, hm]
      rw [e]
      clear e
      have t := Pl.tdiv_le n d 1000000000 h3 h4
      go_enter Try.func31, Try.ntmps31
      go_wp2_with (go_at_call 24; refine (svalid_any _ _ _).mono ?_; rintro e w1 ⟨rfl, hb1⟩; obtain ⟨hc1, hf1⟩ := bcell hb1)
      go_ret
      exact ⟨rfl, ((Below.refl _ _).alloc (Nat.le_refl _) _).trans (hb1.mono (by simp))⟩

theorem fnExactIsValidRat_walk (n d : Int) (_ : (Lit.int .i64 n).wf = true) (_ : (Lit.int .i64 d).wf = true) (w : World) :
    Calls Try.prog 9 #[.agg #[.int .i64 n, .int .i64 d]] w fun e w' => e = .returned (.bool true) ∧ Below w.heap.size w w' := by
  go_enter Try.func9, Try.ntmps9
  go_wp2_with fail
  refine (toRat_any _ _ _).mono ?_
  rintro e w1 ⟨rfl, hb1⟩
  obtain ⟨hc1, hf1⟩ := bcell hb1
  have hz1 := hb1.size
  go_wp2_with fail
  refine (svalid_any _ _ _).mono ?_
  rintro e w2 ⟨rfl, hb2⟩
  obtain ⟨hc2, hf2⟩ := bcell hb2
  have hz2 := hb2.size
  simp at hz1
  have hz3 : w.heap.size < w1.heap.size := by omega
  go_wp2_with fail
  refine (toRat_any _ _ _).mono ?_
  rintro e w3 ⟨rfl, hb3⟩
  go_wp2_with fail
  refine (ivalid_any _ _ _).mono ?_
  rintro e w4 ⟨rfl, hb4⟩
  go_wp2
  go_ret
  have hz4 := hb3.size
  exact ⟨rfl, ((((((Below.refl _ _).alloc (Nat.le_refl _) _).trans (hb1.mono (by simp))).trans (hb2.mono (by omega))).trans (hb3.mono (by omega))).trans (hb4.mono (by omega)))⟩

theorem fnExactIsInteger_walk (n d : Int) (_ : (Lit.int .i64 n).wf = true) (_ : (Lit.int .i64 d).wf = true) (w : World) :
    Calls Try.prog 11 #[.agg #[.int .i64 n, .int .i64 d]] w fun e w' => e = .returned (.bool true) ∧ Below w.heap.size w w' := by
  go_enter Try.func11, Try.ntmps11
  go_wp2_with fail
  refine (toRat_any _ _ _).mono ?_
  rintro e w1 ⟨rfl, hb1⟩
  obtain ⟨hc1, hf1⟩ := bcell hb1
  have hz1 := hb1.size
  go_wp2_with fail
  refine (sinteger_any _ _ _).mono ?_
  rintro e w2 ⟨rfl, hb2⟩
  obtain ⟨hc2, hf2⟩ := bcell hb2
  have hz2 := hb2.size
  simp at hz1
  have hz3 : w.heap.size < w1.heap.size := by omega
  go_wp2_with fail
  refine (toRat_any _ _ _).mono ?_
  rintro e w3 ⟨rfl, hb3⟩
  go_wp2_with fail
  refine (iinteger_any _ _ _).mono ?_
  rintro e w4 ⟨rfl, hb4⟩
  go_wp2
  go_ret
  have hz4 := hb3.size
  exact ⟨rfl, ((((((Below.refl _ _).alloc (Nat.le_refl _) _).trans (hb1.mono (by simp))).trans (hb2.mono (by omega))).trans (hb3.mono (by omega))).trans (hb4.mono (by omega)))⟩

theorem fnExactFloorRat_walk (n d : Int) (_ : (Lit.int .i64 n).wf = true) (_ : (Lit.int .i64 d).wf = true) (w : World) :
    Calls Try.prog 12 #[.agg #[.int .i64 n, .int .i64 d]] w fun e w' => e = .returned (.bool true) ∧ Below w.heap.size w w' := by
  go_enter Try.func12, Try.ntmps12
  go_wp2_with fail
  refine (toRat_any _ _ _).mono ?_
  rintro e w1 ⟨rfl, hb1⟩
  obtain ⟨hc1, hf1⟩ := bcell hb1
  have hz1 := hb1.size
  go_wp2_with fail
  refine (sfloor_any _ _ _).mono ?_
  rintro e w2 ⟨rfl, hb2⟩
  obtain ⟨hc2, hf2⟩ := bcell hb2
  have hz2 := hb2.size
  simp at hz1
  have hz3 : w.heap.size < w1.heap.size := by omega
  go_wp2_with fail
  refine (toRat_any _ _ _).mono ?_
  rintro e w3 ⟨rfl, hb3⟩
  go_wp2_with fail
  refine (ifloor_any _ _ _).mono ?_
  rintro e w4 ⟨rfl, hb4⟩
  go_wp2
  go_ret
  have hz4 := hb3.size
  exact ⟨rfl, ((((((Below.refl _ _).alloc (Nat.le_refl _) _).trans (hb1.mono (by simp))).trans (hb2.mono (by omega))).trans (hb3.mono (by omega))).trans (hb4.mono (by omega)))⟩

end Go.Proofs.Ytcamfjendhgonaa
