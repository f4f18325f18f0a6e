/-
  Contracts of the small functions on coalitions: within, CountCoalitions, HasPlayer, IsSubset, Union, Overlap, SizeOf.
-/
import Derived.Test.YtojfahgnjfnflaaChecked
import Derived.Test.YtojfahgnjfnflaaPlain
import Derived.WalkKit
import Derived.WalkLawsBesides
import Derived.BigGuardPart
import Derived.BigQuiet
import Derived.Outline
import Derived.Lib.Hide
namespace Go.Proofs.Ytojfahgnjfnflaa
open Go.RowKit

theorem within_any (n lo hi : Int) (w : World) : Calls Try.prog 55 #[.int .i64 n, .int .i64 lo, .int .i64 hi] w fun e w' => e = .returned (.bool (Pl.within n lo hi)) ∧ w = w' := by
  by_cases h1 : lo ≤ n
  · by_cases h2 : n ≤ hi
    · rw [Pl.within_yes h1 h2]
      go_enter Try.func55, Try.ntmps55
      go_wp2
      go_ret
      exact ⟨rfl, rfl⟩
    · rw [Pl.within_no (Or.inr (by omega))]
      go_enter Try.func55, Try.ntmps55
      go_wp2
      go_ret
      exact ⟨rfl, rfl⟩
  · rw [Pl.within_no (Or.inl (by omega))]
    go_enter Try.func55, Try.ntmps55
    go_wp2
    go_ret
    exact ⟨rfl, rfl⟩

theorem l1In_any (n lo hi : Int) (w : World) : Calls Try.prog 67 #[.int .i64 n, .int .i64 lo, .int .i64 hi] w fun e w' => e = .returned (.bool (Pl.within n lo hi)) ∧ w = w' := by
  by_cases h1 : lo ≤ n
  · by_cases h2 : n ≤ hi
    · rw [Pl.within_yes h1 h2]
      go_enter Try.func67, Try.ntmps67
      go_wp2
      go_ret
      exact ⟨rfl, rfl⟩
    · rw [Pl.within_no (Or.inr (by omega))]
      go_enter Try.func67, Try.ntmps67
      go_wp2
      go_ret
      exact ⟨rfl, rfl⟩
  · rw [Pl.within_no (Or.inl (by omega))]
    go_enter Try.func67, Try.ntmps67
    go_wp2
    go_ret
    exact ⟨rfl, rfl⟩

theorem icount_any (n : Int) (w : World) : Calls Try.prog 51 #[.int .i64 n] w fun e w' => e = .returned (.int .i64 (Pl.count n)) ∧ w = w' := by
  by_cases h : 0 ≤ n ∧ n ≤ 5
  · obtain ⟨h1, h2⟩ := h
    rcases (show n = 0 ∨ n = 1 ∨ n = 2 ∨ n = 3 ∨ n = 4 ∨ n = 5 from by omega) with rfl | rfl | rfl | rfl | rfl | rfl
    all_goals
      go_enter Try.func51, Try.ntmps51
      go_wp2
      go_ret
      exact ⟨rfl, rfl⟩
  · have e : Pl.count n = 0 := by
      unfold Pl.count
      rw [Pl.within_no (by omega)]
      rfl
    rw [e]
    have h' : n < 0 ∨ 5 < n := by omega
    clear h e
    rcases h' with h | h
    · go_enter Try.func51, Try.ntmps51
      go_wp2
      go_ret
      exact ⟨rfl, rfl⟩
    · have h0 : 0 ≤ n := by omega
      have d5 := decide_eq_false (show ¬ n ≤ 5 by omega)
      go_enter Try.func51, Try.ntmps51
      go_wp2
      go_ret
      exact ⟨rfl, rfl⟩

theorem scount_any (n : Int) (w : World) : Calls Try.prog 52 #[.int .i64 n] w fun e w' => e = .returned (.int .i64 (Pl.count n)) ∧ w = w' := by
  by_cases h : 0 ≤ n ∧ n ≤ 5
  · obtain ⟨h1, h2⟩ := h
    have d0 := decide_eq_true h1
    have d5 := decide_eq_true h2
    obtain ⟨m, rfl⟩ := Int.eq_ofNat_of_zero_le h1
    have e : Pl.count (m : Int) = ((2 ^ m : Nat) : Int) := by
      unfold Pl.count
      rw [Pl.within_yes h1 h2]
      simp
    rw [e]
    clear e
    have hm : m ≤ 5 := by omega
    go_enter Try.func52, Try.ntmps52
    go_wp2
    go_loop [3, 4] (fun o k => ∃ j : Nat, j ≤ m ∧ k = .int .i64 j ∧ o = .int .i64 ((2 ^ j : Nat) : Int)) (fun _ k => m - (intOf k).toNat)
    case atStart => exact ⟨0, Nat.zero_le _, rfl, rfl⟩
    case round =>
      obtain ⟨j, hj, rfl, rfl⟩ := hrel
      have hb : 2 ^ j ≤ 2 ^ 5 := Nat.pow_le_pow_right (by omega) (by omega)
      have hp : ((2 ^ (j + 1) : Nat) : Int) = ((2 ^ j : Nat) : Int) * 2 := by rw [Nat.pow_succ]; simp
      obtain ⟨q, hq⟩ : ∃ q : Nat, q = 2 ^ j := ⟨_, rfl⟩
      obtain ⟨q2, hq2⟩ : ∃ q2 : Nat, q2 = 2 ^ (j + 1) := ⟨_, rfl⟩
      rw [← hq] at hb hp ⊢
      rw [← hq2] at hp
      have HQ := Lib.hid hq
      have HQ2 := Lib.hid hq2
      have HP := Lib.hid hp
      clear hq hp hq2
      by_cases hlt : j < m
      · go_wp2
        go_round
        case rel => exact ⟨j + 1, by omega, by go_num, by rw [← HQ2.out, HP.out]⟩
        case measure => simp [intOf]; omega
      · obtain rfl : j = m := by omega
        go_wp2
        go_ret
        exact ⟨Pl.ret_int (by rw [HQ.out]; simp), rfl⟩
  · have e : Pl.count n = 0 := by
      unfold Pl.count
      rw [Pl.within_no (by omega)]
      rfl
    rw [e]
    have h' : n < 0 ∨ 5 < n := by omega
    clear h e
    rcases h' with h | h
    · have d0 := decide_eq_false (show ¬ 0 ≤ n by omega)
      go_enter Try.func52, Try.ntmps52
      go_wp2
      go_ret
      exact ⟨rfl, rfl⟩
    · have h0 : 0 ≤ n := by omega
      have d5 := decide_eq_false (show ¬ n ≤ 5 by omega)
      go_enter Try.func52, Try.ntmps52
      go_wp2
      go_ret
      exact ⟨rfl, rfl⟩

theorem ihas_any (s k : Int) (w : World) (hs : s ≤ 9223372036854775807) : Calls Try.prog 49 #[.int .i64 s, .int .i64 k] w fun e w' => e = .returned (.bool (Pl.has s k)) ∧ w = w' := by
  by_cases h : 0 ≤ s ∧ 0 ≤ k ∧ k ≤ 4
  · obtain ⟨h0, h1, h2⟩ := h
    have e : Pl.has s k = (s / 2 ^ k.toNat % 2 == 1) := by simp [Pl.has, h0, Pl.within_yes h1 h2]
    rw [e]
    rcases (show k = 0 ∨ k = 1 ∨ k = 2 ∨ k = 3 ∨ k = 4 from by omega) with rfl | rfl | rfl | rfl | rfl
    all_goals
      have d0 := decide_eq_true h0
      go_enter Try.func49, Try.ntmps49
      go_wp2
      go_ret
      refine ⟨Pl.ret_bool ?_, rfl⟩
      rw [Pl.i64_and1]
      simp
  · rw [Pl.has_no (by omega)]
    have h' : s < 0 ∨ (0 ≤ s ∧ k < 0) ∨ (0 ≤ s ∧ 0 ≤ k ∧ 4 < k) := by omega
    clear h
    rcases h' with h | ⟨h0, h⟩ | ⟨h0, h1, h⟩
    · have d0 := decide_eq_false (show ¬ 0 ≤ s by omega)
      go_enter Try.func49, Try.ntmps49
      go_wp2
      go_ret
      exact ⟨rfl, rfl⟩
    · have d0 := decide_eq_true h0
      have d1 := decide_eq_false (show ¬ 0 ≤ k by omega)
      go_enter Try.func49, Try.ntmps49
      go_wp2
      go_ret
      exact ⟨rfl, rfl⟩
    · have d0 := decide_eq_true h0
      have d1 := decide_eq_true h1
      have d2 := decide_eq_false (show ¬ k ≤ 4 by omega)
      go_enter Try.func49, Try.ntmps49
      go_wp2
      go_ret
      exact ⟨rfl, rfl⟩

theorem bit_any (n : Int) (w : World) : Calls Try.prog 65 #[.int .i64 n] w fun e w' => e = .returned (.int .i64 (Pl.count n)) ∧ w = w' := by
  go_enter Try.func65, Try.ntmps65
  go_wp2_with (go_at_call 52; refine (scount_any _ _).mono ?_; rintro e w' ⟨rfl, rfl⟩)
  go_ret
  exact ⟨rfl, rfl⟩

theorem shas_any (s k : Int) (w : World) (hs : s ≤ 9223372036854775807) : Calls Try.prog 50 #[.int .i64 s, .int .i64 k] w fun e w' => e = .returned (.bool (Pl.has s k)) ∧ w = w' := by
  by_cases h : 0 ≤ s ∧ 0 ≤ k ∧ k ≤ 4
  · obtain ⟨h0, h1, h2⟩ := h
    have e : Pl.has s k = (s / 2 ^ k.toNat % 2 == 1) := by simp [Pl.has, h0, Pl.within_yes h1 h2]
    rw [e]
    rcases (show k = 0 ∨ k = 1 ∨ k = 2 ∨ k = 3 ∨ k = 4 from by omega) with rfl | rfl | rfl | rfl | rfl
    all_goals
      have d0 := decide_eq_true h0
      go_enter Try.func50, Try.ntmps50
      go_wp2_with (first | (go_at_call 65; refine (bit_any _ _).mono ?_; rintro e w' ⟨rfl, rfl⟩; simp only [Pl.count_at]) | go_in)
      go_ret
      exact ⟨Pl.ret_bool (by simp), rfl⟩
  · rw [Pl.has_no (by omega)]
    have h' : (k < 0) ∨ (0 ≤ k ∧ 4 < k) ∨ (0 ≤ k ∧ k ≤ 4 ∧ s < 0) := by omega
    clear h
    rcases h' with h | ⟨h0, h⟩ | ⟨h0, h1, h⟩
    · have d0 := decide_eq_false (show ¬ 0 ≤ k by omega)
      go_enter Try.func50, Try.ntmps50
      go_wp2
      go_ret
      exact ⟨rfl, rfl⟩
    · have d0 := decide_eq_true h0
      have d1 := decide_eq_false (show ¬ k ≤ 4 by omega)
      go_enter Try.func50, Try.ntmps50
      go_wp2
      go_ret
      exact ⟨rfl, rfl⟩
    · have d0 := decide_eq_true h0
      have d1 := decide_eq_true h1
      have d2 := decide_eq_false (show ¬ 0 ≤ s by omega)
      go_enter Try.func50, Try.ntmps50
      go_wp2
      go_ret
      exact ⟨rfl, rfl⟩

end Go.Proofs.Ytojfahgnjfnflaa
