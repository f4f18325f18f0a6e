/-
  Contracts of IsSubset, Union, Overlap and SizeOf, of the program and of the reference.
-/
import Derived.Test.YtojfahgnjfnflaaCoal
import Derived.Test.YtojfahgnjfnflaaSetsPlain
namespace Go.Proofs.Ytojfahgnjfnflaa
open Go.RowKit

theorem good_any (n : Int) (w : World) : Calls Try.prog 54 #[.int .i64 n] w fun e w' => e = .returned (.bool (Pl.within n 0 31)) ∧ w = w' := by
  go_enter Try.func54, Try.ntmps54
  go_wp2_with (go_at_call 67; refine (l1In_any _ _ _ _).mono ?_; rintro e w' ⟨rfl, rfl⟩)
  go_ret
  exact ⟨rfl, rfl⟩

theorem isub_any (a b : Int) (w : World) : Calls Try.prog 38 #[.int .i64 a, .int .i64 b] w fun e w' => e = .returned (.bool (Pl.sub a b)) ∧ w = w' := by
  cases ha : Pl.within a 0 31
  · have e : Pl.sub a b = false := by simp [Pl.sub, ha]
    rw [e]
    clear e
    go_enter Try.func38, Try.ntmps38
    go_wp2_with (go_at_call 55; refine (within_any _ _ _ _).mono ?_; rintro e w' ⟨rfl, rfl⟩)
    go_ret
    exact ⟨rfl, rfl⟩
  · cases hb : Pl.within b 0 31
    · have e : Pl.sub a b = false := by simp [Pl.sub, hb]
      rw [e]
      clear e
      go_enter Try.func38, Try.ntmps38
      go_wp2_with (go_at_call 55; refine (within_any _ _ _ _).mono ?_; rintro e w' ⟨rfl, rfl⟩)
      go_ret
      exact ⟨rfl, rfl⟩
    · have h1 := Pl.within_iff.1 ha
      have h2 := Pl.within_iff.1 hb
      have e : Pl.sub a b = (bits .andNot .i64 a b == 0) := by
        rw [Pl.andNot_sub a b h1.1 h1.2 h2.1 h2.2]
        simp [Pl.sub, ha, hb]
      rw [e]
      clear e
      go_enter Try.func38, Try.ntmps38
      go_wp2_with (go_at_call 55; refine (within_any _ _ _ _).mono ?_; rintro e w' ⟨rfl, rfl⟩)
      go_ret
      exact ⟨rfl, rfl⟩

theorem iunion_any (a b : Int) (w : World) : Calls Try.prog 34 #[.int .i64 a, .int .i64 b] w fun e w' => e = .returned (.int .i64 (Pl.union a b)) ∧ w = w' := by
  cases ha : Pl.within a 0 31
  · have e : Pl.union a b = 0 := by simp [Pl.union, ha]
    rw [e]
    clear e
    go_enter Try.func34, Try.ntmps34
    go_wp2_with (go_at_call 55; refine (within_any _ _ _ _).mono ?_; rintro e w' ⟨rfl, rfl⟩)
    go_ret
    exact ⟨rfl, rfl⟩
  · cases hb : Pl.within b 0 31
    · have e : Pl.union a b = 0 := by simp [Pl.union, hb]
      rw [e]
      clear e
      go_enter Try.func34, Try.ntmps34
      go_wp2_with (go_at_call 55; refine (within_any _ _ _ _).mono ?_; rintro e w' ⟨rfl, rfl⟩)
      go_ret
      exact ⟨rfl, rfl⟩
    · have h1 := Pl.within_iff.1 ha
      have h2 := Pl.within_iff.1 hb
      have e : Pl.union a b = bits .or .i64 a b := by
        rw [Pl.or_union a b h1.1 h1.2 h2.1 h2.2]
        simp [Pl.union, ha, hb]
      rw [e]
      clear e
      go_enter Try.func34, Try.ntmps34
      go_wp2_with (go_at_call 55; refine (within_any _ _ _ _).mono ?_; rintro e w' ⟨rfl, rfl⟩)
      go_ret
      exact ⟨rfl, rfl⟩

theorem iover_any (a b : Int) (w : World) : Calls Try.prog 35 #[.int .i64 a, .int .i64 b] w fun e w' => e = .returned (.int .i64 (Pl.over a b)) ∧ w = w' := by
  cases ha : Pl.within a 0 31
  · have e : Pl.over a b = 0 := by simp [Pl.over, ha]
    rw [e]
    clear e
    go_enter Try.func35, Try.ntmps35
    go_wp2_with (go_at_call 55; refine (within_any _ _ _ _).mono ?_; rintro e w' ⟨rfl, rfl⟩)
    go_ret
    exact ⟨rfl, rfl⟩
  · cases hb : Pl.within b 0 31
    · have e : Pl.over a b = 0 := by simp [Pl.over, hb]
      rw [e]
      clear e
      go_enter Try.func35, Try.ntmps35
      go_wp2_with (go_at_call 55; refine (within_any _ _ _ _).mono ?_; rintro e w' ⟨rfl, rfl⟩)
      go_ret
      exact ⟨rfl, rfl⟩
    · have h1 := Pl.within_iff.1 ha
      have h2 := Pl.within_iff.1 hb
      have e : Pl.over a b = bits .and .i64 a b := by
        rw [Pl.and_over a b h1.1 h1.2 h2.1 h2.2]
        simp [Pl.over, ha, hb]
      rw [e]
      clear e
      go_enter Try.func35, Try.ntmps35
      go_wp2_with (go_at_call 55; refine (within_any _ _ _ _).mono ?_; rintro e w' ⟨rfl, rfl⟩)
      go_ret
      exact ⟨rfl, rfl⟩

theorem ssub_any (a b : Int) (w : World) (ha : a ≤ 9223372036854775807) (hb : b ≤ 9223372036854775807) : Calls Try.prog 39 #[.int .i64 a, .int .i64 b] w fun e w' => e = .returned (.bool (Pl.sub a b)) ∧ w = w' := by
  go_enter Try.func39, Try.ntmps39
  go_wp2
  go_loop [5] (fun u => ∃ j : Nat, j ≤ 5 ∧ u = .int .i64 j ∧ Pl.subTo a b j = true) (fun u => 5 - (intOf u).toNat)
  case atStart => exact ⟨0, by omega, rfl, rfl⟩
  case round =>
    obtain ⟨j, hj, rfl, hs⟩ := hrel
    have HS := Lib.hid hs
    clear hs
    by_cases hlt : j < 5
    · cases hA : Pl.has a j
      · go_wp2_with (go_at_call 50; refine (shas_any _ _ _ (by assumption)).mono ?_; rintro e w' ⟨rfl, rfl⟩)
        go_round
        case rel => exact ⟨j + 1, by omega, by go_num, by rw [Pl.subTo_succ, HS.out, hA]; rfl⟩
        case measure => simp [intOf]; omega
      · cases hB : Pl.has b j
        · go_wp2_with (go_at_call 50; refine (shas_any _ _ _ (by assumption)).mono ?_; rintro e w' ⟨rfl, rfl⟩)
          go_ret
          refine ⟨Pl.ret_bool ?_, rfl⟩
          have h1 : Pl.subTo a b (j + 1) = false := by rw [Pl.subTo_succ, hA, hB]; simp
          have h2 := Pl.subTo_mono h1 (show j + 1 ≤ 5 by omega)
          simp [Pl.sub, h2]
        · go_wp2_with (go_at_call 50; refine (shas_any _ _ _ (by assumption)).mono ?_; rintro e w' ⟨rfl, rfl⟩)
          go_round
          case rel => exact ⟨j + 1, by omega, by go_num, by rw [Pl.subTo_succ, HS.out, hA, hB]; rfl⟩
          case measure => simp [intOf]; omega
    · obtain rfl : j = 5 := by omega
      cases hA : Pl.within a 0 31
      · go_wp2_with (go_at_call 54; refine (good_any _ _).mono ?_; rintro e w' ⟨rfl, rfl⟩)
        go_ret
        exact ⟨Pl.ret_bool (by simp [Pl.sub, hA]), rfl⟩
      · go_wp2_with (go_at_call 54; refine (good_any _ _).mono ?_; rintro e w' ⟨rfl, rfl⟩)
        go_ret
        exact ⟨Pl.ret_bool (by simp [Pl.sub, hA, HS.out]), rfl⟩

theorem sunion_any (a b : Int) (w : World) (ha : a ≤ 9223372036854775807) (hb : b ≤ 9223372036854775807) : Calls Try.prog 36 #[.int .i64 a, .int .i64 b] w fun e w' => e = .returned (.int .i64 (Pl.union a b)) ∧ w = w' := by
  go_enter Try.func36, Try.ntmps36
  go_wp2
  go_loop [5, 6] (fun o u => ∃ j : Nat, j ≤ 5 ∧ u = .int .i64 j ∧ o = .int .i64 (Pl.unionTo a b j) ∧ (j = 0 ∨ (Pl.within a 0 31 && Pl.within b 0 31) = true)) (fun _ u => 5 - (intOf u).toNat)
  case atStart => exact ⟨0, by omega, rfl, rfl, Or.inl rfl⟩
  case round =>
    obtain ⟨j, hj, rfl, rfl, hg⟩ := hrel
    have hle := Pl.unionTo_le a b j
    have hcl := Pl.count_le j
    have HG := Lib.hid hg
    clear hg
    cases hA : Pl.within a 0 31
    · have hj0 : j < 5 := by
        rcases HG.out with h | h
        · omega
        · simp [hA] at h
      have dj := decide_eq_true (show (j : Int) < 5 by omega)
      go_wp2_with (first | (go_at_call 50; refine (shas_any _ _ _ (by assumption)).mono ?_; rintro e w' ⟨rfl, rfl⟩) | (go_at_call 54; refine (good_any _ _).mono ?_; rintro e w' ⟨rfl, rfl⟩) | (go_at_call 65; refine (bit_any _ _).mono ?_; rintro e w' ⟨rfl, rfl⟩))
      go_ret
      refine ⟨Pl.ret_int ?_, rfl⟩
      rcases HG.out with rfl | h
      · simp [Pl.union, Pl.unionTo, hA]
      · simp [hA] at h
    · cases hB : Pl.within b 0 31
      · have hj0 : j < 5 := by
          rcases HG.out with h | h
          · omega
          · simp [hB] at h
        have dj := decide_eq_true (show (j : Int) < 5 by omega)
        go_wp2_with (first | (go_at_call 50; refine (shas_any _ _ _ (by assumption)).mono ?_; rintro e w' ⟨rfl, rfl⟩) | (go_at_call 54; refine (good_any _ _).mono ?_; rintro e w' ⟨rfl, rfl⟩) | (go_at_call 65; refine (bit_any _ _).mono ?_; rintro e w' ⟨rfl, rfl⟩))
        go_ret
        refine ⟨Pl.ret_int ?_, rfl⟩
        rcases HG.out with rfl | h
        · simp [Pl.union, Pl.unionTo, hB]
        · simp [hB] at h
      · by_cases hlt : j < 5
        · cases hp : Pl.has a j <;> cases hq : Pl.has b j
          all_goals
            have dj := decide_eq_true (show (j : Int) < 5 by omega)
            go_wp2_with (first | (go_at_call 50; refine (shas_any _ _ _ (by assumption)).mono ?_; rintro e w' ⟨rfl, rfl⟩) | (go_at_call 54; refine (good_any _ _).mono ?_; rintro e w' ⟨rfl, rfl⟩) | (go_at_call 65; refine (bit_any _ _).mono ?_; rintro e w' ⟨rfl, rfl⟩))
            go_round
            case rel => exact ⟨j + 1, by omega, by go_num, by simp [Pl.unionTo_succ, hp, hq], Or.inr (by first | rfl | (rw [hA, hB]; rfl))⟩
            case measure => simp [intOf]; omega
        · obtain rfl : j = 5 := by omega
          go_wp2_with (first | (go_at_call 50; refine (shas_any _ _ _ (by assumption)).mono ?_; rintro e w' ⟨rfl, rfl⟩) | (go_at_call 54; refine (good_any _ _).mono ?_; rintro e w' ⟨rfl, rfl⟩) | (go_at_call 65; refine (bit_any _ _).mono ?_; rintro e w' ⟨rfl, rfl⟩))
          go_ret
          exact ⟨Pl.ret_int (by simp [Pl.union, hA, hB]), rfl⟩

theorem sover_any (a b : Int) (w : World) (ha : a ≤ 9223372036854775807) (hb : b ≤ 9223372036854775807) : Calls Try.prog 37 #[.int .i64 a, .int .i64 b] w fun e w' => e = .returned (.int .i64 (Pl.over a b)) ∧ w = w' := by
  go_enter Try.func37, Try.ntmps37
  go_wp2
  go_loop [5, 6] (fun o u => ∃ j : Nat, j ≤ 5 ∧ u = .int .i64 j ∧ o = .int .i64 (Pl.overTo a b j) ∧ (j = 0 ∨ (Pl.within a 0 31 && Pl.within b 0 31) = true)) (fun _ u => 5 - (intOf u).toNat)
  case atStart => exact ⟨0, by omega, rfl, rfl, Or.inl rfl⟩
  case round =>
    obtain ⟨j, hj, rfl, rfl, hg⟩ := hrel
    have hle := Pl.overTo_le a b j
    have hcl := Pl.count_le j
    have HG := Lib.hid hg
    clear hg
    cases hA : Pl.within a 0 31
    · have hj0 : j < 5 := by
        rcases HG.out with h | h
        · omega
        · simp [hA] at h
      have dj := decide_eq_true (show (j : Int) < 5 by omega)
      go_wp2_with (first | (go_at_call 50; refine (shas_any _ _ _ (by assumption)).mono ?_; rintro e w' ⟨rfl, rfl⟩) | (go_at_call 54; refine (good_any _ _).mono ?_; rintro e w' ⟨rfl, rfl⟩) | (go_at_call 65; refine (bit_any _ _).mono ?_; rintro e w' ⟨rfl, rfl⟩))
      go_ret
      refine ⟨Pl.ret_int ?_, rfl⟩
      rcases HG.out with rfl | h
      · simp [Pl.over, Pl.overTo, hA]
      · simp [hA] at h
    · cases hB : Pl.within b 0 31
      · have hj0 : j < 5 := by
          rcases HG.out with h | h
          · omega
          · simp [hB] at h
        have dj := decide_eq_true (show (j : Int) < 5 by omega)
        go_wp2_with (first | (go_at_call 50; refine (shas_any _ _ _ (by assumption)).mono ?_; rintro e w' ⟨rfl, rfl⟩) | (go_at_call 54; refine (good_any _ _).mono ?_; rintro e w' ⟨rfl, rfl⟩) | (go_at_call 65; refine (bit_any _ _).mono ?_; rintro e w' ⟨rfl, rfl⟩))
        go_ret
        refine ⟨Pl.ret_int ?_, rfl⟩
        rcases HG.out with rfl | h
        · simp [Pl.over, Pl.overTo, hB]
        · simp [hB] at h
      · by_cases hlt : j < 5
        · cases hp : Pl.has a j <;> cases hq : Pl.has b j
          all_goals
            have dj := decide_eq_true (show (j : Int) < 5 by omega)
            go_wp2_with (first | (go_at_call 50; refine (shas_any _ _ _ (by assumption)).mono ?_; rintro e w' ⟨rfl, rfl⟩) | (go_at_call 54; refine (good_any _ _).mono ?_; rintro e w' ⟨rfl, rfl⟩) | (go_at_call 65; refine (bit_any _ _).mono ?_; rintro e w' ⟨rfl, rfl⟩))
            go_round
            case rel => exact ⟨j + 1, by omega, by go_num, by simp [Pl.overTo_succ, hp, hq], Or.inr (by first | rfl | (rw [hA, hB]; rfl))⟩
            case measure => simp [intOf]; omega
        · obtain rfl : j = 5 := by omega
          go_wp2_with (first | (go_at_call 50; refine (shas_any _ _ _ (by assumption)).mono ?_; rintro e w' ⟨rfl, rfl⟩) | (go_at_call 54; refine (good_any _ _).mono ?_; rintro e w' ⟨rfl, rfl⟩) | (go_at_call 65; refine (bit_any _ _).mono ?_; rintro e w' ⟨rfl, rfl⟩))
          go_ret
          exact ⟨Pl.ret_int (by simp [Pl.over, hA, hB]), rfl⟩

theorem isize_any (s : Int) (w : World) (hs : s ≤ 9223372036854775807) : Calls Try.prog 40 #[.int .i64 s] w fun e w' => e = .returned (.int .i64 (Pl.sizeTo s 5)) ∧ w = w' := by
  go_enter Try.func40, Try.ntmps40
  go_wp2
  go_loop [3, 5, 4, 6, 7, 8, 9, 10, 11, 12, 13] (fun o u _ _ _ _ _ _ _ _ _ => ∃ j : Nat, j ≤ 5 ∧ u = .int .i64 j ∧ o = .int .i64 (Pl.sizeTo s j)) (fun _ u _ _ _ _ _ _ _ _ _ => 5 - (intOf u).toNat)
  case atStart => exact ⟨0, by omega, rfl, rfl⟩
  case round =>
    obtain ⟨j, hj, rfl, rfl⟩ := hrel
    have hle := Pl.sizeTo_le s j
    by_cases hlt : j < 5
    · cases hp : Pl.has s j
      all_goals
        go_wp2_with (go_at_call 49; refine (ihas_any _ _ _ (by assumption)).mono ?_; rintro e w' ⟨rfl, rfl⟩)
        go_round
        case rel => exact ⟨j + 1, by omega, by go_num, by simp [Pl.sizeTo_succ, hp]⟩
        case measure => simp [intOf]; omega
    · obtain rfl : j = 5 := by omega
      go_wp2
      go_ret
      exact ⟨rfl, rfl⟩

theorem ssize_any (s : Int) (w : World) (hs : s ≤ 9223372036854775807) : Calls Try.prog 53 #[.int .i64 s] w fun e w' => e = .returned (.int .i64 (Pl.sizeTo s 5)) ∧ w = w' := by
  go_enter Try.func53, Try.ntmps53
  go_wp2
  go_loop [3, 4] (fun o u => ∃ j : Nat, j ≤ 5 ∧ u = .int .i64 j ∧ o = .int .i64 (Pl.sizeTo s j)) (fun _ u => 5 - (intOf u).toNat)
  case atStart => exact ⟨0, by omega, rfl, rfl⟩
  case round =>
    obtain ⟨j, hj, rfl, rfl⟩ := hrel
    have hle := Pl.sizeTo_le s j
    by_cases hlt : j < 5
    · cases hp : Pl.has s j
      all_goals
        go_wp2_with (go_at_call 50; refine (shas_any _ _ _ (by assumption)).mono ?_; rintro e w' ⟨rfl, rfl⟩)
        go_round
        case rel => exact ⟨j + 1, by omega, by go_num, by simp [Pl.sizeTo_succ, hp]⟩
        case measure => simp [intOf]; omega
    · obtain rfl : j = 5 := by omega
      go_wp2
      go_ret
      exact ⟨rfl, rfl⟩

end Go.Proofs.Ytojfahgnjfnflaa
