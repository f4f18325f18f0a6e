/-
  Contracts over texts: readDigits.
-/
import Derived.Test.YtkhmepbdjdodmaaDoorCoal
import Derived.Test.YtkhmepbdjdodmaaDoorNumPlain
import Derived.Lib.Hide
import Derived.Laws.DeepStrings4
namespace Go.Proofs.YtkhmepbdjdodmaaDoor
open Go.RowKit

namespace Pl
theorem size_toList (s : ByteArray) : s.toList.length = s.size := by rw [ByteArray.toList_eq]; rfl
theorem get_toList (s : ByteArray) (j : Nat) (h : j < s.size) : s.toList[j]'(by rw [size_toList]; exact h) = s[j] := by
  simp only [ByteArray.toList_eq]
  rfl
theorem take_toList (s : ByteArray) (j : Nat) (h : j < s.size) : s.toList.take (j + 1) = s.toList.take j ++ [s[j]] := by
  rw [List.take_succ_eq_append_getElem (by rw [size_toList]; exact h), get_toList s j h]
theorem headD_get (l : List UInt8) (h : 0 < l.length) : l.headD 0 = l[0] := by
  cases l with
  | nil => simp at h
  | cons c l => rfl
theorem head_toList (s : ByteArray) (h : 0 < s.size) : s.toList.headD 0 = s[0] := by
  rw [← get_toList s 0 h]
  exact headD_get _ _
theorem readD_bad {l : List UInt8} {m : Nat} (h : okDig l m = false) : readD l m = -1 := by rw [readD, h]; rfl
theorem readD_good {l : List UInt8} {m : Nat} (h : okDig l m = true) : readD l m = val l := by rw [readD, h]; rfl
/-- the form before the digits are looked at -/
def pre (l : List UInt8) (m : Nat) : Bool := decide (1 ≤ l.length) && decide (l.length ≤ m) && !(decide (1 < l.length) && (l.headD 0 == 48))
theorem okDig_pre (l : List UInt8) (m : Nat) : okDig l m = (pre l m && allDig l) := rfl
theorem allDig_bad {s : ByteArray} {j : Nat} (h : j < s.size) (hd : isDig s[j] = false) : allDig s.toList = false := by
  rw [← get_toList s j h] at hd
  cases e : allDig s.toList
  · rfl
  · rw [allDig, List.all_eq_true] at e
    rw [e _ (List.getElem_mem _)] at hd
    cases hd
theorem allDig_next {s : ByteArray} {j : Nat} (h : j < s.size) (hd : isDig s[j] = true) (ha : allDig (s.toList.take j) = true) : allDig (s.toList.take (j + 1)) = true := by
  rw [take_toList s j h, allDig, List.all_append]
  simp [hd]
  simpa [allDig] using ha
theorem val_next {s : ByteArray} {j : Nat} (h : j < s.size) : val (s.toList.take (j + 1)) = 10 * val (s.toList.take j) + (s[j].toNat - 48) := by
  rw [take_toList s j h, val_snoc]
theorem take_all (s : ByteArray) : s.toList.take s.size = s.toList := by rw [← size_toList, List.take_length]
theorem val_small {s : ByteArray} {j : Nat} (hj : j ≤ 12) (ha : allDig (s.toList.take j) = true) : val (s.toList.take j) < 1000000000000 := by
  have h1 := val_lt _ ha
  have h2 : (10 : Nat) ^ (s.toList.take j).length ≤ 10 ^ 12 := Nat.pow_le_pow_right (by decide) (by rw [List.length_take]; omega)
  omega
theorem pre_of {s : ByteArray} {m : Nat} (h1 : 1 ≤ s.size) (h2 : s.size ≤ m) (h3 : 1 < s.size → s.toList.headD 0 ≠ 48) : pre s.toList m = true := by
  rw [pre, size_toList, decide_eq_true h1, decide_eq_true h2]
  by_cases h : 1 < s.size
  · rw [beq_eq_false_iff_ne.2 (h3 h)]
    simp
  · rw [decide_eq_false h]
    rfl
theorem notDig_lo {c : UInt8} (h : c.toNat < 48) : isDig c = false := by simp [isDig]; omega
theorem notDig_hi {c : UInt8} (h : 57 < c.toNat) : isDig c = false := by simp [isDig]; omega
theorem dig_in {c : UInt8} (h1 : ¬ c.toNat < 48) (h2 : ¬ 57 < c.toNat) : isDig c = true := by simp [isDig]; omega
theorem ne48 {c : UInt8} (h : ¬ c = 48) : ¬ (c.toNat : Int) = 48 := fun e => h (UInt8.toNat_inj.1 (by simp; omega))
end Pl

theorem ireadD_any (s : ByteArray) (m : Nat) (hm : m ≤ 12) (hs : s.size ≤ 4611686018427387904) (w : World) : Calls Tryd.prog 60 #[.string s, .int .i64 m] w fun e w' => e = .returned (.int .i64 (Pl.readD s.toList m)) ∧ w = w' := by
  by_cases h1 : s.size < 1
  · have HR := Lib.hid (Pl.readD_bad (l := s.toList) (m := m) (by rw [Pl.okDig_pre, Pl.pre, Pl.size_toList, decide_eq_false (show ¬ 1 ≤ s.size by omega)]; rfl))
    have hd1 := decide_eq_true (show (s.size : Int) < 1 by omega)
    go_enter Tryd.func60, Tryd.ntmps60
    go_wp2
    go_ret
    exact ⟨Pl.ret_int HR.out.symm, rfl⟩
  have hd1 := decide_eq_false (show ¬ (s.size : Int) < 1 by omega)
  by_cases h2 : m < s.size
  · have HR := Lib.hid (Pl.readD_bad (l := s.toList) (m := m) (by rw [Pl.okDig_pre, Pl.pre, Pl.size_toList, decide_eq_false (show ¬ s.size ≤ m by omega)]; simp))
    have hd2 := decide_eq_true (show (m : Int) < (s.size : Int) by omega)
    go_enter Tryd.func60, Tryd.ntmps60
    go_wp2
    go_ret
    exact ⟨Pl.ret_int HR.out.symm, rfl⟩
  have hd2 := decide_eq_false (show ¬ (m : Int) < (s.size : Int) by omega)
  have h0 : 0 < s.size := by omega
  by_cases h3 : 1 < s.size
  · have hd3 := decide_eq_true (show (1 : Int) < (s.size : Int) by omega)
    by_cases hz : s[0] = 48
    · have HR := Lib.hid (Pl.readD_bad (l := s.toList) (m := m) (by rw [Pl.okDig_pre, Pl.pre, Pl.size_toList, Pl.head_toList s h0]; simp [h3, hz]))
      have hd4 := beq_iff_eq.2 (show ((s[0].toNat : Int) = 48) by rw [hz]; rfl)
      clear hz
      go_enter Tryd.func60, Tryd.ntmps60
      go_wp2
      go_ret
      exact ⟨Pl.ret_int HR.out.symm, rfl⟩
    · have hp := Lib.hid (Pl.pre_of (s := s) (m := m) h0 (by omega) (fun _ => by rw [Pl.head_toList s h0]; exact hz))
      have hd4 := beq_eq_false_iff_ne.2 (Pl.ne48 hz)
      clear hz
      go_enter Tryd.func60, Tryd.ntmps60
      go_wp2
      go_loop [5, 6] (fun v u => ∃ j : Nat, j ≤ s.size ∧ u = .int .i64 j ∧ v = .int .i64 (Pl.val (s.toList.take j)) ∧ Hid (Pl.allDig (s.toList.take j) = true)) (fun _ u => s.size - (intOf u).toNat)
      case atStart => exact ⟨0, by omega, rfl, rfl, Lib.hid rfl⟩
      case round =>
        obtain ⟨j, hj, rfl, rfl, ha⟩ := hrel
        have hv := Pl.val_small (show j ≤ 12 by omega) ha.out
        by_cases hlt : j < s.size
        · by_cases hl : s[j].toNat < 48
          · have HR := Lib.hid (Pl.readD_bad (l := s.toList) (m := m) (by rw [Pl.okDig_pre, Pl.allDig_bad hlt (Pl.notDig_lo hl), Bool.and_false]))
            have hdl := decide_eq_true (show ((s[j].toNat : Int) < 48) by omega)
            go_wp2
            go_ret
            exact ⟨Pl.ret_int HR.out.symm, rfl⟩
          have hdl := decide_eq_false (show ¬ ((s[j].toNat : Int) < 48) by omega)
          by_cases hg : 57 < s[j].toNat
          · have HR := Lib.hid (Pl.readD_bad (l := s.toList) (m := m) (by rw [Pl.okDig_pre, Pl.allDig_bad hlt (Pl.notDig_hi hg), Bool.and_false]))
            have hdg := decide_eq_true (show ((57 : Int) < (s[j].toNat : Int)) by omega)
            go_wp2
            go_ret
            exact ⟨Pl.ret_int HR.out.symm, rfl⟩
          have hdg := decide_eq_false (show ¬ ((57 : Int) < (s[j].toNat : Int)) by omega)
          have hn := Lib.hid (Pl.val_next hlt)
          have han := Lib.hid (Pl.allDig_next hlt (Pl.dig_in hl hg) ha.out)
          go_wp2
          go_round
          case rel => exact ⟨j + 1, by omega, by go_num, by rw [hn.out]; go_num, han⟩
          case measure => simp [intOf]; omega
        · obtain rfl : j = s.size := by omega
          have HR := Lib.hid (Pl.readD_good (l := s.toList) (m := m) (by rw [Pl.okDig_pre, hp.out]; rw [Pl.take_all] at ha; exact ha.out))
          go_wp2
          go_ret
          exact ⟨Pl.ret_int (by rw [HR.out, Pl.take_all]), rfl⟩
  · have hd3 := decide_eq_false (show ¬ (1 : Int) < (s.size : Int) by omega)
    have hp := Lib.hid (Pl.pre_of (s := s) (m := m) h0 (by omega) (fun h => absurd h h3))
    · go_enter Tryd.func60, Tryd.ntmps60
      go_wp2
      go_loop [5, 6] (fun v u => ∃ j : Nat, j ≤ s.size ∧ u = .int .i64 j ∧ v = .int .i64 (Pl.val (s.toList.take j)) ∧ Hid (Pl.allDig (s.toList.take j) = true)) (fun _ u => s.size - (intOf u).toNat)
      case atStart => exact ⟨0, by omega, rfl, rfl, Lib.hid rfl⟩
      case round =>
        obtain ⟨j, hj, rfl, rfl, ha⟩ := hrel
        have hv := Pl.val_small (show j ≤ 12 by omega) ha.out
        by_cases hlt : j < s.size
        · by_cases hl : s[j].toNat < 48
          · have HR := Lib.hid (Pl.readD_bad (l := s.toList) (m := m) (by rw [Pl.okDig_pre, Pl.allDig_bad hlt (Pl.notDig_lo hl), Bool.and_false]))
            have hdl := decide_eq_true (show ((s[j].toNat : Int) < 48) by omega)
            go_wp2
            go_ret
            exact ⟨Pl.ret_int HR.out.symm, rfl⟩
          have hdl := decide_eq_false (show ¬ ((s[j].toNat : Int) < 48) by omega)
          by_cases hg : 57 < s[j].toNat
          · have HR := Lib.hid (Pl.readD_bad (l := s.toList) (m := m) (by rw [Pl.okDig_pre, Pl.allDig_bad hlt (Pl.notDig_hi hg), Bool.and_false]))
            have hdg := decide_eq_true (show ((57 : Int) < (s[j].toNat : Int)) by omega)
            go_wp2
            go_ret
            exact ⟨Pl.ret_int HR.out.symm, rfl⟩
          have hdg := decide_eq_false (show ¬ ((57 : Int) < (s[j].toNat : Int)) by omega)
          have hn := Lib.hid (Pl.val_next hlt)
          have han := Lib.hid (Pl.allDig_next hlt (Pl.dig_in hl hg) ha.out)
          go_wp2
          go_round
          case rel => exact ⟨j + 1, by omega, by go_num, by rw [hn.out]; go_num, han⟩
          case measure => simp [intOf]; omega
        · obtain rfl : j = s.size := by omega
          have HR := Lib.hid (Pl.readD_good (l := s.toList) (m := m) (by rw [Pl.okDig_pre, hp.out]; rw [Pl.take_all] at ha; exact ha.out))
          go_wp2
          go_ret
          exact ⟨Pl.ret_int (by rw [HR.out, Pl.take_all]), rfl⟩

end Go.Proofs.YtkhmepbdjdodmaaDoor
