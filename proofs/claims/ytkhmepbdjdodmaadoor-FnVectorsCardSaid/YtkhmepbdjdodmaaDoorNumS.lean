/-
  Contracts over texts: FormatInt of the reference.
-/
import Derived.Test.YtkhmepbdjdodmaaDoorNumI
import Derived.Test.YtkhmepbdjdodmaaDoorOwn
import Derived.Lib.ItoaLen
import Derived.Deep.DrawnRows
import Derived.Deep.DeepCutAuto
namespace Go.Proofs.YtkhmepbdjdodmaaDoor
open Go.RowKit

namespace Pl
/-- the digits that lie behind, when the first ones are still to come -/
def Inv (N k : Nat) (l : List UInt8) : Prop := if k = 0 then l = Lib.decDigits N else Lib.decDigits k ++ l = Lib.decDigits N
theorem inv_start {N : Nat} (h : N ≠ 0) : Inv N N [] := by simp [Inv, h]
theorem inv_step {N k : Nat} {l : List UInt8} (hk : k ≠ 0) (h : Inv N k l) : Inv N (k / 10) (UInt8.ofNat (48 + k % 10) :: l) := by
  rw [Inv, if_neg hk] at h
  rw [Lib.decDigits] at h
  by_cases h10 : k < 10
  · rw [dif_pos h10] at h
    rw [Inv, if_pos (by omega), show k % 10 = k by omega]
    exact h
  · rw [dif_neg h10, List.append_assoc] at h
    rw [Inv, if_neg (by omega)]
    exact h
theorem inv_done {N : Nat} {l : List UInt8} (h : Inv N 0 l) : l = Lib.decDigits N := by simpa [Inv] using h
theorem inv_len {N k : Nat} {l : List UInt8} (h : Inv N k l) : l.length ≤ (Lib.decDigits N).length := by
  rw [Inv] at h
  split at h
  · rw [h]
    exact Nat.le_refl _
  · rw [← h, List.length_append]
    omega
theorem str_app (l m : List UInt8) : (⟨l.toArray⟩ : ByteArray) ++ ⟨m.toArray⟩ = ⟨(l ++ m).toArray⟩ := by
  apply ByteArray.ext
  simp [ByteArray.data_append]
theorem ret_str {a b : List UInt8} (h : a = b) : Ending.returned (.string ⟨a.toArray⟩) = .returned (.string ⟨b.toArray⟩) := by rw [h]
theorem itoa_neg' {k : Nat} (h : k ≠ 0) : Lib.itoa (-(k : Int)) = 45 :: Lib.decDigits k := Lib.itoa_neg k (by omega)
theorem decLen (N : Nat) (h : N < 18446744073709551616) : (Lib.decDigits N).length ≤ 20 := by
  rw [Lib.decDigits_length]
  exact Lib.nDigits_le20 N h
theorem ret_strN {a b : List UInt8} (h : 45 :: a = b) : Ending.returned (.string (⟨#[45]⟩ ++ ⟨a.toArray⟩)) = .returned (.string ⟨b.toArray⟩) := by
  rw [← h]
  exact congrArg _ (congrArg _ (str_app [45] a))
theorem dig1 (k : Nat) (l : List UInt8) : Value.string (⟨#[48 + UInt8.ofNat (k % 10)]⟩ ++ ⟨l.toArray⟩) = Value.string ⟨(UInt8.ofNat (48 + k % 10) :: l).toArray⟩ := by
  rw [UInt8.ofNat_add]
  exact congrArg _ (str_app [_] l)
theorem dig0 {k : Nat} (l : List UInt8) (h : (k : Int) % 10 = 0) : Value.string (⟨#[48]⟩ ++ ⟨l.toArray⟩) = Value.string ⟨(UInt8.ofNat (48 + k % 10) :: l).toArray⟩ := by
  rw [show k % 10 = 0 by omega]
  exact congrArg _ (str_app [48] l)
end Pl

theorem sfmtInt_pos (N : Nat) (h0 : N ≠ 0) (hn : (N : Int) ≤ 9223372036854775807) (w : World) : Calls Tryd.prog 10 #[.int .i64 ((N : Int))] w fun e w' => e = .returned (.string ⟨(Lib.itoa ((N : Int))).toArray⟩) ∧ Below w.heap.size w w' := by
  have kb := one_byte (P := Tryd.prog) 41 5 9 Tryd.underlying41 Tryd.underlying5 Tryd.underlying9
  have hlen := Pl.decLen N (by omega)
  have HL := Lib.hid hlen
  have hd1 := decide_eq_false (show ¬ (N : Int) < (0 : Int) by omega)
  have hd2 := beq_eq_false_iff_ne.2 (show (N : Int) ≠ (0 : Int) by omega)
  clear hlen
  go_enter Tryd.func10, Tryd.ntmps10
  go_wp2
  go_loopw [0, 4, 5] (fun m v d wr => ∃ (k : Nat) (l : List UInt8), k ≤ N ∧ m = .int .i64 ((k : Int)) ∧ v = .string ⟨l.toArray⟩ ∧ Hid (Pl.Inv N k l) ∧ Below w.heap.size w wr) (fun m _ _ _ => (intOf m).natAbs)
  case atStart => exact ⟨N, [], Nat.le_refl _, by first | rfl | (go_num; done) | simp, rfl, Lib.hid (Pl.inv_start h0), Below.refl _ _⟩
  case round =>
    obtain ⟨k, l, hk, rfl, rfl, hi, hb⟩ := hrel
    have hll := Nat.le_trans (Pl.inv_len hi.out) HL.out
    by_cases hk0 : k = 0
    · subst hk0
      have HR := Lib.hid (Pl.inv_done hi.out)
      go_wp2
      go_ret
      exact ⟨Pl.ret_str (by rw [HR.out, Pl.itoa_nat]), hb⟩
    · have hd1 := beq_eq_false_iff_ne.2 (show (k : Int) ≠ (0 : Int) by omega)
      have HI := Lib.hid (Pl.inv_step hk0 hi.out)
      go_wp2
      go_roundw
      case rel => exact ⟨k / 10, _, by omega, by first | rfl | (go_num; done) | simp, Pl.dig1 _ _, HI, hb.alloc hb.size _⟩
      case measure => simp [intOf]; omega

theorem sfmtInt_neg (N : Nat) (h0 : N ≠ 0) (hn : (N : Int) ≤ 9223372036854775808) (w : World) : Calls Tryd.prog 10 #[.int .i64 (-(N : Int))] w fun e w' => e = .returned (.string ⟨(Lib.itoa (-(N : Int))).toArray⟩) ∧ Below w.heap.size w w' := by
  have kb := one_byte (P := Tryd.prog) 41 5 9 Tryd.underlying41 Tryd.underlying5 Tryd.underlying9
  have hlen := Pl.decLen N (by omega)
  have HL := Lib.hid hlen
  have hd1 := decide_eq_true (show -(N : Int) < (0 : Int) by omega)
  have hd2 := beq_eq_false_iff_ne.2 (show -(N : Int) ≠ (0 : Int) by omega)
  clear hlen
  go_enter Tryd.func10, Tryd.ntmps10
  go_wp2
  go_loopw [0, 4, 5] (fun m v d wr => ∃ (k : Nat) (l : List UInt8), k ≤ N ∧ m = .int .i64 (-(k : Int)) ∧ v = .string ⟨l.toArray⟩ ∧ Hid (Pl.Inv N k l) ∧ Below w.heap.size w wr) (fun m _ _ _ => (intOf m).natAbs)
  case atStart => exact ⟨N, [], Nat.le_refl _, by first | rfl | (go_num; done) | simp, rfl, Lib.hid (Pl.inv_start h0), Below.refl _ _⟩
  case round =>
    obtain ⟨k, l, hk, rfl, rfl, hi, hb⟩ := hrel
    have hll := Nat.le_trans (Pl.inv_len hi.out) HL.out
    by_cases hk0 : k = 0
    · subst hk0
      have HR := Lib.hid (Pl.inv_done hi.out)
      go_wp2
      go_ret
      exact ⟨Pl.ret_strN (by rw [HR.out, Pl.itoa_neg' h0]), hb⟩
    · have hd1 := beq_eq_false_iff_ne.2 (show -(k : Int) ≠ (0 : Int) by omega)
      have HI := Lib.hid (Pl.inv_step hk0 hi.out)
      by_cases hz : (k : Int) % 10 = 0
      · go_wp2
        go_roundw
        case rel => exact ⟨k / 10, _, by omega, by first | rfl | (go_num; done) | simp, Pl.dig0 _ hz, HI, hb.alloc hb.size _⟩
        case measure => simp [intOf]; omega
      · go_wp2
        go_roundw
        case rel => exact ⟨k / 10, _, by omega, by first | rfl | (go_num; done) | simp, Pl.dig1 _ _, HI, hb.alloc hb.size _⟩
        case measure => simp [intOf]; omega

theorem sfmtInt_any (n : Int) (h0 : -9223372036854775808 ≤ n) (h1 : n ≤ 9223372036854775807) (w : World) : Calls Tryd.prog 10 #[.int .i64 n] w fun e w' => e = .returned (.string ⟨(Lib.itoa n).toArray⟩) ∧ Below w.heap.size w w' := by
  by_cases hz : n = 0
  · subst hz
    have HR := Lib.hid (show Lib.itoa 0 = [48] by decide +kernel)
    go_enter Tryd.func10, Tryd.ntmps10
    go_wp2
    go_ret
    exact ⟨Pl.ret_str (a := [48]) HR.out.symm, Below.refl _ _⟩
  · by_cases hp : 0 ≤ n
    · obtain ⟨N, rfl⟩ : ∃ N : Nat, n = N := ⟨n.toNat, by omega⟩
      exact sfmtInt_pos N (by omega) (by omega) w
    · obtain ⟨N, rfl⟩ : ∃ N : Nat, n = -(N : Int) := ⟨(-n).toNat, by omega⟩
      exact sfmtInt_neg N (by omega) (by omega) w

end Go.Proofs.YtkhmepbdjdodmaaDoor
