/-
  Contracts of ParseCoalition, of the program and of the reference.
-/
import Derived.Test.YtojfahgnjfnflaaFmtCoal
namespace Go.Proofs.Ytojfahgnjfnflaa
open Go.RowKit

namespace Pl
def findC (t : List UInt8) : Nat → Option Nat
  | 0 => none
  | j + 1 => match findC t j with
    | some i => some i
    | none => if fmt j = t then some j else none
theorem findC_hit {t : List UInt8} {j : Nat} (h : findC t j = none) (he : fmt j = t) : ∀ n, j < n → findC t n = some j := by
  intro n hn
  induction n with
  | zero => omega
  | succ n ih =>
    by_cases e : n = j
    · subst e
      simp [findC, h, he]
    · simp [findC, ih (by omega)]
theorem findC_miss {t : List UInt8} {j : Nat} (h : findC t j = none) (he : ¬ fmt j = t) : findC t (j + 1) = none := by simp [findC, h, he]
/-- 'ParseCoalition': the coalition (0 if there is none), and whether there is one -/
def parseC (t : List UInt8) : Int × Bool := match findC t 32 with
  | some s => (s, true)
  | none => (0, false)
theorem parseC_hit {t : List UInt8} {j : Nat} (h : findC t j = none) (he : fmt j = t) (hlt : j < 32) : parseC t = ((j : Int), true) := by
  unfold parseC
  rw [findC_hit h he 32 hlt]
theorem parseC_miss {t : List UInt8} (h : findC t 32 = none) : parseC t = (0, false) := by
  unfold parseC
  rw [h]
theorem ret_ib {a a' : Int} {b b' : Bool} (h1 : a = a') (h2 : b = b') : Ending.returned (.tuple #[.int .i64 a, .bool b]) = .returned (.tuple #[.int .i64 a', .bool b']) := by rw [h1, h2]
end Pl

theorem iparseC_any (t : ByteArray) (w : World) : Calls Try.prog 24 #[.string t] w fun e w' => e = .returned (.tuple #[.int .i64 (Pl.parseC t.toList).1, .bool (Pl.parseC t.toList).2]) ∧ Below w.heap.size w w' := by
  go_enter Try.func24, Try.ntmps24
  go_wp2
  go_loopw [4] (fun u wr => ∃ j : Nat, j ≤ 32 ∧ u = .int .i64 j ∧ Hid (Pl.findC t.toList j = none) ∧ Below w.heap.size w wr) (fun u _ => 32 - (intOf u).toNat)
  case atStart => exact ⟨0, by omega, rfl, Lib.hid rfl, Below.refl _ _⟩
  case round =>
    obtain ⟨j, hj, rfl, hf, hb⟩ := hrel
    have hj0 : (j : Int) ≤ 32 := by omega
    by_cases hlt : j < 32
    · by_cases he : Pl.fmt j = t.toList
      · have HR := Lib.hid (Pl.parseC_hit hf.out he hlt)
        have hq := beq_iff_eq.2 he
        clear he hf
        go_wp2_with fail
        refine (ifmt_any _ _ (by omega)).mono ?_
        rintro e w1 ⟨rfl, hb1⟩
        go_wp2
        go_ret2
        exact ⟨Pl.ret_ib (by rw [HR.out]) (by rw [HR.out]), hb.trans (hb1.mono hb.size)⟩
      · have hm := Lib.hid (Pl.findC_miss hf.out he)
        have hq : (Pl.fmt j == t.toList) = false := by simpa using he
        clear he hf
        go_wp2_with fail
        refine (ifmt_any _ _ (by omega)).mono ?_
        rintro e w1 ⟨rfl, hb1⟩
        go_wp2
        go_roundw
        case rel => exact ⟨j + 1, by omega, by go_num, hm, hb.trans (hb1.mono hb.size)⟩
        case measure => simp [intOf]; omega
    · obtain rfl : j = 32 := by omega
      have HR := Lib.hid (Pl.parseC_miss hf.out)
      clear hf
      go_wp2
      go_ret2
      exact ⟨Pl.ret_ib (by rw [HR.out]) (by rw [HR.out]), hb⟩

theorem sparseC_any (t : ByteArray) (w : World) : Calls Try.prog 23 #[.string t] w fun e w' => e = .returned (.tuple #[.int .i64 (Pl.parseC t.toList).1, .bool (Pl.parseC t.toList).2]) ∧ Below w.heap.size w w' := by
  go_enter Try.func23, Try.ntmps23
  go_wp2
  go_loopw [4] (fun u wr => ∃ j : Nat, j ≤ 32 ∧ u = .int .i64 j ∧ Hid (Pl.findC t.toList j = none) ∧ Below w.heap.size w wr) (fun u _ => 32 - (intOf u).toNat)
  case atStart => exact ⟨0, by omega, rfl, Lib.hid rfl, Below.refl _ _⟩
  case round =>
    obtain ⟨j, hj, rfl, hf, hb⟩ := hrel
    have hj0 : (j : Int) ≤ 32 := by omega
    by_cases hlt : j < 32
    · by_cases he : Pl.fmt j = t.toList
      · have HR := Lib.hid (Pl.parseC_hit hf.out he hlt)
        have hq := beq_iff_eq.2 he
        clear he hf
        go_wp2_with fail
        refine (sfmt_any _ _ (by omega)).mono ?_
        rintro e w1 ⟨rfl, rfl⟩
        go_wp2
        go_ret2
        exact ⟨Pl.ret_ib (by rw [HR.out]) (by rw [HR.out]), hb⟩
      · have hm := Lib.hid (Pl.findC_miss hf.out he)
        have hq : (Pl.fmt j == t.toList) = false := by simpa using he
        clear he hf
        go_wp2_with fail
        refine (sfmt_any _ _ (by omega)).mono ?_
        rintro e w1 ⟨rfl, rfl⟩
        go_wp2
        go_roundw
        case rel => exact ⟨j + 1, by omega, by go_num, hm, hb⟩
        case measure => simp [intOf]; omega
    · obtain rfl : j = 32 := by omega
      have HR := Lib.hid (Pl.parseC_miss hf.out)
      clear hf
      go_wp2
      go_ret2
      exact ⟨Pl.ret_ib (by rw [HR.out]) (by rw [HR.out]), hb⟩

theorem fnExactParseCoalition_walk (t : ByteArray) (_ : t.size ≤ maxLen) (w : World) :
    Calls Try.prog 6 #[.string t] w fun e w' => e = .returned (.bool true) ∧ Below w.heap.size w w' := by
  by_cases hbig : t.size ≤ 1048576
  · have hd := decide_eq_false (show ¬ (1048576 : Int) < (t.size : Int) by omega)
    go_enter Try.func6, Try.ntmps6
    go_wp2_with fail
    refine (sparseC_any t _).mono ?_
    rintro e w1 ⟨rfl, hb1⟩
    go_wp2_with fail
    refine (iparseC_any t _).mono ?_
    rintro e w2 ⟨rfl, hb2⟩
    go_wp2
    go_ret
    exact ⟨rfl, hb1.trans (hb2.mono hb1.size)⟩
  · have hd := decide_eq_true (show (1048576 : Int) < (t.size : Int) by omega)
    go_enter Try.func6, Try.ntmps6
    go_wp2
    go_ret
    exact ⟨rfl, Below.refl _ _⟩

end Go.Proofs.Ytojfahgnjfnflaa
