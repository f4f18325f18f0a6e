/-
  Contracts of AllValid, of the program and of the reference, and the walk of the law FnExactAllValid.
-/
import Derived.Test.YtajafmdeencohaaVecEq
namespace Go.Proofs.Ytajafmdeencohaa
open Go.RowKit

namespace Pl
def okTo (V : Fr) : Nat → Bool
  | 0 => true
  | j + 1 => okTo V j && valid (V j).1 (V j).2
theorem okTo_yes {V : Fr} {j : Nat} (h : okTo V j = true) (hj : valid (V j).1 (V j).2 = true) : okTo V (j + 1) = true := by rw [okTo, h, hj]; rfl
theorem okTo_no {V : Fr} {j n : Nat} (hj : valid (V j).1 (V j).2 = false) (hn : j < n) : okTo V n = false := by
  induction n with
  | zero => omega
  | succ n ih =>
    rw [okTo]
    by_cases h : j = n
    · subst h
      rw [hj, Bool.and_false]
    · rw [ih (by omega), Bool.false_and]
end Pl

theorem sAllValid_any (A1 : Option Addr) (n c1 B : Nat) (V : Fr) (w : World) (h1 : RdP w B A1 n V) (hB : B ≤ w.heap.size) (hn1 : n ≤ 1099511627776) :
    Calls Try.prog 63 #[.slice A1 n c1] w fun e w' => e = .returned (.bool (Pl.okTo V n)) ∧ Below w.heap.size w w' := by
  go_enter Try.func63, Try.ntmps63
  go_wp2
  go_loopw [3] (fun u wr => ∃ k : Nat, k ≤ n ∧ u = .int .i64 k ∧ Hid (Pl.okTo V k = true) ∧ Below w.heap.size w wr) (fun u _ => n - (intOf u).toNat)
  case atStart => exact ⟨0, Nat.zero_le _, rfl, Lib.hid rfl, Below.refl _ _⟩
  case round =>
    obtain ⟨k, hk, rfl, he, hb⟩ := hrel
    by_cases hlt : k < n
    · obtain ⟨b1, o1, rfl, hb1, hc1⟩ := h1 (by omega)
      have hw1 : b1 < w.heap.size := Nat.lt_of_lt_of_le hb1 hB
      have x1 := (hb.cell (p := ⟨b1, o1 + k * 2, none⟩) hw1).trans (hc1 k hlt).1
      have x2 := (hb.cell (p := ⟨b1, o1 + k * 2 + 1, none⟩) hw1).trans (hc1 k hlt).2
      clear hc1 h1
      have k0 : (0 : Int) ≤ (k : Int) := by omega
      have k1 : (k : Int) < (n : Int) := by omega
      cases hv : Pl.valid (V k).1 (V k).2
      · have HR := Lib.hid (Pl.okTo_no hv hlt)
        go_wp2_with fail
        refine (svalid_any _ _ _).mono ?_
        rintro e w1 ⟨rfl, hb2⟩
        rw [hv]
        clear hv
        go_wp2
        go_ret
        exact ⟨Pl.ret_bool HR.out.symm, hb.trans (hb2.mono hb.size)⟩
      · have HY := Lib.hid (Pl.okTo_yes he.out hv)
        go_wp2_with fail
        refine (svalid_any _ _ _).mono ?_
        rintro e w1 ⟨rfl, hb2⟩
        rw [hv]
        clear hv
        go_wp2
        go_roundw
        case rel => exact ⟨k + 1, by omega, by go_num, HY, hb.trans (hb2.mono hb.size)⟩
        case measure => simp [intOf]; omega
    · obtain rfl : k = n := by omega
      go_wp2
      go_ret
      exact ⟨Pl.ret_bool he.out.symm, hb⟩

def notvalid (a b : Int) : Bool := !Pl.valid a b
theorem notValid_any (a b : Int) (w : World) : Calls Try.prog 99 #[.agg #[.int .i64 a, .int .i64 b]] w fun e w' => e = .returned (.bool (notvalid a b)) ∧ Below w.heap.size w w' := by
  go_enter Try.func99, Try.ntmps99
  go_wp2_with fail
  refine (ivalid_any _ _ _).mono ?_
  rintro e w1 ⟨rfl, hb2⟩
  go_wp2
  go_ret
  exact ⟨rfl, ((Below.refl _ _).alloc (Nat.le_refl _) _).trans (hb2.mono (by simp))⟩

namespace Pl
/-- some of the first n is so -/
def anyTo (q : Int → Int → Bool) (V : Fr) : Nat → Bool
  | 0 => false
  | j + 1 => anyTo q V j || q (V j).1 (V j).2
theorem anyTo_no {q : Int → Int → Bool} {V : Fr} {j : Nat} (h : anyTo q V j = false) (hj : q (V j).1 (V j).2 = false) : anyTo q V (j + 1) = false := by rw [anyTo, h, hj]; rfl
theorem anyTo_yes {q : Int → Int → Bool} {V : Fr} {j n : Nat} (hj : q (V j).1 (V j).2 = true) (hn : j < n) : anyTo q V n = true := by
  induction n with
  | zero => omega
  | succ n ih =>
    rw [anyTo]
    by_cases h : j = n
    · subst h
      rw [hj, Bool.or_true]
    · rw [ih (by omega), Bool.true_or]
theorem anyTo_okTo (V : Fr) (n : Nat) : anyTo (fun a b => !valid a b) V n = !okTo V n := by
  induction n with
  | zero => rfl
  | succ n ih => rw [anyTo, okTo, ih, Bool.not_and]
end Pl


theorem indexFunc_valid (A1 : Option Addr) (n c1 B : Nat) (V : Fr) (w : World) (h1 : RdP w B A1 n V) (hB : B ≤ w.heap.size) (hn1 : n ≤ 1099511627776) :
    Calls Try.prog 115 #[.slice A1 n c1, .func (.func 99) #[] #[]] w fun e w' => ∃ r : Int, e = .returned (.int .i64 r) ∧ decide (0 ≤ r) = Pl.anyTo notvalid V n ∧ Below w.heap.size w w' := by
  go_enter Try.func115, Try.ntmps115
  go_wp2
  go_loopw [5, 8] (fun v u wr => ∃ k : Nat, k ≤ n ∧ u = .int .i64 k ∧ Hid (Pl.anyTo notvalid V k = false) ∧ Below w.heap.size w wr) (fun _ u _ => n - (intOf u).toNat)
  case atStart => exact ⟨0, Nat.zero_le _, rfl, Lib.hid rfl, Below.refl _ _⟩
  case round =>
    obtain ⟨k, hk, rfl, he, hb⟩ := hrel
    by_cases hlt : k < n
    · obtain ⟨b1, o1, rfl, hb1, hc1⟩ := h1 (by omega)
      have hw1 : b1 < w.heap.size := Nat.lt_of_lt_of_le hb1 hB
      have x1 := (hb.cell (p := ⟨b1, o1 + k * 2, none⟩) hw1).trans (hc1 k hlt).1
      have x2 := (hb.cell (p := ⟨b1, o1 + k * 2 + 1, none⟩) hw1).trans (hc1 k hlt).2
      clear hc1 h1
      have k0 : (0 : Int) ≤ (k : Int) := by omega
      have k1 : (k : Int) < (n : Int) := by omega
      cases hv : notvalid (V k).1 (V k).2
      · have HY := Lib.hid (Pl.anyTo_no he.out hv)
        go_wp2_with fail
        refine (notValid_any _ _ _).mono ?_
        rintro e w1 ⟨rfl, hb2⟩
        rw [hv]
        clear hv
        go_wp2
        go_roundw
        case rel => exact ⟨k + 1, by omega, by go_num, HY, hb.trans (hb2.mono hb.size)⟩
        case measure => simp [intOf]; omega
      · have HR := Lib.hid (Pl.anyTo_yes (V := V) hv hlt)
        go_wp2_with fail
        refine (notValid_any _ _ _).mono ?_
        rintro e w1 ⟨rfl, hb2⟩
        rw [hv]
        clear hv
        go_wp2
        go_ret
        exact ⟨(k : Int), rfl, by rw [HR.out]; exact decide_eq_true k0, hb.trans (hb2.mono hb.size)⟩
    · obtain rfl : k = n := by omega
      go_wp2
      go_ret
      exact ⟨-1, rfl, by rw [he.out]; rfl, hb⟩
theorem containsFunc_valid (A1 : Option Addr) (n c1 B : Nat) (V : Fr) (w : World) (h1 : RdP w B A1 n V) (hB : B ≤ w.heap.size) (hn1 : n ≤ 1099511627776) :
    Calls Try.prog 98 #[.slice A1 n c1, .func (.func 99) #[] #[]] w fun e w' => e = .returned (.bool (Pl.anyTo notvalid V n)) ∧ Below w.heap.size w w' := by
  have c := indexFunc_valid A1 n c1 B V w h1 hB hn1
  go_enter Try.func98, Try.ntmps98
  go_wp2_with fail
  refine c.mono ?_
  rintro e w1 ⟨r, rfl, hr, hb⟩
  go_wp2
  go_ret
  exact ⟨Pl.ret_bool rfl, hb⟩

theorem iAllValid_any (A1 : Option Addr) (n c1 B : Nat) (V : Fr) (w : World) (h1 : RdP w B A1 n V) (hB : B ≤ w.heap.size) (hn1 : n ≤ 1099511627776) :
    Calls Try.prog 65 #[.slice A1 n c1] w fun e w' => e = .returned (.bool (Pl.okTo V n)) ∧ Below w.heap.size w w' := by
  have c := containsFunc_valid A1 n c1 B V w h1 hB hn1
  rw [show notvalid = (fun a b => !Pl.valid a b) from rfl, Pl.anyTo_okTo] at c
  go_enter Try.func65, Try.ntmps65
  go_wp2_with fail
  refine c.mono ?_
  rintro e w1 ⟨rfl, hb⟩
  go_wp2
  go_ret
  exact ⟨Pl.ret_bool (by simp), hb⟩

end Go.Proofs.Ytajafmdeencohaa
