/-
  Contracts of the functions on one fraction: the greatest common divisor and IsValidRat.
-/
import Derived.Test.YtajafmdeencohaaChecked
import Derived.Test.YtajafmdeencohaaRatPlain
import Derived.WalkKit
import Derived.WalkLawsBesides
import Derived.Deep.QuietTactic
import Derived.BigQuiet
import Derived.Outline
import Derived.Lib.Hide
namespace Go.Proofs.Ytajafmdeencohaa
open Go.RowKit

theorem bcell {W w1 : World} (hb : Below W.heap.size W w1) : (∀ b o, b < W.heap.size → w1.cell? ⟨b, o, none⟩ = W.cell? ⟨b, o, none⟩) ∧ (∀ b o, b < W.heap.size → w1.frozen? ⟨b, o, none⟩ = W.frozen? ⟨b, o, none⟩) :=
  ⟨fun b o h => hb.cell (p := ⟨b, o, none⟩) h, fun b o h => hb.frozen (p := ⟨b, o, none⟩) h⟩
theorem bfull {W w1 : World} (hb : Below W.heap.size W w1) : (∀ b o, b < W.heap.size → w1.cell? ⟨b, o, none⟩ = W.cell? ⟨b, o, none⟩) ∧ (∀ b o, b < W.heap.size → w1.frozen? ⟨b, o, none⟩ = W.frozen? ⟨b, o, none⟩) ∧
    (∀ b, b < W.heap.size → b < w1.heap.size) ∧ (∀ b, b ≤ W.heap.size → b ≤ w1.heap.size) ∧ (∀ b, b < W.heap.size → ¬ b = w1.heap.size) :=
  ⟨(bcell hb).1, (bcell hb).2, fun _ h => Nat.lt_of_lt_of_le h hb.size, fun _ h => Nat.le_trans h hb.size, fun _ h => Nat.ne_of_lt (Nat.lt_of_lt_of_le h hb.size)⟩
theorem lt_alloc {w : World} {o : Obj} {b : Nat} (h : b < w.heap.size) : b < (w.alloc o).heap.size := by simp; omega
theorem lt_setCell {w : World} {a : Addr} {v : Value} {b : Nat} (h : b < w.heap.size) : b < (w.setCell a v).heap.size := by simpa [World.setCell] using h
theorem set2_cells {X : World} {g : Nat} {x y : Value} (h0 : (X.cell? ⟨g, 0, none⟩).isSome = true) (h1 : (X.cell? ⟨g, 1, none⟩).isSome = true) :
    ((X.setCell ⟨g, 0, none⟩ x).setCell ⟨g, 1, none⟩ y).cell? ⟨g, 0, none⟩ = some x ∧ ((X.setCell ⟨g, 0, none⟩ x).setCell ⟨g, 1, none⟩ y).cell? ⟨g, 1, none⟩ = some y := by
  obtain ⟨u, hu⟩ := Option.isSome_iff_exists.1 h0
  obtain ⟨v, hv⟩ := Option.isSome_iff_exists.1 h1
  refine ⟨?_, ?_⟩
  · rw [World.cell?_setCell_other _ _ _ _ (by simp)]
    exact World.cell?_setCell_same _ _ _ hu
  · exact World.cell?_setCell_same _ _ _ ((World.cell?_setCell_other _ _ _ _ (by simp)).trans hv)
theorem below_set2 {B i j : Nat} {a w : World} {u v : Value} (h : Below B a w) : Below B a ((w.setCell ⟨B, i, none⟩ u).setCell ⟨B, j, none⟩ v) :=
  (h.setCell (p := ⟨B, i, none⟩) (Nat.le_refl _) u).setCell (p := ⟨B, j, none⟩) (Nat.le_refl _) v
theorem below_drewN {B : Nat} {a w : World} (h : Below B a w) (n : Nat) : Below B a (w.drewN n) := ⟨h.os, h.tape, h.output, h.size, h.block⟩

theorem common_any (a b : Int) (w : World) (h1 : -1000000000000000000 ≤ a) (h2 : a ≤ 1000000000000000000) (h3 : -1000000000000000000 ≤ b) (h4 : b ≤ 1000000000000000000) :
    Calls Try.prog 116 #[.int .i64 a, .int .i64 b] w fun e w' => e = .returned (.int .i64 ((Int.gcd a b : Nat) : Int)) ∧ Below w.heap.size w w' := by
  obtain ⟨g, hg⟩ : ∃ g : Nat, g = Int.gcd a b := ⟨_, rfl⟩
  rw [← hg]
  have HG := Lib.hid hg
  clear hg
  go_enter Try.func116, Try.ntmps116
  go_wp2
  go_loopw [0, 1] (fun u v wr => ∃ x y : Int, u = .int .i64 x ∧ v = .int .i64 y ∧ -1000000000000000000 ≤ x ∧ x ≤ 1000000000000000000 ∧ -1000000000000000000 ≤ y ∧ y ≤ 1000000000000000000 ∧ Hid (g = Int.gcd x y) ∧ Below w.heap.size w wr)
    (fun _ v _ => (intOf v).natAbs)
  case atStart => exact ⟨a, b, rfl, rfl, h1, h2, h3, h4, HG, Below.refl _ _⟩
  case round =>
    obtain ⟨x, y, rfl, rfl, g1, g2, g3, g4, HH, hb⟩ := hrel
    by_cases hy : y = 0
    · subst hy
      go_wp2
      all_goals
        go_ret
        refine ⟨Pl.ret_int ?_, hb⟩
        rw [HH.out, Pl.gcd_zero]
        omega
    · have hn : (y != 0) = true := by simpa using hy
      have ht := Pl.tmod_le x y _ g1 g2
      have hl := Pl.tmod_lt x y hy
      go_wp2_with fail
      go_quiet (fail)
      go_wp2
      go_roundw
      case rel => exact ⟨y, x.tmod y, rfl, rfl, g3, g4, ht.1, ht.2, (HH.out).trans (Pl.gcd_step x y).symm, below_drewN hb _⟩
      case measure => exact hl

theorem gcd_any (a b : Int) (w : World) (h1 : -1000000000000000000 ≤ a) (h2 : a ≤ 1000000000000000000) (h3 : -1000000000000000000 ≤ b) (h4 : b ≤ 1000000000000000000) :
    Calls Try.prog 113 #[.int .i64 a, .int .i64 b] w fun e w' => e = .returned (.int .i64 ((Int.gcd a b : Nat) : Int)) ∧ Below w.heap.size w w' := by
  obtain ⟨g, hg⟩ : ∃ g : Nat, g = Int.gcd a b := ⟨_, rfl⟩
  rw [← hg]
  have HG : Hid (g = Int.gcd a.natAbs b.natAbs) := Lib.hid (by rw [hg]; unfold Int.gcd; simp)
  clear hg
  by_cases ha : a < 0 <;> by_cases hb' : b < 0
  all_goals
    first | have da := decide_eq_true ha | have da := decide_eq_false ha
    first | have db := decide_eq_true hb' | have db := decide_eq_false hb'
    go_enter Try.func113, Try.ntmps113
    go_wp2
    go_loopw [0, 1, 5, 16, 17, 18, 19, 20] (fun u v _ _ _ _ _ _ wr => ∃ x y : Nat, u = .int .i64 x ∧ v = .int .i64 y ∧ x ≤ 1000000000000000000 ∧ y ≤ 1000000000000000000 ∧ Hid (g = Int.gcd x y) ∧ Below w.heap.size w wr)
      (fun _ v _ _ _ _ _ _ _ => (intOf v).natAbs)
    case atStart => exact ⟨a.natAbs, b.natAbs, by go_num, by go_num, by omega, by omega, HG, Below.refl _ _⟩
    case round =>
      obtain ⟨x, y, rfl, rfl, g1, g2, HH, hb⟩ := hrel
      by_cases hy : y = 0
      · subst hy
        go_wp2
        go_ret
        refine ⟨Pl.ret_int ?_, hb⟩
        rw [HH.out]
        simp
      · have hn : (0 : Int) < y := by omega
        have ht : x % y < y := Nat.mod_lt _ (by omega)
        go_wp2
        go_roundw
        case rel => exact ⟨y, x % y, rfl, by go_num, g2, by omega, (HH.out).trans (Pl.gcd_stepN x y).symm, hb⟩
        case measure => simp [intOf]; omega

theorem ivalid_any (n d : Int) (w : World) : Calls Try.prog 100 #[.agg #[.int .i64 n, .int .i64 d]] w fun e w' => e = .returned (.bool (Pl.valid n d)) ∧ Below w.heap.size w w' := by
  by_cases hd0 : 1 ≤ d
  · have e0 := decide_eq_true hd0
    by_cases hd1 : d ≤ 1000000000
    · have e1 := decide_eq_true hd1
      by_cases hn0 : -1000000000 ≤ n
      · have e2 := decide_eq_true hn0
        by_cases hn1 : n ≤ 1000000000
        · have e3 := decide_eq_true hn1
          rw [Pl.valid_in hd0 hd1 hn0 hn1]
          obtain ⟨g, hg⟩ : ∃ g : Nat, g = Int.gcd n d := ⟨_, rfl⟩
          rw [← hg]
          have c := fun W => common_any n d W (by omega) (by omega) (by omega) (by omega)
          rw [← hg] at c
          clear hg
          have C := Lib.hid c
          clear c
          go_enter Try.func100, Try.ntmps100
          go_wp2_with (first | (go_at_call 116; refine (C.out _).mono ?_; rintro e w' ⟨rfl, hb⟩) | go_in)
          go_ret
          exact ⟨rfl, ((Below.refl _ _).alloc (Nat.le_refl _) _).trans (hb.mono (by simp))⟩
        · have e3 := decide_eq_false hn1
          rw [Pl.valid_no2 (by omega)]
          go_enter Try.func100, Try.ntmps100
          go_wp2
          go_ret
          exact ⟨rfl, (Below.refl _ _).alloc (Nat.le_refl _) _⟩
      · have e2 := decide_eq_false hn0
        rw [Pl.valid_no2 (by omega)]
        go_enter Try.func100, Try.ntmps100
        go_wp2
        go_ret
        exact ⟨rfl, (Below.refl _ _).alloc (Nat.le_refl _) _⟩
    · have e1 := decide_eq_false hd1
      rw [Pl.valid_no1 (by omega)]
      go_enter Try.func100, Try.ntmps100
      go_wp2
      go_ret
      exact ⟨rfl, (Below.refl _ _).alloc (Nat.le_refl _) _⟩
  · have e0 := decide_eq_false hd0
    rw [Pl.valid_no1 (by omega)]
    go_enter Try.func100, Try.ntmps100
    go_wp2
    go_ret
    exact ⟨rfl, (Below.refl _ _).alloc (Nat.le_refl _) _⟩

theorem svalid_any (n d : Int) (w : World) : Calls Try.prog 95 #[.agg #[.int .i64 n, .int .i64 d]] w fun e w' => e = .returned (.bool (Pl.valid n d)) ∧ Below w.heap.size w w' := by
  by_cases hd0 : 1 ≤ d
  · have e0 := decide_eq_true hd0
    by_cases hd1 : d ≤ 1000000000
    · have e1 := decide_eq_true hd1
      by_cases hn0 : -1000000000 ≤ n
      · have e2 := decide_eq_true hn0
        by_cases hn1 : n ≤ 1000000000
        · have e3 := decide_eq_true hn1
          rw [Pl.valid_in hd0 hd1 hn0 hn1]
          obtain ⟨g, hg⟩ : ∃ g : Nat, g = Int.gcd n d := ⟨_, rfl⟩
          rw [← hg]
          have c := fun W => gcd_any n d W (by omega) (by omega) (by omega) (by omega)
          rw [← hg] at c
          clear hg
          have C := Lib.hid c
          clear c
          go_enter Try.func95, Try.ntmps95
          go_wp2_with (first | (go_at_call 113; refine (C.out _).mono ?_; rintro e w' ⟨rfl, hb⟩) | go_in)
          go_ret
          exact ⟨rfl, ((Below.refl _ _).alloc (Nat.le_refl _) _).trans (hb.mono (by simp))⟩
        · have e3 := decide_eq_false hn1
          rw [Pl.valid_no2 (by omega)]
          go_enter Try.func95, Try.ntmps95
          go_wp2
          go_ret
          exact ⟨rfl, (Below.refl _ _).alloc (Nat.le_refl _) _⟩
      · have e2 := decide_eq_false hn0
        rw [Pl.valid_no2 (by omega)]
        go_enter Try.func95, Try.ntmps95
        go_wp2
        go_ret
        exact ⟨rfl, (Below.refl _ _).alloc (Nat.le_refl _) _⟩
    · have e1 := decide_eq_false hd1
      rw [Pl.valid_no1 (by omega)]
      go_enter Try.func95, Try.ntmps95
      go_wp2
      go_ret
      exact ⟨rfl, (Below.refl _ _).alloc (Nat.le_refl _) _⟩
  · have e0 := decide_eq_false hd0
    rw [Pl.valid_no1 (by omega)]
    go_enter Try.func95, Try.ntmps95
    go_wp2
    go_ret
    exact ⟨rfl, (Below.refl _ _).alloc (Nat.le_refl _) _⟩

theorem toRat_any (n d : Int) (w : World) : Calls Try.prog 53 #[.agg #[.int .i64 n, .int .i64 d]] w fun e w' => e = .returned (.agg #[.int .i64 n, .int .i64 d]) ∧ Below w.heap.size w w' := by
  go_enter Try.func53, Try.ntmps53
  go_wp2
  refine bodyPost_ret (v := .agg #[.int .i64 n, .int .i64 d]) (by simp [results, Try.results53, go_sem]) rfl ⟨rfl, ?_⟩
  exact ((((Below.refl _ _).alloc (Nat.le_refl _) _).alloc (by simp) _).alloc (by simp; omega) _)

end Go.Proofs.Ytajafmdeencohaa
