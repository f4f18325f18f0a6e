/-
  Contracts of AddRat, SubRat, MulRat, DivRat and CompareRat, of the program and of the reference.
-/
import Derived.Test.YtajafmdeencohaaRat2
namespace Go.Proofs.Ytajafmdeencohaa
open Go.RowKit

theorem below_set2' {B i j k : Nat} {a w : World} {u v : Value} (h : Below B a w) (hk : B ≤ k) : Below B a ((w.setCell ⟨k, i, none⟩ u).setCell ⟨k, j, none⟩ v) :=
  (h.setCell (p := ⟨k, i, none⟩) hk u).setCell (p := ⟨k, j, none⟩) hk v
theorem below_new3 (w : World) (a b c : Obj) : Below w.heap.size w (((w.alloc a).alloc b).alloc c) :=
  (((Below.refl _ _).alloc (Nat.le_refl _) a).alloc (by simp) b).alloc (by simp; omega) c
theorem below_new2 (w : World) (a b : Obj) : Below w.heap.size w ((w.alloc a).alloc b) :=
  ((Below.refl _ _).alloc (Nat.le_refl _) a).alloc (by simp) b
theorem size_new3 {w : World} {a b c : Obj} {n : Nat} (h : (((w.alloc a).alloc b).alloc c).heap.size ≤ n) : w.heap.size < n ∧ w.heap.size + 1 < n ∧ w.heap.size + 1 + 1 < n := by
  simp at h
  omega
theorem size_new2 {w : World} {a b : Obj} {n : Nat} (h : ((w.alloc a).alloc b).heap.size ≤ n) : w.heap.size < n ∧ w.heap.size + 1 < n := by
  simp at h
  omega

theorem iadd_any (a b c d : Int) (w : World) : Calls Try.prog 102 #[.agg #[.int .i64 a, .int .i64 b], .agg #[.int .i64 c, .int .i64 d]] w fun e w' => e = .returned (.tuple #[.agg #[.int .i64 (Pl.add a b c d).1, .int .i64 (Pl.add a b c d).2.1], .bool (Pl.add a b c d).2.2]) ∧ Below w.heap.size w w' := by
  cases h1 : Pl.valid a b
  · have e : Pl.add a b c d = (0, 0, false) := by simp [Pl.add, h1]
    rw [e]
    clear e
    go_enter Try.func102, Try.ntmps102
    go_wp2_with fail
    refine (ivalid_any _ _ _).mono ?_
    rintro e w1 ⟨rfl, hb1⟩
    obtain ⟨hc1, hf1⟩ := bcell hb1
    obtain ⟨z1, z2, z3⟩ := size_new3 hb1.size
    go_wp2
    refine bodyPost_ret (v := .tuple #[.agg #[.int .i64 0, .int .i64 0], .bool false]) (by simp [results, Try.results102, go_sem, hc1]) rfl ⟨rfl, ?_⟩
    exact below_set2' ((below_new3 _ _ _ _).trans (hb1.mono (by simp; omega))) (by omega)
  · cases h2 : Pl.valid c d
    · have e : Pl.add a b c d = (0, 0, false) := by simp [Pl.add, h2]
      rw [e]
      clear e
      go_enter Try.func102, Try.ntmps102
      go_wp2_with fail
      refine (ivalid_any _ _ _).mono ?_
      rintro e w1 ⟨rfl, hb1⟩
      obtain ⟨hc1, hf1⟩ := bcell hb1
      obtain ⟨z1, z2, z3⟩ := size_new3 hb1.size
      go_wp2_with fail
      refine (ivalid_any _ _ _).mono ?_
      rintro e w2 ⟨rfl, hb2⟩
      obtain ⟨hc2, hf2⟩ := bcell hb2
      have y3 := Nat.lt_of_lt_of_le z3 hb2.size
      go_wp2
      refine bodyPost_ret (v := .tuple #[.agg #[.int .i64 0, .int .i64 0], .bool false]) (by simp [results, Try.results102, go_sem, hc2, hc1, z3]) rfl ⟨rfl, ?_⟩
      exact below_set2' (((below_new3 _ _ _ _).trans (hb1.mono (by simp; omega))).trans (hb2.mono (by omega))) (by omega)
    · have e : Pl.add a b c d = Pl.rat (a * d + c * b) (b * d) := by simp [Pl.add, h1, h2]
      rw [e]
      clear e
      obtain ⟨b1, b2, b3, b4⟩ := Pl.valid_bounds h1
      obtain ⟨d1, d2, d3, d4⟩ := Pl.valid_bounds h2
      have m1 := Pl.mul_le (a) (d) 1000000000 1000000000 (by omega) (by omega) (by omega) (by omega)
      rw [show (1000000000 * 1000000000 : Int) = 1000000000000000000 from rfl] at m1
      obtain ⟨m1a, m1b⟩ := m1
      have m2 := Pl.mul_le (c) (b) 1000000000 1000000000 (by omega) (by omega) (by omega) (by omega)
      rw [show (1000000000 * 1000000000 : Int) = 1000000000000000000 from rfl] at m2
      obtain ⟨m2a, m2b⟩ := m2
      have m3 := Pl.mul_le (b) (d) 1000000000 1000000000 (by omega) (by omega) (by omega) (by omega)
      rw [show (1000000000 * 1000000000 : Int) = 1000000000000000000 from rfl] at m3
      obtain ⟨m3a, m3b⟩ := m3
      go_enter Try.func102, Try.ntmps102
      go_wp2_with fail
      refine (ivalid_any _ _ _).mono ?_
      rintro e w1 ⟨rfl, hb1⟩
      obtain ⟨hc1, hf1⟩ := bcell hb1
      obtain ⟨z1, z2, z3⟩ := size_new3 hb1.size
      go_wp2_with fail
      refine (ivalid_any _ _ _).mono ?_
      rintro e w2 ⟨rfl, hb2⟩
      obtain ⟨hc2, hf2⟩ := bcell hb2
      have y1 := Nat.lt_of_lt_of_le z1 hb2.size
      have y2 := Nat.lt_of_lt_of_le z2 hb2.size
      have y3 := Nat.lt_of_lt_of_le z3 hb2.size
      go_wp2_with fail
      refine (iratOf_any _ _ _).mono ?_
      rintro e w3 ⟨rfl, hb3⟩
      obtain ⟨hc3, hf3⟩ := bcell hb3
      have x3 := Nat.lt_of_lt_of_le y3 hb3.size
      go_wp2
      refine bodyPost_ret (v := .tuple #[.agg #[.int .i64 (Pl.rat (a * d + c * b) (b * d)).1, .int .i64 (Pl.rat (a * d + c * b) (b * d)).2.1], .bool (Pl.rat (a * d + c * b) (b * d)).2.2]) (by simp [results, Try.results102, go_sem, hc3, hc2, hc1, z3, y3]) rfl ⟨rfl, ?_⟩
      exact below_set2' ((((below_new3 _ _ _ _).trans (hb1.mono (by simp; omega))).trans (hb2.mono (by omega))).trans (hb3.mono (by omega))) (by omega)

theorem imul_any (a b c d : Int) (w : World) : Calls Try.prog 101 #[.agg #[.int .i64 a, .int .i64 b], .agg #[.int .i64 c, .int .i64 d]] w fun e w' => e = .returned (.tuple #[.agg #[.int .i64 (Pl.mul a b c d).1, .int .i64 (Pl.mul a b c d).2.1], .bool (Pl.mul a b c d).2.2]) ∧ Below w.heap.size w w' := by
  cases h1 : Pl.valid a b
  · have e : Pl.mul a b c d = (0, 0, false) := by simp [Pl.mul, h1]
    rw [e]
    clear e
    go_enter Try.func101, Try.ntmps101
    go_wp2_with fail
    refine (ivalid_any _ _ _).mono ?_
    rintro e w1 ⟨rfl, hb1⟩
    obtain ⟨hc1, hf1⟩ := bcell hb1
    obtain ⟨z1, z2, z3⟩ := size_new3 hb1.size
    go_wp2
    refine bodyPost_ret (v := .tuple #[.agg #[.int .i64 0, .int .i64 0], .bool false]) (by simp [results, Try.results101, go_sem, hc1]) rfl ⟨rfl, ?_⟩
    exact below_set2' ((below_new3 _ _ _ _).trans (hb1.mono (by simp; omega))) (by omega)
  · cases h2 : Pl.valid c d
    · have e : Pl.mul a b c d = (0, 0, false) := by simp [Pl.mul, h2]
      rw [e]
      clear e
      go_enter Try.func101, Try.ntmps101
      go_wp2_with fail
      refine (ivalid_any _ _ _).mono ?_
      rintro e w1 ⟨rfl, hb1⟩
      obtain ⟨hc1, hf1⟩ := bcell hb1
      obtain ⟨z1, z2, z3⟩ := size_new3 hb1.size
      go_wp2_with fail
      refine (ivalid_any _ _ _).mono ?_
      rintro e w2 ⟨rfl, hb2⟩
      obtain ⟨hc2, hf2⟩ := bcell hb2
      have y3 := Nat.lt_of_lt_of_le z3 hb2.size
      go_wp2
      refine bodyPost_ret (v := .tuple #[.agg #[.int .i64 0, .int .i64 0], .bool false]) (by simp [results, Try.results101, go_sem, hc2, hc1, z3]) rfl ⟨rfl, ?_⟩
      exact below_set2' (((below_new3 _ _ _ _).trans (hb1.mono (by simp; omega))).trans (hb2.mono (by omega))) (by omega)
    · have e : Pl.mul a b c d = Pl.rat (a * c) (b * d) := by simp [Pl.mul, h1, h2]
      rw [e]
      clear e
      obtain ⟨b1, b2, b3, b4⟩ := Pl.valid_bounds h1
      obtain ⟨d1, d2, d3, d4⟩ := Pl.valid_bounds h2
      have m1 := Pl.mul_le (a) (c) 1000000000 1000000000 (by omega) (by omega) (by omega) (by omega)
      rw [show (1000000000 * 1000000000 : Int) = 1000000000000000000 from rfl] at m1
      obtain ⟨m1a, m1b⟩ := m1
      have m3 := Pl.mul_le (b) (d) 1000000000 1000000000 (by omega) (by omega) (by omega) (by omega)
      rw [show (1000000000 * 1000000000 : Int) = 1000000000000000000 from rfl] at m3
      obtain ⟨m3a, m3b⟩ := m3
      go_enter Try.func101, Try.ntmps101
      go_wp2_with fail
      refine (ivalid_any _ _ _).mono ?_
      rintro e w1 ⟨rfl, hb1⟩
      obtain ⟨hc1, hf1⟩ := bcell hb1
      obtain ⟨z1, z2, z3⟩ := size_new3 hb1.size
      go_wp2_with fail
      refine (ivalid_any _ _ _).mono ?_
      rintro e w2 ⟨rfl, hb2⟩
      obtain ⟨hc2, hf2⟩ := bcell hb2
      have y1 := Nat.lt_of_lt_of_le z1 hb2.size
      have y2 := Nat.lt_of_lt_of_le z2 hb2.size
      have y3 := Nat.lt_of_lt_of_le z3 hb2.size
      go_wp2_with fail
      refine (iratOf_any _ _ _).mono ?_
      rintro e w3 ⟨rfl, hb3⟩
      obtain ⟨hc3, hf3⟩ := bcell hb3
      have x3 := Nat.lt_of_lt_of_le y3 hb3.size
      go_wp2
      refine bodyPost_ret (v := .tuple #[.agg #[.int .i64 (Pl.rat (a * c) (b * d)).1, .int .i64 (Pl.rat (a * c) (b * d)).2.1], .bool (Pl.rat (a * c) (b * d)).2.2]) (by simp [results, Try.results101, go_sem, hc3, hc2, hc1, z3, y3]) rfl ⟨rfl, ?_⟩
      exact below_set2' ((((below_new3 _ _ _ _).trans (hb1.mono (by simp; omega))).trans (hb2.mono (by omega))).trans (hb3.mono (by omega))) (by omega)

theorem idiv_any (a b c d : Int) (w : World) : Calls Try.prog 83 #[.agg #[.int .i64 a, .int .i64 b], .agg #[.int .i64 c, .int .i64 d]] w fun e w' => e = .returned (.tuple #[.agg #[.int .i64 (Pl.div a b c d).1, .int .i64 (Pl.div a b c d).2.1], .bool (Pl.div a b c d).2.2]) ∧ Below w.heap.size w w' := by
  cases h1 : Pl.valid a b
  · have e : Pl.div a b c d = (0, 0, false) := by simp [Pl.div, h1]
    rw [e]
    clear e
    go_enter Try.func83, Try.ntmps83
    go_wp2_with fail
    refine (ivalid_any _ _ _).mono ?_
    rintro e w1 ⟨rfl, hb1⟩
    obtain ⟨hc1, hf1⟩ := bcell hb1
    obtain ⟨z1, z2, z3⟩ := size_new3 hb1.size
    go_wp2
    refine bodyPost_ret (v := .tuple #[.agg #[.int .i64 0, .int .i64 0], .bool false]) (by simp [results, Try.results83, go_sem, hc1]) rfl ⟨rfl, ?_⟩
    exact below_set2' ((below_new3 _ _ _ _).trans (hb1.mono (by simp; omega))) (by omega)
  · cases h2 : Pl.valid c d
    · have e : Pl.div a b c d = (0, 0, false) := by simp [Pl.div, h2]
      rw [e]
      clear e
      go_enter Try.func83, Try.ntmps83
      go_wp2_with fail
      refine (ivalid_any _ _ _).mono ?_
      rintro e w1 ⟨rfl, hb1⟩
      obtain ⟨hc1, hf1⟩ := bcell hb1
      obtain ⟨z1, z2, z3⟩ := size_new3 hb1.size
      go_wp2_with fail
      refine (ivalid_any _ _ _).mono ?_
      rintro e w2 ⟨rfl, hb2⟩
      obtain ⟨hc2, hf2⟩ := bcell hb2
      have y3 := Nat.lt_of_lt_of_le z3 hb2.size
      go_wp2
      refine bodyPost_ret (v := .tuple #[.agg #[.int .i64 0, .int .i64 0], .bool false]) (by simp [results, Try.results83, go_sem, hc2, hc1, z3]) rfl ⟨rfl, ?_⟩
      exact below_set2' (((below_new3 _ _ _ _).trans (hb1.mono (by simp; omega))).trans (hb2.mono (by omega))) (by omega)
    · have e : Pl.div a b c d = Pl.rat (a * d) (b * c) := by simp [Pl.div, h1, h2]
      rw [e]
      clear e
      obtain ⟨b1, b2, b3, b4⟩ := Pl.valid_bounds h1
      obtain ⟨d1, d2, d3, d4⟩ := Pl.valid_bounds h2
      have m1 := Pl.mul_le (a) (d) 1000000000 1000000000 (by omega) (by omega) (by omega) (by omega)
      rw [show (1000000000 * 1000000000 : Int) = 1000000000000000000 from rfl] at m1
      obtain ⟨m1a, m1b⟩ := m1
      have m3 := Pl.mul_le (b) (c) 1000000000 1000000000 (by omega) (by omega) (by omega) (by omega)
      rw [show (1000000000 * 1000000000 : Int) = 1000000000000000000 from rfl] at m3
      obtain ⟨m3a, m3b⟩ := m3
      go_enter Try.func83, Try.ntmps83
      go_wp2_with fail
      refine (ivalid_any _ _ _).mono ?_
      rintro e w1 ⟨rfl, hb1⟩
      obtain ⟨hc1, hf1⟩ := bcell hb1
      obtain ⟨z1, z2, z3⟩ := size_new3 hb1.size
      go_wp2_with fail
      refine (ivalid_any _ _ _).mono ?_
      rintro e w2 ⟨rfl, hb2⟩
      obtain ⟨hc2, hf2⟩ := bcell hb2
      have y1 := Nat.lt_of_lt_of_le z1 hb2.size
      have y2 := Nat.lt_of_lt_of_le z2 hb2.size
      have y3 := Nat.lt_of_lt_of_le z3 hb2.size
      go_wp2_with fail
      refine (iratOf_any _ _ _).mono ?_
      rintro e w3 ⟨rfl, hb3⟩
      obtain ⟨hc3, hf3⟩ := bcell hb3
      have x3 := Nat.lt_of_lt_of_le y3 hb3.size
      go_wp2
      refine bodyPost_ret (v := .tuple #[.agg #[.int .i64 (Pl.rat (a * d) (b * c)).1, .int .i64 (Pl.rat (a * d) (b * c)).2.1], .bool (Pl.rat (a * d) (b * c)).2.2]) (by simp [results, Try.results83, go_sem, hc3, hc2, hc1, z3, y3]) rfl ⟨rfl, ?_⟩
      exact below_set2' ((((below_new3 _ _ _ _).trans (hb1.mono (by simp; omega))).trans (hb2.mono (by omega))).trans (hb3.mono (by omega))) (by omega)

theorem sadd_any (a b c d : Int) (w : World) : Calls Try.prog 97 #[.agg #[.int .i64 a, .int .i64 b], .agg #[.int .i64 c, .int .i64 d]] w fun e w' => e = .returned (.tuple #[.agg #[.int .i64 (Pl.add a b c d).1, .int .i64 (Pl.add a b c d).2.1], .bool (Pl.add a b c d).2.2]) ∧ Below w.heap.size w w' := by
  cases h1 : Pl.valid a b
  · have e : Pl.add a b c d = (0, 0, false) := by simp [Pl.add, h1]
    rw [e]
    clear e
    go_enter Try.func97, Try.ntmps97
    go_wp2_with fail
    refine (svalid_any _ _ _).mono ?_
    rintro e w1 ⟨rfl, hb1⟩
    obtain ⟨hc1, hf1⟩ := bcell hb1
    obtain ⟨z1, z2, z3⟩ := size_new3 hb1.size
    go_wp2
    refine bodyPost_ret (v := .tuple #[.agg #[.int .i64 0, .int .i64 0], .bool false]) (by simp [results, Try.results97, go_sem, hc1]) rfl ⟨rfl, ?_⟩
    exact below_set2' ((below_new3 _ _ _ _).trans (hb1.mono (by simp; omega))) (by omega)
  · cases h2 : Pl.valid c d
    · have e : Pl.add a b c d = (0, 0, false) := by simp [Pl.add, h2]
      rw [e]
      clear e
      go_enter Try.func97, Try.ntmps97
      go_wp2_with fail
      refine (svalid_any _ _ _).mono ?_
      rintro e w1 ⟨rfl, hb1⟩
      obtain ⟨hc1, hf1⟩ := bcell hb1
      obtain ⟨z1, z2, z3⟩ := size_new3 hb1.size
      go_wp2_with fail
      refine (svalid_any _ _ _).mono ?_
      rintro e w2 ⟨rfl, hb2⟩
      obtain ⟨hc2, hf2⟩ := bcell hb2
      have y3 := Nat.lt_of_lt_of_le z3 hb2.size
      go_wp2
      refine bodyPost_ret (v := .tuple #[.agg #[.int .i64 0, .int .i64 0], .bool false]) (by simp [results, Try.results97, go_sem, hc2, hc1, z3]) rfl ⟨rfl, ?_⟩
      exact below_set2' (((below_new3 _ _ _ _).trans (hb1.mono (by simp; omega))).trans (hb2.mono (by omega))) (by omega)
    · have e : Pl.add a b c d = Pl.rat (a * d + c * b) (b * d) := by simp [Pl.add, h1, h2]
      rw [e]
      clear e
      obtain ⟨b1, b2, b3, b4⟩ := Pl.valid_bounds h1
      obtain ⟨d1, d2, d3, d4⟩ := Pl.valid_bounds h2
      have m1 := Pl.mul_le (a) (d) 1000000000 1000000000 (by omega) (by omega) (by omega) (by omega)
      rw [show (1000000000 * 1000000000 : Int) = 1000000000000000000 from rfl] at m1
      obtain ⟨m1a, m1b⟩ := m1
      have m2 := Pl.mul_le (c) (b) 1000000000 1000000000 (by omega) (by omega) (by omega) (by omega)
      rw [show (1000000000 * 1000000000 : Int) = 1000000000000000000 from rfl] at m2
      obtain ⟨m2a, m2b⟩ := m2
      have m3 := Pl.mul_le (b) (d) 1000000000 1000000000 (by omega) (by omega) (by omega) (by omega)
      rw [show (1000000000 * 1000000000 : Int) = 1000000000000000000 from rfl] at m3
      obtain ⟨m3a, m3b⟩ := m3
      go_enter Try.func97, Try.ntmps97
      go_wp2_with fail
      refine (svalid_any _ _ _).mono ?_
      rintro e w1 ⟨rfl, hb1⟩
      obtain ⟨hc1, hf1⟩ := bcell hb1
      obtain ⟨z1, z2, z3⟩ := size_new3 hb1.size
      go_wp2_with fail
      refine (svalid_any _ _ _).mono ?_
      rintro e w2 ⟨rfl, hb2⟩
      obtain ⟨hc2, hf2⟩ := bcell hb2
      have y1 := Nat.lt_of_lt_of_le z1 hb2.size
      have y2 := Nat.lt_of_lt_of_le z2 hb2.size
      have y3 := Nat.lt_of_lt_of_le z3 hb2.size
      go_wp2_with fail
      refine (sratOf_any _ _ _).mono ?_
      rintro e w3 ⟨rfl, hb3⟩
      obtain ⟨hc3, hf3⟩ := bcell hb3
      have x3 := Nat.lt_of_lt_of_le y3 hb3.size
      go_wp2
      refine bodyPost_ret (v := .tuple #[.agg #[.int .i64 (Pl.rat (a * d + c * b) (b * d)).1, .int .i64 (Pl.rat (a * d + c * b) (b * d)).2.1], .bool (Pl.rat (a * d + c * b) (b * d)).2.2]) (by simp [results, Try.results97, go_sem, hc3, hc2, hc1, z3, y3]) rfl ⟨rfl, ?_⟩
      exact below_set2' ((((below_new3 _ _ _ _).trans (hb1.mono (by simp; omega))).trans (hb2.mono (by omega))).trans (hb3.mono (by omega))) (by omega)

theorem smul_any (a b c d : Int) (w : World) : Calls Try.prog 96 #[.agg #[.int .i64 a, .int .i64 b], .agg #[.int .i64 c, .int .i64 d]] w fun e w' => e = .returned (.tuple #[.agg #[.int .i64 (Pl.mul a b c d).1, .int .i64 (Pl.mul a b c d).2.1], .bool (Pl.mul a b c d).2.2]) ∧ Below w.heap.size w w' := by
  cases h1 : Pl.valid a b
  · have e : Pl.mul a b c d = (0, 0, false) := by simp [Pl.mul, h1]
    rw [e]
    clear e
    go_enter Try.func96, Try.ntmps96
    go_wp2_with fail
    refine (svalid_any _ _ _).mono ?_
    rintro e w1 ⟨rfl, hb1⟩
    obtain ⟨hc1, hf1⟩ := bcell hb1
    obtain ⟨z1, z2, z3⟩ := size_new3 hb1.size
    go_wp2
    refine bodyPost_ret (v := .tuple #[.agg #[.int .i64 0, .int .i64 0], .bool false]) (by simp [results, Try.results96, go_sem, hc1]) rfl ⟨rfl, ?_⟩
    exact below_set2' ((below_new3 _ _ _ _).trans (hb1.mono (by simp; omega))) (by omega)
  · cases h2 : Pl.valid c d
    · have e : Pl.mul a b c d = (0, 0, false) := by simp [Pl.mul, h2]
      rw [e]
      clear e
      go_enter Try.func96, Try.ntmps96
      go_wp2_with fail
      refine (svalid_any _ _ _).mono ?_
      rintro e w1 ⟨rfl, hb1⟩
      obtain ⟨hc1, hf1⟩ := bcell hb1
      obtain ⟨z1, z2, z3⟩ := size_new3 hb1.size
      go_wp2_with fail
      refine (svalid_any _ _ _).mono ?_
      rintro e w2 ⟨rfl, hb2⟩
      obtain ⟨hc2, hf2⟩ := bcell hb2
      have y3 := Nat.lt_of_lt_of_le z3 hb2.size
      go_wp2
      refine bodyPost_ret (v := .tuple #[.agg #[.int .i64 0, .int .i64 0], .bool false]) (by simp [results, Try.results96, go_sem, hc2, hc1, z3]) rfl ⟨rfl, ?_⟩
      exact below_set2' (((below_new3 _ _ _ _).trans (hb1.mono (by simp; omega))).trans (hb2.mono (by omega))) (by omega)
    · have e : Pl.mul a b c d = Pl.rat (a * c) (b * d) := by simp [Pl.mul, h1, h2]
      rw [e]
      clear e
      obtain ⟨b1, b2, b3, b4⟩ := Pl.valid_bounds h1
      obtain ⟨d1, d2, d3, d4⟩ := Pl.valid_bounds h2
      have m1 := Pl.mul_le (a) (c) 1000000000 1000000000 (by omega) (by omega) (by omega) (by omega)
      rw [show (1000000000 * 1000000000 : Int) = 1000000000000000000 from rfl] at m1
      obtain ⟨m1a, m1b⟩ := m1
      have m3 := Pl.mul_le (b) (d) 1000000000 1000000000 (by omega) (by omega) (by omega) (by omega)
      rw [show (1000000000 * 1000000000 : Int) = 1000000000000000000 from rfl] at m3
      obtain ⟨m3a, m3b⟩ := m3
      go_enter Try.func96, Try.ntmps96
      go_wp2_with fail
      refine (svalid_any _ _ _).mono ?_
      rintro e w1 ⟨rfl, hb1⟩
      obtain ⟨hc1, hf1⟩ := bcell hb1
      obtain ⟨z1, z2, z3⟩ := size_new3 hb1.size
      go_wp2_with fail
      refine (svalid_any _ _ _).mono ?_
      rintro e w2 ⟨rfl, hb2⟩
      obtain ⟨hc2, hf2⟩ := bcell hb2
      have y1 := Nat.lt_of_lt_of_le z1 hb2.size
      have y2 := Nat.lt_of_lt_of_le z2 hb2.size
      have y3 := Nat.lt_of_lt_of_le z3 hb2.size
      go_wp2_with fail
      refine (sratOf_any _ _ _).mono ?_
      rintro e w3 ⟨rfl, hb3⟩
      obtain ⟨hc3, hf3⟩ := bcell hb3
      have x3 := Nat.lt_of_lt_of_le y3 hb3.size
      go_wp2
      refine bodyPost_ret (v := .tuple #[.agg #[.int .i64 (Pl.rat (a * c) (b * d)).1, .int .i64 (Pl.rat (a * c) (b * d)).2.1], .bool (Pl.rat (a * c) (b * d)).2.2]) (by simp [results, Try.results96, go_sem, hc3, hc2, hc1, z3, y3]) rfl ⟨rfl, ?_⟩
      exact below_set2' ((((below_new3 _ _ _ _).trans (hb1.mono (by simp; omega))).trans (hb2.mono (by omega))).trans (hb3.mono (by omega))) (by omega)

theorem sdiv_any (a b c d : Int) (w : World) : Calls Try.prog 105 #[.agg #[.int .i64 a, .int .i64 b], .agg #[.int .i64 c, .int .i64 d]] w fun e w' => e = .returned (.tuple #[.agg #[.int .i64 (Pl.div a b c d).1, .int .i64 (Pl.div a b c d).2.1], .bool (Pl.div a b c d).2.2]) ∧ Below w.heap.size w w' := by
  cases h1 : Pl.valid a b
  · have e : Pl.div a b c d = (0, 0, false) := by simp [Pl.div, h1]
    rw [e]
    clear e
    go_enter Try.func105, Try.ntmps105
    go_wp2_with fail
    refine (svalid_any _ _ _).mono ?_
    rintro e w1 ⟨rfl, hb1⟩
    obtain ⟨hc1, hf1⟩ := bcell hb1
    obtain ⟨z1, z2, z3⟩ := size_new3 hb1.size
    go_wp2
    refine bodyPost_ret (v := .tuple #[.agg #[.int .i64 0, .int .i64 0], .bool false]) (by simp [results, Try.results105, go_sem, hc1]) rfl ⟨rfl, ?_⟩
    exact below_set2' ((below_new3 _ _ _ _).trans (hb1.mono (by simp; omega))) (by omega)
  · cases h2 : Pl.valid c d
    · have e : Pl.div a b c d = (0, 0, false) := by simp [Pl.div, h2]
      rw [e]
      clear e
      go_enter Try.func105, Try.ntmps105
      go_wp2_with fail
      refine (svalid_any _ _ _).mono ?_
      rintro e w1 ⟨rfl, hb1⟩
      obtain ⟨hc1, hf1⟩ := bcell hb1
      obtain ⟨z1, z2, z3⟩ := size_new3 hb1.size
      go_wp2_with fail
      refine (svalid_any _ _ _).mono ?_
      rintro e w2 ⟨rfl, hb2⟩
      obtain ⟨hc2, hf2⟩ := bcell hb2
      have y3 := Nat.lt_of_lt_of_le z3 hb2.size
      go_wp2
      refine bodyPost_ret (v := .tuple #[.agg #[.int .i64 0, .int .i64 0], .bool false]) (by simp [results, Try.results105, go_sem, hc2, hc1, z3]) rfl ⟨rfl, ?_⟩
      exact below_set2' (((below_new3 _ _ _ _).trans (hb1.mono (by simp; omega))).trans (hb2.mono (by omega))) (by omega)
    · have e : Pl.div a b c d = Pl.rat (a * d) (b * c) := by simp [Pl.div, h1, h2]
      rw [e]
      clear e
      obtain ⟨b1, b2, b3, b4⟩ := Pl.valid_bounds h1
      obtain ⟨d1, d2, d3, d4⟩ := Pl.valid_bounds h2
      have m1 := Pl.mul_le (a) (d) 1000000000 1000000000 (by omega) (by omega) (by omega) (by omega)
      rw [show (1000000000 * 1000000000 : Int) = 1000000000000000000 from rfl] at m1
      obtain ⟨m1a, m1b⟩ := m1
      have m3 := Pl.mul_le (b) (c) 1000000000 1000000000 (by omega) (by omega) (by omega) (by omega)
      rw [show (1000000000 * 1000000000 : Int) = 1000000000000000000 from rfl] at m3
      obtain ⟨m3a, m3b⟩ := m3
      go_enter Try.func105, Try.ntmps105
      go_wp2_with fail
      refine (svalid_any _ _ _).mono ?_
      rintro e w1 ⟨rfl, hb1⟩
      obtain ⟨hc1, hf1⟩ := bcell hb1
      obtain ⟨z1, z2, z3⟩ := size_new3 hb1.size
      go_wp2_with fail
      refine (svalid_any _ _ _).mono ?_
      rintro e w2 ⟨rfl, hb2⟩
      obtain ⟨hc2, hf2⟩ := bcell hb2
      have y1 := Nat.lt_of_lt_of_le z1 hb2.size
      have y2 := Nat.lt_of_lt_of_le z2 hb2.size
      have y3 := Nat.lt_of_lt_of_le z3 hb2.size
      go_wp2_with fail
      refine (sratOf_any _ _ _).mono ?_
      rintro e w3 ⟨rfl, hb3⟩
      obtain ⟨hc3, hf3⟩ := bcell hb3
      have x3 := Nat.lt_of_lt_of_le y3 hb3.size
      go_wp2
      refine bodyPost_ret (v := .tuple #[.agg #[.int .i64 (Pl.rat (a * d) (b * c)).1, .int .i64 (Pl.rat (a * d) (b * c)).2.1], .bool (Pl.rat (a * d) (b * c)).2.2]) (by simp [results, Try.results105, go_sem, hc3, hc2, hc1, z3, y3]) rfl ⟨rfl, ?_⟩
      exact below_set2' ((((below_new3 _ _ _ _).trans (hb1.mono (by simp; omega))).trans (hb2.mono (by omega))).trans (hb3.mono (by omega))) (by omega)

theorem icmp_any (a b c d : Int) (w : World) : Calls Try.prog 90 #[.agg #[.int .i64 a, .int .i64 b], .agg #[.int .i64 c, .int .i64 d]] w fun e w' => e = .returned (.int .i64 (Pl.cmp a b c d)) ∧ Below w.heap.size w w' := by
  cases h1 : Pl.valid a b
  · have e : Pl.cmp a b c d = 0 := by simp [Pl.cmp, h1]
    rw [e]
    clear e
    go_enter Try.func90, Try.ntmps90
    go_wp2_with fail
    refine (ivalid_any _ _ _).mono ?_
    rintro e w1 ⟨rfl, hb1⟩
    obtain ⟨hc1, hf1⟩ := bcell hb1
    obtain ⟨z1, z2⟩ := size_new2 hb1.size
    go_wp2
    go_ret
    exact ⟨rfl, (below_new2 _ _ _).trans (hb1.mono (by simp; omega))⟩
  · cases h2 : Pl.valid c d
    · have e : Pl.cmp a b c d = 0 := by simp [Pl.cmp, h2]
      rw [e]
      clear e
      go_enter Try.func90, Try.ntmps90
      go_wp2_with fail
      refine (ivalid_any _ _ _).mono ?_
      rintro e w1 ⟨rfl, hb1⟩
      obtain ⟨hc1, hf1⟩ := bcell hb1
      obtain ⟨z1, z2⟩ := size_new2 hb1.size
      go_wp2_with fail
      refine (ivalid_any _ _ _).mono ?_
      rintro e w2 ⟨rfl, hb2⟩
      obtain ⟨hc2, hf2⟩ := bcell hb2
      have y1 := Nat.lt_of_lt_of_le z1 hb2.size
      have y2 := Nat.lt_of_lt_of_le z2 hb2.size
      go_wp2
      go_ret
      exact ⟨rfl, ((below_new2 _ _ _).trans (hb1.mono (by simp; omega))).trans (hb2.mono (by omega))⟩
    · obtain ⟨b1, b2, b3, b4⟩ := Pl.valid_bounds h1
      obtain ⟨d1, d2, d3, d4⟩ := Pl.valid_bounds h2
      have m1 := Pl.mul_le (a) (d) 1000000000 1000000000 (by omega) (by omega) (by omega) (by omega)
      rw [show (1000000000 * 1000000000 : Int) = 1000000000000000000 from rfl] at m1
      obtain ⟨m1a, m1b⟩ := m1
      have m2 := Pl.mul_le (c) (b) 1000000000 1000000000 (by omega) (by omega) (by omega) (by omega)
      rw [show (1000000000 * 1000000000 : Int) = 1000000000000000000 from rfl] at m2
      obtain ⟨m2a, m2b⟩ := m2
      by_cases q1 : a * d < c * b
      · have e : Pl.cmp a b c d = -1 := by simp [Pl.cmp, h1, h2, q1]
        rw [e]
        clear e
        go_enter Try.func90, Try.ntmps90
        go_wp2_with fail
        refine (ivalid_any _ _ _).mono ?_
        rintro e w1 ⟨rfl, hb1⟩
        obtain ⟨hc1, hf1⟩ := bcell hb1
        obtain ⟨z1, z2⟩ := size_new2 hb1.size
        go_wp2_with fail
        refine (ivalid_any _ _ _).mono ?_
        rintro e w2 ⟨rfl, hb2⟩
        obtain ⟨hc2, hf2⟩ := bcell hb2
        have y1 := Nat.lt_of_lt_of_le z1 hb2.size
        have y2 := Nat.lt_of_lt_of_le z2 hb2.size
        go_wp2_with fail
        go_quiet (fail)
        go_wp2
        go_ret
        exact ⟨rfl, below_drewN (((below_new2 _ _ _).trans (hb1.mono (by simp; omega))).trans (hb2.mono (by omega))) _⟩
      · by_cases q2 : c * b < a * d
        · have e : Pl.cmp a b c d = 1 := by simp [Pl.cmp, h1, h2, q1, q2]
          rw [e]
          clear e
          go_enter Try.func90, Try.ntmps90
          go_wp2_with fail
          refine (ivalid_any _ _ _).mono ?_
          rintro e w1 ⟨rfl, hb1⟩
          obtain ⟨hc1, hf1⟩ := bcell hb1
          obtain ⟨z1, z2⟩ := size_new2 hb1.size
          go_wp2_with fail
          refine (ivalid_any _ _ _).mono ?_
          rintro e w2 ⟨rfl, hb2⟩
          obtain ⟨hc2, hf2⟩ := bcell hb2
          have y1 := Nat.lt_of_lt_of_le z1 hb2.size
          have y2 := Nat.lt_of_lt_of_le z2 hb2.size
          go_wp2_with fail
          go_quiet (fail)
          go_wp2
          go_ret
          exact ⟨rfl, below_drewN (((below_new2 _ _ _).trans (hb1.mono (by simp; omega))).trans (hb2.mono (by omega))) _⟩
        · have e : Pl.cmp a b c d = 0 := by simp [Pl.cmp, h1, h2, q1, q2]
          rw [e]
          clear e
          go_enter Try.func90, Try.ntmps90
          go_wp2_with fail
          refine (ivalid_any _ _ _).mono ?_
          rintro e w1 ⟨rfl, hb1⟩
          obtain ⟨hc1, hf1⟩ := bcell hb1
          obtain ⟨z1, z2⟩ := size_new2 hb1.size
          go_wp2_with fail
          refine (ivalid_any _ _ _).mono ?_
          rintro e w2 ⟨rfl, hb2⟩
          obtain ⟨hc2, hf2⟩ := bcell hb2
          have y1 := Nat.lt_of_lt_of_le z1 hb2.size
          have y2 := Nat.lt_of_lt_of_le z2 hb2.size
          go_wp2_with fail
          go_quiet (fail)
          go_wp2
          go_ret
          exact ⟨rfl, below_drewN (((below_new2 _ _ _).trans (hb1.mono (by simp; omega))).trans (hb2.mono (by omega))) _⟩

theorem scmp_any (a b c d : Int) (w : World) : Calls Try.prog 89 #[.agg #[.int .i64 a, .int .i64 b], .agg #[.int .i64 c, .int .i64 d]] w fun e w' => e = .returned (.int .i64 (Pl.cmp a b c d)) ∧ Below w.heap.size w w' := by
  cases h1 : Pl.valid a b
  · have e : Pl.cmp a b c d = 0 := by simp [Pl.cmp, h1]
    rw [e]
    clear e
    go_enter Try.func89, Try.ntmps89
    go_wp2_with fail
    refine (svalid_any _ _ _).mono ?_
    rintro e w1 ⟨rfl, hb1⟩
    obtain ⟨hc1, hf1⟩ := bcell hb1
    obtain ⟨z1, z2⟩ := size_new2 hb1.size
    go_wp2
    go_ret
    exact ⟨rfl, (below_new2 _ _ _).trans (hb1.mono (by simp; omega))⟩
  · cases h2 : Pl.valid c d
    · have e : Pl.cmp a b c d = 0 := by simp [Pl.cmp, h2]
      rw [e]
      clear e
      go_enter Try.func89, Try.ntmps89
      go_wp2_with fail
      refine (svalid_any _ _ _).mono ?_
      rintro e w1 ⟨rfl, hb1⟩
      obtain ⟨hc1, hf1⟩ := bcell hb1
      obtain ⟨z1, z2⟩ := size_new2 hb1.size
      go_wp2_with fail
      refine (svalid_any _ _ _).mono ?_
      rintro e w2 ⟨rfl, hb2⟩
      obtain ⟨hc2, hf2⟩ := bcell hb2
      have y1 := Nat.lt_of_lt_of_le z1 hb2.size
      have y2 := Nat.lt_of_lt_of_le z2 hb2.size
      go_wp2
      go_ret
      exact ⟨rfl, ((below_new2 _ _ _).trans (hb1.mono (by simp; omega))).trans (hb2.mono (by omega))⟩
    · obtain ⟨b1, b2, b3, b4⟩ := Pl.valid_bounds h1
      obtain ⟨d1, d2, d3, d4⟩ := Pl.valid_bounds h2
      have m1 := Pl.mul_le (a) (d) 1000000000 1000000000 (by omega) (by omega) (by omega) (by omega)
      rw [show (1000000000 * 1000000000 : Int) = 1000000000000000000 from rfl] at m1
      obtain ⟨m1a, m1b⟩ := m1
      have m2 := Pl.mul_le (c) (b) 1000000000 1000000000 (by omega) (by omega) (by omega) (by omega)
      rw [show (1000000000 * 1000000000 : Int) = 1000000000000000000 from rfl] at m2
      obtain ⟨m2a, m2b⟩ := m2
      by_cases q1 : a * d < c * b
      · have e : Pl.cmp a b c d = -1 := by simp [Pl.cmp, h1, h2, q1]
        rw [e]
        clear e
        go_enter Try.func89, Try.ntmps89
        go_wp2_with fail
        refine (svalid_any _ _ _).mono ?_
        rintro e w1 ⟨rfl, hb1⟩
        obtain ⟨hc1, hf1⟩ := bcell hb1
        obtain ⟨z1, z2⟩ := size_new2 hb1.size
        go_wp2_with fail
        refine (svalid_any _ _ _).mono ?_
        rintro e w2 ⟨rfl, hb2⟩
        obtain ⟨hc2, hf2⟩ := bcell hb2
        have y1 := Nat.lt_of_lt_of_le z1 hb2.size
        have y2 := Nat.lt_of_lt_of_le z2 hb2.size
        go_wp2
        go_ret
        exact ⟨rfl, (((below_new2 _ _ _).trans (hb1.mono (by simp; omega))).trans (hb2.mono (by omega)))⟩
      · by_cases q2 : c * b < a * d
        · have e : Pl.cmp a b c d = 1 := by simp [Pl.cmp, h1, h2, q1, q2]
          rw [e]
          clear e
          go_enter Try.func89, Try.ntmps89
          go_wp2_with fail
          refine (svalid_any _ _ _).mono ?_
          rintro e w1 ⟨rfl, hb1⟩
          obtain ⟨hc1, hf1⟩ := bcell hb1
          obtain ⟨z1, z2⟩ := size_new2 hb1.size
          go_wp2_with fail
          refine (svalid_any _ _ _).mono ?_
          rintro e w2 ⟨rfl, hb2⟩
          obtain ⟨hc2, hf2⟩ := bcell hb2
          have y1 := Nat.lt_of_lt_of_le z1 hb2.size
          have y2 := Nat.lt_of_lt_of_le z2 hb2.size
          go_wp2
          go_ret
          exact ⟨rfl, (((below_new2 _ _ _).trans (hb1.mono (by simp; omega))).trans (hb2.mono (by omega)))⟩
        · have e : Pl.cmp a b c d = 0 := by simp [Pl.cmp, h1, h2, q1, q2]
          rw [e]
          clear e
          go_enter Try.func89, Try.ntmps89
          go_wp2_with fail
          refine (svalid_any _ _ _).mono ?_
          rintro e w1 ⟨rfl, hb1⟩
          obtain ⟨hc1, hf1⟩ := bcell hb1
          obtain ⟨z1, z2⟩ := size_new2 hb1.size
          go_wp2_with fail
          refine (svalid_any _ _ _).mono ?_
          rintro e w2 ⟨rfl, hb2⟩
          obtain ⟨hc2, hf2⟩ := bcell hb2
          have y1 := Nat.lt_of_lt_of_le z1 hb2.size
          have y2 := Nat.lt_of_lt_of_le z2 hb2.size
          go_wp2
          go_ret
          exact ⟨rfl, (((below_new2 _ _ _).trans (hb1.mono (by simp; omega))).trans (hb2.mono (by omega)))⟩

end Go.Proofs.Ytajafmdeencohaa
