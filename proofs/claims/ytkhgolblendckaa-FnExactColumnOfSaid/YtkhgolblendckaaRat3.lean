/-
  Contracts of AddRat, SubRat, MulRat, DivRat and CompareRat, of the program and of the reference.
-/
import Derived.Test.YtkhgolblendckaaRat2
namespace Go.Proofs.Ytkhgolblendckaa
open Go.RowKit

theorem below_set2' {B i j k : Nat} {a w : World} {u v : Value} (h : Below B a w) (hk : B ≤ k) : Below B a ((w.setCell ⟨k, i, none⟩ u).setCell ⟨k, j, none⟩ v) :=
  (h.setCell (p := ⟨k, i, none⟩) hk u).setCell (p := ⟨k, j, none⟩) hk v
theorem below_new3 (w : World) (a b c : Obj) : Below w.heap.size w (((w.alloc a).alloc b).alloc c) :=
  (((Below.refl _ _).alloc (Nat.le_refl _) a).alloc (by simp) b).alloc (by simp; omega) c
theorem below_new2 (w : World) (a b : Obj) : Below w.heap.size w ((w.alloc a).alloc b) :=
  ((Below.refl _ _).alloc (Nat.le_refl _) a).alloc (by simp) b
theorem size_new3 {w : World} {a b c : Obj} {n : Nat} (h : (((w.alloc a).alloc b).alloc c).heap.size ≤ n) : w.heap.size < n ∧ w.heap.size + 1 < n ∧ w.heap.size + 1 + 1 < n := by
  simp at h
  omega
theorem size_new2 {w : World} {a b : Obj} {n : Nat} (h : ((w.alloc a).alloc b).heap.size ≤ n) : w.heap.size < n ∧ w.heap.size + 1 < n := by
  simp at h
  omega

theorem iadd_any (a b c d : Int) (w : World) : Calls Try.prog 60 #[.agg #[.int .i64 a, .int .i64 b], .agg #[.int .i64 c, .int .i64 d]] w fun e w' => e = .returned (.tuple #[.agg #[.int .i64 (Pl.add a b c d).1, .int .i64 (Pl.add a b c d).2.1], .bool (Pl.add a b c d).2.2]) ∧ Below w.heap.size w w' := by
  cases h1 : Pl.valid a b
  · have e : Pl.add a b c d = (0, 0, false) := by simp [Pl.add, h1]
    rw [e]
    clear e
    go_enter Try.func60, Try.ntmps60
    go_wp2_with fail
    refine (ivalid_any _ _ _).mono ?_
    rintro e w1 ⟨rfl, hb1⟩
    obtain ⟨hc1, hf1⟩ := bcell hb1
    obtain ⟨z1, z2, z3⟩ := size_new3 hb1.size
    go_wp2
    refine bodyPost_ret (v := .tuple #[.agg #[.int .i64 0, .int .i64 0], .bool false]) (by simp [results, Try.results60, go_sem, hc1]) rfl ⟨rfl, ?_⟩
    exact below_set2' ((below_new3 _ _ _ _).trans (hb1.mono (by simp; omega))) (by omega)
  · cases h2 : Pl.valid c d
    · have e : Pl.add a b c d = (0, 0, false) := by simp [Pl.add, h2]
      rw [e]
      clear e
      go_enter Try.func60, Try.ntmps60
      go_wp2_with fail
      refine (ivalid_any _ _ _).mono ?_
      rintro e w1 ⟨rfl, hb1⟩
      obtain ⟨hc1, hf1⟩ := bcell hb1
      obtain ⟨z1, z2, z3⟩ := size_new3 hb1.size
      go_wp2_with fail
      refine (ivalid_any _ _ _).mono ?_
      rintro e w2 ⟨rfl, hb2⟩
      obtain ⟨hc2, hf2⟩ := bcell hb2
      have y3 := Nat.lt_of_lt_of_le z3 hb2.size
      go_wp2
      refine bodyPost_ret (v := .tuple #[.agg #[.int .i64 0, .int .i64 0], .bool false]) (by simp [results, Try.results60, go_sem, hc2, hc1, z3]) rfl ⟨rfl, ?_⟩
      exact below_set2' (((below_new3 _ _ _ _).trans (hb1.mono (by simp; omega))).trans (hb2.mono (by omega))) (by omega)
    · have e : Pl.add a b c d = Pl.rat (a * d + c * b) (b * d) := by simp [Pl.add, h1, h2]
      rw [e]
      clear e
      obtain ⟨b1, b2, b3, b4⟩ := Pl.valid_bounds h1
      obtain ⟨d1, d2, d3, d4⟩ := Pl.valid_bounds h2
      have m1 := Pl.mul_le (a) (d) 1000000000 1000000000 (by omega) (by omega) (by omega) (by omega)
      rw [show (1000000000 * 1000000000 : Int) = 1000000000000000000 from rfl] at m1
      obtain ⟨m1a, m1b⟩ := m1
      have m2 := Pl.mul_le (c) (b) 1000000000 1000000000 (by omega) (by omega) (by omega) (by omega)
      rw [show (1000000000 * 1000000000 : Int) = 1000000000000000000 from rfl] at m2
      obtain ⟨m2a, m2b⟩ := m2
      have m3 := Pl.mul_le (b) (d) 1000000000 1000000000 (by omega) (by omega) (by omega) (by omega)
      rw [show (1000000000 * 1000000000 : Int) = 1000000000000000000 from rfl] at m3
      obtain ⟨m3a, m3b⟩ := m3
      go_enter Try.func60, Try.ntmps60
      go_wp2_with fail
      refine (ivalid_any _ _ _).mono ?_
      rintro e w1 ⟨rfl, hb1⟩
      obtain ⟨hc1, hf1⟩ := bcell hb1
      obtain ⟨z1, z2, z3⟩ := size_new3 hb1.size
      go_wp2_with fail
      refine (ivalid_any _ _ _).mono ?_
      rintro e w2 ⟨rfl, hb2⟩
      obtain ⟨hc2, hf2⟩ := bcell hb2
      have y1 := Nat.lt_of_lt_of_le z1 hb2.size
      have y2 := Nat.lt_of_lt_of_le z2 hb2.size
      have y3 := Nat.lt_of_lt_of_le z3 hb2.size
      go_wp2_with fail
      refine (iratOf_any _ _ _).mono ?_
      rintro e w3 ⟨rfl, hb3⟩
      obtain ⟨hc3, hf3⟩ := bcell hb3
      have x3 := Nat.lt_of_lt_of_le y3 hb3.size
      go_wp2
      refine bodyPost_ret (v := .tuple #[.agg #[.int .i64 (Pl.rat (a * d + c * b) (b * d)).1, .int .i64 (Pl.rat (a * d + c * b) (b * d)).2.1], .bool (Pl.rat (a * d + c * b) (b * d)).2.2]) (by simp [results, Try.results60, go_sem, hc3, hc2, hc1, z3, y3]) rfl ⟨rfl, ?_⟩
      exact below_set2' ((((below_new3 _ _ _ _).trans (hb1.mono (by simp; omega))).trans (hb2.mono (by omega))).trans (hb3.mono (by omega))) (by omega)

theorem imul_any (a b c d : Int) (w : World) : Calls Try.prog 59 #[.agg #[.int .i64 a, .int .i64 b], .agg #[.int .i64 c, .int .i64 d]] w fun e w' => e = .returned (.tuple #[.agg #[.int .i64 (Pl.mul a b c d).1, .int .i64 (Pl.mul a b c d).2.1], .bool (Pl.mul a b c d).2.2]) ∧ Below w.heap.size w w' := by
  cases h1 : Pl.valid a b
  · have e : Pl.mul a b c d = (0, 0, false) := by simp [Pl.mul, h1]
    rw [e]
    clear e
    go_enter Try.func59, Try.ntmps59
    go_wp2_with fail
    refine (ivalid_any _ _ _).mono ?_
    rintro e w1 ⟨rfl, hb1⟩
    obtain ⟨hc1, hf1⟩ := bcell hb1
    obtain ⟨z1, z2, z3⟩ := size_new3 hb1.size
    go_wp2
    refine bodyPost_ret (v := .tuple #[.agg #[.int .i64 0, .int .i64 0], .bool false]) (by simp [results, Try.results59, go_sem, hc1]) rfl ⟨rfl, ?_⟩
    exact below_set2' ((below_new3 _ _ _ _).trans (hb1.mono (by simp; omega))) (by omega)
  · cases h2 : Pl.valid c d
    · have e : Pl.mul a b c d = (0, 0, false) := by simp [Pl.mul, h2]
      rw [e]
      clear e
      go_enter Try.func59, Try.ntmps59
      go_wp2_with fail
      refine (ivalid_any _ _ _).mono ?_
      rintro e w1 ⟨rfl, hb1⟩
      obtain ⟨hc1, hf1⟩ := bcell hb1
      obtain ⟨z1, z2, z3⟩ := size_new3 hb1.size
      go_wp2_with fail
      refine (ivalid_any _ _ _).mono ?_
      rintro e w2 ⟨rfl, hb2⟩
      obtain ⟨hc2, hf2⟩ := bcell hb2
      have y3 := Nat.lt_of_lt_of_le z3 hb2.size
      go_wp2
      refine bodyPost_ret (v := .tuple #[.agg #[.int .i64 0, .int .i64 0], .bool false]) (by simp [results, Try.results59, go_sem, hc2, hc1, z3]) rfl ⟨rfl, ?_⟩
      exact below_set2' (((below_new3 _ _ _ _).trans (hb1.mono (by simp; omega))).trans (hb2.mono (by omega))) (by omega)
    · have e : Pl.mul a b c d = Pl.rat (a * c) (b * d) := by simp [Pl.mul, h1, h2]
      rw [e]
      clear e
      obtain ⟨b1, b2, b3, b4⟩ := Pl.valid_bounds h1
      obtain ⟨d1, d2, d3, d4⟩ := Pl.valid_bounds h2
      have m1 := Pl.mul_le (a) (c) 1000000000 1000000000 (by omega) (by omega) (by omega) (by omega)
      rw [show (1000000000 * 1000000000 : Int) = 1000000000000000000 from rfl] at m1
      obtain ⟨m1a, m1b⟩ := m1
      have m3 := Pl.mul_le (b) (d) 1000000000 1000000000 (by omega) (by omega) (by omega) (by omega)
      rw [show (1000000000 * 1000000000 : Int) = 1000000000000000000 from rfl] at m3
      obtain ⟨m3a, m3b⟩ := m3
      go_enter Try.func59, Try.ntmps59
      go_wp2_with fail
      refine (ivalid_any _ _ _).mono ?_
      rintro e w1 ⟨rfl, hb1⟩
      obtain ⟨hc1, hf1⟩ := bcell hb1
      obtain ⟨z1, z2, z3⟩ := size_new3 hb1.size
      go_wp2_with fail
      refine (ivalid_any _ _ _).mono ?_
      rintro e w2 ⟨rfl, hb2⟩
      obtain ⟨hc2, hf2⟩ := bcell hb2
      have y1 := Nat.lt_of_lt_of_le z1 hb2.size
      have y2 := Nat.lt_of_lt_of_le z2 hb2.size
      have y3 := Nat.lt_of_lt_of_le z3 hb2.size
      go_wp2_with fail
      refine (iratOf_any _ _ _).mono ?_
      rintro e w3 ⟨rfl, hb3⟩
      obtain ⟨hc3, hf3⟩ := bcell hb3
      have x3 := Nat.lt_of_lt_of_le y3 hb3.size
      go_wp2
      refine bodyPost_ret (v := .tuple #[.agg #[.int .i64 (Pl.rat (a * c) (b * d)).1, .int .i64 (Pl.rat (a * c) (b * d)).2.1], .bool (Pl.rat (a * c) (b * d)).2.2]) (by simp [results, Try.results59, go_sem, hc3, hc2, hc1, z3, y3]) rfl ⟨rfl, ?_⟩
      exact below_set2' ((((below_new3 _ _ _ _).trans (hb1.mono (by simp; omega))).trans (hb2.mono (by omega))).trans (hb3.mono (by omega))) (by omega)

theorem sadd_any (a b c d : Int) (w : World) : Calls Try.prog 58 #[.agg #[.int .i64 a, .int .i64 b], .agg #[.int .i64 c, .int .i64 d]] w fun e w' => e = .returned (.tuple #[.agg #[.int .i64 (Pl.add a b c d).1, .int .i64 (Pl.add a b c d).2.1], .bool (Pl.add a b c d).2.2]) ∧ Below w.heap.size w w' := by
  cases h1 : Pl.valid a b
  · have e : Pl.add a b c d = (0, 0, false) := by simp [Pl.add, h1]
    rw [e]
    clear e
    go_enter Try.func58, Try.ntmps58
    go_wp2_with fail
    refine (svalid_any _ _ _).mono ?_
    rintro e w1 ⟨rfl, hb1⟩
    obtain ⟨hc1, hf1⟩ := bcell hb1
    obtain ⟨z1, z2, z3⟩ := size_new3 hb1.size
    go_wp2
    refine bodyPost_ret (v := .tuple #[.agg #[.int .i64 0, .int .i64 0], .bool false]) (by simp [results, Try.results58, go_sem, hc1]) rfl ⟨rfl, ?_⟩
    exact below_set2' ((below_new3 _ _ _ _).trans (hb1.mono (by simp; omega))) (by omega)
  · cases h2 : Pl.valid c d
    · have e : Pl.add a b c d = (0, 0, false) := by simp [Pl.add, h2]
      rw [e]
      clear e
      go_enter Try.func58, Try.ntmps58
      go_wp2_with fail
      refine (svalid_any _ _ _).mono ?_
      rintro e w1 ⟨rfl, hb1⟩
      obtain ⟨hc1, hf1⟩ := bcell hb1
      obtain ⟨z1, z2, z3⟩ := size_new3 hb1.size
      go_wp2_with fail
      refine (svalid_any _ _ _).mono ?_
      rintro e w2 ⟨rfl, hb2⟩
      obtain ⟨hc2, hf2⟩ := bcell hb2
      have y3 := Nat.lt_of_lt_of_le z3 hb2.size
      go_wp2
      refine bodyPost_ret (v := .tuple #[.agg #[.int .i64 0, .int .i64 0], .bool false]) (by simp [results, Try.results58, go_sem, hc2, hc1, z3]) rfl ⟨rfl, ?_⟩
      exact below_set2' (((below_new3 _ _ _ _).trans (hb1.mono (by simp; omega))).trans (hb2.mono (by omega))) (by omega)
    · have e : Pl.add a b c d = Pl.rat (a * d + c * b) (b * d) := by simp [Pl.add, h1, h2]
      rw [e]
      clear e
      obtain ⟨b1, b2, b3, b4⟩ := Pl.valid_bounds h1
      obtain ⟨d1, d2, d3, d4⟩ := Pl.valid_bounds h2
      have m1 := Pl.mul_le (a) (d) 1000000000 1000000000 (by omega) (by omega) (by omega) (by omega)
      rw [show (1000000000 * 1000000000 : Int) = 1000000000000000000 from rfl] at m1
      obtain ⟨m1a, m1b⟩ := m1
      have m2 := Pl.mul_le (c) (b) 1000000000 1000000000 (by omega) (by omega) (by omega) (by omega)
      rw [show (1000000000 * 1000000000 : Int) = 1000000000000000000 from rfl] at m2
      obtain ⟨m2a, m2b⟩ := m2
      have m3 := Pl.mul_le (b) (d) 1000000000 1000000000 (by omega) (by omega) (by omega) (by omega)
      rw [show (1000000000 * 1000000000 : Int) = 1000000000000000000 from rfl] at m3
      obtain ⟨m3a, m3b⟩ := m3
      go_enter Try.func58, Try.ntmps58
      go_wp2_with fail
      refine (svalid_any _ _ _).mono ?_
      rintro e w1 ⟨rfl, hb1⟩
      obtain ⟨hc1, hf1⟩ := bcell hb1
      obtain ⟨z1, z2, z3⟩ := size_new3 hb1.size
      go_wp2_with fail
      refine (svalid_any _ _ _).mono ?_
      rintro e w2 ⟨rfl, hb2⟩
      obtain ⟨hc2, hf2⟩ := bcell hb2
      have y1 := Nat.lt_of_lt_of_le z1 hb2.size
      have y2 := Nat.lt_of_lt_of_le z2 hb2.size
      have y3 := Nat.lt_of_lt_of_le z3 hb2.size
      go_wp2_with fail
      refine (sratOf_any _ _ _).mono ?_
      rintro e w3 ⟨rfl, hb3⟩
      obtain ⟨hc3, hf3⟩ := bcell hb3
      have x3 := Nat.lt_of_lt_of_le y3 hb3.size
      go_wp2
      refine bodyPost_ret (v := .tuple #[.agg #[.int .i64 (Pl.rat (a * d + c * b) (b * d)).1, .int .i64 (Pl.rat (a * d + c * b) (b * d)).2.1], .bool (Pl.rat (a * d + c * b) (b * d)).2.2]) (by simp [results, Try.results58, go_sem, hc3, hc2, hc1, z3, y3]) rfl ⟨rfl, ?_⟩
      exact below_set2' ((((below_new3 _ _ _ _).trans (hb1.mono (by simp; omega))).trans (hb2.mono (by omega))).trans (hb3.mono (by omega))) (by omega)

theorem smul_any (a b c d : Int) (w : World) : Calls Try.prog 57 #[.agg #[.int .i64 a, .int .i64 b], .agg #[.int .i64 c, .int .i64 d]] w fun e w' => e = .returned (.tuple #[.agg #[.int .i64 (Pl.mul a b c d).1, .int .i64 (Pl.mul a b c d).2.1], .bool (Pl.mul a b c d).2.2]) ∧ Below w.heap.size w w' := by
  cases h1 : Pl.valid a b
  · have e : Pl.mul a b c d = (0, 0, false) := by simp [Pl.mul, h1]
    rw [e]
    clear e
    go_enter Try.func57, Try.ntmps57
    go_wp2_with fail
    refine (svalid_any _ _ _).mono ?_
    rintro e w1 ⟨rfl, hb1⟩
    obtain ⟨hc1, hf1⟩ := bcell hb1
    obtain ⟨z1, z2, z3⟩ := size_new3 hb1.size
    go_wp2
    refine bodyPost_ret (v := .tuple #[.agg #[.int .i64 0, .int .i64 0], .bool false]) (by simp [results, Try.results57, go_sem, hc1]) rfl ⟨rfl, ?_⟩
    exact below_set2' ((below_new3 _ _ _ _).trans (hb1.mono (by simp; omega))) (by omega)
  · cases h2 : Pl.valid c d
    · have e : Pl.mul a b c d = (0, 0, false) := by simp [Pl.mul, h2]
      rw [e]
      clear e
      go_enter Try.func57, Try.ntmps57
      go_wp2_with fail
      refine (svalid_any _ _ _).mono ?_
      rintro e w1 ⟨rfl, hb1⟩
      obtain ⟨hc1, hf1⟩ := bcell hb1
      obtain ⟨z1, z2, z3⟩ := size_new3 hb1.size
      go_wp2_with fail
      refine (svalid_any _ _ _).mono ?_
      rintro e w2 ⟨rfl, hb2⟩
      obtain ⟨hc2, hf2⟩ := bcell hb2
      have y3 := Nat.lt_of_lt_of_le z3 hb2.size
      go_wp2
      refine bodyPost_ret (v := .tuple #[.agg #[.int .i64 0, .int .i64 0], .bool false]) (by simp [results, Try.results57, go_sem, hc2, hc1, z3]) rfl ⟨rfl, ?_⟩
      exact below_set2' (((below_new3 _ _ _ _).trans (hb1.mono (by simp; omega))).trans (hb2.mono (by omega))) (by omega)
    · have e : Pl.mul a b c d = Pl.rat (a * c) (b * d) := by simp [Pl.mul, h1, h2]
      rw [e]
      clear e
      obtain ⟨b1, b2, b3, b4⟩ := Pl.valid_bounds h1
      obtain ⟨d1, d2, d3, d4⟩ := Pl.valid_bounds h2
      have m1 := Pl.mul_le (a) (c) 1000000000 1000000000 (by omega) (by omega) (by omega) (by omega)
      rw [show (1000000000 * 1000000000 : Int) = 1000000000000000000 from rfl] at m1
      obtain ⟨m1a, m1b⟩ := m1
      have m3 := Pl.mul_le (b) (d) 1000000000 1000000000 (by omega) (by omega) (by omega) (by omega)
      rw [show (1000000000 * 1000000000 : Int) = 1000000000000000000 from rfl] at m3
      obtain ⟨m3a, m3b⟩ := m3
      go_enter Try.func57, Try.ntmps57
      go_wp2_with fail
      refine (svalid_any _ _ _).mono ?_
      rintro e w1 ⟨rfl, hb1⟩
      obtain ⟨hc1, hf1⟩ := bcell hb1
      obtain ⟨z1, z2, z3⟩ := size_new3 hb1.size
      go_wp2_with fail
      refine (svalid_any _ _ _).mono ?_
      rintro e w2 ⟨rfl, hb2⟩
      obtain ⟨hc2, hf2⟩ := bcell hb2
      have y1 := Nat.lt_of_lt_of_le z1 hb2.size
      have y2 := Nat.lt_of_lt_of_le z2 hb2.size
      have y3 := Nat.lt_of_lt_of_le z3 hb2.size
      go_wp2_with fail
      refine (sratOf_any _ _ _).mono ?_
      rintro e w3 ⟨rfl, hb3⟩
      obtain ⟨hc3, hf3⟩ := bcell hb3
      have x3 := Nat.lt_of_lt_of_le y3 hb3.size
      go_wp2
      refine bodyPost_ret (v := .tuple #[.agg #[.int .i64 (Pl.rat (a * c) (b * d)).1, .int .i64 (Pl.rat (a * c) (b * d)).2.1], .bool (Pl.rat (a * c) (b * d)).2.2]) (by simp [results, Try.results57, go_sem, hc3, hc2, hc1, z3, y3]) rfl ⟨rfl, ?_⟩
      exact below_set2' ((((below_new3 _ _ _ _).trans (hb1.mono (by simp; omega))).trans (hb2.mono (by omega))).trans (hb3.mono (by omega))) (by omega)

end Go.Proofs.Ytkhgolblendckaa
