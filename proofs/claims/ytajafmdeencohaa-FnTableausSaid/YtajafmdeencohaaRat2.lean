/-
  Contracts of RatOf, AddRat, SubRat, MulRat, DivRat (of the program and of the reference) and of the law's eqRat.
-/
import Derived.Test.YtajafmdeencohaaRat
import Derived.Test.YtajafmdeencohaaRat2Plain
import Derived.RegionTactic
import Derived.ChangeAlike
import Derived.BigRegion
namespace Go.Proofs.Ytajafmdeencohaa
open Go.RowKit

theorem eqRat_any (a b c d : Int) (w : World) : Calls Try.prog 55 #[.agg #[.int .i64 a, .int .i64 b], .agg #[.int .i64 c, .int .i64 d]] w fun e w' => e = .returned (.bool (a == c && b == d)) ∧ Below w.heap.size w w' := by
  cases h1 : (a == c) <;> cases h2 : (b == d)
  all_goals
    have h3 : (a != c) = !(a == c) := rfl
    have h4 : (b != d) = !(b == d) := rfl
    rw [h1] at h3
    rw [h2] at h4
    go_enter Try.func55, Try.ntmps55
    go_wp2
    go_ret
    exact ⟨rfl, ((Below.refl _ _).alloc (Nat.le_refl _) _).alloc (by simp) _⟩

theorem iratOf_in (n d : Int) (w : World) (h0 : d ≠ 0) (h1 : -1000000000000000000 ≤ n) (h2 : n ≤ 1000000000000000000) (h3 : -1000000000000000000 ≤ d) (h4 : d ≤ 1000000000000000000) :
    Calls Try.prog 107 #[.int .i64 n, .int .i64 d] w fun e w' => e = .returned (.tuple #[.agg #[.int .i64 (Pl.rat n d).1, .int .i64 (Pl.rat n d).2.1], .bool (Pl.rat n d).2.2]) ∧ Below w.heap.size w w' := by
  have g1 := Pl.sg_pos (n := n) h0
  have g2 := Pl.gcd_le (n := n) h0 h3 h4
  have es : Pl.sg n d = if d < 0 then -((Int.gcd n d : Nat) : Int) else ((Int.gcd n d : Nat) : Int) := rfl
  have c := fun W => common_any n d W h1 h2 h3 h4
  obtain ⟨g, hg⟩ : ∃ g : Nat, g = Int.gcd n d := ⟨_, rfl⟩
  rw [← hg] at g1 g2 c es
  have C := Lib.hid c
  clear c
  have b1 := Pl.tdiv_le n (g : Int) _ h1 h2
  have b2 := Pl.tdiv_le d (g : Int) _ h3 h4
  obtain ⟨p, hp⟩ : ∃ p : Int, n.tdiv (g : Int) = p := ⟨_, rfl⟩
  obtain ⟨q, hq⟩ : ∃ q : Int, d.tdiv (g : Int) = q := ⟨_, rfl⟩
  rw [hp] at b1
  rw [hq] at b2
  obtain ⟨b1a, b1b⟩ := b1
  obtain ⟨b2a, b2b⟩ := b2
  have e0 : (d == 0) = false := by simpa using h0
  have e1 := decide_eq_true h1
  have e2 := decide_eq_true h2
  have e3 := decide_eq_true h3
  have e4 := decide_eq_true h4
  clear hg
  by_cases hs : d < 0
  · rw [if_pos hs] at es
    have r0 := Pl.rat_bad (n := n) (d := d)
    have r1 := Pl.rat_good (n := n) (d := d) h0 (Pl.within_yes h1 h2) (Pl.within_yes h3 h4)
    rw [es, Int.tdiv_neg, Int.tdiv_neg, hp, hq] at r0 r1
    have hd := decide_eq_true hs
    clear es
    cases hv : Pl.valid (-p) (-q)
    · rw [r0 hv]
      clear r0 r1
      go_enter Try.func107, Try.ntmps107
      go_wp2_with (first | (go_at_call 116; refine (C.out _).mono ?_; rintro e w1 ⟨rfl, hb1⟩; obtain ⟨hc1, hf1⟩ := bcell hb1; have hz1 : w.heap.size < w1.heap.size := Nat.lt_of_lt_of_le (by simp) hb1.size; have hy1 : w.heap.size < w1.heap.size + 1 := Nat.lt_succ_of_lt hz1; have hx1 : ¬ w.heap.size = w1.heap.size := Nat.ne_of_lt hz1) | go_in)
      go_region
      go_wp2_with (go_at_call 100; refine (ivalid_any _ _ _).mono ?_; rintro e w2 ⟨rfl, hb2⟩; obtain ⟨hc2, hf2⟩ := bcell hb2; have hz2 : w.heap.size < w2.heap.size := Nat.lt_of_lt_of_le (by first | omega | (simp; done) | (simp; omega)) hb2.size)
      refine bodyPost_ret (v := .tuple #[.agg #[.int .i64 0, .int .i64 0], .bool false]) (by simp [results, Try.results107, go_sem, hc2, hc1, hy1, hz1]) rfl ⟨rfl, ?_⟩
      refine below_set2 (Below.trans ?_ (hb2.mono ?_))
      · repeat (first | exact ((Below.refl _ _).alloc (Nat.le_refl _) _).trans (hb1.mono (by simp)) | refine Below.drew ?_ | refine Below.alloc ?_ (Nat.le_of_lt (by first | omega | (simp; done) | (simp; omega))) _)
      · first | omega | (simp; done) | (simp; omega)
    · rw [r1 hv]
      clear r0 r1
      go_enter Try.func107, Try.ntmps107
      go_wp2_with (first | (go_at_call 116; refine (C.out _).mono ?_; rintro e w1 ⟨rfl, hb1⟩; obtain ⟨hc1, hf1⟩ := bcell hb1; have hz1 : w.heap.size < w1.heap.size := Nat.lt_of_lt_of_le (by simp) hb1.size; have hy1 : w.heap.size < w1.heap.size + 1 := Nat.lt_succ_of_lt hz1; have hx1 : ¬ w.heap.size = w1.heap.size := Nat.ne_of_lt hz1) | go_in)
      go_region
      go_wp2_with (go_at_call 100; refine (ivalid_any _ _ _).mono ?_; rintro e w2 ⟨rfl, hb2⟩; obtain ⟨hc2, hf2⟩ := bcell hb2; have hz2 : w.heap.size < w2.heap.size := Nat.lt_of_lt_of_le (by first | omega | (simp; done) | (simp; omega)) hb2.size)
      refine bodyPost_ret (v := .tuple #[.agg #[.int .i64 (-p), .int .i64 (-q)], .bool true]) (by simp [results, Try.results107, go_sem, hc2, hc1, hy1, hz1]) rfl ⟨rfl, ?_⟩
      refine below_set2 (Below.trans ?_ (hb2.mono ?_))
      · repeat (first | exact ((Below.refl _ _).alloc (Nat.le_refl _) _).trans (hb1.mono (by simp)) | refine Below.drew ?_ | refine Below.alloc ?_ (Nat.le_of_lt (by first | omega | (simp; done) | (simp; omega))) _)
      · first | omega | (simp; done) | (simp; omega)
  · rw [if_neg hs] at es
    have r0 := Pl.rat_bad (n := n) (d := d)
    have r1 := Pl.rat_good (n := n) (d := d) h0 (Pl.within_yes h1 h2) (Pl.within_yes h3 h4)
    rw [es, hp, hq] at r0 r1
    have hd := decide_eq_false hs
    clear es
    cases hv : Pl.valid p q
    · rw [r0 hv]
      clear r0 r1
      go_enter Try.func107, Try.ntmps107
      go_wp2_with (first | (go_at_call 116; refine (C.out _).mono ?_; rintro e w1 ⟨rfl, hb1⟩; obtain ⟨hc1, hf1⟩ := bcell hb1; have hz1 : w.heap.size < w1.heap.size := Nat.lt_of_lt_of_le (by simp) hb1.size; have hy1 : w.heap.size < w1.heap.size + 1 := Nat.lt_succ_of_lt hz1; have hx1 : ¬ w.heap.size = w1.heap.size := Nat.ne_of_lt hz1) | go_in)
      go_region
      go_wp2_with (go_at_call 100; refine (ivalid_any _ _ _).mono ?_; rintro e w2 ⟨rfl, hb2⟩; obtain ⟨hc2, hf2⟩ := bcell hb2; have hz2 : w.heap.size < w2.heap.size := Nat.lt_of_lt_of_le (by first | omega | (simp; done) | (simp; omega)) hb2.size)
      refine bodyPost_ret (v := .tuple #[.agg #[.int .i64 0, .int .i64 0], .bool false]) (by simp [results, Try.results107, go_sem, hc2, hc1, hy1, hz1]) rfl ⟨rfl, ?_⟩
      refine below_set2 (Below.trans ?_ (hb2.mono ?_))
      · repeat (first | exact ((Below.refl _ _).alloc (Nat.le_refl _) _).trans (hb1.mono (by simp)) | refine Below.drew ?_ | refine Below.alloc ?_ (Nat.le_of_lt (by first | omega | (simp; done) | (simp; omega))) _)
      · first | omega | (simp; done) | (simp; omega)
    · rw [r1 hv]
      clear r0 r1
      go_enter Try.func107, Try.ntmps107
      go_wp2_with (first | (go_at_call 116; refine (C.out _).mono ?_; rintro e w1 ⟨rfl, hb1⟩; obtain ⟨hc1, hf1⟩ := bcell hb1; have hz1 : w.heap.size < w1.heap.size := Nat.lt_of_lt_of_le (by simp) hb1.size; have hy1 : w.heap.size < w1.heap.size + 1 := Nat.lt_succ_of_lt hz1; have hx1 : ¬ w.heap.size = w1.heap.size := Nat.ne_of_lt hz1) | go_in)
      go_region
      go_wp2_with (go_at_call 100; refine (ivalid_any _ _ _).mono ?_; rintro e w2 ⟨rfl, hb2⟩; obtain ⟨hc2, hf2⟩ := bcell hb2; have hz2 : w.heap.size < w2.heap.size := Nat.lt_of_lt_of_le (by first | omega | (simp; done) | (simp; omega)) hb2.size)
      refine bodyPost_ret (v := .tuple #[.agg #[.int .i64 p, .int .i64 q], .bool true]) (by simp [results, Try.results107, go_sem, hc2, hc1, hy1, hz1]) rfl ⟨rfl, ?_⟩
      refine below_set2 (Below.trans ?_ (hb2.mono ?_))
      · repeat (first | exact ((Below.refl _ _).alloc (Nat.le_refl _) _).trans (hb1.mono (by simp)) | refine Below.drew ?_ | refine Below.alloc ?_ (Nat.le_of_lt (by first | omega | (simp; done) | (simp; omega))) _)
      · first | omega | (simp; done) | (simp; omega)

theorem sratOf_in (n d : Int) (w : World) (h0 : d ≠ 0) (h1 : -1000000000000000000 ≤ n) (h2 : n ≤ 1000000000000000000) (h3 : -1000000000000000000 ≤ d) (h4 : d ≤ 1000000000000000000) :
    Calls Try.prog 114 #[.int .i64 n, .int .i64 d] w fun e w' => e = .returned (.tuple #[.agg #[.int .i64 (Pl.rat n d).1, .int .i64 (Pl.rat n d).2.1], .bool (Pl.rat n d).2.2]) ∧ Below w.heap.size w w' := by
  have g1 := Pl.sg_pos (n := n) h0
  have g2 := Pl.gcd_le (n := n) h0 h3 h4
  have es : Pl.sg n d = if d < 0 then -((Int.gcd n d : Nat) : Int) else ((Int.gcd n d : Nat) : Int) := rfl
  have c := fun W => gcd_any n d W h1 h2 h3 h4
  have c' := fun W => gcd_any (-n) (-d) W (by omega) (by omega) (by omega) (by omega)
  rw [show Int.gcd (-n) (-d) = Int.gcd n d from by simp [Int.gcd]] at c'
  obtain ⟨g, hg⟩ : ∃ g : Nat, g = Int.gcd n d := ⟨_, rfl⟩
  rw [← hg] at g1 g2 c c' es
  have C' := Lib.hid c'
  clear c'
  have C := Lib.hid c
  clear c
  have b1 := Pl.tdiv_le n (g : Int) _ h1 h2
  have b2 := Pl.tdiv_le d (g : Int) _ h3 h4
  obtain ⟨p, hp⟩ : ∃ p : Int, n.tdiv (g : Int) = p := ⟨_, rfl⟩
  obtain ⟨q, hq⟩ : ∃ q : Int, d.tdiv (g : Int) = q := ⟨_, rfl⟩
  rw [hp] at b1
  rw [hq] at b2
  obtain ⟨b1a, b1b⟩ := b1
  obtain ⟨b2a, b2b⟩ := b2
  have e0 : (d == 0) = false := by simpa using h0
  have e1 := decide_eq_true h1
  have e2 := decide_eq_true h2
  have e3 := decide_eq_true h3
  have e4 := decide_eq_true h4
  clear hg
  by_cases hs : d < 0
  · rw [if_pos hs] at es
    have r0 := Pl.rat_bad (n := n) (d := d)
    have r1 := Pl.rat_good (n := n) (d := d) h0 (Pl.within_yes h1 h2) (Pl.within_yes h3 h4)
    rw [es, Int.tdiv_neg, Int.tdiv_neg, hp, hq] at r0 r1
    have hd := decide_eq_true hs
    clear es
    cases hv : Pl.valid (-p) (-q)
    · rw [r0 hv]
      clear r0 r1
      go_enter Try.func114, Try.ntmps114
      go_wp2_with (first | (go_at_call 113; refine (C'.out _).mono ?_; rintro e w1 ⟨rfl, hb1⟩; obtain ⟨hc1, hf1⟩ := bcell hb1; have hz1 : w.heap.size < w1.heap.size := Nat.lt_of_lt_of_le (by simp) hb1.size; have hy1 : w.heap.size < w1.heap.size + 1 := Nat.lt_succ_of_lt hz1; have hx1 : ¬ w.heap.size = w1.heap.size := Nat.ne_of_lt hz1) | go_in)
      go_region
      go_wp2_with (go_at_call 95; refine (svalid_any _ _ _).mono ?_; rintro e w2 ⟨rfl, hb2⟩; obtain ⟨hc2, hf2⟩ := bcell hb2; have hz2 : w.heap.size < w2.heap.size := Nat.lt_of_lt_of_le (by first | omega | (simp; done) | (simp; omega)) hb2.size)
      refine bodyPost_ret (v := .tuple #[.agg #[.int .i64 0, .int .i64 0], .bool false]) (by simp [results, Try.results114, go_sem, hc2, hc1, hy1, hz1]) rfl ⟨rfl, ?_⟩
      refine below_set2 (Below.trans ?_ (hb2.mono ?_))
      · repeat (first | exact ((Below.refl _ _).alloc (Nat.le_refl _) _).trans (hb1.mono (by simp)) | refine Below.drew ?_ | refine Below.alloc ?_ (Nat.le_of_lt (by first | omega | (simp; done) | (simp; omega))) _)
      · first | omega | (simp; done) | (simp; omega)
    · rw [r1 hv]
      clear r0 r1
      go_enter Try.func114, Try.ntmps114
      go_wp2_with (first | (go_at_call 113; refine (C'.out _).mono ?_; rintro e w1 ⟨rfl, hb1⟩; obtain ⟨hc1, hf1⟩ := bcell hb1; have hz1 : w.heap.size < w1.heap.size := Nat.lt_of_lt_of_le (by simp) hb1.size; have hy1 : w.heap.size < w1.heap.size + 1 := Nat.lt_succ_of_lt hz1; have hx1 : ¬ w.heap.size = w1.heap.size := Nat.ne_of_lt hz1) | go_in)
      go_region
      go_wp2_with (go_at_call 95; refine (svalid_any _ _ _).mono ?_; rintro e w2 ⟨rfl, hb2⟩; obtain ⟨hc2, hf2⟩ := bcell hb2; have hz2 : w.heap.size < w2.heap.size := Nat.lt_of_lt_of_le (by first | omega | (simp; done) | (simp; omega)) hb2.size)
      refine bodyPost_ret (v := .tuple #[.agg #[.int .i64 (-p), .int .i64 (-q)], .bool true]) (by simp [results, Try.results114, go_sem, hc2, hc1, hy1, hz1]) rfl ⟨rfl, ?_⟩
      refine below_set2 (Below.trans ?_ (hb2.mono ?_))
      · repeat (first | exact ((Below.refl _ _).alloc (Nat.le_refl _) _).trans (hb1.mono (by simp)) | refine Below.drew ?_ | refine Below.alloc ?_ (Nat.le_of_lt (by first | omega | (simp; done) | (simp; omega))) _)
      · first | omega | (simp; done) | (simp; omega)
  · rw [if_neg hs] at es
    have r0 := Pl.rat_bad (n := n) (d := d)
    have r1 := Pl.rat_good (n := n) (d := d) h0 (Pl.within_yes h1 h2) (Pl.within_yes h3 h4)
    rw [es, hp, hq] at r0 r1
    have hd := decide_eq_false hs
    clear es
    cases hv : Pl.valid p q
    · rw [r0 hv]
      clear r0 r1
      go_enter Try.func114, Try.ntmps114
      go_wp2_with (first | (go_at_call 113; refine (C.out _).mono ?_; rintro e w1 ⟨rfl, hb1⟩; obtain ⟨hc1, hf1⟩ := bcell hb1; have hz1 : w.heap.size < w1.heap.size := Nat.lt_of_lt_of_le (by simp) hb1.size; have hy1 : w.heap.size < w1.heap.size + 1 := Nat.lt_succ_of_lt hz1; have hx1 : ¬ w.heap.size = w1.heap.size := Nat.ne_of_lt hz1) | go_in)
      go_region
      go_wp2_with (go_at_call 95; refine (svalid_any _ _ _).mono ?_; rintro e w2 ⟨rfl, hb2⟩; obtain ⟨hc2, hf2⟩ := bcell hb2; have hz2 : w.heap.size < w2.heap.size := Nat.lt_of_lt_of_le (by first | omega | (simp; done) | (simp; omega)) hb2.size)
      refine bodyPost_ret (v := .tuple #[.agg #[.int .i64 0, .int .i64 0], .bool false]) (by simp [results, Try.results114, go_sem, hc2, hc1, hy1, hz1]) rfl ⟨rfl, ?_⟩
      refine below_set2 (Below.trans ?_ (hb2.mono ?_))
      · repeat (first | exact ((Below.refl _ _).alloc (Nat.le_refl _) _).trans (hb1.mono (by simp)) | refine Below.drew ?_ | refine Below.alloc ?_ (Nat.le_of_lt (by first | omega | (simp; done) | (simp; omega))) _)
      · first | omega | (simp; done) | (simp; omega)
    · rw [r1 hv]
      clear r0 r1
      go_enter Try.func114, Try.ntmps114
      go_wp2_with (first | (go_at_call 113; refine (C.out _).mono ?_; rintro e w1 ⟨rfl, hb1⟩; obtain ⟨hc1, hf1⟩ := bcell hb1; have hz1 : w.heap.size < w1.heap.size := Nat.lt_of_lt_of_le (by simp) hb1.size; have hy1 : w.heap.size < w1.heap.size + 1 := Nat.lt_succ_of_lt hz1; have hx1 : ¬ w.heap.size = w1.heap.size := Nat.ne_of_lt hz1) | go_in)
      go_region
      go_wp2_with (go_at_call 95; refine (svalid_any _ _ _).mono ?_; rintro e w2 ⟨rfl, hb2⟩; obtain ⟨hc2, hf2⟩ := bcell hb2; have hz2 : w.heap.size < w2.heap.size := Nat.lt_of_lt_of_le (by first | omega | (simp; done) | (simp; omega)) hb2.size)
      refine bodyPost_ret (v := .tuple #[.agg #[.int .i64 p, .int .i64 q], .bool true]) (by simp [results, Try.results114, go_sem, hc2, hc1, hy1, hz1]) rfl ⟨rfl, ?_⟩
      refine below_set2 (Below.trans ?_ (hb2.mono ?_))
      · repeat (first | exact ((Below.refl _ _).alloc (Nat.le_refl _) _).trans (hb1.mono (by simp)) | refine Below.drew ?_ | refine Below.alloc ?_ (Nat.le_of_lt (by first | omega | (simp; done) | (simp; omega))) _)
      · first | omega | (simp; done) | (simp; omega)

theorem iratOf_any (n d : Int) (w : World) : Calls Try.prog 107 #[.int .i64 n, .int .i64 d] w fun e w' => e = .returned (.tuple #[.agg #[.int .i64 (Pl.rat n d).1, .int .i64 (Pl.rat n d).2.1], .bool (Pl.rat n d).2.2]) ∧ Below w.heap.size w w' := by
  by_cases h0 : d = 0
  · subst h0
    rw [Pl.rat_zero]
    go_enter Try.func107, Try.ntmps107
    go_wp2
    exact bodyPost_ret (v := .tuple #[.agg #[.int .i64 0, .int .i64 0], .bool false]) (by simp [results, Try.results107, go_sem]) rfl ⟨rfl, (Below.refl _ _).alloc (Nat.le_refl _) _⟩
  have e0 : (d == 0) = false := by simpa using h0
  by_cases h1 : -1000000000000000000 ≤ n
  · have e1 := decide_eq_true h1
    by_cases h2 : n ≤ 1000000000000000000
    · have e2 := decide_eq_true h2
      by_cases h3 : -1000000000000000000 ≤ d
      · have e3 := decide_eq_true h3
        by_cases h4 : d ≤ 1000000000000000000
        · have e4 := decide_eq_true h4
          exact iratOf_in n d w h0 h1 h2 h3 h4
        · have e4 := decide_eq_false h4
          rw [Pl.rat_out (by simp [Pl.within, h4])]
          go_enter Try.func107, Try.ntmps107
          go_wp2
          exact bodyPost_ret (v := .tuple #[.agg #[.int .i64 0, .int .i64 0], .bool false]) (by simp [results, Try.results107, go_sem]) rfl ⟨rfl, (Below.refl _ _).alloc (Nat.le_refl _) _⟩
      · have e3 := decide_eq_false h3
        rw [Pl.rat_out (by simp [Pl.within, h3])]
        go_enter Try.func107, Try.ntmps107
        go_wp2
        exact bodyPost_ret (v := .tuple #[.agg #[.int .i64 0, .int .i64 0], .bool false]) (by simp [results, Try.results107, go_sem]) rfl ⟨rfl, (Below.refl _ _).alloc (Nat.le_refl _) _⟩
    · have e2 := decide_eq_false h2
      rw [Pl.rat_out (by simp [Pl.within, h2])]
      go_enter Try.func107, Try.ntmps107
      go_wp2
      exact bodyPost_ret (v := .tuple #[.agg #[.int .i64 0, .int .i64 0], .bool false]) (by simp [results, Try.results107, go_sem]) rfl ⟨rfl, (Below.refl _ _).alloc (Nat.le_refl _) _⟩
  · have e1 := decide_eq_false h1
    rw [Pl.rat_out (by simp [Pl.within, h1])]
    go_enter Try.func107, Try.ntmps107
    go_wp2
    exact bodyPost_ret (v := .tuple #[.agg #[.int .i64 0, .int .i64 0], .bool false]) (by simp [results, Try.results107, go_sem]) rfl ⟨rfl, (Below.refl _ _).alloc (Nat.le_refl _) _⟩

theorem sratOf_any (n d : Int) (w : World) : Calls Try.prog 114 #[.int .i64 n, .int .i64 d] w fun e w' => e = .returned (.tuple #[.agg #[.int .i64 (Pl.rat n d).1, .int .i64 (Pl.rat n d).2.1], .bool (Pl.rat n d).2.2]) ∧ Below w.heap.size w w' := by
  by_cases h0 : d = 0
  · subst h0
    rw [Pl.rat_zero]
    go_enter Try.func114, Try.ntmps114
    go_wp2
    exact bodyPost_ret (v := .tuple #[.agg #[.int .i64 0, .int .i64 0], .bool false]) (by simp [results, Try.results114, go_sem]) rfl ⟨rfl, (Below.refl _ _).alloc (Nat.le_refl _) _⟩
  have e0 : (d == 0) = false := by simpa using h0
  by_cases h1 : -1000000000000000000 ≤ n
  · have e1 := decide_eq_true h1
    by_cases h2 : n ≤ 1000000000000000000
    · have e2 := decide_eq_true h2
      by_cases h3 : -1000000000000000000 ≤ d
      · have e3 := decide_eq_true h3
        by_cases h4 : d ≤ 1000000000000000000
        · have e4 := decide_eq_true h4
          exact sratOf_in n d w h0 h1 h2 h3 h4
        · have e4 := decide_eq_false h4
          rw [Pl.rat_out (by simp [Pl.within, h4])]
          go_enter Try.func114, Try.ntmps114
          go_wp2
          exact bodyPost_ret (v := .tuple #[.agg #[.int .i64 0, .int .i64 0], .bool false]) (by simp [results, Try.results114, go_sem]) rfl ⟨rfl, (Below.refl _ _).alloc (Nat.le_refl _) _⟩
      · have e3 := decide_eq_false h3
        rw [Pl.rat_out (by simp [Pl.within, h3])]
        go_enter Try.func114, Try.ntmps114
        go_wp2
        exact bodyPost_ret (v := .tuple #[.agg #[.int .i64 0, .int .i64 0], .bool false]) (by simp [results, Try.results114, go_sem]) rfl ⟨rfl, (Below.refl _ _).alloc (Nat.le_refl _) _⟩
    · have e2 := decide_eq_false h2
      rw [Pl.rat_out (by simp [Pl.within, h2])]
      go_enter Try.func114, Try.ntmps114
      go_wp2
      exact bodyPost_ret (v := .tuple #[.agg #[.int .i64 0, .int .i64 0], .bool false]) (by simp [results, Try.results114, go_sem]) rfl ⟨rfl, (Below.refl _ _).alloc (Nat.le_refl _) _⟩
  · have e1 := decide_eq_false h1
    rw [Pl.rat_out (by simp [Pl.within, h1])]
    go_enter Try.func114, Try.ntmps114
    go_wp2
    exact bodyPost_ret (v := .tuple #[.agg #[.int .i64 0, .int .i64 0], .bool false]) (by simp [results, Try.results114, go_sem]) rfl ⟨rfl, (Below.refl _ _).alloc (Nat.le_refl _) _⟩

end Go.Proofs.Ytajafmdeencohaa
