/-
  Contracts of DotRat, of the program and of the reference, and the walk of the law FnExactDotRat.
-/
import Derived.Test.YtkhgolblendckaaVecEq
import Derived.Test.YtkhgolblendckaaMarkRat
import Derived.Test.YtkhgolblendckaaBox
namespace Go.Proofs.Ytkhgolblendckaa
open Go.RowKit
attribute [local go_sem ↓] Go.wp_at_zero Go.wp_at_succ

namespace Pl
def dotTo (V1 V2 : Fr) : Nat → Int × Int × Bool
  | 0 => (0, 1, true)
  | j + 1 =>
    let s := dotTo V1 V2 j
    let m := mul (V1 j).1 (V1 j).2 (V2 j).1 (V2 j).2
    let t := add s.1 s.2.1 m.1 m.2.1
    if s.2.2 && m.2.2 && t.2.2 then (t.1, t.2.1, true) else (0, 0, false)
def dot (n1 : Nat) (V1 : Fr) (n2 : Nat) (V2 : Fr) : Int × Int × Bool := if n1 = n2 then dotTo V1 V2 n1 else (0, 0, false)
theorem dot_len {n1 n2 : Nat} {V1 V2 : Fr} (h : n1 ≠ n2) : dot n1 V1 n2 V2 = (0, 0, false) := by rw [dot, if_neg h]
theorem dot_same {n : Nat} {V1 V2 : Fr} : dot n V1 n V2 = dotTo V1 V2 n := by rw [dot, if_pos rfl]
theorem dotTo_step {V1 V2 : Fr} {j : Nat} {x y a b c d : Int} (h : dotTo V1 V2 j = (x, y, true)) (hm : mul (V1 j).1 (V1 j).2 (V2 j).1 (V2 j).2 = (a, b, true)) (ht : add x y a b = (c, d, true)) : dotTo V1 V2 (j + 1) = (c, d, true) := by
  simp only [dotTo, h, hm, ht]
  rfl
theorem dotTo_stuck {V1 V2 : Fr} {j : Nat} (h : dotTo V1 V2 j = (0, 0, false)) : ∀ n, j ≤ n → dotTo V1 V2 n = (0, 0, false) := by
  intro n hn
  induction n with
  | zero =>
    obtain rfl : j = 0 := by omega
    exact h
  | succ n ih =>
    by_cases e : j = n + 1
    · rw [← e]
      exact h
    · simp only [dotTo, ih (by omega)]
      rfl
theorem dotTo_no {V1 V2 : Fr} {j n : Nat} {x y a b c d : Int} {p q : Bool} (h : dotTo V1 V2 j = (x, y, true)) (hm : mul (V1 j).1 (V1 j).2 (V2 j).1 (V2 j).2 = (a, b, p)) (ht : add x y a b = (c, d, q)) (hpq : (p && q) = false) (hn : j < n) : dotTo V1 V2 n = (0, 0, false) := by
  refine dotTo_stuck (j := j + 1) ?_ n hn
  simp only [dotTo, h, hm, ht, Bool.true_and, hpq]
  rfl
theorem r_rb {a a' b b' : Int} {p p' : Bool} {x : Int × Int × Bool} (h : x = (a', b', p')) (h1 : a = a') (h2 : b = b') (h3 : p = p') :
    Ending.returned (.tuple #[.agg #[.int .i64 a, .int .i64 b], .bool p]) = .returned (.tuple #[.agg #[.int .i64 x.1, .int .i64 x.2.1], .bool x.2.2]) := by rw [h, h1, h2, h3]
end Pl

theorem iDot_any (A1 A2 : Option Addr) (n1 n2 c1 c2 B : Nat) (V1 V2 : Fr) (w : World) (h1 : RdP w B A1 n1 V1) (h2 : RdP w B A2 n2 V2) (hB : B ≤ w.heap.size) (hn1 : n1 ≤ 1099511627776) (hn2 : n2 ≤ 1099511627776) :
    Calls Try.prog 32 #[.slice A1 n1 c1, .slice A2 n2 c2] w fun e w' => e = .returned (.tuple #[.agg #[.int .i64 (Pl.dot n1 V1 n2 V2).1, .int .i64 (Pl.dot n1 V1 n2 V2).2.1], .bool (Pl.dot n1 V1 n2 V2).2.2]) ∧ Below w.heap.size w w' := by
  by_cases hne : n1 = n2
  · subst hne
    rw [Pl.dot_same]
    obtain ⟨n, en⟩ : ∃ n, n = n1 := ⟨_, rfl⟩
    rw [← en] at h1 h2 hn1 ⊢
    clear en hn2
    go_enter Try.func32, Try.ntmps32
    go_wp2_with fail
    refine (whole_any _ _).mono ?_
    rintro e w1 ⟨rfl, hb1⟩
    have x4 : Box w1 w.heap.size 0 0 := by
      refine Box.below (w := w.alloc _) ⟨by simp, by simp, by simp, by simp, by simp⟩ hb1
    have HB1 : Below w.heap.size w w1 := ((Below.refl _ _).alloc (Nat.le_refl _) _).trans (hb1.mono (by simp))
    have hz1 : w.heap.size < w1.heap.size := x4.2.2.2.2
    clear hb1
    go_wp2_with fail
    go_loopw [7, 21] (fun v u wr => ∃ (k : Nat) (x y : Int), k ≤ n ∧ u = .int .i64 k ∧ Hid (Pl.dotTo V1 V2 k = (x, y, true)) ∧ Box wr w1.heap.size x y ∧ Box wr w.heap.size 0 0 ∧ Below w.heap.size w wr) (fun _ u _ => n - (intOf u).toNat)
    case atStart =>
      refine ⟨0, 0, 1, Nat.zero_le _, rfl, Lib.hid rfl, ?_, x4.alloc _, HB1.alloc (by omega) _⟩
      exact ⟨by simp, by simp, by simp, by simp, by simp⟩
    case round =>
      obtain ⟨k, x, y, hk, rfl, hd, x6, x4', hb⟩ := hrel
      by_cases hlt : k < n
      · obtain ⟨b1, o1, rfl, hb1, hc1⟩ := h1 (by omega)
        obtain ⟨b2, o2, rfl, hb2, hc2⟩ := h2 (by omega)
        have hw1 : b1 < wr.heap.size := Nat.lt_of_lt_of_le (Nat.lt_of_lt_of_le hb1 hB) hb.size
        have hw2 : b2 < wr.heap.size := Nat.lt_of_lt_of_le (Nat.lt_of_lt_of_le hb2 hB) hb.size
        have z1 := (hb.cell (p := ⟨b1, o1 + k * 2, none⟩) (Nat.lt_of_lt_of_le hb1 hB)).trans (hc1 k hlt).1
        have z2 := (hb.cell (p := ⟨b1, o1 + k * 2 + 1, none⟩) (Nat.lt_of_lt_of_le hb1 hB)).trans (hc1 k hlt).2
        have z3 := (hb.cell (p := ⟨b2, o2 + k * 2, none⟩) (Nat.lt_of_lt_of_le hb2 hB)).trans (hc2 k hlt).1
        have z4 := (hb.cell (p := ⟨b2, o2 + k * 2 + 1, none⟩) (Nat.lt_of_lt_of_le hb2 hB)).trans (hc2 k hlt).2
        have hy := fun a b c d p q (h2 : Pl.mul (V1 k).1 (V1 k).2 (V2 k).1 (V2 k).2 = (a, b, p)) (h3 : Pl.add x y a b = (c, d, q)) (h4 : (p && q) = false) => Pl.dotTo_no hd.out h2 h3 h4 hlt
        have hs := fun a b c d (h2 : Pl.mul (V1 k).1 (V1 k).2 (V2 k).1 (V2 k).2 = (a, b, true)) (h3 : Pl.add x y a b = (c, d, true)) => Pl.dotTo_step hd.out h2 h3
        clear hc1 hc2 h1 h2
        have HY := Lib.hid hy
        have HS := Lib.hid hs
        clear hy hs
        obtain ⟨a1, e1⟩ : ∃ a, a = (V1 k).1 := ⟨_, rfl⟩
        obtain ⟨a2, e2⟩ : ∃ a, a = (V1 k).2 := ⟨_, rfl⟩
        obtain ⟨a3, e3⟩ : ∃ a, a = (V2 k).1 := ⟨_, rfl⟩
        obtain ⟨a4, e4⟩ : ∃ a, a = (V2 k).2 := ⟨_, rfl⟩
        rw [← e1, ← e2, ← e3, ← e4] at HY HS
        rw [← e1] at z1
        rw [← e2] at z2
        rw [← e3] at z3
        rw [← e4] at z4
        clear e1 e2 e3 e4
        have cm := fun W => imul_any a1 a2 a3 a4 W
        obtain ⟨pp, hp⟩ : ∃ p, p = Pl.mul a1 a2 a3 a4 := ⟨_, rfl⟩
        rw [← hp] at cm HY HS
        clear hp
        obtain ⟨px, py, pk⟩ := pp
        have ca := fun W => iadd_any x y px py W
        obtain ⟨tt, ht⟩ : ∃ t, t = Pl.add x y px py := ⟨_, rfl⟩
        have HT := Lib.hid ht
        rw [← ht] at ca
        clear ht
        obtain ⟨tx, ty, tk⟩ := tt
        simp only at cm ca
        have k0 : (0 : Int) ≤ (k : Int) := by omega
        have k1 : (k : Int) < (n : Int) := by omega
        go_upto_region 7 with fail
        go_cut [8, 9] (fun s8 s9 wx => ∃ g : Nat, s8 = .pointer (some ⟨g, 0, none⟩) ∧ s9 = .bool pk ∧ wx.cell? ⟨g, 0, none⟩ = some (.int .i64 px) ∧ wx.cell? ⟨g, 1, none⟩ = some (.int .i64 py) ∧ g < wx.heap.size ∧ Below wr.heap.size wr wx)
        case first =>
          go_region_held3 (fun w' => w'.cell? ⟨b1, o1 + k * 2, none⟩ = some (.int .i64 a1) ∧ w'.cell? ⟨b1, o1 + k * 2 + 1, none⟩ = some (.int .i64 a2) ∧ w'.cell? ⟨b2, o2 + k * 2, none⟩ = some (.int .i64 a3) ∧ w'.cell? ⟨b2, o2 + k * 2 + 1, none⟩ = some (.int .i64 a4) ∧ b1 < w'.heap.size ∧ b2 < w'.heap.size) (exact four_cells (by repeat (first | assumption | exact Below.refl _ _ | refine Below.drew ?_ | refine below_drewN ?_ _ | refine Below.alloc ?_ (by first | omega | (simp; done) | (simp; omega)) _ | refine Below.setCell ?_ (by first | omega | (simp; done) | (simp; omega)) _)) hw1 hw2 z1 z2 z3 z4) ((go_at_call 59; refine (cm _).mono ?_; rintro e wA ⟨rfl, hb⟩; have HB : Below (wr.heap.size) (wr) wA := Below.trans (by repeat (first | assumption | exact Below.refl _ _ | refine Below.drew ?_ | refine below_drewN ?_ _ | refine Below.alloc ?_ (by first | omega | (simp; done) | (simp; omega)) _ | refine Below.setCell ?_ (by first | omega | (simp; done) | (simp; omega)) _)) (hb.mono (by first | omega | (simp; done) | (simp; omega))); have HS : wr.heap.size ≤ wA.heap.size := Nat.le_trans (by simp) HB.size; obtain ⟨hc, hf, hl, hm, hn⟩ := bfull hb; (try (have z : wr.heap.size < wA.heap.size := Nat.lt_of_lt_of_le (by first | omega | (simp; done) | (simp; omega)) hb.size))))
          all_goals
            go_wp2_with fail
            go_meet
            refine ⟨_, rfl, rfl, by first | (simp; done) | exact (set2_cells (by first | (go_simp; done) | (simp [*, go_sem]; done)) (by first | (go_simp; done) | (simp [*, go_sem]; done))).1, by first | (simp; done) | exact (set2_cells (by first | (go_simp; done) | (simp [*, go_sem]; done)) (by first | (go_simp; done) | (simp [*, go_sem]; done))).2, by first | (go_simp; done) | (simp [*]; done), by repeat (first | assumption | exact Below.refl _ _ | refine Below.drew ?_ | refine below_drewN ?_ _ | refine Below.alloc ?_ (by first | omega | (simp; done) | (simp; omega)) _ | refine Below.setCell ?_ (by first | omega | (simp; done) | (simp; omega)) _)⟩
        case rest =>
          obtain ⟨g, rfl, rfl, g0, g1, gl, HC⟩ := hcut
          obtain ⟨wo, rfl⟩ : ∃ wo : World, wo = wc := ⟨_, rfl⟩
          have x6 := x6.below HC
          have x4' := x4'.below HC
          have hb := hb.trans (HC.mono hb.size)
          obtain ⟨y0, y1, y2, y3, y4⟩ := id x6
          go_wp2_with fail
          refine (ca _).mono ?_
          rintro e w3 ⟨rfl, hb3⟩
          have x6 := x6.below hb3
          have x4' := x4'.below hb3
          have hb := hb.trans (hb3.mono hb.size)
          clear hb3 y0 y1 y2 y3 y4 g0 g1
          obtain ⟨q0, q1, q2, q3, q4⟩ := id x4'
          obtain ⟨r0, r1, r2, r3, r4⟩ := id x6
          have hz3 : w.heap.size ≤ w3.heap.size := hb.size
          cases pk
          · have HR := Lib.hid (HY.out _ _ _ _ _ _ rfl HT.out.symm rfl)
            have bx0 := fun o => ((Box.store x4' 0 0).alloc o).1
            have bx1 := fun o => ((Box.store x4' 0 0).alloc o).2.1
            go_wp2
            refine bodyPost_ret (v := .tuple #[.agg #[.int .i64 0, .int .i64 0], .bool false]) (by simp [results, Try.results32, go_sem, bx0, bx1]) rfl ⟨Pl.r_rb HR.out rfl rfl rfl, ?_⟩
            repeat (first | assumption | exact Below.refl _ _ | refine Below.drew ?_ | refine below_drewN ?_ _ | refine Below.alloc ?_ (by first | omega | (simp; done) | (simp; omega)) _ | refine Below.setCell ?_ (by first | omega | (simp; done) | (simp; omega)) _)
          · cases tk
            · have HR := Lib.hid (HY.out _ _ _ _ _ _ rfl HT.out.symm rfl)
              have bx0 := fun o => ((Box.store x4' 0 0).alloc o).1
              have bx1 := fun o => ((Box.store x4' 0 0).alloc o).2.1
              go_wp2
              refine bodyPost_ret (v := .tuple #[.agg #[.int .i64 0, .int .i64 0], .bool false]) (by simp [results, Try.results32, go_sem, bx0, bx1]) rfl ⟨Pl.r_rb HR.out rfl rfl rfl, ?_⟩
              repeat (first | assumption | exact Below.refl _ _ | refine Below.drew ?_ | refine below_drewN ?_ _ | refine Below.alloc ?_ (by first | omega | (simp; done) | (simp; omega)) _ | refine Below.setCell ?_ (by first | omega | (simp; done) | (simp; omega)) _)
            · have HG := Lib.hid (HS.out _ _ _ _ rfl HT.out.symm)
              clear HS HY HT
              go_wp2
              go_roundw
              case rel => exact ⟨k + 1, tx, ty, by omega, by go_num, HG, by first | exact (Box.store x6 _ _).alloc _ | exact Box.store (x6.alloc _) _ _, by first | exact (Box.other x4' (by omega)).alloc _ | exact Box.other (x4'.alloc _) (by omega), by repeat (first | assumption | exact Below.refl _ _ | refine Below.drew ?_ | refine below_drewN ?_ _ | refine Below.alloc ?_ (by first | omega | (simp; done) | (simp; omega)) _ | refine Below.setCell ?_ (by first | omega | (simp; done) | (simp; omega)) _)⟩
              case measure => simp [intOf]; omega
      · obtain rfl : k = n := by omega
        have HR := hd
        obtain ⟨q0, q1, q2, q3, q4⟩ := id x4'
        obtain ⟨r0, r1, r2, r3, r4⟩ := id x6
        have hz3 : w.heap.size ≤ wr.heap.size := hb.size
        have bx0 := (Box.store x4' x y).1
        have bx1 := (Box.store x4' x y).2.1
        go_wp2
        refine bodyPost_ret (v := .tuple #[.agg #[.int .i64 x, .int .i64 y], .bool true]) (by simp [results, Try.results32, go_sem, bx0, bx1]) rfl ⟨Pl.r_rb HR.out rfl rfl rfl, ?_⟩
        repeat (first | assumption | exact Below.refl _ _ | refine Below.drew ?_ | refine below_drewN ?_ _ | refine Below.alloc ?_ (by first | omega | (simp; done) | (simp; omega)) _ | refine Below.setCell ?_ (by first | omega | (simp; done) | (simp; omega)) _)
  · have HR := Lib.hid (Pl.dot_len (V1 := V1) (V2 := V2) hne)
    have hd := beq_eq_false_iff_ne.2 (show (n1 : Int) ≠ (n2 : Int) by omega)
    go_enter Try.func32, Try.ntmps32
    go_wp2
    refine bodyPost_ret (v := .tuple #[.agg #[.int .i64 0, .int .i64 0], .bool false]) (by simp [results, Try.results32, go_sem]) rfl ⟨Pl.r_rb HR.out rfl rfl rfl, ?_⟩
    repeat (first | assumption | exact Below.refl _ _ | refine Below.drew ?_ | refine below_drewN ?_ _ | refine Below.alloc ?_ (by first | omega | (simp; done) | (simp; omega)) _ | refine Below.setCell ?_ (by first | omega | (simp; done) | (simp; omega)) _)

theorem sDot_any (A1 A2 : Option Addr) (n1 n2 c1 c2 B : Nat) (V1 V2 : Fr) (w : World) (h1 : RdP w B A1 n1 V1) (h2 : RdP w B A2 n2 V2) (hB : B ≤ w.heap.size) (hn1 : n1 ≤ 1099511627776) (hn2 : n2 ≤ 1099511627776) :
    Calls Try.prog 31 #[.slice A1 n1 c1, .slice A2 n2 c2] w fun e w' => e = .returned (.tuple #[.agg #[.int .i64 (Pl.dot n1 V1 n2 V2).1, .int .i64 (Pl.dot n1 V1 n2 V2).2.1], .bool (Pl.dot n1 V1 n2 V2).2.2]) ∧ Below w.heap.size w w' := by
  by_cases hne : n1 = n2
  · subst hne
    rw [Pl.dot_same]
    obtain ⟨n, en⟩ : ∃ n, n = n1 := ⟨_, rfl⟩
    rw [← en] at h1 h2 hn1 ⊢
    clear en hn2
    go_enter Try.func31, Try.ntmps31
    go_wp2_with fail
    refine (l3Int_any _ _).mono ?_
    rintro e w1 ⟨rfl, hb1⟩
    have x4 : Box w1 w.heap.size 0 0 := by
      refine Box.below (w := w.alloc _) ⟨by simp, by simp, by simp, by simp, by simp⟩ hb1
    have HB1 : Below w.heap.size w w1 := ((Below.refl _ _).alloc (Nat.le_refl _) _).trans (hb1.mono (by simp))
    have hz1 : w.heap.size < w1.heap.size := x4.2.2.2.2
    clear hb1
    go_wp2_with fail
    go_loopw [7] (fun u wr => ∃ (k : Nat) (x y : Int), k ≤ n ∧ u = .int .i64 k ∧ Hid (Pl.dotTo V1 V2 k = (x, y, true)) ∧ Box wr w1.heap.size x y ∧ Box wr w.heap.size 0 0 ∧ Below w.heap.size w wr) (fun u _ => n - (intOf u).toNat)
    case atStart =>
      refine ⟨0, 0, 1, Nat.zero_le _, rfl, Lib.hid rfl, ?_, x4.alloc _, HB1.alloc (by omega) _⟩
      exact ⟨by simp, by simp, by simp, by simp, by simp⟩
    case round =>
      obtain ⟨k, x, y, hk, rfl, hd, x6, x4', hb⟩ := hrel
      by_cases hlt : k < n
      · obtain ⟨b1, o1, rfl, hb1, hc1⟩ := h1 (by omega)
        obtain ⟨b2, o2, rfl, hb2, hc2⟩ := h2 (by omega)
        have hw1 : b1 < wr.heap.size := Nat.lt_of_lt_of_le (Nat.lt_of_lt_of_le hb1 hB) hb.size
        have hw2 : b2 < wr.heap.size := Nat.lt_of_lt_of_le (Nat.lt_of_lt_of_le hb2 hB) hb.size
        have z1 := (hb.cell (p := ⟨b1, o1 + k * 2, none⟩) (Nat.lt_of_lt_of_le hb1 hB)).trans (hc1 k hlt).1
        have z2 := (hb.cell (p := ⟨b1, o1 + k * 2 + 1, none⟩) (Nat.lt_of_lt_of_le hb1 hB)).trans (hc1 k hlt).2
        have z3 := (hb.cell (p := ⟨b2, o2 + k * 2, none⟩) (Nat.lt_of_lt_of_le hb2 hB)).trans (hc2 k hlt).1
        have z4 := (hb.cell (p := ⟨b2, o2 + k * 2 + 1, none⟩) (Nat.lt_of_lt_of_le hb2 hB)).trans (hc2 k hlt).2
        have hy := fun a b c d p q (h2 : Pl.mul (V1 k).1 (V1 k).2 (V2 k).1 (V2 k).2 = (a, b, p)) (h3 : Pl.add x y a b = (c, d, q)) (h4 : (p && q) = false) => Pl.dotTo_no hd.out h2 h3 h4 hlt
        have hs := fun a b c d (h2 : Pl.mul (V1 k).1 (V1 k).2 (V2 k).1 (V2 k).2 = (a, b, true)) (h3 : Pl.add x y a b = (c, d, true)) => Pl.dotTo_step hd.out h2 h3
        clear hc1 hc2 h1 h2
        have HY := Lib.hid hy
        have HS := Lib.hid hs
        clear hy hs
        obtain ⟨a1, e1⟩ : ∃ a, a = (V1 k).1 := ⟨_, rfl⟩
        obtain ⟨a2, e2⟩ : ∃ a, a = (V1 k).2 := ⟨_, rfl⟩
        obtain ⟨a3, e3⟩ : ∃ a, a = (V2 k).1 := ⟨_, rfl⟩
        obtain ⟨a4, e4⟩ : ∃ a, a = (V2 k).2 := ⟨_, rfl⟩
        rw [← e1, ← e2, ← e3, ← e4] at HY HS
        rw [← e1] at z1
        rw [← e2] at z2
        rw [← e3] at z3
        rw [← e4] at z4
        clear e1 e2 e3 e4
        have cm := fun W => smul_any a1 a2 a3 a4 W
        obtain ⟨pp, hp⟩ : ∃ p, p = Pl.mul a1 a2 a3 a4 := ⟨_, rfl⟩
        rw [← hp] at cm HY HS
        clear hp
        obtain ⟨px, py, pk⟩ := pp
        have ca := fun W => sadd_any x y px py W
        obtain ⟨tt, ht⟩ : ∃ t, t = Pl.add x y px py := ⟨_, rfl⟩
        have HT := Lib.hid ht
        rw [← ht] at ca
        clear ht
        obtain ⟨tx, ty, tk⟩ := tt
        simp only at cm ca
        have k0 : (0 : Int) ≤ (k : Int) := by omega
        have k1 : (k : Int) < (n : Int) := by omega
        go_upto_region 7 with fail
        go_cut [8, 9] (fun s8 s9 wx => ∃ g : Nat, s8 = .pointer (some ⟨g, 0, none⟩) ∧ s9 = .bool pk ∧ wx.cell? ⟨g, 0, none⟩ = some (.int .i64 px) ∧ wx.cell? ⟨g, 1, none⟩ = some (.int .i64 py) ∧ g < wx.heap.size ∧ Below wr.heap.size wr wx)
        case first =>
          go_region_held3 (fun w' => w'.cell? ⟨b1, o1 + k * 2, none⟩ = some (.int .i64 a1) ∧ w'.cell? ⟨b1, o1 + k * 2 + 1, none⟩ = some (.int .i64 a2) ∧ w'.cell? ⟨b2, o2 + k * 2, none⟩ = some (.int .i64 a3) ∧ w'.cell? ⟨b2, o2 + k * 2 + 1, none⟩ = some (.int .i64 a4) ∧ b1 < w'.heap.size ∧ b2 < w'.heap.size) (exact four_cells (by repeat (first | assumption | exact Below.refl _ _ | refine Below.drew ?_ | refine below_drewN ?_ _ | refine Below.alloc ?_ (by first | omega | (simp; done) | (simp; omega)) _ | refine Below.setCell ?_ (by first | omega | (simp; done) | (simp; omega)) _)) hw1 hw2 z1 z2 z3 z4) ((go_at_call 57; refine (cm _).mono ?_; rintro e wA ⟨rfl, hb⟩; have HB : Below (wr.heap.size) (wr) wA := Below.trans (by repeat (first | assumption | exact Below.refl _ _ | refine Below.drew ?_ | refine below_drewN ?_ _ | refine Below.alloc ?_ (by first | omega | (simp; done) | (simp; omega)) _ | refine Below.setCell ?_ (by first | omega | (simp; done) | (simp; omega)) _)) (hb.mono (by first | omega | (simp; done) | (simp; omega))); have HS : wr.heap.size ≤ wA.heap.size := Nat.le_trans (by simp) HB.size; obtain ⟨hc, hf, hl, hm, hn⟩ := bfull hb; (try (have z : wr.heap.size < wA.heap.size := Nat.lt_of_lt_of_le (by first | omega | (simp; done) | (simp; omega)) hb.size))))
          all_goals
            go_wp2_with fail
            go_meet
            refine ⟨_, rfl, rfl, by first | (simp; done) | exact (set2_cells (by first | (go_simp; done) | (simp [*, go_sem]; done)) (by first | (go_simp; done) | (simp [*, go_sem]; done))).1, by first | (simp; done) | exact (set2_cells (by first | (go_simp; done) | (simp [*, go_sem]; done)) (by first | (go_simp; done) | (simp [*, go_sem]; done))).2, by first | (go_simp; done) | (simp [*]; done), by repeat (first | assumption | exact Below.refl _ _ | refine Below.drew ?_ | refine below_drewN ?_ _ | refine Below.alloc ?_ (by first | omega | (simp; done) | (simp; omega)) _ | refine Below.setCell ?_ (by first | omega | (simp; done) | (simp; omega)) _)⟩
        case rest =>
          obtain ⟨g, rfl, rfl, g0, g1, gl, HC⟩ := hcut
          obtain ⟨wo, rfl⟩ : ∃ wo : World, wo = wc := ⟨_, rfl⟩
          have x6 := x6.below HC
          have x4' := x4'.below HC
          have hb := hb.trans (HC.mono hb.size)
          obtain ⟨y0, y1, y2, y3, y4⟩ := id x6
          go_wp2_with fail
          refine (ca _).mono ?_
          rintro e w3 ⟨rfl, hb3⟩
          have x6 := x6.below hb3
          have x4' := x4'.below hb3
          have hb := hb.trans (hb3.mono hb.size)
          clear hb3 y0 y1 y2 y3 y4 g0 g1
          obtain ⟨q0, q1, q2, q3, q4⟩ := id x4'
          obtain ⟨r0, r1, r2, r3, r4⟩ := id x6
          have hz3 : w.heap.size ≤ w3.heap.size := hb.size
          cases pk
          · have HR := Lib.hid (HY.out _ _ _ _ _ _ rfl HT.out.symm rfl)
            have bx0 := fun o => ((Box.store x4' 0 0).alloc o).1
            have bx1 := fun o => ((Box.store x4' 0 0).alloc o).2.1
            go_wp2
            refine bodyPost_ret (v := .tuple #[.agg #[.int .i64 0, .int .i64 0], .bool false]) (by simp [results, Try.results31, go_sem, bx0, bx1]) rfl ⟨Pl.r_rb HR.out rfl rfl rfl, ?_⟩
            repeat (first | assumption | exact Below.refl _ _ | refine Below.drew ?_ | refine below_drewN ?_ _ | refine Below.alloc ?_ (by first | omega | (simp; done) | (simp; omega)) _ | refine Below.setCell ?_ (by first | omega | (simp; done) | (simp; omega)) _)
          · cases tk
            · have HR := Lib.hid (HY.out _ _ _ _ _ _ rfl HT.out.symm rfl)
              have bx0 := fun o => ((Box.store x4' 0 0).alloc o).1
              have bx1 := fun o => ((Box.store x4' 0 0).alloc o).2.1
              go_wp2
              refine bodyPost_ret (v := .tuple #[.agg #[.int .i64 0, .int .i64 0], .bool false]) (by simp [results, Try.results31, go_sem, bx0, bx1]) rfl ⟨Pl.r_rb HR.out rfl rfl rfl, ?_⟩
              repeat (first | assumption | exact Below.refl _ _ | refine Below.drew ?_ | refine below_drewN ?_ _ | refine Below.alloc ?_ (by first | omega | (simp; done) | (simp; omega)) _ | refine Below.setCell ?_ (by first | omega | (simp; done) | (simp; omega)) _)
            · have HG := Lib.hid (HS.out _ _ _ _ rfl HT.out.symm)
              clear HS HY HT
              go_wp2
              go_roundw
              case rel => exact ⟨k + 1, tx, ty, by omega, by go_num, HG, by first | exact (Box.store x6 _ _).alloc _ | exact Box.store (x6.alloc _) _ _, by first | exact (Box.other x4' (by omega)).alloc _ | exact Box.other (x4'.alloc _) (by omega), by repeat (first | assumption | exact Below.refl _ _ | refine Below.drew ?_ | refine below_drewN ?_ _ | refine Below.alloc ?_ (by first | omega | (simp; done) | (simp; omega)) _ | refine Below.setCell ?_ (by first | omega | (simp; done) | (simp; omega)) _)⟩
              case measure => simp [intOf]; omega
      · obtain rfl : k = n := by omega
        have HR := hd
        obtain ⟨q0, q1, q2, q3, q4⟩ := id x4'
        obtain ⟨r0, r1, r2, r3, r4⟩ := id x6
        have hz3 : w.heap.size ≤ wr.heap.size := hb.size
        have bx0 := (Box.store x4' x y).1
        have bx1 := (Box.store x4' x y).2.1
        go_wp2
        refine bodyPost_ret (v := .tuple #[.agg #[.int .i64 x, .int .i64 y], .bool true]) (by simp [results, Try.results31, go_sem, bx0, bx1]) rfl ⟨Pl.r_rb HR.out rfl rfl rfl, ?_⟩
        repeat (first | assumption | exact Below.refl _ _ | refine Below.drew ?_ | refine below_drewN ?_ _ | refine Below.alloc ?_ (by first | omega | (simp; done) | (simp; omega)) _ | refine Below.setCell ?_ (by first | omega | (simp; done) | (simp; omega)) _)
  · have HR := Lib.hid (Pl.dot_len (V1 := V1) (V2 := V2) hne)
    have hd := beq_eq_false_iff_ne.2 (show (n1 : Int) ≠ (n2 : Int) by omega)
    go_enter Try.func31, Try.ntmps31
    go_wp2
    refine bodyPost_ret (v := .tuple #[.agg #[.int .i64 0, .int .i64 0], .bool false]) (by simp [results, Try.results31, go_sem]) rfl ⟨Pl.r_rb HR.out rfl rfl rfl, ?_⟩
    repeat (first | assumption | exact Below.refl _ _ | refine Below.drew ?_ | refine below_drewN ?_ _ | refine Below.alloc ?_ (by first | omega | (simp; done) | (simp; omega)) _ | refine Below.setCell ?_ (by first | omega | (simp; done) | (simp; omega)) _)

end Go.Proofs.Ytkhgolblendckaa
