/-
  Contracts of the laws' eqRatS and of EqualVector, of the program and of the reference.
-/
import Derived.Test.YtajafmdeencohaaVec
namespace Go.Proofs.Ytajafmdeencohaa
open Go.RowKit

theorem below_drewN'' {B : Nat} {a w : World} (h : Below B a w) (n : Nat) : Below B a (w.drewN n) := ⟨h.os, h.tape, h.output, h.size, h.block⟩
theorem four_cells {w X : World} {b1 k1 b2 k2 : Nat} {u1 v1 u2 v2 : Value} (h : Below w.heap.size w X) (h1 : b1 < w.heap.size) (h2 : b2 < w.heap.size)
    (x1 : w.cell? ⟨b1, k1, none⟩ = some u1) (y1 : w.cell? ⟨b1, k1 + 1, none⟩ = some v1) (x2 : w.cell? ⟨b2, k2, none⟩ = some u2) (y2 : w.cell? ⟨b2, k2 + 1, none⟩ = some v2) :
    X.cell? ⟨b1, k1, none⟩ = some u1 ∧ X.cell? ⟨b1, k1 + 1, none⟩ = some v1 ∧ X.cell? ⟨b2, k2, none⟩ = some u2 ∧ X.cell? ⟨b2, k2 + 1, none⟩ = some v2 ∧ b1 < X.heap.size ∧ b2 < X.heap.size :=
  ⟨(h.cell h1).trans x1, (h.cell h1).trans y1, (h.cell h2).trans x2, (h.cell h2).trans y2, Nat.lt_of_lt_of_le h1 h.size, Nat.lt_of_lt_of_le h2 h.size⟩

namespace Pl
def eqAt (V V' : Fr) (j : Nat) : Bool := (V j).1 == (V' j).1 && (V j).2 == (V' j).2
def eqTo (V V' : Fr) : Nat → Bool
  | 0 => true
  | j + 1 => eqTo V V' j && eqAt V V' j
theorem eqTo_yes {V V' : Fr} {j : Nat} (h : eqTo V V' j = true) (hj : eqAt V V' j = true) : eqTo V V' (j + 1) = true := by rw [eqTo, h, hj]; rfl
theorem eqTo_no {V V' : Fr} {j n : Nat} (hj : eqAt V V' j = false) (hn : j < n) : eqTo V V' n = false := by
  induction n with
  | zero => omega
  | succ n ih =>
    rw [eqTo]
    by_cases h : j = n
    · subst h
      rw [hj, Bool.and_false]
    · rw [ih (by omega), Bool.false_and]
/-- 'EqualVector' -/
def eqv (n1 : Nat) (V1 : Fr) (n2 : Nat) (V2 : Fr) : Bool := n1 == n2 && eqTo V1 V2 n1
theorem eqv_len {n1 n2 : Nat} {V1 V2 : Fr} (h : n1 ≠ n2) : eqv n1 V1 n2 V2 = false := by rw [eqv, beq_eq_false_iff_ne.2 h, Bool.false_and]
theorem eqv_same {n : Nat} {V1 V2 : Fr} : eqv n V1 n V2 = eqTo V1 V2 n := by rw [eqv, beq_self_eq_true, Bool.true_and]
end Pl

attribute [local go_sem ↓] Go.wp_at_zero Go.wp_at_succ
theorem eqRatS_same (A1 A2 : Option Addr) (n c1 c2 B : Nat) (V : Fr) (w : World) (h1 : RdP w B A1 n V) (h2 : RdP w B A2 n V) (hB : B ≤ w.heap.size) (hn : n ≤ 1099511627776) :
    Calls Try.prog 19 #[.slice A1 n c1, .slice A2 n c2] w fun e w' => e = .returned (.bool true) ∧ Below w.heap.size w w' := by
  go_enter Try.func19, Try.ntmps19
  go_wp2
  go_loopw [5] (fun u wr => ∃ k : Nat, k ≤ n ∧ u = .int .i64 k ∧ Below w.heap.size w wr) (fun u _ => n - (intOf u).toNat)
  case atStart => exact ⟨0, Nat.zero_le _, rfl, Below.refl _ _⟩
  case round =>
    obtain ⟨k, hk, rfl, hb⟩ := hrel
    by_cases hlt : k < n
    · obtain ⟨b1, o1, rfl, hb1, hc1⟩ := h1 (by omega)
      obtain ⟨b2, o2, rfl, hb2, hc2⟩ := h2 (by omega)
      obtain ⟨z1, z2⟩ := hc1 k hlt
      obtain ⟨z3, z4⟩ := hc2 k hlt
      obtain ⟨x, hx⟩ : ∃ x : Int, x = (V k).1 := ⟨_, rfl⟩
      obtain ⟨y, hy⟩ : ∃ y : Int, y = (V k).2 := ⟨_, rfl⟩
      rw [← hx] at z1 z3
      rw [← hy] at z2 z4
      have hw1 : b1 < w.heap.size := Nat.lt_of_lt_of_le hb1 hB
      have hw2 : b2 < w.heap.size := Nat.lt_of_lt_of_le hb2 hB
      have x1 := (hb.cell (p := ⟨b1, o1 + k * 2, none⟩) hw1).trans z1
      have x2 := (hb.cell (p := ⟨b1, o1 + k * 2 + 1, none⟩) hw1).trans z2
      have x3 := (hb.cell (p := ⟨b2, o2 + k * 2, none⟩) hw2).trans z3
      have x4 := (hb.cell (p := ⟨b2, o2 + k * 2 + 1, none⟩) hw2).trans z4
      have hsz : w.heap.size ≤ wr.heap.size := hb.size
      have q1 : b1 < wr.heap.size := Nat.lt_of_lt_of_le hw1 hsz
      have q2 : b2 < wr.heap.size := Nat.lt_of_lt_of_le hw2 hsz
      clear hx hy hc1 hc2 h1 h2
      have k0 : (0 : Int) ≤ (k : Int) := by omega
      have k1 : (k : Int) < (n : Int) := by omega
      go_upto_region 6 with fail
      go_cut [26] (fun s26 wx => s26 = .bool false ∧ Below w.heap.size w wx)
      case first =>
        go_region_held3 (fun w' => w'.cell? ⟨b1, o1 + k * 2, none⟩ = some (.int .i64 x) ∧ w'.cell? ⟨b1, o1 + k * 2 + 1, none⟩ = some (.int .i64 y) ∧ w'.cell? ⟨b2, o2 + k * 2, none⟩ = some (.int .i64 x) ∧ w'.cell? ⟨b2, o2 + k * 2 + 1, none⟩ = some (.int .i64 y) ∧ b1 < w'.heap.size ∧ b2 < w'.heap.size) (exact four_cells (by repeat (first | assumption | exact Below.refl _ _ | refine Below.drew ?_ | refine below_drewN ?_ _ | refine Below.alloc ?_ (by first | omega | (simp; done) | (simp; omega)) _ | refine Below.setCell ?_ (by first | omega | (simp; done) | (simp; omega)) _)) hw1 hw2 z1 z2 z3 z4) ((go_at_call 55; refine (eqRat_any _ _ _ _ _).mono ?_; rintro e wA ⟨rfl, hb⟩; have HB : Below (w.heap.size) (w) wA := Below.trans (by repeat (first | assumption | exact Below.refl _ _ | refine Below.drew ?_ | refine below_drewN ?_ _ | refine Below.alloc ?_ (by first | omega | (simp; done) | (simp; omega)) _ | refine Below.setCell ?_ (by first | omega | (simp; done) | (simp; omega)) _)) (hb.mono (by first | omega | (simp; done) | (simp; omega))); have HS : w.heap.size ≤ wA.heap.size := Nat.le_trans (by simp) HB.size; obtain ⟨hc, hf, hl, hm, hn⟩ := bfull hb; (try (have z : w.heap.size < wA.heap.size := Nat.lt_of_lt_of_le (by first | omega | (simp; done) | (simp; omega)) hb.size))))
        all_goals
          go_wp2_with fail
          go_meet
          refine ⟨by first | rfl | (simp; done), by repeat (first | assumption | exact Below.refl _ _ | refine Below.drew ?_ | refine below_drewN ?_ _ | refine Below.alloc ?_ (by first | omega | (simp; done) | (simp; omega)) _ | refine Below.setCell ?_ (by first | omega | (simp; done) | (simp; omega)) _)⟩
      case rest =>
        obtain ⟨rfl, HB⟩ := hcut
        go_wp2
        go_roundw
        case rel => exact ⟨k + 1, by omega, by go_num, HB⟩
        case measure => simp [intOf]; omega
    · obtain rfl : k = n := by omega
      go_wp2
      go_ret
      exact ⟨rfl, hb⟩

theorem sEqualVector_any (A1 A2 : Option Addr) (n1 n2 c1 c2 B : Nat) (V1 V2 : Fr) (w : World) (h1 : RdP w B A1 n1 V1) (h2 : RdP w B A2 n2 V2) (hB : B ≤ w.heap.size) (hn1 : n1 ≤ 1099511627776) (hn2 : n2 ≤ 1099511627776) :
    Calls Try.prog 41 #[.slice A1 n1 c1, .slice A2 n2 c2] w fun e w' => e = .returned (.bool (Pl.eqv n1 V1 n2 V2)) ∧ Below w.heap.size w w' := by
  by_cases hne : n1 = n2
  · subst hne
    rw [Pl.eqv_same]
    obtain ⟨n, en⟩ : ∃ n, n = n1 := ⟨_, rfl⟩
    rw [← en] at h1 h2 hn1 ⊢
    clear en hn2
    go_enter Try.func41, Try.ntmps41
    go_wp2
    go_loopw [5] (fun v0 wr => ∃ k : Nat, k ≤ n ∧ v0 = .int .i64 k ∧ Hid (Pl.eqTo V1 V2 k = true) ∧ Below w.heap.size w wr) (fun v0 _ => n - (intOf v0).toNat)
    case atStart => exact ⟨0, Nat.zero_le _, rfl, Lib.hid rfl, Below.refl _ _⟩
    case round =>
      obtain ⟨k, hk, rfl, he, hb⟩ := hrel
      by_cases hlt : k < n
      · obtain ⟨b1, o1, rfl, hb1, hc1⟩ := h1 (by omega)
        obtain ⟨b2, o2, rfl, hb2, hc2⟩ := h2 (by omega)
        have hw1 : b1 < w.heap.size := Nat.lt_of_lt_of_le hb1 hB
        have hw2 : b2 < w.heap.size := Nat.lt_of_lt_of_le hb2 hB
        have x1 := (hb.cell (p := ⟨b1, o1 + k * 2, none⟩) hw1).trans (hc1 k hlt).1
        have x2 := (hb.cell (p := ⟨b1, o1 + k * 2 + 1, none⟩) hw1).trans (hc1 k hlt).2
        have x3 := (hb.cell (p := ⟨b2, o2 + k * 2, none⟩) hw2).trans (hc2 k hlt).1
        have x4 := (hb.cell (p := ⟨b2, o2 + k * 2 + 1, none⟩) hw2).trans (hc2 k hlt).2
        have hsz : w.heap.size ≤ wr.heap.size := hb.size
        have q1 : b1 < wr.heap.size := Nat.lt_of_lt_of_le hw1 hsz
        have q2 : b2 < wr.heap.size := Nat.lt_of_lt_of_le hw2 hsz
        clear hc1 hc2 h1 h2
        have k0 : (0 : Int) ≤ (k : Int) := by omega
        have k1 : (k : Int) < (n : Int) := by omega
        cases hq1 : ((V1 k).1 == (V2 k).1)
        · have HR := Lib.hid (Pl.eqTo_no (V := V1) (V' := V2) (j := k) (n := n) (by rw [Pl.eqAt, hq1]; rfl) hlt)
          go_wp2_with fail
          go_quiet (fail)
          go_wp2
          go_ret
          exact ⟨Pl.ret_bool HR.out.symm, below_drewN'' hb _⟩
        · cases hq2 : ((V1 k).2 == (V2 k).2)
          · have HR := Lib.hid (Pl.eqTo_no (V := V1) (V' := V2) (j := k) (n := n) (by rw [Pl.eqAt, hq1, hq2]; rfl) hlt)
            go_wp2_with fail
            go_quiet (fail)
            go_wp2
            go_ret
            exact ⟨Pl.ret_bool HR.out.symm, below_drewN'' hb _⟩
          · have HY := Lib.hid (Pl.eqTo_yes he.out (by rw [Pl.eqAt, hq1, hq2]; rfl))
            go_wp2_with fail
            go_quiet (fail)
            go_wp2
            go_roundw
            case rel => exact ⟨k + 1, by omega, by go_num, HY, below_drewN'' hb _⟩
            case measure => simp [intOf]; omega
      · obtain rfl : k = n := by omega
        go_wp2
        go_ret
        exact ⟨Pl.ret_bool he.out.symm, hb⟩
  · have HR := Lib.hid (Pl.eqv_len (V1 := V1) (V2 := V2) hne)
    have hd := beq_eq_false_iff_ne.2 (show (n1 : Int) ≠ (n2 : Int) by omega)
    go_enter Try.func41, Try.ntmps41
    go_wp2
    go_ret
    exact ⟨Pl.ret_bool HR.out.symm, Below.refl _ _⟩

theorem slicesEqual_any (A1 A2 : Option Addr) (n1 n2 c1 c2 B : Nat) (V1 V2 : Fr) (w : World) (h1 : RdP w B A1 n1 V1) (h2 : RdP w B A2 n2 V2) (hB : B ≤ w.heap.size) (hn1 : n1 ≤ 1099511627776) (hn2 : n2 ≤ 1099511627776) :
    Calls Try.prog 49 #[.slice A1 n1 c1, .slice A2 n2 c2] w fun e w' => e = .returned (.bool (Pl.eqv n1 V1 n2 V2)) ∧ Below w.heap.size w w' := by
  by_cases hne : n1 = n2
  · subst hne
    rw [Pl.eqv_same]
    obtain ⟨n, en⟩ : ∃ n, n = n1 := ⟨_, rfl⟩
    rw [← en] at h1 h2 hn1 ⊢
    clear en hn2
    go_enter Try.func49, Try.ntmps49
    go_wp2
    go_loopw [5, 13] (fun v0 v1 wr => ∃ k : Nat, k ≤ n ∧ v1 = .int .i64 k ∧ Hid (Pl.eqTo V1 V2 k = true) ∧ Below w.heap.size w wr) (fun v0 v1 _ => n - (intOf v1).toNat)
    case atStart => exact ⟨0, Nat.zero_le _, rfl, Lib.hid rfl, Below.refl _ _⟩
    case round =>
      obtain ⟨k, hk, rfl, he, hb⟩ := hrel
      by_cases hlt : k < n
      · obtain ⟨b1, o1, rfl, hb1, hc1⟩ := h1 (by omega)
        obtain ⟨b2, o2, rfl, hb2, hc2⟩ := h2 (by omega)
        have hw1 : b1 < w.heap.size := Nat.lt_of_lt_of_le hb1 hB
        have hw2 : b2 < w.heap.size := Nat.lt_of_lt_of_le hb2 hB
        have x1 := (hb.cell (p := ⟨b1, o1 + k * 2, none⟩) hw1).trans (hc1 k hlt).1
        have x2 := (hb.cell (p := ⟨b1, o1 + k * 2 + 1, none⟩) hw1).trans (hc1 k hlt).2
        have x3 := (hb.cell (p := ⟨b2, o2 + k * 2, none⟩) hw2).trans (hc2 k hlt).1
        have x4 := (hb.cell (p := ⟨b2, o2 + k * 2 + 1, none⟩) hw2).trans (hc2 k hlt).2
        have hsz : w.heap.size ≤ wr.heap.size := hb.size
        have q1 : b1 < wr.heap.size := Nat.lt_of_lt_of_le hw1 hsz
        have q2 : b2 < wr.heap.size := Nat.lt_of_lt_of_le hw2 hsz
        clear hc1 hc2 h1 h2
        have k0 : (0 : Int) ≤ (k : Int) := by omega
        have k1 : (k : Int) < (n : Int) := by omega
        cases hq1 : ((V1 k).1 == (V2 k).1)
        · have HR := Lib.hid (Pl.eqTo_no (V := V1) (V' := V2) (j := k) (n := n) (by rw [Pl.eqAt, hq1]; rfl) hlt)
          go_wp2_with fail
          go_quiet (fail)
          go_wp2
          go_ret
          exact ⟨Pl.ret_bool HR.out.symm, below_drewN'' hb _⟩
        · cases hq2 : ((V1 k).2 == (V2 k).2)
          · have HR := Lib.hid (Pl.eqTo_no (V := V1) (V' := V2) (j := k) (n := n) (by rw [Pl.eqAt, hq1, hq2]; rfl) hlt)
            go_wp2_with fail
            go_quiet (fail)
            go_wp2
            go_ret
            exact ⟨Pl.ret_bool HR.out.symm, below_drewN'' hb _⟩
          · have HY := Lib.hid (Pl.eqTo_yes he.out (by rw [Pl.eqAt, hq1, hq2]; rfl))
            go_wp2_with fail
            go_quiet (fail)
            go_wp2
            go_roundw
            case rel => exact ⟨k + 1, by omega, by go_num, HY, below_drewN'' hb _⟩
            case measure => simp [intOf]; omega
      · obtain rfl : k = n := by omega
        go_wp2
        go_ret
        exact ⟨Pl.ret_bool he.out.symm, hb⟩
  · have HR := Lib.hid (Pl.eqv_len (V1 := V1) (V2 := V2) hne)
    have hd := beq_eq_false_iff_ne.2 (show (n1 : Int) ≠ (n2 : Int) by omega)
    go_enter Try.func49, Try.ntmps49
    go_wp2
    go_ret
    exact ⟨Pl.ret_bool HR.out.symm, Below.refl _ _⟩

end Go.Proofs.Ytajafmdeencohaa
