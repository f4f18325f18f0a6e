/-
  Contracts of FormatRat, of the program and of the reference, and the walk of the law FnExactFormatRat.
-/
import Derived.Test.YtkhmepbdjdodmaaDoorItoa
import Derived.Test.YtkhmepbdjdodmaaDoorRat
import Derived.Deep.RegionWith
import Derived.Deep.RegionHeld3
import Derived.Deep.DeepCutAuto
import Derived.Deep.DrawnRows
namespace Go.Proofs.YtkhmepbdjdodmaaDoor
open Go.RowKit
attribute [local go_sem ↓] Go.wp_at_zero Go.wp_at_succ
attribute [-go_sem] Go.run_string_add_if

namespace Pl
def fmtR (n d : Int) : List UInt8 := if valid n d then (if d = 1 then Lib.itoa n else Lib.itoa n ++ 47 :: Lib.itoa d) else []
theorem fmtR_bad {n d : Int} (h : valid n d = false) : fmtR n d = [] := by rw [fmtR, h]; rfl
theorem fmtR_one {n d : Int} (h : valid n d = true) (h1 : d = 1) : fmtR n d = Lib.itoa n := by rw [fmtR, h, if_pos rfl, if_pos h1]
theorem fmtR_two {n d : Int} (h : valid n d = true) (h1 : d ≠ 1) : fmtR n d = Lib.itoa n ++ 47 :: Lib.itoa d := by rw [fmtR, h, if_pos rfl, if_neg h1]
theorem join_str (a b : List UInt8) : Value.string (⟨a.toArray⟩ ++ ⟨#[47]⟩ ++ ⟨b.toArray⟩) = Value.string ⟨(a ++ 47 :: b).toArray⟩ := by
  rw [show (⟨#[47]⟩ : ByteArray) = ⟨[47].toArray⟩ from rfl, str_app, str_app, List.append_assoc]
  rfl
end Pl
theorem keep_box {w1 X : World} {b : Nat} {u v : Value} (h : Below w1.heap.size w1 X) (hb : b < w1.heap.size) (x0 : w1.cell? ⟨b, 0, none⟩ = some u) (x1 : w1.cell? ⟨b, 1, none⟩ = some v) :
    X.cell? ⟨b, 0, none⟩ = some u ∧ X.cell? ⟨b, 1, none⟩ = some v ∧ b < X.heap.size :=
  ⟨(h.cell hb).trans x0, (h.cell hb).trans x1, Nat.lt_of_lt_of_le hb h.size⟩

set_option maxRecDepth 20000 in
theorem sfmtRat_any (n d : Int) (w : World) : Calls Tryd.prog 12 #[.agg #[.int .i64 n, .int .i64 d]] w fun e w' => e = .returned (.string ⟨(Pl.fmtR n d).toArray⟩) ∧ Below w.heap.size w w' := by
  cases hv : Pl.valid n d
  · have HR := Lib.hid (Pl.fmtR_bad hv)
    go_enter Tryd.func12, Tryd.ntmps12
    go_wp2_with fail
    refine (svalid_any _ _ _).mono ?_
    rintro e w1 ⟨rfl, hb1⟩
    have HB0 : Below w.heap.size w w1 := ((Below.refl _ _).alloc (Nat.le_refl _) _).trans (hb1.mono (by simp))
    rw [hv]
    clear hv hb1
    go_wp2
    go_ret
    exact ⟨Pl.ret_str (a := []) HR.out.symm, HB0⟩
  · obtain ⟨b1, b2, b3, b4⟩ := Pl.valid_bounds hv
    have l1 := Lib.itoa_length_le n (by omega) (by omega)
    have l2 := Lib.itoa_length_le d (by omega) (by omega)
    by_cases h1 : d = 1
    · have HR := Lib.hid (Pl.fmtR_one hv h1)
      have hd := beq_iff_eq.2 h1
      clear h1
      go_enter Tryd.func12, Tryd.ntmps12
      go_wp2_with fail
      refine (svalid_any _ _ _).mono ?_
      rintro e w1 ⟨rfl, hb1⟩
      have x0 : w1.cell? ⟨w.heap.size, 0, none⟩ = some (.int .i64 n) := (hb1.cell (by simp)).trans (by simp)
      have x1 : w1.cell? ⟨w.heap.size, 1, none⟩ = some (.int .i64 d) := (hb1.cell (by simp)).trans (by simp)
      have HB0 : Below w.heap.size w w1 := ((Below.refl _ _).alloc (Nat.le_refl _) _).trans (hb1.mono (by simp))
      rw [hv]
      clear hv hb1
      go_wp2_with fail
      refine (sfmtInt_any _ (by omega) (by omega) _).mono ?_
      rintro e w2 ⟨rfl, hb2⟩
      go_wp2
      go_ret
      exact ⟨Pl.ret_str HR.out.symm, HB0.trans (hb2.mono HB0.size)⟩
    · have HR := Lib.hid (Pl.fmtR_two hv h1)
      have hd := beq_eq_false_iff_ne.2 h1
      clear h1
      go_enter Tryd.func12, Tryd.ntmps12
      go_wp2_with fail
      refine (svalid_any _ _ _).mono ?_
      rintro e w1 ⟨rfl, hb1⟩
      have x0 : w1.cell? ⟨w.heap.size, 0, none⟩ = some (.int .i64 n) := (hb1.cell (by simp)).trans (by simp)
      have x1 : w1.cell? ⟨w.heap.size, 1, none⟩ = some (.int .i64 d) := (hb1.cell (by simp)).trans (by simp)
      have HB0 : Below w.heap.size w w1 := ((Below.refl _ _).alloc (Nat.le_refl _) _).trans (hb1.mono (by simp))
      have z0 : w.heap.size < w1.heap.size := by
        have := hb1.size
        simp at this
        omega
      rw [hv]
      clear hv hb1
      obtain ⟨A, hA⟩ : ∃ A : ByteArray, ⟨(Lib.itoa n).toArray⟩ = A := ⟨_, rfl⟩
      obtain ⟨D, hD⟩ : ∃ D : ByteArray, ⟨(Lib.itoa d).toArray⟩ = D := ⟨_, rfl⟩
      have sA : A.size ≤ 21 := by rw [← hA]; simpa [ByteArray.size] using l1
      have sD : D.size ≤ 21 := by rw [← hD]; simpa [ByteArray.size] using l2
      have HF : Hid (Value.string (A ++ ⟨#[47]⟩ ++ D) = .string ⟨(Pl.fmtR n d).toArray⟩) := by rw [← hA, ← hD, HR.out]; exact Pl.join_str _ _
      obtain ⟨AS, hAS⟩ : ∃ B : ByteArray, B = A ++ ⟨#[47]⟩ := ⟨_, rfl⟩
      have zAS : AS.size ≤ 22 := by
        rw [hAS, ByteArray.size_append]
        exact Nat.add_le_add sA (Nat.le_refl 1)
      obtain ⟨R, hR⟩ : ∃ B : ByteArray, B = AS ++ D := ⟨_, rfl⟩
      have q1 := fun W => run_string_add_sum (P := Tryd.prog) W A ⟨#[47]⟩ (Nat.le_trans (Nat.add_le_add sA (Nat.le_refl 1)) (by decide))
      have q2 := fun W => run_string_add_sum (P := Tryd.prog) W AS D (Nat.le_trans (Nat.add_le_add zAS sD) (by decide))
      rw [← hAS] at q1 HF
      rw [← hR] at q2 HF
      clear sA sD zAS hAS hR
      clear l1 l2
      go_upto_region 5 with fail
      go_cut [2] (fun s2 wx => s2 = .string ⟨(Pl.fmtR n d).toArray⟩ ∧ Below w1.heap.size w1 wx)
      case first =>
        go_region_held3 (fun w' => w'.cell? ⟨w.heap.size, 0, none⟩ = some (.int .i64 n) ∧ w'.cell? ⟨w.heap.size, 1, none⟩ = some (.int .i64 d) ∧ w.heap.size < w'.heap.size) (exact keep_box (by repeat (first | assumption | exact Below.refl _ _ | refine Below.drew ?_ | refine below_drewN ?_ _ | refine Below.alloc ?_ (by first | omega | (simp; done) | (simp; omega)) _ | refine Below.setCell ?_ (by first | omega | (simp; done) | (simp; omega)) _)) z0 x0 x1) ((go_at_call 10; refine (sfmtInt_any _ (by omega) (by omega) _).mono ?_; rintro e wA ⟨rfl, hb⟩; have HB : Below (w1.heap.size) (w1) wA := Below.trans (by repeat (first | assumption | exact Below.refl _ _ | refine Below.drew ?_ | refine below_drewN ?_ _ | refine Below.alloc ?_ (by first | omega | (simp; done) | (simp; omega)) _ | refine Below.setCell ?_ (by first | omega | (simp; done) | (simp; omega)) _)) (hb.mono (by first | omega | (simp; done) | (simp; omega))); have HS : w1.heap.size ≤ wA.heap.size := Nat.le_trans (by simp) HB.size; obtain ⟨hc, hf, hl, hm, hn⟩ := bfull hb; (try (have z : w1.heap.size < wA.heap.size := Nat.lt_of_lt_of_le (by first | omega | (simp; done) | (simp; omega)) hb.size))))
        all_goals
          go_wp2_with fail
          go_meet
          refine ⟨HF.out, by repeat (first | assumption | exact Below.refl _ _ | refine Below.drew ?_ | refine below_drewN ?_ _ | refine Below.alloc ?_ (by first | omega | (simp; done) | (simp; omega)) _ | refine Below.setCell ?_ (by first | omega | (simp; done) | (simp; omega)) _)⟩
      case rest =>
        obtain ⟨rfl, HC⟩ := hcut
        go_wp2
        go_ret
        exact ⟨rfl, HB0.trans (HC.mono HB0.size)⟩

set_option maxRecDepth 20000 in
theorem ifmtRat_any (n d : Int) (w : World) (ht : Tab w) : Calls Tryd.prog 14 #[.agg #[.int .i64 n, .int .i64 d]] w fun e w' => e = .returned (.string ⟨(Pl.fmtR n d).toArray⟩) ∧ Below w.heap.size w w' := by
  cases hv : Pl.valid n d
  · have HR := Lib.hid (Pl.fmtR_bad hv)
    go_enter Tryd.func14, Tryd.ntmps14
    go_wp2_with fail
    refine (ivalid_any _ _ _).mono ?_
    rintro e w1 ⟨rfl, hb1⟩
    have HB0 : Below w.heap.size w w1 := ((Below.refl _ _).alloc (Nat.le_refl _) _).trans (hb1.mono (by simp))
    rw [hv]
    clear hv hb1
    go_wp2
    go_ret
    exact ⟨Pl.ret_str (a := []) HR.out.symm, HB0⟩
  · obtain ⟨b1, b2, b3, b4⟩ := Pl.valid_bounds hv
    have l1 := Lib.itoa_length_le n (by omega) (by omega)
    have l2 := Lib.itoa_length_le d (by omega) (by omega)
    by_cases h1 : d = 1
    · have HR := Lib.hid (Pl.fmtR_one hv h1)
      have hd := beq_iff_eq.2 h1
      clear h1
      go_enter Tryd.func14, Tryd.ntmps14
      go_wp2_with fail
      refine (ivalid_any _ _ _).mono ?_
      rintro e w1 ⟨rfl, hb1⟩
      have x0 : w1.cell? ⟨w.heap.size, 0, none⟩ = some (.int .i64 n) := (hb1.cell (by simp)).trans (by simp)
      have x1 : w1.cell? ⟨w.heap.size, 1, none⟩ = some (.int .i64 d) := (hb1.cell (by simp)).trans (by simp)
      have HB0 : Below w.heap.size w w1 := ((Below.refl _ _).alloc (Nat.le_refl _) _).trans (hb1.mono (by simp))
      have ht := ht.below HB0
      rw [hv]
      clear hv hb1
      go_wp2_with fail
      refine (ifmtInt_any _ (by omega) (by omega) _ ht).mono ?_
      rintro e w2 ⟨rfl, hb2⟩
      go_wp2
      go_ret
      exact ⟨Pl.ret_str HR.out.symm, HB0.trans (hb2.mono HB0.size)⟩
    · have HR := Lib.hid (Pl.fmtR_two hv h1)
      have hd := beq_eq_false_iff_ne.2 h1
      clear h1
      go_enter Tryd.func14, Tryd.ntmps14
      go_wp2_with fail
      refine (ivalid_any _ _ _).mono ?_
      rintro e w1 ⟨rfl, hb1⟩
      have x0 : w1.cell? ⟨w.heap.size, 0, none⟩ = some (.int .i64 n) := (hb1.cell (by simp)).trans (by simp)
      have x1 : w1.cell? ⟨w.heap.size, 1, none⟩ = some (.int .i64 d) := (hb1.cell (by simp)).trans (by simp)
      have HB0 : Below w.heap.size w w1 := ((Below.refl _ _).alloc (Nat.le_refl _) _).trans (hb1.mono (by simp))
      have ht := ht.below HB0
      have z0 : w.heap.size < w1.heap.size := by
        have := hb1.size
        simp at this
        omega
      rw [hv]
      clear hv hb1
      obtain ⟨A, hA⟩ : ∃ A : ByteArray, ⟨(Lib.itoa n).toArray⟩ = A := ⟨_, rfl⟩
      obtain ⟨D, hD⟩ : ∃ D : ByteArray, ⟨(Lib.itoa d).toArray⟩ = D := ⟨_, rfl⟩
      have sA : A.size ≤ 21 := by rw [← hA]; simpa [ByteArray.size] using l1
      have sD : D.size ≤ 21 := by rw [← hD]; simpa [ByteArray.size] using l2
      have HF : Hid (Value.string (A ++ ⟨#[47]⟩ ++ D) = .string ⟨(Pl.fmtR n d).toArray⟩) := by rw [← hA, ← hD, HR.out]; exact Pl.join_str _ _
      obtain ⟨AS, hAS⟩ : ∃ B : ByteArray, B = A ++ ⟨#[47]⟩ := ⟨_, rfl⟩
      have zAS : AS.size ≤ 22 := by
        rw [hAS, ByteArray.size_append]
        exact Nat.add_le_add sA (Nat.le_refl 1)
      obtain ⟨R, hR⟩ : ∃ B : ByteArray, B = AS ++ D := ⟨_, rfl⟩
      have q1 := fun W => run_string_add_sum (P := Tryd.prog) W A ⟨#[47]⟩ (Nat.le_trans (Nat.add_le_add sA (Nat.le_refl 1)) (by decide))
      have q2 := fun W => run_string_add_sum (P := Tryd.prog) W AS D (Nat.le_trans (Nat.add_le_add zAS sD) (by decide))
      rw [← hAS] at q1 HF
      rw [← hR] at q2 HF
      clear sA sD zAS hAS hR
      clear l1 l2
      go_upto_region 5 with fail
      go_cut [2] (fun s2 wx => s2 = .string ⟨(Pl.fmtR n d).toArray⟩ ∧ Below w1.heap.size w1 wx)
      case first =>
        go_region_held3 (fun w' => w'.cell? ⟨w.heap.size, 0, none⟩ = some (.int .i64 n) ∧ w'.cell? ⟨w.heap.size, 1, none⟩ = some (.int .i64 d) ∧ w.heap.size < w'.heap.size) (exact keep_box (by repeat (first | assumption | exact Below.refl _ _ | refine Below.drew ?_ | refine below_drewN ?_ _ | refine Below.alloc ?_ (by first | omega | (simp; done) | (simp; omega)) _ | refine Below.setCell ?_ (by first | omega | (simp; done) | (simp; omega)) _)) z0 x0 x1) ((go_at_call 11; refine (ifmtInt_any _ (by omega) (by omega) _ (ht.below (by repeat (first | assumption | exact Below.refl _ _ | refine Below.drew ?_ | refine below_drewN ?_ _ | refine Below.alloc ?_ (by first | omega | (simp; done) | (simp; omega)) _ | refine Below.setCell ?_ (by first | omega | (simp; done) | (simp; omega)) _)))).mono ?_; rintro e wA ⟨rfl, hb⟩; have HB : Below (w1.heap.size) (w1) wA := Below.trans (by repeat (first | assumption | exact Below.refl _ _ | refine Below.drew ?_ | refine below_drewN ?_ _ | refine Below.alloc ?_ (by first | omega | (simp; done) | (simp; omega)) _ | refine Below.setCell ?_ (by first | omega | (simp; done) | (simp; omega)) _)) (hb.mono (by first | omega | (simp; done) | (simp; omega))); have HS : w1.heap.size ≤ wA.heap.size := Nat.le_trans (by simp) HB.size; obtain ⟨hc, hf, hl, hm, hn⟩ := bfull hb; (try (have z : w1.heap.size < wA.heap.size := Nat.lt_of_lt_of_le (by first | omega | (simp; done) | (simp; omega)) hb.size))))
        all_goals
          go_wp2_with fail
          go_meet
          refine ⟨HF.out, by repeat (first | assumption | exact Below.refl _ _ | refine Below.drew ?_ | refine below_drewN ?_ _ | refine Below.alloc ?_ (by first | omega | (simp; done) | (simp; omega)) _ | refine Below.setCell ?_ (by first | omega | (simp; done) | (simp; omega)) _)⟩
      case rest =>
        obtain ⟨rfl, HC⟩ := hcut
        go_wp2
        go_ret
        exact ⟨rfl, HB0.trans (HC.mono HB0.size)⟩

theorem fnExactFormatRat_walk (n d : Int) (_ : (Lit.int .i64 n).wf = true) (_ : (Lit.int .i64 d).wf = true) (w : World) (ht : Tab w) :
    Calls Tryd.prog 4 #[.agg #[.int .i64 n, .int .i64 d]] w fun e w' => e = .returned (.bool true) ∧ Below w.heap.size w w' := by
  go_enter Tryd.func4, Tryd.ntmps4
  go_wp2_with fail
  refine (toRat_any _ _ _).mono ?_
  rintro e w1 ⟨rfl, hb1⟩
  have x0 : w1.cell? ⟨w.heap.size, 0, none⟩ = some (.int .i64 n) := (hb1.cell (by simp)).trans (by simp)
  have x1 : w1.cell? ⟨w.heap.size, 1, none⟩ = some (.int .i64 d) := (hb1.cell (by simp)).trans (by simp)
  have H : Below w.heap.size w w1 := ((Below.refl _ _).alloc (Nat.le_refl _) _).trans (hb1.mono (by simp))
  have z0 : w.heap.size < w1.heap.size := by
    have := hb1.size
    simp at this
    omega
  clear hb1
  go_wp2_with fail
  refine (sfmtRat_any _ _ _).mono ?_
  rintro e w2 ⟨rfl, hb⟩
  obtain ⟨x0, x1, z0⟩ := keep_box hb z0 x0 x1
  have H := H.trans (hb.mono H.size)
  clear hb
  go_wp2_with fail
  refine (toRat_any _ _ _).mono ?_
  rintro e w3 ⟨rfl, hb⟩
  have H := H.trans (hb.mono H.size)
  have ht := ht.below H
  clear hb
  go_wp2_with fail
  refine (ifmtRat_any _ _ _ ht).mono ?_
  rintro e w4 ⟨rfl, hb⟩
  have H := H.trans (hb.mono H.size)
  go_wp2
  go_ret
  exact ⟨rfl, H⟩

end Go.Proofs.YtkhmepbdjdodmaaDoor
