/-
  Plain law: products of vectors are linear, where they fit; no program in sight.
-/
import Derived.Test.YtkhmepbdjdodmaaDoorFieldPlain
import Derived.Test.YtkhmepbdjdodmaaDoorDot
import Derived.Test.YtkhmepbdjdodmaaDoorAddSc
namespace Go.Proofs.YtkhmepbdjdodmaaDoor.Pl
open Go.RowKit

/-- the fraction as a rational number -/
def qq (n d : Int) : Rat := Rat.divInt n d
theorem rat_q {n d : Int} (h : (rat n d).2.2 = true) : qq (rat n d).1 (rat n d).2.1 = qq n d := by
  obtain ⟨e, hd⟩ := rat_val h
  obtain ⟨p, _, _, _⟩ := valid_bounds (rat_valid h)
  exact (Rat.divInt_eq_divInt_iff (by omega) hd).2 e
theorem add_q {a b c d : Int} (h : (add a b c d).2.2 = true) : qq (add a b c d).1 (add a b c d).2.1 = qq a b + qq c d ∧ valid (add a b c d).1 (add a b c d).2.1 = true := by
  obtain ⟨va, vc, e⟩ := add_ok h
  obtain ⟨p1, _, _, _⟩ := valid_bounds va
  obtain ⟨p2, _, _, _⟩ := valid_bounds vc
  rw [e] at h ⊢
  refine ⟨?_, rat_valid h⟩
  rw [rat_q h]
  exact (Rat.divInt_add_divInt a c (by omega) (by omega)).symm
theorem mul_q {a b c d : Int} (h : (mul a b c d).2.2 = true) : qq (mul a b c d).1 (mul a b c d).2.1 = qq a b * qq c d := by
  obtain ⟨_, _, e⟩ := mul_ok h
  rw [e] at h ⊢
  rw [rat_q h]
  exact (Rat.divInt_mul_divInt a c).symm
def sumQ (V1 V2 : Fr) : Nat → Rat
  | 0 => 0
  | j + 1 => sumQ V1 V2 j + qq (V1 j).1 (V1 j).2 * qq (V2 j).1 (V2 j).2
theorem dot_q {V1 V2 : Fr} : ∀ {j : Nat}, (dotTo V1 V2 j).2.2 = true → qq (dotTo V1 V2 j).1 (dotTo V1 V2 j).2.1 = sumQ V1 V2 j ∧ valid (dotTo V1 V2 j).1 (dotTo V1 V2 j).2.1 = true
  | 0, _ => ⟨by show Rat.divInt 0 1 = 0; exact Rat.zero_divInt 1, by show valid 0 1 = true; decide +kernel⟩
  | j + 1, h => by
    simp only [dotTo] at h ⊢
    split at h
    · rename_i hc
      rw [if_pos hc]
      simp only [Bool.and_eq_true] at hc
      obtain ⟨⟨h1, h2⟩, h3⟩ := hc
      obtain ⟨e1, _⟩ := dot_q h1
      have e2 := mul_q h2
      obtain ⟨e3, v3⟩ := add_q h3
      refine ⟨?_, v3⟩
      show qq _ _ = _
      rw [e3, e1, e2]
      rfl
    · cases h
theorem scAll_at {V1 V2 : Fr} {x y : Int} : ∀ {n : Nat}, scAll V1 x y V2 n = true → ∀ j, j < n → qq (scV V1 x y V2 j).1 (scV V1 x y V2 j).2 = qq (V1 j).1 (V1 j).2 + qq x y * qq (V2 j).1 (V2 j).2
  | 0, _, j, hj => absurd hj (Nat.not_lt_zero _)
  | n + 1, h, j, hj => by
    simp only [scAll, Bool.and_eq_true] at h
    obtain ⟨h1, h2, h3⟩ := h
    rcases Nat.lt_or_ge j n with hlt | hge
    · exact scAll_at h1 j hlt
    · obtain rfl : j = n := by omega
      have e1 := mul_q (a := x) (b := y) (c := (V2 j).1) (d := (V2 j).2) h2
      obtain ⟨e2, _⟩ := add_q (a := (V1 j).1) (b := (V1 j).2) (c := (scM x y V2 j).1) (d := (scM x y V2 j).2.1) h3
      show qq (scA V1 x y V2 j).1 (scA V1 x y V2 j).2.1 = _
      rw [show qq (scA V1 x y V2 j).1 (scA V1 x y V2 j).2.1 = qq (V1 j).1 (V1 j).2 + qq (scM x y V2 j).1 (scM x y V2 j).2.1 from e2]
      rw [show qq (scM x y V2 j).1 (scM x y V2 j).2.1 = qq x y * qq (V2 j).1 (V2 j).2 from e1]
theorem lin_step (y z a b k o : Rat) : (y + k * z) + (a + k * b) * o = (y + a * o) + k * (z + b * o) := by grind
theorem sum_lin {V1 V2 O : Fr} {x y : Int} {n : Nat} (h : scAll V1 x y V2 n = true) : ∀ j, j ≤ n → sumQ (scV V1 x y V2) O j = sumQ V1 O j + qq x y * sumQ V2 O j
  | 0, _ => by
    show (0 : Rat) = 0 + qq x y * 0
    grind
  | j + 1, hj => by
    simp only [sumQ]
    rw [sum_lin h j (by omega), scAll_at h j (by omega)]
    exact lin_step _ _ _ _ _ _
/-- products are linear -/
theorem vec_lin {V1 V2 O : Fr} {x y : Int} {n1 n2 : Nat} (h0 : scOk n1 V1 x y n2 V2 = true) (h1 : (dot n1 (scV V1 x y V2) n1 O).2.2 = true) (h2 : (dot n1 V1 n1 O).2.2 = true) (h3 : (dot n2 V2 n1 O).2.2 = true)
    (h4 : (mul x y (dot n2 V2 n1 O).1 (dot n2 V2 n1 O).2.1).2.2 = true)
    (h5 : (add (dot n1 V1 n1 O).1 (dot n1 V1 n1 O).2.1 (mul x y (dot n2 V2 n1 O).1 (dot n2 V2 n1 O).2.1).1 (mul x y (dot n2 V2 n1 O).1 (dot n2 V2 n1 O).2.1).2.1).2.2 = true) :
    (dot n1 (scV V1 x y V2) n1 O).1 = (add (dot n1 V1 n1 O).1 (dot n1 V1 n1 O).2.1 (mul x y (dot n2 V2 n1 O).1 (dot n2 V2 n1 O).2.1).1 (mul x y (dot n2 V2 n1 O).1 (dot n2 V2 n1 O).2.1).2.1).1 ∧
    (dot n1 (scV V1 x y V2) n1 O).2.1 = (add (dot n1 V1 n1 O).1 (dot n1 V1 n1 O).2.1 (mul x y (dot n2 V2 n1 O).1 (dot n2 V2 n1 O).2.1).1 (mul x y (dot n2 V2 n1 O).1 (dot n2 V2 n1 O).2.1).2.1).2.1 := by
  simp only [scOk, Bool.and_eq_true, decide_eq_true_eq] at h0
  obtain ⟨rfl, hs⟩ := h0
  simp only [dot_same] at h1 h2 h3 h4 h5 ⊢
  obtain ⟨e1, v1⟩ := dot_q h1
  obtain ⟨e5, v5⟩ := add_q h5
  have e4 := mul_q h4
  have hx : qq (dotTo (scV V1 x y V2) O n1).1 (dotTo (scV V1 x y V2) O n1).2.1 = qq (add (dotTo V1 O n1).1 (dotTo V1 O n1).2.1 (mul x y (dotTo V2 O n1).1 (dotTo V2 O n1).2.1).1 (mul x y (dotTo V2 O n1).1 (dotTo V2 O n1).2.1).2.1).1 (add (dotTo V1 O n1).1 (dotTo V1 O n1).2.1 (mul x y (dotTo V2 O n1).1 (dotTo V2 O n1).2.1).1 (mul x y (dotTo V2 O n1).1 (dotTo V2 O n1).2.1).2.1).2.1 := by
    rw [e5, e4, e1, (dot_q h2).1, (dot_q h3).1]
    exact sum_lin hs n1 (Nat.le_refl _)
  obtain ⟨p1, _, _, _⟩ := valid_bounds v1
  obtain ⟨p5, _, _, _⟩ := valid_bounds v5
  exact valid_same v1 v5 ((Rat.divInt_eq_divInt_iff (by omega) (by omega)).1 hx)
theorem eqTo_refl (V : Fr) : ∀ n : Nat, eqTo V V n = true
  | 0 => rfl
  | n + 1 => by simp [eqTo, eqAt, eqTo_refl V n]
theorem eqv_refl (n : Nat) (V : Fr) : eqv n V n V = true := by rw [eqv_same, eqTo_refl]

end Go.Proofs.YtkhmepbdjdodmaaDoor.Pl
