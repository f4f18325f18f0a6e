/-
  The law FnExactDotRat walked: it returns true.
-/
import Derived.Test.YtkhgolblendckaaDot
namespace Go.Proofs.Ytkhgolblendckaa
open Go.RowKit

theorem fnExactDotRat_walk {w : World} (A1 : Option Addr) (n1 c1 : Nat) (V1 : Fr) (hn1 : n1 ≤ maxLen) (ra : RdP w w.heap.size A1 n1 V1) (_ : ∀ j, j < n1 → (Lit.int .i64 (V1 j).1).wf = true ∧ (Lit.int .i64 (V1 j).2).wf = true)
    (A2 : Option Addr) (n2 c2 : Nat) (V2 : Fr) (hn2 : n2 ≤ maxLen) (rb : RdP w w.heap.size A2 n2 V2) (_ : ∀ j, j < n2 → (Lit.int .i64 (V2 j).1).wf = true ∧ (Lit.int .i64 (V2 j).2).wf = true) :
    Calls Try.prog 7 #[.slice A1 n1 c1, .slice A2 n2 c2] w fun e w' => e = .returned (.bool true) ∧ Below w.heap.size w w' := by
  have m1 : n1 ≤ 9223372036854775807 := by simpa [maxLen] using hn1
  have m2 : n2 ≤ 9223372036854775807 := by simpa [maxLen] using hn2
  clear hn1 hn2
  by_cases hy1 : (0 : Int) ≤ 1048576 - n1
  · have hd1 := decide_eq_false (show ¬ (1048576 - (n1 : Int)) < 0 by omega)
    by_cases hy2 : (0 : Int) ≤ 1048576 - n1 - n2
    · have hd2 := decide_eq_false (show ¬ (1048576 - (n1 : Int) - (n2 : Int)) < 0 by omega)
      have DS := Lib.hid (And.intro (fun A1 A2 c1 c2 B W h1 h2 hB => sDot_any A1 A2 n1 n2 c1 c2 B V1 V2 W h1 h2 hB (by omega) (by omega)) (fun A1 A2 c1 c2 B W h1 h2 hB => iDot_any A1 A2 n1 n2 c1 c2 B V1 V2 W h1 h2 hB (by omega) (by omega)))
      obtain ⟨dd, hdd⟩ : ∃ d, d = Pl.dot n1 V1 n2 V2 := ⟨_, rfl⟩
      rw [← hdd] at DS
      clear hdd
      obtain ⟨dx, dy, dk⟩ := dd
      go_enter Try.func7, Try.ntmps7
      have H := Below.refl w.heap.size w
      go_wp2_with fail
      refine (szRatS_yes _ _ _ _ _ hy1 (by omega)).mono ?_
      rintro e w1 ⟨rfl, rfl⟩
      go_wp2_with fail
      refine (szRatS_yes _ _ _ _ _ hy2 (by omega)).mono ?_
      rintro e w2 ⟨rfl, rfl⟩
      go_wp2_with fail
      refine (toRatS_any _ _ _ _ V1 _ ra (Nat.le_refl _) (by omega)).mono ?_
      rintro e w3 ⟨X1, rfl, ow, hb⟩
      have ra := (ra.below hb (Nat.le_refl _)).more hb.size
      have rb := (rb.below hb (Nat.le_refl _)).more hb.size
      have H := H.trans (hb.mono H.size)
      have r1 := RdP.of_own ow
      clear ow
      clear hb
      go_wp2_with fail
      refine (toRatS_any _ _ _ _ V2 _ rb (Nat.le_refl _) (by omega)).mono ?_
      rintro e w4 ⟨X2, rfl, ow, hb⟩
      have ra := (ra.below hb (Nat.le_refl _)).more hb.size
      have rb := (rb.below hb (Nat.le_refl _)).more hb.size
      have r1 := (r1.below hb (Nat.le_refl _)).more hb.size
      have H := H.trans (hb.mono H.size)
      have r2 := RdP.of_own ow
      clear ow
      clear hb
      go_wp2_with fail
      refine (DS.out.1 _ _ _ _ _ _ r1 r2 (Nat.le_refl _)).mono ?_
      rintro e w5 ⟨rfl, hb⟩
      have ra := (ra.below hb (Nat.le_refl _)).more hb.size
      have rb := (rb.below hb (Nat.le_refl _)).more hb.size
      have r1 := (r1.below hb (Nat.le_refl _)).more hb.size
      have r2 := (r2.below hb (Nat.le_refl _)).more hb.size
      have H := H.trans (hb.mono H.size)
      clear hb
      go_wp2_with fail
      refine (toRatS_any _ _ _ _ V1 _ (ra.below ((Below.refl _ _).alloc (Nat.le_refl _) _) (Nat.le_refl _)) (by simp) (by omega)).mono ?_
      rintro e w6 ⟨X3, rfl, ow, hb⟩
      have b6 : Box w6 w5.heap.size dx dy := Box.below (w := w5.alloc _) ⟨by simp, by simp, by simp, by simp, by simp⟩ hb
      have hb : Below w5.heap.size w5 w6 := ((Below.refl _ _).alloc (Nat.le_refl _) _).trans (hb.mono (by simp))
      have ra := (ra.below hb (Nat.le_refl _)).more hb.size
      have rb := (rb.below hb (Nat.le_refl _)).more hb.size
      have r1 := (r1.below hb (Nat.le_refl _)).more hb.size
      have r2 := (r2.below hb (Nat.le_refl _)).more hb.size
      have H := H.trans (hb.mono H.size)
      have r3 := RdP.of_own ow
      clear ow
      clear hb
      go_wp2_with fail
      refine (toRatS_any _ _ _ _ V2 _ rb (Nat.le_refl _) (by omega)).mono ?_
      rintro e w7 ⟨X4, rfl, ow, hb⟩
      have ra := (ra.below hb (Nat.le_refl _)).more hb.size
      have rb := (rb.below hb (Nat.le_refl _)).more hb.size
      have r1 := (r1.below hb (Nat.le_refl _)).more hb.size
      have r2 := (r2.below hb (Nat.le_refl _)).more hb.size
      have r3 := (r3.below hb (Nat.le_refl _)).more hb.size
      have b6 := b6.below hb
      have H := H.trans (hb.mono H.size)
      have r4 := RdP.of_own ow
      clear ow
      clear hb
      go_wp2_with fail
      refine (DS.out.2 _ _ _ _ _ _ r3 r4 (Nat.le_refl _)).mono ?_
      rintro e w8 ⟨rfl, hb⟩
      have ra := (ra.below hb (Nat.le_refl _)).more hb.size
      have rb := (rb.below hb (Nat.le_refl _)).more hb.size
      have r1 := (r1.below hb (Nat.le_refl _)).more hb.size
      have r2 := (r2.below hb (Nat.le_refl _)).more hb.size
      have r3 := (r3.below hb (Nat.le_refl _)).more hb.size
      have r4 := (r4.below hb (Nat.le_refl _)).more hb.size
      have b6 := b6.below hb
      have H := H.trans (hb.mono H.size)
      clear hb
      obtain ⟨y0, y1, y2, y3, y4⟩ := id b6
      go_wp2_with fail
      refine (eqRat_any _ _ _ _ _).mono ?_
      rintro e w9 ⟨rfl, hb⟩
      simp only [beq_self_eq_true, Bool.and_self]
      have b10 : Box w9 w8.heap.size dx dy := Box.below (w := w8.alloc _) ⟨by simp, by simp, by simp, by simp, by simp⟩ hb
      have hb : Below w8.heap.size w8 w9 := ((Below.refl _ _).alloc (Nat.le_refl _) _).trans (hb.mono (by simp))
      have ra := (ra.below hb (Nat.le_refl _)).more hb.size
      have rb := (rb.below hb (Nat.le_refl _)).more hb.size
      have r1 := (r1.below hb (Nat.le_refl _)).more hb.size
      have r2 := (r2.below hb (Nat.le_refl _)).more hb.size
      have r3 := (r3.below hb (Nat.le_refl _)).more hb.size
      have r4 := (r4.below hb (Nat.le_refl _)).more hb.size
      have b6 := b6.below hb
      have H := H.trans (hb.mono H.size)
      clear hb
      go_wp2_with fail
      refine (toRatS_any _ _ _ _ V1 _ ra (Nat.le_refl _) (by omega)).mono ?_
      rintro e w10 ⟨X5, rfl, ow, hb⟩
      have ra := (ra.below hb (Nat.le_refl _)).more hb.size
      have rb := (rb.below hb (Nat.le_refl _)).more hb.size
      have r1 := (r1.below hb (Nat.le_refl _)).more hb.size
      have r2 := (r2.below hb (Nat.le_refl _)).more hb.size
      have r3 := (r3.below hb (Nat.le_refl _)).more hb.size
      have r4 := (r4.below hb (Nat.le_refl _)).more hb.size
      have b6 := b6.below hb
      have b10 := b10.below hb
      have H := H.trans (hb.mono H.size)
      have r5 := RdP.of_own ow
      clear ow
      clear hb
      go_wp2_with fail
      refine (eqRatS_same _ _ _ _ _ _ V1 _ r3 r5 (Nat.le_refl _) (by omega)).mono ?_
      rintro e w11 ⟨rfl, hb⟩
      have ra := (ra.below hb (Nat.le_refl _)).more hb.size
      have rb := (rb.below hb (Nat.le_refl _)).more hb.size
      have r1 := (r1.below hb (Nat.le_refl _)).more hb.size
      have r2 := (r2.below hb (Nat.le_refl _)).more hb.size
      have r3 := (r3.below hb (Nat.le_refl _)).more hb.size
      have r4 := (r4.below hb (Nat.le_refl _)).more hb.size
      have r5 := (r5.below hb (Nat.le_refl _)).more hb.size
      have b6 := b6.below hb
      have b10 := b10.below hb
      have H := H.trans (hb.mono H.size)
      clear hb
      go_wp2_with fail
      refine (toRatS_any _ _ _ _ V2 _ rb (Nat.le_refl _) (by omega)).mono ?_
      rintro e w12 ⟨X6, rfl, ow, hb⟩
      have ra := (ra.below hb (Nat.le_refl _)).more hb.size
      have rb := (rb.below hb (Nat.le_refl _)).more hb.size
      have r1 := (r1.below hb (Nat.le_refl _)).more hb.size
      have r2 := (r2.below hb (Nat.le_refl _)).more hb.size
      have r3 := (r3.below hb (Nat.le_refl _)).more hb.size
      have r4 := (r4.below hb (Nat.le_refl _)).more hb.size
      have r5 := (r5.below hb (Nat.le_refl _)).more hb.size
      have b6 := b6.below hb
      have b10 := b10.below hb
      have H := H.trans (hb.mono H.size)
      have r6 := RdP.of_own ow
      clear ow
      clear hb
      go_wp2_with fail
      refine (eqRatS_same _ _ _ _ _ _ V2 _ r4 r6 (Nat.le_refl _) (by omega)).mono ?_
      rintro e w13 ⟨rfl, hb⟩
      have ra := (ra.below hb (Nat.le_refl _)).more hb.size
      have rb := (rb.below hb (Nat.le_refl _)).more hb.size
      have r1 := (r1.below hb (Nat.le_refl _)).more hb.size
      have r2 := (r2.below hb (Nat.le_refl _)).more hb.size
      have r3 := (r3.below hb (Nat.le_refl _)).more hb.size
      have r4 := (r4.below hb (Nat.le_refl _)).more hb.size
      have r5 := (r5.below hb (Nat.le_refl _)).more hb.size
      have r6 := (r6.below hb (Nat.le_refl _)).more hb.size
      have b6 := b6.below hb
      have b10 := b10.below hb
      have H := H.trans (hb.mono H.size)
      clear hb
      go_wp2
      go_ret
      exact ⟨rfl, H⟩
    · go_enter Try.func7, Try.ntmps7
      go_wp2_with fail
      refine (szRatS_yes _ _ _ _ _ hy1 (by omega)).mono ?_
      rintro e w1 ⟨rfl, rfl⟩
      go_wp2_with fail
      refine (szRatS_no _ _ _ _ _ (by omega) hy1 (by omega) (by omega)).mono ?_
      rintro e w1 ⟨rfl, rfl⟩
      go_wp2
      go_ret
      exact ⟨rfl, Below.refl _ _⟩
  · go_enter Try.func7, Try.ntmps7
    go_wp2_with fail
    refine (szRatS_no _ _ _ _ _ (by omega) (by omega) (by omega) (by omega)).mono ?_
    rintro e w1 ⟨rfl, rfl⟩
    go_wp2
    go_ret
    exact ⟨rfl, Below.refl _ _⟩

end Go.Proofs.Ytkhgolblendckaa
