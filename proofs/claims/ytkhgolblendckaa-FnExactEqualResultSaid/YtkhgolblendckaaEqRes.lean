/-
  Contracts of the laws' szLpResult, toLpResult, eqLpResult and of EqualResult, of the program and of the reference.
-/
import Derived.Test.YtkhgolblendckaaVecEq
import Derived.Test.YtkhgolblendckaaOpenVec
import Derived.Deep.Strs
namespace Go.Proofs.Ytkhgolblendckaa
open Go.RowKit
attribute [local go_sem ↓] Go.wp_at_zero Go.wp_at_succ

/-- the block g holds these cells, and may be stored into -/
def Bx (w : World) (g : Nat) (vs : List Value) : Prop := g < w.heap.size ∧ (∀ j v, vs[j]? = some v → w.cell? ⟨g, j, none⟩ = some v) ∧ ∀ j, w.frozen? ⟨g, j, none⟩ = false
theorem Bx.below {w w' : World} {g : Nat} {vs : List Value} (h : Bx w g vs) (hb : Below w.heap.size w w') : Bx w' g vs :=
  ⟨Nat.lt_of_lt_of_le h.1 hb.size, fun j v hv => (hb.cell (p := ⟨g, j, none⟩) h.1).trans (h.2.1 j v hv), fun j => (hb.frozen (p := ⟨g, j, none⟩) h.1).trans (h.2.2 j)⟩
theorem Bx.new (w : World) (cs : Array Value) (t : TypeId) : Bx (w.alloc (.cells cs t)) w.heap.size cs.toList :=
  ⟨by simp, fun j v hv => by simpa using hv, fun j => by simp⟩
theorem Bx.alloc {w : World} {g : Nat} {vs : List Value} (h : Bx w g vs) (o : Obj) : Bx (w.alloc o) g vs := h.below ((Below.refl _ _).alloc (Nat.le_refl _) o)
theorem Bx.set {w : World} {g k : Nat} {vs : List Value} (h : Bx w g vs) (hk : k < vs.length) (v : Value) : Bx (w.setCell ⟨g, k, none⟩ v) g (vs.set k v) := by
  refine ⟨by simpa [World.setCell] using h.1, fun j u hu => ?_, fun j => by rw [World.frozen?_setCell]; exact h.2.2 j⟩
  by_cases e : k = j
  · subst e
    rw [List.getElem?_set_self hk] at hu
    injection hu with hu
    subst hu
    exact World.cell?_setCell_same _ _ _ (h.2.1 k _ (List.getElem?_eq_getElem hk))
  · rw [List.getElem?_set_ne e] at hu
    rw [World.cell?_setCell_other _ _ _ _ (by intro e2; injection e2 with _ e3; exact e e3)]
    exact h.2.1 j u hu
theorem Bx.other {w : World} {g b k : Nat} {vs : List Value} (h : Bx w g vs) (hne : g ≠ b) (v : Value) : Bx (w.setCell ⟨b, k, none⟩ v) g vs :=
  ⟨by simpa [World.setCell] using h.1, fun j u hu => by rw [World.cell?_setCell_other _ _ _ _ (by intro e; injection e with e; exact hne e.symm)]; exact h.2.1 j u hu, fun j => by rw [World.frozen?_setCell]; exact h.2.2 j⟩

namespace Pl
def eqlr (ast avn avd apv : Int) (an1 an2 an3 : Nat) (aV1 aV2 aV3 : Fr) (bst bvn bvd bpv : Int) (bn1 bn2 bn3 : Nat) (bV1 bV2 bV3 : Fr) : Bool :=
  (ast == bst) && eqv an1 aV1 bn1 bV1 && eqv an2 aV2 bn2 bV2 && eqv an3 aV3 bn3 bV3 && (avn == bvn && avd == bvd) && (apv == bpv)
end Pl

theorem szLpr_any (ast avn avd apv : Int) (a1 a2 a3 : Option Addr) (an1 an2 an3 ac1 ac2 ac3 : Nat) (w : World) (left : Int) (hl0 : 0 ≤ left) (hl : left ≤ 1048576) (ha1 : (an1 : Int) ≤ 9223372036854775807) (ha2 : (an2 : Int) ≤ 9223372036854775807) (ha3 : (an3 : Int) ≤ 9223372036854775807) :
    Calls Try.prog 26 #[.agg #[.int .i64 ast, .slice a1 an1 ac1, .slice a2 an2 ac2, .slice a3 an3 ac3, .int .i64 avn, .int .i64 avd, .int .i64 apv], .int .i64 left] w fun e w' => ∃ v : Int, e = .returned (.int .i64 v) ∧ (v = -1 ∨ (0 ≤ v ∧ v ≤ left ∧ (an1 : Int) ≤ left ∧ (an2 : Int) ≤ left ∧ (an3 : Int) ≤ left)) ∧ Below w.heap.size w w' := by
  have HB := Lib.hid ((Below.refl w.heap.size w).alloc (Nat.le_refl _) (.cells #[.int .i64 ast, .slice a1 an1 ac1, .slice a2 an2 ac2, .slice a3 an3 ac3, .int .i64 avn, .int .i64 avd, .int .i64 apv] 41))
  by_cases h1 : 0 ≤ left - (an1 : Int)
  · have d1 := decide_eq_false (show ¬ left - (an1 : Int) < 0 by omega)
    by_cases h2 : 0 ≤ left - (an1 : Int) - (an2 : Int)
    · have d2 := decide_eq_false (show ¬ left - (an1 : Int) - (an2 : Int) < 0 by omega)
      by_cases h3 : 0 ≤ left - (an1 : Int) - (an2 : Int) - (an3 : Int)
      · have d3 := decide_eq_false (show ¬ left - (an1 : Int) - (an2 : Int) - (an3 : Int) < 0 by omega)
        go_enter Try.func26, Try.ntmps26
        go_wp2_with fail
        refine (szRatS_yes _ _ _ _ _ h1 (by omega)).mono ?_
        rintro e w1 ⟨rfl, rfl⟩
        go_wp2_with fail
        refine (szRatS_yes _ _ _ _ _ h2 (by omega)).mono ?_
        rintro e w1 ⟨rfl, rfl⟩
        go_wp2_with fail
        refine (szRatS_yes _ _ _ _ _ h3 (by omega)).mono ?_
        rintro e w1 ⟨rfl, rfl⟩
        go_wp2
        go_ret
        exact ⟨_, rfl, Or.inr ⟨h3, by omega, by omega, by omega, by omega⟩, HB.out⟩
      · go_enter Try.func26, Try.ntmps26
        go_wp2_with fail
        refine (szRatS_yes _ _ _ _ _ h1 (by omega)).mono ?_
        rintro e w1 ⟨rfl, rfl⟩
        go_wp2_with fail
        refine (szRatS_yes _ _ _ _ _ h2 (by omega)).mono ?_
        rintro e w1 ⟨rfl, rfl⟩
        go_wp2_with fail
        refine (szRatS_no _ _ _ _ _ (by omega) h2 (by omega) ha3).mono ?_
        rintro e w1 ⟨rfl, rfl⟩
        go_wp2
        go_ret
        exact ⟨_, rfl, Or.inl rfl, HB.out⟩
    · go_enter Try.func26, Try.ntmps26
      go_wp2_with fail
      refine (szRatS_yes _ _ _ _ _ h1 (by omega)).mono ?_
      rintro e w1 ⟨rfl, rfl⟩
      go_wp2_with fail
      refine (szRatS_no _ _ _ _ _ (by omega) h1 (by omega) ha2).mono ?_
      rintro e w1 ⟨rfl, rfl⟩
      go_wp2
      go_ret
      exact ⟨_, rfl, Or.inl rfl, HB.out⟩
  · go_enter Try.func26, Try.ntmps26
    go_wp2_with fail
    refine (szRatS_no _ _ _ _ _ (by omega) hl0 hl ha1).mono ?_
    rintro e w1 ⟨rfl, rfl⟩
    go_wp2
    go_ret
    exact ⟨_, rfl, Or.inl rfl, HB.out⟩

set_option maxRecDepth 20000 in
set_option maxHeartbeats 2000000 in
theorem toLpr_any (ast avn avd apv : Int) (a1 a2 a3 : Option Addr) (an1 an2 an3 ac1 ac2 ac3 : Nat) (aV1 aV2 aV3 : Fr) (B : Nat) (w : World) (ra1 : RdP w B a1 an1 aV1) (ra2 : RdP w B a2 an2 aV2) (ra3 : RdP w B a3 an3 aV3) (hB : B ≤ w.heap.size) (ha1 : an1 ≤ 1048576) (ha2 : an2 ≤ 1048576) (ha3 : an3 ≤ 1048576) :
    Calls Try.prog 28 #[.agg #[.int .i64 ast, .slice a1 an1 ac1, .slice a2 an2 ac2, .slice a3 an3 ac3, .int .i64 avn, .int .i64 avd, .int .i64 apv]] w fun e w' => ∃ X1 X2 X3, e = .returned (.agg #[.int .i64 ast, .slice X1 an1 an1, .slice X2 an2 an2, .slice X3 an3 an3, .int .i64 avn, .int .i64 avd, .int .i64 apv]) ∧ RdP w' w'.heap.size X1 an1 aV1 ∧ RdP w' w'.heap.size X2 an2 aV2 ∧ RdP w' w'.heap.size X3 an3 aV3 ∧ Below w.heap.size w w' := by
  have B1 : Bx (((w.alloc (.cells #[.int .i64 ast, .slice a1 an1 ac1, .slice a2 an2 ac2, .slice a3 an3 ac3, .int .i64 avn, .int .i64 avd, .int .i64 apv] 41)).alloc (.cells #[.int .i64 0, .slice none 0 0, .slice none 0 0, .slice none 0 0, .int .i64 0, .int .i64 0, .int .i64 0] 46)).alloc (.cells #[.int .i64 ast, .slice none 0 0, .slice none 0 0, .slice none 0 0, .int .i64 0, .int .i64 0, .int .i64 0] 46)) w.heap.size [.int .i64 ast, .slice a1 an1 ac1, .slice a2 an2 ac2, .slice a3 an3 ac3, .int .i64 avn, .int .i64 avd, .int .i64 apv] := ((Bx.new w #[.int .i64 ast, .slice a1 an1 ac1, .slice a2 an2 ac2, .slice a3 an3 ac3, .int .i64 avn, .int .i64 avd, .int .i64 apv] 41).alloc _).alloc _
  have B2 : Bx (((w.alloc (.cells #[.int .i64 ast, .slice a1 an1 ac1, .slice a2 an2 ac2, .slice a3 an3 ac3, .int .i64 avn, .int .i64 avd, .int .i64 apv] 41)).alloc (.cells #[.int .i64 0, .slice none 0 0, .slice none 0 0, .slice none 0 0, .int .i64 0, .int .i64 0, .int .i64 0] 46)).alloc (.cells #[.int .i64 ast, .slice none 0 0, .slice none 0 0, .slice none 0 0, .int .i64 0, .int .i64 0, .int .i64 0] 46)) (w.heap.size + 1) [.int .i64 0, .slice none 0 0, .slice none 0 0, .slice none 0 0, .int .i64 0, .int .i64 0, .int .i64 0] := by
    have h := (Bx.new (w.alloc (.cells #[.int .i64 ast, .slice a1 an1 ac1, .slice a2 an2 ac2, .slice a3 an3 ac3, .int .i64 avn, .int .i64 avd, .int .i64 apv] 41)) #[.int .i64 0, .slice none 0 0, .slice none 0 0, .slice none 0 0, .int .i64 0, .int .i64 0, .int .i64 0] 46).alloc (.cells #[.int .i64 ast, .slice none 0 0, .slice none 0 0, .slice none 0 0, .int .i64 0, .int .i64 0, .int .i64 0] 46)
    simpa using h
  have B3 : Bx (((w.alloc (.cells #[.int .i64 ast, .slice a1 an1 ac1, .slice a2 an2 ac2, .slice a3 an3 ac3, .int .i64 avn, .int .i64 avd, .int .i64 apv] 41)).alloc (.cells #[.int .i64 0, .slice none 0 0, .slice none 0 0, .slice none 0 0, .int .i64 0, .int .i64 0, .int .i64 0] 46)).alloc (.cells #[.int .i64 ast, .slice none 0 0, .slice none 0 0, .slice none 0 0, .int .i64 0, .int .i64 0, .int .i64 0] 46)) (w.heap.size + 1 + 1) [.int .i64 ast, .slice none 0 0, .slice none 0 0, .slice none 0 0, .int .i64 0, .int .i64 0, .int .i64 0] := by
    have h := Bx.new ((w.alloc (.cells #[.int .i64 ast, .slice a1 an1 ac1, .slice a2 an2 ac2, .slice a3 an3 ac3, .int .i64 avn, .int .i64 avd, .int .i64 apv] 41)).alloc (.cells #[.int .i64 0, .slice none 0 0, .slice none 0 0, .slice none 0 0, .int .i64 0, .int .i64 0, .int .i64 0] 46)) #[.int .i64 ast, .slice none 0 0, .slice none 0 0, .slice none 0 0, .int .i64 0, .int .i64 0, .int .i64 0] 46
    simpa using h
  have HB : Below w.heap.size w (((w.alloc (.cells #[.int .i64 ast, .slice a1 an1 ac1, .slice a2 an2 ac2, .slice a3 an3 ac3, .int .i64 avn, .int .i64 avd, .int .i64 apv] 41)).alloc (.cells #[.int .i64 0, .slice none 0 0, .slice none 0 0, .slice none 0 0, .int .i64 0, .int .i64 0, .int .i64 0] 46)).alloc (.cells #[.int .i64 ast, .slice none 0 0, .slice none 0 0, .slice none 0 0, .int .i64 0, .int .i64 0, .int .i64 0] 46)) := (((Below.refl _ _).alloc (Nat.le_refl _) _).alloc (by simp) _).alloc (by simp; omega) _
  go_enter Try.func28, Try.ntmps28
  have b1 := B3.1
  go_wp2_with fail
  refine (toRatS_any _ _ _ _ aV1 _ (ra1.below HB hB) (Nat.le_trans hB HB.size) (by omega)).mono ?_
  rintro e w1 ⟨X1, rfl, ow1, hb⟩
  have B1 := B1.below hb
  have B2 := B2.below hb
  have B3 := B3.below hb
  have HB := HB.trans (hb.mono HB.size)
  clear hb
  have x0 := B1.2.1 0 _ rfl
  have x1 := B1.2.1 1 _ rfl
  have x2 := B1.2.1 2 _ rfl
  have x3 := B1.2.1 3 _ rfl
  have x4 := B1.2.1 4 _ rfl
  have x5 := B1.2.1 5 _ rfl
  have x6 := B1.2.1 6 _ rfl
  have xz := B1.1
  have z0 := B3.2.1 0 _ rfl
  have z1 := B3.2.1 1 _ rfl
  have z2 := B3.2.1 2 _ rfl
  have z3 := B3.2.1 3 _ rfl
  have z4 := B3.2.1 4 _ rfl
  have z5 := B3.2.1 5 _ rfl
  have z6 := B3.2.1 6 _ rfl
  have zz := B3.1
  have zf := B3.2.2
  have B1 := B1.other (b := (w.heap.size + 1 + 1)) (k := 1) (by omega) (.slice X1 an1 an1)
  have B2 := B2.other (b := (w.heap.size + 1 + 1)) (k := 1) (by omega) (.slice X1 an1 an1)
  have B3 := B3.set (k := 1) (by simp) (.slice X1 an1 an1)
  have ow1 := ownsRow_setCell_below ow1 (a := ⟨(w.heap.size + 1 + 1), 1, none⟩) (by show (w.heap.size + 1 + 1) < _; omega) (.slice X1 an1 an1)
  have HB := HB.setCell (p := ⟨(w.heap.size + 1 + 1), 1, none⟩) (by show w.heap.size ≤ (w.heap.size + 1 + 1); omega) (.slice X1 an1 an1)
  have b2 := B3.1
  go_wp2_with fail
  refine (toRatS_any _ _ _ _ aV2 _ (ra2.below HB hB) (Nat.le_trans hB HB.size) (by omega)).mono ?_
  rintro e w2 ⟨X2, rfl, ow2, hb⟩
  have B1 := B1.below hb
  have B2 := B2.below hb
  have B3 := B3.below hb
  have ow1 := own_below ow1 hb
  have HB := HB.trans (hb.mono HB.size)
  clear hb
  have x0 := B1.2.1 0 _ rfl
  have x1 := B1.2.1 1 _ rfl
  have x2 := B1.2.1 2 _ rfl
  have x3 := B1.2.1 3 _ rfl
  have x4 := B1.2.1 4 _ rfl
  have x5 := B1.2.1 5 _ rfl
  have x6 := B1.2.1 6 _ rfl
  have xz := B1.1
  have z0 := B3.2.1 0 _ rfl
  have z1 := B3.2.1 1 _ rfl
  have z2 := B3.2.1 2 _ rfl
  have z3 := B3.2.1 3 _ rfl
  have z4 := B3.2.1 4 _ rfl
  have z5 := B3.2.1 5 _ rfl
  have z6 := B3.2.1 6 _ rfl
  have zz := B3.1
  have zf := B3.2.2
  have B1 := B1.other (b := (w.heap.size + 1 + 1)) (k := 2) (by omega) (.slice X2 an2 an2)
  have B2 := B2.other (b := (w.heap.size + 1 + 1)) (k := 2) (by omega) (.slice X2 an2 an2)
  have B3 := B3.set (k := 2) (by simp) (.slice X2 an2 an2)
  have ow1 := ownsRow_setCell_below ow1 (a := ⟨(w.heap.size + 1 + 1), 2, none⟩) (by show (w.heap.size + 1 + 1) < _; omega) (.slice X2 an2 an2)
  have ow2 := ownsRow_setCell_below ow2 (a := ⟨(w.heap.size + 1 + 1), 2, none⟩) (by show (w.heap.size + 1 + 1) < _; omega) (.slice X2 an2 an2)
  have HB := HB.setCell (p := ⟨(w.heap.size + 1 + 1), 2, none⟩) (by show w.heap.size ≤ (w.heap.size + 1 + 1); omega) (.slice X2 an2 an2)
  have b3 := B3.1
  go_wp2_with fail
  refine (toRatS_any _ _ _ _ aV3 _ (ra3.below HB hB) (Nat.le_trans hB HB.size) (by omega)).mono ?_
  rintro e w3 ⟨X3, rfl, ow3, hb⟩
  have B1 := B1.below hb
  have B2 := B2.below hb
  have B3 := B3.below hb
  have ow1 := own_below ow1 hb
  have ow2 := own_below ow2 hb
  have HB := HB.trans (hb.mono HB.size)
  clear hb
  have x0 := B1.2.1 0 _ rfl
  have x1 := B1.2.1 1 _ rfl
  have x2 := B1.2.1 2 _ rfl
  have x3 := B1.2.1 3 _ rfl
  have x4 := B1.2.1 4 _ rfl
  have x5 := B1.2.1 5 _ rfl
  have x6 := B1.2.1 6 _ rfl
  have xz := B1.1
  have z0 := B3.2.1 0 _ rfl
  have z1 := B3.2.1 1 _ rfl
  have z2 := B3.2.1 2 _ rfl
  have z3 := B3.2.1 3 _ rfl
  have z4 := B3.2.1 4 _ rfl
  have z5 := B3.2.1 5 _ rfl
  have z6 := B3.2.1 6 _ rfl
  have zz := B3.1
  have zf := B3.2.2
  have B1 := B1.other (b := (w.heap.size + 1 + 1)) (k := 3) (by omega) (.slice X3 an3 an3)
  have B2 := B2.other (b := (w.heap.size + 1 + 1)) (k := 3) (by omega) (.slice X3 an3 an3)
  have B3 := B3.set (k := 3) (by simp) (.slice X3 an3 an3)
  have ow1 := ownsRow_setCell_below ow1 (a := ⟨(w.heap.size + 1 + 1), 3, none⟩) (by show (w.heap.size + 1 + 1) < _; omega) (.slice X3 an3 an3)
  have ow2 := ownsRow_setCell_below ow2 (a := ⟨(w.heap.size + 1 + 1), 3, none⟩) (by show (w.heap.size + 1 + 1) < _; omega) (.slice X3 an3 an3)
  have ow3 := ownsRow_setCell_below ow3 (a := ⟨(w.heap.size + 1 + 1), 3, none⟩) (by show (w.heap.size + 1 + 1) < _; omega) (.slice X3 an3 an3)
  have HB := HB.setCell (p := ⟨(w.heap.size + 1 + 1), 3, none⟩) (by show w.heap.size ≤ (w.heap.size + 1 + 1); omega) (.slice X3 an3 an3)
  go_wp2_with fail
  refine (toRat_any _ _ _).mono ?_
  rintro e w4 ⟨rfl, hb⟩
  have B1 := B1.below hb
  have B2 := B2.below hb
  have B3 := B3.below hb
  have ow1 := own_below ow1 hb
  have ow2 := own_below ow2 hb
  have ow3 := own_below ow3 hb
  have HB := HB.trans (hb.mono HB.size)
  clear hb
  have x0 := B1.2.1 0 _ rfl
  have x1 := B1.2.1 1 _ rfl
  have x2 := B1.2.1 2 _ rfl
  have x3 := B1.2.1 3 _ rfl
  have x4 := B1.2.1 4 _ rfl
  have x5 := B1.2.1 5 _ rfl
  have x6 := B1.2.1 6 _ rfl
  have xz := B1.1
  have z0 := B3.2.1 0 _ rfl
  have z1 := B3.2.1 1 _ rfl
  have z2 := B3.2.1 2 _ rfl
  have z3 := B3.2.1 3 _ rfl
  have z4 := B3.2.1 4 _ rfl
  have z5 := B3.2.1 5 _ rfl
  have z6 := B3.2.1 6 _ rfl
  have zz := B3.1
  have zf := B3.2.2
  have y0 := B2.2.1 0 _ rfl
  have y1 := B2.2.1 1 _ rfl
  have y2 := B2.2.1 2 _ rfl
  have y3 := B2.2.1 3 _ rfl
  have y4 := B2.2.1 4 _ rfl
  have y5 := B2.2.1 5 _ rfl
  have y6 := B2.2.1 6 _ rfl
  have yz := B2.1
  have yf := B2.2.2
  have HH := Lib.hid B1
  clear B1
  have B2 := B2.other (b := (w.heap.size + 1 + 1)) (k := 4) (by omega) (.int .i64 avn)
  have ow1 := ownsRow_setCell_below ow1 (a := ⟨(w.heap.size + 1 + 1), 4, none⟩) (by show (w.heap.size + 1 + 1) < _; omega) (.int .i64 avn)
  have ow2 := ownsRow_setCell_below ow2 (a := ⟨(w.heap.size + 1 + 1), 4, none⟩) (by show (w.heap.size + 1 + 1) < _; omega) (.int .i64 avn)
  have ow3 := ownsRow_setCell_below ow3 (a := ⟨(w.heap.size + 1 + 1), 4, none⟩) (by show (w.heap.size + 1 + 1) < _; omega) (.int .i64 avn)
  have HB := HB.setCell (p := ⟨(w.heap.size + 1 + 1), 4, none⟩) (by show w.heap.size ≤ (w.heap.size + 1 + 1); omega) (.int .i64 avn)
  have B2 := B2.other (b := (w.heap.size + 1 + 1)) (k := 5) (by omega) (.int .i64 avd)
  have ow1 := ownsRow_setCell_below ow1 (a := ⟨(w.heap.size + 1 + 1), 5, none⟩) (by show (w.heap.size + 1 + 1) < _; omega) (.int .i64 avd)
  have ow2 := ownsRow_setCell_below ow2 (a := ⟨(w.heap.size + 1 + 1), 5, none⟩) (by show (w.heap.size + 1 + 1) < _; omega) (.int .i64 avd)
  have ow3 := ownsRow_setCell_below ow3 (a := ⟨(w.heap.size + 1 + 1), 5, none⟩) (by show (w.heap.size + 1 + 1) < _; omega) (.int .i64 avd)
  have HB := HB.setCell (p := ⟨(w.heap.size + 1 + 1), 5, none⟩) (by show w.heap.size ≤ (w.heap.size + 1 + 1); omega) (.int .i64 avd)
  have B2 := B2.other (b := (w.heap.size + 1 + 1)) (k := 6) (by omega) (.int .i64 apv)
  have ow1 := ownsRow_setCell_below ow1 (a := ⟨(w.heap.size + 1 + 1), 6, none⟩) (by show (w.heap.size + 1 + 1) < _; omega) (.int .i64 apv)
  have ow2 := ownsRow_setCell_below ow2 (a := ⟨(w.heap.size + 1 + 1), 6, none⟩) (by show (w.heap.size + 1 + 1) < _; omega) (.int .i64 apv)
  have ow3 := ownsRow_setCell_below ow3 (a := ⟨(w.heap.size + 1 + 1), 6, none⟩) (by show (w.heap.size + 1 + 1) < _; omega) (.int .i64 apv)
  have HB := HB.setCell (p := ⟨(w.heap.size + 1 + 1), 6, none⟩) (by show w.heap.size ≤ (w.heap.size + 1 + 1); omega) (.int .i64 apv)
  have B2 := B2.set (k := 0) (by simp) (.int .i64 ast)
  have ow1 := ownsRow_setCell_below ow1 (a := ⟨(w.heap.size + 1), 0, none⟩) (by show (w.heap.size + 1) < _; omega) (.int .i64 ast)
  have ow2 := ownsRow_setCell_below ow2 (a := ⟨(w.heap.size + 1), 0, none⟩) (by show (w.heap.size + 1) < _; omega) (.int .i64 ast)
  have ow3 := ownsRow_setCell_below ow3 (a := ⟨(w.heap.size + 1), 0, none⟩) (by show (w.heap.size + 1) < _; omega) (.int .i64 ast)
  have HB := HB.setCell (p := ⟨(w.heap.size + 1), 0, none⟩) (by show w.heap.size ≤ (w.heap.size + 1); omega) (.int .i64 ast)
  have B2 := B2.set (k := 1) (by simp) (.slice X1 an1 an1)
  have ow1 := ownsRow_setCell_below ow1 (a := ⟨(w.heap.size + 1), 1, none⟩) (by show (w.heap.size + 1) < _; omega) (.slice X1 an1 an1)
  have ow2 := ownsRow_setCell_below ow2 (a := ⟨(w.heap.size + 1), 1, none⟩) (by show (w.heap.size + 1) < _; omega) (.slice X1 an1 an1)
  have ow3 := ownsRow_setCell_below ow3 (a := ⟨(w.heap.size + 1), 1, none⟩) (by show (w.heap.size + 1) < _; omega) (.slice X1 an1 an1)
  have HB := HB.setCell (p := ⟨(w.heap.size + 1), 1, none⟩) (by show w.heap.size ≤ (w.heap.size + 1); omega) (.slice X1 an1 an1)
  have B2 := B2.set (k := 2) (by simp) (.slice X2 an2 an2)
  have ow1 := ownsRow_setCell_below ow1 (a := ⟨(w.heap.size + 1), 2, none⟩) (by show (w.heap.size + 1) < _; omega) (.slice X2 an2 an2)
  have ow2 := ownsRow_setCell_below ow2 (a := ⟨(w.heap.size + 1), 2, none⟩) (by show (w.heap.size + 1) < _; omega) (.slice X2 an2 an2)
  have ow3 := ownsRow_setCell_below ow3 (a := ⟨(w.heap.size + 1), 2, none⟩) (by show (w.heap.size + 1) < _; omega) (.slice X2 an2 an2)
  have HB := HB.setCell (p := ⟨(w.heap.size + 1), 2, none⟩) (by show w.heap.size ≤ (w.heap.size + 1); omega) (.slice X2 an2 an2)
  have B2 := B2.set (k := 3) (by simp) (.slice X3 an3 an3)
  have ow1 := ownsRow_setCell_below ow1 (a := ⟨(w.heap.size + 1), 3, none⟩) (by show (w.heap.size + 1) < _; omega) (.slice X3 an3 an3)
  have ow2 := ownsRow_setCell_below ow2 (a := ⟨(w.heap.size + 1), 3, none⟩) (by show (w.heap.size + 1) < _; omega) (.slice X3 an3 an3)
  have ow3 := ownsRow_setCell_below ow3 (a := ⟨(w.heap.size + 1), 3, none⟩) (by show (w.heap.size + 1) < _; omega) (.slice X3 an3 an3)
  have HB := HB.setCell (p := ⟨(w.heap.size + 1), 3, none⟩) (by show w.heap.size ≤ (w.heap.size + 1); omega) (.slice X3 an3 an3)
  have B2 := B2.set (k := 4) (by simp) (.int .i64 avn)
  have ow1 := ownsRow_setCell_below ow1 (a := ⟨(w.heap.size + 1), 4, none⟩) (by show (w.heap.size + 1) < _; omega) (.int .i64 avn)
  have ow2 := ownsRow_setCell_below ow2 (a := ⟨(w.heap.size + 1), 4, none⟩) (by show (w.heap.size + 1) < _; omega) (.int .i64 avn)
  have ow3 := ownsRow_setCell_below ow3 (a := ⟨(w.heap.size + 1), 4, none⟩) (by show (w.heap.size + 1) < _; omega) (.int .i64 avn)
  have HB := HB.setCell (p := ⟨(w.heap.size + 1), 4, none⟩) (by show w.heap.size ≤ (w.heap.size + 1); omega) (.int .i64 avn)
  have B2 := B2.set (k := 5) (by simp) (.int .i64 avd)
  have ow1 := ownsRow_setCell_below ow1 (a := ⟨(w.heap.size + 1), 5, none⟩) (by show (w.heap.size + 1) < _; omega) (.int .i64 avd)
  have ow2 := ownsRow_setCell_below ow2 (a := ⟨(w.heap.size + 1), 5, none⟩) (by show (w.heap.size + 1) < _; omega) (.int .i64 avd)
  have ow3 := ownsRow_setCell_below ow3 (a := ⟨(w.heap.size + 1), 5, none⟩) (by show (w.heap.size + 1) < _; omega) (.int .i64 avd)
  have HB := HB.setCell (p := ⟨(w.heap.size + 1), 5, none⟩) (by show w.heap.size ≤ (w.heap.size + 1); omega) (.int .i64 avd)
  have B2 := B2.set (k := 6) (by simp) (.int .i64 apv)
  have ow1 := ownsRow_setCell_below ow1 (a := ⟨(w.heap.size + 1), 6, none⟩) (by show (w.heap.size + 1) < _; omega) (.int .i64 apv)
  have ow2 := ownsRow_setCell_below ow2 (a := ⟨(w.heap.size + 1), 6, none⟩) (by show (w.heap.size + 1) < _; omega) (.int .i64 apv)
  have ow3 := ownsRow_setCell_below ow3 (a := ⟨(w.heap.size + 1), 6, none⟩) (by show (w.heap.size + 1) < _; omega) (.int .i64 apv)
  have HB := HB.setCell (p := ⟨(w.heap.size + 1), 6, none⟩) (by show w.heap.size ≤ (w.heap.size + 1); omega) (.int .i64 apv)
  have f0 := B2.2.1 0 _ rfl
  have f1 := B2.2.1 1 _ rfl
  have f2 := B2.2.1 2 _ rfl
  have f3 := B2.2.1 3 _ rfl
  have f4 := B2.2.1 4 _ rfl
  have f5 := B2.2.1 5 _ rfl
  have f6 := B2.2.1 6 _ rfl
  have q1 := Lib.hid (RdP.of_own ow1)
  have q2 := Lib.hid (RdP.of_own ow2)
  have q3 := Lib.hid (RdP.of_own ow3)
  have HBB := Lib.hid HB
  clear ow1 ow2 ow3 HB B2 B3
  go_wp2
  refine bodyPost_ret (v := .agg #[.int .i64 ast, .slice X1 an1 an1, .slice X2 an2 an2, .slice X3 an3 an3, .int .i64 avn, .int .i64 avd, .int .i64 apv]) (by simp [results, Try.results28, go_sem, f0, f1, f2, f3, f4, f5, f6]) rfl ⟨X1, X2, X3, rfl, q1.out, q2.out, q3.out, HBB.out⟩

theorem eqLpr_same (ast avn avd apv : Int) (a1 a2 a3 : Option Addr) (an1 an2 an3 ac1 ac2 ac3 : Nat) (aV1 aV2 aV3 : Fr) (b1 b2 b3 : Option Addr) (bc1 bc2 bc3 : Nat) (B : Nat) (w : World) (ra1 : RdP w B a1 an1 aV1) (ra2 : RdP w B a2 an2 aV2) (ra3 : RdP w B a3 an3 aV3) (rb1 : RdP w B b1 an1 aV1) (rb2 : RdP w B b2 an2 aV2) (rb3 : RdP w B b3 an3 aV3) (hB : B ≤ w.heap.size) (ha1 : an1 ≤ 1048576) (ha2 : an2 ≤ 1048576) (ha3 : an3 ≤ 1048576) :
    Calls Try.prog 30 #[.agg #[.int .i64 ast, .slice a1 an1 ac1, .slice a2 an2 ac2, .slice a3 an3 ac3, .int .i64 avn, .int .i64 avd, .int .i64 apv], .agg #[.int .i64 ast, .slice b1 an1 bc1, .slice b2 an2 bc2, .slice b3 an3 bc3, .int .i64 avn, .int .i64 avd, .int .i64 apv]] w fun e w' => e = .returned (.bool true) ∧ Below w.heap.size w w' := by
  have BA : Bx ((w.alloc (.cells #[.int .i64 ast, .slice a1 an1 ac1, .slice a2 an2 ac2, .slice a3 an3 ac3, .int .i64 avn, .int .i64 avd, .int .i64 apv] 46)).alloc (.cells #[.int .i64 ast, .slice b1 an1 bc1, .slice b2 an2 bc2, .slice b3 an3 bc3, .int .i64 avn, .int .i64 avd, .int .i64 apv] 46)) w.heap.size [.int .i64 ast, .slice a1 an1 ac1, .slice a2 an2 ac2, .slice a3 an3 ac3, .int .i64 avn, .int .i64 avd, .int .i64 apv] := (Bx.new w #[.int .i64 ast, .slice a1 an1 ac1, .slice a2 an2 ac2, .slice a3 an3 ac3, .int .i64 avn, .int .i64 avd, .int .i64 apv] 46).alloc _
  have BB : Bx ((w.alloc (.cells #[.int .i64 ast, .slice a1 an1 ac1, .slice a2 an2 ac2, .slice a3 an3 ac3, .int .i64 avn, .int .i64 avd, .int .i64 apv] 46)).alloc (.cells #[.int .i64 ast, .slice b1 an1 bc1, .slice b2 an2 bc2, .slice b3 an3 bc3, .int .i64 avn, .int .i64 avd, .int .i64 apv] 46)) (w.heap.size + 1) [.int .i64 ast, .slice b1 an1 bc1, .slice b2 an2 bc2, .slice b3 an3 bc3, .int .i64 avn, .int .i64 avd, .int .i64 apv] := by
    have h := Bx.new (w.alloc (.cells #[.int .i64 ast, .slice a1 an1 ac1, .slice a2 an2 ac2, .slice a3 an3 ac3, .int .i64 avn, .int .i64 avd, .int .i64 apv] 46)) #[.int .i64 ast, .slice b1 an1 bc1, .slice b2 an2 bc2, .slice b3 an3 bc3, .int .i64 avn, .int .i64 avd, .int .i64 apv] 46
    simpa using h
  have HB : Below w.heap.size w ((w.alloc (.cells #[.int .i64 ast, .slice a1 an1 ac1, .slice a2 an2 ac2, .slice a3 an3 ac3, .int .i64 avn, .int .i64 avd, .int .i64 apv] 46)).alloc (.cells #[.int .i64 ast, .slice b1 an1 bc1, .slice b2 an2 bc2, .slice b3 an3 bc3, .int .i64 avn, .int .i64 avd, .int .i64 apv] 46)) := ((Below.refl _ _).alloc (Nat.le_refl _) _).alloc (by simp) _
  have ra1 := ra1.below HB hB
  have ra2 := ra2.below HB hB
  have ra3 := ra3.below HB hB
  have rb1 := rb1.below HB hB
  have rb2 := rb2.below HB hB
  have rb3 := rb3.below HB hB
  have hB := Nat.le_trans hB HB.size
  go_enter Try.func30, Try.ntmps30
  go_wp2_with fail
  refine (eqRatS_same _ _ _ _ _ _ aV1 _ ra1 rb1 hB (by omega)).mono ?_
  rintro e w1 ⟨rfl, hb⟩
  have BA := BA.below hb
  have BB := BB.below hb
  have HB := HB.trans (hb.mono HB.size)
  have ra2 := ra2.below hb hB
  have ra3 := ra3.below hb hB
  have rb2 := rb2.below hb hB
  have rb3 := rb3.below hb hB
  have hB := Nat.le_trans hB hb.size
  clear hb
  have x0 := BA.2.1 0 _ rfl
  have x1 := BA.2.1 1 _ rfl
  have x2 := BA.2.1 2 _ rfl
  have x3 := BA.2.1 3 _ rfl
  have x4 := BA.2.1 4 _ rfl
  have x5 := BA.2.1 5 _ rfl
  have x6 := BA.2.1 6 _ rfl
  have xz := BA.1
  have y0 := BB.2.1 0 _ rfl
  have y1 := BB.2.1 1 _ rfl
  have y2 := BB.2.1 2 _ rfl
  have y3 := BB.2.1 3 _ rfl
  have y4 := BB.2.1 4 _ rfl
  have y5 := BB.2.1 5 _ rfl
  have y6 := BB.2.1 6 _ rfl
  have yz := BB.1
  go_wp2_with fail
  refine (eqRatS_same _ _ _ _ _ _ aV2 _ ra2 rb2 hB (by omega)).mono ?_
  rintro e w2 ⟨rfl, hb⟩
  have BA := BA.below hb
  have BB := BB.below hb
  have HB := HB.trans (hb.mono HB.size)
  have ra3 := ra3.below hb hB
  have rb3 := rb3.below hb hB
  have hB := Nat.le_trans hB hb.size
  clear hb
  have x0 := BA.2.1 0 _ rfl
  have x1 := BA.2.1 1 _ rfl
  have x2 := BA.2.1 2 _ rfl
  have x3 := BA.2.1 3 _ rfl
  have x4 := BA.2.1 4 _ rfl
  have x5 := BA.2.1 5 _ rfl
  have x6 := BA.2.1 6 _ rfl
  have xz := BA.1
  have y0 := BB.2.1 0 _ rfl
  have y1 := BB.2.1 1 _ rfl
  have y2 := BB.2.1 2 _ rfl
  have y3 := BB.2.1 3 _ rfl
  have y4 := BB.2.1 4 _ rfl
  have y5 := BB.2.1 5 _ rfl
  have y6 := BB.2.1 6 _ rfl
  have yz := BB.1
  go_wp2_with fail
  refine (eqRatS_same _ _ _ _ _ _ aV3 _ ra3 rb3 hB (by omega)).mono ?_
  rintro e w3 ⟨rfl, hb⟩
  have BA := BA.below hb
  have BB := BB.below hb
  have HB := HB.trans (hb.mono HB.size)
  have hB := Nat.le_trans hB hb.size
  clear hb
  have x0 := BA.2.1 0 _ rfl
  have x1 := BA.2.1 1 _ rfl
  have x2 := BA.2.1 2 _ rfl
  have x3 := BA.2.1 3 _ rfl
  have x4 := BA.2.1 4 _ rfl
  have x5 := BA.2.1 5 _ rfl
  have x6 := BA.2.1 6 _ rfl
  have xz := BA.1
  have y0 := BB.2.1 0 _ rfl
  have y1 := BB.2.1 1 _ rfl
  have y2 := BB.2.1 2 _ rfl
  have y3 := BB.2.1 3 _ rfl
  have y4 := BB.2.1 4 _ rfl
  have y5 := BB.2.1 5 _ rfl
  have y6 := BB.2.1 6 _ rfl
  have yz := BB.1
  go_wp2_with fail
  refine (eqRat_any _ _ _ _ _).mono ?_
  rintro e w4 ⟨rfl, hb⟩
  have BA := BA.below hb
  have BB := BB.below hb
  have HB := HB.trans (hb.mono HB.size)
  clear hb
  simp only [beq_self_eq_true, Bool.and_self]
  have x0 := BA.2.1 0 _ rfl
  have x1 := BA.2.1 1 _ rfl
  have x2 := BA.2.1 2 _ rfl
  have x3 := BA.2.1 3 _ rfl
  have x4 := BA.2.1 4 _ rfl
  have x5 := BA.2.1 5 _ rfl
  have x6 := BA.2.1 6 _ rfl
  have xz := BA.1
  have y0 := BB.2.1 0 _ rfl
  have y1 := BB.2.1 1 _ rfl
  have y2 := BB.2.1 2 _ rfl
  have y3 := BB.2.1 3 _ rfl
  have y4 := BB.2.1 4 _ rfl
  have y5 := BB.2.1 5 _ rfl
  have y6 := BB.2.1 6 _ rfl
  have yz := BB.1
  go_wp2
  go_ret
  exact ⟨rfl, HB⟩

theorem iEqR_any (ast avn avd apv : Int) (a1 a2 a3 : Option Addr) (an1 an2 an3 ac1 ac2 ac3 : Nat) (aV1 aV2 aV3 : Fr) (bst bvn bvd bpv : Int) (b1 b2 b3 : Option Addr) (bn1 bn2 bn3 bc1 bc2 bc3 : Nat) (bV1 bV2 bV3 : Fr) (B : Nat) (w : World) (ra1 : RdP w B a1 an1 aV1) (ra2 : RdP w B a2 an2 aV2) (ra3 : RdP w B a3 an3 aV3) (rb1 : RdP w B b1 bn1 bV1) (rb2 : RdP w B b2 bn2 bV2) (rb3 : RdP w B b3 bn3 bV3) (hB : B ≤ w.heap.size) (ha1 : an1 ≤ 1048576) (ha2 : an2 ≤ 1048576) (ha3 : an3 ≤ 1048576) (hb1 : bn1 ≤ 1048576) (hb2 : bn2 ≤ 1048576) (hb3 : bn3 ≤ 1048576) :
    Calls Try.prog 29 #[.agg #[.int .i64 ast, .slice a1 an1 ac1, .slice a2 an2 ac2, .slice a3 an3 ac3, .int .i64 avn, .int .i64 avd, .int .i64 apv], .agg #[.int .i64 bst, .slice b1 bn1 bc1, .slice b2 bn2 bc2, .slice b3 bn3 bc3, .int .i64 bvn, .int .i64 bvd, .int .i64 bpv]] w fun e w' => e = .returned (.bool (Pl.eqlr ast avn avd apv an1 an2 an3 aV1 aV2 aV3 bst bvn bvd bpv bn1 bn2 bn3 bV1 bV2 bV3)) ∧ Below w.heap.size w w' := by
  have BA : Bx ((w.alloc (.cells #[.int .i64 ast, .slice a1 an1 ac1, .slice a2 an2 ac2, .slice a3 an3 ac3, .int .i64 avn, .int .i64 avd, .int .i64 apv] 46)).alloc (.cells #[.int .i64 bst, .slice b1 bn1 bc1, .slice b2 bn2 bc2, .slice b3 bn3 bc3, .int .i64 bvn, .int .i64 bvd, .int .i64 bpv] 46)) w.heap.size [.int .i64 ast, .slice a1 an1 ac1, .slice a2 an2 ac2, .slice a3 an3 ac3, .int .i64 avn, .int .i64 avd, .int .i64 apv] := (Bx.new w #[.int .i64 ast, .slice a1 an1 ac1, .slice a2 an2 ac2, .slice a3 an3 ac3, .int .i64 avn, .int .i64 avd, .int .i64 apv] 46).alloc _
  have BB : Bx ((w.alloc (.cells #[.int .i64 ast, .slice a1 an1 ac1, .slice a2 an2 ac2, .slice a3 an3 ac3, .int .i64 avn, .int .i64 avd, .int .i64 apv] 46)).alloc (.cells #[.int .i64 bst, .slice b1 bn1 bc1, .slice b2 bn2 bc2, .slice b3 bn3 bc3, .int .i64 bvn, .int .i64 bvd, .int .i64 bpv] 46)) (w.heap.size + 1) [.int .i64 bst, .slice b1 bn1 bc1, .slice b2 bn2 bc2, .slice b3 bn3 bc3, .int .i64 bvn, .int .i64 bvd, .int .i64 bpv] := by
    have h := Bx.new (w.alloc (.cells #[.int .i64 ast, .slice a1 an1 ac1, .slice a2 an2 ac2, .slice a3 an3 ac3, .int .i64 avn, .int .i64 avd, .int .i64 apv] 46)) #[.int .i64 bst, .slice b1 bn1 bc1, .slice b2 bn2 bc2, .slice b3 bn3 bc3, .int .i64 bvn, .int .i64 bvd, .int .i64 bpv] 46
    simpa using h
  have HB : Below w.heap.size w ((w.alloc (.cells #[.int .i64 ast, .slice a1 an1 ac1, .slice a2 an2 ac2, .slice a3 an3 ac3, .int .i64 avn, .int .i64 avd, .int .i64 apv] 46)).alloc (.cells #[.int .i64 bst, .slice b1 bn1 bc1, .slice b2 bn2 bc2, .slice b3 bn3 bc3, .int .i64 bvn, .int .i64 bvd, .int .i64 bpv] 46)) := ((Below.refl _ _).alloc (Nat.le_refl _) _).alloc (by simp) _
  have ra1 := ra1.below HB hB
  have ra2 := ra2.below HB hB
  have ra3 := ra3.below HB hB
  have rb1 := rb1.below HB hB
  have rb2 := rb2.below HB hB
  have rb3 := rb3.below HB hB
  have hB := Nat.le_trans hB HB.size
  obtain ⟨e1, he1⟩ : ∃ b, (ast == bst) = b := ⟨_, rfl⟩
  have E1 := fun B w h1 h2 hB => slicesEqual_any a1 b1 an1 bn1 ac1 bc1 B aV1 bV1 w h1 h2 hB (by omega) (by omega)
  obtain ⟨v1, hv1⟩ : ∃ v, Pl.eqv an1 aV1 bn1 bV1 = v := ⟨_, rfl⟩
  simp only [hv1] at E1
  have E1 := Lib.hid E1
  have E2 := fun B w h1 h2 hB => slicesEqual_any a2 b2 an2 bn2 ac2 bc2 B aV2 bV2 w h1 h2 hB (by omega) (by omega)
  obtain ⟨v2, hv2⟩ : ∃ v, Pl.eqv an2 aV2 bn2 bV2 = v := ⟨_, rfl⟩
  simp only [hv2] at E2
  have E2 := Lib.hid E2
  have E3 := fun B w h1 h2 hB => slicesEqual_any a3 b3 an3 bn3 ac3 bc3 B aV3 bV3 w h1 h2 hB (by omega) (by omega)
  obtain ⟨v3, hv3⟩ : ∃ v, Pl.eqv an3 aV3 bn3 bV3 = v := ⟨_, rfl⟩
  simp only [hv3] at E3
  have E3 := Lib.hid E3
  have HR : Pl.eqlr ast avn avd apv an1 an2 an3 aV1 aV2 aV3 bst bvn bvd bpv bn1 bn2 bn3 bV1 bV2 bV3 = (e1 && v1 && v2 && v3 && (avn == bvn && avd == bvd) && (apv == bpv)) := by rw [Pl.eqlr, he1, hv1, hv2, hv3]
  rw [HR]
  clear HR hv1 hv2 hv3
  have x0 := BA.2.1 0 _ rfl
  have x1 := BA.2.1 1 _ rfl
  have x2 := BA.2.1 2 _ rfl
  have x3 := BA.2.1 3 _ rfl
  have x4 := BA.2.1 4 _ rfl
  have x5 := BA.2.1 5 _ rfl
  have x6 := BA.2.1 6 _ rfl
  have xz := BA.1
  have y0 := BB.2.1 0 _ rfl
  have y1 := BB.2.1 1 _ rfl
  have y2 := BB.2.1 2 _ rfl
  have y3 := BB.2.1 3 _ rfl
  have y4 := BB.2.1 4 _ rfl
  have y5 := BB.2.1 5 _ rfl
  have y6 := BB.2.1 6 _ rfl
  have yz := BB.1
  cases e1
  · go_enter Try.func29, Try.ntmps29
    go_wp2
    go_ret
    exact ⟨by simp, HB⟩
  · go_enter Try.func29, Try.ntmps29
    go_wp2_with fail
    refine (E1.out _ _ ra1 rb1 hB).mono ?_
    rintro e w1 ⟨rfl, hb⟩
    have BA := BA.below hb
    have BB := BB.below hb
    have HB := HB.trans (hb.mono HB.size)
    have ra2 := ra2.below hb hB
    have ra3 := ra3.below hb hB
    have rb2 := rb2.below hb hB
    have rb3 := rb3.below hb hB
    have hB := Nat.le_trans hB hb.size
    clear hb
    have x0 := BA.2.1 0 _ rfl
    have x1 := BA.2.1 1 _ rfl
    have x2 := BA.2.1 2 _ rfl
    have x3 := BA.2.1 3 _ rfl
    have x4 := BA.2.1 4 _ rfl
    have x5 := BA.2.1 5 _ rfl
    have x6 := BA.2.1 6 _ rfl
    have xz := BA.1
    have y0 := BB.2.1 0 _ rfl
    have y1 := BB.2.1 1 _ rfl
    have y2 := BB.2.1 2 _ rfl
    have y3 := BB.2.1 3 _ rfl
    have y4 := BB.2.1 4 _ rfl
    have y5 := BB.2.1 5 _ rfl
    have y6 := BB.2.1 6 _ rfl
    have yz := BB.1
    cases v1
    · go_wp2
      go_ret
      exact ⟨by simp, HB⟩
    · go_wp2_with fail
      refine (E2.out _ _ ra2 rb2 hB).mono ?_
      rintro e w2 ⟨rfl, hb⟩
      have BA := BA.below hb
      have BB := BB.below hb
      have HB := HB.trans (hb.mono HB.size)
      have ra3 := ra3.below hb hB
      have rb3 := rb3.below hb hB
      have hB := Nat.le_trans hB hb.size
      clear hb
      have x0 := BA.2.1 0 _ rfl
      have x1 := BA.2.1 1 _ rfl
      have x2 := BA.2.1 2 _ rfl
      have x3 := BA.2.1 3 _ rfl
      have x4 := BA.2.1 4 _ rfl
      have x5 := BA.2.1 5 _ rfl
      have x6 := BA.2.1 6 _ rfl
      have xz := BA.1
      have y0 := BB.2.1 0 _ rfl
      have y1 := BB.2.1 1 _ rfl
      have y2 := BB.2.1 2 _ rfl
      have y3 := BB.2.1 3 _ rfl
      have y4 := BB.2.1 4 _ rfl
      have y5 := BB.2.1 5 _ rfl
      have y6 := BB.2.1 6 _ rfl
      have yz := BB.1
      cases v2
      · go_wp2
        go_ret
        exact ⟨by simp, HB⟩
      · go_wp2_with fail
        refine (E3.out _ _ ra3 rb3 hB).mono ?_
        rintro e w3 ⟨rfl, hb⟩
        have BA := BA.below hb
        have BB := BB.below hb
        have HB := HB.trans (hb.mono HB.size)
        have hB := Nat.le_trans hB hb.size
        clear hb
        have x0 := BA.2.1 0 _ rfl
        have x1 := BA.2.1 1 _ rfl
        have x2 := BA.2.1 2 _ rfl
        have x3 := BA.2.1 3 _ rfl
        have x4 := BA.2.1 4 _ rfl
        have x5 := BA.2.1 5 _ rfl
        have x6 := BA.2.1 6 _ rfl
        have xz := BA.1
        have y0 := BB.2.1 0 _ rfl
        have y1 := BB.2.1 1 _ rfl
        have y2 := BB.2.1 2 _ rfl
        have y3 := BB.2.1 3 _ rfl
        have y4 := BB.2.1 4 _ rfl
        have y5 := BB.2.1 5 _ rfl
        have y6 := BB.2.1 6 _ rfl
        have yz := BB.1
        cases v3
        · go_wp2
          go_ret
          exact ⟨by simp, HB⟩
        · have HBF := Lib.hid HB
          by_cases p1 : avn = bvn
          · subst p1
            by_cases p2 : avd = bvd
            · subst p2
              by_cases p3 : apv = bpv
              · subst p3
                go_wp2
                go_ret
                exact ⟨by first | (simp; done) | (simp [*]; done), HBF.out⟩
              · have k3 := beq_eq_false_iff_ne.2 p3
                go_wp2
                go_ret
                exact ⟨by first | (simp; done) | (simp [*]; done), HBF.out⟩
            · have k2 := beq_eq_false_iff_ne.2 p2
              go_wp2
              go_ret
              exact ⟨by first | (simp; done) | (simp [*]; done), HBF.out⟩
          · have k1 := beq_eq_false_iff_ne.2 p1
            go_wp2
            go_ret
            exact ⟨by first | (simp; done) | (simp [*]; done), HBF.out⟩

theorem sEqR_any (ast avn avd apv : Int) (a1 a2 a3 : Option Addr) (an1 an2 an3 ac1 ac2 ac3 : Nat) (aV1 aV2 aV3 : Fr) (bst bvn bvd bpv : Int) (b1 b2 b3 : Option Addr) (bn1 bn2 bn3 bc1 bc2 bc3 : Nat) (bV1 bV2 bV3 : Fr) (B : Nat) (w : World) (ra1 : RdP w B a1 an1 aV1) (ra2 : RdP w B a2 an2 aV2) (ra3 : RdP w B a3 an3 aV3) (rb1 : RdP w B b1 bn1 bV1) (rb2 : RdP w B b2 bn2 bV2) (rb3 : RdP w B b3 bn3 bV3) (hB : B ≤ w.heap.size) (ha1 : an1 ≤ 1048576) (ha2 : an2 ≤ 1048576) (ha3 : an3 ≤ 1048576) (hb1 : bn1 ≤ 1048576) (hb2 : bn2 ≤ 1048576) (hb3 : bn3 ≤ 1048576) :
    Calls Try.prog 27 #[.agg #[.int .i64 ast, .slice a1 an1 ac1, .slice a2 an2 ac2, .slice a3 an3 ac3, .int .i64 avn, .int .i64 avd, .int .i64 apv], .agg #[.int .i64 bst, .slice b1 bn1 bc1, .slice b2 bn2 bc2, .slice b3 bn3 bc3, .int .i64 bvn, .int .i64 bvd, .int .i64 bpv]] w fun e w' => e = .returned (.bool (Pl.eqlr ast avn avd apv an1 an2 an3 aV1 aV2 aV3 bst bvn bvd bpv bn1 bn2 bn3 bV1 bV2 bV3)) ∧ Below w.heap.size w w' := by
  have BA : Bx ((w.alloc (.cells #[.int .i64 ast, .slice a1 an1 ac1, .slice a2 an2 ac2, .slice a3 an3 ac3, .int .i64 avn, .int .i64 avd, .int .i64 apv] 46)).alloc (.cells #[.int .i64 bst, .slice b1 bn1 bc1, .slice b2 bn2 bc2, .slice b3 bn3 bc3, .int .i64 bvn, .int .i64 bvd, .int .i64 bpv] 46)) w.heap.size [.int .i64 ast, .slice a1 an1 ac1, .slice a2 an2 ac2, .slice a3 an3 ac3, .int .i64 avn, .int .i64 avd, .int .i64 apv] := (Bx.new w #[.int .i64 ast, .slice a1 an1 ac1, .slice a2 an2 ac2, .slice a3 an3 ac3, .int .i64 avn, .int .i64 avd, .int .i64 apv] 46).alloc _
  have BB : Bx ((w.alloc (.cells #[.int .i64 ast, .slice a1 an1 ac1, .slice a2 an2 ac2, .slice a3 an3 ac3, .int .i64 avn, .int .i64 avd, .int .i64 apv] 46)).alloc (.cells #[.int .i64 bst, .slice b1 bn1 bc1, .slice b2 bn2 bc2, .slice b3 bn3 bc3, .int .i64 bvn, .int .i64 bvd, .int .i64 bpv] 46)) (w.heap.size + 1) [.int .i64 bst, .slice b1 bn1 bc1, .slice b2 bn2 bc2, .slice b3 bn3 bc3, .int .i64 bvn, .int .i64 bvd, .int .i64 bpv] := by
    have h := Bx.new (w.alloc (.cells #[.int .i64 ast, .slice a1 an1 ac1, .slice a2 an2 ac2, .slice a3 an3 ac3, .int .i64 avn, .int .i64 avd, .int .i64 apv] 46)) #[.int .i64 bst, .slice b1 bn1 bc1, .slice b2 bn2 bc2, .slice b3 bn3 bc3, .int .i64 bvn, .int .i64 bvd, .int .i64 bpv] 46
    simpa using h
  have HB : Below w.heap.size w ((w.alloc (.cells #[.int .i64 ast, .slice a1 an1 ac1, .slice a2 an2 ac2, .slice a3 an3 ac3, .int .i64 avn, .int .i64 avd, .int .i64 apv] 46)).alloc (.cells #[.int .i64 bst, .slice b1 bn1 bc1, .slice b2 bn2 bc2, .slice b3 bn3 bc3, .int .i64 bvn, .int .i64 bvd, .int .i64 bpv] 46)) := ((Below.refl _ _).alloc (Nat.le_refl _) _).alloc (by simp) _
  have ra1 := ra1.below HB hB
  have ra2 := ra2.below HB hB
  have ra3 := ra3.below HB hB
  have rb1 := rb1.below HB hB
  have rb2 := rb2.below HB hB
  have rb3 := rb3.below HB hB
  have hB := Nat.le_trans hB HB.size
  obtain ⟨e1, he1⟩ : ∃ b, (ast == bst) = b := ⟨_, rfl⟩
  have E1 := fun B w h1 h2 hB => sEqualVector_any a1 b1 an1 bn1 ac1 bc1 B aV1 bV1 w h1 h2 hB (by omega) (by omega)
  obtain ⟨v1, hv1⟩ : ∃ v, Pl.eqv an1 aV1 bn1 bV1 = v := ⟨_, rfl⟩
  simp only [hv1] at E1
  have E1 := Lib.hid E1
  have E2 := fun B w h1 h2 hB => sEqualVector_any a2 b2 an2 bn2 ac2 bc2 B aV2 bV2 w h1 h2 hB (by omega) (by omega)
  obtain ⟨v2, hv2⟩ : ∃ v, Pl.eqv an2 aV2 bn2 bV2 = v := ⟨_, rfl⟩
  simp only [hv2] at E2
  have E2 := Lib.hid E2
  have E3 := fun B w h1 h2 hB => sEqualVector_any a3 b3 an3 bn3 ac3 bc3 B aV3 bV3 w h1 h2 hB (by omega) (by omega)
  obtain ⟨v3, hv3⟩ : ∃ v, Pl.eqv an3 aV3 bn3 bV3 = v := ⟨_, rfl⟩
  simp only [hv3] at E3
  have E3 := Lib.hid E3
  have HR : Pl.eqlr ast avn avd apv an1 an2 an3 aV1 aV2 aV3 bst bvn bvd bpv bn1 bn2 bn3 bV1 bV2 bV3 = (e1 && v1 && v2 && v3 && (avn == bvn && avd == bvd) && (apv == bpv)) := by rw [Pl.eqlr, he1, hv1, hv2, hv3]
  rw [HR]
  clear HR hv1 hv2 hv3
  have x0 := BA.2.1 0 _ rfl
  have x1 := BA.2.1 1 _ rfl
  have x2 := BA.2.1 2 _ rfl
  have x3 := BA.2.1 3 _ rfl
  have x4 := BA.2.1 4 _ rfl
  have x5 := BA.2.1 5 _ rfl
  have x6 := BA.2.1 6 _ rfl
  have xz := BA.1
  have y0 := BB.2.1 0 _ rfl
  have y1 := BB.2.1 1 _ rfl
  have y2 := BB.2.1 2 _ rfl
  have y3 := BB.2.1 3 _ rfl
  have y4 := BB.2.1 4 _ rfl
  have y5 := BB.2.1 5 _ rfl
  have y6 := BB.2.1 6 _ rfl
  have yz := BB.1
  cases e1
  · go_enter Try.func27, Try.ntmps27
    go_wp2
    go_ret
    exact ⟨by simp, HB⟩
  · go_enter Try.func27, Try.ntmps27
    go_wp2_with fail
    refine (E1.out _ _ ra1 rb1 hB).mono ?_
    rintro e w1 ⟨rfl, hb⟩
    have BA := BA.below hb
    have BB := BB.below hb
    have HB := HB.trans (hb.mono HB.size)
    have ra2 := ra2.below hb hB
    have ra3 := ra3.below hb hB
    have rb2 := rb2.below hb hB
    have rb3 := rb3.below hb hB
    have hB := Nat.le_trans hB hb.size
    clear hb
    have x0 := BA.2.1 0 _ rfl
    have x1 := BA.2.1 1 _ rfl
    have x2 := BA.2.1 2 _ rfl
    have x3 := BA.2.1 3 _ rfl
    have x4 := BA.2.1 4 _ rfl
    have x5 := BA.2.1 5 _ rfl
    have x6 := BA.2.1 6 _ rfl
    have xz := BA.1
    have y0 := BB.2.1 0 _ rfl
    have y1 := BB.2.1 1 _ rfl
    have y2 := BB.2.1 2 _ rfl
    have y3 := BB.2.1 3 _ rfl
    have y4 := BB.2.1 4 _ rfl
    have y5 := BB.2.1 5 _ rfl
    have y6 := BB.2.1 6 _ rfl
    have yz := BB.1
    cases v1
    · go_wp2
      go_ret
      exact ⟨by simp, HB⟩
    · go_wp2_with fail
      refine (E2.out _ _ ra2 rb2 hB).mono ?_
      rintro e w2 ⟨rfl, hb⟩
      have BA := BA.below hb
      have BB := BB.below hb
      have HB := HB.trans (hb.mono HB.size)
      have ra3 := ra3.below hb hB
      have rb3 := rb3.below hb hB
      have hB := Nat.le_trans hB hb.size
      clear hb
      have x0 := BA.2.1 0 _ rfl
      have x1 := BA.2.1 1 _ rfl
      have x2 := BA.2.1 2 _ rfl
      have x3 := BA.2.1 3 _ rfl
      have x4 := BA.2.1 4 _ rfl
      have x5 := BA.2.1 5 _ rfl
      have x6 := BA.2.1 6 _ rfl
      have xz := BA.1
      have y0 := BB.2.1 0 _ rfl
      have y1 := BB.2.1 1 _ rfl
      have y2 := BB.2.1 2 _ rfl
      have y3 := BB.2.1 3 _ rfl
      have y4 := BB.2.1 4 _ rfl
      have y5 := BB.2.1 5 _ rfl
      have y6 := BB.2.1 6 _ rfl
      have yz := BB.1
      cases v2
      · go_wp2
        go_ret
        exact ⟨by simp, HB⟩
      · go_wp2_with fail
        refine (E3.out _ _ ra3 rb3 hB).mono ?_
        rintro e w3 ⟨rfl, hb⟩
        have BA := BA.below hb
        have BB := BB.below hb
        have HB := HB.trans (hb.mono HB.size)
        have hB := Nat.le_trans hB hb.size
        clear hb
        have x0 := BA.2.1 0 _ rfl
        have x1 := BA.2.1 1 _ rfl
        have x2 := BA.2.1 2 _ rfl
        have x3 := BA.2.1 3 _ rfl
        have x4 := BA.2.1 4 _ rfl
        have x5 := BA.2.1 5 _ rfl
        have x6 := BA.2.1 6 _ rfl
        have xz := BA.1
        have y0 := BB.2.1 0 _ rfl
        have y1 := BB.2.1 1 _ rfl
        have y2 := BB.2.1 2 _ rfl
        have y3 := BB.2.1 3 _ rfl
        have y4 := BB.2.1 4 _ rfl
        have y5 := BB.2.1 5 _ rfl
        have y6 := BB.2.1 6 _ rfl
        have yz := BB.1
        cases v3
        · go_wp2
          go_ret
          exact ⟨by simp, HB⟩
        · have HBF := Lib.hid HB
          by_cases p1 : avn = bvn
          · subst p1
            by_cases p2 : avd = bvd
            · subst p2
              by_cases p3 : apv = bpv
              · subst p3
                go_wp2
                go_ret
                exact ⟨by first | (simp; done) | (simp [*]; done), HBF.out⟩
              · have k3 := beq_eq_false_iff_ne.2 p3
                go_wp2
                go_ret
                exact ⟨by first | (simp; done) | (simp [*]; done), HBF.out⟩
            · have k2 := beq_eq_false_iff_ne.2 p2
              go_wp2
              go_ret
              exact ⟨by first | (simp; done) | (simp [*]; done), HBF.out⟩
          · have k1 := beq_eq_false_iff_ne.2 p1
            go_wp2
            go_ret
            exact ⟨by first | (simp; done) | (simp [*]; done), HBF.out⟩

end Go.Proofs.Ytkhgolblendckaa
