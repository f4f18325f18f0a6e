/-
  Contracts of the laws' szTableau, toTableau, eqTableau; a tableau that came in, read field by field.
-/
import Derived.Test.YtajafmdeencohaaTab
import Derived.Test.YtajafmdeencohaaOpenVec
namespace Go.Proofs.Ytajafmdeencohaa
open Go.RowKit Go.ChangeShapes Go.WideShapes
attribute [local go_sem ↓] Go.wp_at_zero Go.wp_at_succ

theorem szTab_any (aR aBs : Option Addr) (arn arc abn abc : Nat) (acols : Int) (aRA : Nat → Option Addr) (aRN aRC : Nat → Nat) (aRV : Nat → Fr) (B : Nat) (w : World) (arr : RdR w B aR arn aRA aRN aRC aRV) (hB : B ≤ w.heap.size) (left : Int) (hl0 : 0 ≤ left) (hl : left ≤ 1048576) (hn : (arn : Int) ≤ 9223372036854775807) (hz : ∀ j, j < arn → (aRN j : Int) ≤ 9223372036854775807) (hbn : (abn : Int) ≤ 9223372036854775807) :
    Calls Try.prog 10 #[.agg #[.slice aR arn arc, .slice aBs abn abc, .int .i64 acols], .int .i64 left] w fun e w' => ∃ v : Int, e = .returned (.int .i64 v) ∧ (v = -1 ∨ (0 ≤ v ∧ v ≤ left ∧ (arn : Int) ≤ left ∧ (∀ j, j < arn → (aRN j : Int) ≤ left) ∧ (abn : Int) ≤ left)) ∧ Below w.heap.size w w' := by
  have HB := Lib.hid ((Below.refl w.heap.size w).alloc (Nat.le_refl _) (.cells #[.slice aR arn arc, .slice aBs abn abc, .int .i64 acols] 25))
  have SZ := Lib.hid (szRatSS_any aR arn arc B aRA aRN aRC aRV left (w.alloc (.cells #[.slice aR arn arc, .slice aBs abn abc, .int .i64 acols] 25)) (arr.below HB.out hB) hl0 hl hn hz)
  clear arr hz
  go_enter Try.func10, Try.ntmps10
  go_wp2_with fail
  refine SZ.out.mono ?_
  rintro e w1 ⟨v, rfl, rfl, rfl | ⟨v0, v1, v2, v3⟩⟩
  · go_wp2
    go_ret
    exact ⟨_, rfl, Or.inl rfl, HB.out⟩
  · have d1 := decide_eq_false (show ¬ v < 0 by omega)
    have V3 := Lib.hid v3
    clear v3
    by_cases h2 : 0 ≤ v - (abn : Int)
    · have d2 := decide_eq_false (show ¬ v - (abn : Int) < 0 by omega)
      go_wp2_with fail
      refine (szIntS_yes _ _ _ _ _ h2 (by omega)).mono ?_
      rintro e w1 ⟨rfl, rfl⟩
      go_wp2
      go_ret
      exact ⟨_, rfl, Or.inr ⟨h2, by omega, by omega, V3.out, by omega⟩, HB.out⟩
    · go_wp2_with fail
      refine (szIntS_no _ _ _ _ _ (by omega) v0 (by omega) hbn).mono ?_
      rintro e w1 ⟨rfl, rfl⟩
      go_wp2
      go_ret
      exact ⟨_, rfl, Or.inl rfl, HB.out⟩

set_option maxRecDepth 20000 in
set_option maxHeartbeats 2000000 in
theorem toTab_any (aR aBs : Option Addr) (arn arc abn abc : Nat) (acols : Int) (aRA : Nat → Option Addr) (aRN aRC : Nat → Nat) (aRV : Nat → Fr) (aBV : Nat → Int) (B : Nat) (w : World) (arr : RdR w B aR arn aRA aRN aRC aRV) (abb : Rd w B 1 aBs abn (cellsI aBV abn)) (hB : B ≤ w.heap.size) (ha1 : arn ≤ 1048576) (ha2 : ∀ j, j < arn → aRN j ≤ 1048576) (ha3 : abn ≤ 1048576) :
    Calls Try.prog 12 #[.agg #[.slice aR arn arc, .slice aBs abn abc, .int .i64 acols]] w fun e w' => ∃ (X : Option Addr) (XA : Nat → Option Addr) (Y : Option Addr), e = .returned (.agg #[.slice X arn arn, .slice Y abn abn, .int .i64 acols]) ∧ RdR w' w'.heap.size X arn XA aRN aRN aRV ∧ Rd w' w'.heap.size 1 Y abn (cellsI aBV abn) ∧ Below w.heap.size w w' := by
  have B1 : Bx (((w.alloc (.cells #[.slice aR arn arc, .slice aBs abn abc, .int .i64 acols] 25)).alloc (.cells #[.slice none 0 0, .slice none 0 0, .int .i64 0] 30)).alloc (.cells #[.slice none 0 0, .slice none 0 0, .int .i64 0] 30)) w.heap.size [.slice aR arn arc, .slice aBs abn abc, .int .i64 acols] := ((Bx.new w #[.slice aR arn arc, .slice aBs abn abc, .int .i64 acols] 25).alloc _).alloc _
  have B2 : Bx (((w.alloc (.cells #[.slice aR arn arc, .slice aBs abn abc, .int .i64 acols] 25)).alloc (.cells #[.slice none 0 0, .slice none 0 0, .int .i64 0] 30)).alloc (.cells #[.slice none 0 0, .slice none 0 0, .int .i64 0] 30)) (w.heap.size + 1) [.slice none 0 0, .slice none 0 0, .int .i64 0] := by
    have h := (Bx.new (w.alloc (.cells #[.slice aR arn arc, .slice aBs abn abc, .int .i64 acols] 25)) #[.slice none 0 0, .slice none 0 0, .int .i64 0] 30).alloc (.cells #[.slice none 0 0, .slice none 0 0, .int .i64 0] 30)
    simpa using h
  have B3 : Bx (((w.alloc (.cells #[.slice aR arn arc, .slice aBs abn abc, .int .i64 acols] 25)).alloc (.cells #[.slice none 0 0, .slice none 0 0, .int .i64 0] 30)).alloc (.cells #[.slice none 0 0, .slice none 0 0, .int .i64 0] 30)) (w.heap.size + 1 + 1) [.slice none 0 0, .slice none 0 0, .int .i64 0] := by
    have h := Bx.new ((w.alloc (.cells #[.slice aR arn arc, .slice aBs abn abc, .int .i64 acols] 25)).alloc (.cells #[.slice none 0 0, .slice none 0 0, .int .i64 0] 30)) #[.slice none 0 0, .slice none 0 0, .int .i64 0] 30
    simpa using h
  have HB : Below w.heap.size w (((w.alloc (.cells #[.slice aR arn arc, .slice aBs abn abc, .int .i64 acols] 25)).alloc (.cells #[.slice none 0 0, .slice none 0 0, .int .i64 0] 30)).alloc (.cells #[.slice none 0 0, .slice none 0 0, .int .i64 0] 30)) := (((Below.refl _ _).alloc (Nat.le_refl _) _).alloc (by simp) _).alloc (by simp; omega) _
  have b1 := B3.1
  have C1 := Lib.hid (toRatSS_any aR arn arc B aRA aRN aRC aRV (((w.alloc (.cells #[.slice aR arn arc, .slice aBs abn abc, .int .i64 acols] 25)).alloc (.cells #[.slice none 0 0, .slice none 0 0, .int .i64 0] 30)).alloc (.cells #[.slice none 0 0, .slice none 0 0, .int .i64 0] 30)) (arr.below HB hB) (Nat.le_trans hB HB.size) ha1 ha2)
  clear arr
  go_enter Try.func12, Try.ntmps12
  go_wp2_with fail
  refine C1.out.mono ?_
  rintro e w1 ⟨X, XA, rfl, ow1, hb⟩
  have B1 := B1.below hb
  have B2 := B2.below hb
  have B3 := B3.below hb
  have HB := HB.trans (hb.mono HB.size)
  clear hb C1
  have x0 := B1.2.1 0 _ rfl
  have x1 := B1.2.1 1 _ rfl
  have x2 := B1.2.1 2 _ rfl
  have xz := B1.1
  have z0 := B3.2.1 0 _ rfl
  have z1 := B3.2.1 1 _ rfl
  have z2 := B3.2.1 2 _ rfl
  have zz := B3.1
  have zf := B3.2.2
  have B1 := B1.other (b := (w.heap.size + 1 + 1)) (k := 0) (by omega) (.slice X arn arn)
  have B2 := B2.other (b := (w.heap.size + 1 + 1)) (k := 0) (by omega) (.slice X arn arn)
  have B3 := B3.set (k := 0) (by simp) (.slice X arn arn)
  have ow1 := ow1.set (a := ⟨(w.heap.size + 1 + 1), 0, none⟩) (by show (w.heap.size + 1 + 1) < _; omega) (.slice X arn arn)
  have HB := HB.setCell (p := ⟨(w.heap.size + 1 + 1), 0, none⟩) (by show w.heap.size ≤ (w.heap.size + 1 + 1); omega) (.slice X arn arn)
  have b2 := B3.1
  have OW := Lib.hid ow1
  clear ow1
  go_wp2_with fail
  refine (toIntS_any _ _ _ _ aBV _ (abb.below' HB hB) (Nat.le_trans hB HB.size) ha3).mono ?_
  rintro e w2 ⟨Y, rfl, ow2, hb⟩
  have B1 := B1.below hb
  have B2 := B2.below hb
  have B3 := B3.below hb
  have ow1 := OW.out.below hb
  have HB := HB.trans (hb.mono HB.size)
  clear hb OW
  have x0 := B1.2.1 0 _ rfl
  have x1 := B1.2.1 1 _ rfl
  have x2 := B1.2.1 2 _ rfl
  have xz := B1.1
  have z0 := B3.2.1 0 _ rfl
  have z1 := B3.2.1 1 _ rfl
  have z2 := B3.2.1 2 _ rfl
  have zz := B3.1
  have zf := B3.2.2
  have y0 := B2.2.1 0 _ rfl
  have y1 := B2.2.1 1 _ rfl
  have y2 := B2.2.1 2 _ rfl
  have yz := B2.1
  have yf := B2.2.2
  have B1 := B1.other (b := (w.heap.size + 1 + 1)) (k := 1) (by omega) (.slice Y abn abn)
  have B2 := B2.other (b := (w.heap.size + 1 + 1)) (k := 1) (by omega) (.slice Y abn abn)
  have B3 := B3.set (k := 1) (by simp) (.slice Y abn abn)
  have ow1 := ow1.set (a := ⟨(w.heap.size + 1 + 1), 1, none⟩) (by show (w.heap.size + 1 + 1) < _; omega) (.slice Y abn abn)
  have ow2 := ownsRow_setCell_below ow2 (a := ⟨(w.heap.size + 1 + 1), 1, none⟩) (by show (w.heap.size + 1 + 1) < _; omega) (.slice Y abn abn)
  have HB := HB.setCell (p := ⟨(w.heap.size + 1 + 1), 1, none⟩) (by show w.heap.size ≤ (w.heap.size + 1 + 1); omega) (.slice Y abn abn)
  have B1 := B1.other (b := (w.heap.size + 1 + 1)) (k := 2) (by omega) (.int .i64 acols)
  have B2 := B2.other (b := (w.heap.size + 1 + 1)) (k := 2) (by omega) (.int .i64 acols)
  have B3 := B3.set (k := 2) (by simp) (.int .i64 acols)
  have ow1 := ow1.set (a := ⟨(w.heap.size + 1 + 1), 2, none⟩) (by show (w.heap.size + 1 + 1) < _; omega) (.int .i64 acols)
  have ow2 := ownsRow_setCell_below ow2 (a := ⟨(w.heap.size + 1 + 1), 2, none⟩) (by show (w.heap.size + 1 + 1) < _; omega) (.int .i64 acols)
  have HB := HB.setCell (p := ⟨(w.heap.size + 1 + 1), 2, none⟩) (by show w.heap.size ≤ (w.heap.size + 1 + 1); omega) (.int .i64 acols)
  have B1 := B1.other (b := (w.heap.size + 1)) (k := 0) (by omega) (.slice X arn arn)
  have B3 := B3.other (b := (w.heap.size + 1)) (k := 0) (by omega) (.slice X arn arn)
  have B2 := B2.set (k := 0) (by simp) (.slice X arn arn)
  have ow1 := ow1.set (a := ⟨(w.heap.size + 1), 0, none⟩) (by show (w.heap.size + 1) < _; omega) (.slice X arn arn)
  have ow2 := ownsRow_setCell_below ow2 (a := ⟨(w.heap.size + 1), 0, none⟩) (by show (w.heap.size + 1) < _; omega) (.slice X arn arn)
  have HB := HB.setCell (p := ⟨(w.heap.size + 1), 0, none⟩) (by show w.heap.size ≤ (w.heap.size + 1); omega) (.slice X arn arn)
  have B1 := B1.other (b := (w.heap.size + 1)) (k := 1) (by omega) (.slice Y abn abn)
  have B3 := B3.other (b := (w.heap.size + 1)) (k := 1) (by omega) (.slice Y abn abn)
  have B2 := B2.set (k := 1) (by simp) (.slice Y abn abn)
  have ow1 := ow1.set (a := ⟨(w.heap.size + 1), 1, none⟩) (by show (w.heap.size + 1) < _; omega) (.slice Y abn abn)
  have ow2 := ownsRow_setCell_below ow2 (a := ⟨(w.heap.size + 1), 1, none⟩) (by show (w.heap.size + 1) < _; omega) (.slice Y abn abn)
  have HB := HB.setCell (p := ⟨(w.heap.size + 1), 1, none⟩) (by show w.heap.size ≤ (w.heap.size + 1); omega) (.slice Y abn abn)
  have B1 := B1.other (b := (w.heap.size + 1)) (k := 2) (by omega) (.int .i64 acols)
  have B3 := B3.other (b := (w.heap.size + 1)) (k := 2) (by omega) (.int .i64 acols)
  have B2 := B2.set (k := 2) (by simp) (.int .i64 acols)
  have ow1 := ow1.set (a := ⟨(w.heap.size + 1), 2, none⟩) (by show (w.heap.size + 1) < _; omega) (.int .i64 acols)
  have ow2 := ownsRow_setCell_below ow2 (a := ⟨(w.heap.size + 1), 2, none⟩) (by show (w.heap.size + 1) < _; omega) (.int .i64 acols)
  have HB := HB.setCell (p := ⟨(w.heap.size + 1), 2, none⟩) (by show w.heap.size ≤ (w.heap.size + 1); omega) (.int .i64 acols)
  have f0 := B2.2.1 0 _ rfl
  have f1 := B2.2.1 1 _ rfl
  have f2 := B2.2.1 2 _ rfl
  have q1 := Lib.hid ow1.rd
  have q2 := Lib.hid (Rd.of_own ow2)
  have HBB := Lib.hid HB
  clear ow1 ow2 HB B1 B2 B3
  go_wp2
  refine bodyPost_ret (v := .agg #[.slice X arn arn, .slice Y abn abn, .int .i64 acols]) (by simp [results, Try.results12, go_sem, f0, f1, f2]) rfl ⟨X, XA, Y, rfl, q1.out, q2.out, HBB.out⟩

theorem eqTab_same (aR aBs : Option Addr) (arn arc abn abc : Nat) (acols : Int) (aRA : Nat → Option Addr) (aRN aRC : Nat → Nat) (aRV : Nat → Fr) (aBV : Nat → Int) (bR bBs : Option Addr) (brc bbc : Nat) (bRA : Nat → Option Addr) (bRC : Nat → Nat) (B : Nat) (w : World) (arr : RdR w B aR arn aRA aRN aRC aRV) (abb : Rd w B 1 aBs abn (cellsI aBV abn)) (brr : RdR w B bR arn bRA aRN bRC aRV) (bbb : Rd w B 1 bBs abn (cellsI aBV abn)) (hB : B ≤ w.heap.size) (ha1 : arn ≤ 1048576) (ha2 : ∀ j, j < arn → aRN j ≤ 1048576) (ha3 : abn ≤ 1048576) :
    Calls Try.prog 14 #[.agg #[.slice aR arn arc, .slice aBs abn abc, .int .i64 acols], .agg #[.slice bR arn brc, .slice bBs abn bbc, .int .i64 acols]] w fun e w' => e = .returned (.bool true) ∧ Below w.heap.size w w' := by
  have BA : Bx ((w.alloc (.cells #[.slice aR arn arc, .slice aBs abn abc, .int .i64 acols] 30)).alloc (.cells #[.slice bR arn brc, .slice bBs abn bbc, .int .i64 acols] 30)) w.heap.size [.slice aR arn arc, .slice aBs abn abc, .int .i64 acols] := (Bx.new w #[.slice aR arn arc, .slice aBs abn abc, .int .i64 acols] 30).alloc _
  have BB : Bx ((w.alloc (.cells #[.slice aR arn arc, .slice aBs abn abc, .int .i64 acols] 30)).alloc (.cells #[.slice bR arn brc, .slice bBs abn bbc, .int .i64 acols] 30)) (w.heap.size + 1) [.slice bR arn brc, .slice bBs abn bbc, .int .i64 acols] := by
    have h := Bx.new (w.alloc (.cells #[.slice aR arn arc, .slice aBs abn abc, .int .i64 acols] 30)) #[.slice bR arn brc, .slice bBs abn bbc, .int .i64 acols] 30
    simpa using h
  have HB : Below w.heap.size w ((w.alloc (.cells #[.slice aR arn arc, .slice aBs abn abc, .int .i64 acols] 30)).alloc (.cells #[.slice bR arn brc, .slice bBs abn bbc, .int .i64 acols] 30)) := ((Below.refl _ _).alloc (Nat.le_refl _) _).alloc (by simp) _
  have C1 := Lib.hid (eqRatSS_same aR bR arn arc brc B aRA bRA aRN aRC bRC aRV ((w.alloc (.cells #[.slice aR arn arc, .slice aBs abn abc, .int .i64 acols] 30)).alloc (.cells #[.slice bR arn brc, .slice bBs abn bbc, .int .i64 acols] 30)) (arr.below HB hB) (brr.below HB hB) (Nat.le_trans hB HB.size) ha1 ha2)
  clear arr brr
  go_enter Try.func14, Try.ntmps14
  go_wp2_with fail
  refine C1.out.mono ?_
  rintro e w1 ⟨rfl, hb⟩
  have BA := BA.below hb
  have BB := BB.below hb
  have HB := HB.trans (hb.mono HB.size)
  clear hb C1
  have x0 := BA.2.1 0 _ rfl
  have x1 := BA.2.1 1 _ rfl
  have x2 := BA.2.1 2 _ rfl
  have xz := BA.1
  have y0 := BB.2.1 0 _ rfl
  have y1 := BB.2.1 1 _ rfl
  have y2 := BB.2.1 2 _ rfl
  have yz := BB.1
  go_wp2_with fail
  refine (eqIntI_same _ _ _ _ _ B aBV _ (abb.below' HB hB) (bbb.below' HB hB) (Nat.le_trans hB HB.size) (by omega)).mono ?_
  rintro e w2 ⟨rfl, hb⟩
  have BA := BA.below hb
  have BB := BB.below hb
  have HB := HB.trans (hb.mono HB.size)
  clear hb
  have x0 := BA.2.1 0 _ rfl
  have x1 := BA.2.1 1 _ rfl
  have x2 := BA.2.1 2 _ rfl
  have xz := BA.1
  have y0 := BB.2.1 0 _ rfl
  have y1 := BB.2.1 1 _ rfl
  have y2 := BB.2.1 2 _ rfl
  have yz := BB.1
  go_wp2
  go_ret
  exact ⟨rfl, HB⟩

theorem kTab : Try.prog.cellsOf 25 = 3 := by kernel_rfl
theorem kRows : Try.prog.cellsOf 22 = 1 := by kernel_rfl
theorem kRow : Try.prog.cellsOf 33 = 1 := by kernel_rfl
theorem kIntsT : Try.prog.cellsOf 23 = 1 := by kernel_rfl
theorem kIntT : Try.prog.cellsOf 3 = 1 := by kernel_rfl
theorem array3 {α : Type} {cs : Array α} (h : cs.size = 3) : ∃ c0 c1 c2, cs = #[c0, c1, c2] := by
  obtain ⟨l⟩ := cs
  match l, h with
  | [c0, c1, c2], _ => exact ⟨c0, c1, c2, rfl⟩
theorem rows_cells {H : Type} {enc : TypeId × Value → H} {w : World} {fuel base : Nat} {held : Bool} {c0 : Value} {x : DataW H × List MemPlace}
    (h : DataW.trod enc Try.prog w base (fun _ => true) held fuel 22 [c0] = some x) :
    ∃ (A : Option Addr) (n c : Nat) (RA : Nat → Option Addr) (RN RC : Nat → Nat) (RV : Nat → Fr), c0 = .slice A n c ∧ n ≤ maxLen ∧ (∀ j, j < n → RN j ≤ maxLen) ∧ RdR w w.heap.size A n RA RN RC RV := by
  rcases Deep.open_slice1 Try.underlying22 kRow h with ⟨hc, _⟩ | ⟨a, len, cap, m, k, V, D, Pl, hc, _, hl, hm, hmm, _, hx⟩
  · simp only [List.cons.injEq, and_true] at hc
    subst hc
    exact ⟨none, 0, 0, fun _ => none, fun _ => 0, fun _ => 0, fun _ _ => (0, 0), rfl, Nat.zero_le _, fun j hj => absurd hj (Nat.not_lt_zero _), fun hn => absurd hn (Nat.lt_irrefl _), fun j hj => absurd hj (Nat.not_lt_zero _)⟩
  · simp only [List.cons.injEq, and_true] at hc
    subst hc
    simp only [if_true] at hmm
    have hlm : len ≤ m := by omega
    have each : ∀ i, i < m → ∃ p : Option Addr × Nat × Nat × Fr, V i = .slice p.1 p.2.1 p.2.2.1 ∧ p.2.1 ≤ maxLen ∧ RdP w w.heap.size p.1 p.2.1 p.2.2.2 := fun i hi => by
      obtain ⟨_, t⟩ := hx i hi
      obtain ⟨A, n, c, W, hc, hn, hr, _⟩ := rats_cells Try.underlying33 t
      simp only [List.cons.injEq, and_true] at hc
      exact ⟨(A, n, c, W), hc, hn, hr⟩
    obtain ⟨P, hP⟩ := Deep.choose_lt (n := m) each
    refine ⟨some a, len, cap, fun i => (P i).1, fun i => (P i).2.1, fun i => (P i).2.2.1, fun i => (P i).2.2.2, rfl, by omega, fun j hj => (hP j (by omega)).2.1, fun hn => ?_, fun j hj => (hP j (by omega)).2.2⟩
    obtain ⟨b, off, spot⟩ := a
    have h0 := hx 0 (by omega)
    have hspot : spot = none := by simpa [Addr.add] using World.cell?_spot h0.1
    subst hspot
    refine ⟨b, off, rfl, by simpa [Addr.add] using World.block_lt_of_cell? _ _ h0.1, fun j hj => ?_⟩
    have h1 := (hx j (by omega)).1
    rw [Addr.add_lit, (hP j (by omega)).1] at h1
    exact h1
theorem ints_cells {H : Type} {enc : TypeId × Value → H} {w : World} {fuel base : Nat} {held : Bool} {c0 : Value} {x : DataW H × List MemPlace}
    (h : DataW.trod enc Try.prog w base (fun _ => true) held fuel 23 [c0] = some x) :
    ∃ (A : Option Addr) (n c : Nat) (V : Nat → Int), c0 = .slice A n c ∧ n ≤ maxLen ∧ Rd w w.heap.size 1 A n (cellsI V n) := by
  rcases ChangeShapes.open_ints Try.underlying23 Try.underlying3 (by kernel_rfl) h with ⟨hc, _⟩ | ⟨a', len', cap', zs, hc, _, hl, hm, hz, _, hcell, hw⟩
  · simp only [List.cons.injEq, and_true] at hc
    subst hc
    exact ⟨_, _, _, fun _ => 0, rfl, Nat.zero_le _, ⟨by simp [cellsI, listI], fun h => absurd h (Nat.lt_irrefl _)⟩⟩
  · simp only [List.cons.injEq, and_true] at hc
    subst hc
    simp only [if_true] at hz
    refine ⟨_, _, _, fun i => zs.getD i 0, rfl, by omega, ⟨by simp [cellsI, listI], fun hn => ?_⟩⟩
    have h0 := hcell 0 (by omega)
    obtain ⟨b, off, spot⟩ := a'
    have hspot : spot = none := by simpa [Addr.add] using World.cell?_spot h0
    subst hspot
    refine ⟨b, off, rfl, by simpa [Addr.add] using World.block_lt_of_cell? _ _ h0, fun j u hu => ?_⟩
    have hj : j < len' := by
      rcases Nat.lt_or_ge j len' with h | h
      · exact h
      · rw [List.getElem?_eq_none (by simp [cellsI, listI]; omega)] at hu
        cases hu
    rw [cellsI_at _ hj] at hu
    injection hu with hu
    subst hu
    have := hcell j (by omega)
    rwa [Addr.add_lit] at this
set_option maxRecDepth 20000 in
theorem open_tab {H : Type} {enc : TypeId × Value → H} {w : World} {r : Reach} {b0 base : Nat} {held : Bool} {v : Value} {d : DataW H} {ps : List MemPlace}
    (hval : Value.okWide Try.prog w r b0 25 v)
    (h : DataW.Trod enc Try.prog w base (fun _ => true) held 25 v d ps) :
    ∃ (aR aBs : Option Addr) (arn arc abn abc : Nat) (acols : Int) (aRA : Nat → Option Addr) (aRN aRC : Nat → Nat) (aRV : Nat → Fr) (aBV : Nat → Int), v = .agg #[.slice aR arn arc, .slice aBs abn abc, .int .i64 acols] ∧ (arn ≤ maxLen ∧ (∀ j, j < arn → aRN j ≤ maxLen) ∧ abn ≤ maxLen) ∧ RdR w w.heap.size aR arn aRA aRN aRC aRV ∧ Rd w w.heap.size 1 aBs abn (cellsI aBV abn) := by
  obtain ⟨cs, rfl, hsz⟩ := okWide_struct Try.underlying25 hval
  obtain ⟨c0, c1, c2, rfl⟩ := array3 (hsz.trans kTab)
  obtain ⟨fuel, hf⟩ := h
  obtain ⟨xs, n, _, _, _, hlen, hx⟩ := DataW.trod_struct Try.underlying25 hf
  obtain ⟨y0, y1, y2, rfl⟩ : ∃ y0 y1 y2, xs = [y0, y1, y2] := by
    match xs, hlen with
    | [y0, y1, y2], _ => exact ⟨y0, y1, y2, rfl⟩
  have k0 : DataW.trod enc Try.prog w base (fun _ => true) held n 22 ((([c0, c1, c2] : List Value).drop 0).take (Try.prog.cellsOf 22)) = some y0 := hx 0 _ rfl
  rw [kRows] at k0
  have k0 : DataW.trod enc Try.prog w base (fun _ => true) held n 22 [c0] = some y0 := k0
  have k1 : DataW.trod enc Try.prog w base (fun _ => true) held n 23 ((([c0, c1, c2] : List Value).drop 1).take (Try.prog.cellsOf 23)) = some y1 := hx 1 _ rfl
  rw [kIntsT] at k1
  have k1 : DataW.trod enc Try.prog w base (fun _ => true) held n 23 [c1] = some y1 := k1
  have k2 : DataW.trod enc Try.prog w base (fun _ => true) held n 3 ((([c0, c1, c2] : List Value).drop 2).take (Try.prog.cellsOf 3)) = some y2 := hx 2 _ rfl
  rw [kIntT] at k2
  have k2 : DataW.trod enc Try.prog w base (fun _ => true) held n 3 [c2] = some y2 := k2
  obtain ⟨A, rn, rc, RA, RN, RC, RV, e0, m0, m1, r0⟩ := rows_cells k0
  obtain ⟨Bs, bn, bc, BV, e1, m2, r1⟩ := ints_cells k1
  obtain ⟨cols, e2, _, _⟩ := DataW.trod_int Try.underlying3 k2
  simp only [List.cons.injEq, and_true] at e2
  subst e0 e1 e2
  exact ⟨A, Bs, rn, rc, bn, bc, cols, RA, RN, RC, RV, BV, rfl, ⟨m0, m1, m2⟩, r0, r1⟩

end Go.Proofs.Ytajafmdeencohaa
