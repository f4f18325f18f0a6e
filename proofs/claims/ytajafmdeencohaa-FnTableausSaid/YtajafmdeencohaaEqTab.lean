/-
  Contracts of EqualTableau, of the program and of the reference.
-/
import Derived.Test.YtajafmdeencohaaTab2
namespace Go.Proofs.Ytajafmdeencohaa
open Go.RowKit
attribute [local go_sem ↓] Go.wp_at_zero Go.wp_at_succ

namespace Pl
def eqI (V1 V2 : Nat → Int) : Nat → Bool
  | 0 => true
  | j + 1 => eqI V1 V2 j && (V1 j == V2 j)
theorem eqI_no {V1 V2 : Nat → Int} {j n : Nat} (hj : (V1 j == V2 j) = false) (hn : j < n) : eqI V1 V2 n = false := by
  induction n with
  | zero => omega
  | succ n ih =>
    rw [eqI]
    by_cases h : j = n
    · subst h
      rw [hj, Bool.and_false]
    · rw [ih (by omega), Bool.false_and]
theorem eqI_yes {V1 V2 : Nat → Int} {j : Nat} (h : eqI V1 V2 j = true) (hj : (V1 j == V2 j) = true) : eqI V1 V2 (j + 1) = true := by rw [eqI, h, hj]; rfl
def eqR (N1 : Nat → Nat) (R1 : Nat → Fr) (N2 : Nat → Nat) (R2 : Nat → Fr) : Nat → Bool
  | 0 => true
  | j + 1 => eqR N1 R1 N2 R2 j && eqv (N1 j) (R1 j) (N2 j) (R2 j)
theorem eqR_no {N1 N2 : Nat → Nat} {R1 R2 : Nat → Fr} {j n : Nat} (hj : eqv (N1 j) (R1 j) (N2 j) (R2 j) = false) (hn : j < n) : eqR N1 R1 N2 R2 n = false := by
  induction n with
  | zero => omega
  | succ n ih =>
    rw [eqR]
    by_cases h : j = n
    · subst h
      rw [hj, Bool.and_false]
    · rw [ih (by omega), Bool.false_and]
theorem eqR_yes {N1 N2 : Nat → Nat} {R1 R2 : Nat → Fr} {j : Nat} (h : eqR N1 R1 N2 R2 j = true) (hj : eqv (N1 j) (R1 j) (N2 j) (R2 j) = true) : eqR N1 R1 N2 R2 (j + 1) = true := by rw [eqR, h, hj]; rfl
end Pl

theorem slicesEqualI_any (A1 A2 : Option Addr) (n1 n2 c1 c2 B : Nat) (V1 V2 : Nat → Int) (w : World) (h1 : Rd w B 1 A1 n1 (cellsI V1 n1)) (h2 : Rd w B 1 A2 n2 (cellsI V2 n2)) (hB : B ≤ w.heap.size) (hn1 : n1 ≤ 1048576) (hn2 : n2 ≤ 1048576) :
    Calls Try.prog 46 #[.slice A1 n1 c1, .slice A2 n2 c2] w fun e w' => e = .returned (.bool (n1 == n2 && Pl.eqI V1 V2 n1)) ∧ Below w.heap.size w w' := by
  by_cases hne : n1 = n2
  · subst hne
    rw [beq_self_eq_true, Bool.true_and]
    clear hn2
    obtain ⟨n, en⟩ : ∃ n, n = n1 := ⟨_, rfl⟩
    rw [← en] at h1 h2 hn1 ⊢
    clear en
    go_enter Try.func46, Try.ntmps46
    go_wp2
    go_loopw [5, 13] (fun v0 v1 wr => ∃ k : Nat, k ≤ n ∧ v1 = .int .i64 k ∧ Hid (Pl.eqI V1 V2 k = true) ∧ Below w.heap.size w wr) (fun v0 v1 _ => n - (intOf v1).toNat)
    case atStart => exact ⟨0, Nat.zero_le _, rfl, Lib.hid rfl, Below.refl _ _⟩
    case round =>
      obtain ⟨k, hk, rfl, he, hb⟩ := hrel
      by_cases hlt : k < n
      · obtain ⟨b1, o1, rfl, hb1, hc1⟩ := h1.2 (by omega)
        obtain ⟨b2, o2, rfl, hb2, hc2⟩ := h2.2 (by omega)
        have x1 := (hb.cell (p := ⟨b1, o1 + k, none⟩) (Nat.lt_of_lt_of_le hb1 hB)).trans (hc1 k _ (cellsI_at V1 hlt))
        have x2 := (hb.cell (p := ⟨b2, o2 + k, none⟩) (Nat.lt_of_lt_of_le hb2 hB)).trans (hc2 k _ (cellsI_at V2 hlt))
        clear hc1 hc2 h1 h2
        have k0 : (0 : Int) ≤ (k : Int) := by omega
        have k1 : (k : Int) < (n : Int) := by omega
        cases hq : (V1 k == V2 k)
        · have HR := Lib.hid (Pl.eqI_no (n := n) hq hlt)
          go_wp2_with fail
          go_quiet (fail)
          go_wp2
          go_ret
          exact ⟨Pl.ret_bool HR.out.symm, below_drewN'' hb _⟩
        · have HY := Lib.hid (Pl.eqI_yes he.out hq)
          go_wp2_with fail
          go_quiet (fail)
          go_wp2
          go_roundw
          case rel => exact ⟨k + 1, by omega, by go_num, HY, below_drewN'' hb _⟩
          case measure => simp [intOf]; omega
      · obtain rfl : k = n := by omega
        go_wp2
        go_ret
        exact ⟨Pl.ret_bool he.out.symm, hb⟩
  · have hd := beq_eq_false_iff_ne.2 (show (n1 : Int) ≠ (n2 : Int) by omega)
    have HR : (n1 == n2 && Pl.eqI V1 V2 n1) = false := by rw [beq_eq_false_iff_ne.2 hne, Bool.false_and]
    rw [HR]
    clear HR
    go_enter Try.func46, Try.ntmps46
    go_wp2
    go_ret
    exact ⟨rfl, Below.refl _ _⟩

theorem eqClos_any (A1 A2 : Option Addr) (n1 n2 c1 c2 B : Nat) (V1 V2 : Fr) (w : World) (h1 : RdP w B A1 n1 V1) (h2 : RdP w B A2 n2 V2) (hB : B ≤ w.heap.size) (hn1 : n1 ≤ 1099511627776) (hn2 : n2 ≤ 1099511627776) :
    Calls Try.prog 48 #[.slice A1 n1 c1, .slice A2 n2 c2] w fun e w' => e = .returned (.bool (Pl.eqv n1 V1 n2 V2)) ∧ Below w.heap.size w w' := by
  have C := Lib.hid (slicesEqual_any A1 A2 n1 n2 c1 c2 B V1 V2 w h1 h2 hB hn1 hn2)
  generalize Pl.eqv n1 V1 n2 V2 = r at C
  go_enter Try.func48, Try.ntmps48
  go_wp2_with fail
  refine C.out.mono ?_
  rintro e w1 ⟨rfl, hb⟩
  go_wp2
  go_ret
  exact ⟨rfl, hb⟩

theorem equalFunc_any (A1 A2 : Option Addr) (n1 n2 c1 c2 B : Nat) (RA1 RA2 : Nat → Option Addr) (N1 N2 RC1 RC2 : Nat → Nat) (R1 R2 : Nat → Fr) (w : World) (h1 : RdR w B A1 n1 RA1 N1 RC1 R1) (h2 : RdR w B A2 n2 RA2 N2 RC2 R2) (hB : B ≤ w.heap.size) (hn1 : n1 ≤ 1048576) (hn2 : n2 ≤ 1048576) (hz1 : ∀ j, j < n1 → N1 j ≤ 1048576) (hz2 : ∀ j, j < n2 → N2 j ≤ 1048576) :
    Calls Try.prog 47 #[.slice A1 n1 c1, .slice A2 n2 c2, .func (.func 48) #[] #[]] w fun e w' => e = .returned (.bool (n1 == n2 && Pl.eqR N1 R1 N2 R2 n1)) ∧ Below w.heap.size w w' := by
  by_cases hne : n1 = n2
  · subst hne
    rw [beq_self_eq_true, Bool.true_and]
    clear hn2
    obtain ⟨n, en⟩ : ∃ n, n = n1 := ⟨_, rfl⟩
    rw [← en] at h1 h2 hn1 hz1 hz2 ⊢
    clear en
    have H1 := Lib.hid h1
    have H2 := Lib.hid h2
    have Z1 := Lib.hid hz1
    have Z2 := Lib.hid hz2
    clear h1 h2 hz1 hz2
    go_enter Try.func47, Try.ntmps47
    go_wp2
    go_loopw [7, 8, 9, 17] (fun p q r u wr => ∃ k : Nat, k ≤ n ∧ u = .int .i64 k ∧ Hid (Pl.eqR N1 R1 N2 R2 k = true) ∧ Below w.heap.size w wr) (fun _ _ _ u _ => n - (intOf u).toNat)
    case atStart => exact ⟨0, Nat.zero_le _, rfl, Lib.hid rfl, Below.refl _ _⟩
    case round =>
      obtain ⟨k, hk, rfl, he, hb⟩ := hrel
      by_cases hlt : k < n
      · obtain ⟨b1, o1, rfl, hb1, hc1⟩ := H1.out.1 (by omega)
        obtain ⟨b2, o2, rfl, hb2, hc2⟩ := H2.out.1 (by omega)
        have x1 := (hb.cell (p := ⟨b1, o1 + k, none⟩) (by exact Nat.lt_of_lt_of_le hb1 hB)).trans (hc1 k hlt)
        have x2 := (hb.cell (p := ⟨b2, o2 + k, none⟩) (by exact Nat.lt_of_lt_of_le hb2 hB)).trans (hc2 k hlt)
        have k0 : (0 : Int) ≤ (k : Int) := by omega
        have k1 : (k : Int) < (n : Int) := by omega
        have hno := fun h => Pl.eqR_no (N1 := N1) (R1 := R1) (N2 := N2) (R2 := R2) (n := n) (j := k) h hlt
        have hyes := fun h => Pl.eqR_yes he.out h
        have EQ := eqClos_any (RA1 k) (RA2 k) (N1 k) (N2 k) (RC1 k) (RC2 k) B (R1 k) (R2 k) wr ((H1.out.2 k hlt).below hb hB) ((H2.out.2 k hlt).below hb hB) (Nat.le_trans hB hb.size) (by have := Z1.out k hlt; omega) (by have := Z2.out k hlt; omega)
        clear hc1 hc2
        obtain ⟨m1, e1⟩ : ∃ m, m = RA1 k := ⟨_, rfl⟩
        obtain ⟨m2, e2⟩ : ∃ m, m = RA2 k := ⟨_, rfl⟩
        obtain ⟨u1, e3⟩ : ∃ m, m = N1 k := ⟨_, rfl⟩
        obtain ⟨u2, e4⟩ : ∃ m, m = N2 k := ⟨_, rfl⟩
        obtain ⟨d1, e5⟩ : ∃ m, m = RC1 k := ⟨_, rfl⟩
        obtain ⟨d2, e6⟩ : ∃ m, m = RC2 k := ⟨_, rfl⟩
        obtain ⟨vv, e7⟩ : ∃ m, m = Pl.eqv (N1 k) (R1 k) (N2 k) (R2 k) := ⟨_, rfl⟩
        rw [← e7] at EQ hno hyes
        rw [← e1, ← e3, ← e5] at x1 EQ
        rw [← e2, ← e4, ← e6] at x2 EQ
        have EQ := Lib.hid EQ
        have HNO := Lib.hid hno
        have HYE := Lib.hid hyes
        clear e1 e2 e3 e4 e5 e6 e7 hno hyes
        go_wp2_with fail
        refine EQ.out.mono ?_
        rintro e w1 ⟨rfl, hb2⟩
        cases vv
        · have HR := Lib.hid (HNO.out rfl)
          go_wp2
          go_ret
          exact ⟨Pl.ret_bool HR.out.symm, hb.trans (hb2.mono hb.size)⟩
        · have HY := Lib.hid (HYE.out rfl)
          go_wp2
          go_roundw
          case rel => exact ⟨k + 1, by omega, by go_num, HY, hb.trans (hb2.mono hb.size)⟩
          case measure => simp [intOf]; omega
      · obtain rfl : k = n := by omega
        go_wp2
        go_ret
        exact ⟨Pl.ret_bool he.out.symm, hb⟩
  · have hd := beq_eq_false_iff_ne.2 (show (n1 : Int) ≠ (n2 : Int) by omega)
    have HR : (n1 == n2 && Pl.eqR N1 R1 N2 R2 n1) = false := by rw [beq_eq_false_iff_ne.2 hne, Bool.false_and]
    rw [HR]
    clear HR
    go_enter Try.func47, Try.ntmps47
    go_wp2
    go_ret
    exact ⟨rfl, Below.refl _ _⟩

namespace Pl
def eqTab (acols : Int) (arn : Nat) (aRN : Nat → Nat) (aRV : Nat → Fr) (abn : Nat) (aBV : Nat → Int) (bcols : Int) (brn : Nat) (bRN : Nat → Nat) (bRV : Nat → Fr) (bbn : Nat) (bBV : Nat → Int) : Bool :=
  (acols == bcols) && (abn == bbn && eqI aBV bBV abn) && (arn == brn && eqR aRN aRV bRN bRV arn)
end Pl

theorem iEqTab_any (aR aBs : Option Addr) (arn arc abn abc : Nat) (acols : Int) (aRA : Nat → Option Addr) (aRN aRC : Nat → Nat) (aRV : Nat → Fr) (aBV : Nat → Int) (bR bBs : Option Addr) (brn brc bbn bbc : Nat) (bcols : Int) (bRA : Nat → Option Addr) (bRN bRC : Nat → Nat) (bRV : Nat → Fr) (bBV : Nat → Int) (B : Nat) (w : World) (arr : RdR w B aR arn aRA aRN aRC aRV) (abb : Rd w B 1 aBs abn (cellsI aBV abn)) (brr : RdR w B bR brn bRA bRN bRC bRV) (bbb : Rd w B 1 bBs bbn (cellsI bBV bbn)) (hB : B ≤ w.heap.size) (ha1 : arn ≤ 1048576) (ha2 : ∀ j, j < arn → aRN j ≤ 1048576) (ha3 : abn ≤ 1048576) (hb1 : brn ≤ 1048576) (hb2 : ∀ j, j < brn → bRN j ≤ 1048576) (hb3 : bbn ≤ 1048576) :
    Calls Try.prog 13 #[.agg #[.slice aR arn arc, .slice aBs abn abc, .int .i64 acols], .agg #[.slice bR brn brc, .slice bBs bbn bbc, .int .i64 bcols]] w fun e w' => e = .returned (.bool (Pl.eqTab acols arn aRN aRV abn aBV bcols brn bRN bRV bbn bBV)) ∧ Below w.heap.size w w' := by
  have BA : Bx ((w.alloc (.cells #[.slice aR arn arc, .slice aBs abn abc, .int .i64 acols] 30)).alloc (.cells #[.slice bR brn brc, .slice bBs bbn bbc, .int .i64 bcols] 30)) w.heap.size [.slice aR arn arc, .slice aBs abn abc, .int .i64 acols] := (Bx.new w #[.slice aR arn arc, .slice aBs abn abc, .int .i64 acols] 30).alloc _
  have BB : Bx ((w.alloc (.cells #[.slice aR arn arc, .slice aBs abn abc, .int .i64 acols] 30)).alloc (.cells #[.slice bR brn brc, .slice bBs bbn bbc, .int .i64 bcols] 30)) (w.heap.size + 1) [.slice bR brn brc, .slice bBs bbn bbc, .int .i64 bcols] := by
    have h := Bx.new (w.alloc (.cells #[.slice aR arn arc, .slice aBs abn abc, .int .i64 acols] 30)) #[.slice bR brn brc, .slice bBs bbn bbc, .int .i64 bcols] 30
    simpa using h
  have HB : Below w.heap.size w ((w.alloc (.cells #[.slice aR arn arc, .slice aBs abn abc, .int .i64 acols] 30)).alloc (.cells #[.slice bR brn brc, .slice bBs bbn bbc, .int .i64 bcols] 30)) := ((Below.refl _ _).alloc (Nat.le_refl _) _).alloc (by simp) _
  have C1 := Lib.hid (fun w B h1 h2 hB => slicesEqualI_any aBs bBs abn bbn abc bbc B aBV bBV w h1 h2 hB ha3 hb3)
  have C2 := Lib.hid (fun w B h1 h2 hB => equalFunc_any aR bR arn brn arc brc B aRA bRA aRN bRN aRC bRC aRV bRV w h1 h2 hB ha1 hb1 ha2 hb2)
  rw [Pl.eqTab]
  generalize (abn == bbn && Pl.eqI aBV bBV abn) = v1 at C1 ⊢
  generalize (arn == brn && Pl.eqR aRN aRV bRN bRV arn) = v2 at C2 ⊢
  have ARR := Lib.hid arr
  have BRR := Lib.hid brr
  clear arr brr
  have x0 := BA.2.1 0 _ rfl
  have x1 := BA.2.1 1 _ rfl
  have x2 := BA.2.1 2 _ rfl
  have xz := BA.1
  have y0 := BB.2.1 0 _ rfl
  have y1 := BB.2.1 1 _ rfl
  have y2 := BB.2.1 2 _ rfl
  have yz := BB.1
  by_cases hc : acols = bcols
  · subst hc
    rw [beq_self_eq_true, Bool.true_and]
    skip
    go_enter Try.func13, Try.ntmps13
    go_wp2_with fail
    refine (C1.out _ B (abb.below' HB hB) (bbb.below' HB hB) (Nat.le_trans hB HB.size)).mono ?_
    rintro e w1 ⟨rfl, hb⟩
    have BA := BA.below hb
    have BB := BB.below hb
    have HB := HB.trans (hb.mono HB.size)
    clear hb
    have x0 := BA.2.1 0 _ rfl
    have x1 := BA.2.1 1 _ rfl
    have x2 := BA.2.1 2 _ rfl
    have xz := BA.1
    have y0 := BB.2.1 0 _ rfl
    have y1 := BB.2.1 1 _ rfl
    have y2 := BB.2.1 2 _ rfl
    have yz := BB.1
    cases v1
    · go_wp2
      go_ret
      exact ⟨by simp, HB⟩
    · go_wp2_with fail
      refine (C2.out _ B (ARR.out.below HB hB) (BRR.out.below HB hB) (Nat.le_trans hB HB.size)).mono ?_
      rintro e w2 ⟨rfl, hb⟩
      have HB := HB.trans (hb.mono HB.size)
      clear hb
      go_wp2
      go_ret
      exact ⟨by simp, HB⟩
  · have k1 := beq_eq_false_iff_ne.2 hc
    rw [k1, Bool.false_and, Bool.false_and]
    go_enter Try.func13, Try.ntmps13
    go_wp2
    go_ret
    exact ⟨rfl, HB⟩

set_option maxHeartbeats 2000000 in
theorem sEqTab_any (aR aBs : Option Addr) (arn arc abn abc : Nat) (acols : Int) (aRA : Nat → Option Addr) (aRN aRC : Nat → Nat) (aRV : Nat → Fr) (aBV : Nat → Int) (bR bBs : Option Addr) (brn brc bbn bbc : Nat) (bcols : Int) (bRA : Nat → Option Addr) (bRN bRC : Nat → Nat) (bRV : Nat → Fr) (bBV : Nat → Int) (B : Nat) (w : World) (arr : RdR w B aR arn aRA aRN aRC aRV) (abb : Rd w B 1 aBs abn (cellsI aBV abn)) (brr : RdR w B bR brn bRA bRN bRC bRV) (bbb : Rd w B 1 bBs bbn (cellsI bBV bbn)) (hB : B ≤ w.heap.size) (ha1 : arn ≤ 1048576) (ha2 : ∀ j, j < arn → aRN j ≤ 1048576) (ha3 : abn ≤ 1048576) (hb1 : brn ≤ 1048576) (hb2 : ∀ j, j < brn → bRN j ≤ 1048576) (hb3 : bbn ≤ 1048576) :
    Calls Try.prog 11 #[.agg #[.slice aR arn arc, .slice aBs abn abc, .int .i64 acols], .agg #[.slice bR brn brc, .slice bBs bbn bbc, .int .i64 bcols]] w fun e w' => e = .returned (.bool (Pl.eqTab acols arn aRN aRV abn aBV bcols brn bRN bRV bbn bBV)) ∧ Below w.heap.size w w' := by
  have BA : Bx ((w.alloc (.cells #[.slice aR arn arc, .slice aBs abn abc, .int .i64 acols] 30)).alloc (.cells #[.slice bR brn brc, .slice bBs bbn bbc, .int .i64 bcols] 30)) w.heap.size [.slice aR arn arc, .slice aBs abn abc, .int .i64 acols] := (Bx.new w #[.slice aR arn arc, .slice aBs abn abc, .int .i64 acols] 30).alloc _
  have BB : Bx ((w.alloc (.cells #[.slice aR arn arc, .slice aBs abn abc, .int .i64 acols] 30)).alloc (.cells #[.slice bR brn brc, .slice bBs bbn bbc, .int .i64 bcols] 30)) (w.heap.size + 1) [.slice bR brn brc, .slice bBs bbn bbc, .int .i64 bcols] := by
    have h := Bx.new (w.alloc (.cells #[.slice aR arn arc, .slice aBs abn abc, .int .i64 acols] 30)) #[.slice bR brn brc, .slice bBs bbn bbc, .int .i64 bcols] 30
    simpa using h
  have HB : Below w.heap.size w ((w.alloc (.cells #[.slice aR arn arc, .slice aBs abn abc, .int .i64 acols] 30)).alloc (.cells #[.slice bR brn brc, .slice bBs bbn bbc, .int .i64 bcols] 30)) := ((Below.refl _ _).alloc (Nat.le_refl _) _).alloc (by simp) _
  rw [Pl.eqTab]
  have HW := Lib.hid HB
  have x0 := BA.2.1 0 _ rfl
  have x1 := BA.2.1 1 _ rfl
  have x2 := BA.2.1 2 _ rfl
  have xz := BA.1
  have y0 := BB.2.1 0 _ rfl
  have y1 := BB.2.1 1 _ rfl
  have y2 := BB.2.1 2 _ rfl
  have yz := BB.1
  by_cases hc : acols = bcols
  · subst hc
    by_cases hr : arn = brn
    · subst hr
      by_cases hbn : abn = bbn
      · subst hbn
        simp only [beq_self_eq_true, Bool.true_and]
        have H1 := Lib.hid arr
        have H2 := Lib.hid brr
        have Z1 := Lib.hid ha2
        have Z2 := Lib.hid hb2
        have I1 := Lib.hid abb
        have I2 := Lib.hid bbb
        have HBA := Lib.hid BA
        have HBB := Lib.hid BB
        clear arr brr ha2 hb2 abb bbb BA BB xz yz
        obtain ⟨n, en⟩ : ∃ n, n = arn := ⟨_, rfl⟩
        rw [← en] at H1 H2 Z1 Z2 ha1 x0 x1 x2 y0 y1 y2 HBA HBB HB HW ⊢
        clear en hb1
        go_enter Try.func11, Try.ntmps11
        go_wp2
        go_loopw [5] (fun u wr => ∃ k : Nat, k ≤ n ∧ u = .int .i64 k ∧ Hid (Pl.eqR aRN aRV bRN bRV k = true) ∧ Bx wr w.heap.size [.slice aR n arc, .slice aBs abn abc, .int .i64 acols] ∧ Bx wr (w.heap.size + 1) [.slice bR n brc, .slice bBs abn bbc, .int .i64 acols] ∧ Below w.heap.size w wr) (fun u _ => n - (intOf u).toNat)
        case atStart => exact ⟨0, Nat.zero_le _, rfl, Lib.hid rfl, HBA.out, HBB.out, HW.out⟩
        case round =>
          obtain ⟨k, hk, rfl, he, BA, BB, hb⟩ := hrel
          have x0 := BA.2.1 0 _ rfl
          have x1' := BA.2.1 1 _ rfl
          have y0 := BB.2.1 0 _ rfl
          have y1' := BB.2.1 1 _ rfl
          by_cases hlt : k < n
          · have DB := (Below.refl wr.heap.size wr).drew
            have BA := BA.below DB
            have BB := BB.below DB
            have hb := hb.trans (DB.mono hb.size)
            clear DB
            obtain ⟨b1, o1, rfl, hb1, hc1⟩ := H1.out.1 (by omega)
            obtain ⟨b2, o2, rfl, hb2, hc2⟩ := H2.out.1 (by omega)
            have x1 := (hb.cell (p := ⟨b1, o1 + k, none⟩) (by exact Nat.lt_of_lt_of_le hb1 hB)).trans (hc1 k hlt)
            have x2 := (hb.cell (p := ⟨b2, o2 + k, none⟩) (by exact Nat.lt_of_lt_of_le hb2 hB)).trans (hc2 k hlt)
            have k0 : (0 : Int) ≤ (k : Int) := by omega
            have k1 : (k : Int) < (n : Int) := by omega
            have hno := fun h => Pl.eqR_no (N1 := aRN) (R1 := aRV) (N2 := bRN) (R2 := bRV) (n := n) (j := k) h hlt
            have hyes := fun h => Pl.eqR_yes he.out h
            have EQ := sEqualVector_any (aRA k) (bRA k) (aRN k) (bRN k) (aRC k) (bRC k) B (aRV k) (bRV k) wr.drew ((H1.out.2 k hlt).below hb hB) ((H2.out.2 k hlt).below hb hB) (Nat.le_trans hB hb.size) (by have := Z1.out k hlt; omega) (by have := Z2.out k hlt; omega)
            clear hc1 hc2
            obtain ⟨m1, e1⟩ : ∃ m, m = aRA k := ⟨_, rfl⟩
            obtain ⟨m2, e2⟩ : ∃ m, m = bRA k := ⟨_, rfl⟩
            obtain ⟨u1, e3⟩ : ∃ m, m = aRN k := ⟨_, rfl⟩
            obtain ⟨u2, e4⟩ : ∃ m, m = bRN k := ⟨_, rfl⟩
            obtain ⟨d1, e5⟩ : ∃ m, m = aRC k := ⟨_, rfl⟩
            obtain ⟨d2, e6⟩ : ∃ m, m = bRC k := ⟨_, rfl⟩
            obtain ⟨vv, e7⟩ : ∃ m, m = Pl.eqv (aRN k) (aRV k) (bRN k) (bRV k) := ⟨_, rfl⟩
            rw [← e7] at EQ hno hyes
            rw [← e1, ← e3, ← e5] at x1 EQ
            rw [← e2, ← e4, ← e6] at x2 EQ
            have EQ := Lib.hid EQ
            have HNO := Lib.hid hno
            have HYE := Lib.hid hyes
            clear e1 e2 e3 e4 e5 e6 e7 hno hyes
            have hz1 : b1 < wr.drew.heap.size := Nat.lt_of_lt_of_le (Nat.lt_of_lt_of_le hb1 hB) hb.size
            have hz2 : b2 < wr.drew.heap.size := Nat.lt_of_lt_of_le (Nat.lt_of_lt_of_le hb2 hB) hb.size
            go_upto_region 6 with fail
            refine wp_region_noPanic ?_
            refine wp_region_held_drew (S := (fun w' => w'.cell? ⟨w.heap.size, 0, none⟩ = some (.slice (some ⟨b1, o1, none⟩) n arc) ∧ w'.cell? ⟨w.heap.size + 1, 0, none⟩ = some (.slice (some ⟨b2, o2, none⟩) n brc) ∧ w'.cell? ⟨b1, o1 + k, none⟩ = some (.slice m1 u1 d1) ∧ w'.cell? ⟨b2, o2 + k, none⟩ = some (.slice m2 u2 d2))) (by kernel_rfl) ?_ (fun hHeld => ?_)
            · exact ⟨BA.2.1 0 _ rfl, BB.2.1 0 _ rfl, x1, x2⟩
            refine takeL 0 (v := ?v2_0) rfl (by kernel_rfl) (by kernel_rfl) (by kernel_rfl) (fun _ _ _ h => h) (by rfl) ?hy2_0 (by assumption) ?r2_0
            case hy2_0 => (intro w hSw; (try dsimp only at hSw); first | (go_simp; done) | (go_simp; with_reducible rfl))
            simp only [Act.put, List.setIfInBounds_toArray, List.set_cons_zero, List.set_cons_succ]
            refine takeL 1 (v := ?v2_1) rfl (by kernel_rfl) (by kernel_rfl) (by kernel_rfl) (fun _ _ _ h => h) (by rfl) ?hy2_1 (by assumption) ?r2_1
            case hy2_1 => (intro w hSw; (try dsimp only at hSw); first | (go_simp; done) | (go_simp; with_reducible rfl))
            simp only [Act.put, List.setIfInBounds_toArray, List.set_cons_zero, List.set_cons_succ]
            refine takeL 2 (v := ?v2_2) rfl (by kernel_rfl) (by kernel_rfl) (by kernel_rfl) (fun _ _ _ h => h) (by rfl) ?hy2_2 (by assumption) ?r2_2
            case hy2_2 => (intro w hSw; (try dsimp only at hSw); first | (go_simp; done) | (go_simp; with_reducible rfl))
            simp only [Act.put, List.setIfInBounds_toArray, List.set_cons_zero, List.set_cons_succ]
            refine takeL 3 (v := ?v2_3) rfl (by kernel_rfl) (by kernel_rfl) (by kernel_rfl) (fun _ _ _ h => h) (by rfl) ?hy2_3 (by assumption) ?r2_3
            case hy2_3 => (intro w hSw; (try dsimp only at hSw); first | (go_simp; done) | (go_simp; with_reducible rfl))
            simp only [Act.put, List.setIfInBounds_toArray, List.set_cons_zero, List.set_cons_succ]
            refine takeL 4 (v := ?v2_4) rfl (by kernel_rfl) (by kernel_rfl) (by kernel_rfl) (fun _ _ _ h => h) (by rfl) ?hy2_4 (by assumption) ?r2_4
            case hy2_4 => (intro w hSw; (try dsimp only at hSw); first | (go_simp; done) | (go_simp; with_reducible rfl))
            simp only [Act.put, List.setIfInBounds_toArray, List.set_cons_zero, List.set_cons_succ]
            refine takeL 5 (v := ?v2_5) rfl (by kernel_rfl) (by kernel_rfl) (by kernel_rfl) (fun _ _ _ h => h) (by rfl) ?hy2_5 (by assumption) ?r2_5
            case hy2_5 => (intro w hSw; (try dsimp only at hSw); first | (go_simp; done) | (go_simp; with_reducible rfl))
            simp only [Act.put, List.setIfInBounds_toArray, List.set_cons_zero, List.set_cons_succ]
            refine takeL 6 (v := ?v2_6) rfl (by kernel_rfl) (by kernel_rfl) (by kernel_rfl) (fun _ _ _ h => h) (by rfl) ?hy2_6 (by assumption) ?r2_6
            case hy2_6 => (intro w hSw; (try dsimp only at hSw); first | (go_simp; done) | (go_simp; with_reducible rfl))
            simp only [Act.put, List.setIfInBounds_toArray, List.set_cons_zero, List.set_cons_succ]
            refine takeL 7 (v := ?v2_7) rfl (by kernel_rfl) (by kernel_rfl) (by kernel_rfl) (fun _ _ _ h => h) (by rfl) ?hy2_7 (by assumption) ?r2_7
            case hy2_7 => (intro w hSw; (try dsimp only at hSw); first | (go_simp; done) | (go_simp; with_reducible rfl))
            simp only [Act.put, List.setIfInBounds_toArray, List.set_cons_zero, List.set_cons_succ]
            refine takeL 8 (v := ?v2_8) rfl (by kernel_rfl) (by kernel_rfl) (by kernel_rfl) (fun _ _ _ h => h) (by rfl) ?hy2_8 (by assumption) ?r2_8
            case hy2_8 => (intro w hSw; (try dsimp only at hSw); first | (go_simp; done) | (go_simp; with_reducible rfl))
            simp only [Act.put, List.setIfInBounds_toArray, List.set_cons_zero, List.set_cons_succ]
            refine takeL 9 (v := ?v2_9) rfl (by kernel_rfl) (by kernel_rfl) (by kernel_rfl) (fun _ _ _ h => h) (by rfl) ?hy2_9 (by assumption) ?r2_9
            case hy2_9 => (intro w hSw; (try dsimp only at hSw); first | (go_simp; done) | (go_simp; with_reducible rfl))
            simp only [Act.put, List.setIfInBounds_toArray, List.set_cons_zero, List.set_cons_succ]
            refine nextL 10 (by kernel_rfl) rfl (fun K hK => ?_)
            go_simp
            go_at_call 41; refine EQ.out.mono ?_; rintro e wA ⟨rfl, hbA⟩; have BA := BA.below hbA; have BB := BB.below hbA; have x1 := (hbA.cell (p := ⟨b1, o1 + k, none⟩) hz1).trans x1; have x2 := (hbA.cell (p := ⟨b2, o2 + k, none⟩) hz2).trans x2; have hb := hb.trans (hbA.mono hb.size); clear hbA
            go_wp2_with fail
            refine hK.out _ _ ?_ (fun hHeld => ?_)
            · exact ⟨BA.2.1 0 _ rfl, BB.2.1 0 _ rfl, x1, x2⟩
            clear hK K
            refine takeL 11 (v := ?v2_11) rfl (by kernel_rfl) (by kernel_rfl) (by kernel_rfl) (fun _ _ _ h => h) (by rfl) ?hy2_11 (by assumption) ?r2_11
            case hy2_11 => (intro w hSw; (try dsimp only at hSw); first | (go_simp; done) | (go_simp; with_reducible rfl))
            simp only [Act.put, List.setIfInBounds_toArray, List.set_cons_zero, List.set_cons_succ]
            refine wpAnyH_done (by kernel_rfl) ?_ _
            refine NoPanic.normal ?_
            cases vv
            · have HR := Lib.hid (HNO.out rfl)
              go_wp2
              go_ret
              exact ⟨by rw [HR.out, Bool.and_false]; rfl, hb⟩
            · have HY := Lib.hid (HYE.out rfl)
              go_wp2
              go_roundw
              case rel => exact ⟨k + 1, by omega, by go_num, HY, BA, BB, hb⟩
              case measure => simp [intOf]; omega
          · obtain rfl : k = n := by omega
            have HWR := Lib.hid hb
            have BA9 := Lib.hid BA
            have BB9 := Lib.hid BB
            clear BA BB
            go_wp2
            go_loopw [6] (fun u wq => ∃ i : Nat, i ≤ abn ∧ u = .int .i64 i ∧ Hid (Pl.eqI aBV bBV i = true) ∧ Bx wq w.heap.size [.slice aR k arc, .slice aBs abn abc, .int .i64 acols] ∧ Bx wq (w.heap.size + 1) [.slice bR k brc, .slice bBs abn bbc, .int .i64 acols] ∧ Below w.heap.size w wq) (fun u _ => abn - (intOf u).toNat)
            case atStart => exact ⟨0, Nat.zero_le _, rfl, Lib.hid rfl, BA9.out, BB9.out, HWR.out⟩
            case round =>
              obtain ⟨i, hi, rfl, hei, BA, BB, hbq⟩ := hrel
              have x0 := BA.2.1 0 _ rfl
              have x1' := BA.2.1 1 _ rfl
              have y0 := BB.2.1 0 _ rfl
              have y1' := BB.2.1 1 _ rfl
              by_cases hlt2 : i < abn
              · obtain ⟨b1, o1, rfl, hb1, hc1⟩ := I1.out.2 (by omega)
                obtain ⟨b2, o2, rfl, hb2, hc2⟩ := I2.out.2 (by omega)
                have z1 := (hbq.cell (p := ⟨b1, o1 + i, none⟩) (Nat.lt_of_lt_of_le hb1 hB)).trans (hc1 i _ (cellsI_at aBV hlt2))
                have z2 := (hbq.cell (p := ⟨b2, o2 + i, none⟩) (Nat.lt_of_lt_of_le hb2 hB)).trans (hc2 i _ (cellsI_at bBV hlt2))
                clear hc1 hc2
                have k0 : (0 : Int) ≤ (i : Int) := by omega
                have k1 : (i : Int) < (abn : Int) := by omega
                cases hq : (aBV i == bBV i)
                · have HR := Lib.hid (Pl.eqI_no (n := abn) hq hlt2)
                  go_wp2_with fail
                  go_quiet (fail)
                  go_wp2
                  go_ret
                  exact ⟨by rw [HR.out, Bool.false_and]; rfl, below_drewN'' hbq _⟩
                · have HY := Lib.hid (Pl.eqI_yes hei.out hq)
                  have DB : ∀ m, Below wr.heap.size wr (wr.drewN m) := fun m => below_drewN'' (Below.refl _ _) m
                  have BAD := Lib.hid (fun m => BA.below (DB m))
                  have BBD := Lib.hid (fun m => BB.below (DB m))
                  clear DB
                  go_wp2_with fail
                  go_quiet (fail)
                  go_wp2
                  go_roundw
                  case rel => exact ⟨i + 1, by omega, by go_num, HY, BAD.out _, BBD.out _, below_drewN'' hbq _⟩
                  case measure => simp [intOf]; omega
              · obtain rfl : i = abn := by omega
                go_wp2
                go_ret
                exact ⟨by rw [hei.out, he.out]; rfl, hbq⟩
      · have k3 := beq_eq_false_iff_ne.2 (show (abn : Int) ≠ (bbn : Int) by omega)
        have k4 := beq_eq_false_iff_ne.2 hbn
        rw [k4, Bool.false_and, Bool.and_false, Bool.false_and]
        clear k4 hbn
        go_enter Try.func11, Try.ntmps11
        go_wp2
        go_ret
        exact ⟨by first | rfl | (simp; done), HB⟩
    · have k2 := beq_eq_false_iff_ne.2 (show (arn : Int) ≠ (brn : Int) by omega)
      have k4 := beq_eq_false_iff_ne.2 hr
      rw [k4, Bool.false_and, Bool.and_false]
      clear k4 hr
      go_enter Try.func11, Try.ntmps11
      go_wp2
      go_ret
      exact ⟨by first | rfl | (simp; done), HB⟩
  · have k1 := beq_eq_false_iff_ne.2 hc
    rw [k1, Bool.false_and, Bool.false_and]
    go_enter Try.func11, Try.ntmps11
    go_wp2
    go_ret
    exact ⟨by first | rfl | (simp; done), HB⟩

end Go.Proofs.Ytajafmdeencohaa
