/-
  Contracts of StartTableau, of the program and of the reference.
-/
import Derived.Test.YtajafmdeencohaaLpFacts
import Derived.Test.YtajafmdeencohaaGrow
import Derived.Test.YtajafmdeencohaaReg
namespace Go.Proofs.Ytajafmdeencohaa
open Go.RowKit
attribute [local go_sem ↓] Go.wp_at_zero Go.wp_at_succ

namespace Pl
def sgn (b : Int) : Int := if b < 0 then -1 else 1
def sm (s x : Int) : Int := IntKind.i64.wrap (s * x)
def unit (i j : Nat) : Int := if i = j then 1 else 0
/-- row i of a starting tableau -/
def startV (acn arn : Nat) (aRV : Nat → Nat → Int) (aBV : Nat → Int) (i : Nat) : Fr := fun j => (if j < acn then sm (sgn (aBV i)) (aRV i j) else if j < acn + arn then unit (j - acn) i else sm (sgn (aBV i)) (aBV i), 1)
def startB (acn : Nat) : Nat → Int := fun i => (acn : Int) + (i : Int)
theorem startV_1 {acn arn : Nat} {aRV : Nat → Nat → Int} {aBV : Nat → Int} {i j : Nat} (h : j < acn) : startV acn arn aRV aBV i j = (sm (sgn (aBV i)) (aRV i j), 1) := by simp [startV, h]
theorem startV_2 {acn arn : Nat} {aRV : Nat → Nat → Int} {aBV : Nat → Int} {i j : Nat} (h : j < arn) : startV acn arn aRV aBV i (acn + j) = (unit j i, 1) := by
  simp only [startV]
  rw [if_neg (by omega), if_pos (by omega), Nat.add_sub_cancel_left]
theorem startV_3 {acn arn : Nat} {aRV : Nat → Nat → Int} {aBV : Nat → Int} {i : Nat} : startV acn arn aRV aBV i (acn + arn) = (sm (sgn (aBV i)) (aBV i), 1) := by
  simp only [startV]
  rw [if_neg (by omega), if_neg (by omega)]
end Pl
theorem row_next {V : Fr} {k : Nat} {x : Int} (h : V k = (x, 1)) : cellsV V k ++ [.int .i64 x, .int .i64 1] = cellsV V (k + 1) := by
  rw [← cellsV_next, h]
theorem bx_low4 {B : Nat} {w w' : World} {g : Nat} {vs : List Value} (h : Bx w g vs) (hb : Below B w w') (hg : g < B) : Bx w' g vs :=
  ⟨Nat.lt_of_lt_of_le h.1 hb.size, fun j v hv => (hb.cell (p := ⟨g, j, none⟩) hg).trans (h.2.1 j v hv), fun j => (hb.frozen (p := ⟨g, j, none⟩) hg).trans (h.2.2 j)⟩
theorem l1Bit_any (b : Bool) (w : World) : Calls Try.prog 71 #[.bool b] w fun e w' => e = .returned (.int .i64 (if b = true then 1 else 0)) ∧ w = w' := by
  cases b
  · go_enter Try.func71, Try.ntmps71
    go_wp2
    go_ret
    exact ⟨rfl, rfl⟩
  · go_enter Try.func71, Try.ntmps71
    go_wp2
    go_ret
    exact ⟨rfl, rfl⟩
/-- a tableau of the call's own, returned -/
def OwnsTab (n : Nat) (cols : Int) (RN : Nat → Nat) (RV : Nat → Fr) (BV : Nat → Int) (w : World) (e : Ending) (w' : World) : Prop :=
  ∃ (X : Option Addr) (c : Nat) (XA : Nat → Option Addr) (XC : Nat → Nat) (Y : Option Addr) (d hi : Nat), e = .returned (.agg #[.slice X n c, .slice Y n d, .int .i64 cols]) ∧ OwnTab w' w.heap.size hi X n c XA RN XC RV Y n d BV ∧ Below w.heap.size w w'

set_option maxHeartbeats 4000000 in
set_option maxRecDepth 20000 in
theorem iStart_any (aR aBs aCs : Option Addr) (arn arc abn abc acn acc : Nat) (aRA : Nat → Option Addr) (aRN aRC : Nat → Nat) (aRV : Nat → Nat → Int) (aBV : Nat → Int) (aCV : Fr) (B : Nat) (w : World) (arr : RdI w B aR arn aRA aRN aRC aRV) (abb : Rd w B 1 aBs abn (cellsI aBV abn)) (acr : RdP w B aCs acn aCV) (hB : B ≤ w.heap.size) (ha1 : arn ≤ 1048576) (ha2 : ∀ j, j < arn → aRN j ≤ 1048576) (ha3 : abn ≤ 1048576) (ha4 : acn ≤ 1048576) :
    Calls Try.prog 30 #[.agg #[.slice aR arn arc, .slice aBs abn abc, .slice aCs acn acc]] w (OwnsTab (if Pl.validLP acn arn aRN aRV abn aBV aCV = true then arn else 0) (if Pl.validLP acn arn aRN aRV abn aBV aCV = true then (acn : Int) else 0) (fun _ => acn + arn + 1) (Pl.startV acn arn aRV aBV) (Pl.startB acn) w) := by
  have BA : Bx ((w.alloc (.cells #[.slice aR arn arc, .slice aBs abn abc, .slice aCs acn acc] 53)).alloc (.cells #[.slice none 0 0, .slice none 0 0, .int .i64 0] 30)) w.heap.size [.slice aR arn arc, .slice aBs abn abc, .slice aCs acn acc] := (Bx.new w #[.slice aR arn arc, .slice aBs abn abc, .slice aCs acn acc] 53).alloc _
  have BR : Bx ((w.alloc (.cells #[.slice aR arn arc, .slice aBs abn abc, .slice aCs acn acc] 53)).alloc (.cells #[.slice none 0 0, .slice none 0 0, .int .i64 0] 30)) (w.heap.size + 1) [.slice none 0 0, .slice none 0 0, .int .i64 0] := by
    have h := Bx.new (w.alloc (.cells #[.slice aR arn arc, .slice aBs abn abc, .slice aCs acn acc] 53)) #[.slice none 0 0, .slice none 0 0, .int .i64 0] 30
    simpa using h
  have HB : Below w.heap.size w ((w.alloc (.cells #[.slice aR arn arc, .slice aBs abn abc, .slice aCs acn acc] 53)).alloc (.cells #[.slice none 0 0, .slice none 0 0, .int .i64 0] 30)) := ((Below.refl _ _).alloc (Nat.le_refl _) _).alloc (by simp) _
  have C1 := Lib.hid (iValidLP_any aR aBs aCs arn arc abn abc acn acc aRA aRN aRC aRV aBV aCV B ((w.alloc (.cells #[.slice aR arn arc, .slice aBs abn abc, .slice aCs acn acc] 53)).alloc (.cells #[.slice none 0 0, .slice none 0 0, .int .i64 0] 30)) (arr.below HB hB) (abb.below' HB hB) (acr.below HB hB) (Nat.le_trans hB HB.size) ha1 ha2 ha3 ha4)
  have x0 := BA.2.1 0 _ rfl
  have x1 := BA.2.1 1 _ rfl
  have x2 := BA.2.1 2 _ rfl
  have xz := BA.1
  have r0 := BR.2.1 0 _ rfl
  have r1 := BR.2.1 1 _ rfl
  have r2 := BR.2.1 2 _ rfl
  have rz := BR.1
  have rf := BR.2.2
  unfold OwnsTab
  clear ha2 acr
  cases hv : Pl.validLP acn arn aRN aRV abn aBV aCV
  · rw [hv] at C1
    simp only [Bool.false_eq_true, if_false]
    clear hv arr abb
    go_enter Try.func30, Try.ntmps30
    go_wp2_with fail
    refine C1.out.mono ?_
    rintro e w1 ⟨rfl, hb⟩
    have BR := BR.below hb
    have HB := HB.trans (hb.mono HB.size)
    clear hb C1 x0 x1 x2 xz r0 r1 r2 rz rf BA
    have r0 := BR.2.1 0 _ rfl
    have r1 := BR.2.1 1 _ rfl
    have r2 := BR.2.1 2 _ rfl
    have rz := BR.1
    have rf := BR.2.2
    have BR := BR.set (k := 0) (by simp) (.slice none 0 0)
    have HB := HB.setCell (p := ⟨w.heap.size + 1, 0, none⟩) (by show w.heap.size ≤ w.heap.size + 1; omega) (.slice none 0 0)
    have BR := BR.set (k := 1) (by simp) (.slice none 0 0)
    have HB := HB.setCell (p := ⟨w.heap.size + 1, 1, none⟩) (by show w.heap.size ≤ w.heap.size + 1; omega) (.slice none 0 0)
    have BR := BR.set (k := 2) (by simp) (.int .i64 0)
    have HB := HB.setCell (p := ⟨w.heap.size + 1, 2, none⟩) (by show w.heap.size ≤ w.heap.size + 1; omega) (.int .i64 0)
    have f0 := BR.2.1 0 _ rfl
    have f1 := BR.2.1 1 _ rfl
    have f2 := BR.2.1 2 _ rfl
    have HBB := Lib.hid HB
    have OT := Lib.hid (OwnTab.nil (((w1.setCell ⟨w.heap.size + 1, 0, none⟩ (.slice none 0 0)).setCell ⟨w.heap.size + 1, 1, none⟩ (.slice none 0 0)).setCell ⟨w.heap.size + 1, 2, none⟩ (.int .i64 0)) w.heap.size (fun _ => none) (fun _ => acn + arn + 1) (fun _ => 0) (Pl.startV acn arn aRV aBV) (Pl.startB acn))
    clear HB BR
    go_wp2
    refine bodyPost_ret (v := .agg #[.slice none 0 0, .slice none 0 0, .int .i64 0]) (by simp [results, Try.results30, go_sem, f0, f1, f2]) rfl ⟨none, 0, fun _ => none, fun _ => 0, none, 0, _, rfl, OT.out, HBB.out⟩
  · rw [hv] at C1
    simp only [if_true]
    have q := Pl.lpFacts hv
    have HRN := Lib.hid (fun i hi => (q.2.2.2.1 i hi).1)
    have hba := q.2.2.1
    have hc70 := q.1
    have hr8 := q.2.1
    have hba := hba.symm
    subst hba
    clear q hv
    have ARH := Lib.hid arr
    have ABH := Lib.hid abb
    clear arr abb
    go_enter Try.func30, Try.ntmps30
    go_wp2_with fail
    refine C1.out.mono ?_
    rintro e w1 ⟨rfl, hb⟩
    have BA := BA.below hb
    have BR := BR.below hb
    have HB := HB.trans (hb.mono HB.size)
    clear hb C1 x0 x1 x2 xz r0 r1 r2 rz rf
    have x2 := BA.2.1 2 _ rfl
    have xz := BA.1
    have BT0 : Bx (w1.alloc (.cells #[.slice none 0 0, .slice none 0 0, .int .i64 acn] 30)) w1.heap.size [.slice none 0 0, .slice none 0 0, .int .i64 acn] := Bx.new w1 _ _
    have BA1 := Lib.hid BA
    have BR1 := Lib.hid BR
    have HB1 := Lib.hid HB
    have hz1 : w.heap.size + 1 < w1.heap.size := BR.1
    have HW0 := Lib.hid ((Below.refl w1.heap.size w1).alloc (Nat.le_refl _) (.cells #[.slice none 0 0, .slice none 0 0, .int .i64 acn] 30))
    have HT0 : Hid (OwnTab (w1.alloc (.cells #[.slice none 0 0, .slice none 0 0, .int .i64 acn] 30)) (w1.heap.size + 1) (w1.alloc (.cells #[.slice none 0 0, .slice none 0 0, .int .i64 acn] 30)).heap.size none 0 0 (fun _ => none) (fun _ => acn + arn + 1) (fun _ => 0) (Pl.startV acn arn aRV aBV) none 0 0 (Pl.startB acn)) := Lib.hid (OwnTab.nil _ _ _ _ _ _ _)
    have x0 := BA.2.1 0 _ rfl
    have BTH := Lib.hid BT0
    clear HB BR BA BT0
    go_wp2
    clear x0 x2 xz
    go_loopw [23] (fun u wr => ∃ (i : Nat) (X : Option Addr) (c : Nat) (XA : Nat → Option Addr) (RC : Nat → Nat) (Y : Option Addr) (d : Nat), i ≤ arn ∧ u = .int .i64 i ∧ OwnTab wr (w1.heap.size + 1) wr.heap.size X i c XA (fun _ => acn + arn + 1) RC (Pl.startV acn arn aRV aBV) Y i d (Pl.startB acn) ∧ Bx wr w1.heap.size [.slice X i c, .slice Y i d, .int .i64 acn] ∧ Below w1.heap.size w1 wr) (fun u _ => arn - (intOf u).toNat)
    case atStart => exact ⟨0, none, 0, _, _, none, 0, Nat.zero_le _, rfl, HT0.out, BTH.out, HW0.out⟩
    case round =>
      obtain ⟨i, X, c, XA, RC, Y, d, hi, rfl, hT, BT, hbw⟩ := hrel
      obtain ⟨wo, rfl⟩ : ∃ wo : World, wo = wr := ⟨_, rfl⟩
      have BA := bx_low4 BA1.out hbw (by omega)
      have hb := HB1.out.trans (hbw.mono (by omega))
      have hsz0 : w1.heap.size + 1 ≤ wo.heap.size := BT.1
      have x0 := BA.2.1 0 _ rfl
      have x1 := BA.2.1 1 _ rfl
      have x2 := BA.2.1 2 _ rfl
      by_cases hlt : i < arn
      · obtain ⟨b1, o1, rfl, hb1, hc1⟩ := ARH.out.1 (by omega)
        obtain ⟨b3, o3, rfl, hb3, hc3⟩ := ABH.out.2 (by omega)
        have x3 := (hb.cell (p := ⟨b1, o1 + i, none⟩) (by exact Nat.lt_of_lt_of_le hb1 hB)).trans (hc1 i hlt)
        have x4 := (hb.cell (p := ⟨b3, o3 + i, none⟩) (by exact Nat.lt_of_lt_of_le hb3 hB)).trans (hc3 i _ (cellsI_at aBV hlt))
        have hrn := HRN.out i hlt
        have HROWI := Lib.hid (ARH.out.2 i hlt)
        rw [hrn] at x3 HROWI
        have HV1 := Lib.hid (fun j (hj : j < acn) => Pl.startV_1 (acn := acn) (arn := arn) (aRV := aRV) (aBV := aBV) (i := i) hj)
        have HV2 := Lib.hid (fun j (hj : j < arn) => Pl.startV_2 (acn := acn) (arn := arn) (aRV := aRV) (aBV := aBV) (i := i) hj)
        have HV3 := Lib.hid (Pl.startV_3 (acn := acn) (arn := arn) (aRV := aRV) (aBV := aBV) (i := i))
        obtain ⟨s, hs⟩ : ∃ s, s = Pl.sgn (aBV i) := ⟨_, rfl⟩
        rw [← hs] at HV1 HV3
        obtain ⟨xb, ex⟩ : ∃ x, x = aBV i := ⟨_, rfl⟩
        rw [← ex] at x4 hs HV3
        obtain ⟨yb, ey⟩ : ∃ y, y = Pl.sm s xb := ⟨_, rfl⟩
        rw [← ey] at HV3
        have HYB := Lib.hid ey
        have HS := Lib.hid hs
        have i0 : (0 : Int) ≤ (i : Int) := by omega
        have i1 : (i : Int) < (arn : Int) := by omega
        generalize aRA i = m1 at x3 HROWI
        generalize aRC i = d1 at x3
        clear hc1 hc3 hrn ex ey hs
        have X3 := Lib.hid x3
        have HTH := Lib.hid hT
        have BTH2 := Lib.hid BT
        have BAH := Lib.hid BA
        have HBX := Lib.hid hb
        have HBW := Lib.hid hbw
        have X4 := Lib.hid x4
        clear hT BT BA hb hbw
        go_upto_if 33 with fail
        go_cut [6] (fun v wx => v = .int .i64 s ∧ wx = wo)
        case first =>
          by_cases hn : xb < 0
          · have dn := decide_eq_true hn
            have e1 : s = -1 := HS.out.trans (if_pos hn)
            subst e1
            go_wp2_with fail
            go_meet
            exact ⟨rfl, rfl⟩
          · have dn := decide_eq_false hn
            have e1 : s = 1 := HS.out.trans (if_neg hn)
            subst e1
            go_wp2_with fail
            go_meet
            exact ⟨rfl, rfl⟩
        case rest =>
          obtain ⟨rfl, hw⟩ := hcut
          have hw2 := hw.symm
          clear hw
          subst hw2
          have HO := Lib.hid (World.ownsRow_made wo #[] 0 (base := wo.heap.size) (Nat.le_refl _) (by decide) rfl (e := 66) (size := 2))
          have HST := Lib.hid ((Below.refl wo.heap.size wo).alloc (Nat.le_refl _) (.cells #[] 66))
          go_wp2
          clear x0 x1 x2 x3 x4
          go_loopw [7, 37] (fun o u wq => ∃ k : Nat, k ≤ acn ∧ u = .int .i64 k ∧ wq.ownsRow wo.heap.size 66 2 o k (cellsV (Pl.startV acn arn aRV aBV i) k) ∧ Below wo.heap.size wo wq) (fun _ u _ => acn - (intOf u).toNat)
          case atStart => exact ⟨0, Nat.zero_le _, rfl, by simpa [cellsV] using HO.out, HST.out⟩
          case round =>
            obtain ⟨k, hk, rfl, hown, hbq⟩ := hrel
            obtain ⟨wq, rfl⟩ : ∃ wq : World, wq = wr := ⟨_, rfl⟩
            have hsz := hbq.size
            have hbz := HBX.out.trans (hbq.mono HBX.out.size)
            have BAq := bx_low4 BAH.out hbq (by omega)
            have x0 := BAq.2.1 0 _ rfl
            have x2 := BAq.2.1 2 _ rfl
            have x3 := (hbq.cell (p := ⟨b1, o1 + i, none⟩) (by have := HBX.out.size; show b1 < _; omega)).trans X3.out
            by_cases hk1 : k < acn
            · obtain ⟨b2, o2, rfl, hb2, hc2⟩ := HROWI.out.2 (by omega)
              have x5 := (hbz.cell (p := ⟨b2, o2 + k, none⟩) (by exact Nat.lt_of_lt_of_le hb2 hB)).trans (hc2 k _ (cellsI_at (aRV i) hk1))
              obtain ⟨xk, ek⟩ : ∃ x, x = aRV i k := ⟨_, rfl⟩
              have hv1 := HV1.out k hk1
              rw [← ek] at x5 hv1
              obtain ⟨yk, ey⟩ : ∃ y, y = Pl.sm s xk := ⟨_, rfl⟩
              rw [← ey] at hv1
              have hm2 : IntKind.i64.wrap (s * xk) = yk := ey.symm
              have hm1 : wrap64 (s * xk) = yk := (IntWalk.i64_left _).symm.trans hm2
              have k0 : (0 : Int) ≤ (k : Int) := by omega
              have k1 : (k : Int) < (acn : Int) := by omega
              have HSN := Lib.hid (row_next hv1)
              have HBQ := Lib.hid hbq
              clear hc2 ek ey hv1 hbq hbz BAq
              go_wp2_with fail
              refine (whole_any _ _).mono ?_
              rintro e w4 ⟨rfl, hb4⟩
              have hown := own_below hown hb4
              have HBQ := Lib.hid (HBQ.out.trans (hb4.mono hsz))
              have hsz := Nat.le_trans hsz hb4.size
              clear hb4 x5 hm1 hm2 x0 x2 x3
              go_wp2_with (at_builtin; refine wpList_push _ rfl _ _ 36 rfl wo.heap.size 66 (.agg #[.int .i64 0, .int .i64 0]) 2 16 Try.underlying36 infoRat rfl (by decide) _ _ _ rfl hown [.int .i64 yk, .int .i64 1] rfl rfl (by simp [Value.oneCell']) (by decide) (by omega) hsz ?_)
              intro v' w' hown' hk'
              have hb' := Lib.hid (hk' _ _ (Nat.le_refl _) HBQ.out)
              clear hk' HBQ
              rw [HSN.out] at hown'
              go_wp2
              go_roundw
              case rel => exact ⟨k + 1, by omega, by go_num, hown', hb'.out⟩
              case measure => simp [intOf]; omega
            · obtain rfl : acn = k := by omega
              have HO2 := Lib.hid hown
              have HQ2 := Lib.hid hbq
              clear hown hbq hk hk1 hbz BAq
              go_wp2
              clear x0 x2 x3
              go_loopw [7, 52] (fun o u wq => ∃ k : Nat, k ≤ arn ∧ u = .int .i64 k ∧ wq.ownsRow wo.heap.size 66 2 o (acn + k) (cellsV (Pl.startV acn arn aRV aBV i) (acn + k)) ∧ Below wo.heap.size wo wq) (fun _ u _ => arn - (intOf u).toNat)
              case atStart => exact ⟨0, Nat.zero_le _, rfl, HO2.out, HQ2.out⟩
              case round =>
                obtain ⟨k, hk, rfl, hown, hbq⟩ := hrel
                obtain ⟨wz, rfl⟩ : ∃ wq : World, wq = wr := ⟨_, rfl⟩
                have hsz := hbq.size
                have BAq := bx_low4 BAH.out hbq (by omega)
                have x0 := BAq.2.1 0 _ rfl
                by_cases hk1 : k < arn
                · have hv2 := HV2.out k hk1
                  obtain ⟨uu, eu⟩ : ∃ u, u = Pl.unit k i := ⟨_, rfl⟩
                  rw [← eu] at hv2
                  have HEU := Lib.hid eu
                  have HSN := Lib.hid (row_next hv2)
                  have k0 : (0 : Int) ≤ (k : Int) := by omega
                  have k1 : (k : Int) < (arn : Int) := by omega
                  have HBQ := Lib.hid hbq
                  have HWN := Lib.hid hown
                  clear eu hv2 hbq hown BAq
                  go_upto_if 57 with fail
                  go_cut [11] (fun v wx => v = .int .i64 uu ∧ wx = wz)
                  case first =>
                    by_cases he : k = i
                    · have dn : ((k : Int) == (i : Int)) = true := beq_iff_eq.2 (by omega)
                      have e1 : uu = 1 := HEU.out.trans (if_pos he)
                      subst e1
                      clear he
                      go_wp2_with fail
                      go_meet
                      exact ⟨rfl, rfl⟩
                    · have dn : ((k : Int) == (i : Int)) = false := beq_eq_false_iff_ne.2 (by omega)
                      have e1 : uu = 0 := HEU.out.trans (if_neg he)
                      subst e1
                      clear he
                      go_wp2_with fail
                      go_meet
                      exact ⟨rfl, rfl⟩
                  case rest =>
                    obtain ⟨rfl, hw⟩ := hcut
                    have hw2 := hw.symm
                    clear hw
                    subst hw2
                    have hown := HWN.out
                    go_wp2_with fail
                    refine (whole_any _ _).mono ?_
                    rintro e w4 ⟨rfl, hb4⟩
                    have hown := own_below hown hb4
                    have HBQ := Lib.hid (HBQ.out.trans (hb4.mono hsz))
                    have hsz := Nat.le_trans hsz hb4.size
                    clear hb4 x0 HWN
                    go_wp2_with (at_builtin; refine wpList_push _ rfl _ _ 36 rfl wo.heap.size 66 (.agg #[.int .i64 0, .int .i64 0]) 2 16 Try.underlying36 infoRat rfl (by decide) _ _ _ rfl hown [.int .i64 uu, .int .i64 1] rfl rfl (by simp [Value.oneCell']) (by decide) (by omega) hsz ?_)
                    intro v' w' hown' hk'
                    have hb' := Lib.hid (hk' _ _ (Nat.le_refl _) HBQ.out)
                    clear hk' HBQ
                    rw [HSN.out, Nat.add_assoc] at hown'
                    go_wp2
                    go_roundw
                    case rel => exact ⟨k + 1, by omega, by go_num, hown', hb'.out⟩
                    case measure => simp [intOf]; omega
                · obtain rfl : arn = k := by omega
                  have DB := (Below.refl wz.heap.size wz).drew
                  have HROW := Lib.hid (own_below hown DB)
                  have HR := Lib.hid (hbq.trans (DB.mono hbq.size))
                  have HQ := Lib.hid (HR.out.mono hsz0)
                  have HQS := Lib.hid (Nat.le_trans hsz0 HR.out.size)
                  have BT := BTH2.out
                  have BA := BAH.out
                  have hT := HTH.out
                  have x4 := X4.out
                  have hbb := HBX.out.size
                  have hm2 : IntKind.i64.wrap (s * xb) = yb := HYB.out.symm
                  clear DB hown hbq BAq
                  go_upto_region 24 with fail
                  refine wp_region_noPanic ?_
                  refine regionG (S := (fun w' => w'.cell? ⟨w1.heap.size, 0, none⟩ = some (.slice X i c) ∧ w'.cell? ⟨w.heap.size, 1, none⟩ = some (.slice (some ⟨b3, o3, none⟩) arn abc) ∧ w'.cell? ⟨b3, o3 + i, none⟩ = some (.int .i64 xb))) 16 (by kernel_rfl) ?_ (fun hHeld => ?_)
                  · exact ⟨(bx_low4 BT HQ.out (Nat.lt_succ_self _)).2.1 0 _ rfl, (bx_low4 BA HQ.out (by omega)).2.1 1 _ rfl, (HQ.out.cell (p := ⟨b3, o3 + i, none⟩) (by show b3 < _; omega)).trans x4⟩
                  refine takeG 0 (v := ?v1001_0) rfl rfl (by kernel_rfl) (by rfl) (by kernel_rfl) (by kernel_rfl) (by kernel_rfl) (fun _ _ _ h => h) (by rfl) ?hy1001_0 (by assumption) ?r1001_0
                  case hy1001_0 => (intro w hSw; (try dsimp only at hSw); first | (go_simp; done) | (go_simp; with_reducible rfl))
                  simp only [Act.put, List.setIfInBounds_toArray, List.set_cons_zero, List.set_cons_succ]
                  refine takeG 1 (v := ?v1001_1) rfl rfl (by kernel_rfl) (by rfl) (by kernel_rfl) (by kernel_rfl) (by kernel_rfl) (fun _ _ _ h => h) (by rfl) ?hy1001_1 (by assumption) ?r1001_1
                  case hy1001_1 => (intro w hSw; (try dsimp only at hSw); first | (go_simp; done) | (go_simp; with_reducible rfl))
                  simp only [Act.put, List.setIfInBounds_toArray, List.set_cons_zero, List.set_cons_succ]
                  refine takeG 2 (v := ?v1001_2) rfl rfl (by kernel_rfl) (by rfl) (by kernel_rfl) (by kernel_rfl) (by kernel_rfl) (fun _ _ _ h => h) (by rfl) ?hy1001_2 (by assumption) ?r1001_2
                  case hy1001_2 => (intro w hSw; (try dsimp only at hSw); first | (go_simp; done) | (go_simp; with_reducible rfl))
                  simp only [Act.put, List.setIfInBounds_toArray, List.set_cons_zero, List.set_cons_succ]
                  refine takeG 3 (v := ?v1001_3) rfl rfl (by kernel_rfl) (by rfl) (by kernel_rfl) (by kernel_rfl) (by kernel_rfl) (fun _ _ _ h => h) (by rfl) ?hy1001_3 (by assumption) ?r1001_3
                  case hy1001_3 => (intro w hSw; (try dsimp only at hSw); first | (go_simp; done) | (go_simp; with_reducible rfl))
                  simp only [Act.put, List.setIfInBounds_toArray, List.set_cons_zero, List.set_cons_succ]
                  refine takeG 4 (v := ?v1001_4) rfl rfl (by kernel_rfl) (by rfl) (by kernel_rfl) (by kernel_rfl) (by kernel_rfl) (fun _ _ _ h => h) (by rfl) ?hy1001_4 (by assumption) ?r1001_4
                  case hy1001_4 => (intro w hSw; (try dsimp only at hSw); first | (go_simp; done) | (go_simp; with_reducible rfl))
                  simp only [Act.put, List.setIfInBounds_toArray, List.set_cons_zero, List.set_cons_succ]
                  refine takeG 5 (v := ?v1001_5) rfl rfl (by kernel_rfl) (by rfl) (by kernel_rfl) (by kernel_rfl) (by kernel_rfl) (fun _ _ _ h => h) (by rfl) ?hy1001_5 (by assumption) ?r1001_5
                  case hy1001_5 => (intro w hSw; (try dsimp only at hSw); first | (go_simp; done) | (go_simp; with_reducible rfl))
                  simp only [Act.put, List.setIfInBounds_toArray, List.set_cons_zero, List.set_cons_succ]
                  refine takeG 6 (v := ?v1001_6) rfl rfl (by kernel_rfl) (by rfl) (by kernel_rfl) (by kernel_rfl) (by kernel_rfl) (fun _ _ _ h => h) (by rfl) ?hy1001_6 (by assumption) ?r1001_6
                  case hy1001_6 => (intro w hSw; (try dsimp only at hSw); first | (go_simp; done) | (go_simp; with_reducible rfl))
                  simp only [Act.put, List.setIfInBounds_toArray, List.set_cons_zero, List.set_cons_succ]
                  refine takeG 7 (v := ?v1001_7) rfl rfl (by kernel_rfl) (by rfl) (by kernel_rfl) (by kernel_rfl) (by kernel_rfl) (fun _ _ _ h => h) (by rfl) ?hy1001_7 (by assumption) ?r1001_7
                  case hy1001_7 => (intro w hSw; (try dsimp only at hSw); first | (go_simp; done) | (go_simp; with_reducible rfl))
                  simp only [Act.put, List.setIfInBounds_toArray, List.set_cons_zero, List.set_cons_succ]
                  refine takeG 8 (v := ?v1001_8) rfl rfl (by kernel_rfl) (by rfl) (by kernel_rfl) (by kernel_rfl) (by kernel_rfl) (fun _ _ _ h => h) (by rfl) ?hy1001_8 (by assumption) ?r1001_8
                  case hy1001_8 => (intro w hSw; (try dsimp only at hSw); first | (go_simp; done) | (go_simp; with_reducible rfl))
                  simp only [Act.put, List.setIfInBounds_toArray, List.set_cons_zero, List.set_cons_succ]
                  refine takeG 9 (v := ?v1001_9) rfl rfl (by kernel_rfl) (by rfl) (by kernel_rfl) (by kernel_rfl) (by kernel_rfl) (fun _ _ _ h => h) (by rfl) ?hy1001_9 (by assumption) ?r1001_9
                  case hy1001_9 => (intro w hSw; (try dsimp only at hSw); first | (go_simp; done) | (go_simp; with_reducible rfl))
                  simp only [Act.put, List.setIfInBounds_toArray, List.set_cons_zero, List.set_cons_succ]
                  try simp only [hm2]
                  refine nextG 10 (by kernel_rfl) rfl (by rfl) (fun K hK => ?_)
                  go_simp
                  go_at_call 59; refine (whole_any _ _).mono ?_; rintro e w4 ⟨rfl, hb4⟩; have HROW := Lib.hid (own_below HROW.out hb4); have HR := Lib.hid (HR.out.trans (hb4.mono HR.out.size)); have HQ := Lib.hid (HR.out.mono hsz0); have HQS := Lib.hid (Nat.le_trans hsz0 HR.out.size); clear hb4
                  go_wp2_with fail
                  refine hK.out _ _ ?_ (fun hHeld => ?_)
                  · exact ⟨(bx_low4 BT HQ.out (Nat.lt_succ_self _)).2.1 0 _ rfl, (bx_low4 BA HQ.out (by omega)).2.1 1 _ rfl, (HQ.out.cell (p := ⟨b3, o3 + i, none⟩) (by show b3 < _; omega)).trans x4⟩
                  clear hK K
                  refine nextG 11 (by kernel_rfl) rfl (by rfl) (fun K hK => ?_)
                  go_simp
                  refine hK.out _ _ ?_ (fun hHeld => ?_)
                  · exact ⟨(bx_low4 BT (HQ.out.alloc HQS.out _) (Nat.lt_succ_self _)).2.1 0 _ rfl, (bx_low4 BA (HQ.out.alloc HQS.out _) (by omega)).2.1 1 _ rfl, ((HQ.out.alloc HQS.out _).cell (p := ⟨b3, o3 + i, none⟩) (by show b3 < _; omega)).trans x4⟩
                  clear hK K
                  try simp only [Act.put, List.setIfInBounds_toArray, List.set_cons_zero, List.set_cons_succ]
                  refine nextG 12 (by kernel_rfl) rfl (by rfl) (fun K hK => ?_)
                  refine wp_rowpush _ _ _ 36 rfl wo.heap.size 66 (.agg #[.int .i64 0, .int .i64 0]) 2 16 Try.underlying36 infoRat rfl (by decide) _ _ _ rfl HROW.out [.int .i64 yb, .int .i64 1] rfl rfl (by simp [Value.oneCell']) (by decide) (by omega) HR.out.size ?_; intro g5 cap5 w5 hown5 hg5 _ _; have HR := Lib.hid (HR.out.trans (Below.of_grown hg5 HR.out.size (fun k hk => (HROW.out.lt k hk).1))); rw [row_next HV3.out] at hown5; have HROW := Lib.hid hown5; have HQ := Lib.hid (HR.out.mono hsz0); have HQS := Lib.hid (Nat.le_trans hsz0 HR.out.size); clear hown5 hg5
                  refine hK.out _ _ ?_ (fun hHeld => ?_)
                  · exact ⟨(bx_low4 BT HQ.out (Nat.lt_succ_self _)).2.1 0 _ rfl, (bx_low4 BA HQ.out (by omega)).2.1 1 _ rfl, (HQ.out.cell (p := ⟨b3, o3 + i, none⟩) (by show b3 < _; omega)).trans x4⟩
                  clear hK K
                  try simp only [Act.put, List.setIfInBounds_toArray, List.set_cons_zero, List.set_cons_succ]
                  refine nextG 13 (by kernel_rfl) rfl (by rfl) (fun K hK => ?_)
                  go_simp
                  refine hK.out _ _ ?_ (fun hHeld => ?_)
                  · exact ⟨(bx_low4 BT (HQ.out.alloc HQS.out _) (Nat.lt_succ_self _)).2.1 0 _ rfl, (bx_low4 BA (HQ.out.alloc HQS.out _) (by omega)).2.1 1 _ rfl, ((HQ.out.alloc HQS.out _).cell (p := ⟨b3, o3 + i, none⟩) (by show b3 < _; omega)).trans x4⟩
                  clear hK K
                  try simp only [Act.put, List.setIfInBounds_toArray, List.set_cons_zero, List.set_cons_succ]
                  refine nextG 14 (by kernel_rfl) rfl (by rfl) (fun K hK => ?_)
                  refine wp_rowpush _ _ _ 28 rfl (w1.heap.size + 1) 36 (.slice none 0 0) 1 24 Try.underlying28 infoRows rfl (by decide) (.slice X i c) i _ rfl (own_below hT.rows.outer HR.out) [.slice (some ⟨g5, 0, none⟩) (acn + arn + 1) cap5] rfl rfl (by simp [Value.oneCell']) (by decide) (by omega) HQS.out ?_; intro g6 cap6 w6 hown6 hg6 hat6 hlt6; have HQ := Lib.hid (HQ.out.trans (Below.of_grown hg6 HQS.out (fun k hk => (hT.rows.outer.lt k hk).1))); rw [ownBlock_blk] at hg6 hat6; have HT6 := Lib.hid (hT.pushRow hsz0 HR.out HROW.out hg6 hown6 hat6 hlt6); clear hown6 hg6 hat6
                  refine hK.out _ _ ?_ (fun hHeld => ?_)
                  · exact ⟨(bx_low4 BT HQ.out (Nat.lt_succ_self _)).2.1 0 _ rfl, (bx_low4 BA HQ.out (by omega)).2.1 1 _ rfl, (HQ.out.cell (p := ⟨b3, o3 + i, none⟩) (by show b3 < _; omega)).trans x4⟩
                  clear hK K
                  try simp only [Act.put, List.setIfInBounds_toArray, List.set_cons_zero, List.set_cons_succ]
                  refine takeG 15 (v := ?v1001_15) rfl rfl (by kernel_rfl) (by rfl) (by kernel_rfl) (by kernel_rfl) (by kernel_rfl) (fun _ _ _ h => h) (by rfl) ?hy1001_15 (by assumption) ?r1001_15
                  case hy1001_15 => (intro w hSw; (try dsimp only at hSw); first | (go_simp; done) | (go_simp; with_reducible rfl))
                  simp only [Act.put, List.setIfInBounds_toArray, List.set_cons_zero, List.set_cons_succ]
                  refine lastG (by kernel_rfl) (by kernel_rfl) rfl (by rfl) (fun K hK => ?_)
                  have y0 := (bx_low4 BT HQ.out (Nat.lt_succ_self _)).2.1 0 _ rfl
                  have yf := (bx_low4 BT HQ.out (Nat.lt_succ_self _)).2.2 0
                  have yz := (bx_low4 BT HQ.out (Nat.lt_succ_self _)).1
                  go_simp
                  refine hK.out _ _ ?_
                  clear hK K
                  refine NoPanic.normal ?_
                  have BT7 := (bx_low4 BT HQ.out (Nat.lt_succ_self _)).set (k := 0) (by simp) (.slice (some ⟨g6, 0, none⟩) (i + 1) cap6)
                  have hT7 := HT6.out.set (a := ⟨w1.heap.size, 0, none⟩) (Nat.lt_succ_self _) (.slice (some ⟨g6, 0, none⟩) (i + 1) cap6)
                  have HW7 := Lib.hid ((HBW.out.trans (HQ.out.mono (Nat.le_succ _))).setCell (p := ⟨w1.heap.size, 0, none⟩) (Nat.le_refl _) (.slice (some ⟨g6, 0, none⟩) (i + 1) cap6))
                  have hz7 : w1.heap.size + 1 ≤ (w6.setCell ⟨w1.heap.size, 0, none⟩ (.slice (some ⟨g6, 0, none⟩) (i + 1) cap6)).heap.size := by rw [size_setCell]; omega
                  obtain ⟨w7, e7⟩ : ∃ w7, w7 = w6.setCell ⟨w1.heap.size, 0, none⟩ (.slice (some ⟨g6, 0, none⟩) (i + 1) cap6) := ⟨_, rfl⟩
                  rw [← e7] at BT7 hT7 HW7 hz7 ⊢
                  have BA7 := bx_low4 BA1.out HW7.out (by omega)
                  have z1 := BT7.2.1 1 _ rfl
                  have z2 := BT7.2.1 2 _ rfl
                  have x2 := BA7.2.1 2 _ rfl
                  have HT7 := Lib.hid (hT7.wide (Nat.le_of_eq (by rw [e7, size_setCell])) (Nat.le_refl _))
                  have BTH7 := Lib.hid BT7
                  clear e7 BA7 BT7 hT7 HT6 HQ HR HROW BT BA hT x4 y0 yf yz x0 hHeld
                  go_wp2_with (at_builtin; refine wpList_rowpush _ rfl _ _ 23 rfl (w1.heap.size + 1) 3 (.int .i64 0) 1 8 Try.underlying23 infoInt rfl (by decide) (.slice Y i d) i _ rfl HT7.out.basis [.int .i64 ((acn : Int) + (i : Int))] rfl rfl (by simp [Value.oneCell']) (by decide) (by omega) hz7 ?_)
                  intro g8 cap8 w8 hown8 hg8 hat8 hlt8
                  have hQ8 := Below.of_grown (B := w1.heap.size + 1) hg8 hz7 (fun k hk => (HT7.out.basis.lt k hk).1)
                  rw [ownBlock_blk] at hg8 hat8
                  have hown8' : w8.ownsRow (w1.heap.size + 1) 3 1 (.slice (some ⟨g8, 0, none⟩) (i + 1) cap8) (i + 1) (cellsI (Pl.startB acn) (i + 1)) := by
                    have h := hown8
                    rwa [show (Value.int .i64 ((acn : Int) + (i : Int))) = .int .i64 (Pl.startB acn i) from rfl, cellsI_next] at h
                  have hT8 := HT7.out.pushBasis hg8 hown8' hat8 hlt8
                  have BT8 := bx_low4 BTH7.out hQ8 (Nat.lt_succ_self _)
                  have HW8 := HW7.out.trans (hQ8.mono (Nat.le_succ _))
                  have y1 := BT8.2.1 1 _ rfl
                  have yf := BT8.2.2 1
                  have yz := BT8.1
                  have BT9 := Lib.hid (BT8.set (k := 1) (by simp) (.slice (some ⟨g8, 0, none⟩) (i + 1) cap8))
                  have HT9 := Lib.hid ((hT8.set (a := ⟨w1.heap.size, 1, none⟩) (Nat.lt_succ_self _) (.slice (some ⟨g8, 0, none⟩) (i + 1) cap8)).wide (Nat.le_of_eq (size_setCell _ _ _).symm) (Nat.le_refl _))
                  have HW9 := Lib.hid (HW8.setCell (p := ⟨w1.heap.size, 1, none⟩) (Nat.le_refl _) (.slice (some ⟨g8, 0, none⟩) (i + 1) cap8))
                  clear hown8 hown8' hg8 hat8 hQ8 hT8 BT8 HW8 x2 z1 z2
                  go_wp2
                  go_roundw
                  case rel => exact ⟨i + 1, _, _, _, _, _, _, by omega, by go_num, HT9.out, BT9.out, HW9.out⟩
                  case measure => simp [intOf]; omega
      · obtain rfl : arn = i := by omega
        have BR := bx_low4 BR1.out hbw (by omega)
        have z0 := BT.2.1 0 _ rfl
        have z1 := BT.2.1 1 _ rfl
        have z2 := BT.2.1 2 _ rfl
        have r0 := BR.2.1 0 _ rfl
        have r1 := BR.2.1 1 _ rfl
        have r2 := BR.2.1 2 _ rfl
        have rz := BR.1
        have rf := BR.2.2
        have HB := hb
        clear hb BA BT x1 x2
        have BR := BR.set (k := 0) (by simp) (.slice X arn c)
        have hT := OwnTab.set hT (a := ⟨w.heap.size + 1, 0, none⟩) (by show w.heap.size + 1 < _; omega) (.slice X arn c)
        have HB := HB.setCell (p := ⟨w.heap.size + 1, 0, none⟩) (by show w.heap.size ≤ w.heap.size + 1; omega) (.slice X arn c)
        have BR := BR.set (k := 1) (by simp) (.slice Y arn d)
        have hT := OwnTab.set hT (a := ⟨w.heap.size + 1, 1, none⟩) (by show w.heap.size + 1 < _; omega) (.slice Y arn d)
        have HB := HB.setCell (p := ⟨w.heap.size + 1, 1, none⟩) (by show w.heap.size ≤ w.heap.size + 1; omega) (.slice Y arn d)
        have BR := BR.set (k := 2) (by simp) (.int .i64 acn)
        have hT := OwnTab.set hT (a := ⟨w.heap.size + 1, 2, none⟩) (by show w.heap.size + 1 < _; omega) (.int .i64 acn)
        have HB := HB.setCell (p := ⟨w.heap.size + 1, 2, none⟩) (by show w.heap.size ≤ w.heap.size + 1; omega) (.int .i64 acn)
        have f0 := BR.2.1 0 _ rfl
        have f1 := BR.2.1 1 _ rfl
        have f2 := BR.2.1 2 _ rfl
        have HBB := Lib.hid HB
        have OTT := Lib.hid (hT.low (lo' := w.heap.size) (by omega))
        clear HB BR hT
        go_wp2
        refine bodyPost_ret (v := .agg #[.slice X arn c, .slice Y arn d, .int .i64 acn]) (by simp [results, Try.results30, go_sem, f0, f1, f2]) rfl ⟨X, c, XA, RC, Y, d, _, rfl, OTT.out, HBB.out⟩

set_option maxHeartbeats 4000000 in
set_option maxRecDepth 20000 in
theorem sStart_any (aR aBs aCs : Option Addr) (arn arc abn abc acn acc : Nat) (aRA : Nat → Option Addr) (aRN aRC : Nat → Nat) (aRV : Nat → Nat → Int) (aBV : Nat → Int) (aCV : Fr) (B : Nat) (w : World) (arr : RdI w B aR arn aRA aRN aRC aRV) (abb : Rd w B 1 aBs abn (cellsI aBV abn)) (acr : RdP w B aCs acn aCV) (hB : B ≤ w.heap.size) (ha1 : arn ≤ 1048576) (ha2 : ∀ j, j < arn → aRN j ≤ 1048576) (ha3 : abn ≤ 1048576) (ha4 : acn ≤ 1048576) :
    Calls Try.prog 28 #[.agg #[.slice aR arn arc, .slice aBs abn abc, .slice aCs acn acc]] w (OwnsTab (if Pl.validLP acn arn aRN aRV abn aBV aCV = true then arn else 0) (if Pl.validLP acn arn aRN aRV abn aBV aCV = true then (acn : Int) else 0) (fun _ => acn + arn + 1) (Pl.startV acn arn aRV aBV) (Pl.startB acn) w) := by
  have BA : Bx ((w.alloc (.cells #[.slice aR arn arc, .slice aBs abn abc, .slice aCs acn acc] 53)).alloc (.cells #[.slice none 0 0, .slice none 0 0, .int .i64 0] 30)) w.heap.size [.slice aR arn arc, .slice aBs abn abc, .slice aCs acn acc] := (Bx.new w #[.slice aR arn arc, .slice aBs abn abc, .slice aCs acn acc] 53).alloc _
  have BR : Bx ((w.alloc (.cells #[.slice aR arn arc, .slice aBs abn abc, .slice aCs acn acc] 53)).alloc (.cells #[.slice none 0 0, .slice none 0 0, .int .i64 0] 30)) (w.heap.size + 1) [.slice none 0 0, .slice none 0 0, .int .i64 0] := by
    have h := Bx.new (w.alloc (.cells #[.slice aR arn arc, .slice aBs abn abc, .slice aCs acn acc] 53)) #[.slice none 0 0, .slice none 0 0, .int .i64 0] 30
    simpa using h
  have HB : Below w.heap.size w ((w.alloc (.cells #[.slice aR arn arc, .slice aBs abn abc, .slice aCs acn acc] 53)).alloc (.cells #[.slice none 0 0, .slice none 0 0, .int .i64 0] 30)) := ((Below.refl _ _).alloc (Nat.le_refl _) _).alloc (by simp) _
  have C1 := Lib.hid (sValidLP_any aR aBs aCs arn arc abn abc acn acc aRA aRN aRC aRV aBV aCV B ((w.alloc (.cells #[.slice aR arn arc, .slice aBs abn abc, .slice aCs acn acc] 53)).alloc (.cells #[.slice none 0 0, .slice none 0 0, .int .i64 0] 30)) (arr.below HB hB) (abb.below' HB hB) (acr.below HB hB) (Nat.le_trans hB HB.size) ha1 ha2 ha3 ha4)
  have x0 := BA.2.1 0 _ rfl
  have x1 := BA.2.1 1 _ rfl
  have x2 := BA.2.1 2 _ rfl
  have xz := BA.1
  have r0 := BR.2.1 0 _ rfl
  have r1 := BR.2.1 1 _ rfl
  have r2 := BR.2.1 2 _ rfl
  have rz := BR.1
  have rf := BR.2.2
  unfold OwnsTab
  clear ha2 acr
  cases hv : Pl.validLP acn arn aRN aRV abn aBV aCV
  · rw [hv] at C1
    simp only [Bool.false_eq_true, if_false]
    clear hv arr abb
    go_enter Try.func28, Try.ntmps28
    go_wp2_with fail
    refine C1.out.mono ?_
    rintro e w1 ⟨rfl, hb⟩
    have BR := BR.below hb
    have HB := HB.trans (hb.mono HB.size)
    clear hb C1 x0 x1 x2 xz r0 r1 r2 rz rf BA
    have r0 := BR.2.1 0 _ rfl
    have r1 := BR.2.1 1 _ rfl
    have r2 := BR.2.1 2 _ rfl
    have rz := BR.1
    have rf := BR.2.2
    have BR := BR.set (k := 0) (by simp) (.slice none 0 0)
    have HB := HB.setCell (p := ⟨w.heap.size + 1, 0, none⟩) (by show w.heap.size ≤ w.heap.size + 1; omega) (.slice none 0 0)
    have BR := BR.set (k := 1) (by simp) (.slice none 0 0)
    have HB := HB.setCell (p := ⟨w.heap.size + 1, 1, none⟩) (by show w.heap.size ≤ w.heap.size + 1; omega) (.slice none 0 0)
    have BR := BR.set (k := 2) (by simp) (.int .i64 0)
    have HB := HB.setCell (p := ⟨w.heap.size + 1, 2, none⟩) (by show w.heap.size ≤ w.heap.size + 1; omega) (.int .i64 0)
    have f0 := BR.2.1 0 _ rfl
    have f1 := BR.2.1 1 _ rfl
    have f2 := BR.2.1 2 _ rfl
    have HBB := Lib.hid HB
    have OT := Lib.hid (OwnTab.nil (((w1.setCell ⟨w.heap.size + 1, 0, none⟩ (.slice none 0 0)).setCell ⟨w.heap.size + 1, 1, none⟩ (.slice none 0 0)).setCell ⟨w.heap.size + 1, 2, none⟩ (.int .i64 0)) w.heap.size (fun _ => none) (fun _ => acn + arn + 1) (fun _ => 0) (Pl.startV acn arn aRV aBV) (Pl.startB acn))
    clear HB BR
    go_wp2
    refine bodyPost_ret (v := .agg #[.slice none 0 0, .slice none 0 0, .int .i64 0]) (by simp [results, Try.results28, go_sem, f0, f1, f2]) rfl ⟨none, 0, fun _ => none, fun _ => 0, none, 0, _, rfl, OT.out, HBB.out⟩
  · rw [hv] at C1
    simp only [if_true]
    have q := Pl.lpFacts hv
    have HRN := Lib.hid (fun i hi => (q.2.2.2.1 i hi).1)
    have hba := q.2.2.1
    have hc70 := q.1
    have hr8 := q.2.1
    have hba := hba.symm
    subst hba
    clear q hv
    have ARH := Lib.hid arr
    have ABH := Lib.hid abb
    clear arr abb
    go_enter Try.func28, Try.ntmps28
    go_wp2_with fail
    refine C1.out.mono ?_
    rintro e w1 ⟨rfl, hb⟩
    have BA := BA.below hb
    have BR := BR.below hb
    have HB := HB.trans (hb.mono HB.size)
    clear hb C1 x0 x1 x2 xz r0 r1 r2 rz rf
    have x2 := BA.2.1 2 _ rfl
    have xz := BA.1
    have BT0 : Bx (w1.alloc (.cells #[.slice none 0 0, .slice none 0 0, .int .i64 acn] 30)) w1.heap.size [.slice none 0 0, .slice none 0 0, .int .i64 acn] := Bx.new w1 _ _
    have BA1 := Lib.hid BA
    have BR1 := Lib.hid BR
    have HB1 := Lib.hid HB
    have hz1 : w.heap.size + 1 < w1.heap.size := BR.1
    have HW0 := Lib.hid ((Below.refl w1.heap.size w1).alloc (Nat.le_refl _) (.cells #[.slice none 0 0, .slice none 0 0, .int .i64 acn] 30))
    have HT0 : Hid (OwnTab (w1.alloc (.cells #[.slice none 0 0, .slice none 0 0, .int .i64 acn] 30)) (w1.heap.size + 1) (w1.alloc (.cells #[.slice none 0 0, .slice none 0 0, .int .i64 acn] 30)).heap.size none 0 0 (fun _ => none) (fun _ => acn + arn + 1) (fun _ => 0) (Pl.startV acn arn aRV aBV) none 0 0 (Pl.startB acn)) := Lib.hid (OwnTab.nil _ _ _ _ _ _ _)
    have x0 := BA.2.1 0 _ rfl
    have BTH := Lib.hid BT0
    clear HB BR BA BT0
    go_wp2
    clear x0 x2 xz
    go_loopw [4] (fun u wr => ∃ (i : Nat) (X : Option Addr) (c : Nat) (XA : Nat → Option Addr) (RC : Nat → Nat) (Y : Option Addr) (d : Nat), i ≤ arn ∧ u = .int .i64 i ∧ OwnTab wr (w1.heap.size + 1) wr.heap.size X i c XA (fun _ => acn + arn + 1) RC (Pl.startV acn arn aRV aBV) Y i d (Pl.startB acn) ∧ Bx wr w1.heap.size [.slice X i c, .slice Y i d, .int .i64 acn] ∧ Below w1.heap.size w1 wr) (fun u _ => arn - (intOf u).toNat)
    case atStart => exact ⟨0, none, 0, _, _, none, 0, Nat.zero_le _, rfl, HT0.out, BTH.out, HW0.out⟩
    case round =>
      obtain ⟨i, X, c, XA, RC, Y, d, hi, rfl, hT, BT, hbw⟩ := hrel
      obtain ⟨wo, rfl⟩ : ∃ wo : World, wo = wr := ⟨_, rfl⟩
      have BA := bx_low4 BA1.out hbw (by omega)
      have hb := HB1.out.trans (hbw.mono (by omega))
      have hsz0 : w1.heap.size + 1 ≤ wo.heap.size := BT.1
      have x0 := BA.2.1 0 _ rfl
      have x1 := BA.2.1 1 _ rfl
      have x2 := BA.2.1 2 _ rfl
      by_cases hlt : i < arn
      · obtain ⟨b1, o1, rfl, hb1, hc1⟩ := ARH.out.1 (by omega)
        obtain ⟨b3, o3, rfl, hb3, hc3⟩ := ABH.out.2 (by omega)
        have x3 := (hb.cell (p := ⟨b1, o1 + i, none⟩) (by exact Nat.lt_of_lt_of_le hb1 hB)).trans (hc1 i hlt)
        have x4 := (hb.cell (p := ⟨b3, o3 + i, none⟩) (by exact Nat.lt_of_lt_of_le hb3 hB)).trans (hc3 i _ (cellsI_at aBV hlt))
        have hrn := HRN.out i hlt
        have HROWI := Lib.hid (ARH.out.2 i hlt)
        rw [hrn] at x3 HROWI
        have HV1 := Lib.hid (fun j (hj : j < acn) => Pl.startV_1 (acn := acn) (arn := arn) (aRV := aRV) (aBV := aBV) (i := i) hj)
        have HV2 := Lib.hid (fun j (hj : j < arn) => Pl.startV_2 (acn := acn) (arn := arn) (aRV := aRV) (aBV := aBV) (i := i) hj)
        have HV3 := Lib.hid (Pl.startV_3 (acn := acn) (arn := arn) (aRV := aRV) (aBV := aBV) (i := i))
        obtain ⟨s, hs⟩ : ∃ s, s = Pl.sgn (aBV i) := ⟨_, rfl⟩
        rw [← hs] at HV1 HV3
        obtain ⟨xb, ex⟩ : ∃ x, x = aBV i := ⟨_, rfl⟩
        rw [← ex] at x4 hs HV3
        obtain ⟨yb, ey⟩ : ∃ y, y = Pl.sm s xb := ⟨_, rfl⟩
        rw [← ey] at HV3
        have HYB := Lib.hid ey
        have HS := Lib.hid hs
        have i0 : (0 : Int) ≤ (i : Int) := by omega
        have i1 : (i : Int) < (arn : Int) := by omega
        generalize aRA i = m1 at x3 HROWI
        generalize aRC i = d1 at x3
        clear hc1 hc3 hrn ex ey hs
        have X3 := Lib.hid x3
        have HTH := Lib.hid hT
        have BTH2 := Lib.hid BT
        have BAH := Lib.hid BA
        have HBX := Lib.hid hb
        have HBW := Lib.hid hbw
        have X4 := Lib.hid x4
        clear hT BT BA hb hbw
        go_upto_if 29 with fail
        go_cut [5] (fun v wx => v = .int .i64 s ∧ wx = wo)
        case first =>
          by_cases hn : xb < 0
          · have dn := decide_eq_true hn
            have e1 : s = -1 := HS.out.trans (if_pos hn)
            subst e1
            go_wp2_with fail
            go_meet
            exact ⟨rfl, rfl⟩
          · have dn := decide_eq_false hn
            have e1 : s = 1 := HS.out.trans (if_neg hn)
            subst e1
            go_wp2_with fail
            go_meet
            exact ⟨rfl, rfl⟩
        case rest =>
          obtain ⟨rfl, hw⟩ := hcut
          have hw2 := hw.symm
          clear hw
          subst hw2
          have HO := Lib.hid (World.ownsRow_made wo #[] 0 (base := wo.heap.size) (Nat.le_refl _) (by decide) rfl (e := 66) (size := 2))
          have HST := Lib.hid ((Below.refl wo.heap.size wo).alloc (Nat.le_refl _) (.cells #[] 66))
          go_wp2
          clear x0 x1 x2 x3 x4
          go_loopw [6, 7] (fun o u wq => ∃ k : Nat, k ≤ acn ∧ u = .int .i64 k ∧ wq.ownsRow wo.heap.size 66 2 o k (cellsV (Pl.startV acn arn aRV aBV i) k) ∧ Below wo.heap.size wo wq) (fun _ u _ => acn - (intOf u).toNat)
          case atStart => exact ⟨0, Nat.zero_le _, rfl, by simpa [cellsV] using HO.out, HST.out⟩
          case round =>
            obtain ⟨k, hk, rfl, hown, hbq⟩ := hrel
            obtain ⟨wq, rfl⟩ : ∃ wq : World, wq = wr := ⟨_, rfl⟩
            have hsz := hbq.size
            have hbz := HBX.out.trans (hbq.mono HBX.out.size)
            have BAq := bx_low4 BAH.out hbq (by omega)
            have x0 := BAq.2.1 0 _ rfl
            have x2 := BAq.2.1 2 _ rfl
            have x3 := (hbq.cell (p := ⟨b1, o1 + i, none⟩) (by have := HBX.out.size; show b1 < _; omega)).trans X3.out
            by_cases hk1 : k < acn
            · obtain ⟨b2, o2, rfl, hb2, hc2⟩ := HROWI.out.2 (by omega)
              have x5 := (hbz.cell (p := ⟨b2, o2 + k, none⟩) (by exact Nat.lt_of_lt_of_le hb2 hB)).trans (hc2 k _ (cellsI_at (aRV i) hk1))
              obtain ⟨xk, ek⟩ : ∃ x, x = aRV i k := ⟨_, rfl⟩
              have hv1 := HV1.out k hk1
              rw [← ek] at x5 hv1
              obtain ⟨yk, ey⟩ : ∃ y, y = Pl.sm s xk := ⟨_, rfl⟩
              rw [← ey] at hv1
              have hm2 : IntKind.i64.wrap (s * xk) = yk := ey.symm
              have hm1 : wrap64 (s * xk) = yk := (IntWalk.i64_left _).symm.trans hm2
              have k0 : (0 : Int) ≤ (k : Int) := by omega
              have k1 : (k : Int) < (acn : Int) := by omega
              have HSN := Lib.hid (row_next hv1)
              have HBQ := Lib.hid hbq
              clear hc2 ek ey hv1 hbq hbz BAq
              go_wp2_with fail
              refine (l3Int_any _ _).mono ?_
              rintro e w4 ⟨rfl, hb4⟩
              have hown := own_below hown hb4
              have HBQ := Lib.hid (HBQ.out.trans (hb4.mono hsz))
              have hsz := Nat.le_trans hsz hb4.size
              clear hb4 x5 hm1 hm2 x0 x2 x3
              go_wp2_with (at_builtin; refine wpList_push _ rfl _ _ 36 rfl wo.heap.size 66 (.agg #[.int .i64 0, .int .i64 0]) 2 16 Try.underlying36 infoRat rfl (by decide) _ _ _ rfl hown [.int .i64 yk, .int .i64 1] rfl rfl (by simp [Value.oneCell']) (by decide) (by omega) hsz ?_)
              intro v' w' hown' hk'
              have hb' := Lib.hid (hk' _ _ (Nat.le_refl _) HBQ.out)
              clear hk' HBQ
              rw [HSN.out] at hown'
              go_wp2
              go_roundw
              case rel => exact ⟨k + 1, by omega, by go_num, hown', hb'.out⟩
              case measure => simp [intOf]; omega
            · obtain rfl : acn = k := by omega
              have HO2 := Lib.hid hown
              have HQ2 := Lib.hid hbq
              clear hown hbq hk hk1 hbz BAq
              go_wp2
              clear x0 x2 x3
              go_loopw [6, 8] (fun o u wq => ∃ k : Nat, k ≤ arn ∧ u = .int .i64 k ∧ wq.ownsRow wo.heap.size 66 2 o (acn + k) (cellsV (Pl.startV acn arn aRV aBV i) (acn + k)) ∧ Below wo.heap.size wo wq) (fun _ u _ => arn - (intOf u).toNat)
              case atStart => exact ⟨0, Nat.zero_le _, rfl, HO2.out, HQ2.out⟩
              case round =>
                obtain ⟨k, hk, rfl, hown, hbq⟩ := hrel
                obtain ⟨wz, rfl⟩ : ∃ wq : World, wq = wr := ⟨_, rfl⟩
                have hsz := hbq.size
                have BAq := bx_low4 BAH.out hbq (by omega)
                have x0 := BAq.2.1 0 _ rfl
                by_cases hk1 : k < arn
                · have hv2 := HV2.out k hk1
                  obtain ⟨uu, eu⟩ : ∃ u, u = Pl.unit k i := ⟨_, rfl⟩
                  rw [← eu] at hv2
                  have HEU := Lib.hid eu
                  have HSN := Lib.hid (row_next hv2)
                  have k0 : (0 : Int) ≤ (k : Int) := by omega
                  have k1 : (k : Int) < (arn : Int) := by omega
                  have HBQ := Lib.hid hbq
                  have HWN := Lib.hid hown
                  clear eu hv2 hbq hown BAq
                  obtain ⟨b, eb⟩ : ∃ b, b = ((k : Int) == (i : Int)) := ⟨_, rfl⟩
                  have eb2 := eb.symm
                  have HUB : Hid ((if b = true then (1 : Int) else 0) = uu) := Lib.hid (by
                    rw [HEU.out, Pl.unit, eb]
                    by_cases he : k = i
                    · rw [if_pos he, if_pos (beq_iff_eq.2 (by omega))]
                    · rw [if_neg he, if_neg (by rw [beq_iff_eq]; omega)])
                  clear eb
                  go_wp2_with fail
                  refine (l1Bit_any b _).mono ?_
                  rintro e w4 ⟨rfl, rfl⟩
                  rw [HUB.out]
                  have hown := HWN.out
                  go_wp2_with fail
                  refine (l3Int_any _ _).mono ?_
                  rintro e w4 ⟨rfl, hb4⟩
                  have hown := own_below hown hb4
                  have HBQ := Lib.hid (HBQ.out.trans (hb4.mono hsz))
                  have hsz := Nat.le_trans hsz hb4.size
                  clear hb4 x0 HWN
                  go_wp2_with (at_builtin; refine wpList_push _ rfl _ _ 36 rfl wo.heap.size 66 (.agg #[.int .i64 0, .int .i64 0]) 2 16 Try.underlying36 infoRat rfl (by decide) _ _ _ rfl hown [.int .i64 uu, .int .i64 1] rfl rfl (by simp [Value.oneCell']) (by decide) (by omega) hsz ?_)
                  intro v' w' hown' hk'
                  have hb' := Lib.hid (hk' _ _ (Nat.le_refl _) HBQ.out)
                  clear hk' HBQ
                  rw [HSN.out, Nat.add_assoc] at hown'
                  go_wp2
                  go_roundw
                  case rel => exact ⟨k + 1, by omega, by go_num, hown', hb'.out⟩
                  case measure => simp [intOf]; omega
                · obtain rfl : arn = k := by omega
                  have DB := (Below.refl wz.heap.size wz).drew
                  have HROW := Lib.hid (own_below hown DB)
                  have HR := Lib.hid (hbq.trans (DB.mono hbq.size))
                  have HQ := Lib.hid (HR.out.mono hsz0)
                  have HQS := Lib.hid (Nat.le_trans hsz0 HR.out.size)
                  have BT := BTH2.out
                  have BA := BAH.out
                  have hT := HTH.out
                  have x4 := X4.out
                  have hbb := HBX.out.size
                  have hm2 : IntKind.i64.wrap (s * xb) = yb := HYB.out.symm
                  clear DB hown hbq BAq
                  go_upto_region 19 with fail
                  refine wp_region_noPanic ?_
                  refine regionG (S := (fun w' => w'.cell? ⟨w1.heap.size, 0, none⟩ = some (.slice X i c) ∧ w'.cell? ⟨w.heap.size, 1, none⟩ = some (.slice (some ⟨b3, o3, none⟩) arn abc) ∧ w'.cell? ⟨b3, o3 + i, none⟩ = some (.int .i64 xb))) 16 (by kernel_rfl) ?_ (fun hHeld => ?_)
                  · exact ⟨(bx_low4 BT HQ.out (Nat.lt_succ_self _)).2.1 0 _ rfl, (bx_low4 BA HQ.out (by omega)).2.1 1 _ rfl, (HQ.out.cell (p := ⟨b3, o3 + i, none⟩) (by show b3 < _; omega)).trans x4⟩
                  refine takeG 0 (v := ?v1002_0) rfl rfl (by kernel_rfl) (by rfl) (by kernel_rfl) (by kernel_rfl) (by kernel_rfl) (fun _ _ _ h => h) (by rfl) ?hy1002_0 (by assumption) ?r1002_0
                  case hy1002_0 => (intro w hSw; (try dsimp only at hSw); first | (go_simp; done) | (go_simp; with_reducible rfl))
                  simp only [Act.put, List.setIfInBounds_toArray, List.set_cons_zero, List.set_cons_succ]
                  refine takeG 1 (v := ?v1002_1) rfl rfl (by kernel_rfl) (by rfl) (by kernel_rfl) (by kernel_rfl) (by kernel_rfl) (fun _ _ _ h => h) (by rfl) ?hy1002_1 (by assumption) ?r1002_1
                  case hy1002_1 => (intro w hSw; (try dsimp only at hSw); first | (go_simp; done) | (go_simp; with_reducible rfl))
                  simp only [Act.put, List.setIfInBounds_toArray, List.set_cons_zero, List.set_cons_succ]
                  refine takeG 2 (v := ?v1002_2) rfl rfl (by kernel_rfl) (by rfl) (by kernel_rfl) (by kernel_rfl) (by kernel_rfl) (fun _ _ _ h => h) (by rfl) ?hy1002_2 (by assumption) ?r1002_2
                  case hy1002_2 => (intro w hSw; (try dsimp only at hSw); first | (go_simp; done) | (go_simp; with_reducible rfl))
                  simp only [Act.put, List.setIfInBounds_toArray, List.set_cons_zero, List.set_cons_succ]
                  refine takeG 3 (v := ?v1002_3) rfl rfl (by kernel_rfl) (by rfl) (by kernel_rfl) (by kernel_rfl) (by kernel_rfl) (fun _ _ _ h => h) (by rfl) ?hy1002_3 (by assumption) ?r1002_3
                  case hy1002_3 => (intro w hSw; (try dsimp only at hSw); first | (go_simp; done) | (go_simp; with_reducible rfl))
                  simp only [Act.put, List.setIfInBounds_toArray, List.set_cons_zero, List.set_cons_succ]
                  refine takeG 4 (v := ?v1002_4) rfl rfl (by kernel_rfl) (by rfl) (by kernel_rfl) (by kernel_rfl) (by kernel_rfl) (fun _ _ _ h => h) (by rfl) ?hy1002_4 (by assumption) ?r1002_4
                  case hy1002_4 => (intro w hSw; (try dsimp only at hSw); first | (go_simp; done) | (go_simp; with_reducible rfl))
                  simp only [Act.put, List.setIfInBounds_toArray, List.set_cons_zero, List.set_cons_succ]
                  refine takeG 5 (v := ?v1002_5) rfl rfl (by kernel_rfl) (by rfl) (by kernel_rfl) (by kernel_rfl) (by kernel_rfl) (fun _ _ _ h => h) (by rfl) ?hy1002_5 (by assumption) ?r1002_5
                  case hy1002_5 => (intro w hSw; (try dsimp only at hSw); first | (go_simp; done) | (go_simp; with_reducible rfl))
                  simp only [Act.put, List.setIfInBounds_toArray, List.set_cons_zero, List.set_cons_succ]
                  refine takeG 6 (v := ?v1002_6) rfl rfl (by kernel_rfl) (by rfl) (by kernel_rfl) (by kernel_rfl) (by kernel_rfl) (fun _ _ _ h => h) (by rfl) ?hy1002_6 (by assumption) ?r1002_6
                  case hy1002_6 => (intro w hSw; (try dsimp only at hSw); first | (go_simp; done) | (go_simp; with_reducible rfl))
                  simp only [Act.put, List.setIfInBounds_toArray, List.set_cons_zero, List.set_cons_succ]
                  refine takeG 7 (v := ?v1002_7) rfl rfl (by kernel_rfl) (by rfl) (by kernel_rfl) (by kernel_rfl) (by kernel_rfl) (fun _ _ _ h => h) (by rfl) ?hy1002_7 (by assumption) ?r1002_7
                  case hy1002_7 => (intro w hSw; (try dsimp only at hSw); first | (go_simp; done) | (go_simp; with_reducible rfl))
                  simp only [Act.put, List.setIfInBounds_toArray, List.set_cons_zero, List.set_cons_succ]
                  refine takeG 8 (v := ?v1002_8) rfl rfl (by kernel_rfl) (by rfl) (by kernel_rfl) (by kernel_rfl) (by kernel_rfl) (fun _ _ _ h => h) (by rfl) ?hy1002_8 (by assumption) ?r1002_8
                  case hy1002_8 => (intro w hSw; (try dsimp only at hSw); first | (go_simp; done) | (go_simp; with_reducible rfl))
                  simp only [Act.put, List.setIfInBounds_toArray, List.set_cons_zero, List.set_cons_succ]
                  refine takeG 9 (v := ?v1002_9) rfl rfl (by kernel_rfl) (by rfl) (by kernel_rfl) (by kernel_rfl) (by kernel_rfl) (fun _ _ _ h => h) (by rfl) ?hy1002_9 (by assumption) ?r1002_9
                  case hy1002_9 => (intro w hSw; (try dsimp only at hSw); first | (go_simp; done) | (go_simp; with_reducible rfl))
                  simp only [Act.put, List.setIfInBounds_toArray, List.set_cons_zero, List.set_cons_succ]
                  try simp only [hm2]
                  refine nextG 10 (by kernel_rfl) rfl (by rfl) (fun K hK => ?_)
                  go_simp
                  go_at_call 57; refine (l3Int_any _ _).mono ?_; rintro e w4 ⟨rfl, hb4⟩; have HROW := Lib.hid (own_below HROW.out hb4); have HR := Lib.hid (HR.out.trans (hb4.mono HR.out.size)); have HQ := Lib.hid (HR.out.mono hsz0); have HQS := Lib.hid (Nat.le_trans hsz0 HR.out.size); clear hb4
                  go_wp2_with fail
                  refine hK.out _ _ ?_ (fun hHeld => ?_)
                  · exact ⟨(bx_low4 BT HQ.out (Nat.lt_succ_self _)).2.1 0 _ rfl, (bx_low4 BA HQ.out (by omega)).2.1 1 _ rfl, (HQ.out.cell (p := ⟨b3, o3 + i, none⟩) (by show b3 < _; omega)).trans x4⟩
                  clear hK K
                  refine nextG 11 (by kernel_rfl) rfl (by rfl) (fun K hK => ?_)
                  go_simp
                  refine hK.out _ _ ?_ (fun hHeld => ?_)
                  · exact ⟨(bx_low4 BT (HQ.out.alloc HQS.out _) (Nat.lt_succ_self _)).2.1 0 _ rfl, (bx_low4 BA (HQ.out.alloc HQS.out _) (by omega)).2.1 1 _ rfl, ((HQ.out.alloc HQS.out _).cell (p := ⟨b3, o3 + i, none⟩) (by show b3 < _; omega)).trans x4⟩
                  clear hK K
                  try simp only [Act.put, List.setIfInBounds_toArray, List.set_cons_zero, List.set_cons_succ]
                  refine nextG 12 (by kernel_rfl) rfl (by rfl) (fun K hK => ?_)
                  refine wp_rowpush _ _ _ 36 rfl wo.heap.size 66 (.agg #[.int .i64 0, .int .i64 0]) 2 16 Try.underlying36 infoRat rfl (by decide) _ _ _ rfl HROW.out [.int .i64 yb, .int .i64 1] rfl rfl (by simp [Value.oneCell']) (by decide) (by omega) HR.out.size ?_; intro g5 cap5 w5 hown5 hg5 _ _; have HR := Lib.hid (HR.out.trans (Below.of_grown hg5 HR.out.size (fun k hk => (HROW.out.lt k hk).1))); rw [row_next HV3.out] at hown5; have HROW := Lib.hid hown5; have HQ := Lib.hid (HR.out.mono hsz0); have HQS := Lib.hid (Nat.le_trans hsz0 HR.out.size); clear hown5 hg5
                  refine hK.out _ _ ?_ (fun hHeld => ?_)
                  · exact ⟨(bx_low4 BT HQ.out (Nat.lt_succ_self _)).2.1 0 _ rfl, (bx_low4 BA HQ.out (by omega)).2.1 1 _ rfl, (HQ.out.cell (p := ⟨b3, o3 + i, none⟩) (by show b3 < _; omega)).trans x4⟩
                  clear hK K
                  try simp only [Act.put, List.setIfInBounds_toArray, List.set_cons_zero, List.set_cons_succ]
                  refine nextG 13 (by kernel_rfl) rfl (by rfl) (fun K hK => ?_)
                  go_simp
                  refine hK.out _ _ ?_ (fun hHeld => ?_)
                  · exact ⟨(bx_low4 BT (HQ.out.alloc HQS.out _) (Nat.lt_succ_self _)).2.1 0 _ rfl, (bx_low4 BA (HQ.out.alloc HQS.out _) (by omega)).2.1 1 _ rfl, ((HQ.out.alloc HQS.out _).cell (p := ⟨b3, o3 + i, none⟩) (by show b3 < _; omega)).trans x4⟩
                  clear hK K
                  try simp only [Act.put, List.setIfInBounds_toArray, List.set_cons_zero, List.set_cons_succ]
                  refine nextG 14 (by kernel_rfl) rfl (by rfl) (fun K hK => ?_)
                  refine wp_rowpush _ _ _ 28 rfl (w1.heap.size + 1) 36 (.slice none 0 0) 1 24 Try.underlying28 infoRows rfl (by decide) (.slice X i c) i _ rfl (own_below hT.rows.outer HR.out) [.slice (some ⟨g5, 0, none⟩) (acn + arn + 1) cap5] rfl rfl (by simp [Value.oneCell']) (by decide) (by omega) HQS.out ?_; intro g6 cap6 w6 hown6 hg6 hat6 hlt6; have HQ := Lib.hid (HQ.out.trans (Below.of_grown hg6 HQS.out (fun k hk => (hT.rows.outer.lt k hk).1))); rw [ownBlock_blk] at hg6 hat6; have HT6 := Lib.hid (hT.pushRow hsz0 HR.out HROW.out hg6 hown6 hat6 hlt6); clear hown6 hg6 hat6
                  refine hK.out _ _ ?_ (fun hHeld => ?_)
                  · exact ⟨(bx_low4 BT HQ.out (Nat.lt_succ_self _)).2.1 0 _ rfl, (bx_low4 BA HQ.out (by omega)).2.1 1 _ rfl, (HQ.out.cell (p := ⟨b3, o3 + i, none⟩) (by show b3 < _; omega)).trans x4⟩
                  clear hK K
                  try simp only [Act.put, List.setIfInBounds_toArray, List.set_cons_zero, List.set_cons_succ]
                  refine takeG 15 (v := ?v1002_15) rfl rfl (by kernel_rfl) (by rfl) (by kernel_rfl) (by kernel_rfl) (by kernel_rfl) (fun _ _ _ h => h) (by rfl) ?hy1002_15 (by assumption) ?r1002_15
                  case hy1002_15 => (intro w hSw; (try dsimp only at hSw); first | (go_simp; done) | (go_simp; with_reducible rfl))
                  simp only [Act.put, List.setIfInBounds_toArray, List.set_cons_zero, List.set_cons_succ]
                  refine lastG (by kernel_rfl) (by kernel_rfl) rfl (by rfl) (fun K hK => ?_)
                  have y0 := (bx_low4 BT HQ.out (Nat.lt_succ_self _)).2.1 0 _ rfl
                  have yf := (bx_low4 BT HQ.out (Nat.lt_succ_self _)).2.2 0
                  have yz := (bx_low4 BT HQ.out (Nat.lt_succ_self _)).1
                  go_simp
                  refine hK.out _ _ ?_
                  clear hK K
                  refine NoPanic.normal ?_
                  have BT7 := (bx_low4 BT HQ.out (Nat.lt_succ_self _)).set (k := 0) (by simp) (.slice (some ⟨g6, 0, none⟩) (i + 1) cap6)
                  have hT7 := HT6.out.set (a := ⟨w1.heap.size, 0, none⟩) (Nat.lt_succ_self _) (.slice (some ⟨g6, 0, none⟩) (i + 1) cap6)
                  have HW7 := Lib.hid ((HBW.out.trans (HQ.out.mono (Nat.le_succ _))).setCell (p := ⟨w1.heap.size, 0, none⟩) (Nat.le_refl _) (.slice (some ⟨g6, 0, none⟩) (i + 1) cap6))
                  have hz7 : w1.heap.size + 1 ≤ (w6.setCell ⟨w1.heap.size, 0, none⟩ (.slice (some ⟨g6, 0, none⟩) (i + 1) cap6)).heap.size := by rw [size_setCell]; omega
                  obtain ⟨w7, e7⟩ : ∃ w7, w7 = w6.setCell ⟨w1.heap.size, 0, none⟩ (.slice (some ⟨g6, 0, none⟩) (i + 1) cap6) := ⟨_, rfl⟩
                  rw [← e7] at BT7 hT7 HW7 hz7 ⊢
                  have BA7 := bx_low4 BA1.out HW7.out (by omega)
                  have z1 := BT7.2.1 1 _ rfl
                  have z2 := BT7.2.1 2 _ rfl
                  have x2 := BA7.2.1 2 _ rfl
                  have HT7 := Lib.hid (hT7.wide (Nat.le_of_eq (by rw [e7, size_setCell])) (Nat.le_refl _))
                  have BTH7 := Lib.hid BT7
                  clear e7 BA7 BT7 hT7 HT6 HQ HR HROW BT BA hT x4 y0 yf yz x0 hHeld
                  go_wp2_with (at_builtin; refine wpList_rowpush _ rfl _ _ 23 rfl (w1.heap.size + 1) 3 (.int .i64 0) 1 8 Try.underlying23 infoInt rfl (by decide) (.slice Y i d) i _ rfl HT7.out.basis [.int .i64 ((acn : Int) + (i : Int))] rfl rfl (by simp [Value.oneCell']) (by decide) (by omega) hz7 ?_)
                  intro g8 cap8 w8 hown8 hg8 hat8 hlt8
                  have hQ8 := Below.of_grown (B := w1.heap.size + 1) hg8 hz7 (fun k hk => (HT7.out.basis.lt k hk).1)
                  rw [ownBlock_blk] at hg8 hat8
                  have hown8' : w8.ownsRow (w1.heap.size + 1) 3 1 (.slice (some ⟨g8, 0, none⟩) (i + 1) cap8) (i + 1) (cellsI (Pl.startB acn) (i + 1)) := by
                    have h := hown8
                    rwa [show (Value.int .i64 ((acn : Int) + (i : Int))) = .int .i64 (Pl.startB acn i) from rfl, cellsI_next] at h
                  have hT8 := HT7.out.pushBasis hg8 hown8' hat8 hlt8
                  have BT8 := bx_low4 BTH7.out hQ8 (Nat.lt_succ_self _)
                  have HW8 := HW7.out.trans (hQ8.mono (Nat.le_succ _))
                  have y1 := BT8.2.1 1 _ rfl
                  have yf := BT8.2.2 1
                  have yz := BT8.1
                  have BT9 := Lib.hid (BT8.set (k := 1) (by simp) (.slice (some ⟨g8, 0, none⟩) (i + 1) cap8))
                  have HT9 := Lib.hid ((hT8.set (a := ⟨w1.heap.size, 1, none⟩) (Nat.lt_succ_self _) (.slice (some ⟨g8, 0, none⟩) (i + 1) cap8)).wide (Nat.le_of_eq (size_setCell _ _ _).symm) (Nat.le_refl _))
                  have HW9 := Lib.hid (HW8.setCell (p := ⟨w1.heap.size, 1, none⟩) (Nat.le_refl _) (.slice (some ⟨g8, 0, none⟩) (i + 1) cap8))
                  clear hown8 hown8' hg8 hat8 hQ8 hT8 BT8 HW8 x2 z1 z2
                  go_wp2
                  go_roundw
                  case rel => exact ⟨i + 1, _, _, _, _, _, _, by omega, by go_num, HT9.out, BT9.out, HW9.out⟩
                  case measure => simp [intOf]; omega
      · obtain rfl : arn = i := by omega
        have BR := bx_low4 BR1.out hbw (by omega)
        have z0 := BT.2.1 0 _ rfl
        have z1 := BT.2.1 1 _ rfl
        have z2 := BT.2.1 2 _ rfl
        have r0 := BR.2.1 0 _ rfl
        have r1 := BR.2.1 1 _ rfl
        have r2 := BR.2.1 2 _ rfl
        have rz := BR.1
        have rf := BR.2.2
        have HB := hb
        clear hb BA BT x1 x2
        have BR := BR.set (k := 0) (by simp) (.slice X arn c)
        have hT := OwnTab.set hT (a := ⟨w.heap.size + 1, 0, none⟩) (by show w.heap.size + 1 < _; omega) (.slice X arn c)
        have HB := HB.setCell (p := ⟨w.heap.size + 1, 0, none⟩) (by show w.heap.size ≤ w.heap.size + 1; omega) (.slice X arn c)
        have BR := BR.set (k := 1) (by simp) (.slice Y arn d)
        have hT := OwnTab.set hT (a := ⟨w.heap.size + 1, 1, none⟩) (by show w.heap.size + 1 < _; omega) (.slice Y arn d)
        have HB := HB.setCell (p := ⟨w.heap.size + 1, 1, none⟩) (by show w.heap.size ≤ w.heap.size + 1; omega) (.slice Y arn d)
        have BR := BR.set (k := 2) (by simp) (.int .i64 acn)
        have hT := OwnTab.set hT (a := ⟨w.heap.size + 1, 2, none⟩) (by show w.heap.size + 1 < _; omega) (.int .i64 acn)
        have HB := HB.setCell (p := ⟨w.heap.size + 1, 2, none⟩) (by show w.heap.size ≤ w.heap.size + 1; omega) (.int .i64 acn)
        have f0 := BR.2.1 0 _ rfl
        have f1 := BR.2.1 1 _ rfl
        have f2 := BR.2.1 2 _ rfl
        have HBB := Lib.hid HB
        have OTT := Lib.hid (hT.low (lo' := w.heap.size) (by omega))
        clear HB BR hT
        go_wp2
        refine bodyPost_ret (v := .agg #[.slice X arn c, .slice Y arn d, .int .i64 acn]) (by simp [results, Try.results28, go_sem, f0, f1, f2]) rfl ⟨X, c, XA, RC, Y, d, _, rfl, OTT.out, HBB.out⟩

end Go.Proofs.Ytajafmdeencohaa
