/-
  Contracts of SolutionOf, of the program and of the reference.
-/
import Derived.Test.YtajafmdeencohaaForm
import Derived.BigRegion
namespace Go.Proofs.Ytajafmdeencohaa
open Go.RowKit
attribute [local go_sem ↓] Go.wp_at_zero Go.wp_at_succ

def zerosV : Fr := fun _ => (0, 1)
theorem zeros_snoc (n : Nat) : cellsV zerosV n ++ [.int .i64 0, .int .i64 1] = cellsV zerosV (n + 1) := by
  rw [cellsV_snoc]
  congr 1
  funext i
  simp [upd, zerosV]
theorem cellsV_nil (V : Fr) : cellsV V 0 = [] := rfl
/-- the solution after the first j rows -/
def solAt (aBV : Nat → Int) (aRV : Nat → Fr) (t : Nat) : Nat → Fr
  | 0 => zerosV
  | j + 1 => upd (solAt aBV aRV t j) (aBV j).toNat (aRV j t)
def solN (ok : Bool) (cols : Int) (arn : Nat) : Nat := if ok = true then cols.toNat + arn else 0
/-- the solution, of the call's own -/
def OwnsSol (ok : Bool) (cols : Int) (arn : Nat) (aRV : Nat → Fr) (aBV : Nat → Int) (w : World) (e : Ending) (w' : World) : Prop :=
  ∃ v, e = .returned v ∧ w'.ownsRow w.heap.size 66 2 v (solN ok cols arn) (cellsV (solAt aBV aRV (cols.toNat + arn) arn) (solN ok cols arn)) ∧ Below w.heap.size w w'
theorem bx_low2 {B : Nat} {w w' : World} {g : Nat} {vs : List Value} (h : Bx w g vs) (hb : Below B w w') (hg : g < B) : Bx w' g vs :=
  ⟨Nat.lt_of_lt_of_le h.1 hb.size, fun j v hv => (hb.cell (p := ⟨g, j, none⟩) hg).trans (h.2.1 j v hv), fun j => (hb.frozen (p := ⟨g, j, none⟩) hg).trans (h.2.2 j)⟩

theorem iSol_any (aR aBs : Option Addr) (arn arc abn abc : Nat) (acols : Int) (aRA : Nat → Option Addr) (aRN aRC : Nat → Nat) (aRV : Nat → Fr) (aBV : Nat → Int) (B : Nat) (w : World) (arr : RdR w B aR arn aRA aRN aRC aRV) (abb : Rd w B 1 aBs abn (cellsI aBV abn)) (hB : B ≤ w.heap.size) (ha1 : arn ≤ 1048576) (ha3 : abn ≤ 1048576) :
    Calls Try.prog 21 #[.agg #[.slice aR arn arc, .slice aBs abn abc, .int .i64 acols]] w (OwnsSol (Pl.form acols arn aRN abn aBV) acols arn aRV aBV w) := by
  have BA0 := Lib.hid (show Bx (w.alloc (.cells #[.slice aR arn arc, .slice aBs abn abc, .int .i64 acols] 30)) w.heap.size [.slice aR arn arc, .slice aBs abn abc, .int .i64 acols] from Bx.new w #[.slice aR arn arc, .slice aBs abn abc, .int .i64 acols] 30)
  have HB0 := Lib.hid (show Below w.heap.size w (w.alloc (.cells #[.slice aR arn arc, .slice aBs abn abc, .int .i64 acols] 30)) from (Below.refl _ _).alloc (Nat.le_refl _) _)
  have C1 := Lib.hid (formed_any aR aBs arn arc abn abc acols aRA aRN aRC aRV aBV B (w.alloc (.cells #[.slice aR arn arc, .slice aBs abn abc, .int .i64 acols] 30)) (arr.below HB0.out hB) (abb.below' HB0.out hB) (Nat.le_trans hB HB0.out.size) ha1 ha3)
  unfold OwnsSol solN
  cases hv : Pl.form acols arn aRN abn aBV
  · rw [hv] at C1
    simp only [Bool.false_eq_true, if_false]
    clear hv arr abb
    have BA := BA0.out
    have x0 := BA.2.1 0 _ rfl
    have x1 := BA.2.1 1 _ rfl
    have x2 := BA.2.1 2 _ rfl
    go_enter Try.func21, Try.ntmps21
    go_wp2_with fail
    refine C1.out.mono ?_
    rintro e w1 ⟨rfl, hb⟩
    have HB := HB0.out.trans (hb.mono HB0.out.size)
    go_wp2
    go_ret
    exact ⟨_, rfl, World.ownsRow_nil _ _ _ _, HB⟩
  · rw [hv] at C1
    simp only [if_true]
    obtain ⟨m, rfl, hm, hba, hbv, hrn⟩ := Pl.formFacts hv
    have HRN := Lib.hid hrn
    have HBV := Lib.hid hbv
    have ABH := Lib.hid abb
    have ARH := Lib.hid arr
    have hba := hba.symm
    subst hba
    rw [Int.toNat_natCast]
    clear hv abb hbv hrn arr
    have BA := BA0.out
    have x0 := BA.2.1 0 _ rfl
    have x1 := BA.2.1 1 _ rfl
    have x2 := BA.2.1 2 _ rfl
    go_enter Try.func21, Try.ntmps21
    go_wp2_with fail
    refine C1.out.mono ?_
    rintro e w1 ⟨rfl, hb⟩
    have BA := BA.below hb
    have BA1 := Lib.hid BA
    have HB1 := Lib.hid (HB0.out.trans (hb.mono HB0.out.size))
    have HWS := Lib.hid (show w.heap.size + 1 ≤ w1.heap.size from BA.1)
    clear hb C1 x0 x1 x2 BA0 HB0
    have x0 := BA.2.1 0 _ rfl
    have x2 := BA.2.1 2 _ rfl
    have xz := BA.1
    clear BA
    obtain ⟨W1, e1⟩ : ∃ W1, W1 = w1 := ⟨_, rfl⟩
    have HO := Lib.hid (World.ownsRow_made w1 #[] 0 (base := w.heap.size + 1) HWS.out (by decide) rfl (e := 66) (size := 2))
    have HST : Hid (Below (w.heap.size + 1) W1 (w1.alloc (.cells #[] 66))) := Lib.hid (by rw [e1]; exact (Below.refl (w.heap.size + 1) w1).alloc HWS.out (.cells #[] 66))
    rw [← e1] at BA1 HB1 HWS
    go_wp2
    clear x0 x2 xz
    go_loopw [3, 16] (fun o u wr => ∃ k : Nat, k ≤ m + arn ∧ u = .int .i64 k ∧ wr.ownsRow (w.heap.size + 1) 66 2 o k (cellsV zerosV k) ∧ Below (w.heap.size + 1) W1 wr) (fun _ u _ => m + arn - (intOf u).toNat)
    case atStart => exact ⟨0, Nat.zero_le _, rfl, by rw [cellsV_nil]; exact HO.out, HST.out⟩
    case round =>
      obtain ⟨k, hk, rfl, hown, hbw⟩ := hrel
      have hsz : w.heap.size + 1 ≤ wr.heap.size := Nat.le_trans HWS.out hbw.size
      have BA := bx_low2 BA1.out hbw (Nat.lt_succ_self _)
      have x0 := BA.2.1 0 _ rfl
      have x2 := BA.2.1 2 _ rfl
      by_cases hlt : k < m + arn
      · have k0 : (0 : Int) ≤ (k : Int) := by omega
        have k1 : (k : Int) < (m : Int) + (arn : Int) := by omega
        have HBW := Lib.hid hbw
        clear hbw BA
        go_wp2_with fail
        refine (whole_any _ _).mono ?_
        rintro e w2 ⟨rfl, hb2⟩
        have hown := own_below hown hb2
        have HBW := Lib.hid (HBW.out.trans (hb2.mono hsz))
        have hsz := Nat.le_trans hsz hb2.size
        clear hb2 x0 x2
        go_wp2_with (at_builtin; refine wpList_push _ rfl _ _ 36 rfl (w.heap.size + 1) 66 (.agg #[.int .i64 0, .int .i64 0]) 2 16 Try.underlying36 infoRat rfl (by decide) _ _ _ rfl hown [.int .i64 0, .int .i64 1] rfl rfl (by simp [Value.oneCell']) (by decide) (by omega) hsz ?_)
        intro v' w' hown' hk'
        have hb' := Lib.hid (hk' _ _ (Nat.le_refl _) HBW.out)
        clear hk' HBW
        rw [zeros_snoc] at hown'
        go_wp2
        go_roundw
        case rel => exact ⟨k + 1, by omega, by go_num, hown', hb'.out⟩
        case measure => simp [intOf]; omega
      · obtain rfl : k = m + arn := by omega
        obtain ⟨AO, co, rfl⟩ := own_form hown
        have HO2 := Lib.hid hown
        have HB2 := Lib.hid hbw
        obtain ⟨W2, e2⟩ : ∃ W2, W2 = wr := ⟨_, rfl⟩
        rw [← e2] at HO2
        clear hown hbw BA hk
        go_wp2
        go_loopw [4, 5, 26] (fun p r u wr => ∃ j : Nat, j ≤ arn ∧ u = .int .i64 j ∧ wr.ownsRow (w.heap.size + 1) 66 2 (.slice AO (m + arn) co) (m + arn) (cellsV (solAt aBV aRV (m + arn) j) (m + arn)) ∧ Below (w.heap.size + 1) W1 wr) (fun _ _ u _ => arn - (intOf u).toNat)
        case atStart => exact ⟨0, Nat.zero_le _, rfl, by rw [← e2]; exact HO2.out, HB2.out⟩
        case round =>
          obtain ⟨j, hj, rfl, hown, hbw⟩ := hrel
          have BA := bx_low2 BA1.out hbw (Nat.lt_succ_self _)
          have hb := HB1.out.trans (hbw.mono (Nat.le_succ _))
          have x0 := BA.2.1 0 _ rfl
          have x1 := BA.2.1 1 _ rfl
          have x2 := BA.2.1 2 _ rfl
          by_cases hlt : j < arn
          · obtain ⟨b1, o1, rfl, hb1, hc1⟩ := ARH.out.1 (by omega)
            obtain ⟨b2, o2, rfl, hb2, hc2⟩ := ABH.out.2 (by omega)
            have x3 := (hb.cell (p := ⟨b1, o1 + j, none⟩) (by exact Nat.lt_of_lt_of_le hb1 hB)).trans (hc1 j hlt)
            have x4 := (hb.cell (p := ⟨b2, o2 + j, none⟩) (by exact Nat.lt_of_lt_of_le hb2 hB)).trans (hc2 j _ (cellsI_at aBV hlt))
            have hrn := HRN.out j hlt
            have hbv := HBV.out j hlt
            obtain ⟨q, hq⟩ : ∃ q : Nat, aBV j = (q : Int) := ⟨(aBV j).toNat, by omega⟩
            rw [hq] at x4 hbv
            obtain ⟨b3, o3, e3, hb3, hc3⟩ := (ARH.out.2 j hlt) (by omega)
            have x5 := (hb.cell (p := ⟨b3, o3 + (m + arn) * 2, none⟩) (by exact Nat.lt_of_lt_of_le hb3 hB)).trans (hc3 (m + arn) (by omega)).1
            have x6 := (hb.cell (p := ⟨b3, o3 + (m + arn) * 2 + 1, none⟩) (by exact Nat.lt_of_lt_of_le hb3 hB)).trans (hc3 (m + arn) (by omega)).2
            rw [e3, hrn] at x3
            obtain ⟨g, rfl⟩ := own_addr hown (by omega)
            obtain ⟨⟨u0, y0⟩, f0⟩ := own_cell (i := q * 2) hown (by omega) (by omega)
            obtain ⟨⟨u1, y1⟩, f1⟩ := own_cell (i := q * 2 + 1) hown (by omega) (by omega)
            have hst := fun a b => ((hown.stored (q * 2) (.int .i64 a)).1.stored (q * 2 + 1) (.int .i64 b)).1
            obtain ⟨xa, ea⟩ : ∃ x, x = (aRV j (m + arn)).1 := ⟨_, rfl⟩
            obtain ⟨xb, eb⟩ : ∃ x, x = (aRV j (m + arn)).2 := ⟨_, rfl⟩
            have hst := hst xa xb
            rw [cellsV_set, show upd (solAt aBV aRV (m + arn) j) q (xa, xb) = solAt aBV aRV (m + arn) (j + 1) from by rw [solAt, hq, ea, eb]; rfl] at hst
            rw [← ea] at x5
            rw [← eb] at x6
            have j0 : (0 : Int) ≤ (j : Int) := by omega
            have j1 : (j : Int) < (arn : Int) := by omega
            have q0 : (0 : Int) ≤ (q : Int) := by omega
            have q1 : (q : Int) < (m : Int) + (arn : Int) := by omega
            have hgl := (hown.lt g rfl).1
            have HST2 := Lib.hid (own_below hst ((Below.refl _ _).drew))
            have HBS := Lib.hid (((hbw.setCell (p := ⟨g, q * 2, none⟩) hgl (.int .i64 xa)).setCell (p := ⟨g, q * 2 + 1, none⟩) hgl (.int .i64 xb)).drew)
            clear hst hbw hb BA hc1 hc2 hc3 e3 hrn hq ea eb hown hbv
            go_wp2
            go_region
            go_wp2
            go_roundw
            case rel => exact ⟨j + 1, by omega, by go_num, HST2.out, HBS.out⟩
            case measure => simp [intOf]; omega
          · obtain rfl : j = arn := by omega
            have HOL := Lib.hid (own_low hown (Nat.le_succ _))
            clear hown
            go_wp2
            go_ret
            exact ⟨_, rfl, HOL.out, hb⟩


theorem sSol_any (aR aBs : Option Addr) (arn arc abn abc : Nat) (acols : Int) (aRA : Nat → Option Addr) (aRN aRC : Nat → Nat) (aRV : Nat → Fr) (aBV : Nat → Int) (B : Nat) (w : World) (arr : RdR w B aR arn aRA aRN aRC aRV) (abb : Rd w B 1 aBs abn (cellsI aBV abn)) (hB : B ≤ w.heap.size) (ha1 : arn ≤ 1048576) (ha2 : ∀ j, j < arn → aRN j ≤ 1048576) :
    Calls Try.prog 20 #[.agg #[.slice aR arn arc, .slice aBs abn abc, .int .i64 acols]] w (OwnsSol (Pl.form acols arn aRN abn aBV) acols arn aRV aBV w) := by
  have BA0 := Lib.hid (show Bx (w.alloc (.cells #[.slice aR arn arc, .slice aBs abn abc, .int .i64 acols] 30)) w.heap.size [.slice aR arn arc, .slice aBs abn abc, .int .i64 acols] from Bx.new w #[.slice aR arn arc, .slice aBs abn abc, .int .i64 acols] 30)
  have HB0 := Lib.hid (show Below w.heap.size w (w.alloc (.cells #[.slice aR arn arc, .slice aBs abn abc, .int .i64 acols] 30)) from (Below.refl _ _).alloc (Nat.le_refl _) _)
  have HO := Lib.hid (World.ownsRow_made (w.alloc (.cells #[.slice aR arn arc, .slice aBs abn abc, .int .i64 acols] 30)) #[] 0 (base := w.heap.size + 1) (by simp) (by decide) rfl (e := 66) (size := 2))
  have BA := BA0.out.alloc (.cells #[] 66)
  have HB := HB0.out.alloc HB0.out.size (.cells #[] 66)
  obtain ⟨W1, e1⟩ : ∃ W1, W1 = (w.alloc (.cells #[.slice aR arn arc, .slice aBs abn abc, .int .i64 acols] 30)).alloc (.cells #[] 66) := ⟨_, rfl⟩
  have HO2 : W1.ownsRow (w.heap.size + 1) 66 2 (.slice (some ⟨w.heap.size + 1, 0, none⟩) 0 0) 0 [] := by
    have h := HO.out
    rw [← e1] at h
    simpa using h
  have HSZ : w.heap.size + 1 ≤ W1.heap.size := by rw [e1]; simp
  rw [← e1] at BA HB
  have C1 := Lib.hid (sGood_any aR aBs arn arc abn abc acols aRA aRN aRC aRV aBV B W1 (arr.below HB hB) (abb.below' HB hB) (Nat.le_trans hB HB.size) ha1 ha2)
  unfold OwnsSol solN
  clear HO BA0 HB0
  have E1 := Lib.hid e1
  clear e1
  have HOH := Lib.hid HO2
  clear HO2
  cases hv : Pl.form acols arn aRN abn aBV
  · rw [hv] at C1
    simp only [Bool.false_eq_true, if_false]
    clear hv arr abb ha2
    have x0 := BA.2.1 0 _ rfl
    have x1 := BA.2.1 1 _ rfl
    have x2 := BA.2.1 2 _ rfl
    rw [E1.out] at x0 x1 x2
    go_enter Try.func20, Try.ntmps20
    go_wp2_with fail
    rw [← E1.out]
    refine C1.out.mono ?_
    rintro e w1 ⟨rfl, hb⟩
    have OW := Lib.hid (own_low (own_below HOH.out hb) (Nat.le_succ w.heap.size))
    have HB := HB.trans (hb.mono HB.size)
    clear hb
    go_wp2
    go_ret
    exact ⟨_, rfl, OW.out, HB⟩
  · rw [hv] at C1
    simp only [if_true]
    obtain ⟨m, rfl, hm, hba, hbv, hrn⟩ := Pl.formFacts hv
    have HRN := Lib.hid hrn
    have HBV := Lib.hid hbv
    have ABH := Lib.hid abb
    have ARH := Lib.hid arr
    have hba := hba.symm
    subst hba
    rw [Int.toNat_natCast]
    clear hv abb ha2 hbv hrn arr
    have x0 := BA.2.1 0 _ rfl
    have x1 := BA.2.1 1 _ rfl
    have x2 := BA.2.1 2 _ rfl
    rw [E1.out] at x0 x1 x2
    go_enter Try.func20, Try.ntmps20
    go_wp2_with fail
    rw [← E1.out]
    refine C1.out.mono ?_
    rintro e w1 ⟨rfl, hb⟩
    have HO := Lib.hid (own_below HOH.out hb)
    have BA1 := Lib.hid (BA.below hb)
    have HB1 := Lib.hid (HB.trans (hb.mono HB.size))
    have HWS := Lib.hid (Nat.le_trans HSZ hb.size)
    have HST := Lib.hid (Below.refl (w.heap.size + 1) w1)
    clear hb C1 x0 x1 x2 BA HB HSZ E1 HOH
    go_wp2
    go_loopw [3, 4] (fun o u wr => ∃ k : Nat, k ≤ m + arn ∧ u = .int .i64 k ∧ wr.ownsRow (w.heap.size + 1) 66 2 o k (cellsV zerosV k) ∧ Below (w.heap.size + 1) w1 wr) (fun _ u _ => m + arn - (intOf u).toNat)
    case atStart => exact ⟨0, Nat.zero_le _, rfl, by rw [cellsV_nil]; exact HO.out, HST.out⟩
    case round =>
      obtain ⟨k, hk, rfl, hown, hbw⟩ := hrel
      have hsz : w.heap.size + 1 ≤ wr.heap.size := Nat.le_trans HWS.out hbw.size
      have BA := bx_low2 BA1.out hbw (Nat.lt_succ_self _)
      have x0 := BA.2.1 0 _ rfl
      have x2 := BA.2.1 2 _ rfl
      by_cases hlt : k < m + arn
      · have k0 : (0 : Int) ≤ (k : Int) := by omega
        have k1 : (k : Int) < (m : Int) + (arn : Int) := by omega
        have HBW := Lib.hid hbw
        clear hbw BA
        go_wp2_with fail
        refine (l3Int_any _ _).mono ?_
        rintro e w2 ⟨rfl, hb2⟩
        have hown := own_below hown hb2
        have HBW := Lib.hid (HBW.out.trans (hb2.mono hsz))
        have hsz := Nat.le_trans hsz hb2.size
        clear hb2 x0 x2
        go_wp2_with (at_builtin; refine wpList_push _ rfl _ _ 36 rfl (w.heap.size + 1) 66 (.agg #[.int .i64 0, .int .i64 0]) 2 16 Try.underlying36 infoRat rfl (by decide) _ _ _ rfl hown [.int .i64 0, .int .i64 1] rfl rfl (by simp [Value.oneCell']) (by decide) (by omega) hsz ?_)
        intro v' w' hown' hk'
        have hb' := Lib.hid (hk' _ _ (Nat.le_refl _) HBW.out)
        clear hk' HBW
        rw [zeros_snoc] at hown'
        go_wp2
        go_roundw
        case rel => exact ⟨k + 1, by omega, by go_num, hown', hb'.out⟩
        case measure => simp [intOf]; omega
      · obtain rfl : k = m + arn := by omega
        obtain ⟨AO, co, rfl⟩ := own_form hown
        have HO2 := Lib.hid hown
        have HB2 := Lib.hid hbw
        obtain ⟨W2, e2⟩ : ∃ W2, W2 = wr := ⟨_, rfl⟩
        rw [← e2] at HO2
        clear hown hbw BA hk
        go_wp2
        go_loopw [5] (fun u wr => ∃ j : Nat, j ≤ arn ∧ u = .int .i64 j ∧ wr.ownsRow (w.heap.size + 1) 66 2 (.slice AO (m + arn) co) (m + arn) (cellsV (solAt aBV aRV (m + arn) j) (m + arn)) ∧ Below (w.heap.size + 1) w1 wr) (fun u _ => arn - (intOf u).toNat)
        case atStart => exact ⟨0, Nat.zero_le _, rfl, by rw [← e2]; exact HO2.out, HB2.out⟩
        case round =>
          obtain ⟨j, hj, rfl, hown, hbw⟩ := hrel
          have BA := bx_low2 BA1.out hbw (Nat.lt_succ_self _)
          have hb := HB1.out.trans (hbw.mono (Nat.le_succ _))
          have x0 := BA.2.1 0 _ rfl
          have x1 := BA.2.1 1 _ rfl
          have x2 := BA.2.1 2 _ rfl
          by_cases hlt : j < arn
          · obtain ⟨b1, o1, rfl, hb1, hc1⟩ := ARH.out.1 (by omega)
            obtain ⟨b2, o2, rfl, hb2, hc2⟩ := ABH.out.2 (by omega)
            have x3 := (hb.cell (p := ⟨b1, o1 + j, none⟩) (by exact Nat.lt_of_lt_of_le hb1 hB)).trans (hc1 j hlt)
            have x4 := (hb.cell (p := ⟨b2, o2 + j, none⟩) (by exact Nat.lt_of_lt_of_le hb2 hB)).trans (hc2 j _ (cellsI_at aBV hlt))
            have hrn := HRN.out j hlt
            have hbv := HBV.out j hlt
            obtain ⟨q, hq⟩ : ∃ q : Nat, aBV j = (q : Int) := ⟨(aBV j).toNat, by omega⟩
            rw [hq] at x4 hbv
            obtain ⟨b3, o3, e3, hb3, hc3⟩ := (ARH.out.2 j hlt) (by omega)
            have x5 := (hb.cell (p := ⟨b3, o3 + (m + arn) * 2, none⟩) (by exact Nat.lt_of_lt_of_le hb3 hB)).trans (hc3 (m + arn) (by omega)).1
            have x6 := (hb.cell (p := ⟨b3, o3 + (m + arn) * 2 + 1, none⟩) (by exact Nat.lt_of_lt_of_le hb3 hB)).trans (hc3 (m + arn) (by omega)).2
            rw [e3, hrn] at x3
            obtain ⟨g, rfl⟩ := own_addr hown (by omega)
            obtain ⟨⟨u0, y0⟩, f0⟩ := own_cell (i := q * 2) hown (by omega) (by omega)
            obtain ⟨⟨u1, y1⟩, f1⟩ := own_cell (i := q * 2 + 1) hown (by omega) (by omega)
            have hst := fun a b => ((hown.stored (q * 2) (.int .i64 a)).1.stored (q * 2 + 1) (.int .i64 b)).1
            obtain ⟨xa, ea⟩ : ∃ x, x = (aRV j (m + arn)).1 := ⟨_, rfl⟩
            obtain ⟨xb, eb⟩ : ∃ x, x = (aRV j (m + arn)).2 := ⟨_, rfl⟩
            have hst := hst xa xb
            rw [cellsV_set, show upd (solAt aBV aRV (m + arn) j) q (xa, xb) = solAt aBV aRV (m + arn) (j + 1) from by rw [solAt, hq, ea, eb]; rfl] at hst
            rw [← ea] at x5
            rw [← eb] at x6
            have j0 : (0 : Int) ≤ (j : Int) := by omega
            have j1 : (j : Int) < (arn : Int) := by omega
            have q0 : (0 : Int) ≤ (q : Int) := by omega
            have q1 : (q : Int) < (m : Int) + (arn : Int) := by omega
            have hgl := (hown.lt g rfl).1
            have HST2 := Lib.hid (own_below hst ((Below.refl _ _).drew))
            have HBS := Lib.hid (((hbw.setCell (p := ⟨g, q * 2, none⟩) hgl (.int .i64 xa)).setCell (p := ⟨g, q * 2 + 1, none⟩) hgl (.int .i64 xb)).drew)
            clear hst hbw hb BA hc1 hc2 hc3 e3 hrn hq ea eb hown hbv
            go_wp2
            go_region
            go_wp2
            go_roundw
            case rel => exact ⟨j + 1, by omega, by go_num, HST2.out, HBS.out⟩
            case measure => simp [intOf]; omega
          · obtain rfl : j = arn := by omega
            have HOL := Lib.hid (own_low hown (Nat.le_succ _))
            clear hown
            go_wp2
            go_ret
            exact ⟨_, rfl, HOL.out, hb⟩


end Go.Proofs.Ytajafmdeencohaa
