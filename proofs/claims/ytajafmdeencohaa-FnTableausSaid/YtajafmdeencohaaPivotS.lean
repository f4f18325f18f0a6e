/-
  The contract of PivotTableau, of the reference.
-/
import Derived.Test.YtajafmdeencohaaPivot
namespace Go.Proofs.Ytajafmdeencohaa
open Go.RowKit
attribute [local go_sem ↓] Go.wp_at_zero Go.wp_at_succ

set_option maxHeartbeats 8000000 in
set_option maxRecDepth 20000 in
theorem sPivot_any (aR aBs : Option Addr) (arn arc abn abc : Nat) (acols : Int) (aRA : Nat → Option Addr) (aRN aRC : Nat → Nat) (aRV : Nat → Fr) (aBV : Nat → Int) (row col : Int) (B : Nat) (w : World) (arr : RdR w B aR arn aRA aRN aRC aRV) (abb : Rd w B 1 aBs abn (cellsI aBV abn)) (hB : B ≤ w.heap.size) (ha1 : arn ≤ 1048576) (ha2 : ∀ j, j < arn → aRN j ≤ 1048576) (ha3 : abn ≤ 1048576) (hAB : aBs = none → abn = 0 ∧ abc = 0) (hAR : ∀ j, j < arn → aRA j = none → aRN j = 0 ∧ aRC j = 0) :
    Calls Try.prog 34 #[.agg #[.slice aR arn arc, .slice aBs abn abc, .int .i64 acols], .int .i64 row, .int .i64 col] w (OwnsTP (Pl.pivOk acols arn aRN abn aBV aRV row col) arn abn acols aRN aRV (Pl.pivV aRV row.toNat col.toNat) aBV (Pl.pivB aBV row.toNat col) w) := by
  have BA : Bx ((w.alloc (.cells #[.slice aR arn arc, .slice aBs abn abc, .int .i64 acols] 30)).alloc (.cells #[.slice none 0 0, .slice none 0 0, .int .i64 0] 30)) w.heap.size [.slice aR arn arc, .slice aBs abn abc, .int .i64 acols] := (Bx.new w #[.slice aR arn arc, .slice aBs abn abc, .int .i64 acols] 30).alloc _
  have BR : Bx ((w.alloc (.cells #[.slice aR arn arc, .slice aBs abn abc, .int .i64 acols] 30)).alloc (.cells #[.slice none 0 0, .slice none 0 0, .int .i64 0] 30)) (w.heap.size + 1) [.slice none 0 0, .slice none 0 0, .int .i64 0] := by
    have h := Bx.new (w.alloc (.cells #[.slice aR arn arc, .slice aBs abn abc, .int .i64 acols] 30)) #[.slice none 0 0, .slice none 0 0, .int .i64 0] 30
    simpa using h
  have HB : Below w.heap.size w ((w.alloc (.cells #[.slice aR arn arc, .slice aBs abn abc, .int .i64 acols] 30)).alloc (.cells #[.slice none 0 0, .slice none 0 0, .int .i64 0] 30)) := ((Below.refl _ _).alloc (Nat.le_refl _) _).alloc (by simp) _
  have C1 := Lib.hid (sGood_any aR aBs arn arc abn abc acols aRA aRN aRC aRV aBV B ((w.alloc (.cells #[.slice aR arn arc, .slice aBs abn abc, .int .i64 acols] 30)).alloc (.cells #[.slice none 0 0, .slice none 0 0, .int .i64 0] 30)) (arr.below HB hB) (abb.below' HB hB) (Nat.le_trans hB HB.size) ha1 ha2)
  have CL := Lib.hid (fun wx (H : Below w.heap.size w wx) => tcopy_any aR aBs arn arc abn abc acols aRA aRN aRC aRV aBV B wx (arr.below H hB) (abb.below' H hB) (Nat.le_trans hB H.size) ha1 ha2 ha3 hAB hAR)
  unfold OwnsT at CL
  have x0 := BA.2.1 0 _ rfl
  have x1 := BA.2.1 1 _ rfl
  have x2 := BA.2.1 2 _ rfl
  have xz := BA.1
  have rz := BR.1
  have hz2 : w.heap.size + 2 ≤ ((w.alloc (.cells #[.slice aR arn arc, .slice aBs abn abc, .int .i64 acols] 30)).alloc (.cells #[.slice none 0 0, .slice none 0 0, .int .i64 0] 30)).heap.size := by simp
  cases hf : Pl.form acols arn aRN abn aBV
  · rw [hf] at C1
    have HFF : Hid (Pl.pivOk acols arn aRN abn aBV aRV row col = false) := Lib.hid (by rw [Pl.pivOk, hf]; rfl)
    clear hf arr abb ha2 hAB hAR
    go_enter Try.func34, Try.ntmps34
    go_wp2_with fail
    refine C1.out.mono ?_
    rintro e w1 ⟨rfl, hb⟩
    have BA := BA.below hb
    have BR := BR.below hb
    have HB := HB.trans (hb.mono HB.size)
    clear hb C1 x0 x1 x2 xz rz hz2
    have x0 := BA.2.1 0 _ rfl
    have x1 := BA.2.1 1 _ rfl
    have x2 := BA.2.1 2 _ rfl
    have hzl := BR.1
    go_wp2_with fail
    refine (CL.out _ HB).mono ?_
    rintro e wf ⟨XF, cF, AF, CF, YF, dF, hF, rfl, TF, hbF⟩
    have BR := BR.below hbF
    have HB := HB.trans (hbF.mono HB.size)
    clear hbF x0 x1 x2 BA
    have r0 := BR.2.1 0 _ rfl
    have r1 := BR.2.1 1 _ rfl
    have r2 := BR.2.1 2 _ rfl
    have rz := BR.1
    have rf := BR.2.2
    have BR := BR.set (k := 0) (by simp) (.slice XF arn cF)
    have TF := OwnTab.set TF (a := ⟨w.heap.size + 1, 0, none⟩) (by show w.heap.size + 1 < _; have := hzl; omega) (.slice XF arn cF)
    have HB := HB.setCell (p := ⟨w.heap.size + 1, 0, none⟩) (by show w.heap.size ≤ w.heap.size + 1; omega) (.slice XF arn cF)
    have BR := BR.set (k := 1) (by simp) (.slice YF abn dF)
    have TF := OwnTab.set TF (a := ⟨w.heap.size + 1, 1, none⟩) (by show w.heap.size + 1 < _; have := hzl; omega) (.slice YF abn dF)
    have HB := HB.setCell (p := ⟨w.heap.size + 1, 1, none⟩) (by show w.heap.size ≤ w.heap.size + 1; omega) (.slice YF abn dF)
    have BR := BR.set (k := 2) (by simp) (.int .i64 acols)
    have TF := OwnTab.set TF (a := ⟨w.heap.size + 1, 2, none⟩) (by show w.heap.size + 1 < _; have := hzl; omega) (.int .i64 acols)
    have HB := HB.setCell (p := ⟨w.heap.size + 1, 2, none⟩) (by show w.heap.size ≤ w.heap.size + 1; omega) (.int .i64 acols)
    have f0 := BR.2.1 0 _ rfl
    have f1 := BR.2.1 1 _ rfl
    have f2 := BR.2.1 2 _ rfl
    have HBB := Lib.hid HB
    have OTT := Lib.hid TF
    have HLL := Lib.hid (Nat.le_of_lt (Nat.lt_trans (Nat.lt_succ_self _) hzl))
    clear HB BR TF
    go_wp2
    refine bodyPost_ret (v := .tuple #[.agg #[.slice XF arn cF, .slice YF abn dF, .int .i64 acols], .bool false]) (by simp [results, Try.results34, go_sem, f0, f1, f2]) rfl (tp_no HFF.out OTT.out HLL.out HBB.out)
  · rw [hf] at C1
    obtain ⟨m, rfl, hm, hba, hbv, hrn⟩ := Pl.formFacts hf
    have HRN := Lib.hid hrn
    have ARH := Lib.hid arr
    have HA2 := Lib.hid ha2
    have HPV0 : Hid (Pl.pivOk (m : Int) arn aRN abn aBV aRV row col = (Pl.within row 0 ((arn : Int) - 1) && Pl.within col 0 ((m : Int) + arn - 1) && Pl.divAll (aRV row.toNat) (aRV row.toNat col.toNat).1 (aRV row.toNat col.toNat).2 (m + arn + 1) && Pl.allB (Pl.pivRow aRV row.toNat col.toNat (m + arn + 1)) arn)) := Lib.hid (by rw [Pl.pivOk, hf, Int.toNat_natCast]; rfl)
    have hba := hba.symm
    subst hba
    clear hf arr abb ha2 hAB hAR hbv hrn
    have CIA := Lib.hid (fun wx => l1In_any row 0 ((arn : Int) - 1) wx)
    have CIB := Lib.hid (fun wx => l1In_any col 0 ((m : Int) + (arn : Int) - 1) wx)
    go_enter Try.func34, Try.ntmps34
    go_wp2_with fail
    refine C1.out.mono ?_
    rintro e w1 ⟨rfl, hb⟩
    have BAn := BA.below hb
    have BRn := BR.below hb
    have HBn := HB.trans (hb.mono HB.size)
    have hz2n := Nat.le_trans hz2 hb.size
    clear hb C1 x0 x1 x2 xz rz BA BR HB hz2
    have BA := BAn
    have BR := BRn
    have HB := HBn
    have hz2 := hz2n
    clear BAn BRn HBn hz2n
    have x0 := BA.2.1 0 _ rfl
    have x2 := BA.2.1 2 _ rfl
    cases hw1 : Pl.within row 0 ((arn : Int) - 1)
    · rw [hw1] at CIA HPV0
      have HFF := Lib.hid (HPV0.out.trans (by rfl))
      clear hw1 CIB HPV0 x2
      go_wp2_with fail
      refine (CIA.out _).mono ?_
      rintro e w2 ⟨rfl, rfl⟩
      clear CIA x0
      have x0 := BA.2.1 0 _ rfl
      have x1 := BA.2.1 1 _ rfl
      have x2 := BA.2.1 2 _ rfl
      have hzl := BR.1
      go_wp2_with fail
      refine (CL.out _ HB).mono ?_
      rintro e wf ⟨XF, cF, AF, CF, YF, dF, hF, rfl, TF, hbF⟩
      have BR := BR.below hbF
      have HB := HB.trans (hbF.mono HB.size)
      clear hbF x0 x1 x2 BA
      have r0 := BR.2.1 0 _ rfl
      have r1 := BR.2.1 1 _ rfl
      have r2 := BR.2.1 2 _ rfl
      have rz := BR.1
      have rf := BR.2.2
      have BR := BR.set (k := 0) (by simp) (.slice XF arn cF)
      have TF := OwnTab.set TF (a := ⟨w.heap.size + 1, 0, none⟩) (by show w.heap.size + 1 < _; have := hzl; omega) (.slice XF arn cF)
      have HB := HB.setCell (p := ⟨w.heap.size + 1, 0, none⟩) (by show w.heap.size ≤ w.heap.size + 1; omega) (.slice XF arn cF)
      have BR := BR.set (k := 1) (by simp) (.slice YF arn dF)
      have TF := OwnTab.set TF (a := ⟨w.heap.size + 1, 1, none⟩) (by show w.heap.size + 1 < _; have := hzl; omega) (.slice YF arn dF)
      have HB := HB.setCell (p := ⟨w.heap.size + 1, 1, none⟩) (by show w.heap.size ≤ w.heap.size + 1; omega) (.slice YF arn dF)
      have BR := BR.set (k := 2) (by simp) (.int .i64 m)
      have TF := OwnTab.set TF (a := ⟨w.heap.size + 1, 2, none⟩) (by show w.heap.size + 1 < _; have := hzl; omega) (.int .i64 m)
      have HB := HB.setCell (p := ⟨w.heap.size + 1, 2, none⟩) (by show w.heap.size ≤ w.heap.size + 1; omega) (.int .i64 m)
      have f0 := BR.2.1 0 _ rfl
      have f1 := BR.2.1 1 _ rfl
      have f2 := BR.2.1 2 _ rfl
      have HBB := Lib.hid HB
      have OTT := Lib.hid TF
      have HLL := Lib.hid (Nat.le_of_lt (Nat.lt_trans (Nat.lt_succ_self _) hzl))
      clear HB BR TF
      go_wp2
      refine bodyPost_ret (v := .tuple #[.agg #[.slice XF arn cF, .slice YF arn dF, .int .i64 m], .bool false]) (by simp [results, Try.results34, go_sem, f0, f1, f2]) rfl (tp_no HFF.out OTT.out HLL.out HBB.out)
    · have hwr := Pl.within_iff.1 hw1
      rw [hw1] at CIA HPV0
      go_wp2_with fail
      refine (CIA.out _).mono ?_
      rintro e w2 ⟨rfl, rfl⟩
      clear CIA hw1
      cases hw2 : Pl.within col 0 ((m : Int) + (arn : Int) - 1)
      · rw [hw2] at CIB HPV0
        have HFF := Lib.hid (HPV0.out.trans (by rfl))
        clear hw2 HPV0
        go_wp2_with fail
        refine (CIB.out _).mono ?_
        rintro e w2 ⟨rfl, rfl⟩
        clear CIB x0 x2
        have x0 := BA.2.1 0 _ rfl
        have x1 := BA.2.1 1 _ rfl
        have x2 := BA.2.1 2 _ rfl
        have hzl := BR.1
        go_wp2_with fail
        refine (CL.out _ HB).mono ?_
        rintro e wf ⟨XF, cF, AF, CF, YF, dF, hF, rfl, TF, hbF⟩
        have BR := BR.below hbF
        have HB := HB.trans (hbF.mono HB.size)
        clear hbF x0 x1 x2 BA
        have r0 := BR.2.1 0 _ rfl
        have r1 := BR.2.1 1 _ rfl
        have r2 := BR.2.1 2 _ rfl
        have rz := BR.1
        have rf := BR.2.2
        have BR := BR.set (k := 0) (by simp) (.slice XF arn cF)
        have TF := OwnTab.set TF (a := ⟨w.heap.size + 1, 0, none⟩) (by show w.heap.size + 1 < _; have := hzl; omega) (.slice XF arn cF)
        have HB := HB.setCell (p := ⟨w.heap.size + 1, 0, none⟩) (by show w.heap.size ≤ w.heap.size + 1; omega) (.slice XF arn cF)
        have BR := BR.set (k := 1) (by simp) (.slice YF arn dF)
        have TF := OwnTab.set TF (a := ⟨w.heap.size + 1, 1, none⟩) (by show w.heap.size + 1 < _; have := hzl; omega) (.slice YF arn dF)
        have HB := HB.setCell (p := ⟨w.heap.size + 1, 1, none⟩) (by show w.heap.size ≤ w.heap.size + 1; omega) (.slice YF arn dF)
        have BR := BR.set (k := 2) (by simp) (.int .i64 m)
        have TF := OwnTab.set TF (a := ⟨w.heap.size + 1, 2, none⟩) (by show w.heap.size + 1 < _; have := hzl; omega) (.int .i64 m)
        have HB := HB.setCell (p := ⟨w.heap.size + 1, 2, none⟩) (by show w.heap.size ≤ w.heap.size + 1; omega) (.int .i64 m)
        have f0 := BR.2.1 0 _ rfl
        have f1 := BR.2.1 1 _ rfl
        have f2 := BR.2.1 2 _ rfl
        have HBB := Lib.hid HB
        have OTT := Lib.hid TF
        have HLL := Lib.hid (Nat.le_of_lt (Nat.lt_trans (Nat.lt_succ_self _) hzl))
        clear HB BR TF
        go_wp2
        refine bodyPost_ret (v := .tuple #[.agg #[.slice XF arn cF, .slice YF arn dF, .int .i64 m], .bool false]) (by simp [results, Try.results34, go_sem, f0, f1, f2]) rfl (tp_no HFF.out OTT.out HLL.out HBB.out)
      · have hwc := Pl.within_iff.1 hw2
        rw [hw2] at CIB HPV0
        obtain ⟨r, rfl⟩ : ∃ r : Nat, row = (r : Int) := ⟨row.toNat, by omega⟩
        obtain ⟨k, rfl⟩ : ∃ k : Nat, col = (k : Int) := ⟨col.toNat, by omega⟩
        have hr : r < arn := by omega
        have hk : k < m + arn := by omega
        have HPV := Lib.hid (HPV0.out.trans (show _ = (Pl.divAll (aRV r) (aRV r k).1 (aRV r k).2 (m + arn + 1) && Pl.allB (Pl.pivRow aRV r k (m + arn + 1)) arn) from rfl))
        clear hw2 HPV0 hwr hwc
        obtain ⟨n, hnn⟩ : ∃ n, n = m + arn + 1 := ⟨_, rfl⟩
        rw [← hnn] at HPV
        have hnn1 := Nat.le_of_eq hnn
        have hnn2 := Nat.le_of_eq hnn.symm
        clear hnn
        have hn1 : n ≤ 1048576 := by
          have h1 := HRN.out r hr
          have h2 := HA2.out r hr
          omega
        go_wp2_with fail
        refine (CIB.out _).mono ?_
        rintro e w2 ⟨rfl, rfl⟩
        clear CIB x0 x2
        have r0' : (0 : Int) ≤ (r : Int) := by omega
        have r1' : (r : Int) < (arn : Int) := by omega
        have k0' : (0 : Int) ≤ (k : Int) := by omega
        have k1' : (k : Int) < (n : Int) := by omega
        obtain ⟨b1, o1, rfl, hb1, hc1⟩ := ARH.out.1 (by omega)
        have HC1 := Lib.hid hc1
        clear hc1
        obtain ⟨b3, o3, e3, hb3, hc3⟩ := (ARH.out.2 r hr) (by have := HRN.out r hr; omega)
        have hrnr : aRN r = n := by have := HRN.out r hr; omega
        rw [hrnr] at hc3
        have HC3 := Lib.hid hc3
        have HXR : Hid (∀ wx, Below w.heap.size w wx → wx.cell? ⟨b1, o1 + r, none⟩ = some (.slice (some ⟨b3, o3, none⟩) n (aRC r))) := Lib.hid (fun wx H => by
          have h := (H.cell (p := ⟨b1, o1 + r, none⟩) (by exact Nat.lt_of_lt_of_le hb1 hB)).trans (HC1.out r hr)
          rwa [e3, hrnr] at h)
        have HE : Hid (∀ wx, Below w.heap.size w wx → ∀ j, j < n → wx.cell? ⟨b3, o3 + j * 2, none⟩ = some (.int .i64 (aRV r j).1) ∧ wx.cell? ⟨b3, o3 + j * 2 + 1, none⟩ = some (.int .i64 (aRV r j).2)) := Lib.hid (fun wx H j hj => ⟨(H.cell (p := ⟨b3, o3 + j * 2, none⟩) (by exact Nat.lt_of_lt_of_le hb3 hB)).trans (HC3.out j hj).1, (H.cell (p := ⟨b3, o3 + j * 2 + 1, none⟩) (by exact Nat.lt_of_lt_of_le hb3 hB)).trans (HC3.out j hj).2⟩)
        have HPD : Hid (Pl.pivD aRV r k = Pl.divV (aRV r) (aRV r k).1 (aRV r k).2) := Lib.hid rfl
        obtain ⟨pa, epa⟩ : ∃ x, x = (aRV r k).1 := ⟨_, rfl⟩
        obtain ⟨pb, epb⟩ : ∃ x, x = (aRV r k).2 := ⟨_, rfl⟩
        rw [← epa, ← epb] at HPV HPD
        have HPA := Lib.hid epa
        have HPB := Lib.hid epb
        clear hc3 e3 epa epb
        have BA1 := Lib.hid BA
        have BR1 := Lib.hid BR
        have HB1 := Lib.hid HB
        have x0 := BA.2.1 0 _ rfl
        have x1 := BA.2.1 1 _ rfl
        have x2 := BA.2.1 2 _ rfl
        have xr0 := HXR.out w1 HB
        have xe0 := HE.out w1 HB k (by omega)
        rw [← HPA.out, ← HPB.out] at xe0
        have xe1 := xe0.1
        clear xe0
        by_cases hpz : pa = 0
        · have dp : (pa == 0) = true := beq_iff_eq.2 hpz
          have HFF := Lib.hid (HPV.out.trans (show _ = false by rw [hpz, Pl.divAll_zero _ _ (by omega)]; rfl))
          clear hpz
          clear x0 x1 x2
          have x0 := BA.2.1 0 _ rfl
          have x1 := BA.2.1 1 _ rfl
          have x2 := BA.2.1 2 _ rfl
          have hzl := BR.1
          go_wp2_with fail
          refine (CL.out _ HB).mono ?_
          rintro e wf ⟨XF, cF, AF, CF, YF, dF, hF, rfl, TF, hbF⟩
          have BR := BR.below hbF
          have HB := HB.trans (hbF.mono HB.size)
          clear hbF x0 x1 x2 BA
          have r0 := BR.2.1 0 _ rfl
          have r1 := BR.2.1 1 _ rfl
          have r2 := BR.2.1 2 _ rfl
          have rz := BR.1
          have rf := BR.2.2
          have BR := BR.set (k := 0) (by simp) (.slice XF arn cF)
          have TF := OwnTab.set TF (a := ⟨w.heap.size + 1, 0, none⟩) (by show w.heap.size + 1 < _; have := hzl; omega) (.slice XF arn cF)
          have HB := HB.setCell (p := ⟨w.heap.size + 1, 0, none⟩) (by show w.heap.size ≤ w.heap.size + 1; omega) (.slice XF arn cF)
          have BR := BR.set (k := 1) (by simp) (.slice YF arn dF)
          have TF := OwnTab.set TF (a := ⟨w.heap.size + 1, 1, none⟩) (by show w.heap.size + 1 < _; have := hzl; omega) (.slice YF arn dF)
          have HB := HB.setCell (p := ⟨w.heap.size + 1, 1, none⟩) (by show w.heap.size ≤ w.heap.size + 1; omega) (.slice YF arn dF)
          have BR := BR.set (k := 2) (by simp) (.int .i64 m)
          have TF := OwnTab.set TF (a := ⟨w.heap.size + 1, 2, none⟩) (by show w.heap.size + 1 < _; have := hzl; omega) (.int .i64 m)
          have HB := HB.setCell (p := ⟨w.heap.size + 1, 2, none⟩) (by show w.heap.size ≤ w.heap.size + 1; omega) (.int .i64 m)
          have f0 := BR.2.1 0 _ rfl
          have f1 := BR.2.1 1 _ rfl
          have f2 := BR.2.1 2 _ rfl
          have HBB := Lib.hid HB
          have OTT := Lib.hid TF
          have HLL := Lib.hid (Nat.le_of_lt (Nat.lt_trans (Nat.lt_succ_self _) hzl))
          clear HB BR TF
          go_wp2
          refine bodyPost_ret (v := .tuple #[.agg #[.slice XF arn cF, .slice YF arn dF, .int .i64 m], .bool false]) (by simp [results, Try.results34, go_sem, f0, f1, f2]) rfl (tp_no HFF.out OTT.out HLL.out HBB.out)
        have dp : (pa == 0) = false := beq_eq_false_iff_ne.2 hpz
        clear hpz
        go_wp2_with fail
        refine (CL.out w1 HB).mono ?_
        rintro e w3 ⟨X, c, XA, XC, Y, d, h0, rfl, hT, hb3w⟩
        obtain ⟨bX, rfl⟩ := own_addr hT.rows.outer (by omega)
        obtain ⟨bY, rfl⟩ := own_addr hT.basis (by omega)
        have hX8 : bX < w3.heap.size := (hT.rows.outer.lt bX rfl).2
        have hY8 : bY < w3.heap.size := (hT.basis.lt bY rfl).2
        have hXl : w1.heap.size ≤ bX := (hT.rows.outer.lt bX rfl).1
        have hYl : w1.heap.size ≤ bY := (hT.basis.lt bY rfl).1
        have h08 := hT.le
        have B8 := Bx.new w3 #[.slice (some ⟨bX, 0, none⟩) arn c, .slice (some ⟨bY, 0, none⟩) arn d, .int .i64 m] 30
        obtain ⟨w8, e8⟩ : ∃ w8, w8 = w3.alloc (.cells #[.slice (some ⟨bX, 0, none⟩) arn c, .slice (some ⟨bY, 0, none⟩) arn d, .int .i64 m] 30) := ⟨_, rfl⟩
        have hQ8 : Below w1.heap.size w1 w8 := by rw [e8]; exact hb3w.alloc hb3w.size _
        have hT := hT.below ((Below.refl w3.heap.size w3).alloc (Nat.le_refl _) (.cells #[.slice (some ⟨bX, 0, none⟩) arn c, .slice (some ⟨bY, 0, none⟩) arn d, .int .i64 m] 30))
        rw [← e8] at B8 hT
        obtain ⟨g8, eg8⟩ : ∃ g, g = w3.heap.size := ⟨_, rfl⟩
        rw [← eg8] at B8 hX8 hY8 h08
        clear hb3w x0 x1 x2 BA BR HB xr0 xe1 dp
        have HBX := Lib.hid (HB1.out.trans (hQ8.mono HB1.out.size))
        have BA := bx_lo BA1.out hQ8 BA1.out.1
        have x0 := BA.2.1 0 _ rfl
        have xr := HXR.out w8 HBX.out
        have x8z : w3.heap.size < w8.heap.size := by rw [e8]; simp
        have HE8 := Lib.hid e8
        have EG8 := Lib.hid eg8
        have DB := (Below.refl w8.heap.size w8).drew
        have HBD := Lib.hid (HBX.out.trans (DB.mono HBX.out.size))
        have HQD := Lib.hid (hQ8.trans (DB.mono hQ8.size))
        have HTD := Lib.hid (hT.below DB)
        have B8D := Lib.hid (B8.below DB)
        have BAD := Lib.hid (BA.below DB)
        have BRD := Lib.hid ((bx_lo BR1.out hQ8 BR1.out.1).below DB)
        have CD := Lib.hid (fun wx (H : Below w.heap.size w wx) => divide_any (some ⟨b3, o3, none⟩) n (aRC r) B (aRV r) pa pb wx (by
          have h := (ARH.out.2 r hr).below H hB
          rw [hrnr] at h
          exact (fun hn => ⟨b3, o3, rfl, hb3, fun j hj => HE.out wx H j hj⟩)) (Nat.le_trans hB H.size) hn1)
        unfold OwnsSc at CD
        rw [← HPD.out] at CD
        generalize Pl.divAll (aRV r) pa pb n = vv at CD HPV
        clear DB hT B8 BA hQ8 x8z
        go_upto_region 4 with fail
        rw [← e8, ← eg8]
        clear e8 eg8
        refine wp_region_noPanic ?_
        refine wp_region_held_drew (S := (fun w' => w'.cell? ⟨w.heap.size, 0, none⟩ = some (.slice (some ⟨b1, o1, none⟩) arn arc) ∧ w'.cell? ⟨b1, o1 + r, none⟩ = some (.slice (some ⟨b3, o3, none⟩) n (aRC r)) ∧ w'.cell? ⟨b3, o3 + k * 2, none⟩ = some (.int .i64 pa) ∧ w'.cell? ⟨b3, o3 + k * 2 + 1, none⟩ = some (.int .i64 pb))) (by kernel_rfl) ?_ (fun hHeld => ?_)
        · exact ⟨BAD.out.2.1 0 _ rfl, HXR.out _ HBD.out, by have h := (HE.out _ HBD.out k (by omega)).1; rwa [← HPA.out] at h, by have h := (HE.out _ HBD.out k (by omega)).2; rwa [← HPB.out] at h⟩
        refine takeN 0 (v := ?v1_0) rfl (by kernel_rfl) (by kernel_rfl) (by kernel_rfl) (fun _ _ _ h => h) (by rfl) ?hy1_0 (by assumption) ?r1_0
        case hy1_0 => (intro w hSw; (try dsimp only at hSw); first | (go_simp; done) | (go_simp; with_reducible rfl))
        simp only [Act.put, List.setIfInBounds_toArray, List.set_cons_zero, List.set_cons_succ]
        refine takeN 1 (v := ?v1_1) rfl (by kernel_rfl) (by kernel_rfl) (by kernel_rfl) (fun _ _ _ h => h) (by rfl) ?hy1_1 (by assumption) ?r1_1
        case hy1_1 => (intro w hSw; (try dsimp only at hSw); first | (go_simp; done) | (go_simp; with_reducible rfl))
        simp only [Act.put, List.setIfInBounds_toArray, List.set_cons_zero, List.set_cons_succ]
        refine takeN 2 (v := ?v1_2) rfl (by kernel_rfl) (by kernel_rfl) (by kernel_rfl) (fun _ _ _ h => h) (by rfl) ?hy1_2 (by assumption) ?r1_2
        case hy1_2 => (intro w hSw; (try dsimp only at hSw); first | (go_simp; done) | (go_simp; with_reducible rfl))
        simp only [Act.put, List.setIfInBounds_toArray, List.set_cons_zero, List.set_cons_succ]
        refine takeN 3 (v := ?v1_3) rfl (by kernel_rfl) (by kernel_rfl) (by kernel_rfl) (fun _ _ _ h => h) (by rfl) ?hy1_3 (by assumption) ?r1_3
        case hy1_3 => (intro w hSw; (try dsimp only at hSw); first | (go_simp; done) | (go_simp; with_reducible rfl))
        simp only [Act.put, List.setIfInBounds_toArray, List.set_cons_zero, List.set_cons_succ]
        refine takeN 4 (v := ?v1_4) rfl (by kernel_rfl) (by kernel_rfl) (by kernel_rfl) (fun _ _ _ h => h) (by rfl) ?hy1_4 (by assumption) ?r1_4
        case hy1_4 => (intro w hSw; (try dsimp only at hSw); first | (go_simp; done) | (go_simp; with_reducible rfl))
        simp only [Act.put, List.setIfInBounds_toArray, List.set_cons_zero, List.set_cons_succ]
        refine takeN 5 (v := ?v1_5) rfl (by kernel_rfl) (by kernel_rfl) (by kernel_rfl) (fun _ _ _ h => h) (by rfl) ?hy1_5 (by assumption) ?r1_5
        case hy1_5 => (intro w hSw; (try dsimp only at hSw); first | (go_simp; done) | (go_simp; with_reducible rfl))
        simp only [Act.put, List.setIfInBounds_toArray, List.set_cons_zero, List.set_cons_succ]
        refine takeN 6 (v := ?v1_6) rfl (by kernel_rfl) (by kernel_rfl) (by kernel_rfl) (fun _ _ _ h => h) (by rfl) ?hy1_6 (by assumption) ?r1_6
        case hy1_6 => (intro w hSw; (try dsimp only at hSw); first | (go_simp; done) | (go_simp; with_reducible rfl))
        simp only [Act.put, List.setIfInBounds_toArray, List.set_cons_zero, List.set_cons_succ]
        refine takeN 7 (v := ?v1_7) rfl (by kernel_rfl) (by kernel_rfl) (by kernel_rfl) (fun _ _ _ h => h) (by rfl) ?hy1_7 (by assumption) ?r1_7
        case hy1_7 => (intro w hSw; (try dsimp only at hSw); first | (go_simp; done) | (go_simp; with_reducible rfl))
        simp only [Act.put, List.setIfInBounds_toArray, List.set_cons_zero, List.set_cons_succ]
        refine takeN 8 (v := ?v1_8) rfl (by kernel_rfl) (by kernel_rfl) (by kernel_rfl) (fun _ _ _ h => h) (by rfl) ?hy1_8 (by assumption) ?r1_8
        case hy1_8 => (intro w hSw; (try dsimp only at hSw); first | (go_simp; done) | (go_simp; with_reducible rfl))
        simp only [Act.put, List.setIfInBounds_toArray, List.set_cons_zero, List.set_cons_succ]
        refine takeN 9 (v := ?v1_9) rfl (by kernel_rfl) (by kernel_rfl) (by kernel_rfl) (fun _ _ _ h => h) (by rfl) ?hy1_9 (by assumption) ?r1_9
        case hy1_9 => (intro w hSw; (try dsimp only at hSw); first | (go_simp; done) | (go_simp; with_reducible rfl))
        simp only [Act.put, List.setIfInBounds_toArray, List.set_cons_zero, List.set_cons_succ]
        refine takeN 10 (v := ?v1_10) rfl (by kernel_rfl) (by kernel_rfl) (by kernel_rfl) (fun _ _ _ h => h) (by rfl) ?hy1_10 (by assumption) ?r1_10
        case hy1_10 => (intro w hSw; (try dsimp only at hSw); first | (go_simp; done) | (go_simp; with_reducible rfl))
        simp only [Act.put, List.setIfInBounds_toArray, List.set_cons_zero, List.set_cons_succ]
        refine takeN 11 (v := ?v1_11) rfl (by kernel_rfl) (by kernel_rfl) (by kernel_rfl) (fun _ _ _ h => h) (by rfl) ?hy1_11 (by assumption) ?r1_11
        case hy1_11 => (intro w hSw; (try dsimp only at hSw); first | (go_simp; done) | (go_simp; with_reducible rfl))
        simp only [Act.put, List.setIfInBounds_toArray, List.set_cons_zero, List.set_cons_succ]
        refine takeN 12 (v := ?v1_12) rfl (by kernel_rfl) (by kernel_rfl) (by kernel_rfl) (fun _ _ _ h => h) (by rfl) ?hy1_12 (by assumption) ?r1_12
        case hy1_12 => (intro w hSw; (try dsimp only at hSw); first | (go_simp; done) | (go_simp; with_reducible rfl))
        simp only [Act.put, List.setIfInBounds_toArray, List.set_cons_zero, List.set_cons_succ]
        refine nextN 13 (by kernel_rfl) rfl (fun K hK => ?_)
        go_simp
        go_at_call 80; refine (CD.out _ HBD.out).mono ?_; rintro e wS ⟨vS, rfl, owS, hbM⟩; have HOS := Lib.hid owS; have HLS := Lib.hid HTD.out.le; have HLQ := Lib.hid HQD.out.size; have HBD := Lib.hid (HBD.out.trans (hbM.mono HBD.out.size)); have HQD := Lib.hid (HQD.out.trans (hbM.mono HQD.out.size)); have HTD := Lib.hid (HTD.out.below hbM); have B8D := Lib.hid (B8D.out.below hbM); have BAD := Lib.hid (BAD.out.below hbM); have BRD := Lib.hid (BRD.out.below hbM); clear hbM owS
        go_wp2_with fail
        refine hK.out _ _ ?_ (fun hHeld => ?_)
        · exact ⟨BAD.out.2.1 0 _ rfl, HXR.out _ HBD.out, by have h := (HE.out _ HBD.out k (by omega)).1; rwa [← HPA.out] at h, by have h := (HE.out _ HBD.out k (by omega)).2; rwa [← HPB.out] at h⟩
        clear hK K
        refine takeN 14 (v := ?v1_14) rfl (by kernel_rfl) (by kernel_rfl) (by kernel_rfl) (fun _ _ _ h => h) (by rfl) ?hy1_14 (by assumption) ?r1_14
        case hy1_14 => (intro w hSw; (try dsimp only at hSw); first | (go_simp; done) | (go_simp; with_reducible rfl))
        simp only [Act.put, List.setIfInBounds_toArray, List.set_cons_zero, List.set_cons_succ]
        refine takeN 15 (v := ?v1_15) rfl (by kernel_rfl) (by kernel_rfl) (by kernel_rfl) (fun _ _ _ h => h) (by rfl) ?hy1_15 (by assumption) ?r1_15
        case hy1_15 => (intro w hSw; (try dsimp only at hSw); first | (go_simp; done) | (go_simp; with_reducible rfl))
        simp only [Act.put, List.setIfInBounds_toArray, List.set_cons_zero, List.set_cons_succ]
        refine takeN 16 (v := ?v1_16) rfl (by kernel_rfl) (by kernel_rfl) (by kernel_rfl) (fun _ _ _ h => h) (by rfl) ?hy1_16 (by assumption) ?r1_16
        case hy1_16 => (intro w hSw; (try dsimp only at hSw); first | (go_simp; done) | (go_simp; with_reducible rfl))
        simp only [Act.put, List.setIfInBounds_toArray, List.set_cons_zero, List.set_cons_succ]
        refine takeN 17 (v := ?v1_17) rfl (by kernel_rfl) (by kernel_rfl) (by kernel_rfl) (fun _ _ _ h => h) (by rfl) ?hy1_17 (by assumption) ?r1_17
        case hy1_17 => (intro w hSw; (try dsimp only at hSw); first | (go_simp; done) | (go_simp; with_reducible rfl))
        simp only [Act.put, List.setIfInBounds_toArray, List.set_cons_zero, List.set_cons_succ]
        refine takeN 18 (v := ?v1_18) rfl (by kernel_rfl) (by kernel_rfl) (by kernel_rfl) (fun _ _ _ h => h) (by rfl) ?hy1_18 (by assumption) ?r1_18
        case hy1_18 => (intro w hSw; (try dsimp only at hSw); first | (go_simp; done) | (go_simp; with_reducible rfl))
        simp only [Act.put, List.setIfInBounds_toArray, List.set_cons_zero, List.set_cons_succ]
        refine wpAnyH_done (by kernel_rfl) ?_ _
        refine NoPanic.normal ?_
        cases vv
        · have HFF := Lib.hid (HPV.out.trans (Bool.false_and _))
          have BA := BAD.out
          have BR := BRD.out
          have HB := HBD.out
          clear CD BAD BRD x0 xr
          have x0 := BA.2.1 0 _ rfl
          have x1 := BA.2.1 1 _ rfl
          have x2 := BA.2.1 2 _ rfl
          have hzl := BR.1
          go_wp2_with fail
          refine (CL.out _ HB).mono ?_
          rintro e wf ⟨XF, cF, AF, CF, YF, dF, hF, rfl, TF, hbF⟩
          have BR := BR.below hbF
          have HB := HB.trans (hbF.mono HB.size)
          clear hbF x0 x1 x2 BA
          have r0 := BR.2.1 0 _ rfl
          have r1 := BR.2.1 1 _ rfl
          have r2 := BR.2.1 2 _ rfl
          have rz := BR.1
          have rf := BR.2.2
          have BR := BR.set (k := 0) (by simp) (.slice XF arn cF)
          have TF := OwnTab.set TF (a := ⟨w.heap.size + 1, 0, none⟩) (by show w.heap.size + 1 < _; have := hzl; omega) (.slice XF arn cF)
          have HB := HB.setCell (p := ⟨w.heap.size + 1, 0, none⟩) (by show w.heap.size ≤ w.heap.size + 1; omega) (.slice XF arn cF)
          have BR := BR.set (k := 1) (by simp) (.slice YF arn dF)
          have TF := OwnTab.set TF (a := ⟨w.heap.size + 1, 1, none⟩) (by show w.heap.size + 1 < _; have := hzl; omega) (.slice YF arn dF)
          have HB := HB.setCell (p := ⟨w.heap.size + 1, 1, none⟩) (by show w.heap.size ≤ w.heap.size + 1; omega) (.slice YF arn dF)
          have BR := BR.set (k := 2) (by simp) (.int .i64 m)
          have TF := OwnTab.set TF (a := ⟨w.heap.size + 1, 2, none⟩) (by show w.heap.size + 1 < _; have := hzl; omega) (.int .i64 m)
          have HB := HB.setCell (p := ⟨w.heap.size + 1, 2, none⟩) (by show w.heap.size ≤ w.heap.size + 1; omega) (.int .i64 m)
          have f0 := BR.2.1 0 _ rfl
          have f1 := BR.2.1 1 _ rfl
          have f2 := BR.2.1 2 _ rfl
          have HBB := Lib.hid HB
          have OTT := Lib.hid TF
          have HLL := Lib.hid (Nat.le_of_lt (Nat.lt_trans (Nat.lt_succ_self _) hzl))
          clear HB BR TF
          go_wp2
          refine bodyPost_ret (v := .tuple #[.agg #[.slice XF arn cF, .slice YF arn dF, .int .i64 m], .bool false]) (by simp [results, Try.results34, go_sem, f0, f1, f2]) rfl (tp_no HFF.out OTT.out HLL.out HBB.out)
        · have HDA := Lib.hid (HPV.out.trans (Bool.true_and _))
          obtain ⟨A9, c9, rfl⟩ := own_form HOS.out
          have b80 := B8D.out.2.1 0 _ rfl
          obtain ⟨⟨u0, y0⟩, f0⟩ := own_cell (i := r) HTD.out.rows.outer (by omega) (by omega)
          have HT2 := Lib.hid (HTD.out.setRow (i := r) (A := A9) (c1 := c9) (V := Pl.pivD aRV r k) hr rfl (by rw [hrnr]; exact HOS.out) HLS.out HLQ.out (RV2 := Pl.pivI aRV r k 0) (fun j => by
            unfold Pl.pivI
            rw [if_neg (Nat.not_lt_zero j)]))
          rw [hrnr] at HT2
          have B8H := Lib.hid (B8D.out.other (b := bX) (k := r) (by have := EG8.out; omega) (.slice A9 n c9))
          have HQH := Lib.hid (HQD.out.setCell (p := ⟨bX, r, none⟩) hXl (.slice A9 n c9))
          clear CD BAD BRD HTD B8D HQD HBD HOS x0 xr
          go_wp2
          go_loopw [11] (fun u wr => ∃ (i : Nat) (XA : Nat → Option Addr) (RC : Nat → Nat) (hI : Nat), i ≤ arn ∧ u = .int .i64 i ∧ Hid (Pl.allB (Pl.pivRow aRV r k n) i = true) ∧ OwnTab wr w1.heap.size hI (some ⟨bX, 0, none⟩) arn c XA aRN RC (Pl.pivI aRV r k i) (some ⟨bY, 0, none⟩) arn d aBV ∧ Bx wr g8 [.slice (some ⟨bX, 0, none⟩) arn c, .slice (some ⟨bY, 0, none⟩) arn d, .int .i64 m] ∧ (XA r = A9 ∧ RC r = c9) ∧ Below w1.heap.size w1 wr) (fun u _ => arn - (intOf u).toNat)
          case atStart => exact ⟨0, _, _, _, Nat.zero_le _, rfl, Lib.hid rfl, HT2.out, B8H.out, ⟨if_pos rfl, if_pos rfl⟩, HQH.out⟩
          case round =>
            obtain ⟨i, XA, RC, hI, hi, rfl, hal, hT, B8, hA9, hQ⟩ := hrel
            obtain ⟨wo, rfl⟩ : ∃ wo : World, wo = wr := ⟨_, rfl⟩
            have hb := HB1.out.trans (hQ.mono HB1.out.size)
            have BA := bx_lo BA1.out hQ BA1.out.1
            have BR := bx_lo BR1.out hQ BR1.out.1
            by_cases hlt : i < arn
            · have x1 := (hb.cell (p := ⟨b1, o1 + i, none⟩) (by exact Nat.lt_of_lt_of_le hb1 hB)).trans (HC1.out i hlt)
              have hrni : aRN i = n := by have := HRN.out i hlt; omega
              obtain ⟨b2, o2, e2, hb2, hc2⟩ := (ARH.out.2 i hlt) (by omega)
              rw [hrni] at x1 hc2
              rw [e2] at x1
              have HROWI : Hid (∀ wx, Below w.heap.size w wx → RdP wx wx.heap.size (some ⟨b2, o2, none⟩) n (aRV i)) := Lib.hid (fun wx H => by
                have h := ((ARH.out.2 i hlt).below H hB).more (Nat.le_trans hB H.size)
                rwa [e2, hrni] at h)
              have HEC : Hid (∀ wx, Below w.heap.size w wx → wx.cell? ⟨b2, o2 + k * 2, none⟩ = some (.int .i64 (aRV i k).1) ∧ wx.cell? ⟨b2, o2 + k * 2 + 1, none⟩ = some (.int .i64 (aRV i k).2)) := Lib.hid (fun wx H => ⟨(H.cell (p := ⟨b2, o2 + k * 2, none⟩) (by exact Nat.lt_of_lt_of_le hb2 hB)).trans (hc2 k (by omega)).1, (H.cell (p := ⟨b2, o2 + k * 2 + 1, none⟩) (by exact Nat.lt_of_lt_of_le hb2 hB)).trans (hc2 k (by omega)).2⟩)
              have HPR : Hid (Pl.pivRow aRV r k n i = (decide (i = r) || decide (aRV i k = (0, 1)) || Pl.scAll (aRV i) (Pl.ng (aRV i k).1) (aRV i k).2 (Pl.pivD aRV r k) n)) := Lib.hid rfl
              have HNX := Lib.hid (fun h1 h2 => Pl.pivI_next (aRV := aRV) (r := r) (c := k) (i := i) h1 h2)
              have HZC : Hid (aRV i k = ((aRV i k).1, (aRV i k).2)) := Lib.hid rfl
              obtain ⟨va, eva⟩ : ∃ x, x = (aRV i k).1 := ⟨_, rfl⟩
              obtain ⟨vb, evb⟩ : ∃ x, x = (aRV i k).2 := ⟨_, rfl⟩
              rw [← eva, ← evb] at HEC HPR HNX HZC
              have i0 : (0 : Int) ≤ (i : Int) := by omega
              have i1 : (i : Int) < (arn : Int) := by omega
              have HTH := Lib.hid hT
              have B8H2 := Lib.hid B8
              have BAH := Lib.hid BA
              have BRH := Lib.hid BR
              have HBH := Lib.hid hb
              have HQH2 := Lib.hid hQ
              generalize aRC i = d1 at x1
              clear hc2 e2 eva evb hT B8 BA BR hb hQ
              have hsame : ∀ {b : Bool}, (i = r ∨ aRV i k = (0, 1)) → Hid (Pl.allB (Pl.pivRow aRV r k n) (i + 1) = true) := fun h => Lib.hid (Pl.allB_yes (q := Pl.pivRow aRV r k n) hal.out (by
                rw [HPR.out]
                rcases h with h | h
                · rw [decide_eq_true h]; rfl
                · rw [decide_eq_true h]; simp))
              have DB : Below wo.heap.size wo (wo.alloc (.cells #[.int .i64 va, .int .i64 vb] 66)).drew := ((Below.refl wo.heap.size wo).alloc (Nat.le_refl _) _).drew
              have HBD := Lib.hid (HBH.out.trans (DB.mono HBH.out.size))
              have HQD := Lib.hid (HQH2.out.trans (DB.mono HQH2.out.size))
              have HTD := Lib.hid (HTH.out.below DB)
              have B8D := Lib.hid (B8H2.out.below DB)
              have BAD := Lib.hid (BAH.out.below DB)
              have BRD := Lib.hid (BRH.out.below DB)
              have B12 : Hid (Bx (wo.alloc (.cells #[.int .i64 va, .int .i64 vb] 66)).drew wo.heap.size [.int .i64 va, .int .i64 vb]) := Lib.hid ((Bx.new wo #[.int .i64 va, .int .i64 vb] 66).below ((Below.refl _ _).drew))
              have x0 := BAH.out.2.1 0 _ rfl
              have xe := HEC.out wo HBH.out
              have xe1 := xe.1
              have xe2 := xe.2
              clear DB xe
              by_cases hir : i = r
              · have dq : ((i : Int) == (r : Int)) = true := beq_iff_eq.2 (by omega)
                have HYY := hsame (b := true) (Or.inl hir)
                have HEQ := Pl.pivI_same (aRV := aRV) (r := r) (c := k) (i := i) (Or.inl hir)
                have HTN := Lib.hid HTD.out
                rw [← HEQ] at HTN
                have HTX : Hid True := Lib.hid trivial
                clear hir hsame HEQ
                go_upto_region 12 with fail
                refine wp_region_noPanic ?_
                refine wp_region_held_drew (S := (fun w' => w'.cell? ⟨wo.heap.size, 0, none⟩ = some (.int .i64 va) ∧ w'.cell? ⟨wo.heap.size, 1, none⟩ = some (.int .i64 vb))) (by kernel_rfl) ?_ (fun hHeld => ?_)
                · exact ⟨B12.out.2.1 0 _ rfl, B12.out.2.1 1 _ rfl⟩
                refine takeN 0 (v := ?v2_0) rfl (by kernel_rfl) (by kernel_rfl) (by kernel_rfl) (fun _ _ _ h => h) (by rfl) ?hy2_0 (by assumption) ?r2_0
                case hy2_0 => (intro w hSw; (try dsimp only at hSw); first | (go_simp; done) | (go_simp; with_reducible rfl))
                simp only [Act.put, List.setIfInBounds_toArray, List.set_cons_zero, List.set_cons_succ]
                refine takeN 1 (v := ?v2_1) rfl (by kernel_rfl) (by kernel_rfl) (by kernel_rfl) (fun _ _ _ h => h) (by rfl) ?hy2_1 (by assumption) ?r2_1
                case hy2_1 => (intro w hSw; (try dsimp only at hSw); first | (go_simp; done) | (go_simp; with_reducible rfl))
                simp only [Act.put, List.setIfInBounds_toArray, List.set_cons_zero, List.set_cons_succ]
                refine takeN 2 (v := ?v2_2) rfl (by kernel_rfl) (by kernel_rfl) (by kernel_rfl) (fun _ _ _ h => h) (by rfl) ?hy2_2 (by assumption) ?r2_2
                case hy2_2 => (intro w hSw; (try dsimp only at hSw); first | (go_simp; done) | (go_simp; with_reducible rfl))
                simp only [Act.put, List.setIfInBounds_toArray, List.set_cons_zero, List.set_cons_succ]
                try simp only [dq]
                refine takeN 3 (v := ?v2_3) rfl (by kernel_rfl) (by kernel_rfl) (by kernel_rfl) (fun _ _ _ h => h) (by rfl) ?hy2_3 (by assumption) ?r2_3
                case hy2_3 => (intro w hSw; (try dsimp only at hSw); first | (go_simp; done) | (go_simp; with_reducible rfl))
                simp only [Act.put, List.setIfInBounds_toArray, List.set_cons_zero, List.set_cons_succ]
                refine skipN 4 rfl (by kernel_rfl) (by kernel_rfl) (by kernel_rfl) (fun _ _ _ h => h) (by rfl) (by assumption) ?_
                simp only [Act.put, List.setIfInBounds_toArray, List.set_cons_zero, List.set_cons_succ]
                refine nextN 5 (by kernel_rfl) rfl (fun K hK => ?_)
                go_simp
                refine hK.out _ _ ?_ (fun hHeld => ?_)
                · assumption
                clear hK K
                refine skipN 6 rfl (by kernel_rfl) (by kernel_rfl) (by kernel_rfl) (fun _ _ _ h => h) (by rfl) (by assumption) ?_
                simp only [Act.put, List.setIfInBounds_toArray, List.set_cons_zero, List.set_cons_succ]
                refine takeN 7 (v := ?v2_7) rfl (by kernel_rfl) (by kernel_rfl) (by kernel_rfl) (fun _ _ _ h => h) (by rfl) ?hy2_7 (by assumption) ?r2_7
                case hy2_7 => (intro w hSw; (try dsimp only at hSw); first | (go_simp; done) | (go_simp; with_reducible rfl))
                simp only [Act.put, List.setIfInBounds_toArray, List.set_cons_zero, List.set_cons_succ]
                refine wpAnyH_done (by kernel_rfl) ?_ _
                refine NoPanic.normal ?_
                have HQN := HQD
                have B8N := B8D
                clear HTX HNX HPR HZC HROWI HEC HTD HTH B8H2 BAH BRH HBH HQH2
                clear x1
                go_wp2
                go_roundw
                case rel => exact ⟨i + 1, XA, RC, hI, by omega, by go_num, HYY, HTN.out, B8N.out, hA9, HQN.out⟩
                case measure => simp [intOf]; omega
              · have dq : ((i : Int) == (r : Int)) = false := beq_eq_false_iff_ne.2 (by omega)
                by_cases hzz : va = 0 ∧ vb = 1
                · obtain ⟨rfl, rfl⟩ := hzz
                  have hz0 : aRV i k = (0, 1) := HZC.out
                  have HYY := hsame (b := true) (Or.inr hz0)
                  have HEQ := Pl.pivI_same (aRV := aRV) (r := r) (c := k) (i := i) (Or.inr hz0)
                  clear hz0 hsame hir
                  have HEQH := Lib.hid HEQ
                  clear HEQ
                  go_upto_region 12 with fail
                  refine wp_region_noPanic ?_
                  refine wp_region_held_drew (S := (fun w' => w'.cell? ⟨wo.heap.size, 0, none⟩ = some (.int .i64 0) ∧ w'.cell? ⟨wo.heap.size, 1, none⟩ = some (.int .i64 1))) (by kernel_rfl) ?_ (fun hHeld => ?_)
                  · exact ⟨B12.out.2.1 0 _ rfl, B12.out.2.1 1 _ rfl⟩
                  refine takeN 0 (v := ?v3_0) rfl (by kernel_rfl) (by kernel_rfl) (by kernel_rfl) (fun _ _ _ h => h) (by rfl) ?hy3_0 (by assumption) ?r3_0
                  case hy3_0 => (intro w hSw; (try dsimp only at hSw); first | (go_simp; done) | (go_simp; with_reducible rfl))
                  simp only [Act.put, List.setIfInBounds_toArray, List.set_cons_zero, List.set_cons_succ]
                  refine takeN 1 (v := ?v3_1) rfl (by kernel_rfl) (by kernel_rfl) (by kernel_rfl) (fun _ _ _ h => h) (by rfl) ?hy3_1 (by assumption) ?r3_1
                  case hy3_1 => (intro w hSw; (try dsimp only at hSw); first | (go_simp; done) | (go_simp; with_reducible rfl))
                  simp only [Act.put, List.setIfInBounds_toArray, List.set_cons_zero, List.set_cons_succ]
                  refine takeN 2 (v := ?v3_2) rfl (by kernel_rfl) (by kernel_rfl) (by kernel_rfl) (fun _ _ _ h => h) (by rfl) ?hy3_2 (by assumption) ?r3_2
                  case hy3_2 => (intro w hSw; (try dsimp only at hSw); first | (go_simp; done) | (go_simp; with_reducible rfl))
                  simp only [Act.put, List.setIfInBounds_toArray, List.set_cons_zero, List.set_cons_succ]
                  try simp only [dq]
                  refine takeN 3 (v := ?v3_3) rfl (by kernel_rfl) (by kernel_rfl) (by kernel_rfl) (fun _ _ _ h => h) (by rfl) ?hy3_3 (by assumption) ?r3_3
                  case hy3_3 => (intro w hSw; (try dsimp only at hSw); first | (go_simp; done) | (go_simp; with_reducible rfl))
                  simp only [Act.put, List.setIfInBounds_toArray, List.set_cons_zero, List.set_cons_succ]
                  refine takeN 4 (v := ?v3_4) rfl (by kernel_rfl) (by kernel_rfl) (by kernel_rfl) (fun _ _ _ h => h) (by rfl) ?hy3_4 (by assumption) ?r3_4
                  case hy3_4 => (intro w hSw; (try dsimp only at hSw); first | (go_simp; done) | (go_simp; with_reducible rfl))
                  simp only [Act.put, List.setIfInBounds_toArray, List.set_cons_zero, List.set_cons_succ]
                  refine nextN 5 (by kernel_rfl) rfl (fun K hK => ?_)
                  go_simp
                  go_at_call 57; refine (l3Int_any _ _).mono ?_; rintro e wB ⟨rfl, hbB⟩; have HBD := Lib.hid (HBD.out.trans (hbB.mono HBD.out.size)); have HQD := Lib.hid (HQD.out.trans (hbB.mono HQD.out.size)); have HTD := Lib.hid (HTD.out.below hbB); have B8D := Lib.hid (B8D.out.below hbB); have BAD := Lib.hid (BAD.out.below hbB); have BRD := Lib.hid (BRD.out.below hbB); have B12 := Lib.hid (B12.out.below hbB); clear hbB
                  go_wp2_with fail
                  refine hK.out _ _ ?_ (fun hHeld => ?_)
                  · exact ⟨B12.out.2.1 0 _ rfl, B12.out.2.1 1 _ rfl⟩
                  clear hK K
                  refine takeN 6 (v := ?v3_6) rfl (by kernel_rfl) (by kernel_rfl) (by kernel_rfl) (fun _ _ _ h => h) (by rfl) ?hy3_6 (by assumption) ?r3_6
                  case hy3_6 => (intro w hSw; (try dsimp only at hSw); first | (go_simp; done) | (go_simp; with_reducible rfl))
                  simp only [Act.put, List.setIfInBounds_toArray, List.set_cons_zero, List.set_cons_succ]
                  try simp only [beq_self_eq_true, Bool.and_self, decide_true]
                  refine takeN 7 (v := ?v3_7) rfl (by kernel_rfl) (by kernel_rfl) (by kernel_rfl) (fun _ _ _ h => h) (by rfl) ?hy3_7 (by assumption) ?r3_7
                  case hy3_7 => (intro w hSw; (try dsimp only at hSw); first | (go_simp; done) | (go_simp; with_reducible rfl))
                  simp only [Act.put, List.setIfInBounds_toArray, List.set_cons_zero, List.set_cons_succ]
                  refine wpAnyH_done (by kernel_rfl) ?_ _
                  refine NoPanic.normal ?_
                  have HTN := Lib.hid HTD.out
                  rw [← HEQH.out] at HTN
                  have HQN := HQD
                  have B8N := B8D
                  clear HEQH HNX HPR HZC HROWI HEC HTD HTH B8H2 BAH BRH HBH HQH2
                  clear x1
                  go_wp2
                  go_roundw
                  case rel => exact ⟨i + 1, XA, RC, hI, by omega, by go_num, HYY, HTN.out, B8N.out, hA9, HQN.out⟩
                  case measure => simp [intOf]; omega
                · have hnz : aRV i k ≠ (0, 1) := fun h => hzz (by rw [HZC.out] at h; injection h with h1 h2; exact ⟨h1, h2⟩)
                  have HNXX := Lib.hid (HNX.out hir hnz)
                  have HPRR : Hid (Pl.pivRow aRV r k n i = Pl.scAll (aRV i) (Pl.ng va) vb (Pl.pivD aRV r k) n) := Lib.hid (by rw [HPR.out, decide_eq_false hir, decide_eq_false hnz]; rfl)
                  have HEX : Hid (va = 0 → ¬ vb = 1) := Lib.hid (fun h h2 => hzz ⟨h, h2⟩)
                  clear hsame hir hnz hzz HNX HPR HZC
                  go_upto_region 12 with fail
                  refine wp_region_noPanic ?_
                  refine wp_region_held_drew (S := (fun w' => w'.cell? ⟨wo.heap.size, 0, none⟩ = some (.int .i64 va) ∧ w'.cell? ⟨wo.heap.size, 1, none⟩ = some (.int .i64 vb))) (by kernel_rfl) ?_ (fun hHeld => ?_)
                  · exact ⟨B12.out.2.1 0 _ rfl, B12.out.2.1 1 _ rfl⟩
                  refine takeN 0 (v := ?v4_0) rfl (by kernel_rfl) (by kernel_rfl) (by kernel_rfl) (fun _ _ _ h => h) (by rfl) ?hy4_0 (by assumption) ?r4_0
                  case hy4_0 => (intro w hSw; (try dsimp only at hSw); first | (go_simp; done) | (go_simp; with_reducible rfl))
                  simp only [Act.put, List.setIfInBounds_toArray, List.set_cons_zero, List.set_cons_succ]
                  refine takeN 1 (v := ?v4_1) rfl (by kernel_rfl) (by kernel_rfl) (by kernel_rfl) (fun _ _ _ h => h) (by rfl) ?hy4_1 (by assumption) ?r4_1
                  case hy4_1 => (intro w hSw; (try dsimp only at hSw); first | (go_simp; done) | (go_simp; with_reducible rfl))
                  simp only [Act.put, List.setIfInBounds_toArray, List.set_cons_zero, List.set_cons_succ]
                  refine takeN 2 (v := ?v4_2) rfl (by kernel_rfl) (by kernel_rfl) (by kernel_rfl) (fun _ _ _ h => h) (by rfl) ?hy4_2 (by assumption) ?r4_2
                  case hy4_2 => (intro w hSw; (try dsimp only at hSw); first | (go_simp; done) | (go_simp; with_reducible rfl))
                  simp only [Act.put, List.setIfInBounds_toArray, List.set_cons_zero, List.set_cons_succ]
                  try simp only [dq]
                  refine takeN 3 (v := ?v4_3) rfl (by kernel_rfl) (by kernel_rfl) (by kernel_rfl) (fun _ _ _ h => h) (by rfl) ?hy4_3 (by assumption) ?r4_3
                  case hy4_3 => (intro w hSw; (try dsimp only at hSw); first | (go_simp; done) | (go_simp; with_reducible rfl))
                  simp only [Act.put, List.setIfInBounds_toArray, List.set_cons_zero, List.set_cons_succ]
                  refine takeN 4 (v := ?v4_4) rfl (by kernel_rfl) (by kernel_rfl) (by kernel_rfl) (fun _ _ _ h => h) (by rfl) ?hy4_4 (by assumption) ?r4_4
                  case hy4_4 => (intro w hSw; (try dsimp only at hSw); first | (go_simp; done) | (go_simp; with_reducible rfl))
                  simp only [Act.put, List.setIfInBounds_toArray, List.set_cons_zero, List.set_cons_succ]
                  refine nextN 5 (by kernel_rfl) rfl (fun K hK => ?_)
                  go_simp
                  go_at_call 57; refine (l3Int_any _ _).mono ?_; rintro e wB ⟨rfl, hbB⟩; have HBD := Lib.hid (HBD.out.trans (hbB.mono HBD.out.size)); have HQD := Lib.hid (HQD.out.trans (hbB.mono HQD.out.size)); have HTD := Lib.hid (HTD.out.below hbB); have B8D := Lib.hid (B8D.out.below hbB); have BAD := Lib.hid (BAD.out.below hbB); have BRD := Lib.hid (BRD.out.below hbB); have B12 := Lib.hid (B12.out.below hbB); clear hbB
                  go_wp2_with fail
                  refine hK.out _ _ ?_ (fun hHeld => ?_)
                  · exact ⟨B12.out.2.1 0 _ rfl, B12.out.2.1 1 _ rfl⟩
                  clear hK K
                  refine takeN 6 (v := .bool false) rfl (by kernel_rfl) (by kernel_rfl) (by kernel_rfl) (fun _ _ _ h => h) (by rfl) ?hy4_6 (by assumption) ?r4_6
                  case hy4_6 => (intro w hSw; (try dsimp only at hSw); go_simp; exact HEX.out)
                  simp only [Act.put, List.setIfInBounds_toArray, List.set_cons_zero, List.set_cons_succ]
                  refine takeN 7 (v := ?v4_7) rfl (by kernel_rfl) (by kernel_rfl) (by kernel_rfl) (fun _ _ _ h => h) (by rfl) ?hy4_7 (by assumption) ?r4_7
                  case hy4_7 => (intro w hSw; (try dsimp only at hSw); first | (go_simp; done) | (go_simp; with_reducible rfl))
                  simp only [Act.put, List.setIfInBounds_toArray, List.set_cons_zero, List.set_cons_succ]
                  refine wpAnyH_done (by kernel_rfl) ?_ _
                  refine NoPanic.normal ?_
                  have hrr := HRN.out r hr
                  have X1 : Hid (∀ wx, Below w1.heap.size w1 wx → wx.cell? ⟨b1, o1 + i, none⟩ = some (.slice (some ⟨b2, o2, none⟩) n d1)) := Lib.hid (fun wx H => ((H.cell (p := ⟨b1, o1 + i, none⟩) (by have := HB1.out.size; show b1 < _; omega)).trans (HQH2.out.cell (p := ⟨b1, o1 + i, none⟩) (by have := HB1.out.size; show b1 < _; omega)).symm).trans x1)
                  have CS := Lib.hid (fun wx (H : Below w.heap.size w wx) (T : OwnTab wx w1.heap.size hI (some ⟨bX, 0, none⟩) arn c XA aRN RC (Pl.pivI aRV r k i) (some ⟨bY, 0, none⟩) arn d aBV) => (show Calls Try.prog 64 #[.slice (some ⟨b2, o2, none⟩) n d1, .agg #[.int .i64 (Pl.ng va), .int .i64 vb], .slice A9 n c9] wx (OwnsSc (Pl.scAll (aRV i) (Pl.ng va) vb (Pl.pivD aRV r k) n) (Pl.scV (aRV i) (Pl.ng va) vb (Pl.pivD aRV r k)) n wx) from by
                    have hown := T.rows.rows.own r hr
                    rw [Pl.pivI_r, hrnr, hA9.1, hA9.2] at hown
                    have h := sSc_any (some ⟨b2, o2, none⟩) A9 n n d1 c9 wx.heap.size (aRV i) (Pl.pivD aRV r k) (Pl.ng va) vb wx (HROWI.out wx H) (RdP.of_own hown) (Nat.le_refl _) hn1 hn1
                    rwa [Pl.scOk_same'] at h))
                  unfold OwnsSc at CS
                  have hal1 := Lib.hid (fun h => Pl.allB_yes (q := Pl.pivRow aRV r k n) hal.out (HPRR.out.trans h))
                  have hal0 := Lib.hid (fun h => Pl.allB_no (q := Pl.pivRow aRV r k n) (n := arn) (HPRR.out.trans h) hlt)
                  have HVS : Hid (∀ j, Pl.pivI aRV r k (i + 1) j = if j = i then Pl.scV (aRV i) (Pl.ng va) vb (Pl.pivD aRV r k) else Pl.pivI aRV r k i j) := HNXX
                  generalize Pl.scAll (aRV i) (Pl.ng va) vb (Pl.pivD aRV r k) n = vv at CS hal1 hal0
                  generalize Pl.scV (aRV i) (Pl.ng va) vb (Pl.pivD aRV r k) = sV at CS HVS
                  have hri : ¬ r = i := fun h => by rw [h, beq_self_eq_true] at dq; cases dq
                  clear HPRR HNXX hrr HEX HROWI
                  have DB2 := (Below.refl wB.heap.size wB).drew
                  have HBD := Lib.hid (HBD.out.trans (DB2.mono HBD.out.size))
                  have HQD := Lib.hid (HQD.out.trans (DB2.mono HQD.out.size))
                  have HTD := Lib.hid (HTD.out.below DB2)
                  have B8D := Lib.hid (B8D.out.below DB2)
                  have BAD := Lib.hid (BAD.out.below DB2)
                  have BRD := Lib.hid (BRD.out.below DB2)
                  have B12 := Lib.hid (B12.out.below DB2)
                  have ngw : IntKind.i64.wrap (-va) = Pl.ng va := rfl
                  clear DB2
                  go_upto_region 13 with fail
                  refine wp_region_noPanic ?_
                  refine wp_region_held_drew (S := (fun w' => w'.cell? ⟨w.heap.size, 0, none⟩ = some (.slice (some ⟨b1, o1, none⟩) arn arc) ∧ w'.cell? ⟨b1, o1 + i, none⟩ = some (.slice (some ⟨b2, o2, none⟩) n d1) ∧ w'.cell? ⟨wo.heap.size, 0, none⟩ = some (.int .i64 va) ∧ w'.cell? ⟨wo.heap.size, 1, none⟩ = some (.int .i64 vb))) (by kernel_rfl) ?_ (fun hHeld => ?_)
                  · exact ⟨BAD.out.2.1 0 _ rfl, X1.out _ HQD.out, B12.out.2.1 0 _ rfl, B12.out.2.1 1 _ rfl⟩
                  refine takeN 0 (v := ?v5_0) rfl (by kernel_rfl) (by kernel_rfl) (by kernel_rfl) (fun _ _ _ h => h) (by rfl) ?hy5_0 (by assumption) ?r5_0
                  case hy5_0 => (intro w hSw; (try dsimp only at hSw); first | (go_simp; done) | (go_simp; with_reducible rfl))
                  simp only [Act.put, List.setIfInBounds_toArray, List.set_cons_zero, List.set_cons_succ]
                  refine takeN 1 (v := ?v5_1) rfl (by kernel_rfl) (by kernel_rfl) (by kernel_rfl) (fun _ _ _ h => h) (by rfl) ?hy5_1 (by assumption) ?r5_1
                  case hy5_1 => (intro w hSw; (try dsimp only at hSw); first | (go_simp; done) | (go_simp; with_reducible rfl))
                  simp only [Act.put, List.setIfInBounds_toArray, List.set_cons_zero, List.set_cons_succ]
                  refine takeN 2 (v := ?v5_2) rfl (by kernel_rfl) (by kernel_rfl) (by kernel_rfl) (fun _ _ _ h => h) (by rfl) ?hy5_2 (by assumption) ?r5_2
                  case hy5_2 => (intro w hSw; (try dsimp only at hSw); first | (go_simp; done) | (go_simp; with_reducible rfl))
                  simp only [Act.put, List.setIfInBounds_toArray, List.set_cons_zero, List.set_cons_succ]
                  refine takeN 3 (v := ?v5_3) rfl (by kernel_rfl) (by kernel_rfl) (by kernel_rfl) (fun _ _ _ h => h) (by rfl) ?hy5_3 (by assumption) ?r5_3
                  case hy5_3 => (intro w hSw; (try dsimp only at hSw); first | (go_simp; done) | (go_simp; with_reducible rfl))
                  simp only [Act.put, List.setIfInBounds_toArray, List.set_cons_zero, List.set_cons_succ]
                  refine takeN 4 (v := ?v5_4) rfl (by kernel_rfl) (by kernel_rfl) (by kernel_rfl) (fun _ _ _ h => h) (by rfl) ?hy5_4 (by assumption) ?r5_4
                  case hy5_4 => (intro w hSw; (try dsimp only at hSw); first | (go_simp; done) | (go_simp; with_reducible rfl))
                  simp only [Act.put, List.setIfInBounds_toArray, List.set_cons_zero, List.set_cons_succ]
                  refine takeN 5 (v := ?v5_5) rfl (by kernel_rfl) (by kernel_rfl) (by kernel_rfl) (fun _ _ _ h => h) (by rfl) ?hy5_5 (by assumption) ?r5_5
                  case hy5_5 => (intro w hSw; (try dsimp only at hSw); first | (go_simp; done) | (go_simp; with_reducible rfl))
                  simp only [Act.put, List.setIfInBounds_toArray, List.set_cons_zero, List.set_cons_succ]
                  refine takeN 6 (v := ?v5_6) rfl (by kernel_rfl) (by kernel_rfl) (by kernel_rfl) (fun _ _ _ h => h) (by rfl) ?hy5_6 (by assumption) ?r5_6
                  case hy5_6 => (intro w hSw; (try dsimp only at hSw); first | (go_simp; done) | (go_simp; with_reducible rfl))
                  simp only [Act.put, List.setIfInBounds_toArray, List.set_cons_zero, List.set_cons_succ]
                  refine takeN 7 (v := ?v5_7) rfl (by kernel_rfl) (by kernel_rfl) (by kernel_rfl) (fun _ _ _ h => h) (by rfl) ?hy5_7 (by assumption) ?r5_7
                  case hy5_7 => (intro w hSw; (try dsimp only at hSw); first | (go_simp; done) | (go_simp; with_reducible rfl))
                  simp only [Act.put, List.setIfInBounds_toArray, List.set_cons_zero, List.set_cons_succ]
                  try simp only [ngw]
                  refine takeN 8 (v := ?v5_8) rfl (by kernel_rfl) (by kernel_rfl) (by kernel_rfl) (fun _ _ _ h => h) (by rfl) ?hy5_8 (by assumption) ?r5_8
                  case hy5_8 => (intro w hSw; (try dsimp only at hSw); first | (go_simp; done) | (go_simp; with_reducible rfl))
                  simp only [Act.put, List.setIfInBounds_toArray, List.set_cons_zero, List.set_cons_succ]
                  refine takeN 9 (v := ?v5_9) rfl (by kernel_rfl) (by kernel_rfl) (by kernel_rfl) (fun _ _ _ h => h) (by rfl) ?hy5_9 (by assumption) ?r5_9
                  case hy5_9 => (intro w hSw; (try dsimp only at hSw); first | (go_simp; done) | (go_simp; with_reducible rfl))
                  simp only [Act.put, List.setIfInBounds_toArray, List.set_cons_zero, List.set_cons_succ]
                  refine takeN 10 (v := ?v5_10) rfl (by kernel_rfl) (by kernel_rfl) (by kernel_rfl) (fun _ _ _ h => h) (by rfl) ?hy5_10 (by assumption) ?r5_10
                  case hy5_10 => (intro w hSw; (try dsimp only at hSw); first | (go_simp; done) | (go_simp; with_reducible rfl))
                  simp only [Act.put, List.setIfInBounds_toArray, List.set_cons_zero, List.set_cons_succ]
                  refine takeN 11 (v := ?v5_11) rfl (by kernel_rfl) (by kernel_rfl) (by kernel_rfl) (fun _ _ _ h => h) (by rfl) ?hy5_11 (by assumption) ?r5_11
                  case hy5_11 => (intro w hSw; (try dsimp only at hSw); first | (go_simp; done) | (go_simp; with_reducible rfl))
                  simp only [Act.put, List.setIfInBounds_toArray, List.set_cons_zero, List.set_cons_succ]
                  refine nextN 12 (by kernel_rfl) rfl (fun K hK => ?_)
                  go_simp
                  go_at_call 64; refine (CS.out _ HBD.out HTD.out).mono ?_; rintro e wS ⟨vS, rfl, owS, hbM⟩; have HOS := Lib.hid owS; have HLS := Lib.hid HTD.out.le; have HLQ := Lib.hid HQD.out.size; have HBD := Lib.hid (HBD.out.trans (hbM.mono HBD.out.size)); have HQD := Lib.hid (HQD.out.trans (hbM.mono HQD.out.size)); have HTD := Lib.hid (HTD.out.below hbM); have B8D := Lib.hid (B8D.out.below hbM); have BAD := Lib.hid (BAD.out.below hbM); have BRD := Lib.hid (BRD.out.below hbM); have B12 := Lib.hid (B12.out.below hbM); clear hbM owS
                  go_wp2_with fail
                  refine hK.out _ _ ?_ (fun hHeld => ?_)
                  · exact ⟨BAD.out.2.1 0 _ rfl, X1.out _ HQD.out, B12.out.2.1 0 _ rfl, B12.out.2.1 1 _ rfl⟩
                  clear hK K
                  refine takeN 13 (v := ?v5_13) rfl (by kernel_rfl) (by kernel_rfl) (by kernel_rfl) (fun _ _ _ h => h) (by rfl) ?hy5_13 (by assumption) ?r5_13
                  case hy5_13 => (intro w hSw; (try dsimp only at hSw); first | (go_simp; done) | (go_simp; with_reducible rfl))
                  simp only [Act.put, List.setIfInBounds_toArray, List.set_cons_zero, List.set_cons_succ]
                  refine takeN 14 (v := ?v5_14) rfl (by kernel_rfl) (by kernel_rfl) (by kernel_rfl) (fun _ _ _ h => h) (by rfl) ?hy5_14 (by assumption) ?r5_14
                  case hy5_14 => (intro w hSw; (try dsimp only at hSw); first | (go_simp; done) | (go_simp; with_reducible rfl))
                  simp only [Act.put, List.setIfInBounds_toArray, List.set_cons_zero, List.set_cons_succ]
                  refine takeN 15 (v := ?v5_15) rfl (by kernel_rfl) (by kernel_rfl) (by kernel_rfl) (fun _ _ _ h => h) (by rfl) ?hy5_15 (by assumption) ?r5_15
                  case hy5_15 => (intro w hSw; (try dsimp only at hSw); first | (go_simp; done) | (go_simp; with_reducible rfl))
                  simp only [Act.put, List.setIfInBounds_toArray, List.set_cons_zero, List.set_cons_succ]
                  refine takeN 16 (v := ?v5_16) rfl (by kernel_rfl) (by kernel_rfl) (by kernel_rfl) (fun _ _ _ h => h) (by rfl) ?hy5_16 (by assumption) ?r5_16
                  case hy5_16 => (intro w hSw; (try dsimp only at hSw); first | (go_simp; done) | (go_simp; with_reducible rfl))
                  simp only [Act.put, List.setIfInBounds_toArray, List.set_cons_zero, List.set_cons_succ]
                  refine takeN 17 (v := ?v5_17) rfl (by kernel_rfl) (by kernel_rfl) (by kernel_rfl) (fun _ _ _ h => h) (by rfl) ?hy5_17 (by assumption) ?r5_17
                  case hy5_17 => (intro w hSw; (try dsimp only at hSw); first | (go_simp; done) | (go_simp; with_reducible rfl))
                  simp only [Act.put, List.setIfInBounds_toArray, List.set_cons_zero, List.set_cons_succ]
                  refine wpAnyH_done (by kernel_rfl) ?_ _
                  refine NoPanic.normal ?_
                  cases vv
                  · have HFF := Lib.hid (HDA.out.trans (hal0.out rfl))
                    have BA := BAD.out
                    have BR := BRD.out
                    have HB := HBD.out
                    clear hal1 hal0 CS HVS BAD BRD x1
                    have x0 := BA.2.1 0 _ rfl
                    have x1 := BA.2.1 1 _ rfl
                    have x2 := BA.2.1 2 _ rfl
                    have hzl := BR.1
                    go_wp2_with fail
                    refine (CL.out _ HB).mono ?_
                    rintro e wf ⟨XF, cF, AF, CF, YF, dF, hF, rfl, TF, hbF⟩
                    have BR := BR.below hbF
                    have HB := HB.trans (hbF.mono HB.size)
                    clear hbF x0 x1 x2 BA
                    have r0 := BR.2.1 0 _ rfl
                    have r1 := BR.2.1 1 _ rfl
                    have r2 := BR.2.1 2 _ rfl
                    have rz := BR.1
                    have rf := BR.2.2
                    have BR := BR.set (k := 0) (by simp) (.slice XF arn cF)
                    have TF := OwnTab.set TF (a := ⟨w.heap.size + 1, 0, none⟩) (by show w.heap.size + 1 < _; have := hzl; omega) (.slice XF arn cF)
                    have HB := HB.setCell (p := ⟨w.heap.size + 1, 0, none⟩) (by show w.heap.size ≤ w.heap.size + 1; omega) (.slice XF arn cF)
                    have BR := BR.set (k := 1) (by simp) (.slice YF arn dF)
                    have TF := OwnTab.set TF (a := ⟨w.heap.size + 1, 1, none⟩) (by show w.heap.size + 1 < _; have := hzl; omega) (.slice YF arn dF)
                    have HB := HB.setCell (p := ⟨w.heap.size + 1, 1, none⟩) (by show w.heap.size ≤ w.heap.size + 1; omega) (.slice YF arn dF)
                    have BR := BR.set (k := 2) (by simp) (.int .i64 m)
                    have TF := OwnTab.set TF (a := ⟨w.heap.size + 1, 2, none⟩) (by show w.heap.size + 1 < _; have := hzl; omega) (.int .i64 m)
                    have HB := HB.setCell (p := ⟨w.heap.size + 1, 2, none⟩) (by show w.heap.size ≤ w.heap.size + 1; omega) (.int .i64 m)
                    have f0 := BR.2.1 0 _ rfl
                    have f1 := BR.2.1 1 _ rfl
                    have f2 := BR.2.1 2 _ rfl
                    have HBB := Lib.hid HB
                    have OTT := Lib.hid TF
                    have HLL := Lib.hid (Nat.le_of_lt (Nat.lt_trans (Nat.lt_succ_self _) hzl))
                    clear HB BR TF
                    go_wp2
                    refine bodyPost_ret (v := .tuple #[.agg #[.slice XF arn cF, .slice YF arn dF, .int .i64 m], .bool false]) (by simp [results, Try.results34, go_sem, f0, f1, f2]) rfl (tp_no HFF.out OTT.out HLL.out HBB.out)
                  · have HYY := Lib.hid (hal1.out rfl)
                    obtain ⟨AS, cS, rfl⟩ := own_form HOS.out
                    have b80 := B8D.out.2.1 0 _ rfl
                    obtain ⟨⟨u0, y0⟩, f0⟩ := own_cell (i := i) HTD.out.rows.outer (by omega) (by omega)
                    have HTN := Lib.hid (HTD.out.setRow (i := i) (A := AS) (c1 := cS) (V := sV) hlt rfl (by rw [hrni]; exact HOS.out) HLS.out HLQ.out (RV2 := Pl.pivI aRV r k (i + 1)) HVS.out)
                    rw [hrni] at HTN
                    have B8N := Lib.hid (B8D.out.other (b := bX) (k := i) (by omega) (.slice AS n cS))
                    have HQN := Lib.hid (HQD.out.setCell (p := ⟨bX, i, none⟩) hXl (.slice AS n cS))
                    have HA9N : (if r = i then AS else XA r) = A9 ∧ (if r = i then cS else RC r) = c9 := by
                      rw [if_neg hri, if_neg hri]
                      exact hA9
                    clear hal1 hal0 CS HVS BAD BRD HTD B8D HQD HBD HOS x1
                    go_wp2
                    go_roundw
                    case rel => exact ⟨i + 1, _, _, _, by omega, by go_num, HYY, HTN.out, B8N.out, HA9N, HQN.out⟩
                    case measure => simp [intOf]; omega
            · obtain rfl : arn = i := by omega
              have HOK := Lib.hid (HDA.out.trans hal.out)
              have HT2 := Lib.hid (hT.congr (RV2 := Pl.pivV aRV r k) (BV2 := aBV) (fun q hq _ _ => by unfold Pl.pivI; rw [if_pos hq]) (fun _ _ => rfl))
              obtain ⟨⟨u0, y0⟩, f0⟩ := own_cell (i := r) HT2.out.basis (by omega) (by omega)
              have b81 := B8.2.1 1 _ rfl
              have x0 := BA.2.1 0 _ rfl
              have HT4 := Lib.hid (HT2.out.setBasis (k := r) rfl (k : Int) (BV2 := Pl.pivB aBV r (k : Int)) (fun _ => rfl))
              have B84 := B8.other (b := bY) (k := r) (by omega) (.int .i64 k)
              have BR := BR.other (b := bY) (k := r) (by have := BR1.out.1; omega) (.int .i64 k)
              have HB := hb.setCell (p := ⟨bY, r, none⟩) (by show w.heap.size ≤ bY; omega) (.int .i64 k)
              have z0 := B84.2.1 0 _ rfl
              have z1 := B84.2.1 1 _ rfl
              have z2 := B84.2.1 2 _ rfl
              have r0 := BR.2.1 0 _ rfl
              have r1 := BR.2.1 1 _ rfl
              have r2 := BR.2.1 2 _ rfl
              have rz := BR.1
              have rf := BR.2.2
              have hT := HT4.out
              have hzl := BR1.out.1
              clear hb BA B8 B84 hQ HT4
              have BR := BR.set (k := 0) (by simp) (.slice (some ⟨bX, 0, none⟩) arn c)
              have hT := OwnTab.set hT (a := ⟨w.heap.size + 1, 0, none⟩) (by show w.heap.size + 1 < _; have := hzl; omega) (.slice (some ⟨bX, 0, none⟩) arn c)
              have HB := HB.setCell (p := ⟨w.heap.size + 1, 0, none⟩) (by show w.heap.size ≤ w.heap.size + 1; omega) (.slice (some ⟨bX, 0, none⟩) arn c)
              have BR := BR.set (k := 1) (by simp) (.slice (some ⟨bY, 0, none⟩) arn d)
              have hT := OwnTab.set hT (a := ⟨w.heap.size + 1, 1, none⟩) (by show w.heap.size + 1 < _; have := hzl; omega) (.slice (some ⟨bY, 0, none⟩) arn d)
              have HB := HB.setCell (p := ⟨w.heap.size + 1, 1, none⟩) (by show w.heap.size ≤ w.heap.size + 1; omega) (.slice (some ⟨bY, 0, none⟩) arn d)
              have BR := BR.set (k := 2) (by simp) (.int .i64 m)
              have hT := OwnTab.set hT (a := ⟨w.heap.size + 1, 2, none⟩) (by show w.heap.size + 1 < _; have := hzl; omega) (.int .i64 m)
              have HB := HB.setCell (p := ⟨w.heap.size + 1, 2, none⟩) (by show w.heap.size ≤ w.heap.size + 1; omega) (.int .i64 m)
              have f0 := BR.2.1 0 _ rfl
              have f1 := BR.2.1 1 _ rfl
              have f2 := BR.2.1 2 _ rfl
              have HBB := Lib.hid HB
              have OTT := Lib.hid hT
              have HLL := Lib.hid (show w.heap.size ≤ w1.heap.size by omega)
              clear HB BR hT
              go_wp2
              refine bodyPost_ret (v := .tuple #[.agg #[.slice (some ⟨bX, 0, none⟩) arn c, .slice (some ⟨bY, 0, none⟩) arn d, .int .i64 m], .bool true]) (by simp [results, Try.results34, go_sem, f0, f1, f2]) rfl (tp_yes HOK.out OTT.out HLL.out HBB.out)

end Go.Proofs.Ytajafmdeencohaa
