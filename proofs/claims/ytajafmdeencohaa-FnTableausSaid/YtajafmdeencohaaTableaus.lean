/-
  The law FnTableaus walked: it returns true.
-/
import Derived.Test.YtajafmdeencohaaTabs0
namespace Go.Proofs.Ytajafmdeencohaa
open Go.RowKit
attribute [local go_sem ↓] Go.wp_at_zero Go.wp_at_succ

set_option maxRecDepth 40000 in
set_option maxHeartbeats 8000000 in
theorem fnTableaus_walk {w : World} (A : Option Addr) (n c' : Nat) (_ : n ≤ maxLen) (hr : RdB w w.heap.size A n) :
    Calls Try.prog 9 #[.slice A n c'] w fun e w' => e = .returned (.bool true) ∧ Below w.heap.size w w' := by
  by_cases hbig : (1048576 : Int) < (n : Int)
  · go_enter Try.func9, Try.ntmps9
    go_wp2_with fail
    refine (big_yes _ _ _ _ hbig).mono ?_
    rintro e _ ⟨rfl, rfl⟩
    go_wp2
    go_ret
    exact ⟨rfl, Below.refl _ _⟩
  have DP := Lib.hid (drawPiv_any A n c' w (by omega) hr)
  have DS := Lib.hid (fun w' (h : Below w.heap.size w w') => drawStart_any A n c' w' (by omega) (hr.up h))
  have DC := Lib.hid (fun w' (h : Below w.heap.size w w') => drawCost_any A n c' w' (by omega) (hr.up h))
  have DV := Lib.hid (fun w' (h : Below w.heap.size w w') => drawSol_any A n c' w' (by omega) (hr.up h))
  have HBIG := Lib.hid hbig
  clear hr hbig
  go_enter Try.func9, Try.ntmps9
  go_wp2_with fail
  refine (big_no _ _ _ _ (by have := HBIG.out; omega)).mono ?_
  rintro e _ ⟨rfl, rfl⟩
  go_wp2_with fail
  refine DP.out.mono ?_
  rintro e w1 ⟨_, row, col, rfl, ⟨R0, Bs, rn, rc, bn, bc, cols, RA, RN, RC, RV, BV, h1, h2, h3, h4, h5, h6, rfl, hnil, arr, abb⟩, H⟩
  have H3 : Hid (∀ j, j < rn → RN j ≤ 1048576) := Lib.hid (fun j hj => by have := h3 j hj; omega)
  have HRN : Hid (∀ j, j < rn → RN j ≤ 16) := Lib.hid h3
  obtain ⟨ok, hok⟩ : ∃ ok, ok = Pl.pivOk cols rn RN bn BV RV row col := ⟨_, rfl⟩
  have IC := Lib.hid (fun wx (h : Below w1.heap.size w1 wx) => iPivot_any R0 Bs rn rc bn bc cols RA RN RC RV BV row col _ wx (arr.below h (Nat.le_refl _)) (abb.below h) h.size (by omega) H3.out (by omega) hnil.1 hnil.2)
  have SC := Lib.hid (fun wx (h : Below w1.heap.size w1 wx) => sPivot_any R0 Bs rn rc bn bc cols RA RN RC RV BV row col _ wx (arr.below h (Nat.le_refl _)) (abb.below h) h.size (by omega) H3.out (by omega) hnil.1 hnil.2)
  unfold OwnsTP at SC IC
  rw [← hok] at SC IC
  obtain ⟨SV, hSV⟩ : ∃ SV, SV = (if ok = true then Pl.pivV RV row.toNat col.toNat else RV) := ⟨_, rfl⟩
  obtain ⟨SB, hSB⟩ : ∃ SB, SB = (if ok = true then Pl.pivB BV row.toNat col else BV) := ⟨_, rfl⟩
  rw [← hSV, ← hSB] at SC IC
  have UNIT := Lib.hid (fun h => Pl.unit_at hok hSV h)
  clear hok hSV hSB arr abb hnil h3 DP
  have H1 := (Below.refl w1.heap.size w1).alloc (Nat.le_refl _) (.cells #[.slice R0 rn rc, .slice Bs bn bc, .int .i64 cols] 30)
  have H := H.trans (H1.mono H.size)
  have BT := Bx.new w1 #[.slice R0 rn rc, .slice Bs bn bc, .int .i64 cols] 30
  go_wp2_with fail
  refine (IC.out _ H1).mono ?_
  rintro e w2 ⟨GX, Gc, GA, GC, GY, Gd, Gh, rfl, GO, hb⟩
  have BT := BT.below hb
  have H := H.trans (hb.mono H.size)
  have H1 := H1.trans (hb.mono H1.size)
  clear hb IC
  have x0 := BT.2.1 0 _ rfl
  have x1 := BT.2.1 1 _ rfl
  have x2 := BT.2.1 2 _ rfl
  have xz := BT.1
  go_wp2_with fail
  have hb := (Below.refl w2.heap.size w2).alloc (Nat.le_refl _) (.cells #[.slice GX rn Gc, .slice GY bn Gd, .int .i64 cols] 30)
  have H := H.trans (hb.mono H.size)
  have H1 := H1.trans (hb.mono H1.size)
  have GO := GO.below hb
  have BG := Bx.new w2 #[.slice GX rn Gc, .slice GY bn Gd, .int .i64 cols] 30
  clear hb BT
  refine (SC.out _ H1).mono ?_
  rintro e w3 ⟨WX, Wc, WA, WC, WY, Wd, Wh, rfl, WO, hb⟩
  have BG := BG.below hb
  have H := H.trans (hb.mono H.size)
  have GO := GO.below hb
  clear hb SC x0 x1 x2 xz H1
  have y0 := BG.2.1 0 _ rfl
  have y1 := BG.2.1 1 _ rfl
  have y2 := BG.2.1 2 _ rfl
  have yz := BG.1
  go_wp2_with fail
  have hb := (Below.refl w3.heap.size w3).alloc (Nat.le_refl _) (.cells #[.slice WX rn Wc, .slice WY bn Wd, .int .i64 cols] 30)
  have H := H.trans (hb.mono H.size)
  have GO := GO.below hb
  have WO := WO.below hb
  have BG := BG.below hb
  clear hb
  refine (iEqTab_any GX GY rn Gc bn Gd cols GA RN GC SV SB WX WY rn Wc bn Wd cols WA RN WC SV SB _ _ GO.rows_at GO.basis_at WO.rows_at WO.basis_at (Nat.le_refl _) (by omega) H3.out (by omega) (by omega) H3.out (by omega)).mono ?_
  rintro e w4 ⟨rfl, hb⟩
  rw [Pl.eqTab_self]
  have BG := BG.below hb
  have H := H.trans (hb.mono H.size)
  have GO := GO.below hb
  clear hb WO y0 y1 y2 yz
  have BGH := Lib.hid BG
  have HH := Lib.hid H
  have GOH := Lib.hid GO
  clear BG H GO
  go_wp2
  go_loopw [10] (fun u wr => ∃ j : Nat, j ≤ rn ∧ u = .int .i64 j ∧ Below w4.heap.size w4 wr) (fun u _ => rn - (intOf u).toNat)
  case atStart => exact ⟨0, Nat.zero_le _, rfl, Below.refl _ _⟩
  case round =>
    obtain ⟨j, hj, rfl, hb⟩ := hrel
    have BG := BGH.out.below hb
    have y0 := BG.2.1 0 _ rfl
    have yz := BG.1
    by_cases hlt : j < rn
    · have j0 : (0 : Int) ≤ (j : Int) := by omega
      have j1 : (j : Int) < (rn : Int) := by omega
      cases ok
      · have H := HH.out.trans (hb.mono HH.out.size)
        clear BG hb
        go_wp2_with fail
        refine (DS.out _ H).mono ?_
        rintro e wp ⟨_, rfl, ⟨PA0, PB0, PC0, pm, pbn, pn, pca, pcb, pcc, PRA, PRN, PRC, PRV, PBV, PCV, p1, p2, p3, p4, rfl, prr, pbb, pcr⟩, hb⟩
        have H := H.trans (hb.mono H.size)
        clear hb
        have P2 : Hid (∀ j, j < pm → PRN j ≤ 1048576) := Lib.hid (fun j hj => by have := p2 j hj; omega)
        have PI := Lib.hid (fun wx (h : Below wp.heap.size wp wx) => iStart_any PA0 PB0 PC0 pm pca pbn pcb pn pcc PRA PRN PRC PRV PBV PCV _ wx (prr.below h (Nat.le_refl _)) (pbb.below h) (pcr.below h (Nat.le_refl _)) h.size (by omega) P2.out (by omega) (by omega))
        have PS := Lib.hid (fun wx (h : Below wp.heap.size wp wx) => sStart_any PA0 PB0 PC0 pm pca pbn pcb pn pcc PRA PRN PRC PRV PBV PCV _ wx (prr.below h (Nat.le_refl _)) (pbb.below h) (pcr.below h (Nat.le_refl _)) h.size (by omega) P2.out (by omega) (by omega))
        unfold OwnsTab at PI PS
        obtain ⟨nn, hm⟩ : ∃ nn, nn = (if Pl.validLP pn pm PRN PRV pbn PBV PCV = true then pm else 0) := ⟨_, rfl⟩
        have hnn : nn ≤ 16 := by
          rw [hm]
          split <;> omega
        rw [← hm] at PI PS
        clear hm
        generalize (if Pl.validLP pn pm PRN PRV pbn PBV PCV = true then (pn : Int) else 0) = ncols at PI PS
        generalize Pl.startV pn pm PRV PBV = NV at PI PS
        generalize Pl.startB pn = NB at PI PS
        have HP := (Below.refl wp.heap.size wp).alloc (Nat.le_refl _) (.cells #[.slice PA0 pm pca, .slice PB0 pbn pcb, .slice PC0 pn pcc] 53)
        have H := H.trans (HP.mono H.size)
        have BP := Bx.new wp #[.slice PA0 pm pca, .slice PB0 pbn pcb, .slice PC0 pn pcc] 53
        clear prr pbb pcr p2
        go_wp2_with fail
        refine (DC.out _ H).mono ?_
        rintro e wc ⟨_, CA, cn, cc, CV, rfl, ⟨UR0, UBs, urn, urc, ubn, ubc, ucols, URA, URN, URC, URV, UBV, u1, u2, u3, u4, u5, u6, rfl, unil, urr, ubb⟩, c19, crd, cnil, hb⟩
        have BP := BP.below hb
        have HP := HP.trans (hb.mono HP.size)
        have H := H.trans (hb.mono H.size)
        clear hb unil
        have U3 : Hid (∀ j, j < urn → URN j ≤ 1048576) := Lib.hid (fun j hj => by have := u3 j hj; omega)
        have CI := Lib.hid (fun wx (h : Below wc.heap.size wc wx) => iCost_any UR0 UBs urn urc ubn ubc ucols URA URN URC URV UBV CA cn cc CV _ wx (urr.below h (Nat.le_refl _)) (ubb.below h) (crd.below h (Nat.le_refl _)) h.size (by omega) U3.out (by omega) (by omega) cnil)
        have CS := Lib.hid (fun wx (h : Below wc.heap.size wc wx) => sCost_any UR0 UBs urn urc ubn ubc ucols URA URN URC URV UBV CA cn cc CV _ wx (urr.below h (Nat.le_refl _)) (ubb.below h) (crd.below h (Nat.le_refl _)) h.size (by omega) U3.out (by omega) cnil)
        unfold OwnsSc at CI CS
        generalize Pl.costOk ucols urn URN ubn UBV URV cn CV = okc at CI CS
        generalize Pl.costV CV UBV URV cn urn = QV at CI CS
        obtain ⟨qn, hq⟩ : ∃ qn, qn = (if okc = true then cn + 1 else 0) := ⟨_, rfl⟩
        have hqn : qn ≤ 20 := by
          rw [hq]
          split <;> omega
        rw [← hq] at CI CS
        clear hq urr ubb crd cnil u3
        have HC := (Below.refl wc.heap.size wc).alloc (Nat.le_refl _) (.cells #[.slice UR0 urn urc, .slice UBs ubn ubc, .int .i64 ucols] 30)
        have BP := BP.below HC
        have HP := HP.trans (HC.mono HP.size)
        have H := H.trans (HC.mono H.size)
        have BU := Bx.new wc #[.slice UR0 urn urc, .slice UBs ubn ubc, .int .i64 ucols] 30
        go_wp2_with fail
        refine (CI.out _ HC).mono ?_
        rintro e wd ⟨v1, rfl, O1, hb⟩
        have BP := BP.below hb
        have BU := BU.below hb
        have HP := HP.trans (hb.mono HP.size)
        have H := H.trans (hb.mono H.size)
        have HC := HC.trans (hb.mono HC.size)
        clear hb CI
        have x0 := BU.2.1 0 _ rfl
        have x1 := BU.2.1 1 _ rfl
        have x2 := BU.2.1 2 _ rfl
        have xz := BU.1
        go_wp2_with fail
        refine (CS.out _ HC).mono ?_
        rintro e we ⟨v2, rfl, O2, hb⟩
        have BP := BP.below hb
        have O1 := own_below O1 hb
        have HP := HP.trans (hb.mono HP.size)
        have H := H.trans (hb.mono H.size)
        clear hb CS HC BU x0 x1 x2 xz
        obtain ⟨QA1, qc1, rfl⟩ := own_form O1
        obtain ⟨QA2, qc2, rfl⟩ := own_form O2
        go_wp2_with fail
        refine (DV.out _ H).mono ?_
        rintro e wv ⟨_, rfl, ⟨VR0, VBs, vrn, vrc, vbn, vbc, vcols, VRA, VRN, VRC, VRV, VBV, v1, v2, v3, v4, v5, v6, rfl, vnil, vrr, vbb⟩, hb⟩
        have BP := BP.below hb
        have O1 := own_below O1 hb
        have O2 := own_below O2 hb
        have HP := HP.trans (hb.mono HP.size)
        have H := H.trans (hb.mono H.size)
        clear hb vnil
        have V3 : Hid (∀ j, j < vrn → VRN j ≤ 1048576) := Lib.hid (fun j hj => by have := v3 j hj; omega)
        have VI := Lib.hid (fun wx (h : Below wv.heap.size wv wx) => iSol_any VR0 VBs vrn vrc vbn vbc vcols VRA VRN VRC VRV VBV _ wx (vrr.below h (Nat.le_refl _)) (vbb.below h) h.size (by omega) (by omega))
        have VS := Lib.hid (fun wx (h : Below wv.heap.size wv wx) => sSol_any VR0 VBs vrn vrc vbn vbc vcols VRA VRN VRC VRV VBV _ wx (vrr.below h (Nat.le_refl _)) (vbb.below h) h.size (by omega) V3.out)
        unfold OwnsSol at VI VS
        obtain ⟨sn, hs⟩ : ∃ sn, sn = solN (Pl.form vcols vrn VRN vbn VBV) vcols vrn := ⟨_, rfl⟩
        have hsn : sn ≤ 32 := by
          rw [hs, solN]
          split <;> omega
        rw [← hs] at VI VS
        generalize solAt VBV VRV (vcols.toNat + vrn) vrn = XV at VI VS
        clear hs vrr vbb v3
        have HV := (Below.refl wv.heap.size wv).alloc (Nat.le_refl _) (.cells #[.slice VR0 vrn vrc, .slice VBs vbn vbc, .int .i64 vcols] 30)
        have BP := BP.below HV
        have O1 := own_below O1 HV
        have O2 := own_below O2 HV
        have HP := HP.trans (HV.mono HP.size)
        have H := H.trans (HV.mono H.size)
        have BV2 := Bx.new wv #[.slice VR0 vrn vrc, .slice VBs vbn vbc, .int .i64 vcols] 30
        have BPH := Lib.hid BP
        have O1H := Lib.hid O1
        have O2H := Lib.hid O2
        have HPH := Lib.hid HP
        have HH := Lib.hid H
        have HVH := Lib.hid HV
        have BV2H := Lib.hid BV2
        clear BP O1 O2 HP H HV BV2 DS DC DV
        go_upto_region 19 with fail
        have BP := BPH.out
        have O1 := O1H.out
        have O2 := O2H.out
        have HP := HPH.out
        have H := HH.out
        have HV := HVH.out
        have BV2 := BV2H.out
        clear BPH O1H O2H HPH HH HVH BV2H
        have hb := (Below.refl (wv.alloc (.cells #[.slice VR0 vrn vrc, .slice VBs vbn vbc, .int .i64 vcols] 30)).heap.size (wv.alloc (.cells #[.slice VR0 vrn vrc, .slice VBs vbn vbc, .int .i64 vcols] 30))).drew
        have BP := BP.below hb
        have BV2 := BV2.below hb
        have O1 := own_below O1 hb
        have O2 := own_below O2 hb
        have HP := HP.trans (hb.mono HP.size)
        have HV := HV.trans (hb.mono HV.size)
        have H := H.trans (hb.mono H.size)
        clear hb
        refine wp_region_noPanic ?_
        refine wp_region_held_drew (S := (fun w' => w'.cell? ⟨wp.heap.size, 0, none⟩ = some (.slice PA0 pm pca) ∧ w'.cell? ⟨wp.heap.size, 1, none⟩ = some (.slice PB0 pbn pcb) ∧ w'.cell? ⟨wp.heap.size, 2, none⟩ = some (.slice PC0 pn pcc) ∧ w'.cell? ⟨wv.heap.size, 0, none⟩ = some (.slice VR0 vrn vrc) ∧ w'.cell? ⟨wv.heap.size, 1, none⟩ = some (.slice VBs vbn vbc) ∧ w'.cell? ⟨wv.heap.size, 2, none⟩ = some (.int .i64 vcols))) (by kernel_rfl) ?_ (fun hHeld => ?_)
        · exact ⟨BP.2.1 0 _ rfl, BP.2.1 1 _ rfl, BP.2.1 2 _ rfl, BV2.2.1 0 _ rfl, BV2.2.1 1 _ rfl, BV2.2.1 2 _ rfl⟩
        refine takeN 0 (v := ?v1) rfl (by kernel_rfl) (by kernel_rfl) (by kernel_rfl) (fun _ _ _ h => h) (by rfl) ?hy1 (by assumption) ?r1
        case hy1 => (intro w hSw; (try dsimp only at hSw); first | (go_simp; done) | (go_simp; with_reducible rfl))
        simp only [Act.put, List.setIfInBounds_toArray, List.set_cons_zero, List.set_cons_succ]
        refine takeN 2 (v := ?v2) rfl (by kernel_rfl) (by kernel_rfl) (by kernel_rfl) (fun _ _ _ h => h) (by rfl) ?hy2 (by assumption) ?r2
        case hy2 => (intro w hSw; (try dsimp only at hSw); first | (go_simp; done) | (go_simp; with_reducible rfl))
        simp only [Act.put, List.setIfInBounds_toArray, List.set_cons_zero, List.set_cons_succ]
        refine nextN 1 (by kernel_rfl) rfl (fun K hK => ?_)
        go_simp
        go_at_call 30; refine (PI.out _ HP).mono ?_; rintro e wA ⟨X1, c1, XA1, XC1, Y1, d1, hi1, rfl, T1, hb⟩; have BP := BP.below hb; have BV2 := BV2.below hb; have O1 := own_below O1 hb; have O2 := own_below O2 hb; have HP := HP.trans (hb.mono HP.size); have HV := HV.trans (hb.mono HV.size); have H := H.trans (hb.mono H.size); clear hb
        go_wp2_with fail
        refine hK.out _ _ ?_ (fun hHeld => ?_)
        · exact ⟨BP.2.1 0 _ rfl, BP.2.1 1 _ rfl, BP.2.1 2 _ rfl, BV2.2.1 0 _ rfl, BV2.2.1 1 _ rfl, BV2.2.1 2 _ rfl⟩
        clear hK K
        refine nextN 3 (by kernel_rfl) rfl (fun K hK => ?_)
        go_simp
        go_at_call 28; refine (PS.out _ HP).mono ?_; rintro e wB ⟨X2, c2, XA2, XC2, Y2, d2, hi2, rfl, T2, hb⟩; have BP := BP.below hb; have BV2 := BV2.below hb; have O1 := own_below O1 hb; have O2 := own_below O2 hb; have HP := HP.trans (hb.mono HP.size); have HV := HV.trans (hb.mono HV.size); have H := H.trans (hb.mono H.size); have T1 := T1.below hb; clear hb
        go_wp2_with fail
        refine hK.out _ _ ?_ (fun hHeld => ?_)
        · exact ⟨BP.2.1 0 _ rfl, BP.2.1 1 _ rfl, BP.2.1 2 _ rfl, BV2.2.1 0 _ rfl, BV2.2.1 1 _ rfl, BV2.2.1 2 _ rfl⟩
        clear hK K
        refine nextN 4 (by kernel_rfl) rfl (fun K hK => ?_)
        go_simp
        go_at_call 13; refine (iEqTab_any X1 Y1 nn c1 nn d1 ncols XA1 _ XC1 NV NB X2 Y2 nn c2 nn d2 ncols XA2 _ XC2 NV NB _ _ T1.rows_at T1.basis_at T2.rows_at T2.basis_at (Nat.le_refl _) (by omega) (fun _ _ => by omega) (by omega) (by omega) (fun _ _ => by omega) (by omega)).mono ?_; rintro e wC ⟨rfl, hb⟩; rw [Pl.eqTab_self]; have BP := BP.below hb; have BV2 := BV2.below hb; have O1 := own_below O1 hb; have O2 := own_below O2 hb; have HP := HP.trans (hb.mono HP.size); have HV := HV.trans (hb.mono HV.size); have H := H.trans (hb.mono H.size); clear hb T1 T2
        go_wp2_with fail
        refine hK.out _ _ ?_ (fun hHeld => ?_)
        · exact ⟨BP.2.1 0 _ rfl, BP.2.1 1 _ rfl, BP.2.1 2 _ rfl, BV2.2.1 0 _ rfl, BV2.2.1 1 _ rfl, BV2.2.1 2 _ rfl⟩
        clear hK K
        refine takeN 5 (v := ?v3) rfl (by kernel_rfl) (by kernel_rfl) (by kernel_rfl) (fun _ _ _ h => h) (by rfl) ?hy3 (by assumption) ?r3
        case hy3 => (intro w hSw; (try dsimp only at hSw); first | (go_simp; done) | (go_simp; with_reducible rfl))
        simp only [Act.put, List.setIfInBounds_toArray, List.set_cons_zero, List.set_cons_succ]
        refine takeN 6 (v := ?v4) rfl (by kernel_rfl) (by kernel_rfl) (by kernel_rfl) (fun _ _ _ h => h) (by rfl) ?hy4 (by assumption) ?r4
        case hy4 => (intro w hSw; (try dsimp only at hSw); first | (go_simp; done) | (go_simp; with_reducible rfl))
        simp only [Act.put, List.setIfInBounds_toArray, List.set_cons_zero, List.set_cons_succ]
        refine takeN 7 (v := ?v5) rfl (by kernel_rfl) (by kernel_rfl) (by kernel_rfl) (fun _ _ _ h => h) (by rfl) ?hy5 (by assumption) ?r5
        case hy5 => (intro w hSw; (try dsimp only at hSw); first | (go_simp; done) | (go_simp; with_reducible rfl))
        simp only [Act.put, List.setIfInBounds_toArray, List.set_cons_zero, List.set_cons_succ]
        refine takeN 8 (v := ?v6) rfl (by kernel_rfl) (by kernel_rfl) (by kernel_rfl) (fun _ _ _ h => h) (by rfl) ?hy6 (by assumption) ?r6
        case hy6 => (intro w hSw; (try dsimp only at hSw); first | (go_simp; done) | (go_simp; with_reducible rfl))
        simp only [Act.put, List.setIfInBounds_toArray, List.set_cons_zero, List.set_cons_succ]
        try simp only [beq_self_eq_true, decide_true]
        refine takeN 9 (v := ?v7) rfl (by kernel_rfl) (by kernel_rfl) (by kernel_rfl) (fun _ _ _ h => h) (by rfl) ?hy7 (by assumption) ?r7
        case hy7 => (intro w hSw; (try dsimp only at hSw); first | (go_simp; done) | (go_simp; with_reducible rfl))
        simp only [Act.put, List.setIfInBounds_toArray, List.set_cons_zero, List.set_cons_succ]
        refine takeN 10 (v := ?v8) rfl (by kernel_rfl) (by kernel_rfl) (by kernel_rfl) (fun _ _ _ h => h) (by rfl) ?hy8 (by assumption) ?r8
        case hy8 => (intro w hSw; (try dsimp only at hSw); first | (go_simp; done) | (go_simp; with_reducible rfl))
        simp only [Act.put, List.setIfInBounds_toArray, List.set_cons_zero, List.set_cons_succ]
        refine takeN 11 (v := ?v9) rfl (by kernel_rfl) (by kernel_rfl) (by kernel_rfl) (fun _ _ _ h => h) (by rfl) ?hy9 (by assumption) ?r9
        case hy9 => (intro w hSw; (try dsimp only at hSw); first | (go_simp; done) | (go_simp; with_reducible rfl))
        simp only [Act.put, List.setIfInBounds_toArray, List.set_cons_zero, List.set_cons_succ]
        refine takeN 12 (v := ?v10) rfl (by kernel_rfl) (by kernel_rfl) (by kernel_rfl) (fun _ _ _ h => h) (by rfl) ?hy10 (by assumption) ?r10
        case hy10 => (intro w hSw; (try dsimp only at hSw); first | (go_simp; done) | (go_simp; with_reducible rfl))
        simp only [Act.put, List.setIfInBounds_toArray, List.set_cons_zero, List.set_cons_succ]
        refine nextN 13 (by kernel_rfl) rfl (fun K hK => ?_)
        go_simp
        go_at_call 41; refine (sEqualVector_any QA1 QA2 qn qn qc1 qc2 _ QV QV _ (RdP.of_own O1) (RdP.of_own O2) (Nat.le_refl _) (by omega) (by omega)).mono ?_; rintro e wD ⟨rfl, hb⟩; rw [Pl.eqv_self]; have BP := BP.below hb; have BV2 := BV2.below hb; have O1 := own_below O1 hb; have O2 := own_below O2 hb; have HP := HP.trans (hb.mono HP.size); have HV := HV.trans (hb.mono HV.size); have H := H.trans (hb.mono H.size); clear hb
        go_wp2_with fail
        refine hK.out _ _ ?_ (fun hHeld => ?_)
        · exact ⟨BP.2.1 0 _ rfl, BP.2.1 1 _ rfl, BP.2.1 2 _ rfl, BV2.2.1 0 _ rfl, BV2.2.1 1 _ rfl, BV2.2.1 2 _ rfl⟩
        clear hK K
        refine takeN 14 (v := ?v11) rfl (by kernel_rfl) (by kernel_rfl) (by kernel_rfl) (fun _ _ _ h => h) (by rfl) ?hy11 (by assumption) ?r11
        case hy11 => (intro w hSw; (try dsimp only at hSw); first | (go_simp; done) | (go_simp; with_reducible rfl))
        simp only [Act.put, List.setIfInBounds_toArray, List.set_cons_zero, List.set_cons_succ]
        refine takeN 15 (v := ?v12) rfl (by kernel_rfl) (by kernel_rfl) (by kernel_rfl) (fun _ _ _ h => h) (by rfl) ?hy12 (by assumption) ?r12
        case hy12 => (intro w hSw; (try dsimp only at hSw); first | (go_simp; done) | (go_simp; with_reducible rfl))
        simp only [Act.put, List.setIfInBounds_toArray, List.set_cons_zero, List.set_cons_succ]
        refine takeN 16 (v := ?v13) rfl (by kernel_rfl) (by kernel_rfl) (by kernel_rfl) (fun _ _ _ h => h) (by rfl) ?hy13 (by assumption) ?r13
        case hy13 => (intro w hSw; (try dsimp only at hSw); first | (go_simp; done) | (go_simp; with_reducible rfl))
        simp only [Act.put, List.setIfInBounds_toArray, List.set_cons_zero, List.set_cons_succ]
        refine takeN 18 (v := ?v14) rfl (by kernel_rfl) (by kernel_rfl) (by kernel_rfl) (fun _ _ _ h => h) (by rfl) ?hy14 (by assumption) ?r14
        case hy14 => (intro w hSw; (try dsimp only at hSw); first | (go_simp; done) | (go_simp; with_reducible rfl))
        simp only [Act.put, List.setIfInBounds_toArray, List.set_cons_zero, List.set_cons_succ]
        refine nextN 17 (by kernel_rfl) rfl (fun K hK => ?_)
        go_simp
        go_at_call 21; refine (VI.out _ HV).mono ?_; rintro e wE ⟨z1, rfl, Z1, hb⟩; have BP := BP.below hb; have BV2 := BV2.below hb; have O1 := own_below O1 hb; have O2 := own_below O2 hb; have HP := HP.trans (hb.mono HP.size); have HV := HV.trans (hb.mono HV.size); have H := H.trans (hb.mono H.size); clear hb
        go_wp2_with fail
        refine hK.out _ _ ?_ (fun hHeld => ?_)
        · exact ⟨BP.2.1 0 _ rfl, BP.2.1 1 _ rfl, BP.2.1 2 _ rfl, BV2.2.1 0 _ rfl, BV2.2.1 1 _ rfl, BV2.2.1 2 _ rfl⟩
        clear hK K
        refine nextN 19 (by kernel_rfl) rfl (fun K hK => ?_)
        go_simp
        go_at_call 20; refine (VS.out _ HV).mono ?_; rintro e wF ⟨z2, rfl, Z2, hb⟩; have BP := BP.below hb; have BV2 := BV2.below hb; have O1 := own_below O1 hb; have O2 := own_below O2 hb; have HP := HP.trans (hb.mono HP.size); have HV := HV.trans (hb.mono HV.size); have H := H.trans (hb.mono H.size); have Z1 := own_below Z1 hb; clear hb; obtain ⟨ZA1, zc1, rfl⟩ := own_form Z1; obtain ⟨ZA2, zc2, rfl⟩ := own_form Z2
        go_wp2_with fail
        refine hK.out _ _ ?_ (fun hHeld => ?_)
        · exact ⟨BP.2.1 0 _ rfl, BP.2.1 1 _ rfl, BP.2.1 2 _ rfl, BV2.2.1 0 _ rfl, BV2.2.1 1 _ rfl, BV2.2.1 2 _ rfl⟩
        clear hK K
        refine nextN 20 (by kernel_rfl) rfl (fun K hK => ?_)
        go_simp
        go_at_call 41; refine (sEqualVector_any ZA1 ZA2 sn sn zc1 zc2 _ XV XV _ (RdP.of_own Z1) (RdP.of_own Z2) (Nat.le_refl _) (by omega) (by omega)).mono ?_; rintro e wG ⟨rfl, hb⟩; rw [Pl.eqv_self]; have BP := BP.below hb; have BV2 := BV2.below hb; have O1 := own_below O1 hb; have O2 := own_below O2 hb; have HP := HP.trans (hb.mono HP.size); have HV := HV.trans (hb.mono HV.size); have H := H.trans (hb.mono H.size); clear hb
        go_wp2_with fail
        refine hK.out _ _ ?_ (fun hHeld => ?_)
        · exact ⟨BP.2.1 0 _ rfl, BP.2.1 1 _ rfl, BP.2.1 2 _ rfl, BV2.2.1 0 _ rfl, BV2.2.1 1 _ rfl, BV2.2.1 2 _ rfl⟩
        clear hK K
        refine takeN 21 (v := ?v15) rfl (by kernel_rfl) (by kernel_rfl) (by kernel_rfl) (fun _ _ _ h => h) (by rfl) ?hy15 (by assumption) ?r15
        case hy15 => (intro w hSw; (try dsimp only at hSw); first | (go_simp; done) | (go_simp; with_reducible rfl))
        simp only [Act.put, List.setIfInBounds_toArray, List.set_cons_zero, List.set_cons_succ]
        refine takeN 22 (v := ?v16) rfl (by kernel_rfl) (by kernel_rfl) (by kernel_rfl) (fun _ _ _ h => h) (by rfl) ?hy16 (by assumption) ?r16
        case hy16 => (intro w hSw; (try dsimp only at hSw); first | (go_simp; done) | (go_simp; with_reducible rfl))
        simp only [Act.put, List.setIfInBounds_toArray, List.set_cons_zero, List.set_cons_succ]
        refine wpAnyH_done (by kernel_rfl) ?_ _
        refine NoPanic.normal ?_
        go_wp2
        go_ret
        exact ⟨rfl, H⟩
      · obtain ⟨r, k, rfl, rfl, hr, hk, hu⟩ := UNIT.out rfl
        have GO := GOH.out.below hb
        have hkj := hk j hlt
        obtain ⟨b1, o1, e1, _, hc1⟩ := GO.rows_at.1 (by omega)
        obtain ⟨b2, o2, e2, _, hc2⟩ := GO.rows_at.2 j hlt (by omega)
        have x3 := hc1 j hlt
        have x5 := (hc2 k hkj).1
        have x6 := (hc2 k hkj).2
        rw [hu j hlt] at x5 x6
        rw [e2] at x3
        rw [e1] at y0
        have k0 : (0 : Int) ≤ (k : Int) := by omega
        have k1 : (k : Int) < (RN j : Int) := by omega
        clear GO hc1 hc2 e1 e2 hk hu
        by_cases hjr : j = r
        · subst hjr
          rw [if_pos rfl] at x5 x6
          dsimp only at x5 x6
          have hb := (hb.alloc (by exact hb.size) (.cells #[.int .i64 1, .int .i64 1] 66))
          go_wp2
          clear x3 x5 x6 y0 yz j0 j1 k0 k1
          go_roundw
          case rel => exact ⟨j + 1, by omega, by go_num, hb⟩
          case measure => simp [intOf]; omega
        · have djr : ¬ (j : Int) = (r : Int) := by omega
          rw [if_neg hjr] at x5 x6
          dsimp only at x5 x6
          have hb := (hb.alloc (by exact hb.size) (.cells #[.int .i64 0, .int .i64 1] 66))
          go_wp2
          clear x3 x5 x6 y0 yz j0 j1 k0 k1
          go_roundw
          case rel => exact ⟨j + 1, by omega, by go_num, hb⟩
          case measure => simp [intOf]; omega
    · obtain rfl : j = rn := by omega
      have H := HH.out.trans (hb.mono HH.out.size)
      clear BG hb
      go_wp2_with fail
      refine (DS.out _ H).mono ?_
      rintro e wp ⟨_, rfl, ⟨PA0, PB0, PC0, pm, pbn, pn, pca, pcb, pcc, PRA, PRN, PRC, PRV, PBV, PCV, p1, p2, p3, p4, rfl, prr, pbb, pcr⟩, hb⟩
      have H := H.trans (hb.mono H.size)
      clear hb
      have P2 : Hid (∀ j, j < pm → PRN j ≤ 1048576) := Lib.hid (fun j hj => by have := p2 j hj; omega)
      have PI := Lib.hid (fun wx (h : Below wp.heap.size wp wx) => iStart_any PA0 PB0 PC0 pm pca pbn pcb pn pcc PRA PRN PRC PRV PBV PCV _ wx (prr.below h (Nat.le_refl _)) (pbb.below h) (pcr.below h (Nat.le_refl _)) h.size (by omega) P2.out (by omega) (by omega))
      have PS := Lib.hid (fun wx (h : Below wp.heap.size wp wx) => sStart_any PA0 PB0 PC0 pm pca pbn pcb pn pcc PRA PRN PRC PRV PBV PCV _ wx (prr.below h (Nat.le_refl _)) (pbb.below h) (pcr.below h (Nat.le_refl _)) h.size (by omega) P2.out (by omega) (by omega))
      unfold OwnsTab at PI PS
      obtain ⟨nn, hm⟩ : ∃ nn, nn = (if Pl.validLP pn pm PRN PRV pbn PBV PCV = true then pm else 0) := ⟨_, rfl⟩
      have hnn : nn ≤ 16 := by
        rw [hm]
        split <;> omega
      rw [← hm] at PI PS
      clear hm
      generalize (if Pl.validLP pn pm PRN PRV pbn PBV PCV = true then (pn : Int) else 0) = ncols at PI PS
      generalize Pl.startV pn pm PRV PBV = NV at PI PS
      generalize Pl.startB pn = NB at PI PS
      have HP := (Below.refl wp.heap.size wp).alloc (Nat.le_refl _) (.cells #[.slice PA0 pm pca, .slice PB0 pbn pcb, .slice PC0 pn pcc] 53)
      have H := H.trans (HP.mono H.size)
      have BP := Bx.new wp #[.slice PA0 pm pca, .slice PB0 pbn pcb, .slice PC0 pn pcc] 53
      clear prr pbb pcr p2
      go_wp2_with fail
      refine (DC.out _ H).mono ?_
      rintro e wc ⟨_, CA, cn, cc, CV, rfl, ⟨UR0, UBs, urn, urc, ubn, ubc, ucols, URA, URN, URC, URV, UBV, u1, u2, u3, u4, u5, u6, rfl, unil, urr, ubb⟩, c19, crd, cnil, hb⟩
      have BP := BP.below hb
      have HP := HP.trans (hb.mono HP.size)
      have H := H.trans (hb.mono H.size)
      clear hb unil
      have U3 : Hid (∀ j, j < urn → URN j ≤ 1048576) := Lib.hid (fun j hj => by have := u3 j hj; omega)
      have CI := Lib.hid (fun wx (h : Below wc.heap.size wc wx) => iCost_any UR0 UBs urn urc ubn ubc ucols URA URN URC URV UBV CA cn cc CV _ wx (urr.below h (Nat.le_refl _)) (ubb.below h) (crd.below h (Nat.le_refl _)) h.size (by omega) U3.out (by omega) (by omega) cnil)
      have CS := Lib.hid (fun wx (h : Below wc.heap.size wc wx) => sCost_any UR0 UBs urn urc ubn ubc ucols URA URN URC URV UBV CA cn cc CV _ wx (urr.below h (Nat.le_refl _)) (ubb.below h) (crd.below h (Nat.le_refl _)) h.size (by omega) U3.out (by omega) cnil)
      unfold OwnsSc at CI CS
      generalize Pl.costOk ucols urn URN ubn UBV URV cn CV = okc at CI CS
      generalize Pl.costV CV UBV URV cn urn = QV at CI CS
      obtain ⟨qn, hq⟩ : ∃ qn, qn = (if okc = true then cn + 1 else 0) := ⟨_, rfl⟩
      have hqn : qn ≤ 20 := by
        rw [hq]
        split <;> omega
      rw [← hq] at CI CS
      clear hq urr ubb crd cnil u3
      have HC := (Below.refl wc.heap.size wc).alloc (Nat.le_refl _) (.cells #[.slice UR0 urn urc, .slice UBs ubn ubc, .int .i64 ucols] 30)
      have BP := BP.below HC
      have HP := HP.trans (HC.mono HP.size)
      have H := H.trans (HC.mono H.size)
      have BU := Bx.new wc #[.slice UR0 urn urc, .slice UBs ubn ubc, .int .i64 ucols] 30
      go_wp2_with fail
      refine (CI.out _ HC).mono ?_
      rintro e wd ⟨v1, rfl, O1, hb⟩
      have BP := BP.below hb
      have BU := BU.below hb
      have HP := HP.trans (hb.mono HP.size)
      have H := H.trans (hb.mono H.size)
      have HC := HC.trans (hb.mono HC.size)
      clear hb CI
      have x0 := BU.2.1 0 _ rfl
      have x1 := BU.2.1 1 _ rfl
      have x2 := BU.2.1 2 _ rfl
      have xz := BU.1
      go_wp2_with fail
      refine (CS.out _ HC).mono ?_
      rintro e we ⟨v2, rfl, O2, hb⟩
      have BP := BP.below hb
      have O1 := own_below O1 hb
      have HP := HP.trans (hb.mono HP.size)
      have H := H.trans (hb.mono H.size)
      clear hb CS HC BU x0 x1 x2 xz
      obtain ⟨QA1, qc1, rfl⟩ := own_form O1
      obtain ⟨QA2, qc2, rfl⟩ := own_form O2
      go_wp2_with fail
      refine (DV.out _ H).mono ?_
      rintro e wv ⟨_, rfl, ⟨VR0, VBs, vrn, vrc, vbn, vbc, vcols, VRA, VRN, VRC, VRV, VBV, v1, v2, v3, v4, v5, v6, rfl, vnil, vrr, vbb⟩, hb⟩
      have BP := BP.below hb
      have O1 := own_below O1 hb
      have O2 := own_below O2 hb
      have HP := HP.trans (hb.mono HP.size)
      have H := H.trans (hb.mono H.size)
      clear hb vnil
      have V3 : Hid (∀ j, j < vrn → VRN j ≤ 1048576) := Lib.hid (fun j hj => by have := v3 j hj; omega)
      have VI := Lib.hid (fun wx (h : Below wv.heap.size wv wx) => iSol_any VR0 VBs vrn vrc vbn vbc vcols VRA VRN VRC VRV VBV _ wx (vrr.below h (Nat.le_refl _)) (vbb.below h) h.size (by omega) (by omega))
      have VS := Lib.hid (fun wx (h : Below wv.heap.size wv wx) => sSol_any VR0 VBs vrn vrc vbn vbc vcols VRA VRN VRC VRV VBV _ wx (vrr.below h (Nat.le_refl _)) (vbb.below h) h.size (by omega) V3.out)
      unfold OwnsSol at VI VS
      obtain ⟨sn, hs⟩ : ∃ sn, sn = solN (Pl.form vcols vrn VRN vbn VBV) vcols vrn := ⟨_, rfl⟩
      have hsn : sn ≤ 32 := by
        rw [hs, solN]
        split <;> omega
      rw [← hs] at VI VS
      generalize solAt VBV VRV (vcols.toNat + vrn) vrn = XV at VI VS
      clear hs vrr vbb v3
      have HV := (Below.refl wv.heap.size wv).alloc (Nat.le_refl _) (.cells #[.slice VR0 vrn vrc, .slice VBs vbn vbc, .int .i64 vcols] 30)
      have BP := BP.below HV
      have O1 := own_below O1 HV
      have O2 := own_below O2 HV
      have HP := HP.trans (HV.mono HP.size)
      have H := H.trans (HV.mono H.size)
      have BV2 := Bx.new wv #[.slice VR0 vrn vrc, .slice VBs vbn vbc, .int .i64 vcols] 30
      have BPH := Lib.hid BP
      have O1H := Lib.hid O1
      have O2H := Lib.hid O2
      have HPH := Lib.hid HP
      have HH := Lib.hid H
      have HVH := Lib.hid HV
      have BV2H := Lib.hid BV2
      clear BP O1 O2 HP H HV BV2 DS DC DV
      go_upto_region 19 with fail
      have BP := BPH.out
      have O1 := O1H.out
      have O2 := O2H.out
      have HP := HPH.out
      have H := HH.out
      have HV := HVH.out
      have BV2 := BV2H.out
      clear BPH O1H O2H HPH HH HVH BV2H
      have hb := (Below.refl (wv.alloc (.cells #[.slice VR0 vrn vrc, .slice VBs vbn vbc, .int .i64 vcols] 30)).heap.size (wv.alloc (.cells #[.slice VR0 vrn vrc, .slice VBs vbn vbc, .int .i64 vcols] 30))).drew
      have BP := BP.below hb
      have BV2 := BV2.below hb
      have O1 := own_below O1 hb
      have O2 := own_below O2 hb
      have HP := HP.trans (hb.mono HP.size)
      have HV := HV.trans (hb.mono HV.size)
      have H := H.trans (hb.mono H.size)
      clear hb
      refine wp_region_noPanic ?_
      refine wp_region_held_drew (S := (fun w' => w'.cell? ⟨wp.heap.size, 0, none⟩ = some (.slice PA0 pm pca) ∧ w'.cell? ⟨wp.heap.size, 1, none⟩ = some (.slice PB0 pbn pcb) ∧ w'.cell? ⟨wp.heap.size, 2, none⟩ = some (.slice PC0 pn pcc) ∧ w'.cell? ⟨wv.heap.size, 0, none⟩ = some (.slice VR0 vrn vrc) ∧ w'.cell? ⟨wv.heap.size, 1, none⟩ = some (.slice VBs vbn vbc) ∧ w'.cell? ⟨wv.heap.size, 2, none⟩ = some (.int .i64 vcols))) (by kernel_rfl) ?_ (fun hHeld => ?_)
      · exact ⟨BP.2.1 0 _ rfl, BP.2.1 1 _ rfl, BP.2.1 2 _ rfl, BV2.2.1 0 _ rfl, BV2.2.1 1 _ rfl, BV2.2.1 2 _ rfl⟩
      refine takeN 0 (v := ?v91) rfl (by kernel_rfl) (by kernel_rfl) (by kernel_rfl) (fun _ _ _ h => h) (by rfl) ?hy91 (by assumption) ?r91
      case hy91 => (intro w hSw; (try dsimp only at hSw); first | (go_simp; done) | (go_simp; with_reducible rfl))
      simp only [Act.put, List.setIfInBounds_toArray, List.set_cons_zero, List.set_cons_succ]
      refine takeN 2 (v := ?v92) rfl (by kernel_rfl) (by kernel_rfl) (by kernel_rfl) (fun _ _ _ h => h) (by rfl) ?hy92 (by assumption) ?r92
      case hy92 => (intro w hSw; (try dsimp only at hSw); first | (go_simp; done) | (go_simp; with_reducible rfl))
      simp only [Act.put, List.setIfInBounds_toArray, List.set_cons_zero, List.set_cons_succ]
      refine nextN 1 (by kernel_rfl) rfl (fun K hK => ?_)
      go_simp
      go_at_call 30; refine (PI.out _ HP).mono ?_; rintro e wA ⟨X1, c1, XA1, XC1, Y1, d1, hi1, rfl, T1, hb⟩; have BP := BP.below hb; have BV2 := BV2.below hb; have O1 := own_below O1 hb; have O2 := own_below O2 hb; have HP := HP.trans (hb.mono HP.size); have HV := HV.trans (hb.mono HV.size); have H := H.trans (hb.mono H.size); clear hb
      go_wp2_with fail
      refine hK.out _ _ ?_ (fun hHeld => ?_)
      · exact ⟨BP.2.1 0 _ rfl, BP.2.1 1 _ rfl, BP.2.1 2 _ rfl, BV2.2.1 0 _ rfl, BV2.2.1 1 _ rfl, BV2.2.1 2 _ rfl⟩
      clear hK K
      refine nextN 3 (by kernel_rfl) rfl (fun K hK => ?_)
      go_simp
      go_at_call 28; refine (PS.out _ HP).mono ?_; rintro e wB ⟨X2, c2, XA2, XC2, Y2, d2, hi2, rfl, T2, hb⟩; have BP := BP.below hb; have BV2 := BV2.below hb; have O1 := own_below O1 hb; have O2 := own_below O2 hb; have HP := HP.trans (hb.mono HP.size); have HV := HV.trans (hb.mono HV.size); have H := H.trans (hb.mono H.size); have T1 := T1.below hb; clear hb
      go_wp2_with fail
      refine hK.out _ _ ?_ (fun hHeld => ?_)
      · exact ⟨BP.2.1 0 _ rfl, BP.2.1 1 _ rfl, BP.2.1 2 _ rfl, BV2.2.1 0 _ rfl, BV2.2.1 1 _ rfl, BV2.2.1 2 _ rfl⟩
      clear hK K
      refine nextN 4 (by kernel_rfl) rfl (fun K hK => ?_)
      go_simp
      go_at_call 13; refine (iEqTab_any X1 Y1 nn c1 nn d1 ncols XA1 _ XC1 NV NB X2 Y2 nn c2 nn d2 ncols XA2 _ XC2 NV NB _ _ T1.rows_at T1.basis_at T2.rows_at T2.basis_at (Nat.le_refl _) (by omega) (fun _ _ => by omega) (by omega) (by omega) (fun _ _ => by omega) (by omega)).mono ?_; rintro e wC ⟨rfl, hb⟩; rw [Pl.eqTab_self]; have BP := BP.below hb; have BV2 := BV2.below hb; have O1 := own_below O1 hb; have O2 := own_below O2 hb; have HP := HP.trans (hb.mono HP.size); have HV := HV.trans (hb.mono HV.size); have H := H.trans (hb.mono H.size); clear hb T1 T2
      go_wp2_with fail
      refine hK.out _ _ ?_ (fun hHeld => ?_)
      · exact ⟨BP.2.1 0 _ rfl, BP.2.1 1 _ rfl, BP.2.1 2 _ rfl, BV2.2.1 0 _ rfl, BV2.2.1 1 _ rfl, BV2.2.1 2 _ rfl⟩
      clear hK K
      refine takeN 5 (v := ?v93) rfl (by kernel_rfl) (by kernel_rfl) (by kernel_rfl) (fun _ _ _ h => h) (by rfl) ?hy93 (by assumption) ?r93
      case hy93 => (intro w hSw; (try dsimp only at hSw); first | (go_simp; done) | (go_simp; with_reducible rfl))
      simp only [Act.put, List.setIfInBounds_toArray, List.set_cons_zero, List.set_cons_succ]
      refine takeN 6 (v := ?v94) rfl (by kernel_rfl) (by kernel_rfl) (by kernel_rfl) (fun _ _ _ h => h) (by rfl) ?hy94 (by assumption) ?r94
      case hy94 => (intro w hSw; (try dsimp only at hSw); first | (go_simp; done) | (go_simp; with_reducible rfl))
      simp only [Act.put, List.setIfInBounds_toArray, List.set_cons_zero, List.set_cons_succ]
      refine takeN 7 (v := ?v95) rfl (by kernel_rfl) (by kernel_rfl) (by kernel_rfl) (fun _ _ _ h => h) (by rfl) ?hy95 (by assumption) ?r95
      case hy95 => (intro w hSw; (try dsimp only at hSw); first | (go_simp; done) | (go_simp; with_reducible rfl))
      simp only [Act.put, List.setIfInBounds_toArray, List.set_cons_zero, List.set_cons_succ]
      refine takeN 8 (v := ?v96) rfl (by kernel_rfl) (by kernel_rfl) (by kernel_rfl) (fun _ _ _ h => h) (by rfl) ?hy96 (by assumption) ?r96
      case hy96 => (intro w hSw; (try dsimp only at hSw); first | (go_simp; done) | (go_simp; with_reducible rfl))
      simp only [Act.put, List.setIfInBounds_toArray, List.set_cons_zero, List.set_cons_succ]
      try simp only [beq_self_eq_true, decide_true]
      refine takeN 9 (v := ?v97) rfl (by kernel_rfl) (by kernel_rfl) (by kernel_rfl) (fun _ _ _ h => h) (by rfl) ?hy97 (by assumption) ?r97
      case hy97 => (intro w hSw; (try dsimp only at hSw); first | (go_simp; done) | (go_simp; with_reducible rfl))
      simp only [Act.put, List.setIfInBounds_toArray, List.set_cons_zero, List.set_cons_succ]
      refine takeN 10 (v := ?v98) rfl (by kernel_rfl) (by kernel_rfl) (by kernel_rfl) (fun _ _ _ h => h) (by rfl) ?hy98 (by assumption) ?r98
      case hy98 => (intro w hSw; (try dsimp only at hSw); first | (go_simp; done) | (go_simp; with_reducible rfl))
      simp only [Act.put, List.setIfInBounds_toArray, List.set_cons_zero, List.set_cons_succ]
      refine takeN 11 (v := ?v99) rfl (by kernel_rfl) (by kernel_rfl) (by kernel_rfl) (fun _ _ _ h => h) (by rfl) ?hy99 (by assumption) ?r99
      case hy99 => (intro w hSw; (try dsimp only at hSw); first | (go_simp; done) | (go_simp; with_reducible rfl))
      simp only [Act.put, List.setIfInBounds_toArray, List.set_cons_zero, List.set_cons_succ]
      refine takeN 12 (v := ?v910) rfl (by kernel_rfl) (by kernel_rfl) (by kernel_rfl) (fun _ _ _ h => h) (by rfl) ?hy910 (by assumption) ?r910
      case hy910 => (intro w hSw; (try dsimp only at hSw); first | (go_simp; done) | (go_simp; with_reducible rfl))
      simp only [Act.put, List.setIfInBounds_toArray, List.set_cons_zero, List.set_cons_succ]
      refine nextN 13 (by kernel_rfl) rfl (fun K hK => ?_)
      go_simp
      go_at_call 41; refine (sEqualVector_any QA1 QA2 qn qn qc1 qc2 _ QV QV _ (RdP.of_own O1) (RdP.of_own O2) (Nat.le_refl _) (by omega) (by omega)).mono ?_; rintro e wD ⟨rfl, hb⟩; rw [Pl.eqv_self]; have BP := BP.below hb; have BV2 := BV2.below hb; have O1 := own_below O1 hb; have O2 := own_below O2 hb; have HP := HP.trans (hb.mono HP.size); have HV := HV.trans (hb.mono HV.size); have H := H.trans (hb.mono H.size); clear hb
      go_wp2_with fail
      refine hK.out _ _ ?_ (fun hHeld => ?_)
      · exact ⟨BP.2.1 0 _ rfl, BP.2.1 1 _ rfl, BP.2.1 2 _ rfl, BV2.2.1 0 _ rfl, BV2.2.1 1 _ rfl, BV2.2.1 2 _ rfl⟩
      clear hK K
      refine takeN 14 (v := ?v911) rfl (by kernel_rfl) (by kernel_rfl) (by kernel_rfl) (fun _ _ _ h => h) (by rfl) ?hy911 (by assumption) ?r911
      case hy911 => (intro w hSw; (try dsimp only at hSw); first | (go_simp; done) | (go_simp; with_reducible rfl))
      simp only [Act.put, List.setIfInBounds_toArray, List.set_cons_zero, List.set_cons_succ]
      refine takeN 15 (v := ?v912) rfl (by kernel_rfl) (by kernel_rfl) (by kernel_rfl) (fun _ _ _ h => h) (by rfl) ?hy912 (by assumption) ?r912
      case hy912 => (intro w hSw; (try dsimp only at hSw); first | (go_simp; done) | (go_simp; with_reducible rfl))
      simp only [Act.put, List.setIfInBounds_toArray, List.set_cons_zero, List.set_cons_succ]
      refine takeN 16 (v := ?v913) rfl (by kernel_rfl) (by kernel_rfl) (by kernel_rfl) (fun _ _ _ h => h) (by rfl) ?hy913 (by assumption) ?r913
      case hy913 => (intro w hSw; (try dsimp only at hSw); first | (go_simp; done) | (go_simp; with_reducible rfl))
      simp only [Act.put, List.setIfInBounds_toArray, List.set_cons_zero, List.set_cons_succ]
      refine takeN 18 (v := ?v914) rfl (by kernel_rfl) (by kernel_rfl) (by kernel_rfl) (fun _ _ _ h => h) (by rfl) ?hy914 (by assumption) ?r914
      case hy914 => (intro w hSw; (try dsimp only at hSw); first | (go_simp; done) | (go_simp; with_reducible rfl))
      simp only [Act.put, List.setIfInBounds_toArray, List.set_cons_zero, List.set_cons_succ]
      refine nextN 17 (by kernel_rfl) rfl (fun K hK => ?_)
      go_simp
      go_at_call 21; refine (VI.out _ HV).mono ?_; rintro e wE ⟨z1, rfl, Z1, hb⟩; have BP := BP.below hb; have BV2 := BV2.below hb; have O1 := own_below O1 hb; have O2 := own_below O2 hb; have HP := HP.trans (hb.mono HP.size); have HV := HV.trans (hb.mono HV.size); have H := H.trans (hb.mono H.size); clear hb
      go_wp2_with fail
      refine hK.out _ _ ?_ (fun hHeld => ?_)
      · exact ⟨BP.2.1 0 _ rfl, BP.2.1 1 _ rfl, BP.2.1 2 _ rfl, BV2.2.1 0 _ rfl, BV2.2.1 1 _ rfl, BV2.2.1 2 _ rfl⟩
      clear hK K
      refine nextN 19 (by kernel_rfl) rfl (fun K hK => ?_)
      go_simp
      go_at_call 20; refine (VS.out _ HV).mono ?_; rintro e wF ⟨z2, rfl, Z2, hb⟩; have BP := BP.below hb; have BV2 := BV2.below hb; have O1 := own_below O1 hb; have O2 := own_below O2 hb; have HP := HP.trans (hb.mono HP.size); have HV := HV.trans (hb.mono HV.size); have H := H.trans (hb.mono H.size); have Z1 := own_below Z1 hb; clear hb; obtain ⟨ZA1, zc1, rfl⟩ := own_form Z1; obtain ⟨ZA2, zc2, rfl⟩ := own_form Z2
      go_wp2_with fail
      refine hK.out _ _ ?_ (fun hHeld => ?_)
      · exact ⟨BP.2.1 0 _ rfl, BP.2.1 1 _ rfl, BP.2.1 2 _ rfl, BV2.2.1 0 _ rfl, BV2.2.1 1 _ rfl, BV2.2.1 2 _ rfl⟩
      clear hK K
      refine nextN 20 (by kernel_rfl) rfl (fun K hK => ?_)
      go_simp
      go_at_call 41; refine (sEqualVector_any ZA1 ZA2 sn sn zc1 zc2 _ XV XV _ (RdP.of_own Z1) (RdP.of_own Z2) (Nat.le_refl _) (by omega) (by omega)).mono ?_; rintro e wG ⟨rfl, hb⟩; rw [Pl.eqv_self]; have BP := BP.below hb; have BV2 := BV2.below hb; have O1 := own_below O1 hb; have O2 := own_below O2 hb; have HP := HP.trans (hb.mono HP.size); have HV := HV.trans (hb.mono HV.size); have H := H.trans (hb.mono H.size); clear hb
      go_wp2_with fail
      refine hK.out _ _ ?_ (fun hHeld => ?_)
      · exact ⟨BP.2.1 0 _ rfl, BP.2.1 1 _ rfl, BP.2.1 2 _ rfl, BV2.2.1 0 _ rfl, BV2.2.1 1 _ rfl, BV2.2.1 2 _ rfl⟩
      clear hK K
      refine takeN 21 (v := ?v915) rfl (by kernel_rfl) (by kernel_rfl) (by kernel_rfl) (fun _ _ _ h => h) (by rfl) ?hy915 (by assumption) ?r915
      case hy915 => (intro w hSw; (try dsimp only at hSw); first | (go_simp; done) | (go_simp; with_reducible rfl))
      simp only [Act.put, List.setIfInBounds_toArray, List.set_cons_zero, List.set_cons_succ]
      refine takeN 22 (v := ?v916) rfl (by kernel_rfl) (by kernel_rfl) (by kernel_rfl) (fun _ _ _ h => h) (by rfl) ?hy916 (by assumption) ?r916
      case hy916 => (intro w hSw; (try dsimp only at hSw); first | (go_simp; done) | (go_simp; with_reducible rfl))
      simp only [Act.put, List.setIfInBounds_toArray, List.set_cons_zero, List.set_cons_succ]
      refine wpAnyH_done (by kernel_rfl) ?_ _
      refine NoPanic.normal ?_
      go_wp2
      go_ret
      exact ⟨rfl, H⟩
end Go.Proofs.Ytajafmdeencohaa
