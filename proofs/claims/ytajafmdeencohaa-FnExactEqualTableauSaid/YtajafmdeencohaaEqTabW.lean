/-
  The law FnExactEqualTableau walked: it returns true.
-/
import Derived.Test.YtajafmdeencohaaEqTab
namespace Go.Proofs.Ytajafmdeencohaa
open Go.RowKit
attribute [local go_sem ↓] Go.wp_at_zero Go.wp_at_succ

set_option maxRecDepth 40000 in
set_option maxHeartbeats 4000000 in
theorem fnExactEqualTableau_walk {w : World} (aR aBs : Option Addr) (arn arc abn abc : Nat) (acols : Int) (aRA : Nat → Option Addr) (aRN aRC : Nat → Nat) (aRV : Nat → Fr) (aBV : Nat → Int) (hma : arn ≤ maxLen ∧ (∀ j, j < arn → aRN j ≤ maxLen) ∧ abn ≤ maxLen) (arr : RdR w w.heap.size aR arn aRA aRN aRC aRV) (abb : Rd w w.heap.size 1 aBs abn (cellsI aBV abn)) (bR bBs : Option Addr) (brn brc bbn bbc : Nat) (bcols : Int) (bRA : Nat → Option Addr) (bRN bRC : Nat → Nat) (bRV : Nat → Fr) (bBV : Nat → Int) (hmb : brn ≤ maxLen ∧ (∀ j, j < brn → bRN j ≤ maxLen) ∧ bbn ≤ maxLen) (brr : RdR w w.heap.size bR brn bRA bRN bRC bRV) (bbb : Rd w w.heap.size 1 bBs bbn (cellsI bBV bbn)) :
    Calls Try.prog 3 #[.agg #[.slice aR arn arc, .slice aBs abn abc, .int .i64 acols], .agg #[.slice bR brn brc, .slice bBs bbn bbc, .int .i64 bcols]] w fun e w' => e = .returned (.bool true) ∧ Below w.heap.size w w' := by
  simp only [maxLen] at hma hmb
  obtain ⟨m1, m2, m3⟩ := hma
  obtain ⟨n1, n2, n3⟩ := hmb
  have BA : Bx ((w.alloc (.cells #[.slice aR arn arc, .slice aBs abn abc, .int .i64 acols] 25)).alloc (.cells #[.slice bR brn brc, .slice bBs bbn bbc, .int .i64 bcols] 25)) w.heap.size [.slice aR arn arc, .slice aBs abn abc, .int .i64 acols] := (Bx.new w #[.slice aR arn arc, .slice aBs abn abc, .int .i64 acols] 25).alloc _
  have BB : Bx ((w.alloc (.cells #[.slice aR arn arc, .slice aBs abn abc, .int .i64 acols] 25)).alloc (.cells #[.slice bR brn brc, .slice bBs bbn bbc, .int .i64 bcols] 25)) (w.heap.size + 1) [.slice bR brn brc, .slice bBs bbn bbc, .int .i64 bcols] := by
    have h := Bx.new (w.alloc (.cells #[.slice aR arn arc, .slice aBs abn abc, .int .i64 acols] 25)) #[.slice bR brn brc, .slice bBs bbn bbc, .int .i64 bcols] 25
    simpa using h
  have H : Below w.heap.size w ((w.alloc (.cells #[.slice aR arn arc, .slice aBs abn abc, .int .i64 acols] 25)).alloc (.cells #[.slice bR brn brc, .slice bBs bbn bbc, .int .i64 bcols] 25)) := ((Below.refl _ _).alloc (Nat.le_refl _) _).alloc (by simp) _
  have SA := Lib.hid (fun wx left (HX : Below w.heap.size w wx) h0 h1 => szTab_any aR aBs arn arc abn abc acols aRA aRN aRC aRV _ wx (arr.below HX (Nat.le_refl _)) HX.size left h0 h1 (by omega) (fun j hj => by have := m2 j hj; omega) (by omega))
  have SB := Lib.hid (fun wx left (HX : Below w.heap.size w wx) h0 h1 => szTab_any bR bBs brn brc bbn bbc bcols bRA bRN bRC bRV _ wx (brr.below HX (Nat.le_refl _)) HX.size left h0 h1 (by omega) (fun j hj => by have := n2 j hj; omega) (by omega))
  clear m1 m2 m3 n1 n2 n3
  go_enter Try.func3, Try.ntmps3
  go_wp2_with fail
  refine (SA.out _ _ H (by omega) (by omega)).mono ?_
  rintro e w1 ⟨v, rfl, hv, hb⟩
  have BA := BA.below hb
  have BB := BB.below hb
  have H := H.trans (hb.mono H.size)
  clear hb SA
  have x0 := BA.2.1 0 _ rfl
  have x1 := BA.2.1 1 _ rfl
  have x2 := BA.2.1 2 _ rfl
  have xz := BA.1
  have y0 := BB.2.1 0 _ rfl
  have y1 := BB.2.1 1 _ rfl
  have y2 := BB.2.1 2 _ rfl
  have yz := BB.1
  rcases hv with rfl | ⟨v0, v1, hv1, hv2, hv3⟩
  · go_wp2
    go_ret
    exact ⟨rfl, H⟩
  · have d1 := decide_eq_false (show ¬ v < 0 by omega)
    have ha1 : arn ≤ 1048576 := by omega
    have ha2' : ∀ j, j < arn → aRN j ≤ 1048576 := fun j hj => by have := hv2 j hj; omega
    have ha3 : abn ≤ 1048576 := by omega
    have Ha2 := Lib.hid ha2'
    clear hv2 ha2' hv1 hv3
    go_wp2_with fail
    refine (SB.out _ _ H v0 (by omega)).mono ?_
    rintro e w2 ⟨u, rfl, hu, hb⟩
    have BA := BA.below hb
    have BB := BB.below hb
    have H := H.trans (hb.mono H.size)
    clear hb SB
    rcases hu with rfl | ⟨u0, u1, hu1, hu2, hu3⟩
    · go_wp2
      go_ret
      exact ⟨rfl, H⟩
    · have d2 := decide_eq_false (show ¬ u < 0 by omega)
      have hb1 : brn ≤ 1048576 := by omega
      have hb2' : ∀ j, j < brn → bRN j ≤ 1048576 := fun j hj => by have := hu2 j hj; omega
      have hb3 : bbn ≤ 1048576 := by omega
      have Hb2 := Lib.hid hb2'
      clear hu2 hb2' hu1 hu3
      have x0 := BA.2.1 0 _ rfl
      have x1 := BA.2.1 1 _ rfl
      have x2 := BA.2.1 2 _ rfl
      have xz := BA.1
      have y0 := BB.2.1 0 _ rfl
      have y1 := BB.2.1 1 _ rfl
      have y2 := BB.2.1 2 _ rfl
      have yz := BB.1
      have hb : Below w2.heap.size w2 w2.drew := (Below.refl _ _).drew
      have BA := BA.below hb
      have BB := BB.below hb
      have H := H.trans (hb.mono H.size)
      clear hb
      go_upto_region 8 with fail
      refine wp_region_noPanic ?_
      refine wp_region_held_drew (S := (fun w' => w'.cell? ⟨w.heap.size, 0, none⟩ = some (.slice aR arn arc) ∧ w'.cell? ⟨w.heap.size, 1, none⟩ = some (.slice aBs abn abc) ∧ w'.cell? ⟨w.heap.size, 2, none⟩ = some (.int .i64 acols) ∧ w'.cell? ⟨w.heap.size + 1, 0, none⟩ = some (.slice bR brn brc) ∧ w'.cell? ⟨w.heap.size + 1, 1, none⟩ = some (.slice bBs bbn bbc) ∧ w'.cell? ⟨w.heap.size + 1, 2, none⟩ = some (.int .i64 bcols))) (by kernel_rfl) ?_ (fun hHeld => ?_)
      · exact ⟨BA.2.1 0 _ rfl, BA.2.1 1 _ rfl, BA.2.1 2 _ rfl, BB.2.1 0 _ rfl, BB.2.1 1 _ rfl, BB.2.1 2 _ rfl⟩
      refine takeL 0 (v := ?v3_0) rfl (by kernel_rfl) (by kernel_rfl) (by kernel_rfl) (fun _ _ _ h => h) (by rfl) ?hy3_0 (by assumption) ?r3_0
      case hy3_0 => (intro w hSw; (try dsimp only at hSw); first | (go_simp; done) | (go_simp; with_reducible rfl))
      simp only [Act.put, List.setIfInBounds_toArray, List.set_cons_zero, List.set_cons_succ]
      refine takeL 2 (v := ?v3_2) rfl (by kernel_rfl) (by kernel_rfl) (by kernel_rfl) (fun _ _ _ h => h) (by rfl) ?hy3_2 (by assumption) ?r3_2
      case hy3_2 => (intro w hSw; (try dsimp only at hSw); first | (go_simp; done) | (go_simp; with_reducible rfl))
      simp only [Act.put, List.setIfInBounds_toArray, List.set_cons_zero, List.set_cons_succ]
      refine nextL 1 (by kernel_rfl) rfl (fun K hK => ?_)
      go_simp
      go_at_call 12; refine (toTab_any aR aBs arn arc abn abc acols aRA aRN aRC aRV aBV _ _ (arr.below H (Nat.le_refl _)) (abb.below' H (Nat.le_refl _)) H.size ha1 Ha2.out ha3).mono ?_; rintro e w3 ⟨PX, PA, PY, rfl, qP, rP, hb⟩; have BA := BA.below hb; have BB := BB.below hb; have H := H.trans (hb.mono H.size); clear hb; have s_qP := Nat.le_refl w3.heap.size; have s_rP := Nat.le_refl w3.heap.size
      go_wp2_with fail
      refine hK.out _ _ ?_ (fun hHeld => ?_)
      · exact ⟨BA.2.1 0 _ rfl, BA.2.1 1 _ rfl, BA.2.1 2 _ rfl, BB.2.1 0 _ rfl, BB.2.1 1 _ rfl, BB.2.1 2 _ rfl⟩
      clear hK K
      refine nextL 3 (by kernel_rfl) rfl (fun K hK => ?_)
      go_simp
      go_at_call 12; refine (toTab_any bR bBs brn brc bbn bbc bcols bRA bRN bRC bRV bBV _ _ (brr.below H (Nat.le_refl _)) (bbb.below' H (Nat.le_refl _)) H.size hb1 Hb2.out hb3).mono ?_; rintro e w4 ⟨OX, OA, OY, rfl, qO, rO, hb⟩; have BA := BA.below hb; have BB := BB.below hb; have qP := qP.below hb s_qP; have s_qP := Nat.le_trans s_qP hb.size; have rP := rP.below' hb s_rP; have s_rP := Nat.le_trans s_rP hb.size; have H := H.trans (hb.mono H.size); clear hb; have s_qO := Nat.le_refl w4.heap.size; have s_rO := Nat.le_refl w4.heap.size
      go_wp2_with fail
      refine hK.out _ _ ?_ (fun hHeld => ?_)
      · exact ⟨BA.2.1 0 _ rfl, BA.2.1 1 _ rfl, BA.2.1 2 _ rfl, BB.2.1 0 _ rfl, BB.2.1 1 _ rfl, BB.2.1 2 _ rfl⟩
      clear hK K
      refine nextL 4 (by kernel_rfl) rfl (fun K hK => ?_)
      go_simp
      go_at_call 11; refine (sEqTab_any PX PY arn arn abn abn acols PA aRN aRN aRV aBV OX OY brn brn bbn bbn bcols OA bRN bRN bRV bBV _ _ (qP.more s_qP) (rP.more s_rP) (qO.more s_qO) (rO.more s_rO) (Nat.le_refl _) ha1 Ha2.out ha3 hb1 Hb2.out hb3).mono ?_; rintro e w5 ⟨rfl, hb⟩; have BA := BA.below hb; have BB := BB.below hb; have qP := qP.below hb s_qP; have s_qP := Nat.le_trans s_qP hb.size; have rP := rP.below' hb s_rP; have s_rP := Nat.le_trans s_rP hb.size; have qO := qO.below hb s_qO; have s_qO := Nat.le_trans s_qO hb.size; have rO := rO.below' hb s_rO; have s_rO := Nat.le_trans s_rO hb.size; have H := H.trans (hb.mono H.size); clear hb
      go_wp2_with fail
      refine hK.out _ _ ?_ (fun hHeld => ?_)
      · exact ⟨BA.2.1 0 _ rfl, BA.2.1 1 _ rfl, BA.2.1 2 _ rfl, BB.2.1 0 _ rfl, BB.2.1 1 _ rfl, BB.2.1 2 _ rfl⟩
      clear hK K
      refine takeL 5 (v := ?v3_5) rfl (by kernel_rfl) (by kernel_rfl) (by kernel_rfl) (fun _ _ _ h => h) (by rfl) ?hy3_5 (by assumption) ?r3_5
      case hy3_5 => (intro w hSw; (try dsimp only at hSw); first | (go_simp; done) | (go_simp; with_reducible rfl))
      simp only [Act.put, List.setIfInBounds_toArray, List.set_cons_zero, List.set_cons_succ]
      refine wpAnyH_done (by kernel_rfl) ?_ _
      refine NoPanic.normal ?_
      clear qP rP qO rO s_qP s_rP s_qO s_rO
      have x0 := BA.2.1 0 _ rfl
      have x1 := BA.2.1 1 _ rfl
      have x2 := BA.2.1 2 _ rfl
      have xz := BA.1
      have y0 := BB.2.1 0 _ rfl
      have y1 := BB.2.1 1 _ rfl
      have y2 := BB.2.1 2 _ rfl
      have yz := BB.1
      go_wp2_with fail
      refine (toTab_any aR aBs arn arc abn abc acols aRA aRN aRC aRV aBV _ _ (arr.below H (Nat.le_refl _)) (abb.below' H (Nat.le_refl _)) H.size ha1 Ha2.out ha3).mono ?_
      rintro e w6 ⟨XX, XA, XY, rfl, qX, rX, hb⟩
      have BA := BA.below hb
      have BB := BB.below hb
      have H := H.trans (hb.mono H.size)
      clear hb
      have s_qX := Nat.le_refl w6.heap.size
      have s_rX := Nat.le_refl w6.heap.size
      have x0 := BA.2.1 0 _ rfl
      have x1 := BA.2.1 1 _ rfl
      have x2 := BA.2.1 2 _ rfl
      have xz := BA.1
      have y0 := BB.2.1 0 _ rfl
      have y1 := BB.2.1 1 _ rfl
      have y2 := BB.2.1 2 _ rfl
      have yz := BB.1
      go_wp2_with fail
      have hb := (Below.refl w6.heap.size w6).alloc (Nat.le_refl _) (.cells #[.slice XX arn arn, .slice XY abn abn, .int .i64 acols] 30)
      have BA := BA.below hb
      have BB := BB.below hb
      have qX := qX.below hb s_qX
      have s_qX := Nat.le_trans s_qX hb.size
      have rX := rX.below' hb s_rX
      have s_rX := Nat.le_trans s_rX hb.size
      have H := H.trans (hb.mono H.size)
      clear hb
      have BU := Bx.new w6 #[.slice XX arn arn, .slice XY abn abn, .int .i64 acols] 30
      refine (toTab_any bR bBs brn brc bbn bbc bcols bRA bRN bRC bRV bBV _ _ (brr.below H (Nat.le_refl _)) (bbb.below' H (Nat.le_refl _)) H.size hb1 Hb2.out hb3).mono ?_
      rintro e w7 ⟨YX, YA, YY, rfl, qY, rY, hb⟩
      have BA := BA.below hb
      have BB := BB.below hb
      have BU := BU.below hb
      have qX := qX.below hb s_qX
      have s_qX := Nat.le_trans s_qX hb.size
      have rX := rX.below' hb s_rX
      have s_rX := Nat.le_trans s_rX hb.size
      have H := H.trans (hb.mono H.size)
      clear hb
      have s_qY := Nat.le_refl w7.heap.size
      have s_rY := Nat.le_refl w7.heap.size
      have x0 := BA.2.1 0 _ rfl
      have x1 := BA.2.1 1 _ rfl
      have x2 := BA.2.1 2 _ rfl
      have xz := BA.1
      have y0 := BB.2.1 0 _ rfl
      have y1 := BB.2.1 1 _ rfl
      have y2 := BB.2.1 2 _ rfl
      have yz := BB.1
      have u0 := BU.2.1 0 _ rfl
      have u1 := BU.2.1 1 _ rfl
      have u2 := BU.2.1 2 _ rfl
      have uz := BU.1
      go_wp2_with fail
      have hb := (Below.refl w7.heap.size w7).alloc (Nat.le_refl _) (.cells #[.slice YX brn brn, .slice YY bbn bbn, .int .i64 bcols] 30)
      have BA := BA.below hb
      have BB := BB.below hb
      have BU := BU.below hb
      have qX := qX.below hb s_qX
      have s_qX := Nat.le_trans s_qX hb.size
      have rX := rX.below' hb s_rX
      have s_rX := Nat.le_trans s_rX hb.size
      have qY := qY.below hb s_qY
      have s_qY := Nat.le_trans s_qY hb.size
      have rY := rY.below' hb s_rY
      have s_rY := Nat.le_trans s_rY hb.size
      have H := H.trans (hb.mono H.size)
      clear hb
      have BV := Bx.new w7 #[.slice YX brn brn, .slice YY bbn bbn, .int .i64 bcols] 30
      refine (iEqTab_any XX XY arn arn abn abn acols XA aRN aRN aRV aBV YX YY brn brn bbn bbn bcols YA bRN bRN bRV bBV _ _ (qX.more s_qX) (rX.more s_rX) (qY.more s_qY) (rY.more s_rY) (Nat.le_refl _) ha1 Ha2.out ha3 hb1 Hb2.out hb3).mono ?_
      rintro e w8 ⟨rfl, hb⟩
      have BA := BA.below hb
      have BB := BB.below hb
      have BU := BU.below hb
      have BV := BV.below hb
      have qX := qX.below hb s_qX
      have s_qX := Nat.le_trans s_qX hb.size
      have rX := rX.below' hb s_rX
      have s_rX := Nat.le_trans s_rX hb.size
      have qY := qY.below hb s_qY
      have s_qY := Nat.le_trans s_qY hb.size
      have rY := rY.below' hb s_rY
      have s_rY := Nat.le_trans s_rY hb.size
      have H := H.trans (hb.mono H.size)
      clear hb
      have x0 := BA.2.1 0 _ rfl
      have x1 := BA.2.1 1 _ rfl
      have x2 := BA.2.1 2 _ rfl
      have xz := BA.1
      have y0 := BB.2.1 0 _ rfl
      have y1 := BB.2.1 1 _ rfl
      have y2 := BB.2.1 2 _ rfl
      have yz := BB.1
      have u0 := BU.2.1 0 _ rfl
      have u1 := BU.2.1 1 _ rfl
      have u2 := BU.2.1 2 _ rfl
      have uz := BU.1
      have v0 := BV.2.1 0 _ rfl
      have v1 := BV.2.1 1 _ rfl
      have v2 := BV.2.1 2 _ rfl
      have vz := BV.1
      have hb : Below w8.heap.size w8 w8.drew := (Below.refl _ _).drew
      have BA := BA.below hb
      have BB := BB.below hb
      have BU := BU.below hb
      have BV := BV.below hb
      have qX := qX.below hb s_qX
      have s_qX := Nat.le_trans s_qX hb.size
      have rX := rX.below' hb s_rX
      have s_rX := Nat.le_trans s_rX hb.size
      have qY := qY.below hb s_qY
      have s_qY := Nat.le_trans s_qY hb.size
      have rY := rY.below' hb s_rY
      have s_rY := Nat.le_trans s_rY hb.size
      have H := H.trans (hb.mono H.size)
      clear hb
      go_upto_region 14 with fail
      refine wp_region_noPanic ?_
      refine wp_region_held_drew (S := (fun w' => w'.cell? ⟨w6.heap.size, 0, none⟩ = some (.slice XX arn arn) ∧ w'.cell? ⟨w6.heap.size, 1, none⟩ = some (.slice XY abn abn) ∧ w'.cell? ⟨w6.heap.size, 2, none⟩ = some (.int .i64 acols) ∧ w'.cell? ⟨w.heap.size, 0, none⟩ = some (.slice aR arn arc) ∧ w'.cell? ⟨w.heap.size, 1, none⟩ = some (.slice aBs abn abc) ∧ w'.cell? ⟨w.heap.size, 2, none⟩ = some (.int .i64 acols))) (by kernel_rfl) ?_ (fun hHeld => ?_)
      · exact ⟨BU.2.1 0 _ rfl, BU.2.1 1 _ rfl, BU.2.1 2 _ rfl, BA.2.1 0 _ rfl, BA.2.1 1 _ rfl, BA.2.1 2 _ rfl⟩
      refine takeL 0 (v := ?v4_0) rfl (by kernel_rfl) (by kernel_rfl) (by kernel_rfl) (fun _ _ _ h => h) (by rfl) ?hy4_0 (by assumption) ?r4_0
      case hy4_0 => (intro w hSw; (try dsimp only at hSw); first | (go_simp; done) | (go_simp; with_reducible rfl))
      simp only [Act.put, List.setIfInBounds_toArray, List.set_cons_zero, List.set_cons_succ]
      refine takeL 1 (v := ?v4_1) rfl (by kernel_rfl) (by kernel_rfl) (by kernel_rfl) (fun _ _ _ h => h) (by rfl) ?hy4_1 (by assumption) ?r4_1
      case hy4_1 => (intro w hSw; (try dsimp only at hSw); first | (go_simp; done) | (go_simp; with_reducible rfl))
      simp only [Act.put, List.setIfInBounds_toArray, List.set_cons_zero, List.set_cons_succ]
      refine nextL 2 (by kernel_rfl) rfl (fun K hK => ?_)
      go_simp
      go_at_call 12; refine (toTab_any aR aBs arn arc abn abc acols aRA aRN aRC aRV aBV _ _ (arr.below H (Nat.le_refl _)) (abb.below' H (Nat.le_refl _)) H.size ha1 Ha2.out ha3).mono ?_; rintro e w9 ⟨TX, TA, TY, rfl, qT, rT, hb⟩; have BA := BA.below hb; have BB := BB.below hb; have BU := BU.below hb; have BV := BV.below hb; have qX := qX.below hb s_qX; have s_qX := Nat.le_trans s_qX hb.size; have rX := rX.below' hb s_rX; have s_rX := Nat.le_trans s_rX hb.size; have qY := qY.below hb s_qY; have s_qY := Nat.le_trans s_qY hb.size; have rY := rY.below' hb s_rY; have s_rY := Nat.le_trans s_rY hb.size; have H := H.trans (hb.mono H.size); clear hb; have s_qT := Nat.le_refl w9.heap.size; have s_rT := Nat.le_refl w9.heap.size
      go_wp2_with fail
      refine hK.out _ _ ?_ (fun hHeld => ?_)
      · exact ⟨BU.2.1 0 _ rfl, BU.2.1 1 _ rfl, BU.2.1 2 _ rfl, BA.2.1 0 _ rfl, BA.2.1 1 _ rfl, BA.2.1 2 _ rfl⟩
      clear hK K
      refine nextL 3 (by kernel_rfl) rfl (fun K hK => ?_)
      go_simp
      go_at_call 14; refine (eqTab_same XX XY arn arn abn abn acols XA aRN aRN aRV aBV TX TY arn abn TA aRN _ _ (qX.more s_qX) (rX.more s_rX) (qT.more s_qT) (rT.more s_rT) (Nat.le_refl _) ha1 Ha2.out ha3).mono ?_; rintro e w10 ⟨rfl, hb⟩; have BA := BA.below hb; have BB := BB.below hb; have BU := BU.below hb; have BV := BV.below hb; have qX := qX.below hb s_qX; have s_qX := Nat.le_trans s_qX hb.size; have rX := rX.below' hb s_rX; have s_rX := Nat.le_trans s_rX hb.size; have qY := qY.below hb s_qY; have s_qY := Nat.le_trans s_qY hb.size; have rY := rY.below' hb s_rY; have s_rY := Nat.le_trans s_rY hb.size; have qT := qT.below hb s_qT; have s_qT := Nat.le_trans s_qT hb.size; have rT := rT.below' hb s_rT; have s_rT := Nat.le_trans s_rT hb.size; have H := H.trans (hb.mono H.size); clear hb
      go_wp2_with fail
      refine hK.out _ _ ?_ (fun hHeld => ?_)
      · exact ⟨BU.2.1 0 _ rfl, BU.2.1 1 _ rfl, BU.2.1 2 _ rfl, BA.2.1 0 _ rfl, BA.2.1 1 _ rfl, BA.2.1 2 _ rfl⟩
      clear hK K
      refine takeL 4 (v := ?v4_4) rfl (by kernel_rfl) (by kernel_rfl) (by kernel_rfl) (fun _ _ _ h => h) (by rfl) ?hy4_4 (by assumption) ?r4_4
      case hy4_4 => (intro w hSw; (try dsimp only at hSw); first | (go_simp; done) | (go_simp; with_reducible rfl))
      simp only [Act.put, List.setIfInBounds_toArray, List.set_cons_zero, List.set_cons_succ]
      refine wpAnyH_done (by kernel_rfl) ?_ _
      refine NoPanic.normal ?_
      clear qT rT s_qT s_rT
      have hb : Below w10.heap.size w10 w10.drew := (Below.refl _ _).drew
      have BA := BA.below hb
      have BB := BB.below hb
      have BU := BU.below hb
      have BV := BV.below hb
      have qX := qX.below hb s_qX
      have s_qX := Nat.le_trans s_qX hb.size
      have rX := rX.below' hb s_rX
      have s_rX := Nat.le_trans s_rX hb.size
      have qY := qY.below hb s_qY
      have s_qY := Nat.le_trans s_qY hb.size
      have rY := rY.below' hb s_rY
      have s_rY := Nat.le_trans s_rY hb.size
      have H := H.trans (hb.mono H.size)
      clear hb
      go_upto_region 16 with fail
      refine wp_region_noPanic ?_
      refine wp_region_held_drew (S := (fun w' => w'.cell? ⟨w7.heap.size, 0, none⟩ = some (.slice YX brn brn) ∧ w'.cell? ⟨w7.heap.size, 1, none⟩ = some (.slice YY bbn bbn) ∧ w'.cell? ⟨w7.heap.size, 2, none⟩ = some (.int .i64 bcols) ∧ w'.cell? ⟨w.heap.size + 1, 0, none⟩ = some (.slice bR brn brc) ∧ w'.cell? ⟨w.heap.size + 1, 1, none⟩ = some (.slice bBs bbn bbc) ∧ w'.cell? ⟨w.heap.size + 1, 2, none⟩ = some (.int .i64 bcols))) (by kernel_rfl) ?_ (fun hHeld => ?_)
      · exact ⟨BV.2.1 0 _ rfl, BV.2.1 1 _ rfl, BV.2.1 2 _ rfl, BB.2.1 0 _ rfl, BB.2.1 1 _ rfl, BB.2.1 2 _ rfl⟩
      refine takeL 0 (v := ?v5_0) rfl (by kernel_rfl) (by kernel_rfl) (by kernel_rfl) (fun _ _ _ h => h) (by rfl) ?hy5_0 (by assumption) ?r5_0
      case hy5_0 => (intro w hSw; (try dsimp only at hSw); first | (go_simp; done) | (go_simp; with_reducible rfl))
      simp only [Act.put, List.setIfInBounds_toArray, List.set_cons_zero, List.set_cons_succ]
      refine takeL 1 (v := ?v5_1) rfl (by kernel_rfl) (by kernel_rfl) (by kernel_rfl) (fun _ _ _ h => h) (by rfl) ?hy5_1 (by assumption) ?r5_1
      case hy5_1 => (intro w hSw; (try dsimp only at hSw); first | (go_simp; done) | (go_simp; with_reducible rfl))
      simp only [Act.put, List.setIfInBounds_toArray, List.set_cons_zero, List.set_cons_succ]
      refine nextL 2 (by kernel_rfl) rfl (fun K hK => ?_)
      go_simp
      go_at_call 12; refine (toTab_any bR bBs brn brc bbn bbc bcols bRA bRN bRC bRV bBV _ _ (brr.below H (Nat.le_refl _)) (bbb.below' H (Nat.le_refl _)) H.size hb1 Hb2.out hb3).mono ?_; rintro e w11 ⟨ZX, ZA, ZY, rfl, qZ, rZ, hb⟩; have BA := BA.below hb; have BB := BB.below hb; have BU := BU.below hb; have BV := BV.below hb; have qX := qX.below hb s_qX; have s_qX := Nat.le_trans s_qX hb.size; have rX := rX.below' hb s_rX; have s_rX := Nat.le_trans s_rX hb.size; have qY := qY.below hb s_qY; have s_qY := Nat.le_trans s_qY hb.size; have rY := rY.below' hb s_rY; have s_rY := Nat.le_trans s_rY hb.size; have H := H.trans (hb.mono H.size); clear hb; have s_qZ := Nat.le_refl w11.heap.size; have s_rZ := Nat.le_refl w11.heap.size
      go_wp2_with fail
      refine hK.out _ _ ?_ (fun hHeld => ?_)
      · exact ⟨BV.2.1 0 _ rfl, BV.2.1 1 _ rfl, BV.2.1 2 _ rfl, BB.2.1 0 _ rfl, BB.2.1 1 _ rfl, BB.2.1 2 _ rfl⟩
      clear hK K
      refine nextL 3 (by kernel_rfl) rfl (fun K hK => ?_)
      go_simp
      go_at_call 14; refine (eqTab_same YX YY brn brn bbn bbn bcols YA bRN bRN bRV bBV ZX ZY brn bbn ZA bRN _ _ (qY.more s_qY) (rY.more s_rY) (qZ.more s_qZ) (rZ.more s_rZ) (Nat.le_refl _) hb1 Hb2.out hb3).mono ?_; rintro e w12 ⟨rfl, hb⟩; have BA := BA.below hb; have BB := BB.below hb; have BU := BU.below hb; have BV := BV.below hb; have qX := qX.below hb s_qX; have s_qX := Nat.le_trans s_qX hb.size; have rX := rX.below' hb s_rX; have s_rX := Nat.le_trans s_rX hb.size; have qY := qY.below hb s_qY; have s_qY := Nat.le_trans s_qY hb.size; have rY := rY.below' hb s_rY; have s_rY := Nat.le_trans s_rY hb.size; have qZ := qZ.below hb s_qZ; have s_qZ := Nat.le_trans s_qZ hb.size; have rZ := rZ.below' hb s_rZ; have s_rZ := Nat.le_trans s_rZ hb.size; have H := H.trans (hb.mono H.size); clear hb
      go_wp2_with fail
      refine hK.out _ _ ?_ (fun hHeld => ?_)
      · exact ⟨BV.2.1 0 _ rfl, BV.2.1 1 _ rfl, BV.2.1 2 _ rfl, BB.2.1 0 _ rfl, BB.2.1 1 _ rfl, BB.2.1 2 _ rfl⟩
      clear hK K
      refine takeL 4 (v := ?v5_4) rfl (by kernel_rfl) (by kernel_rfl) (by kernel_rfl) (fun _ _ _ h => h) (by rfl) ?hy5_4 (by assumption) ?r5_4
      case hy5_4 => (intro w hSw; (try dsimp only at hSw); first | (go_simp; done) | (go_simp; with_reducible rfl))
      simp only [Act.put, List.setIfInBounds_toArray, List.set_cons_zero, List.set_cons_succ]
      refine wpAnyH_done (by kernel_rfl) ?_ _
      refine NoPanic.normal ?_
      clear qZ rZ s_qZ s_rZ
      go_wp2
      go_ret
      exact ⟨rfl, H⟩

end Go.Proofs.Ytajafmdeencohaa
