/-
  The law FnExactPivotTableau walked: it returns true.
-/
import Derived.Test.YtajafmdeencohaaPivotS
namespace Go.Proofs.Ytajafmdeencohaa
open Go.RowKit
attribute [local go_sem ↓] Go.wp_at_zero Go.wp_at_succ

set_option maxRecDepth 40000 in
set_option maxHeartbeats 4000000 in
theorem fnExactPivotTableau_walk {w : World} (aR aBs : Option Addr) (arn arc abn abc : Nat) (acols : Int) (aRA : Nat → Option Addr) (aRN aRC : Nat → Nat) (aRV : Nat → Fr) (aBV : Nat → Int) (hma : arn ≤ maxLen ∧ (∀ j, j < arn → aRN j ≤ maxLen) ∧ abn ≤ maxLen) (arr : RdR w w.heap.size aR arn aRA aRN aRC aRV) (abb : Rd w w.heap.size 1 aBs abn (cellsI aBV abn))
    (row : Int) (_ : (Lit.int .i64 row).wf = true) (col : Int) (_ : (Lit.int .i64 col).wf = true) :
    Calls Try.prog 8 #[.agg #[.slice aR arn arc, .slice aBs abn abc, .int .i64 acols], .int .i64 row, .int .i64 col] w fun e w' => e = .returned (.bool true) ∧ Below w.heap.size w w' := by
  simp only [maxLen] at hma
  obtain ⟨m1, m2, m3⟩ := hma
  have BA : Bx (w.alloc (.cells #[.slice aR arn arc, .slice aBs abn abc, .int .i64 acols] 25)) w.heap.size [.slice aR arn arc, .slice aBs abn abc, .int .i64 acols] := Bx.new w #[.slice aR arn arc, .slice aBs abn abc, .int .i64 acols] 25
  have H : Below w.heap.size w (w.alloc (.cells #[.slice aR arn arc, .slice aBs abn abc, .int .i64 acols] 25)) := (Below.refl _ _).alloc (Nat.le_refl _) _
  have SA := Lib.hid (szTab_any aR aBs arn arc abn abc acols aRA aRN aRC aRV _ (w.alloc (.cells #[.slice aR arn arc, .slice aBs abn abc, .int .i64 acols] 25)) (arr.below H (Nat.le_refl _)) H.size 1048576 (by omega) (by omega) (by omega) (fun j hj => by have := m2 j hj; omega) (by omega))
  clear m1 m2 m3
  go_enter Try.func8, Try.ntmps8
  go_wp2_with fail
  refine SA.out.mono ?_
  rintro e w1 ⟨v, rfl, hv, hb⟩
  have BA := BA.below hb
  have H := H.trans (hb.mono H.size)
  clear hb SA
  rcases hv with rfl | ⟨v0, v1, hv1, hv2, hv3⟩
  · go_wp2
    go_ret
    exact ⟨rfl, H⟩
  · have d1 := decide_eq_false (show ¬ v < 0 by omega)
    have ha1 : arn ≤ 1048576 := by omega
    have ha2' : ∀ j, j < arn → aRN j ≤ 1048576 := fun j hj => by have := hv2 j hj; omega
    have ha3 : abn ≤ 1048576 := by omega
    have HA2 := Lib.hid ha2'
    clear hv2 ha2' hv1 hv3
    obtain ⟨ok, hok⟩ : ∃ ok, ok = Pl.pivOk acols arn aRN abn aBV aRV row col := ⟨_, rfl⟩
    have SC := Lib.hid (fun X XA XC Y lo hi wx (h : OwnTab wx lo hi X arn arn XA aRN XC aRV Y abn abn aBV) => sPivot_any X Y arn arn abn abn acols XA aRN XC aRV aBV row col _ wx h.rows_at h.basis_at (Nat.le_refl _) ha1 HA2.out ha3 (own_none h.basis) (fun j hj => own_none (h.rows.rows.own j hj)))
    have IC := Lib.hid (fun X XA XC Y lo hi wx (h : OwnTab wx lo hi X arn arn XA aRN XC aRV Y abn abn aBV) => iPivot_any X Y arn arn abn abn acols XA aRN XC aRV aBV row col _ wx h.rows_at h.basis_at (Nat.le_refl _) ha1 HA2.out ha3 (own_none h.basis) (fun j hj => own_none (h.rows.rows.own j hj)))
    unfold OwnsTP at SC IC
    rw [← hok] at SC IC
    obtain ⟨SV, hSV⟩ : ∃ SV, SV = (if ok = true then Pl.pivV aRV row.toNat col.toNat else aRV) := ⟨_, rfl⟩
    obtain ⟨SB, hSB⟩ : ∃ SB, SB = (if ok = true then Pl.pivB aBV row.toNat col else aBV) := ⟨_, rfl⟩
    rw [← hSV, ← hSB] at SC IC
    clear hok hSV hSB
    have x0 := BA.2.1 0 _ rfl
    have x1 := BA.2.1 1 _ rfl
    have x2 := BA.2.1 2 _ rfl
    have xz := BA.1
    go_wp2_with fail
    refine (toTab_own aR aBs arn arc abn abc acols aRA aRN aRC aRV aBV _ _ (arr.below H (Nat.le_refl _)) (abb.below' H (Nat.le_refl _)) H.size ha1 HA2.out ha3).mono ?_
    rintro e w2 ⟨PX, PA, PC, PY, Ph, rfl, PO, hb⟩
    have BA := BA.below hb
    have H := H.trans (hb.mono H.size)
    clear hb
    have x0 := BA.2.1 0 _ rfl
    have x1 := BA.2.1 1 _ rfl
    have x2 := BA.2.1 2 _ rfl
    have xz := BA.1
    go_wp2_with fail
    refine (SC.out PX PA PC PY _ _ _ PO).mono ?_
    rintro e w3 ⟨WX, Wc, WA, WC, WY, Wd, Wh, rfl, WO, hb⟩
    have BA := BA.below hb
    have PO := PO.below hb
    have H := H.trans (hb.mono H.size)
    clear hb
    have x0 := BA.2.1 0 _ rfl
    have x1 := BA.2.1 1 _ rfl
    have x2 := BA.2.1 2 _ rfl
    have xz := BA.1
    clear PO
    go_wp2_with fail
    have hb := (Below.refl w3.heap.size w3).alloc (Nat.le_refl _) (.cells #[.slice WX arn Wc, .slice WY abn Wd, .int .i64 acols] 30)
    have BA := BA.below hb
    have WO := WO.below hb
    have H := H.trans (hb.mono H.size)
    clear hb
    have BW := Bx.new w3 #[.slice WX arn Wc, .slice WY abn Wd, .int .i64 acols] 30
    have tW_X := WO.le
    have tH_X := H.size
    have tb_BA_X := BA.1
    have tb_BW_X := BW.1
    refine (toTab_own aR aBs arn arc abn abc acols aRA aRN aRC aRV aBV _ _ (arr.below H (Nat.le_refl _)) (abb.below' H (Nat.le_refl _)) H.size ha1 HA2.out ha3).mono ?_
    rintro e w4 ⟨XX, XA, XC, XY, Xh, rfl, XO, hb⟩
    have BA := BA.below hb
    have BW := BW.below hb
    have WO := WO.below hb
    have H := H.trans (hb.mono H.size)
    clear hb
    have x0 := BA.2.1 0 _ rfl
    have x1 := BA.2.1 1 _ rfl
    have x2 := BA.2.1 2 _ rfl
    have xz := BA.1
    have v0 := BW.2.1 0 _ rfl
    have v1 := BW.2.1 1 _ rfl
    have v2 := BW.2.1 2 _ rfl
    have vz := BW.1
    go_wp2_with fail
    have tX_BU := XO.le
    have hb := (Below.refl w4.heap.size w4).alloc (Nat.le_refl _) (.cells #[.slice XX arn arn, .slice XY abn abn, .int .i64 acols] 30)
    have BA := BA.below hb
    have BW := BW.below hb
    have WO := WO.below hb
    have XO := XO.below hb
    have H := H.trans (hb.mono H.size)
    clear hb
    have BU := Bx.new w4 #[.slice XX arn arn, .slice XY abn abn, .int .i64 acols] 30
    have tG_X := XO.le
    have tW_G := WO.le
    have tH_G := H.size
    have tb_BA_G := BA.1
    have tb_BW_G := BW.1
    have tb_BU_G := BU.1
    refine (IC.out XX XA XC XY _ _ _ XO).mono ?_
    rintro e w5 ⟨GX, Gc, GA, GC, GY, Gd, Gh, rfl, GO, hb⟩
    have BA := BA.below hb
    have BW := BW.below hb
    have BU := BU.below hb
    have WO := WO.below hb
    have XO := XO.below hb
    have H := H.trans (hb.mono H.size)
    clear hb
    have x0 := BA.2.1 0 _ rfl
    have x1 := BA.2.1 1 _ rfl
    have x2 := BA.2.1 2 _ rfl
    have xz := BA.1
    have v0 := BW.2.1 0 _ rfl
    have v1 := BW.2.1 1 _ rfl
    have v2 := BW.2.1 2 _ rfl
    have vz := BW.1
    have u0 := BU.2.1 0 _ rfl
    have u1 := BU.2.1 1 _ rfl
    have u2 := BU.2.1 2 _ rfl
    have uz := BU.1
    go_wp2_with fail
    have tX_BG := XO.le
    have tG_BG := GO.le
    have hb := (Below.refl w5.heap.size w5).alloc (Nat.le_refl _) (.cells #[.slice GX arn Gc, .slice GY abn Gd, .int .i64 acols] 30)
    have BA := BA.below hb
    have BW := BW.below hb
    have BU := BU.below hb
    have WO := WO.below hb
    have XO := XO.below hb
    have GO := GO.below hb
    have H := H.trans (hb.mono H.size)
    clear hb
    have BG := Bx.new w5 #[.slice GX arn Gc, .slice GY abn Gd, .int .i64 acols] 30
    have x0 := BA.2.1 0 _ rfl
    have x1 := BA.2.1 1 _ rfl
    have x2 := BA.2.1 2 _ rfl
    have xz := BA.1
    have v0 := BW.2.1 0 _ rfl
    have v1 := BW.2.1 1 _ rfl
    have v2 := BW.2.1 2 _ rfl
    have vz := BW.1
    have u0 := BU.2.1 0 _ rfl
    have u1 := BU.2.1 1 _ rfl
    have u2 := BU.2.1 2 _ rfl
    have uz := BU.1
    have g0 := BG.2.1 0 _ rfl
    have g1 := BG.2.1 1 _ rfl
    have g2 := BG.2.1 2 _ rfl
    have gz := BG.1
    refine (eqTab_same GX GY arn Gc abn Gd acols GA aRN GC SV SB WX WY Wc Wd WA WC _ _ GO.rows_at GO.basis_at WO.rows_at WO.basis_at (Nat.le_refl _) ha1 HA2.out ha3).mono ?_
    rintro e w6 ⟨rfl, hb⟩
    have BA := BA.below hb
    have BW := BW.below hb
    have BU := BU.below hb
    have BG := BG.below hb
    have WO := WO.below hb
    have XO := XO.below hb
    have GO := GO.below hb
    have H := H.trans (hb.mono H.size)
    clear hb
    have x0 := BA.2.1 0 _ rfl
    have x1 := BA.2.1 1 _ rfl
    have x2 := BA.2.1 2 _ rfl
    have xz := BA.1
    have v0 := BW.2.1 0 _ rfl
    have v1 := BW.2.1 1 _ rfl
    have v2 := BW.2.1 2 _ rfl
    have vz := BW.1
    have u0 := BU.2.1 0 _ rfl
    have u1 := BU.2.1 1 _ rfl
    have u2 := BU.2.1 2 _ rfl
    have uz := BU.1
    have g0 := BG.2.1 0 _ rfl
    have g1 := BG.2.1 1 _ rfl
    have g2 := BG.2.1 2 _ rfl
    have gz := BG.1
    have hb : Below w6.heap.size w6 w6.drew := (Below.refl _ _).drew
    have BA := BA.below hb
    have BW := BW.below hb
    have BU := BU.below hb
    have BG := BG.below hb
    have WO := WO.below hb
    have XO := XO.below hb
    have GO := GO.below hb
    have H := H.trans (hb.mono H.size)
    clear hb
    go_upto_region 10 with fail
    refine wp_region_noPanic ?_
    refine wp_region_held_drew (S := (fun w' => w'.cell? ⟨w4.heap.size, 0, none⟩ = some (.slice XX arn arn) ∧ w'.cell? ⟨w4.heap.size, 1, none⟩ = some (.slice XY abn abn) ∧ w'.cell? ⟨w4.heap.size, 2, none⟩ = some (.int .i64 acols) ∧ w'.cell? ⟨w.heap.size, 0, none⟩ = some (.slice aR arn arc) ∧ w'.cell? ⟨w.heap.size, 1, none⟩ = some (.slice aBs abn abc) ∧ w'.cell? ⟨w.heap.size, 2, none⟩ = some (.int .i64 acols))) (by kernel_rfl) ?_ (fun hHeld => ?_)
    · exact ⟨BU.2.1 0 _ rfl, BU.2.1 1 _ rfl, BU.2.1 2 _ rfl, BA.2.1 0 _ rfl, BA.2.1 1 _ rfl, BA.2.1 2 _ rfl⟩
    refine takeN 0 (v := ?v1_0) rfl (by kernel_rfl) (by kernel_rfl) (by kernel_rfl) (fun _ _ _ h => h) (by rfl) ?hy1_0 (by assumption) ?r1_0
    case hy1_0 => (intro w hSw; (try dsimp only at hSw); first | (go_simp; done) | (go_simp; with_reducible rfl))
    simp only [Act.put, List.setIfInBounds_toArray, List.set_cons_zero, List.set_cons_succ]
    refine takeN 1 (v := ?v1_1) rfl (by kernel_rfl) (by kernel_rfl) (by kernel_rfl) (fun _ _ _ h => h) (by rfl) ?hy1_1 (by assumption) ?r1_1
    case hy1_1 => (intro w hSw; (try dsimp only at hSw); first | (go_simp; done) | (go_simp; with_reducible rfl))
    simp only [Act.put, List.setIfInBounds_toArray, List.set_cons_zero, List.set_cons_succ]
    refine nextN 2 (by kernel_rfl) rfl (fun K hK => ?_)
    go_simp
    go_at_call 12; refine (toTab_own aR aBs arn arc abn abc acols aRA aRN aRC aRV aBV _ _ (arr.below H (Nat.le_refl _)) (abb.below' H (Nat.le_refl _)) H.size ha1 HA2.out ha3).mono ?_; rintro e w7 ⟨TX, TA, TC, TY, Th, rfl, TO, hb⟩; have BA := BA.below hb; have BW := BW.below hb; have BU := BU.below hb; have BG := BG.below hb; have WO := WO.below hb; have XO := XO.below hb; have GO := GO.below hb; have H := H.trans (hb.mono H.size); clear hb
    go_wp2_with fail
    refine hK.out _ _ ?_ (fun hHeld => ?_)
    · exact ⟨BU.2.1 0 _ rfl, BU.2.1 1 _ rfl, BU.2.1 2 _ rfl, BA.2.1 0 _ rfl, BA.2.1 1 _ rfl, BA.2.1 2 _ rfl⟩
    clear hK K
    refine nextN 3 (by kernel_rfl) rfl (fun K hK => ?_)
    go_simp
    go_at_call 14; refine (eqTab_same XX XY arn arn abn abn acols XA aRN XC aRV aBV TX TY arn abn TA TC _ _ XO.rows_at XO.basis_at TO.rows_at TO.basis_at (Nat.le_refl _) ha1 HA2.out ha3).mono ?_; rintro e w8 ⟨rfl, hb⟩; have BA := BA.below hb; have BW := BW.below hb; have BU := BU.below hb; have BG := BG.below hb; have WO := WO.below hb; have XO := XO.below hb; have GO := GO.below hb; have TO := TO.below hb; have H := H.trans (hb.mono H.size); clear hb
    go_wp2_with fail
    refine hK.out _ _ ?_ (fun hHeld => ?_)
    · exact ⟨BU.2.1 0 _ rfl, BU.2.1 1 _ rfl, BU.2.1 2 _ rfl, BA.2.1 0 _ rfl, BA.2.1 1 _ rfl, BA.2.1 2 _ rfl⟩
    clear hK K
    refine takeN 4 (v := ?v1_4) rfl (by kernel_rfl) (by kernel_rfl) (by kernel_rfl) (fun _ _ _ h => h) (by rfl) ?hy1_4 (by assumption) ?r1_4
    case hy1_4 => (intro w hSw; (try dsimp only at hSw); first | (go_simp; done) | (go_simp; with_reducible rfl))
    simp only [Act.put, List.setIfInBounds_toArray, List.set_cons_zero, List.set_cons_succ]
    refine wpAnyH_done (by kernel_rfl) ?_ _
    refine NoPanic.normal ?_
    clear TO
    have x0 := BA.2.1 0 _ rfl
    have x1 := BA.2.1 1 _ rfl
    have x2 := BA.2.1 2 _ rfl
    have xz := BA.1
    have v0 := BW.2.1 0 _ rfl
    have v1 := BW.2.1 1 _ rfl
    have v2 := BW.2.1 2 _ rfl
    have vz := BW.1
    have u0 := BU.2.1 0 _ rfl
    have u1 := BU.2.1 1 _ rfl
    have u2 := BU.2.1 2 _ rfl
    have uz := BU.1
    have g0 := BG.2.1 0 _ rfl
    have g1 := BG.2.1 1 _ rfl
    have g2 := BG.2.1 2 _ rfl
    have gz := BG.1
    go_wp2_with fail
    refine (markTab_only XX arn arn XA aRN XC aRV XY abn abn aBV acols _ _ 1 _ XO ha1 HA2.out ha3 (by omega) (by omega)).mono ?_
    rintro e w9 ⟨mk, rfl, mk0, om⟩
    have dmk := decide_eq_false (show ¬ mk < 0 by omega)
    have WO := WO.only om (Or.inr tW_X)
    have GO := GO.only om (Or.inl tG_X)
    have BA := BA.only om (Or.inl tb_BA_X)
    have BW := BW.only om (Or.inl tb_BW_X)
    have BU := BU.only om (Or.inr tX_BU)
    have BG := BG.only om (Or.inr tX_BG)
    have H := H.only om H.size tH_X
    clear om
    have x0 := BA.2.1 0 _ rfl
    have x1 := BA.2.1 1 _ rfl
    have x2 := BA.2.1 2 _ rfl
    have xz := BA.1
    have v0 := BW.2.1 0 _ rfl
    have v1 := BW.2.1 1 _ rfl
    have v2 := BW.2.1 2 _ rfl
    have vz := BW.1
    have u0 := BU.2.1 0 _ rfl
    have u1 := BU.2.1 1 _ rfl
    have u2 := BU.2.1 2 _ rfl
    have uz := BU.1
    have g0 := BG.2.1 0 _ rfl
    have g1 := BG.2.1 1 _ rfl
    have g2 := BG.2.1 2 _ rfl
    have gz := BG.1
    clear XO
    go_wp2_with fail
    refine (eqTab_same GX GY arn Gc abn Gd acols GA aRN GC SV SB WX WY Wc Wd WA WC _ _ GO.rows_at GO.basis_at WO.rows_at WO.basis_at (Nat.le_refl _) ha1 HA2.out ha3).mono ?_
    rintro e w10 ⟨rfl, hb⟩
    have BA := BA.below hb
    have BW := BW.below hb
    have BU := BU.below hb
    have BG := BG.below hb
    have WO := WO.below hb
    have GO := GO.below hb
    have H := H.trans (hb.mono H.size)
    clear hb
    have x0 := BA.2.1 0 _ rfl
    have x1 := BA.2.1 1 _ rfl
    have x2 := BA.2.1 2 _ rfl
    have xz := BA.1
    have v0 := BW.2.1 0 _ rfl
    have v1 := BW.2.1 1 _ rfl
    have v2 := BW.2.1 2 _ rfl
    have vz := BW.1
    have u0 := BU.2.1 0 _ rfl
    have u1 := BU.2.1 1 _ rfl
    have u2 := BU.2.1 2 _ rfl
    have uz := BU.1
    have g0 := BG.2.1 0 _ rfl
    have g1 := BG.2.1 1 _ rfl
    have g2 := BG.2.1 2 _ rfl
    have gz := BG.1
    go_wp2_with fail
    refine (markTab_own GX arn Gc GA aRN GC SV GY abn Gd SB acols _ _ 1 _ GO ha1 HA2.out ha3 (by omega) (by omega)).mono ?_
    rintro e w11 ⟨rfl, GO, om⟩
    have dmq := decide_eq_false (show ¬ 1 + 2 * (sumN aRN arn : Int) + (abn : Int) < 0 by omega)
    have WO := WO.only om (Or.inr tW_G)
    have BA := BA.only om (Or.inl tb_BA_G)
    have BW := BW.only om (Or.inl tb_BW_G)
    have BG := BG.only om (Or.inr tG_BG)
    have H := H.only om H.size tH_G
    clear om
    have x0 := BA.2.1 0 _ rfl
    have x1 := BA.2.1 1 _ rfl
    have x2 := BA.2.1 2 _ rfl
    have xz := BA.1
    have v0 := BW.2.1 0 _ rfl
    have v1 := BW.2.1 1 _ rfl
    have v2 := BW.2.1 2 _ rfl
    have vz := BW.1
    have g0 := BG.2.1 0 _ rfl
    have g1 := BG.2.1 1 _ rfl
    have g2 := BG.2.1 2 _ rfl
    have gz := BG.1
    go_wp2_with fail
    refine (heldTab_any GX arn Gc GA aRN GC GY abn Gd acols _ _ 1 _ GO ha1 HA2.out ha3 (by omega) (by omega)).mono ?_
    rintro e w12 ⟨rfl, hb⟩
    have BA := BA.below hb
    have BW := BW.below hb
    have BG := BG.below hb
    have WO := WO.below hb
    have GO := GO.below hb
    have H := H.trans (hb.mono H.size)
    clear hb
    have x0 := BA.2.1 0 _ rfl
    have x1 := BA.2.1 1 _ rfl
    have x2 := BA.2.1 2 _ rfl
    have xz := BA.1
    have v0 := BW.2.1 0 _ rfl
    have v1 := BW.2.1 1 _ rfl
    have v2 := BW.2.1 2 _ rfl
    have vz := BW.1
    have g0 := BG.2.1 0 _ rfl
    have g1 := BG.2.1 1 _ rfl
    have g2 := BG.2.1 2 _ rfl
    have gz := BG.1
    go_wp2_with fail
    refine (toTab_own aR aBs arn arc abn abc acols aRA aRN aRC aRV aBV _ _ (arr.below H (Nat.le_refl _)) (abb.below' H (Nat.le_refl _)) H.size ha1 HA2.out ha3).mono ?_
    rintro e w13 ⟨YX, YA, YC, YY, Yh, rfl, YO, hb⟩
    have BA := BA.below hb
    have BW := BW.below hb
    have BG := BG.below hb
    have WO := WO.below hb
    have GO := GO.below hb
    have H := H.trans (hb.mono H.size)
    clear hb
    have x0 := BA.2.1 0 _ rfl
    have x1 := BA.2.1 1 _ rfl
    have x2 := BA.2.1 2 _ rfl
    have xz := BA.1
    have v0 := BW.2.1 0 _ rfl
    have v1 := BW.2.1 1 _ rfl
    have v2 := BW.2.1 2 _ rfl
    have vz := BW.1
    have g0 := BG.2.1 0 _ rfl
    have g1 := BG.2.1 1 _ rfl
    have g2 := BG.2.1 2 _ rfl
    have gz := BG.1
    go_wp2_with fail
    refine (IC.out YX YA YC YY _ _ _ YO).mono ?_
    rintro e w14 ⟨KX, Kc, KA, KC, KY, Kd, Kh, rfl, KO, hb⟩
    have BA := BA.below hb
    have BW := BW.below hb
    have BG := BG.below hb
    have WO := WO.below hb
    have GO := GO.below hb
    have YO := YO.below hb
    have H := H.trans (hb.mono H.size)
    clear hb
    have x0 := BA.2.1 0 _ rfl
    have x1 := BA.2.1 1 _ rfl
    have x2 := BA.2.1 2 _ rfl
    have xz := BA.1
    have v0 := BW.2.1 0 _ rfl
    have v1 := BW.2.1 1 _ rfl
    have v2 := BW.2.1 2 _ rfl
    have vz := BW.1
    have g0 := BG.2.1 0 _ rfl
    have g1 := BG.2.1 1 _ rfl
    have g2 := BG.2.1 2 _ rfl
    have gz := BG.1
    clear YO
    go_wp2_with fail
    have hb := (Below.refl w14.heap.size w14).alloc (Nat.le_refl _) (.cells #[.slice KX arn Kc, .slice KY abn Kd, .int .i64 acols] 30)
    have BA := BA.below hb
    have BW := BW.below hb
    have BG := BG.below hb
    have WO := WO.below hb
    have GO := GO.below hb
    have KO := KO.below hb
    have H := H.trans (hb.mono H.size)
    clear hb
    have BK := Bx.new w14 #[.slice KX arn Kc, .slice KY abn Kd, .int .i64 acols] 30
    have x0 := BA.2.1 0 _ rfl
    have x1 := BA.2.1 1 _ rfl
    have x2 := BA.2.1 2 _ rfl
    have xz := BA.1
    have v0 := BW.2.1 0 _ rfl
    have v1 := BW.2.1 1 _ rfl
    have v2 := BW.2.1 2 _ rfl
    have vz := BW.1
    have g0 := BG.2.1 0 _ rfl
    have g1 := BG.2.1 1 _ rfl
    have g2 := BG.2.1 2 _ rfl
    have gz := BG.1
    have h0 := BK.2.1 0 _ rfl
    have h1 := BK.2.1 1 _ rfl
    have h2 := BK.2.1 2 _ rfl
    have hz := BK.1
    refine (eqTab_same KX KY arn Kc abn Kd acols KA aRN KC SV SB WX WY Wc Wd WA WC _ _ KO.rows_at KO.basis_at WO.rows_at WO.basis_at (Nat.le_refl _) ha1 HA2.out ha3).mono ?_
    rintro e w15 ⟨rfl, hb⟩
    have BA := BA.below hb
    have BW := BW.below hb
    have BG := BG.below hb
    have BK := BK.below hb
    have WO := WO.below hb
    have GO := GO.below hb
    have KO := KO.below hb
    have H := H.trans (hb.mono H.size)
    clear hb
    have x0 := BA.2.1 0 _ rfl
    have x1 := BA.2.1 1 _ rfl
    have x2 := BA.2.1 2 _ rfl
    have xz := BA.1
    have v0 := BW.2.1 0 _ rfl
    have v1 := BW.2.1 1 _ rfl
    have v2 := BW.2.1 2 _ rfl
    have vz := BW.1
    have g0 := BG.2.1 0 _ rfl
    have g1 := BG.2.1 1 _ rfl
    have g2 := BG.2.1 2 _ rfl
    have gz := BG.1
    have h0 := BK.2.1 0 _ rfl
    have h1 := BK.2.1 1 _ rfl
    have h2 := BK.2.1 2 _ rfl
    have hz := BK.1
    go_wp2_with fail
    refine (heldTab_any GX arn Gc GA aRN GC GY abn Gd acols _ _ 1 _ GO ha1 HA2.out ha3 (by omega) (by omega)).mono ?_
    rintro e w16 ⟨rfl, hb⟩
    have BA := BA.below hb
    have BW := BW.below hb
    have BG := BG.below hb
    have BK := BK.below hb
    have WO := WO.below hb
    have GO := GO.below hb
    have KO := KO.below hb
    have H := H.trans (hb.mono H.size)
    clear hb
    have x0 := BA.2.1 0 _ rfl
    have x1 := BA.2.1 1 _ rfl
    have x2 := BA.2.1 2 _ rfl
    have xz := BA.1
    have v0 := BW.2.1 0 _ rfl
    have v1 := BW.2.1 1 _ rfl
    have v2 := BW.2.1 2 _ rfl
    have vz := BW.1
    have g0 := BG.2.1 0 _ rfl
    have g1 := BG.2.1 1 _ rfl
    have g2 := BG.2.1 2 _ rfl
    have gz := BG.1
    have h0 := BK.2.1 0 _ rfl
    have h1 := BK.2.1 1 _ rfl
    have h2 := BK.2.1 2 _ rfl
    have hz := BK.1
    go_wp2
    go_ret
    exact ⟨rfl, H⟩

end Go.Proofs.Ytajafmdeencohaa
