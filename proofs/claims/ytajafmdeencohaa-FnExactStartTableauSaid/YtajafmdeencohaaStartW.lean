/-
  The law FnExactStartTableau walked: it returns true.
-/
import Derived.Test.YtajafmdeencohaaLpOpen
import Derived.Test.YtajafmdeencohaaStart
namespace Go.Proofs.Ytajafmdeencohaa
open Go.RowKit
attribute [local go_sem ↓] Go.wp_at_zero Go.wp_at_succ

set_option maxRecDepth 40000 in
set_option maxHeartbeats 4000000 in
theorem fnExactStartTableau_walk {w : World} (aR aBs aCs : Option Addr) (arn arc abn abc acn acc : Nat) (aRA : Nat → Option Addr) (aRN aRC : Nat → Nat) (aRV : Nat → Nat → Int) (aBV : Nat → Int) (aCV : Fr) (hma : arn ≤ maxLen ∧ (∀ j, j < arn → aRN j ≤ maxLen) ∧ abn ≤ maxLen ∧ acn ≤ maxLen) (arr : RdI w w.heap.size aR arn aRA aRN aRC aRV) (abb : Rd w w.heap.size 1 aBs abn (cellsI aBV abn)) (acr : RdP w w.heap.size aCs acn aCV) :
    Calls Try.prog 7 #[.agg #[.slice aR arn arc, .slice aBs abn abc, .slice aCs acn acc]] w fun e w' => e = .returned (.bool true) ∧ Below w.heap.size w w' := by
  simp only [maxLen] at hma
  obtain ⟨m1, m2, m3, m4⟩ := hma
  have BA : Bx (w.alloc (.cells #[.slice aR arn arc, .slice aBs abn abc, .slice aCs acn acc] 49)) w.heap.size [.slice aR arn arc, .slice aBs abn abc, .slice aCs acn acc] := Bx.new w #[.slice aR arn arc, .slice aBs abn abc, .slice aCs acn acc] 49
  have H : Below w.heap.size w (w.alloc (.cells #[.slice aR arn arc, .slice aBs abn abc, .slice aCs acn acc] 49)) := (Below.refl _ _).alloc (Nat.le_refl _) _
  have SA := Lib.hid (szLP_any aR aBs aCs arn arc abn abc acn acc aRA aRN aRC aRV _ (w.alloc (.cells #[.slice aR arn arc, .slice aBs abn abc, .slice aCs acn acc] 49)) (arr.below H (Nat.le_refl _)) H.size 1048576 (by omega) (by omega) (by omega) (fun j hj => by have := m2 j hj; omega) (by omega) (by omega))
  clear m1 m2 m3 m4
  go_enter Try.func7, Try.ntmps7
  go_wp2_with fail
  refine SA.out.mono ?_
  rintro e w1 ⟨v, rfl, hv, hb⟩
  have BA := BA.below hb
  have H := H.trans (hb.mono H.size)
  clear hb SA
  rcases hv with rfl | ⟨v0, v1, hv1, hv2, hv3, hv4⟩
  · go_wp2
    go_ret
    exact ⟨rfl, H⟩
  · have d1 := decide_eq_false (show ¬ v < 0 by omega)
    have ha1 : arn ≤ 1048576 := by omega
    have ha2' : ∀ j, j < arn → aRN j ≤ 1048576 := fun j hj => by have := hv2 j hj; omega
    have ha3 : abn ≤ 1048576 := by omega
    have ha4 : acn ≤ 1048576 := by omega
    have HA2 := Lib.hid ha2'
    clear hv2 ha2' hv1 hv3 hv4
    obtain ⟨nn, hm⟩ : ∃ nn, nn = (if Pl.validLP acn arn aRN aRV abn aBV aCV = true then arn else 0) := ⟨_, rfl⟩
    obtain ⟨cc, hc⟩ : ∃ cc : Int, cc = (if Pl.validLP acn arn aRN aRV abn aBV aCV = true then (acn : Int) else 0) := ⟨_, rfl⟩
    obtain ⟨SN, hN⟩ : ∃ SN : Nat → Nat, SN = (fun _ => acn + arn + 1) := ⟨_, rfl⟩
    obtain ⟨SV, hV⟩ : ∃ SV, SV = Pl.startV acn arn aRV aBV := ⟨_, rfl⟩
    obtain ⟨SB, hSB⟩ : ∃ SB, SB = Pl.startB acn := ⟨_, rfl⟩
    have hnn : nn ≤ 1048576 := by
      rw [hm]
      split <;> omega
    have HSN : Hid (∀ j, j < nn → SN j ≤ 1048576) := Lib.hid (by
      intro j hj
      rw [hN]
      rw [hm] at hj
      split at hj
      · rename_i h
        have q := Pl.lpFacts h
        have q1 := q.1
        have q2 := q.2.1
        show acn + arn + 1 ≤ _
        omega
      · omega)
    have SC := Lib.hid (fun X XA XC Y Z lo hi wx (h : OwnLP wx lo hi X arn XA aRN XC aRV Y abn aBV Z acn aCV) => sStart_any X Y Z arn arn abn abn acn acn XA aRN XC aRV aBV aCV _ wx (h.rds.1.more h.hi_le) (h.rds.2.1.more h.hi_le) (h.rds.2.2.more h.hi_le) (Nat.le_refl _) ha1 HA2.out ha3 ha4)
    have IC := Lib.hid (fun X XA XC Y Z lo hi wx (h : OwnLP wx lo hi X arn XA aRN XC aRV Y abn aBV Z acn aCV) => iStart_any X Y Z arn arn abn abn acn acn XA aRN XC aRV aBV aCV _ wx (h.rds.1.more h.hi_le) (h.rds.2.1.more h.hi_le) (h.rds.2.2.more h.hi_le) (Nat.le_refl _) ha1 HA2.out ha3 ha4)
    unfold OwnsTab at SC IC
    rw [← hm, ← hc, ← hN, ← hV, ← hSB] at SC IC
    clear hm hc hN hV hSB
    have x0 := BA.2.1 0 _ rfl
    have x1 := BA.2.1 1 _ rfl
    have x2 := BA.2.1 2 _ rfl
    have xz := BA.1
    go_wp2_with fail
    refine (toLP_any aR aBs aCs arn arc abn abc acn acc aRA aRN aRC aRV aBV aCV _ _ (arr.below H (Nat.le_refl _)) (abb.below' H (Nat.le_refl _)) (acr.below H (Nat.le_refl _)) H.size ha1 HA2.out ha3 ha4).mono ?_
    rintro e w2 ⟨PX, PA, PC, PY, PZ, Ph, rfl, PO, hb⟩
    have BA := BA.below hb
    have H := H.trans (hb.mono H.size)
    clear hb
    have x0 := BA.2.1 0 _ rfl
    have x1 := BA.2.1 1 _ rfl
    have x2 := BA.2.1 2 _ rfl
    have xz := BA.1
    go_wp2_with fail
    refine (SC.out PX PA PC PY PZ _ _ _ PO).mono ?_
    rintro e w3 ⟨WX, Wc, WA, WC, WY, Wd, Wh, rfl, WO, hb⟩
    have BA := BA.below hb
    have PO := PO.below hb
    have H := H.trans (hb.mono H.size)
    clear hb
    have x0 := BA.2.1 0 _ rfl
    have x1 := BA.2.1 1 _ rfl
    have x2 := BA.2.1 2 _ rfl
    have xz := BA.1
    clear PO
    go_wp2_with fail
    have hb := (Below.refl w3.heap.size w3).alloc (Nat.le_refl _) (.cells #[.slice WX nn Wc, .slice WY nn Wd, .int .i64 cc] 30)
    have BA := BA.below hb
    have WO := WO.below hb
    have H := H.trans (hb.mono H.size)
    clear hb
    have BW := Bx.new w3 #[.slice WX nn Wc, .slice WY nn Wd, .int .i64 cc] 30
    have tW_X := WO.le
    have tH_X := H.size
    have tb_BA_X := BA.1
    have tb_BW_X := BW.1
    refine (toLP_any aR aBs aCs arn arc abn abc acn acc aRA aRN aRC aRV aBV aCV _ _ (arr.below H (Nat.le_refl _)) (abb.below' H (Nat.le_refl _)) (acr.below H (Nat.le_refl _)) H.size ha1 HA2.out ha3 ha4).mono ?_
    rintro e w4 ⟨XX, XA, XC, XY, XZ, Xh, rfl, XO, hb⟩
    have BA := BA.below hb
    have BW := BW.below hb
    have WO := WO.below hb
    have H := H.trans (hb.mono H.size)
    clear hb
    have x0 := BA.2.1 0 _ rfl
    have x1 := BA.2.1 1 _ rfl
    have x2 := BA.2.1 2 _ rfl
    have xz := BA.1
    have v0 := BW.2.1 0 _ rfl
    have v1 := BW.2.1 1 _ rfl
    have v2 := BW.2.1 2 _ rfl
    have vz := BW.1
    go_wp2_with fail
    have tX_BU := XO.hi_le
    have hb := (Below.refl w4.heap.size w4).alloc (Nat.le_refl _) (.cells #[.slice XX arn arn, .slice XY abn abn, .slice XZ acn acn] 53)
    have BA := BA.below hb
    have BW := BW.below hb
    have WO := WO.below hb
    have XO := XO.below hb
    have H := H.trans (hb.mono H.size)
    clear hb
    have BU := Bx.new w4 #[.slice XX arn arn, .slice XY abn abn, .slice XZ acn acn] 53
    have tG_X := XO.hi_le
    have tW_G := WO.le
    have tH_G := H.size
    have tb_BA_G := BA.1
    have tb_BW_G := BW.1
    have tb_BU_G := BU.1
    refine (IC.out XX XA XC XY XZ _ _ _ XO).mono ?_
    rintro e w5 ⟨GX, Gc, GA, GC, GY, Gd, Gh, rfl, GO, hb⟩
    have BA := BA.below hb
    have BW := BW.below hb
    have BU := BU.below hb
    have WO := WO.below hb
    have XO := XO.below hb
    have H := H.trans (hb.mono H.size)
    clear hb
    have x0 := BA.2.1 0 _ rfl
    have x1 := BA.2.1 1 _ rfl
    have x2 := BA.2.1 2 _ rfl
    have xz := BA.1
    have v0 := BW.2.1 0 _ rfl
    have v1 := BW.2.1 1 _ rfl
    have v2 := BW.2.1 2 _ rfl
    have vz := BW.1
    have u0 := BU.2.1 0 _ rfl
    have u1 := BU.2.1 1 _ rfl
    have u2 := BU.2.1 2 _ rfl
    have uz := BU.1
    go_wp2_with fail
    have tX_BG := XO.hi_le
    have tG_BG := GO.le
    have hb := (Below.refl w5.heap.size w5).alloc (Nat.le_refl _) (.cells #[.slice GX nn Gc, .slice GY nn Gd, .int .i64 cc] 30)
    have BA := BA.below hb
    have BW := BW.below hb
    have BU := BU.below hb
    have WO := WO.below hb
    have XO := XO.below hb
    have GO := GO.below hb
    have H := H.trans (hb.mono H.size)
    clear hb
    have BG := Bx.new w5 #[.slice GX nn Gc, .slice GY nn Gd, .int .i64 cc] 30
    have x0 := BA.2.1 0 _ rfl
    have x1 := BA.2.1 1 _ rfl
    have x2 := BA.2.1 2 _ rfl
    have xz := BA.1
    have v0 := BW.2.1 0 _ rfl
    have v1 := BW.2.1 1 _ rfl
    have v2 := BW.2.1 2 _ rfl
    have vz := BW.1
    have u0 := BU.2.1 0 _ rfl
    have u1 := BU.2.1 1 _ rfl
    have u2 := BU.2.1 2 _ rfl
    have uz := BU.1
    have g0 := BG.2.1 0 _ rfl
    have g1 := BG.2.1 1 _ rfl
    have g2 := BG.2.1 2 _ rfl
    have gz := BG.1
    refine (eqTab_same GX GY nn Gc nn Gd cc GA SN GC SV SB WX WY Wc Wd WA WC _ _ GO.rows_at GO.basis_at WO.rows_at WO.basis_at (Nat.le_refl _) hnn HSN.out hnn).mono ?_
    rintro e w6 ⟨rfl, hb⟩
    have BA := BA.below hb
    have BW := BW.below hb
    have BU := BU.below hb
    have BG := BG.below hb
    have WO := WO.below hb
    have XO := XO.below hb
    have GO := GO.below hb
    have H := H.trans (hb.mono H.size)
    clear hb
    have x0 := BA.2.1 0 _ rfl
    have x1 := BA.2.1 1 _ rfl
    have x2 := BA.2.1 2 _ rfl
    have xz := BA.1
    have v0 := BW.2.1 0 _ rfl
    have v1 := BW.2.1 1 _ rfl
    have v2 := BW.2.1 2 _ rfl
    have vz := BW.1
    have u0 := BU.2.1 0 _ rfl
    have u1 := BU.2.1 1 _ rfl
    have u2 := BU.2.1 2 _ rfl
    have uz := BU.1
    have g0 := BG.2.1 0 _ rfl
    have g1 := BG.2.1 1 _ rfl
    have g2 := BG.2.1 2 _ rfl
    have gz := BG.1
    have hb : Below w6.heap.size w6 w6.drew := (Below.refl _ _).drew
    have BA := BA.below hb
    have BW := BW.below hb
    have BU := BU.below hb
    have BG := BG.below hb
    have WO := WO.below hb
    have XO := XO.below hb
    have GO := GO.below hb
    have H := H.trans (hb.mono H.size)
    clear hb
    go_upto_region 10 with fail
    refine wp_region_noPanic ?_
    refine wp_region_held_drew (S := (fun w' => w'.cell? ⟨w4.heap.size, 0, none⟩ = some (.slice XX arn arn) ∧ w'.cell? ⟨w4.heap.size, 1, none⟩ = some (.slice XY abn abn) ∧ w'.cell? ⟨w4.heap.size, 2, none⟩ = some (.slice XZ acn acn) ∧ w'.cell? ⟨w.heap.size, 0, none⟩ = some (.slice aR arn arc) ∧ w'.cell? ⟨w.heap.size, 1, none⟩ = some (.slice aBs abn abc) ∧ w'.cell? ⟨w.heap.size, 2, none⟩ = some (.slice aCs acn acc))) (by kernel_rfl) ?_ (fun hHeld => ?_)
    · exact ⟨BU.2.1 0 _ rfl, BU.2.1 1 _ rfl, BU.2.1 2 _ rfl, BA.2.1 0 _ rfl, BA.2.1 1 _ rfl, BA.2.1 2 _ rfl⟩
    refine takeN 0 (v := ?v1_0) rfl (by kernel_rfl) (by kernel_rfl) (by kernel_rfl) (fun _ _ _ h => h) (by rfl) ?hy1_0 (by assumption) ?r1_0
    case hy1_0 => (intro w hSw; (try dsimp only at hSw); first | (go_simp; done) | (go_simp; with_reducible rfl))
    simp only [Act.put, List.setIfInBounds_toArray, List.set_cons_zero, List.set_cons_succ]
    refine takeN 1 (v := ?v1_1) rfl (by kernel_rfl) (by kernel_rfl) (by kernel_rfl) (fun _ _ _ h => h) (by rfl) ?hy1_1 (by assumption) ?r1_1
    case hy1_1 => (intro w hSw; (try dsimp only at hSw); first | (go_simp; done) | (go_simp; with_reducible rfl))
    simp only [Act.put, List.setIfInBounds_toArray, List.set_cons_zero, List.set_cons_succ]
    refine nextN 2 (by kernel_rfl) rfl (fun K hK => ?_)
    go_simp
    go_at_call 29; refine (toLP_any aR aBs aCs arn arc abn abc acn acc aRA aRN aRC aRV aBV aCV _ _ (arr.below H (Nat.le_refl _)) (abb.below' H (Nat.le_refl _)) (acr.below H (Nat.le_refl _)) H.size ha1 HA2.out ha3 ha4).mono ?_; rintro e w7 ⟨TX, TA, TC, TY, TZ, Th, rfl, TO, hb⟩; have BA := BA.below hb; have BW := BW.below hb; have BU := BU.below hb; have BG := BG.below hb; have WO := WO.below hb; have XO := XO.below hb; have GO := GO.below hb; have H := H.trans (hb.mono H.size); clear hb
    go_wp2_with fail
    refine hK.out _ _ ?_ (fun hHeld => ?_)
    · exact ⟨BU.2.1 0 _ rfl, BU.2.1 1 _ rfl, BU.2.1 2 _ rfl, BA.2.1 0 _ rfl, BA.2.1 1 _ rfl, BA.2.1 2 _ rfl⟩
    clear hK K
    refine nextN 3 (by kernel_rfl) rfl (fun K hK => ?_)
    go_simp
    go_at_call 31; refine (eqLP_same XX XY XZ arn arn abn abn acn acn XA aRN XC aRV aBV aCV TX TY TZ arn abn acn TA TC _ _ (XO.rds.1.more XO.hi_le) (XO.rds.2.1.more XO.hi_le) (XO.rds.2.2.more XO.hi_le) (TO.rds.1.more TO.hi_le) (TO.rds.2.1.more TO.hi_le) (TO.rds.2.2.more TO.hi_le) (Nat.le_refl _) ha1 HA2.out ha3 ha4).mono ?_; rintro e w8 ⟨rfl, hb⟩; have BA := BA.below hb; have BW := BW.below hb; have BU := BU.below hb; have BG := BG.below hb; have WO := WO.below hb; have XO := XO.below hb; have GO := GO.below hb; have TO := TO.below hb; have H := H.trans (hb.mono H.size); clear hb
    go_wp2_with fail
    refine hK.out _ _ ?_ (fun hHeld => ?_)
    · exact ⟨BU.2.1 0 _ rfl, BU.2.1 1 _ rfl, BU.2.1 2 _ rfl, BA.2.1 0 _ rfl, BA.2.1 1 _ rfl, BA.2.1 2 _ rfl⟩
    clear hK K
    refine takeN 4 (v := ?v1_4) rfl (by kernel_rfl) (by kernel_rfl) (by kernel_rfl) (fun _ _ _ h => h) (by rfl) ?hy1_4 (by assumption) ?r1_4
    case hy1_4 => (intro w hSw; (try dsimp only at hSw); first | (go_simp; done) | (go_simp; with_reducible rfl))
    simp only [Act.put, List.setIfInBounds_toArray, List.set_cons_zero, List.set_cons_succ]
    refine wpAnyH_done (by kernel_rfl) ?_ _
    refine NoPanic.normal ?_
    clear TO
    have x0 := BA.2.1 0 _ rfl
    have x1 := BA.2.1 1 _ rfl
    have x2 := BA.2.1 2 _ rfl
    have xz := BA.1
    have v0 := BW.2.1 0 _ rfl
    have v1 := BW.2.1 1 _ rfl
    have v2 := BW.2.1 2 _ rfl
    have vz := BW.1
    have u0 := BU.2.1 0 _ rfl
    have u1 := BU.2.1 1 _ rfl
    have u2 := BU.2.1 2 _ rfl
    have uz := BU.1
    have g0 := BG.2.1 0 _ rfl
    have g1 := BG.2.1 1 _ rfl
    have g2 := BG.2.1 2 _ rfl
    have gz := BG.1
    go_wp2_with fail
    refine (markLP_own XX XA XC XY XZ arn abn acn _ _ aRN aRV aBV aCV 1 _ XO ha1 HA2.out ha3 ha4 (by omega) (by omega)).mono ?_
    rintro e w9 ⟨mk, rfl, mk0, om⟩
    have dmk := decide_eq_false (show ¬ mk < 0 by omega)
    have WO := WO.only om (Or.inr tW_X)
    have GO := GO.only om (Or.inl tG_X)
    have BA := BA.only om (Or.inl tb_BA_X)
    have BW := BW.only om (Or.inl tb_BW_X)
    have BU := BU.only om (Or.inr tX_BU)
    have BG := BG.only om (Or.inr tX_BG)
    have H := H.only om H.size tH_X
    clear om
    have x0 := BA.2.1 0 _ rfl
    have x1 := BA.2.1 1 _ rfl
    have x2 := BA.2.1 2 _ rfl
    have xz := BA.1
    have v0 := BW.2.1 0 _ rfl
    have v1 := BW.2.1 1 _ rfl
    have v2 := BW.2.1 2 _ rfl
    have vz := BW.1
    have u0 := BU.2.1 0 _ rfl
    have u1 := BU.2.1 1 _ rfl
    have u2 := BU.2.1 2 _ rfl
    have uz := BU.1
    have g0 := BG.2.1 0 _ rfl
    have g1 := BG.2.1 1 _ rfl
    have g2 := BG.2.1 2 _ rfl
    have gz := BG.1
    clear XO
    go_wp2_with fail
    refine (eqTab_same GX GY nn Gc nn Gd cc GA SN GC SV SB WX WY Wc Wd WA WC _ _ GO.rows_at GO.basis_at WO.rows_at WO.basis_at (Nat.le_refl _) hnn HSN.out hnn).mono ?_
    rintro e w10 ⟨rfl, hb⟩
    have BA := BA.below hb
    have BW := BW.below hb
    have BU := BU.below hb
    have BG := BG.below hb
    have WO := WO.below hb
    have GO := GO.below hb
    have H := H.trans (hb.mono H.size)
    clear hb
    have x0 := BA.2.1 0 _ rfl
    have x1 := BA.2.1 1 _ rfl
    have x2 := BA.2.1 2 _ rfl
    have xz := BA.1
    have v0 := BW.2.1 0 _ rfl
    have v1 := BW.2.1 1 _ rfl
    have v2 := BW.2.1 2 _ rfl
    have vz := BW.1
    have u0 := BU.2.1 0 _ rfl
    have u1 := BU.2.1 1 _ rfl
    have u2 := BU.2.1 2 _ rfl
    have uz := BU.1
    have g0 := BG.2.1 0 _ rfl
    have g1 := BG.2.1 1 _ rfl
    have g2 := BG.2.1 2 _ rfl
    have gz := BG.1
    go_wp2_with fail
    refine (markTab_own GX nn Gc GA SN GC SV GY nn Gd SB cc _ _ 1 _ GO hnn HSN.out hnn (by omega) (by omega)).mono ?_
    rintro e w11 ⟨rfl, GO, om⟩
    have dmq := decide_eq_false (show ¬ 1 + 2 * (sumN SN nn : Int) + (nn : Int) < 0 by omega)
    have WO := WO.only om (Or.inr tW_G)
    have BA := BA.only om (Or.inl tb_BA_G)
    have BW := BW.only om (Or.inl tb_BW_G)
    have BG := BG.only om (Or.inr tG_BG)
    have H := H.only om H.size tH_G
    clear om
    have x0 := BA.2.1 0 _ rfl
    have x1 := BA.2.1 1 _ rfl
    have x2 := BA.2.1 2 _ rfl
    have xz := BA.1
    have v0 := BW.2.1 0 _ rfl
    have v1 := BW.2.1 1 _ rfl
    have v2 := BW.2.1 2 _ rfl
    have vz := BW.1
    have g0 := BG.2.1 0 _ rfl
    have g1 := BG.2.1 1 _ rfl
    have g2 := BG.2.1 2 _ rfl
    have gz := BG.1
    go_wp2_with fail
    refine (heldTab_any GX nn Gc GA SN GC GY nn Gd cc _ _ 1 _ GO hnn HSN.out hnn (by omega) (by omega)).mono ?_
    rintro e w12 ⟨rfl, hb⟩
    have BA := BA.below hb
    have BW := BW.below hb
    have BG := BG.below hb
    have WO := WO.below hb
    have GO := GO.below hb
    have H := H.trans (hb.mono H.size)
    clear hb
    have x0 := BA.2.1 0 _ rfl
    have x1 := BA.2.1 1 _ rfl
    have x2 := BA.2.1 2 _ rfl
    have xz := BA.1
    have v0 := BW.2.1 0 _ rfl
    have v1 := BW.2.1 1 _ rfl
    have v2 := BW.2.1 2 _ rfl
    have vz := BW.1
    have g0 := BG.2.1 0 _ rfl
    have g1 := BG.2.1 1 _ rfl
    have g2 := BG.2.1 2 _ rfl
    have gz := BG.1
    go_wp2_with fail
    refine (toLP_any aR aBs aCs arn arc abn abc acn acc aRA aRN aRC aRV aBV aCV _ _ (arr.below H (Nat.le_refl _)) (abb.below' H (Nat.le_refl _)) (acr.below H (Nat.le_refl _)) H.size ha1 HA2.out ha3 ha4).mono ?_
    rintro e w13 ⟨YX, YA, YC, YY, YZ, Yh, rfl, YO, hb⟩
    have BA := BA.below hb
    have BW := BW.below hb
    have BG := BG.below hb
    have WO := WO.below hb
    have GO := GO.below hb
    have H := H.trans (hb.mono H.size)
    clear hb
    have x0 := BA.2.1 0 _ rfl
    have x1 := BA.2.1 1 _ rfl
    have x2 := BA.2.1 2 _ rfl
    have xz := BA.1
    have v0 := BW.2.1 0 _ rfl
    have v1 := BW.2.1 1 _ rfl
    have v2 := BW.2.1 2 _ rfl
    have vz := BW.1
    have g0 := BG.2.1 0 _ rfl
    have g1 := BG.2.1 1 _ rfl
    have g2 := BG.2.1 2 _ rfl
    have gz := BG.1
    go_wp2_with fail
    refine (IC.out YX YA YC YY YZ _ _ _ YO).mono ?_
    rintro e w14 ⟨KX, Kc, KA, KC, KY, Kd, Kh, rfl, KO, hb⟩
    have BA := BA.below hb
    have BW := BW.below hb
    have BG := BG.below hb
    have WO := WO.below hb
    have GO := GO.below hb
    have YO := YO.below hb
    have H := H.trans (hb.mono H.size)
    clear hb
    have x0 := BA.2.1 0 _ rfl
    have x1 := BA.2.1 1 _ rfl
    have x2 := BA.2.1 2 _ rfl
    have xz := BA.1
    have v0 := BW.2.1 0 _ rfl
    have v1 := BW.2.1 1 _ rfl
    have v2 := BW.2.1 2 _ rfl
    have vz := BW.1
    have g0 := BG.2.1 0 _ rfl
    have g1 := BG.2.1 1 _ rfl
    have g2 := BG.2.1 2 _ rfl
    have gz := BG.1
    clear YO
    go_wp2_with fail
    have hb := (Below.refl w14.heap.size w14).alloc (Nat.le_refl _) (.cells #[.slice KX nn Kc, .slice KY nn Kd, .int .i64 cc] 30)
    have BA := BA.below hb
    have BW := BW.below hb
    have BG := BG.below hb
    have WO := WO.below hb
    have GO := GO.below hb
    have KO := KO.below hb
    have H := H.trans (hb.mono H.size)
    clear hb
    have BK := Bx.new w14 #[.slice KX nn Kc, .slice KY nn Kd, .int .i64 cc] 30
    have x0 := BA.2.1 0 _ rfl
    have x1 := BA.2.1 1 _ rfl
    have x2 := BA.2.1 2 _ rfl
    have xz := BA.1
    have v0 := BW.2.1 0 _ rfl
    have v1 := BW.2.1 1 _ rfl
    have v2 := BW.2.1 2 _ rfl
    have vz := BW.1
    have g0 := BG.2.1 0 _ rfl
    have g1 := BG.2.1 1 _ rfl
    have g2 := BG.2.1 2 _ rfl
    have gz := BG.1
    have h0 := BK.2.1 0 _ rfl
    have h1 := BK.2.1 1 _ rfl
    have h2 := BK.2.1 2 _ rfl
    have hz := BK.1
    refine (eqTab_same KX KY nn Kc nn Kd cc KA SN KC SV SB WX WY Wc Wd WA WC _ _ KO.rows_at KO.basis_at WO.rows_at WO.basis_at (Nat.le_refl _) hnn HSN.out hnn).mono ?_
    rintro e w15 ⟨rfl, hb⟩
    have BA := BA.below hb
    have BW := BW.below hb
    have BG := BG.below hb
    have BK := BK.below hb
    have WO := WO.below hb
    have GO := GO.below hb
    have KO := KO.below hb
    have H := H.trans (hb.mono H.size)
    clear hb
    have x0 := BA.2.1 0 _ rfl
    have x1 := BA.2.1 1 _ rfl
    have x2 := BA.2.1 2 _ rfl
    have xz := BA.1
    have v0 := BW.2.1 0 _ rfl
    have v1 := BW.2.1 1 _ rfl
    have v2 := BW.2.1 2 _ rfl
    have vz := BW.1
    have g0 := BG.2.1 0 _ rfl
    have g1 := BG.2.1 1 _ rfl
    have g2 := BG.2.1 2 _ rfl
    have gz := BG.1
    have h0 := BK.2.1 0 _ rfl
    have h1 := BK.2.1 1 _ rfl
    have h2 := BK.2.1 2 _ rfl
    have hz := BK.1
    go_wp2_with fail
    refine (heldTab_any GX nn Gc GA SN GC GY nn Gd cc _ _ 1 _ GO hnn HSN.out hnn (by omega) (by omega)).mono ?_
    rintro e w16 ⟨rfl, hb⟩
    have BA := BA.below hb
    have BW := BW.below hb
    have BG := BG.below hb
    have BK := BK.below hb
    have WO := WO.below hb
    have GO := GO.below hb
    have KO := KO.below hb
    have H := H.trans (hb.mono H.size)
    clear hb
    have x0 := BA.2.1 0 _ rfl
    have x1 := BA.2.1 1 _ rfl
    have x2 := BA.2.1 2 _ rfl
    have xz := BA.1
    have v0 := BW.2.1 0 _ rfl
    have v1 := BW.2.1 1 _ rfl
    have v2 := BW.2.1 2 _ rfl
    have vz := BW.1
    have g0 := BG.2.1 0 _ rfl
    have g1 := BG.2.1 1 _ rfl
    have g2 := BG.2.1 2 _ rfl
    have gz := BG.1
    have h0 := BK.2.1 0 _ rfl
    have h1 := BK.2.1 1 _ rfl
    have h2 := BK.2.1 2 _ rfl
    have hz := BK.1
    go_wp2
    go_ret
    exact ⟨rfl, H⟩

end Go.Proofs.Ytajafmdeencohaa
