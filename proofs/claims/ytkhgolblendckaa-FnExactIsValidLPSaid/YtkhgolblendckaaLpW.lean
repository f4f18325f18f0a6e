/-
  The law FnExactIsValidLP walked: it returns true.
-/
import Derived.Test.YtkhgolblendckaaLpOpen
import Derived.Test.YtkhgolblendckaaLpValid
namespace Go.Proofs.Ytkhgolblendckaa
open Go.RowKit
attribute [local go_sem ↓] Go.wp_at_zero Go.wp_at_succ

set_option maxRecDepth 40000 in
set_option maxHeartbeats 4000000 in
theorem fnExactIsValidLP_walk {w : World} (aR aBs aCs : Option Addr) (arn arc abn abc acn acc : Nat) (aRA : Nat → Option Addr) (aRN aRC : Nat → Nat) (aRV : Nat → Nat → Int) (aBV : Nat → Int) (aCV : Fr) (hma : arn ≤ maxLen ∧ (∀ j, j < arn → aRN j ≤ maxLen) ∧ abn ≤ maxLen ∧ acn ≤ maxLen) (arr : RdI w w.heap.size aR arn aRA aRN aRC aRV) (abb : Rd w w.heap.size 1 aBs abn (cellsI aBV abn)) (acr : RdP w w.heap.size aCs acn aCV) :
    Calls Try.prog 9 #[.agg #[.slice aR arn arc, .slice aBs abn abc, .slice aCs acn acc]] w fun e w' => e = .returned (.bool true) ∧ Below w.heap.size w w' := by
  simp only [maxLen] at hma
  obtain ⟨m1, m2, m3, m4⟩ := hma
  have BA : Bx (w.alloc (.cells #[.slice aR arn arc, .slice aBs abn abc, .slice aCs acn acc] 57)) w.heap.size [.slice aR arn arc, .slice aBs abn abc, .slice aCs acn acc] := Bx.new w #[.slice aR arn arc, .slice aBs abn abc, .slice aCs acn acc] 57
  have H : Below w.heap.size w (w.alloc (.cells #[.slice aR arn arc, .slice aBs abn abc, .slice aCs acn acc] 57)) := (Below.refl _ _).alloc (Nat.le_refl _) _
  have SA := Lib.hid (szLP_any aR aBs aCs arn arc abn abc acn acc aRA aRN aRC aRV _ (w.alloc (.cells #[.slice aR arn arc, .slice aBs abn abc, .slice aCs acn acc] 57)) (arr.below H (Nat.le_refl _)) H.size 1048576 (by omega) (by omega) (by omega) (fun j hj => by have := m2 j hj; omega) (by omega) (by omega))
  clear m1 m2 m3 m4
  go_enter Try.func9, Try.ntmps9
  go_wp2_with fail
  refine SA.out.mono ?_
  rintro e w1 ⟨v, rfl, hv, hb⟩
  have BA := BA.below hb
  have H := H.trans (hb.mono H.size)
  clear hb SA
  rcases hv with rfl | ⟨v0, v1, hv1, hv2, hv3, hv4⟩
  · go_wp2
    go_ret
    exact ⟨rfl, H⟩
  · have d1 := decide_eq_false (show ¬ v < 0 by omega)
    have ha1 : arn ≤ 1048576 := by omega
    have ha2' : ∀ j, j < arn → aRN j ≤ 1048576 := fun j hj => by have := hv2 j hj; omega
    have ha3 : abn ≤ 1048576 := by omega
    have ha4 : acn ≤ 1048576 := by omega
    have HA2 := Lib.hid ha2'
    clear hv2 ha2' hv1 hv3 hv4
    have x0 := BA.2.1 0 _ rfl
    have x1 := BA.2.1 1 _ rfl
    have x2 := BA.2.1 2 _ rfl
    have xz := BA.1
    go_wp2_with fail
    refine (toLP_any aR aBs aCs arn arc abn abc acn acc aRA aRN aRC aRV aBV aCV _ _ (arr.below H (Nat.le_refl _)) (abb.below' H (Nat.le_refl _)) (acr.below H (Nat.le_refl _)) H.size ha1 HA2.out ha3 ha4).mono ?_
    rintro e w2 ⟨PX, PA, PC, PY, PZ, Ph, rfl, PO, hb⟩
    have BA := BA.below hb
    have H := H.trans (hb.mono H.size)
    clear hb
    have x0 := BA.2.1 0 _ rfl
    have x1 := BA.2.1 1 _ rfl
    have x2 := BA.2.1 2 _ rfl
    have xz := BA.1
    go_wp2_with fail
    refine (sValidLP_any PX PY PZ arn arn abn abn acn acn PA aRN PC aRV aBV aCV _ _ (PO.rds.1.more PO.hi_le) (PO.rds.2.1.more PO.hi_le) (PO.rds.2.2.more PO.hi_le) (Nat.le_refl _) ha1 HA2.out ha3 ha4).mono ?_
    rintro e w3 ⟨rfl, hb⟩
    have BA := BA.below hb
    have PO := PO.below hb
    have H := H.trans (hb.mono H.size)
    clear hb
    have x0 := BA.2.1 0 _ rfl
    have x1 := BA.2.1 1 _ rfl
    have x2 := BA.2.1 2 _ rfl
    have xz := BA.1
    clear PO
    go_wp2_with fail
    refine (toLP_any aR aBs aCs arn arc abn abc acn acc aRA aRN aRC aRV aBV aCV _ _ (arr.below H (Nat.le_refl _)) (abb.below' H (Nat.le_refl _)) (acr.below H (Nat.le_refl _)) H.size ha1 HA2.out ha3 ha4).mono ?_
    rintro e w4 ⟨XX, XA, XC, XY, XZ, Xh, rfl, XO, hb⟩
    have BA := BA.below hb
    have H := H.trans (hb.mono H.size)
    clear hb
    have x0 := BA.2.1 0 _ rfl
    have x1 := BA.2.1 1 _ rfl
    have x2 := BA.2.1 2 _ rfl
    have xz := BA.1
    go_wp2_with fail
    have hb := (Below.refl w4.heap.size w4).alloc (Nat.le_refl _) (.cells #[.slice XX arn arn, .slice XY abn abn, .slice XZ acn acn] 61)
    have BA := BA.below hb
    have XO := XO.below hb
    have H := H.trans (hb.mono H.size)
    clear hb
    have BU := Bx.new w4 #[.slice XX arn arn, .slice XY abn abn, .slice XZ acn acn] 61
    refine (iValidLP_any XX XY XZ arn arn abn abn acn acn XA aRN XC aRV aBV aCV _ _ (XO.rds.1.more XO.hi_le) (XO.rds.2.1.more XO.hi_le) (XO.rds.2.2.more XO.hi_le) (Nat.le_refl _) ha1 HA2.out ha3 ha4).mono ?_
    rintro e w5 ⟨rfl, hb⟩
    have BA := BA.below hb
    have BU := BU.below hb
    have XO := XO.below hb
    have H := H.trans (hb.mono H.size)
    clear hb
    have x0 := BA.2.1 0 _ rfl
    have x1 := BA.2.1 1 _ rfl
    have x2 := BA.2.1 2 _ rfl
    have xz := BA.1
    have u0 := BU.2.1 0 _ rfl
    have u1 := BU.2.1 1 _ rfl
    have u2 := BU.2.1 2 _ rfl
    have uz := BU.1
    have hb : Below w5.heap.size w5 w5.drew := (Below.refl _ _).drew
    have BA := BA.below hb
    have BU := BU.below hb
    have XO := XO.below hb
    have H := H.trans (hb.mono H.size)
    clear hb
    go_upto_region 10 with fail
    refine wp_region_noPanic ?_
    refine wp_region_held_drew (S := (fun w' => w'.cell? ⟨w4.heap.size, 0, none⟩ = some (.slice XX arn arn) ∧ w'.cell? ⟨w4.heap.size, 1, none⟩ = some (.slice XY abn abn) ∧ w'.cell? ⟨w4.heap.size, 2, none⟩ = some (.slice XZ acn acn) ∧ w'.cell? ⟨w.heap.size, 0, none⟩ = some (.slice aR arn arc) ∧ w'.cell? ⟨w.heap.size, 1, none⟩ = some (.slice aBs abn abc) ∧ w'.cell? ⟨w.heap.size, 2, none⟩ = some (.slice aCs acn acc))) (by kernel_rfl) ?_ (fun hHeld => ?_)
    · exact ⟨BU.2.1 0 _ rfl, BU.2.1 1 _ rfl, BU.2.1 2 _ rfl, BA.2.1 0 _ rfl, BA.2.1 1 _ rfl, BA.2.1 2 _ rfl⟩
    refine takeN 0 (v := ?v1_0) rfl (by kernel_rfl) (by kernel_rfl) (by kernel_rfl) (fun _ _ _ h => h) (by rfl) ?hy1_0 (by assumption) ?r1_0
    case hy1_0 => (intro w hSw; (try dsimp only at hSw); first | (go_simp; done) | (go_simp; with_reducible rfl))
    simp only [Act.put, List.setIfInBounds_toArray, List.set_cons_zero, List.set_cons_succ]
    refine takeN 1 (v := ?v1_1) rfl (by kernel_rfl) (by kernel_rfl) (by kernel_rfl) (fun _ _ _ h => h) (by rfl) ?hy1_1 (by assumption) ?r1_1
    case hy1_1 => (intro w hSw; (try dsimp only at hSw); first | (go_simp; done) | (go_simp; with_reducible rfl))
    simp only [Act.put, List.setIfInBounds_toArray, List.set_cons_zero, List.set_cons_succ]
    refine nextN 2 (by kernel_rfl) rfl (fun K hK => ?_)
    go_simp
    go_at_call 39; refine (toLP_any aR aBs aCs arn arc abn abc acn acc aRA aRN aRC aRV aBV aCV _ _ (arr.below H (Nat.le_refl _)) (abb.below' H (Nat.le_refl _)) (acr.below H (Nat.le_refl _)) H.size ha1 HA2.out ha3 ha4).mono ?_; rintro e w6 ⟨TX, TA, TC, TY, TZ, Th, rfl, TO, hb⟩; have BA := BA.below hb; have BU := BU.below hb; have XO := XO.below hb; have H := H.trans (hb.mono H.size); clear hb
    go_wp2_with fail
    refine hK.out _ _ ?_ (fun hHeld => ?_)
    · exact ⟨BU.2.1 0 _ rfl, BU.2.1 1 _ rfl, BU.2.1 2 _ rfl, BA.2.1 0 _ rfl, BA.2.1 1 _ rfl, BA.2.1 2 _ rfl⟩
    clear hK K
    refine nextN 3 (by kernel_rfl) rfl (fun K hK => ?_)
    go_simp
    go_at_call 41; refine (eqLP_same XX XY XZ arn arn abn abn acn acn XA aRN XC aRV aBV aCV TX TY TZ arn abn acn TA TC _ _ (XO.rds.1.more XO.hi_le) (XO.rds.2.1.more XO.hi_le) (XO.rds.2.2.more XO.hi_le) (TO.rds.1.more TO.hi_le) (TO.rds.2.1.more TO.hi_le) (TO.rds.2.2.more TO.hi_le) (Nat.le_refl _) ha1 HA2.out ha3 ha4).mono ?_; rintro e w7 ⟨rfl, hb⟩; have BA := BA.below hb; have BU := BU.below hb; have XO := XO.below hb; have TO := TO.below hb; have H := H.trans (hb.mono H.size); clear hb
    go_wp2_with fail
    refine hK.out _ _ ?_ (fun hHeld => ?_)
    · exact ⟨BU.2.1 0 _ rfl, BU.2.1 1 _ rfl, BU.2.1 2 _ rfl, BA.2.1 0 _ rfl, BA.2.1 1 _ rfl, BA.2.1 2 _ rfl⟩
    clear hK K
    refine takeN 4 (v := ?v1_4) rfl (by kernel_rfl) (by kernel_rfl) (by kernel_rfl) (fun _ _ _ h => h) (by rfl) ?hy1_4 (by assumption) ?r1_4
    case hy1_4 => (intro w hSw; (try dsimp only at hSw); first | (go_simp; done) | (go_simp; with_reducible rfl))
    simp only [Act.put, List.setIfInBounds_toArray, List.set_cons_zero, List.set_cons_succ]
    refine wpAnyH_done (by kernel_rfl) ?_ _
    refine NoPanic.normal ?_
    clear TO
    go_wp2
    go_ret
    exact ⟨rfl, H⟩

end Go.Proofs.Ytkhgolblendckaa
