/-
  The law FnExactIsFeasible walked: it returns true.
-/
import Derived.Test.YtkhgolblendckaaLpOpen
import Derived.Test.YtkhgolblendckaaFeas
namespace Go.Proofs.Ytkhgolblendckaa
open Go.RowKit
attribute [local go_sem ↓] Go.wp_at_zero Go.wp_at_succ

set_option maxRecDepth 40000 in
set_option maxHeartbeats 4000000 in
theorem fnExactIsFeasible_walk {w : World} (aR aBs aCs : Option Addr) (arn arc abn abc acn acc : Nat) (aRA : Nat → Option Addr) (aRN aRC : Nat → Nat) (aRV : Nat → Nat → Int) (aBV : Nat → Int) (aCV : Fr) (hma : arn ≤ maxLen ∧ (∀ j, j < arn → aRN j ≤ maxLen) ∧ abn ≤ maxLen ∧ acn ≤ maxLen) (arr : RdI w w.heap.size aR arn aRA aRN aRC aRV) (abb : Rd w w.heap.size 1 aBs abn (cellsI aBV abn)) (acr : RdP w w.heap.size aCs acn aCV)
    (A : Option Addr) (n c : Nat) (V : Fr) (hn : n ≤ maxLen) (rv : RdP w w.heap.size A n V) (_ : ∀ j, j < n → (Lit.int .i64 (V j).1).wf = true ∧ (Lit.int .i64 (V j).2).wf = true) :
    Calls Try.prog 11 #[.agg #[.slice aR arn arc, .slice aBs abn abc, .slice aCs acn acc], .slice A n c] w fun e w' => e = .returned (.bool true) ∧ Below w.heap.size w w' := by
  simp only [maxLen] at hma hn
  have hm5 : (n : Int) ≤ 9223372036854775807 := by omega
  obtain ⟨m1, m2, m3, m4⟩ := hma
  have BA : Bx (w.alloc (.cells #[.slice aR arn arc, .slice aBs abn abc, .slice aCs acn acc] 57)) w.heap.size [.slice aR arn arc, .slice aBs abn abc, .slice aCs acn acc] := Bx.new w #[.slice aR arn arc, .slice aBs abn abc, .slice aCs acn acc] 57
  have H : Below w.heap.size w (w.alloc (.cells #[.slice aR arn arc, .slice aBs abn abc, .slice aCs acn acc] 57)) := (Below.refl _ _).alloc (Nat.le_refl _) _
  have SA := Lib.hid (szLP_any aR aBs aCs arn arc abn abc acn acc aRA aRN aRC aRV _ (w.alloc (.cells #[.slice aR arn arc, .slice aBs abn abc, .slice aCs acn acc] 57)) (arr.below H (Nat.le_refl _)) H.size 1048576 (by omega) (by omega) (by omega) (fun j hj => by have := m2 j hj; omega) (by omega) (by omega))
  clear m1 m2 m3 m4
  go_enter Try.func11, Try.ntmps11
  go_wp2_with fail
  refine SA.out.mono ?_
  rintro e w1 ⟨v, rfl, hv, hb⟩
  have BA := BA.below hb
  have H := H.trans (hb.mono H.size)
  clear hb SA
  rcases hv with rfl | ⟨v0, v1, hv1, hv2, hv3, hv4⟩
  · go_wp2
    go_ret
    exact ⟨rfl, H⟩
  · have d1 := decide_eq_false (show ¬ v < 0 by omega)
    have ha1 : arn ≤ 1048576 := by omega
    have ha2' : ∀ j, j < arn → aRN j ≤ 1048576 := fun j hj => by have := hv2 j hj; omega
    have ha3 : abn ≤ 1048576 := by omega
    have ha4 : acn ≤ 1048576 := by omega
    have HA2 := Lib.hid ha2'
    clear hv2 ha2' hv1 hv3 hv4
    have m5 : (n : Int) ≤ 9223372036854775807 := hm5
    by_cases hs : 0 ≤ v - (n : Int)
    · have d2 := decide_eq_false (show ¬ v - (n : Int) < 0 by omega)
      have hn1 : n ≤ 1048576 := by omega
      have x0 := BA.2.1 0 _ rfl
      have x1 := BA.2.1 1 _ rfl
      have x2 := BA.2.1 2 _ rfl
      have xz := BA.1
      go_wp2_with fail
      refine (szRatS_yes _ _ _ _ _ hs (by omega)).mono ?_
      rintro e wq ⟨rfl, rfl⟩
      obtain ⟨w2, rfl⟩ : ∃ w2 : World, w2 = w1 := ⟨_, rfl⟩
      go_wp2_with fail
      refine (toLP_any aR aBs aCs arn arc abn abc acn acc aRA aRN aRC aRV aBV aCV _ _ (arr.below H (Nat.le_refl _)) (abb.below' H (Nat.le_refl _)) (acr.below H (Nat.le_refl _)) H.size ha1 HA2.out ha3 ha4).mono ?_
      rintro e w3 ⟨PX, PA, PC, PY, PZ, Ph, rfl, PO, hb⟩
      have BA := BA.below hb
      have H := H.trans (hb.mono H.size)
      clear hb
      have x0 := BA.2.1 0 _ rfl
      have x1 := BA.2.1 1 _ rfl
      have x2 := BA.2.1 2 _ rfl
      have xz := BA.1
      go_wp2_with fail
      refine (toRatS_any _ _ _ _ V _ (rv.below H (Nat.le_refl _)) H.size hn1).mono ?_
      rintro e w4 ⟨PV, rfl, ow, hb⟩
      have BA := BA.below hb
      have PO := PO.below hb
      have H := H.trans (hb.mono H.size)
      clear hb
      have x0 := BA.2.1 0 _ rfl
      have x1 := BA.2.1 1 _ rfl
      have x2 := BA.2.1 2 _ rfl
      have xz := BA.1
      have pv := RdP.of_own ow
      have s_pv := Nat.le_refl w4.heap.size
      clear ow
      go_wp2_with fail
      refine (sFeas_any PX PY PZ arn arn abn abn acn acn PA aRN PC aRV aBV aCV PV n n V _ _ (PO.rds.1.more PO.hi_le) (PO.rds.2.1.more PO.hi_le) (PO.rds.2.2.more PO.hi_le) (pv.more s_pv) (Nat.le_refl _) ha1 HA2.out ha3 ha4 hn1).mono ?_
      rintro e w5 ⟨rfl, hb⟩
      have BA := BA.below hb
      have pv := pv.below hb s_pv
      have s_pv := Nat.le_trans s_pv hb.size
      have PO := PO.below hb
      have H := H.trans (hb.mono H.size)
      clear hb
      have x0 := BA.2.1 0 _ rfl
      have x1 := BA.2.1 1 _ rfl
      have x2 := BA.2.1 2 _ rfl
      have xz := BA.1
      clear PO pv
      go_wp2_with fail
      refine (toLP_any aR aBs aCs arn arc abn abc acn acc aRA aRN aRC aRV aBV aCV _ _ (arr.below H (Nat.le_refl _)) (abb.below' H (Nat.le_refl _)) (acr.below H (Nat.le_refl _)) H.size ha1 HA2.out ha3 ha4).mono ?_
      rintro e w6 ⟨XX, XA, XC, XY, XZ, Xh, rfl, XO, hb⟩
      have BA := BA.below hb
      have H := H.trans (hb.mono H.size)
      clear hb
      have x0 := BA.2.1 0 _ rfl
      have x1 := BA.2.1 1 _ rfl
      have x2 := BA.2.1 2 _ rfl
      have xz := BA.1
      go_wp2_with fail
      have hb := (Below.refl w6.heap.size w6).alloc (Nat.le_refl _) (.cells #[.slice XX arn arn, .slice XY abn abn, .slice XZ acn acn] 61)
      have BA := BA.below hb
      have XO := XO.below hb
      have H := H.trans (hb.mono H.size)
      clear hb
      have BU := Bx.new w6 #[.slice XX arn arn, .slice XY abn abn, .slice XZ acn acn] 61
      refine (toRatS_any _ _ _ _ V _ (rv.below H (Nat.le_refl _)) H.size hn1).mono ?_
      rintro e w7 ⟨QV, rfl, ow, hb⟩
      have BA := BA.below hb
      have BU := BU.below hb
      have XO := XO.below hb
      have H := H.trans (hb.mono H.size)
      clear hb
      have qv := RdP.of_own ow
      have s_qv := Nat.le_refl w7.heap.size
      clear ow
      have x0 := BA.2.1 0 _ rfl
      have x1 := BA.2.1 1 _ rfl
      have x2 := BA.2.1 2 _ rfl
      have xz := BA.1
      have u0 := BU.2.1 0 _ rfl
      have u1 := BU.2.1 1 _ rfl
      have u2 := BU.2.1 2 _ rfl
      have uz := BU.1
      go_wp2_with fail
      refine (iFeas_any XX XY XZ arn arn abn abn acn acn XA aRN XC aRV aBV aCV QV n n V _ _ (XO.rds.1.more XO.hi_le) (XO.rds.2.1.more XO.hi_le) (XO.rds.2.2.more XO.hi_le) (qv.more s_qv) (Nat.le_refl _) ha1 HA2.out ha3 ha4 hn1).mono ?_
      rintro e w8 ⟨rfl, hb⟩
      have BA := BA.below hb
      have BU := BU.below hb
      have qv := qv.below hb s_qv
      have s_qv := Nat.le_trans s_qv hb.size
      have XO := XO.below hb
      have H := H.trans (hb.mono H.size)
      clear hb
      have x0 := BA.2.1 0 _ rfl
      have x1 := BA.2.1 1 _ rfl
      have x2 := BA.2.1 2 _ rfl
      have xz := BA.1
      have u0 := BU.2.1 0 _ rfl
      have u1 := BU.2.1 1 _ rfl
      have u2 := BU.2.1 2 _ rfl
      have uz := BU.1
      have hb : Below w8.heap.size w8 w8.drew := (Below.refl _ _).drew
      have BA := BA.below hb
      have BU := BU.below hb
      have qv := qv.below hb s_qv
      have s_qv := Nat.le_trans s_qv hb.size
      have XO := XO.below hb
      have H := H.trans (hb.mono H.size)
      clear hb
      go_upto_region 14 with fail
      refine wp_region_noPanic ?_
      refine wp_region_held_drew (S := (fun w' => w'.cell? ⟨w6.heap.size, 0, none⟩ = some (.slice XX arn arn) ∧ w'.cell? ⟨w6.heap.size, 1, none⟩ = some (.slice XY abn abn) ∧ w'.cell? ⟨w6.heap.size, 2, none⟩ = some (.slice XZ acn acn) ∧ w'.cell? ⟨w.heap.size, 0, none⟩ = some (.slice aR arn arc) ∧ w'.cell? ⟨w.heap.size, 1, none⟩ = some (.slice aBs abn abc) ∧ w'.cell? ⟨w.heap.size, 2, none⟩ = some (.slice aCs acn acc))) (by kernel_rfl) ?_ (fun hHeld => ?_)
      · exact ⟨BU.2.1 0 _ rfl, BU.2.1 1 _ rfl, BU.2.1 2 _ rfl, BA.2.1 0 _ rfl, BA.2.1 1 _ rfl, BA.2.1 2 _ rfl⟩
      refine takeN 0 (v := ?v9_0) rfl (by kernel_rfl) (by kernel_rfl) (by kernel_rfl) (fun _ _ _ h => h) (by rfl) ?hy9_0 (by assumption) ?r9_0
      case hy9_0 => (intro w hSw; (try dsimp only at hSw); first | (go_simp; done) | (go_simp; with_reducible rfl))
      simp only [Act.put, List.setIfInBounds_toArray, List.set_cons_zero, List.set_cons_succ]
      refine takeN 1 (v := ?v9_1) rfl (by kernel_rfl) (by kernel_rfl) (by kernel_rfl) (fun _ _ _ h => h) (by rfl) ?hy9_1 (by assumption) ?r9_1
      case hy9_1 => (intro w hSw; (try dsimp only at hSw); first | (go_simp; done) | (go_simp; with_reducible rfl))
      simp only [Act.put, List.setIfInBounds_toArray, List.set_cons_zero, List.set_cons_succ]
      refine nextN 2 (by kernel_rfl) rfl (fun K hK => ?_)
      go_simp
      go_at_call 39; refine (toLP_any aR aBs aCs arn arc abn abc acn acc aRA aRN aRC aRV aBV aCV _ _ (arr.below H (Nat.le_refl _)) (abb.below' H (Nat.le_refl _)) (acr.below H (Nat.le_refl _)) H.size ha1 HA2.out ha3 ha4).mono ?_; rintro e w9 ⟨TX, TA, TC, TY, TZ, Th, rfl, TO, hb⟩; have BA := BA.below hb; have BU := BU.below hb; have qv := qv.below hb s_qv; have s_qv := Nat.le_trans s_qv hb.size; have XO := XO.below hb; have H := H.trans (hb.mono H.size); clear hb
      go_wp2_with fail
      refine hK.out _ _ ?_ (fun hHeld => ?_)
      · exact ⟨BU.2.1 0 _ rfl, BU.2.1 1 _ rfl, BU.2.1 2 _ rfl, BA.2.1 0 _ rfl, BA.2.1 1 _ rfl, BA.2.1 2 _ rfl⟩
      clear hK K
      refine nextN 3 (by kernel_rfl) rfl (fun K hK => ?_)
      go_simp
      go_at_call 41; refine (eqLP_same XX XY XZ arn arn abn abn acn acn XA aRN XC aRV aBV aCV TX TY TZ arn abn acn TA TC _ _ (XO.rds.1.more XO.hi_le) (XO.rds.2.1.more XO.hi_le) (XO.rds.2.2.more XO.hi_le) (TO.rds.1.more TO.hi_le) (TO.rds.2.1.more TO.hi_le) (TO.rds.2.2.more TO.hi_le) (Nat.le_refl _) ha1 HA2.out ha3 ha4).mono ?_; rintro e w10 ⟨rfl, hb⟩; have BA := BA.below hb; have BU := BU.below hb; have qv := qv.below hb s_qv; have s_qv := Nat.le_trans s_qv hb.size; have XO := XO.below hb; have TO := TO.below hb; have H := H.trans (hb.mono H.size); clear hb
      go_wp2_with fail
      refine hK.out _ _ ?_ (fun hHeld => ?_)
      · exact ⟨BU.2.1 0 _ rfl, BU.2.1 1 _ rfl, BU.2.1 2 _ rfl, BA.2.1 0 _ rfl, BA.2.1 1 _ rfl, BA.2.1 2 _ rfl⟩
      clear hK K
      refine takeN 4 (v := ?v9_4) rfl (by kernel_rfl) (by kernel_rfl) (by kernel_rfl) (fun _ _ _ h => h) (by rfl) ?hy9_4 (by assumption) ?r9_4
      case hy9_4 => (intro w hSw; (try dsimp only at hSw); first | (go_simp; done) | (go_simp; with_reducible rfl))
      simp only [Act.put, List.setIfInBounds_toArray, List.set_cons_zero, List.set_cons_succ]
      refine wpAnyH_done (by kernel_rfl) ?_ _
      refine NoPanic.normal ?_
      clear TO
      go_wp2_with fail
      refine (toRatS_any _ _ _ _ V _ (rv.below H (Nat.le_refl _)) H.size hn1).mono ?_
      rintro e w11 ⟨RV2, rfl, ow, hb⟩
      have qv := qv.below hb s_qv
      have s_qv := Nat.le_trans s_qv hb.size
      have XO := XO.below hb
      have H := H.trans (hb.mono H.size)
      clear hb
      have rw9 := RdP.of_own ow
      have s_rw9 := Nat.le_refl w11.heap.size
      clear ow
      go_wp2_with fail
      refine (eqRatS_same _ _ _ _ _ _ V _ (qv.more s_qv) (rw9.more s_rw9) (Nat.le_refl _) (by omega)).mono ?_
      rintro e w12 ⟨rfl, hb⟩
      have qv := qv.below hb s_qv
      have s_qv := Nat.le_trans s_qv hb.size
      have rw9 := rw9.below hb s_rw9
      have s_rw9 := Nat.le_trans s_rw9 hb.size
      have XO := XO.below hb
      have H := H.trans (hb.mono H.size)
      clear hb
      go_wp2
      go_ret
      exact ⟨rfl, H⟩
    · go_wp2_with fail
      refine (szRatS_no _ _ _ _ _ (by omega) v0 (by omega) m5).mono ?_
      rintro e w2 ⟨rfl, rfl⟩
      go_wp2
      go_ret
      exact ⟨rfl, H⟩

end Go.Proofs.Ytkhgolblendckaa
