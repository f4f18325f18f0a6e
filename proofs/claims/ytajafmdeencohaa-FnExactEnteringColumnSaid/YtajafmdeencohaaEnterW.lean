/-
  The law FnExactEnteringColumn walked: it returns true.
-/
import Derived.Test.YtajafmdeencohaaTab2
namespace Go.Proofs.Ytajafmdeencohaa
open Go.RowKit
attribute [local go_sem ↓] Go.wp_at_zero Go.wp_at_succ

set_option maxRecDepth 40000 in
set_option maxHeartbeats 4000000 in
theorem fnExactEnteringColumn_walk {w : World} (aR aBs : Option Addr) (arn arc abn abc : Nat) (acols : Int) (aRA : Nat → Option Addr) (aRN aRC : Nat → Nat) (aRV : Nat → Fr) (aBV : Nat → Int) (hma : arn ≤ maxLen ∧ (∀ j, j < arn → aRN j ≤ maxLen) ∧ abn ≤ maxLen) (arr : RdR w w.heap.size aR arn aRA aRN aRC aRV) (abb : Rd w w.heap.size 1 aBs abn (cellsI aBV abn))
    (A : Option Addr) (n c : Nat) (V : Fr) (hn : n ≤ maxLen) (rv : RdP w w.heap.size A n V) (_ : ∀ j, j < n → (Lit.int .i64 (V j).1).wf = true ∧ (Lit.int .i64 (V j).2).wf = true) (last : Int) (_ : (Lit.int .i64 last).wf = true) :
    Calls Try.prog 4 #[.agg #[.slice aR arn arc, .slice aBs abn abc, .int .i64 acols], .slice A n c, .int .i64 last] w fun e w' => e = .returned (.bool true) ∧ Below w.heap.size w w' := by
  simp only [maxLen] at hma hn
  obtain ⟨m1, m2, m3⟩ := hma
  have m4 : (n : Int) ≤ 9223372036854775807 := by omega
  have BA : Bx (w.alloc (.cells #[.slice aR arn arc, .slice aBs abn abc, .int .i64 acols] 25)) w.heap.size [.slice aR arn arc, .slice aBs abn abc, .int .i64 acols] := Bx.new w #[.slice aR arn arc, .slice aBs abn abc, .int .i64 acols] 25
  have H : Below w.heap.size w (w.alloc (.cells #[.slice aR arn arc, .slice aBs abn abc, .int .i64 acols] 25)) := (Below.refl _ _).alloc (Nat.le_refl _) _
  have SA := Lib.hid (szTab_any aR aBs arn arc abn abc acols aRA aRN aRC aRV _ (w.alloc (.cells #[.slice aR arn arc, .slice aBs abn abc, .int .i64 acols] 25)) (arr.below H (Nat.le_refl _)) H.size 1048576 (by omega) (by omega) (by omega) (fun j hj => by have := m2 j hj; omega) (by omega))
  clear m1 m2 m3 hn
  go_enter Try.func4, Try.ntmps4
  go_wp2_with fail
  refine SA.out.mono ?_
  rintro e w1 ⟨v, rfl, hv, hb⟩
  have BA := BA.below hb
  have H := H.trans (hb.mono H.size)
  clear hb SA
  rcases hv with rfl | ⟨v0, v1, hv1, hv2, hv3⟩
  · go_wp2
    go_ret
    exact ⟨rfl, H⟩
  · have d1 := decide_eq_false (show ¬ v < 0 by omega)
    have ha1 : arn ≤ 1048576 := by omega
    have ha2' : ∀ j, j < arn → aRN j ≤ 1048576 := fun j hj => by have := hv2 j hj; omega
    have ha3 : abn ≤ 1048576 := by omega
    have HA2 := Lib.hid ha2'
    clear hv2 ha2'
    by_cases hs : 0 ≤ v - (n : Int)
    · have d2 := decide_eq_false (show ¬ v - (n : Int) < 0 by omega)
      have hn1 : n ≤ 1048576 := by omega
      go_wp2_with fail
      refine (szRatS_yes _ _ _ _ _ hs (by omega)).mono ?_
      rintro e w2 ⟨rfl, rfl⟩
      obtain ⟨w2, rfl⟩ : ∃ w2 : World, w2 = w1 := ⟨_, rfl⟩
      have x0 := BA.2.1 0 _ rfl
      have x1 := BA.2.1 1 _ rfl
      have x2 := BA.2.1 2 _ rfl
      have xz := BA.1
      go_wp2_with fail
      refine (toTab_any aR aBs arn arc abn abc acols aRA aRN aRC aRV aBV _ _ (arr.below H (Nat.le_refl _)) (abb.below' H (Nat.le_refl _)) H.size ha1 HA2.out ha3).mono ?_
      rintro e w3 ⟨PX, PA, PY, rfl, qP, rP, hb⟩
      have BA := BA.below hb
      have H := H.trans (hb.mono H.size)
      clear hb
      have s_qP := Nat.le_refl w3.heap.size
      have s_rP := Nat.le_refl w3.heap.size
      have x0 := BA.2.1 0 _ rfl
      have x1 := BA.2.1 1 _ rfl
      have x2 := BA.2.1 2 _ rfl
      have xz := BA.1
      go_wp2_with fail
      refine (toRatS_any _ _ _ _ V _ (rv.below H (Nat.le_refl _)) H.size hn1).mono ?_
      rintro e w4 ⟨XC, rfl, ow, hb⟩
      have BA := BA.below hb
      have qP := qP.below hb s_qP
      have s_qP := Nat.le_trans s_qP hb.size
      have rP := rP.below' hb s_rP
      have s_rP := Nat.le_trans s_rP hb.size
      have H := H.trans (hb.mono H.size)
      clear hb
      have x0 := BA.2.1 0 _ rfl
      have x1 := BA.2.1 1 _ rfl
      have x2 := BA.2.1 2 _ rfl
      have xz := BA.1
      have rc := RdP.of_own ow
      have s_rc := Nat.le_refl w4.heap.size
      clear ow
      go_wp2_with fail
      refine (sEnt_any _ _ _ _ _ _ _ _ _ _ _ V last _ (rc.more s_rc) (Nat.le_refl _) hn1).mono ?_
      rintro e w5 ⟨rfl, hb⟩
      have BA := BA.below hb
      have qP := qP.below hb s_qP
      have s_qP := Nat.le_trans s_qP hb.size
      have rP := rP.below' hb s_rP
      have s_rP := Nat.le_trans s_rP hb.size
      have H := H.trans (hb.mono H.size)
      clear hb
      have x0 := BA.2.1 0 _ rfl
      have x1 := BA.2.1 1 _ rfl
      have x2 := BA.2.1 2 _ rfl
      have xz := BA.1
      clear rc s_rc
      clear qP rP s_qP s_rP
      go_wp2_with fail
      refine (toTab_any aR aBs arn arc abn abc acols aRA aRN aRC aRV aBV _ _ (arr.below H (Nat.le_refl _)) (abb.below' H (Nat.le_refl _)) H.size ha1 HA2.out ha3).mono ?_
      rintro e w6 ⟨QX, QA, QY, rfl, qQ, rQ, hb⟩
      have BA := BA.below hb
      have H := H.trans (hb.mono H.size)
      clear hb
      have s_qQ := Nat.le_refl w6.heap.size
      have s_rQ := Nat.le_refl w6.heap.size
      have x0 := BA.2.1 0 _ rfl
      have x1 := BA.2.1 1 _ rfl
      have x2 := BA.2.1 2 _ rfl
      have xz := BA.1
      go_wp2_with fail
      have hb := (Below.refl w6.heap.size w6).alloc (Nat.le_refl _) (.cells #[.slice QX arn arn, .slice QY abn abn, .int .i64 acols] 30)
      have BA := BA.below hb
      have qQ := qQ.below hb s_qQ
      have s_qQ := Nat.le_trans s_qQ hb.size
      have rQ := rQ.below' hb s_rQ
      have s_rQ := Nat.le_trans s_rQ hb.size
      have H := H.trans (hb.mono H.size)
      clear hb
      have BQ := Bx.new w6 #[.slice QX arn arn, .slice QY abn abn, .int .i64 acols] 30
      refine (toRatS_any _ _ _ _ V _ (rv.below H (Nat.le_refl _)) H.size hn1).mono ?_
      rintro e w7 ⟨XD, rfl, ow, hb⟩
      have BA := BA.below hb
      have BQ := BQ.below hb
      have qQ := qQ.below hb s_qQ
      have s_qQ := Nat.le_trans s_qQ hb.size
      have rQ := rQ.below' hb s_rQ
      have s_rQ := Nat.le_trans s_rQ hb.size
      have H := H.trans (hb.mono H.size)
      clear hb
      have rd := RdP.of_own ow
      have s_rd := Nat.le_refl w7.heap.size
      clear ow
      have x0 := BA.2.1 0 _ rfl
      have x1 := BA.2.1 1 _ rfl
      have x2 := BA.2.1 2 _ rfl
      have xz := BA.1
      have u0 := BQ.2.1 0 _ rfl
      have u1 := BQ.2.1 1 _ rfl
      have u2 := BQ.2.1 2 _ rfl
      have uz := BQ.1
      go_wp2_with fail
      refine (iEnt_any _ _ _ _ _ _ _ _ _ _ _ V last _ (rd.more s_rd) (Nat.le_refl _) hn1).mono ?_
      rintro e w8 ⟨rfl, hb⟩
      have BA := BA.below hb
      have BQ := BQ.below hb
      have qQ := qQ.below hb s_qQ
      have s_qQ := Nat.le_trans s_qQ hb.size
      have rQ := rQ.below' hb s_rQ
      have s_rQ := Nat.le_trans s_rQ hb.size
      have rd := rd.below hb s_rd
      have s_rd := Nat.le_trans s_rd hb.size
      have H := H.trans (hb.mono H.size)
      clear hb
      have x0 := BA.2.1 0 _ rfl
      have x1 := BA.2.1 1 _ rfl
      have x2 := BA.2.1 2 _ rfl
      have xz := BA.1
      have u0 := BQ.2.1 0 _ rfl
      have u1 := BQ.2.1 1 _ rfl
      have u2 := BQ.2.1 2 _ rfl
      have uz := BQ.1
      have hb : Below w8.heap.size w8 w8.drew := (Below.refl _ _).drew
      have BA := BA.below hb
      have BQ := BQ.below hb
      have qQ := qQ.below hb s_qQ
      have s_qQ := Nat.le_trans s_qQ hb.size
      have rQ := rQ.below' hb s_rQ
      have s_rQ := Nat.le_trans s_rQ hb.size
      have rd := rd.below hb s_rd
      have s_rd := Nat.le_trans s_rd hb.size
      have H := H.trans (hb.mono H.size)
      clear hb
      go_upto_region 14 with fail
      refine wp_region_noPanic ?_
      refine wp_region_held_drew (S := (fun w' => w'.cell? ⟨w6.heap.size, 0, none⟩ = some (.slice QX arn arn) ∧ w'.cell? ⟨w6.heap.size, 1, none⟩ = some (.slice QY abn abn) ∧ w'.cell? ⟨w6.heap.size, 2, none⟩ = some (.int .i64 acols) ∧ w'.cell? ⟨w.heap.size, 0, none⟩ = some (.slice aR arn arc) ∧ w'.cell? ⟨w.heap.size, 1, none⟩ = some (.slice aBs abn abc) ∧ w'.cell? ⟨w.heap.size, 2, none⟩ = some (.int .i64 acols))) (by kernel_rfl) ?_ (fun hHeld => ?_)
      · exact ⟨BQ.2.1 0 _ rfl, BQ.2.1 1 _ rfl, BQ.2.1 2 _ rfl, BA.2.1 0 _ rfl, BA.2.1 1 _ rfl, BA.2.1 2 _ rfl⟩
      refine takeL 0 (v := ?v1_0) rfl (by kernel_rfl) (by kernel_rfl) (by kernel_rfl) (fun _ _ _ h => h) (by rfl) ?hy1_0 (by assumption) ?r1_0
      case hy1_0 => (intro w hSw; (try dsimp only at hSw); first | (go_simp; done) | (go_simp; with_reducible rfl))
      simp only [Act.put, List.setIfInBounds_toArray, List.set_cons_zero, List.set_cons_succ]
      refine takeL 1 (v := ?v1_1) rfl (by kernel_rfl) (by kernel_rfl) (by kernel_rfl) (fun _ _ _ h => h) (by rfl) ?hy1_1 (by assumption) ?r1_1
      case hy1_1 => (intro w hSw; (try dsimp only at hSw); first | (go_simp; done) | (go_simp; with_reducible rfl))
      simp only [Act.put, List.setIfInBounds_toArray, List.set_cons_zero, List.set_cons_succ]
      refine nextL 2 (by kernel_rfl) rfl (fun K hK => ?_)
      go_simp
      go_at_call 12; refine (toTab_any aR aBs arn arc abn abc acols aRA aRN aRC aRV aBV _ _ (arr.below H (Nat.le_refl _)) (abb.below' H (Nat.le_refl _)) H.size ha1 HA2.out ha3).mono ?_; rintro e w9 ⟨TX, TA, TY, rfl, qT, rT, hb⟩; have BA := BA.below hb; have BQ := BQ.below hb; have qQ := qQ.below hb s_qQ; have s_qQ := Nat.le_trans s_qQ hb.size; have rQ := rQ.below' hb s_rQ; have s_rQ := Nat.le_trans s_rQ hb.size; have rd := rd.below hb s_rd; have s_rd := Nat.le_trans s_rd hb.size; have H := H.trans (hb.mono H.size); clear hb; have s_qT := Nat.le_refl w9.heap.size; have s_rT := Nat.le_refl w9.heap.size
      go_wp2_with fail
      refine hK.out _ _ ?_ (fun hHeld => ?_)
      · exact ⟨BQ.2.1 0 _ rfl, BQ.2.1 1 _ rfl, BQ.2.1 2 _ rfl, BA.2.1 0 _ rfl, BA.2.1 1 _ rfl, BA.2.1 2 _ rfl⟩
      clear hK K
      refine nextL 3 (by kernel_rfl) rfl (fun K hK => ?_)
      go_simp
      go_at_call 14; refine (eqTab_same QX QY arn arn abn abn acols QA aRN aRN aRV aBV TX TY arn abn TA aRN _ _ (qQ.more s_qQ) (rQ.more s_rQ) (qT.more s_qT) (rT.more s_rT) (Nat.le_refl _) ha1 HA2.out ha3).mono ?_; rintro e w10 ⟨rfl, hb⟩; have BA := BA.below hb; have BQ := BQ.below hb; have qQ := qQ.below hb s_qQ; have s_qQ := Nat.le_trans s_qQ hb.size; have rQ := rQ.below' hb s_rQ; have s_rQ := Nat.le_trans s_rQ hb.size; have rd := rd.below hb s_rd; have s_rd := Nat.le_trans s_rd hb.size; have qT := qT.below hb s_qT; have s_qT := Nat.le_trans s_qT hb.size; have rT := rT.below' hb s_rT; have s_rT := Nat.le_trans s_rT hb.size; have H := H.trans (hb.mono H.size); clear hb
      go_wp2_with fail
      refine hK.out _ _ ?_ (fun hHeld => ?_)
      · exact ⟨BQ.2.1 0 _ rfl, BQ.2.1 1 _ rfl, BQ.2.1 2 _ rfl, BA.2.1 0 _ rfl, BA.2.1 1 _ rfl, BA.2.1 2 _ rfl⟩
      clear hK K
      refine takeL 4 (v := ?v1_4) rfl (by kernel_rfl) (by kernel_rfl) (by kernel_rfl) (fun _ _ _ h => h) (by rfl) ?hy1_4 (by assumption) ?r1_4
      case hy1_4 => (intro w hSw; (try dsimp only at hSw); first | (go_simp; done) | (go_simp; with_reducible rfl))
      simp only [Act.put, List.setIfInBounds_toArray, List.set_cons_zero, List.set_cons_succ]
      refine wpAnyH_done (by kernel_rfl) ?_ _
      refine NoPanic.normal ?_
      go_wp2_with fail
      refine (toRatS_any _ _ _ _ V _ (rv.below H (Nat.le_refl _)) H.size hn1).mono ?_
      rintro e w11 ⟨XE, rfl, ow, hb⟩
      have rd := rd.below hb s_rd
      have s_rd := Nat.le_trans s_rd hb.size
      have H := H.trans (hb.mono H.size)
      clear hb
      have re := RdP.of_own ow
      have s_re := Nat.le_refl w11.heap.size
      clear ow
      go_wp2_with fail
      refine (eqRatS_same _ _ _ _ _ _ V _ (rd.more s_rd) (re.more s_re) (Nat.le_refl _) (by omega)).mono ?_
      rintro e w12 ⟨rfl, hb⟩
      have rd := rd.below hb s_rd
      have s_rd := Nat.le_trans s_rd hb.size
      have re := re.below hb s_re
      have s_re := Nat.le_trans s_re hb.size
      have H := H.trans (hb.mono H.size)
      clear hb
      go_wp2
      go_ret
      exact ⟨rfl, H⟩
    · go_wp2_with fail
      refine (szRatS_no _ _ _ _ _ (by omega) v0 (by omega) m4).mono ?_
      rintro e w2 ⟨rfl, rfl⟩
      go_wp2
      go_ret
      exact ⟨rfl, H⟩

end Go.Proofs.Ytajafmdeencohaa
