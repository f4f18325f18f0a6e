/-
  The law FnExactSolutionOf walked: it returns true.
-/
import Derived.Test.YtajafmdeencohaaTabN
import Derived.Test.YtajafmdeencohaaSol
namespace Go.Proofs.Ytajafmdeencohaa
open Go.RowKit
attribute [local go_sem ↓] Go.wp_at_zero Go.wp_at_succ

set_option maxRecDepth 40000 in
set_option maxHeartbeats 4000000 in
theorem fnExactSolutionOf_walk {w : World} (aR aBs : Option Addr) (arn arc abn abc : Nat) (acols : Int) (aRA : Nat → Option Addr) (aRN aRC : Nat → Nat) (aRV : Nat → Fr) (aBV : Nat → Int) (hma : arn ≤ maxLen ∧ (∀ j, j < arn → aRN j ≤ maxLen) ∧ abn ≤ maxLen) (arr : RdR w w.heap.size aR arn aRA aRN aRC aRV) (abb : Rd w w.heap.size 1 aBs abn (cellsI aBV abn)) :
    Calls Try.prog 5 #[.agg #[.slice aR arn arc, .slice aBs abn abc, .int .i64 acols]] w fun e w' => e = .returned (.bool true) ∧ Below w.heap.size w w' := by
  simp only [maxLen] at hma
  obtain ⟨m1, m2, m3⟩ := hma
  have BA : Bx (w.alloc (.cells #[.slice aR arn arc, .slice aBs abn abc, .int .i64 acols] 25)) w.heap.size [.slice aR arn arc, .slice aBs abn abc, .int .i64 acols] := Bx.new w #[.slice aR arn arc, .slice aBs abn abc, .int .i64 acols] 25
  have H : Below w.heap.size w (w.alloc (.cells #[.slice aR arn arc, .slice aBs abn abc, .int .i64 acols] 25)) := (Below.refl _ _).alloc (Nat.le_refl _) _
  have SA := Lib.hid (szTab_any aR aBs arn arc abn abc acols aRA aRN aRC aRV _ (w.alloc (.cells #[.slice aR arn arc, .slice aBs abn abc, .int .i64 acols] 25)) (arr.below H (Nat.le_refl _)) H.size 1048576 (by omega) (by omega) (by omega) (fun j hj => by have := m2 j hj; omega) (by omega))
  clear m1 m2 m3
  go_enter Try.func5, Try.ntmps5
  go_wp2_with fail
  refine SA.out.mono ?_
  rintro e w1 ⟨v, rfl, hv, hb⟩
  have BA := BA.below hb
  have H := H.trans (hb.mono H.size)
  clear hb SA
  rcases hv with rfl | ⟨v0, v1, hv1, hv2, hv3⟩
  · go_wp2
    go_ret
    exact ⟨rfl, H⟩
  · have d1 := decide_eq_false (show ¬ v < 0 by omega)
    have ha1 : arn ≤ 1048576 := by omega
    have ha2' : ∀ j, j < arn → aRN j ≤ 1048576 := fun j hj => by have := hv2 j hj; omega
    have ha3 : abn ≤ 1048576 := by omega
    have HA2 := Lib.hid ha2'
    clear hv2 ha2' hv1 hv3
    obtain ⟨m, hm⟩ : ∃ m, m = solN (Pl.form acols arn aRN abn aBV) acols arn := ⟨_, rfl⟩
    obtain ⟨VV, hV⟩ : ∃ VV, VV = solAt aBV aRV (acols.toNat + arn) arn := ⟨_, rfl⟩
    have hmn : m ≤ 2097152 := by
      rw [hm, solN]
      split
      · rename_i h
        obtain ⟨q, rfl, hq, _⟩ := Pl.formFacts h
        omega
      · omega
    have SC := Lib.hid (fun X XA XC Y lo hi wx (h : OwnTab wx lo hi X arn arn XA aRN XC aRV Y abn abn aBV) => sSol_any X Y arn arn abn abn acols XA aRN XC aRV aBV _ wx h.rows_at h.basis_at (Nat.le_refl _) ha1 HA2.out)
    have IC := Lib.hid (fun X XA XC Y lo hi wx (h : OwnTab wx lo hi X arn arn XA aRN XC aRV Y abn abn aBV) => iSol_any X Y arn arn abn abn acols XA aRN XC aRV aBV _ wx h.rows_at h.basis_at (Nat.le_refl _) ha1 ha3)
    unfold OwnsSol at SC IC
    rw [← hm, ← hV] at SC IC
    clear hm hV
    have x0 := BA.2.1 0 _ rfl
    have x1 := BA.2.1 1 _ rfl
    have x2 := BA.2.1 2 _ rfl
    have xz := BA.1
    go_wp2_with fail
    refine (toTab_own aR aBs arn arc abn abc acols aRA aRN aRC aRV aBV _ _ (arr.below H (Nat.le_refl _)) (abb.below' H (Nat.le_refl _)) H.size ha1 HA2.out ha3).mono ?_
    rintro e w2 ⟨PX, PA, PC, PY, Ph, rfl, PO, hb⟩
    have BA := BA.below hb
    have H := H.trans (hb.mono H.size)
    clear hb
    have x0 := BA.2.1 0 _ rfl
    have x1 := BA.2.1 1 _ rfl
    have x2 := BA.2.1 2 _ rfl
    have xz := BA.1
    go_wp2_with fail
    refine (SC.out PX PA PC PY _ _ _ PO).mono ?_
    rintro e w3 ⟨v0, rfl, ow, hb⟩
    obtain ⟨A0, c0, rfl⟩ := own_form ow
    have BA := BA.below hb
    have PO := PO.below hb
    have H := H.trans (hb.mono H.size)
    clear hb
    have x0 := BA.2.1 0 _ rfl
    have x1 := BA.2.1 1 _ rfl
    have x2 := BA.2.1 2 _ rfl
    have xz := BA.1
    have rw0 := RdP.of_own ow
    have s_rw0 := Nat.le_refl w3.heap.size
    clear ow
    clear PO
    have tH_X := H.size
    have t_rw0_X := s_rw0
    have tb_BA_X := BA.1
    go_wp2_with fail
    refine (toTab_own aR aBs arn arc abn abc acols aRA aRN aRC aRV aBV _ _ (arr.below H (Nat.le_refl _)) (abb.below' H (Nat.le_refl _)) H.size ha1 HA2.out ha3).mono ?_
    rintro e w4 ⟨XX, XA, XC, XY, Xh, rfl, XO, hb⟩
    have BA := BA.below hb
    have rw0 := rw0.below hb s_rw0
    have s_rw0 := Nat.le_trans s_rw0 hb.size
    have H := H.trans (hb.mono H.size)
    clear hb
    have x0 := BA.2.1 0 _ rfl
    have x1 := BA.2.1 1 _ rfl
    have x2 := BA.2.1 2 _ rfl
    have xz := BA.1
    go_wp2_with fail
    have tX_BU := XO.le
    have hb := (Below.refl w4.heap.size w4).alloc (Nat.le_refl _) (.cells #[.slice XX arn arn, .slice XY abn abn, .int .i64 acols] 30)
    have BA := BA.below hb
    have rw0 := rw0.below hb s_rw0
    have s_rw0 := Nat.le_trans s_rw0 hb.size
    have XO := XO.below hb
    have H := H.trans (hb.mono H.size)
    clear hb
    have BU := Bx.new w4 #[.slice XX arn arn, .slice XY abn abn, .int .i64 acols] 30
    have tX_o_g := XO.le
    have tH_G := H.size
    have t_rw0_G := s_rw0
    have tb_BA_G := BA.1
    have tb_BU_G := BU.1
    refine (IC.out XX XA XC XY _ _ _ XO).mono ?_
    rintro e w5 ⟨v1, rfl, o_g, hb⟩
    obtain ⟨A1, c1, rfl⟩ := own_form o_g
    have BA := BA.below hb
    have BU := BU.below hb
    have rw0 := rw0.below hb s_rw0
    have s_rw0 := Nat.le_trans s_rw0 hb.size
    have XO := XO.below hb
    have H := H.trans (hb.mono H.size)
    clear hb
    have x0 := BA.2.1 0 _ rfl
    have x1 := BA.2.1 1 _ rfl
    have x2 := BA.2.1 2 _ rfl
    have xz := BA.1
    have u0 := BU.2.1 0 _ rfl
    have u1 := BU.2.1 1 _ rfl
    have u2 := BU.2.1 2 _ rfl
    have uz := BU.1
    go_wp2_with fail
    refine (eqRatS_same _ _ _ _ _ _ VV _ (RdP.of_own o_g) (rw0.more s_rw0) (Nat.le_refl _) (by omega)).mono ?_
    rintro e w6 ⟨rfl, hb⟩
    have BA := BA.below hb
    have BU := BU.below hb
    have rw0 := rw0.below hb s_rw0
    have s_rw0 := Nat.le_trans s_rw0 hb.size
    have XO := XO.below hb
    have o_g := own_below o_g hb
    have H := H.trans (hb.mono H.size)
    clear hb
    have x0 := BA.2.1 0 _ rfl
    have x1 := BA.2.1 1 _ rfl
    have x2 := BA.2.1 2 _ rfl
    have xz := BA.1
    have u0 := BU.2.1 0 _ rfl
    have u1 := BU.2.1 1 _ rfl
    have u2 := BU.2.1 2 _ rfl
    have uz := BU.1
    have hb : Below w6.heap.size w6 w6.drew := (Below.refl _ _).drew
    have BA := BA.below hb
    have BU := BU.below hb
    have rw0 := rw0.below hb s_rw0
    have s_rw0 := Nat.le_trans s_rw0 hb.size
    have XO := XO.below hb
    have o_g := own_below o_g hb
    have H := H.trans (hb.mono H.size)
    clear hb
    go_upto_region 10 with fail
    refine wp_region_noPanic ?_
    refine wp_region_held_drew (S := (fun w' => w'.cell? ⟨w4.heap.size, 0, none⟩ = some (.slice XX arn arn) ∧ w'.cell? ⟨w4.heap.size, 1, none⟩ = some (.slice XY abn abn) ∧ w'.cell? ⟨w4.heap.size, 2, none⟩ = some (.int .i64 acols) ∧ w'.cell? ⟨w.heap.size, 0, none⟩ = some (.slice aR arn arc) ∧ w'.cell? ⟨w.heap.size, 1, none⟩ = some (.slice aBs abn abc) ∧ w'.cell? ⟨w.heap.size, 2, none⟩ = some (.int .i64 acols))) (by kernel_rfl) ?_ (fun hHeld => ?_)
    · exact ⟨BU.2.1 0 _ rfl, BU.2.1 1 _ rfl, BU.2.1 2 _ rfl, BA.2.1 0 _ rfl, BA.2.1 1 _ rfl, BA.2.1 2 _ rfl⟩
    refine takeN 0 (v := ?v1_0) rfl (by kernel_rfl) (by kernel_rfl) (by kernel_rfl) (fun _ _ _ h => h) (by rfl) ?hy1_0 (by assumption) ?r1_0
    case hy1_0 => (intro w hSw; (try dsimp only at hSw); first | (go_simp; done) | (go_simp; with_reducible rfl))
    simp only [Act.put, List.setIfInBounds_toArray, List.set_cons_zero, List.set_cons_succ]
    refine takeN 1 (v := ?v1_1) rfl (by kernel_rfl) (by kernel_rfl) (by kernel_rfl) (fun _ _ _ h => h) (by rfl) ?hy1_1 (by assumption) ?r1_1
    case hy1_1 => (intro w hSw; (try dsimp only at hSw); first | (go_simp; done) | (go_simp; with_reducible rfl))
    simp only [Act.put, List.setIfInBounds_toArray, List.set_cons_zero, List.set_cons_succ]
    refine nextN 2 (by kernel_rfl) rfl (fun K hK => ?_)
    go_simp
    go_at_call 12; refine (toTab_own aR aBs arn arc abn abc acols aRA aRN aRC aRV aBV _ _ (arr.below H (Nat.le_refl _)) (abb.below' H (Nat.le_refl _)) H.size ha1 HA2.out ha3).mono ?_; rintro e w7 ⟨TX, TA, TC, TY, Th, rfl, TO, hb⟩; have BA := BA.below hb; have BU := BU.below hb; have rw0 := rw0.below hb s_rw0; have s_rw0 := Nat.le_trans s_rw0 hb.size; have XO := XO.below hb; have o_g := own_below o_g hb; have H := H.trans (hb.mono H.size); clear hb
    go_wp2_with fail
    refine hK.out _ _ ?_ (fun hHeld => ?_)
    · exact ⟨BU.2.1 0 _ rfl, BU.2.1 1 _ rfl, BU.2.1 2 _ rfl, BA.2.1 0 _ rfl, BA.2.1 1 _ rfl, BA.2.1 2 _ rfl⟩
    clear hK K
    refine nextN 3 (by kernel_rfl) rfl (fun K hK => ?_)
    go_simp
    go_at_call 14; refine (eqTab_same XX XY arn arn abn abn acols XA aRN XC aRV aBV TX TY arn abn TA TC _ _ XO.rows_at XO.basis_at TO.rows_at TO.basis_at (Nat.le_refl _) ha1 HA2.out ha3).mono ?_; rintro e w8 ⟨rfl, hb⟩; have BA := BA.below hb; have BU := BU.below hb; have rw0 := rw0.below hb s_rw0; have s_rw0 := Nat.le_trans s_rw0 hb.size; have XO := XO.below hb; have o_g := own_below o_g hb; have TO := TO.below hb; have H := H.trans (hb.mono H.size); clear hb
    go_wp2_with fail
    refine hK.out _ _ ?_ (fun hHeld => ?_)
    · exact ⟨BU.2.1 0 _ rfl, BU.2.1 1 _ rfl, BU.2.1 2 _ rfl, BA.2.1 0 _ rfl, BA.2.1 1 _ rfl, BA.2.1 2 _ rfl⟩
    clear hK K
    refine takeN 4 (v := ?v1_4) rfl (by kernel_rfl) (by kernel_rfl) (by kernel_rfl) (fun _ _ _ h => h) (by rfl) ?hy1_4 (by assumption) ?r1_4
    case hy1_4 => (intro w hSw; (try dsimp only at hSw); first | (go_simp; done) | (go_simp; with_reducible rfl))
    simp only [Act.put, List.setIfInBounds_toArray, List.set_cons_zero, List.set_cons_succ]
    refine wpAnyH_done (by kernel_rfl) ?_ _
    refine NoPanic.normal ?_
    clear TO
    have x0 := BA.2.1 0 _ rfl
    have x1 := BA.2.1 1 _ rfl
    have x2 := BA.2.1 2 _ rfl
    have xz := BA.1
    have u0 := BU.2.1 0 _ rfl
    have u1 := BU.2.1 1 _ rfl
    have u2 := BU.2.1 2 _ rfl
    have uz := BU.1
    go_wp2_with fail
    refine (markTab_only XX arn arn XA aRN XC aRV XY abn abn aBV acols _ _ 1 _ XO ha1 HA2.out ha3 (by omega) (by omega)).mono ?_
    rintro e w9 ⟨mk, rfl, mk0, om⟩
    have dmk := decide_eq_false (show ¬ mk < 0 by omega)
    have rw0 := rw0.only om s_rw0 t_rw0_X
    have s_rw0 := Nat.le_trans s_rw0 om.size
    have BA := BA.only om (Or.inl tb_BA_X)
    have BU := BU.only om (Or.inr tX_BU)
    have o_g := own_only o_g om (fun q hq => Or.inr (Nat.le_trans tX_o_g (o_g.lt q hq).1))
    have H := H.only om H.size tH_X
    clear om
    have x0 := BA.2.1 0 _ rfl
    have x1 := BA.2.1 1 _ rfl
    have x2 := BA.2.1 2 _ rfl
    have xz := BA.1
    have u0 := BU.2.1 0 _ rfl
    have u1 := BU.2.1 1 _ rfl
    have u2 := BU.2.1 2 _ rfl
    have uz := BU.1
    clear XO
    go_wp2_with fail
    refine (eqRatS_same _ _ _ _ _ _ VV _ (RdP.of_own o_g) (rw0.more s_rw0) (Nat.le_refl _) (by omega)).mono ?_
    rintro e w10 ⟨rfl, hb⟩
    have BA := BA.below hb
    have BU := BU.below hb
    have rw0 := rw0.below hb s_rw0
    have s_rw0 := Nat.le_trans s_rw0 hb.size
    have o_g := own_below o_g hb
    have H := H.trans (hb.mono H.size)
    clear hb
    have x0 := BA.2.1 0 _ rfl
    have x1 := BA.2.1 1 _ rfl
    have x2 := BA.2.1 2 _ rfl
    have xz := BA.1
    have u0 := BU.2.1 0 _ rfl
    have u1 := BU.2.1 1 _ rfl
    have u2 := BU.2.1 2 _ rfl
    have uz := BU.1
    go_wp2_with fail
    have lt_g := o_g.lt
    refine (markRatS_own A1 m c1 _ 1 _ _ o_g (by omega) (by omega) (by omega)).mono ?_
    rintro e w11 ⟨rfl, o_g, hg⟩
    have om := Only.of_grown hg lt_g
    clear hg lt_g
    have rw0 := rw0.only om s_rw0 t_rw0_G
    have s_rw0 := Nat.le_trans s_rw0 om.size
    have BA := BA.only om (Or.inl tb_BA_G)
    have H := H.only om H.size tH_G
    clear om
    have x0 := BA.2.1 0 _ rfl
    have x1 := BA.2.1 1 _ rfl
    have x2 := BA.2.1 2 _ rfl
    have xz := BA.1
    go_wp2_with fail
    refine (heldRatS_any A1 m c1 _ 1 _ (RdP.of_own o_g) (by omega) (by omega) (by omega)).mono ?_
    rintro e wq ⟨rfl, rfl⟩
    go_wp2_with fail
    refine (toTab_own aR aBs arn arc abn abc acols aRA aRN aRC aRV aBV _ _ (arr.below H (Nat.le_refl _)) (abb.below' H (Nat.le_refl _)) H.size ha1 HA2.out ha3).mono ?_
    rintro e w12 ⟨YX, YA, YC, YY, Yh, rfl, YO, hb⟩
    have BA := BA.below hb
    have rw0 := rw0.below hb s_rw0
    have s_rw0 := Nat.le_trans s_rw0 hb.size
    have o_g := own_below o_g hb
    have H := H.trans (hb.mono H.size)
    clear hb
    have x0 := BA.2.1 0 _ rfl
    have x1 := BA.2.1 1 _ rfl
    have x2 := BA.2.1 2 _ rfl
    have xz := BA.1
    go_wp2_with fail
    refine (IC.out YX YA YC YY _ _ _ YO).mono ?_
    rintro e w13 ⟨v2, rfl, o_h, hb⟩
    obtain ⟨A2, c2, rfl⟩ := own_form o_h
    have BA := BA.below hb
    have rw0 := rw0.below hb s_rw0
    have s_rw0 := Nat.le_trans s_rw0 hb.size
    have o_g := own_below o_g hb
    have YO := YO.below hb
    have H := H.trans (hb.mono H.size)
    clear hb
    have x0 := BA.2.1 0 _ rfl
    have x1 := BA.2.1 1 _ rfl
    have x2 := BA.2.1 2 _ rfl
    have xz := BA.1
    go_wp2_with fail
    refine (eqRatS_same _ _ _ _ _ _ VV _ (RdP.of_own o_h) (rw0.more s_rw0) (Nat.le_refl _) (by omega)).mono ?_
    rintro e w14 ⟨rfl, hb⟩
    have BA := BA.below hb
    have rw0 := rw0.below hb s_rw0
    have s_rw0 := Nat.le_trans s_rw0 hb.size
    have o_g := own_below o_g hb
    have YO := YO.below hb
    have o_h := own_below o_h hb
    have H := H.trans (hb.mono H.size)
    clear hb
    have x0 := BA.2.1 0 _ rfl
    have x1 := BA.2.1 1 _ rfl
    have x2 := BA.2.1 2 _ rfl
    have xz := BA.1
    go_wp2_with fail
    refine (heldRatS_any A1 m c1 _ 1 _ (RdP.of_own o_g) (by omega) (by omega) (by omega)).mono ?_
    rintro e wq ⟨rfl, rfl⟩
    go_wp2
    go_ret
    exact ⟨rfl, H⟩

end Go.Proofs.Ytajafmdeencohaa
