/-
  The law FnExactCostRow walked: it returns true.
-/
import Derived.Test.YtajafmdeencohaaTabN
import Derived.Test.YtajafmdeencohaaCost
namespace Go.Proofs.Ytajafmdeencohaa
open Go.RowKit
attribute [local go_sem ↓] Go.wp_at_zero Go.wp_at_succ

set_option maxRecDepth 40000 in
set_option maxHeartbeats 4000000 in
theorem fnExactCostRow_walk {w : World} (aR aBs : Option Addr) (arn arc abn abc : Nat) (acols : Int) (aRA : Nat → Option Addr) (aRN aRC : Nat → Nat) (aRV : Nat → Fr) (aBV : Nat → Int) (hma : arn ≤ maxLen ∧ (∀ j, j < arn → aRN j ≤ maxLen) ∧ abn ≤ maxLen) (arr : RdR w w.heap.size aR arn aRA aRN aRC aRV) (abb : Rd w w.heap.size 1 aBs abn (cellsI aBV abn))
    (A : Option Addr) (n c : Nat) (V : Fr) (hn : n ≤ maxLen) (rv : RdP w w.heap.size A n V) (_ : ∀ j, j < n → (Lit.int .i64 (V j).1).wf = true ∧ (Lit.int .i64 (V j).2).wf = true) :
    Calls Try.prog 6 #[.agg #[.slice aR arn arc, .slice aBs abn abc, .int .i64 acols], .slice A n c] w fun e w' => e = .returned (.bool true) ∧ Below w.heap.size w w' := by
  simp only [maxLen] at hma hn
  obtain ⟨m1, m2, m3⟩ := hma
  have m4 : (n : Int) ≤ 9223372036854775807 := by omega
  clear hn
  have BA : Bx (w.alloc (.cells #[.slice aR arn arc, .slice aBs abn abc, .int .i64 acols] 25)) w.heap.size [.slice aR arn arc, .slice aBs abn abc, .int .i64 acols] := Bx.new w #[.slice aR arn arc, .slice aBs abn abc, .int .i64 acols] 25
  have H : Below w.heap.size w (w.alloc (.cells #[.slice aR arn arc, .slice aBs abn abc, .int .i64 acols] 25)) := (Below.refl _ _).alloc (Nat.le_refl _) _
  have SA := Lib.hid (szTab_any aR aBs arn arc abn abc acols aRA aRN aRC aRV _ (w.alloc (.cells #[.slice aR arn arc, .slice aBs abn abc, .int .i64 acols] 25)) (arr.below H (Nat.le_refl _)) H.size 1048576 (by omega) (by omega) (by omega) (fun j hj => by have := m2 j hj; omega) (by omega))
  clear m1 m2 m3
  go_enter Try.func6, Try.ntmps6
  go_wp2_with fail
  refine SA.out.mono ?_
  rintro e w1 ⟨v, rfl, hv, hb⟩
  have BA := BA.below hb
  have H := H.trans (hb.mono H.size)
  clear hb SA
  rcases hv with rfl | ⟨v0, v1, hv1, hv2, hv3⟩
  · go_wp2
    go_ret
    exact ⟨rfl, H⟩
  · have d1 := decide_eq_false (show ¬ v < 0 by omega)
    have ha1 : arn ≤ 1048576 := by omega
    have ha2' : ∀ j, j < arn → aRN j ≤ 1048576 := fun j hj => by have := hv2 j hj; omega
    have ha3 : abn ≤ 1048576 := by omega
    have HA2 := Lib.hid ha2'
    clear hv2 ha2' hv1 hv3
    by_cases hs : 0 ≤ v - (n : Int)
    · have d2 := decide_eq_false (show ¬ v - (n : Int) < 0 by omega)
      have hn1 : n ≤ 1048576 := by omega
      go_wp2_with fail
      refine (szRatS_yes _ _ _ _ _ hs (by omega)).mono ?_
      rintro e w2 ⟨rfl, rfl⟩
      obtain ⟨w2, rfl⟩ : ∃ w2 : World, w2 = w1 := ⟨_, rfl⟩
      obtain ⟨ok, hok⟩ : ∃ ok, ok = Pl.costOk acols arn aRN abn aBV aRV n V := ⟨_, rfl⟩
      obtain ⟨VV, hV⟩ : ∃ VV, VV = Pl.costV V aBV aRV n arn := ⟨_, rfl⟩
      have SC := Lib.hid (fun X XA XC Y lo hi wx (h : OwnTab wx lo hi X arn arn XA aRN XC aRV Y abn abn aBV) (C : Option Addr) (hv : RdP wx wx.heap.size C n V) (hA : C = none → n = 0 ∧ n = 0) => sCost_any X Y arn arn abn abn acols XA aRN XC aRV aBV C n n V _ wx h.rows_at h.basis_at hv (Nat.le_refl _) ha1 HA2.out hn1 hA)
      have IC := Lib.hid (fun X XA XC Y lo hi wx (h : OwnTab wx lo hi X arn arn XA aRN XC aRV Y abn abn aBV) (C : Option Addr) (hv : RdP wx wx.heap.size C n V) (hA : C = none → n = 0 ∧ n = 0) => iCost_any X Y arn arn abn abn acols XA aRN XC aRV aBV C n n V _ wx h.rows_at h.basis_at hv (Nat.le_refl _) ha1 HA2.out ha3 hn1 hA)
      unfold OwnsSc at SC IC
      rw [← hok, ← hV] at SC IC
      obtain ⟨mm, hm⟩ : ∃ mm, mm = (if ok then n + 1 else 0) := ⟨_, rfl⟩
      rw [← hm] at SC IC
      have hmn : mm ≤ 2097152 := by
        rw [hm]
        split <;> omega
      clear hm hok hV
      have x0 := BA.2.1 0 _ rfl
      have x1 := BA.2.1 1 _ rfl
      have x2 := BA.2.1 2 _ rfl
      have xz := BA.1
      go_wp2_with fail
      refine (toTab_own aR aBs arn arc abn abc acols aRA aRN aRC aRV aBV _ _ (arr.below H (Nat.le_refl _)) (abb.below' H (Nat.le_refl _)) H.size ha1 HA2.out ha3).mono ?_
      rintro e w3 ⟨PX, PA, PC, PY, Ph, rfl, PO, hb⟩
      have BA := BA.below hb
      have H := H.trans (hb.mono H.size)
      clear hb
      have x0 := BA.2.1 0 _ rfl
      have x1 := BA.2.1 1 _ rfl
      have x2 := BA.2.1 2 _ rfl
      have xz := BA.1
      go_wp2_with fail
      refine (toRatS_any _ _ _ _ V _ (rv.below H (Nat.le_refl _)) H.size hn1).mono ?_
      rintro e w4 ⟨XQ, rfl, o_q, hb⟩
      have BA := BA.below hb
      have PO := PO.below hb
      have H := H.trans (hb.mono H.size)
      clear hb
      have x0 := BA.2.1 0 _ rfl
      have x1 := BA.2.1 1 _ rfl
      have x2 := BA.2.1 2 _ rfl
      have xz := BA.1
      go_wp2_with fail
      refine (SC.out PX PA PC PY _ _ _ PO _ (RdP.of_own o_q) (own_none o_q)).mono ?_
      rintro e w5 ⟨v0, rfl, ow, hb⟩
      obtain ⟨A0, c0, rfl⟩ := own_form ow
      have BA := BA.below hb
      have PO := PO.below hb
      have o_q := own_below o_q hb
      have H := H.trans (hb.mono H.size)
      clear hb
      have x0 := BA.2.1 0 _ rfl
      have x1 := BA.2.1 1 _ rfl
      have x2 := BA.2.1 2 _ rfl
      have xz := BA.1
      have rw0 := RdP.of_own ow
      have s_rw0 := Nat.le_refl w5.heap.size
      clear ow
      clear PO
      clear o_q
      have tH_X := H.size
      have t_rw0_X := s_rw0
      have tb_BA_X := BA.1
      go_wp2_with fail
      refine (toTab_own aR aBs arn arc abn abc acols aRA aRN aRC aRV aBV _ _ (arr.below H (Nat.le_refl _)) (abb.below' H (Nat.le_refl _)) H.size ha1 HA2.out ha3).mono ?_
      rintro e w6 ⟨XX, XA, XC, XY, Xh, rfl, XO, hb⟩
      have BA := BA.below hb
      have rw0 := rw0.below hb s_rw0
      have s_rw0 := Nat.le_trans s_rw0 hb.size
      have H := H.trans (hb.mono H.size)
      clear hb
      have x0 := BA.2.1 0 _ rfl
      have x1 := BA.2.1 1 _ rfl
      have x2 := BA.2.1 2 _ rfl
      have xz := BA.1
      go_wp2_with fail
      have tX_BU := XO.le
      have hb := (Below.refl w6.heap.size w6).alloc (Nat.le_refl _) (.cells #[.slice XX arn arn, .slice XY abn abn, .int .i64 acols] 30)
      have BA := BA.below hb
      have rw0 := rw0.below hb s_rw0
      have s_rw0 := Nat.le_trans s_rw0 hb.size
      have XO := XO.below hb
      have H := H.trans (hb.mono H.size)
      clear hb
      have BU := Bx.new w6 #[.slice XX arn arn, .slice XY abn abn, .int .i64 acols] 30
      have tX_o_x := XO.le
      have tH_Y := H.size
      have t_rw0_Y := s_rw0
      have tb_BA_Y := BA.1
      have tb_BU_Y := BU.1
      refine (toRatS_any _ _ _ _ V _ (rv.below H (Nat.le_refl _)) H.size hn1).mono ?_
      rintro e w7 ⟨XX1, rfl, o_x, hb⟩
      have BA := BA.below hb
      have BU := BU.below hb
      have rw0 := rw0.below hb s_rw0
      have s_rw0 := Nat.le_trans s_rw0 hb.size
      have XO := XO.below hb
      have H := H.trans (hb.mono H.size)
      clear hb
      have x0 := BA.2.1 0 _ rfl
      have x1 := BA.2.1 1 _ rfl
      have x2 := BA.2.1 2 _ rfl
      have xz := BA.1
      have u0 := BU.2.1 0 _ rfl
      have u1 := BU.2.1 1 _ rfl
      have u2 := BU.2.1 2 _ rfl
      have uz := BU.1
      have hi_x := fun g h => (o_x.lt g h).2
      have tX_o_g := Nat.le_trans XO.le (Nat.le_refl _)
      have tY_o_g := Nat.le_refl w7.heap.size
      have tH_G := H.size
      have t_rw0_G := s_rw0
      have tb_BA_G := BA.1
      have tb_BU_G := BU.1
      go_wp2_with fail
      refine (IC.out XX XA XC XY _ _ _ XO _ (RdP.of_own o_x) (own_none o_x)).mono ?_
      rintro e w8 ⟨v1, rfl, o_g, hb⟩
      obtain ⟨A1, c1, rfl⟩ := own_form o_g
      have BA := BA.below hb
      have BU := BU.below hb
      have rw0 := rw0.below hb s_rw0
      have s_rw0 := Nat.le_trans s_rw0 hb.size
      have XO := XO.below hb
      have o_x := own_below o_x hb
      have H := H.trans (hb.mono H.size)
      clear hb
      have x0 := BA.2.1 0 _ rfl
      have x1 := BA.2.1 1 _ rfl
      have x2 := BA.2.1 2 _ rfl
      have xz := BA.1
      have u0 := BU.2.1 0 _ rfl
      have u1 := BU.2.1 1 _ rfl
      have u2 := BU.2.1 2 _ rfl
      have uz := BU.1
      go_wp2_with fail
      refine (eqRatS_same _ _ _ _ _ _ VV _ (RdP.of_own o_g) (rw0.more s_rw0) (Nat.le_refl _) (by omega)).mono ?_
      rintro e w9 ⟨rfl, hb⟩
      have BA := BA.below hb
      have BU := BU.below hb
      have rw0 := rw0.below hb s_rw0
      have s_rw0 := Nat.le_trans s_rw0 hb.size
      have XO := XO.below hb
      have o_x := own_below o_x hb
      have o_g := own_below o_g hb
      have H := H.trans (hb.mono H.size)
      clear hb
      have x0 := BA.2.1 0 _ rfl
      have x1 := BA.2.1 1 _ rfl
      have x2 := BA.2.1 2 _ rfl
      have xz := BA.1
      have u0 := BU.2.1 0 _ rfl
      have u1 := BU.2.1 1 _ rfl
      have u2 := BU.2.1 2 _ rfl
      have uz := BU.1
      have hb : Below w9.heap.size w9 w9.drew := (Below.refl _ _).drew
      have BA := BA.below hb
      have BU := BU.below hb
      have rw0 := rw0.below hb s_rw0
      have s_rw0 := Nat.le_trans s_rw0 hb.size
      have XO := XO.below hb
      have o_x := own_below o_x hb
      have o_g := own_below o_g hb
      have H := H.trans (hb.mono H.size)
      clear hb
      go_upto_region 14 with fail
      refine wp_region_noPanic ?_
      refine wp_region_held_drew (S := (fun w' => w'.cell? ⟨w6.heap.size, 0, none⟩ = some (.slice XX arn arn) ∧ w'.cell? ⟨w6.heap.size, 1, none⟩ = some (.slice XY abn abn) ∧ w'.cell? ⟨w6.heap.size, 2, none⟩ = some (.int .i64 acols) ∧ w'.cell? ⟨w.heap.size, 0, none⟩ = some (.slice aR arn arc) ∧ w'.cell? ⟨w.heap.size, 1, none⟩ = some (.slice aBs abn abc) ∧ w'.cell? ⟨w.heap.size, 2, none⟩ = some (.int .i64 acols))) (by kernel_rfl) ?_ (fun hHeld => ?_)
      · exact ⟨BU.2.1 0 _ rfl, BU.2.1 1 _ rfl, BU.2.1 2 _ rfl, BA.2.1 0 _ rfl, BA.2.1 1 _ rfl, BA.2.1 2 _ rfl⟩
      refine takeN 0 (v := ?v1_0) rfl (by kernel_rfl) (by kernel_rfl) (by kernel_rfl) (fun _ _ _ h => h) (by rfl) ?hy1_0 (by assumption) ?r1_0
      case hy1_0 => (intro w hSw; (try dsimp only at hSw); first | (go_simp; done) | (go_simp; with_reducible rfl))
      simp only [Act.put, List.setIfInBounds_toArray, List.set_cons_zero, List.set_cons_succ]
      refine takeN 1 (v := ?v1_1) rfl (by kernel_rfl) (by kernel_rfl) (by kernel_rfl) (fun _ _ _ h => h) (by rfl) ?hy1_1 (by assumption) ?r1_1
      case hy1_1 => (intro w hSw; (try dsimp only at hSw); first | (go_simp; done) | (go_simp; with_reducible rfl))
      simp only [Act.put, List.setIfInBounds_toArray, List.set_cons_zero, List.set_cons_succ]
      refine nextN 2 (by kernel_rfl) rfl (fun K hK => ?_)
      go_simp
      go_at_call 12; refine (toTab_own aR aBs arn arc abn abc acols aRA aRN aRC aRV aBV _ _ (arr.below H (Nat.le_refl _)) (abb.below' H (Nat.le_refl _)) H.size ha1 HA2.out ha3).mono ?_; rintro e w10 ⟨TX, TA, TC, TY, Th, rfl, TO, hb⟩; have BA := BA.below hb; have BU := BU.below hb; have rw0 := rw0.below hb s_rw0; have s_rw0 := Nat.le_trans s_rw0 hb.size; have XO := XO.below hb; have o_x := own_below o_x hb; have o_g := own_below o_g hb; have H := H.trans (hb.mono H.size); clear hb
      go_wp2_with fail
      refine hK.out _ _ ?_ (fun hHeld => ?_)
      · exact ⟨BU.2.1 0 _ rfl, BU.2.1 1 _ rfl, BU.2.1 2 _ rfl, BA.2.1 0 _ rfl, BA.2.1 1 _ rfl, BA.2.1 2 _ rfl⟩
      clear hK K
      refine nextN 3 (by kernel_rfl) rfl (fun K hK => ?_)
      go_simp
      go_at_call 14; refine (eqTab_same XX XY arn arn abn abn acols XA aRN XC aRV aBV TX TY arn abn TA TC _ _ XO.rows_at XO.basis_at TO.rows_at TO.basis_at (Nat.le_refl _) ha1 HA2.out ha3).mono ?_; rintro e w11 ⟨rfl, hb⟩; have BA := BA.below hb; have BU := BU.below hb; have rw0 := rw0.below hb s_rw0; have s_rw0 := Nat.le_trans s_rw0 hb.size; have XO := XO.below hb; have o_x := own_below o_x hb; have o_g := own_below o_g hb; have TO := TO.below hb; have H := H.trans (hb.mono H.size); clear hb
      go_wp2_with fail
      refine hK.out _ _ ?_ (fun hHeld => ?_)
      · exact ⟨BU.2.1 0 _ rfl, BU.2.1 1 _ rfl, BU.2.1 2 _ rfl, BA.2.1 0 _ rfl, BA.2.1 1 _ rfl, BA.2.1 2 _ rfl⟩
      clear hK K
      refine takeN 4 (v := ?v1_4) rfl (by kernel_rfl) (by kernel_rfl) (by kernel_rfl) (fun _ _ _ h => h) (by rfl) ?hy1_4 (by assumption) ?r1_4
      case hy1_4 => (intro w hSw; (try dsimp only at hSw); first | (go_simp; done) | (go_simp; with_reducible rfl))
      simp only [Act.put, List.setIfInBounds_toArray, List.set_cons_zero, List.set_cons_succ]
      refine wpAnyH_done (by kernel_rfl) ?_ _
      refine NoPanic.normal ?_
      clear TO
      have x0 := BA.2.1 0 _ rfl
      have x1 := BA.2.1 1 _ rfl
      have x2 := BA.2.1 2 _ rfl
      have xz := BA.1
      have u0 := BU.2.1 0 _ rfl
      have u1 := BU.2.1 1 _ rfl
      have u2 := BU.2.1 2 _ rfl
      have uz := BU.1
      go_wp2_with fail
      refine (toRatS_any _ _ _ _ V _ (rv.below H (Nat.le_refl _)) H.size hn1).mono ?_
      rintro e w12 ⟨XR, rfl, o_r, hb⟩
      have BA := BA.below hb
      have BU := BU.below hb
      have rw0 := rw0.below hb s_rw0
      have s_rw0 := Nat.le_trans s_rw0 hb.size
      have XO := XO.below hb
      have o_x := own_below o_x hb
      have o_g := own_below o_g hb
      have H := H.trans (hb.mono H.size)
      clear hb
      have x0 := BA.2.1 0 _ rfl
      have x1 := BA.2.1 1 _ rfl
      have x2 := BA.2.1 2 _ rfl
      have xz := BA.1
      have u0 := BU.2.1 0 _ rfl
      have u1 := BU.2.1 1 _ rfl
      have u2 := BU.2.1 2 _ rfl
      have uz := BU.1
      have rr := RdP.of_own o_r
      have s_rr := Nat.le_refl w12.heap.size
      go_wp2_with fail
      refine (eqRatS_same _ _ _ _ _ _ V _ (RdP.of_own o_x) (rr.more s_rr) (Nat.le_refl _) (by omega)).mono ?_
      rintro e w13 ⟨rfl, hb⟩
      have BA := BA.below hb
      have BU := BU.below hb
      have rw0 := rw0.below hb s_rw0
      have s_rw0 := Nat.le_trans s_rw0 hb.size
      have rr := rr.below hb s_rr
      have s_rr := Nat.le_trans s_rr hb.size
      have XO := XO.below hb
      have o_x := own_below o_x hb
      have o_g := own_below o_g hb
      have o_r := own_below o_r hb
      have H := H.trans (hb.mono H.size)
      clear hb
      have x0 := BA.2.1 0 _ rfl
      have x1 := BA.2.1 1 _ rfl
      have x2 := BA.2.1 2 _ rfl
      have xz := BA.1
      have u0 := BU.2.1 0 _ rfl
      have u1 := BU.2.1 1 _ rfl
      have u2 := BU.2.1 2 _ rfl
      have uz := BU.1
      clear rr o_r
      go_wp2_with fail
      refine (markTab_lim XX arn arn XA aRN XC aRV XY abn abn aBV acols _ _ 1 _ XO ha1 HA2.out ha3 (by omega) (by omega)).mono ?_
      rintro e w14 ⟨mk, rfl, mk0, mk1, om⟩
      have rw0 := rw0.only om s_rw0 t_rw0_X
      have s_rw0 := Nat.le_trans s_rw0 om.size
      have BA := BA.only om (Or.inl tb_BA_X)
      have BU := BU.only om (Or.inr tX_BU)
      have o_x := own_only o_x om (fun q hq => Or.inr (Nat.le_trans tX_o_x (o_x.lt q hq).1))
      have o_g := own_only o_g om (fun q hq => Or.inr (Nat.le_trans tX_o_g (o_g.lt q hq).1))
      have H := H.only om H.size tH_X
      clear om
      have x0 := BA.2.1 0 _ rfl
      have x1 := BA.2.1 1 _ rfl
      have x2 := BA.2.1 2 _ rfl
      have xz := BA.1
      have u0 := BU.2.1 0 _ rfl
      have u1 := BU.2.1 1 _ rfl
      have u2 := BU.2.1 2 _ rfl
      have uz := BU.1
      clear XO
      go_wp2_with fail
      have lt_x := fun g h => And.intro (o_x.lt g h).1 (hi_x g h)
      refine (markRatS_own XX1 n n _ mk _ _ o_x (by omega) mk0 mk1).mono ?_
      rintro e w15 ⟨rfl, o_x, hg⟩
      have om := Only.of_grown hg lt_x
      have dmk := decide_eq_false (show ¬ mk + 2 * (n : Int) < 0 by omega)
      clear hg lt_x
      have rw0 := rw0.only om s_rw0 t_rw0_Y
      have s_rw0 := Nat.le_trans s_rw0 om.size
      have BA := BA.only om (Or.inl tb_BA_Y)
      have o_g := own_only o_g om (fun q hq => Or.inr (Nat.le_trans tY_o_g (o_g.lt q hq).1))
      have H := H.only om H.size tH_Y
      clear om
      have x0 := BA.2.1 0 _ rfl
      have x1 := BA.2.1 1 _ rfl
      have x2 := BA.2.1 2 _ rfl
      have xz := BA.1
      clear o_x
      go_wp2_with fail
      refine (eqRatS_same _ _ _ _ _ _ VV _ (RdP.of_own o_g) (rw0.more s_rw0) (Nat.le_refl _) (by omega)).mono ?_
      rintro e w16 ⟨rfl, hb⟩
      have BA := BA.below hb
      have rw0 := rw0.below hb s_rw0
      have s_rw0 := Nat.le_trans s_rw0 hb.size
      have o_g := own_below o_g hb
      have H := H.trans (hb.mono H.size)
      clear hb
      have x0 := BA.2.1 0 _ rfl
      have x1 := BA.2.1 1 _ rfl
      have x2 := BA.2.1 2 _ rfl
      have xz := BA.1
      go_wp2_with fail
      have lt_g := o_g.lt
      refine (markRatS_own A1 mm c1 _ 1 _ _ o_g (by omega) (by omega) (by omega)).mono ?_
      rintro e w17 ⟨rfl, o_g, hg⟩
      have om := Only.of_grown hg lt_g
      clear hg lt_g
      have rw0 := rw0.only om s_rw0 t_rw0_G
      have s_rw0 := Nat.le_trans s_rw0 om.size
      have BA := BA.only om (Or.inl tb_BA_G)
      have H := H.only om H.size tH_G
      clear om
      have x0 := BA.2.1 0 _ rfl
      have x1 := BA.2.1 1 _ rfl
      have x2 := BA.2.1 2 _ rfl
      have xz := BA.1
      go_wp2_with fail
      refine (heldRatS_any A1 mm c1 _ 1 _ (RdP.of_own o_g) (by omega) (by omega) (by omega)).mono ?_
      rintro e wq ⟨rfl, rfl⟩
      go_wp2_with fail
      refine (toTab_own aR aBs arn arc abn abc acols aRA aRN aRC aRV aBV _ _ (arr.below H (Nat.le_refl _)) (abb.below' H (Nat.le_refl _)) H.size ha1 HA2.out ha3).mono ?_
      rintro e w18 ⟨YX, YA, YC, YY, Yh, rfl, YO, hb⟩
      have BA := BA.below hb
      have rw0 := rw0.below hb s_rw0
      have s_rw0 := Nat.le_trans s_rw0 hb.size
      have o_g := own_below o_g hb
      have H := H.trans (hb.mono H.size)
      clear hb
      have x0 := BA.2.1 0 _ rfl
      have x1 := BA.2.1 1 _ rfl
      have x2 := BA.2.1 2 _ rfl
      have xz := BA.1
      go_wp2_with fail
      refine (toRatS_any _ _ _ _ V _ (rv.below H (Nat.le_refl _)) H.size hn1).mono ?_
      rintro e w19 ⟨XZ, rfl, o_z, hb⟩
      have BA := BA.below hb
      have rw0 := rw0.below hb s_rw0
      have s_rw0 := Nat.le_trans s_rw0 hb.size
      have o_g := own_below o_g hb
      have YO := YO.below hb
      have H := H.trans (hb.mono H.size)
      clear hb
      have x0 := BA.2.1 0 _ rfl
      have x1 := BA.2.1 1 _ rfl
      have x2 := BA.2.1 2 _ rfl
      have xz := BA.1
      go_wp2_with fail
      refine (IC.out YX YA YC YY _ _ _ YO _ (RdP.of_own o_z) (own_none o_z)).mono ?_
      rintro e w20 ⟨v2, rfl, o_h, hb⟩
      obtain ⟨A2, c2, rfl⟩ := own_form o_h
      have BA := BA.below hb
      have rw0 := rw0.below hb s_rw0
      have s_rw0 := Nat.le_trans s_rw0 hb.size
      have o_g := own_below o_g hb
      have YO := YO.below hb
      have o_z := own_below o_z hb
      have H := H.trans (hb.mono H.size)
      clear hb
      have x0 := BA.2.1 0 _ rfl
      have x1 := BA.2.1 1 _ rfl
      have x2 := BA.2.1 2 _ rfl
      have xz := BA.1
      go_wp2_with fail
      refine (eqRatS_same _ _ _ _ _ _ VV _ (RdP.of_own o_h) (rw0.more s_rw0) (Nat.le_refl _) (by omega)).mono ?_
      rintro e w21 ⟨rfl, hb⟩
      have BA := BA.below hb
      have rw0 := rw0.below hb s_rw0
      have s_rw0 := Nat.le_trans s_rw0 hb.size
      have o_g := own_below o_g hb
      have YO := YO.below hb
      have o_z := own_below o_z hb
      have o_h := own_below o_h hb
      have H := H.trans (hb.mono H.size)
      clear hb
      have x0 := BA.2.1 0 _ rfl
      have x1 := BA.2.1 1 _ rfl
      have x2 := BA.2.1 2 _ rfl
      have xz := BA.1
      go_wp2_with fail
      refine (heldRatS_any A1 mm c1 _ 1 _ (RdP.of_own o_g) (by omega) (by omega) (by omega)).mono ?_
      rintro e wq ⟨rfl, rfl⟩
      go_wp2
      go_ret
      exact ⟨rfl, H⟩
    · go_wp2_with fail
      refine (szRatS_no _ _ _ _ _ (by omega) v0 (by omega) m4).mono ?_
      rintro e w2 ⟨rfl, rfl⟩
      go_wp2
      go_ret
      exact ⟨rfl, H⟩

end Go.Proofs.Ytajafmdeencohaa
