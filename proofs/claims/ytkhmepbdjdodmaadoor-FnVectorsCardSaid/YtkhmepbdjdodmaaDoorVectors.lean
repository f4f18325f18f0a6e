/-
  The law FnVectors walked: it returns true.
-/
import Derived.Test.YtkhmepbdjdodmaaDoorDrawVec
import Derived.Test.YtkhmepbdjdodmaaDoorVecLin
import Derived.Test.YtkhmepbdjdodmaaDoorVecValid
import Derived.Test.YtkhmepbdjdodmaaDoorFmtVec
import Derived.Test.YtkhmepbdjdodmaaDoorBig
namespace Go.Proofs.YtkhmepbdjdodmaaDoor
open Go.RowKit
attribute [local go_sem ↓] Go.wp_at_zero Go.wp_at_succ

theorem RdB.up {W w : World} {A : Option Addr} {n : Nat} (h : RdB W W.heap.size A n) (hb : Below W.heap.size W w) : RdB w w.heap.size A n := fun hn => by
  obtain ⟨b, off, e, hlt, hc⟩ := h hn
  refine ⟨b, off, e, Nat.lt_of_lt_of_le hlt hb.size, fun j hj => ?_⟩
  obtain ⟨x, x0, x1, hx⟩ := hc j hj
  exact ⟨x, x0, x1, (hb.cell (p := ⟨b, off + j, none⟩) hlt).trans hx⟩
/-- 1, 2, 3 .. -/
def ones : Fr := fun i => ((i : Int) + 1, 1)
theorem ones_snoc (j : Nat) : cellsV ones j ++ [.int .i64 ((j : Int) + 1), .int .i64 1] = cellsV ones (j + 1) := by
  rw [cellsV_snoc]
  refine cellsV_congr fun i _ => ?_
  by_cases h : i = j
  · subst h
    simp [upd, ones]
  · simp [upd, h]

set_option maxRecDepth 40000 in
set_option maxHeartbeats 4000000 in
theorem fnVectors_walk {w : World} (A : Option Addr) (n c : Nat) (_ : n ≤ maxLen) (hr : RdB w w.heap.size A n) (ht : Tab w) :
    Calls Tryd.prog 8 #[.slice A n c] w fun e w' => e = .returned (.bool true) ∧ Below w.heap.size w w' := by
  by_cases hbig : (1048576 : Int) < (n : Int)
  · go_enter Tryd.func8, Tryd.ntmps8
    go_wp2_with fail
    refine (big_yes _ _ _ _ hbig).mono ?_
    rintro e _ ⟨rfl, rfl⟩
    go_wp2
    go_ret
    exact ⟨rfl, Below.refl _ _⟩
  have DA := Lib.hid (drawAddScaled_any A n c w (by omega) hr)
  have DI := Lib.hid (fun w' (h : Below w.heap.size w w') => drawIntsToRats_any A n c w' (by omega) (hr.up h))
  have HBIG := Lib.hid hbig
  have HT := Lib.hid ht
  clear hr hbig ht
  go_enter Tryd.func8, Tryd.ntmps8
  go_wp2_with fail
  refine (big_no _ _ _ _ (by have := HBIG.out; omega)).mono ?_
  rintro e _ ⟨rfl, rfl⟩
  go_wp2_with fail
  refine DA.out.mono ?_
  rintro e w1 ⟨A1, A2, c1, c2, n1, n2, V1, V2, kx, ky, ⟨n18, n28⟩, rfl, ra, rb, H⟩
  have s_ra := Nat.le_refl w1.heap.size
  have s_rb := Nat.le_refl w1.heap.size
  have SC := And.intro (fun A1 A2 c1 c2 B w h1 h2 hB => iSc_any A1 A2 n1 n2 c1 c2 B V1 V2 kx ky w h1 h2 hB (by omega) (by omega)) (fun A1 A2 c1 c2 B w h1 h2 hB => sSc_any A1 A2 n1 n2 c1 c2 B V1 V2 kx ky w h1 h2 hB (by omega) (by omega))
  unfold OwnsSc at SC
  obtain ⟨VS, hVS⟩ : ∃ VS, VS = Pl.scV V1 kx ky V2 := ⟨_, rfl⟩
  obtain ⟨ok, hok⟩ : ∃ ok, ok = Pl.scOk n1 V1 kx ky n2 V2 := ⟨_, rfl⟩
  obtain ⟨mm, hm⟩ : ∃ mm, mm = (if ok then n1 else 0) := ⟨_, rfl⟩
  rw [← hVS, ← hok, ← hm] at SC
  have hmm : mm ≤ 8 := by
    rw [hm]
    split <;> omega
  obtain ⟨x1, x2, x3, hX⟩ : ∃ x1 x2 x3, Pl.dot mm VS n1 ones = (x1, x2, x3) := ⟨_, _, _, rfl⟩
  obtain ⟨y1, y2, y3, hY⟩ : ∃ y1 y2 y3, Pl.dot n1 V1 n1 ones = (y1, y2, y3) := ⟨_, _, _, rfl⟩
  obtain ⟨z1, z2, z3, hZ⟩ : ∃ z1 z2 z3, Pl.dot n2 V2 n1 ones = (z1, z2, z3) := ⟨_, _, _, rfl⟩
  obtain ⟨v1, v2, v3, hV⟩ : ∃ v1 v2 v3, Pl.mul kx ky z1 z2 = (v1, v2, v3) := ⟨_, _, _, rfl⟩
  obtain ⟨u1, u2, u3, hU⟩ : ∃ u1 u2 u3, Pl.add y1 y2 v1 v2 = (u1, u2, u3) := ⟨_, _, _, rfl⟩
  have LIN : ok = true → x3 = true → y3 = true → z3 = true → v3 = true → u3 = true → x1 = u1 ∧ x2 = u2 := by
    intro h0 h1 h2 h3 h4 h5
    rw [h0, if_pos rfl] at hm
    subst hm
    have h := Pl.vec_lin (V1 := V1) (V2 := V2) (O := ones) (x := kx) (y := ky) (n1 := mm) (n2 := n2)
    rw [← hok, ← hVS, hX, hY, hZ] at h
    simp only [hV, hU] at h
    exact h h0 h1 h2 h3 h4 h5
  have DX := fun A1 A2 c1 c2 B w h1 h2 hB => iDot_any A1 A2 mm n1 c1 c2 B VS ones w h1 h2 hB (by omega) (by omega)
  have DY := fun A1 A2 c1 c2 B w h1 h2 hB => iDot_any A1 A2 n1 n1 c1 c2 B V1 ones w h1 h2 hB (by omega) (by omega)
  have DZ := fun A1 A2 c1 c2 B w h1 h2 hB => iDot_any A1 A2 n2 n1 c1 c2 B V2 ones w h1 h2 hB (by omega) (by omega)
  have MV := fun w => imul_any kx ky z1 z2 w
  have AU := fun w => iadd_any y1 y2 v1 v2 w
  simp only [hX] at DX
  simp only [hY] at DY
  simp only [hZ] at DZ
  simp only [hV] at MV
  simp only [hU] at AU
  have DS := Lib.hid (And.intro DX (And.intro DY (And.intro DZ (And.intro MV AU))))
  have SC := Lib.hid SC
  have LIN := Lib.hid LIN
  have FV := Lib.hid (And.intro (fun A c B w h hB ht => ifmtV_any A n1 c B V1 w h hB (by omega) ht) (fun A c B w h hB => sfmtV_any A n1 c B V1 w h hB (by omega)))
  generalize (⟨(Pl.fmtV V1 n1).toArray⟩ : ByteArray) = TX at FV
  have AV := Lib.hid (And.intro (fun A c B w h hB => iAllValid_any A n1 c B V1 w h hB (by omega)) (fun A c B w h hB => sAllValid_any A n1 c B V1 w h hB (by omega)))
  generalize Pl.okTo V1 n1 = av at AV
  clear hVS hok hm hX hY hZ hV hU DX DY DZ MV AU
  go_wp2_with fail
  have hb := (Below.refl w1.heap.size w1).alloc (Nat.le_refl _) (.cells #[.int .i64 kx, .int .i64 ky] 27)
  have ra := ra.below hb s_ra
  have s_ra := Nat.le_trans s_ra hb.size
  have rb := rb.below hb s_rb
  have s_rb := Nat.le_trans s_rb hb.size
  have H := H.trans (hb.mono H.size)
  clear hb
  have BK := Box.new w1 kx ky 27
  refine (SC.out.1 _ _ _ _ _ _ (ra.more s_ra) (rb.more s_rb) (Nat.le_refl _)).mono ?_
  rintro e w2 ⟨vs, rfl, ow, hb⟩
  obtain ⟨XS, cS, rfl⟩ := own_form ow
  have BK := BK.below hb
  have ra := ra.below hb s_ra
  have s_ra := Nat.le_trans s_ra hb.size
  have rb := rb.below hb s_rb
  have s_rb := Nat.le_trans s_rb hb.size
  have H := H.trans (hb.mono H.size)
  clear hb
  have rs := RdP.of_own ow
  have s_rs := Nat.le_refl w2.heap.size
  clear ow
  have K0 := BK.1
  have K1 := BK.2.1
  have K4 := BK.2.2.2.2
  go_wp2_with fail
  refine (SC.out.2 _ _ _ _ _ _ (ra.more s_ra) (rb.more s_rb) (Nat.le_refl _)).mono ?_
  rintro e w3 ⟨vw, rfl, ow, hb⟩
  obtain ⟨XW, cW, rfl⟩ := own_form ow
  have BK := BK.below hb
  have ra := ra.below hb s_ra
  have s_ra := Nat.le_trans s_ra hb.size
  have rb := rb.below hb s_rb
  have s_rb := Nat.le_trans s_rb hb.size
  have rs := rs.below hb s_rs
  have s_rs := Nat.le_trans s_rs hb.size
  have H := H.trans (hb.mono H.size)
  clear hb
  have rw := RdP.of_own ow
  have s_rw := Nat.le_refl w3.heap.size
  clear ow
  have K0 := BK.1
  have K1 := BK.2.1
  have K4 := BK.2.2.2.2
  go_wp2_with fail
  refine (iEqualVector_any _ _ _ _ _ _ _ VS VS _ (rs.more s_rs) (rw.more s_rw) (Nat.le_refl _) (by omega) (by omega)).mono ?_
  rintro e w4 ⟨rfl, hb⟩
  have BK := BK.below hb
  have ra := ra.below hb s_ra
  have s_ra := Nat.le_trans s_ra hb.size
  have rb := rb.below hb s_rb
  have s_rb := Nat.le_trans s_rb hb.size
  have rs := rs.below hb s_rs
  have s_rs := Nat.le_trans s_rs hb.size
  have rw := rw.below hb s_rw
  have s_rw := Nat.le_trans s_rw hb.size
  have H := H.trans (hb.mono H.size)
  clear hb
  have K0 := BK.1
  have K1 := BK.2.1
  have K4 := BK.2.2.2.2
  rw [Pl.eqv_refl]
  clear rw s_rw
  have HH4 := Lib.hid H
  go_wp2_with fail
  go_loopw [10, 11] (fun o u wr => ∃ j : Nat, j ≤ n1 ∧ u = .int .i64 j ∧ wr.ownsRow w4.heap.size 27 2 o j (cellsV ones j) ∧ Below w4.heap.size w4 wr) (fun _ u _ => n1 - (intOf u).toNat)
  case atStart => exact ⟨0, Nat.zero_le _, rfl, World.ownsRow_made _ #[] 0 (Nat.le_refl _) (by decide) rfl, (Below.refl _ _).alloc (Nat.le_refl _) _⟩
  case round =>
    obtain ⟨j, hj, rfl, hown, hb⟩ := hrel
    by_cases hlt : j < n1
    · have HSN := Lib.hid (ones_snoc j)
      go_wp2_with (at_builtin; refine wpList_push _ rfl _ _ 37 rfl w4.heap.size 27 (.agg #[.int .i64 0, .int .i64 0]) 2 16 Tryd.underlying37 infoRat rfl (by decide) _ _ _ rfl hown [.int .i64 ((j : Int) + 1), .int .i64 1] rfl rfl (by simp [Value.oneCell']) (by decide) (by omega) hb.size ?_)
      intro v' w' hown' hk
      have hb' := hk _ _ (Nat.le_refl _) hb
      clear hk
      rw [HSN.out] at hown'
      go_wp2
      go_roundw
      case rel => exact ⟨j + 1, by omega, by go_num, hown', hb'⟩
      case measure => simp [intOf]; omega
    · obtain rfl : j = n1 := by omega
      obtain ⟨w5, rfl⟩ : ∃ w5 : World, w5 = wr := ⟨_, rfl⟩
      obtain ⟨XO, cO, rfl⟩ := own_form hown
      clear K0 K1 K4
      have BK := BK.below hb
      have ra := ra.below hb s_ra
      have s_ra := Nat.le_trans s_ra hb.size
      have rb := rb.below hb s_rb
      have s_rb := Nat.le_trans s_rb hb.size
      have rs := rs.below hb s_rs
      have s_rs := Nat.le_trans s_rs hb.size
      have H := H.trans (hb.mono H.size)
      clear hb
      have ro := RdP.of_own hown
      have s_ro := Nat.le_refl w5.heap.size
      clear hown
      have K0 := BK.1
      have K1 := BK.2.1
      have K4 := BK.2.2.2.2
      go_wp2_with fail
      refine (DS.out.1 _ _ _ _ _ _ (rs.more s_rs) (ro.more s_ro) (Nat.le_refl _)).mono ?_
      rintro e w6 ⟨rfl, hb⟩
      have BK := BK.below hb
      have ra := ra.below hb s_ra
      have s_ra := Nat.le_trans s_ra hb.size
      have rb := rb.below hb s_rb
      have s_rb := Nat.le_trans s_rb hb.size
      have rs := rs.below hb s_rs
      have s_rs := Nat.le_trans s_rs hb.size
      have ro := ro.below hb s_ro
      have s_ro := Nat.le_trans s_ro hb.size
      have H := H.trans (hb.mono H.size)
      clear hb
      have K0 := BK.1
      have K1 := BK.2.1
      have K4 := BK.2.2.2.2
      go_wp2_with fail
      have hb := (Below.refl w6.heap.size w6).alloc (Nat.le_refl _) (.cells #[.int .i64 x1, .int .i64 x2] 27)
      have BK := BK.below hb
      have ra := ra.below hb s_ra
      have s_ra := Nat.le_trans s_ra hb.size
      have rb := rb.below hb s_rb
      have s_rb := Nat.le_trans s_rb hb.size
      have rs := rs.below hb s_rs
      have s_rs := Nat.le_trans s_rs hb.size
      have ro := ro.below hb s_ro
      have s_ro := Nat.le_trans s_ro hb.size
      have H := H.trans (hb.mono H.size)
      clear hb
      have BX := Box.new w6 x1 x2 27
      refine (DS.out.2.1 _ _ _ _ _ _ (ra.more s_ra) (ro.more s_ro) (Nat.le_refl _)).mono ?_
      rintro e w7 ⟨rfl, hb⟩
      have BK := BK.below hb
      have BX := BX.below hb
      have ra := ra.below hb s_ra
      have s_ra := Nat.le_trans s_ra hb.size
      have rb := rb.below hb s_rb
      have s_rb := Nat.le_trans s_rb hb.size
      have rs := rs.below hb s_rs
      have s_rs := Nat.le_trans s_rs hb.size
      have ro := ro.below hb s_ro
      have s_ro := Nat.le_trans s_ro hb.size
      have H := H.trans (hb.mono H.size)
      clear hb
      have K0 := BK.1
      have K1 := BK.2.1
      have K4 := BK.2.2.2.2
      have X0 := BX.1
      have X1 := BX.2.1
      have X4 := BX.2.2.2.2
      go_wp2_with fail
      have hb := (Below.refl w7.heap.size w7).alloc (Nat.le_refl _) (.cells #[.int .i64 y1, .int .i64 y2] 27)
      have BK := BK.below hb
      have BX := BX.below hb
      have ra := ra.below hb s_ra
      have s_ra := Nat.le_trans s_ra hb.size
      have rb := rb.below hb s_rb
      have s_rb := Nat.le_trans s_rb hb.size
      have rs := rs.below hb s_rs
      have s_rs := Nat.le_trans s_rs hb.size
      have ro := ro.below hb s_ro
      have s_ro := Nat.le_trans s_ro hb.size
      have H := H.trans (hb.mono H.size)
      clear hb
      have BY := Box.new w7 y1 y2 27
      refine (DS.out.2.2.1 _ _ _ _ _ _ (rb.more s_rb) (ro.more s_ro) (Nat.le_refl _)).mono ?_
      rintro e w8 ⟨rfl, hb⟩
      have BK := BK.below hb
      have BX := BX.below hb
      have BY := BY.below hb
      have ra := ra.below hb s_ra
      have s_ra := Nat.le_trans s_ra hb.size
      have rb := rb.below hb s_rb
      have s_rb := Nat.le_trans s_rb hb.size
      have rs := rs.below hb s_rs
      have s_rs := Nat.le_trans s_rs hb.size
      have ro := ro.below hb s_ro
      have s_ro := Nat.le_trans s_ro hb.size
      have H := H.trans (hb.mono H.size)
      clear hb
      have K0 := BK.1
      have K1 := BK.2.1
      have K4 := BK.2.2.2.2
      have X0 := BX.1
      have X1 := BX.2.1
      have X4 := BX.2.2.2.2
      have Y0 := BY.1
      have Y1 := BY.2.1
      have Y4 := BY.2.2.2.2
      go_wp2_with fail
      have hb := (Below.refl w8.heap.size w8).alloc (Nat.le_refl _) (.cells #[.int .i64 z1, .int .i64 z2] 27)
      have BK := BK.below hb
      have BX := BX.below hb
      have BY := BY.below hb
      have ra := ra.below hb s_ra
      have s_ra := Nat.le_trans s_ra hb.size
      have rb := rb.below hb s_rb
      have s_rb := Nat.le_trans s_rb hb.size
      have rs := rs.below hb s_rs
      have s_rs := Nat.le_trans s_rs hb.size
      have ro := ro.below hb s_ro
      have s_ro := Nat.le_trans s_ro hb.size
      have H := H.trans (hb.mono H.size)
      clear hb
      have BZ := Box.new w8 z1 z2 27
      refine (DS.out.2.2.2.1 _).mono ?_
      rintro e w9 ⟨rfl, hb⟩
      have BK := BK.below hb
      have BX := BX.below hb
      have BY := BY.below hb
      have BZ := BZ.below hb
      have ra := ra.below hb s_ra
      have s_ra := Nat.le_trans s_ra hb.size
      have rb := rb.below hb s_rb
      have s_rb := Nat.le_trans s_rb hb.size
      have rs := rs.below hb s_rs
      have s_rs := Nat.le_trans s_rs hb.size
      have ro := ro.below hb s_ro
      have s_ro := Nat.le_trans s_ro hb.size
      have H := H.trans (hb.mono H.size)
      clear hb
      have K0 := BK.1
      have K1 := BK.2.1
      have K4 := BK.2.2.2.2
      have X0 := BX.1
      have X1 := BX.2.1
      have X4 := BX.2.2.2.2
      have Y0 := BY.1
      have Y1 := BY.2.1
      have Y4 := BY.2.2.2.2
      have Z0 := BZ.1
      have Z1 := BZ.2.1
      have Z4 := BZ.2.2.2.2
      go_wp2_with fail
      have hb := (Below.refl w9.heap.size w9).alloc (Nat.le_refl _) (.cells #[.int .i64 v1, .int .i64 v2] 27)
      have BK := BK.below hb
      have BX := BX.below hb
      have BY := BY.below hb
      have BZ := BZ.below hb
      have ra := ra.below hb s_ra
      have s_ra := Nat.le_trans s_ra hb.size
      have rb := rb.below hb s_rb
      have s_rb := Nat.le_trans s_rb hb.size
      have rs := rs.below hb s_rs
      have s_rs := Nat.le_trans s_rs hb.size
      have ro := ro.below hb s_ro
      have s_ro := Nat.le_trans s_ro hb.size
      have H := H.trans (hb.mono H.size)
      clear hb
      have BW := Box.new w9 v1 v2 27
      refine (DS.out.2.2.2.2 _).mono ?_
      rintro e w10 ⟨rfl, hb⟩
      have BK := BK.below hb
      have BX := BX.below hb
      have BY := BY.below hb
      have BZ := BZ.below hb
      have BW := BW.below hb
      have ra := ra.below hb s_ra
      have s_ra := Nat.le_trans s_ra hb.size
      have rb := rb.below hb s_rb
      have s_rb := Nat.le_trans s_rb hb.size
      have rs := rs.below hb s_rs
      have s_rs := Nat.le_trans s_rs hb.size
      have ro := ro.below hb s_ro
      have s_ro := Nat.le_trans s_ro hb.size
      have H := H.trans (hb.mono H.size)
      clear hb
      have K0 := BK.1
      have K1 := BK.2.1
      have K4 := BK.2.2.2.2
      have X0 := BX.1
      have X1 := BX.2.1
      have X4 := BX.2.2.2.2
      have Y0 := BY.1
      have Y1 := BY.2.1
      have Y4 := BY.2.2.2.2
      have Z0 := BZ.1
      have Z1 := BZ.2.1
      have Z4 := BZ.2.2.2.2
      have W0 := BW.1
      have W1 := BW.2.1
      have W4 := BW.2.2.2.2
      go_upto_region 18 with fail
      go_cut [121] (fun sx wx => sx = .bool false ∧ wx = (w10.alloc (.cells #[.int .i64 u1, .int .i64 u2] 27)))
      case first =>
        cases ok
        · go_wp2_with fail
          go_meet
          exact ⟨rfl, rfl⟩
        · cases x3
          · go_wp2_with fail
            go_meet
            exact ⟨rfl, rfl⟩
          · cases y3
            · go_wp2_with fail
              go_meet
              exact ⟨rfl, rfl⟩
            · cases z3
              · go_wp2_with fail
                go_meet
                exact ⟨rfl, rfl⟩
              · cases v3
                · go_wp2_with fail
                  go_meet
                  exact ⟨rfl, rfl⟩
                · cases u3
                  · go_wp2_with fail
                    go_meet
                    exact ⟨rfl, rfl⟩
                  · obtain ⟨rfl, rfl⟩ := LIN.out rfl rfl rfl rfl rfl rfl
                    go_wp2_with fail
                    go_meet
                    exact ⟨rfl, rfl⟩
      case rest =>
        obtain ⟨rfl, rfl⟩ := hcut
        clear K0 K1 K4
        clear X0 X1 X4
        clear Y0 Y1 Y4
        clear Z0 Z1 Z4
        clear W0 W1 W4
        have hb := (Below.refl w10.heap.size w10).alloc (Nat.le_refl _) (.cells #[.int .i64 u1, .int .i64 u2] 27)
        have ra := ra.below hb s_ra
        have s_ra := Nat.le_trans s_ra hb.size
        have rb := rb.below hb s_rb
        have s_rb := Nat.le_trans s_rb hb.size
        have rs := rs.below hb s_rs
        have s_rs := Nat.le_trans s_rs hb.size
        have ro := ro.below hb s_ro
        have s_ro := Nat.le_trans s_ro hb.size
        have H := H.trans (hb.mono H.size)
        clear hb
        generalize (w10.alloc (.cells #[.int .i64 u1, .int .i64 u2] 27)) = wq at H ra rb rs ro s_ra s_rb s_rs s_ro ⊢
        clear SC DS LIN rb rs ro s_rb s_rs s_ro
        go_wp2_with fail
        refine (DI.out _ H).mono ?_
        rintro e w11 ⟨AI, cI, nI, VI, hnI, rfl, ri, hb⟩
        have ra := ra.below hb s_ra
        have s_ra := Nat.le_trans s_ra hb.size
        have H := H.trans (hb.mono H.size)
        clear hb
        have s_ri := Nat.le_refl w11.heap.size
        have IS := And.intro (fun A c B w h hB => iI2R_any A nI c B VI w h hB (by omega)) (fun A c B w h hB => sI2R_any A nI c B VI w h hB (by omega))
        unfold OwnsUnits at IS
        obtain ⟨okI, hokI⟩ : ∃ okI, okI = Pl.allIn VI nI := ⟨_, rfl⟩
        obtain ⟨mI, hmI⟩ : ∃ mI, mI = (if okI then nI else 0) := ⟨_, rfl⟩
        rw [← hokI, ← hmI] at IS
        have hmI8 : mI ≤ 8 := by
          rw [hmI]
          split <;> omega
        have IS := Lib.hid IS
        clear hokI hmI
        go_wp2_with fail
        refine (IS.out.1 _ _ _ _ ri s_ri).mono ?_
        rintro e w12 ⟨vr, rfl, ow, hb⟩
        obtain ⟨XR, cR, rfl⟩ := own_form ow
        have ra := ra.below hb s_ra
        have s_ra := Nat.le_trans s_ra hb.size
        have ri := ri.below' hb s_ri
        have s_ri := Nat.le_trans s_ri hb.size
        have H := H.trans (hb.mono H.size)
        clear hb
        have rr := RdP.of_own ow
        have s_rr := Nat.le_refl w12.heap.size
        clear ow
        go_wp2_with fail
        refine (IS.out.2 _ _ _ _ ri s_ri).mono ?_
        rintro e w13 ⟨vq, rfl, ow, hb⟩
        obtain ⟨XQ, cQ, rfl⟩ := own_form ow
        have ra := ra.below hb s_ra
        have s_ra := Nat.le_trans s_ra hb.size
        have ri := ri.below' hb s_ri
        have s_ri := Nat.le_trans s_ri hb.size
        have rr := rr.below hb s_rr
        have s_rr := Nat.le_trans s_rr hb.size
        have H := H.trans (hb.mono H.size)
        clear hb
        have rq := RdP.of_own ow
        have s_rq := Nat.le_refl w13.heap.size
        clear ow
        go_wp2_with fail
        refine (sEqualVector_any _ _ _ _ _ _ _ (unitV VI) (unitV VI) _ (rr.more s_rr) (rq.more s_rq) (Nat.le_refl _) (by omega) (by omega)).mono ?_
        rintro e w14 ⟨rfl, hb⟩
        have ra := ra.below hb s_ra
        have s_ra := Nat.le_trans s_ra hb.size
        have ri := ri.below' hb s_ri
        have s_ri := Nat.le_trans s_ri hb.size
        have rr := rr.below hb s_rr
        have s_rr := Nat.le_trans s_rr hb.size
        have rq := rq.below hb s_rq
        have s_rq := Nat.le_trans s_rq hb.size
        have H := H.trans (hb.mono H.size)
        clear hb
        rw [Pl.eqv_refl]
        go_wp2_with fail
        refine (FV.out.1 _ _ _ _ ra s_ra (HT.out.below H)).mono ?_
        rintro e w15 ⟨rfl, hb⟩
        have ra := ra.below hb s_ra
        have s_ra := Nat.le_trans s_ra hb.size
        have ri := ri.below' hb s_ri
        have s_ri := Nat.le_trans s_ri hb.size
        have rr := rr.below hb s_rr
        have s_rr := Nat.le_trans s_rr hb.size
        have rq := rq.below hb s_rq
        have s_rq := Nat.le_trans s_rq hb.size
        have H := H.trans (hb.mono H.size)
        clear hb
        go_wp2_with fail
        refine (FV.out.2 _ _ _ _ ra s_ra).mono ?_
        rintro e w16 ⟨rfl, hb⟩
        have ra := ra.below hb s_ra
        have s_ra := Nat.le_trans s_ra hb.size
        have ri := ri.below' hb s_ri
        have s_ri := Nat.le_trans s_ri hb.size
        have rr := rr.below hb s_rr
        have s_rr := Nat.le_trans s_rr hb.size
        have rq := rq.below hb s_rq
        have s_rq := Nat.le_trans s_rq hb.size
        have H := H.trans (hb.mono H.size)
        clear hb
        go_wp2_with fail
        refine (AV.out.1 _ _ _ _ ra s_ra).mono ?_
        rintro e w17 ⟨rfl, hb⟩
        have ra := ra.below hb s_ra
        have s_ra := Nat.le_trans s_ra hb.size
        have ri := ri.below' hb s_ri
        have s_ri := Nat.le_trans s_ri hb.size
        have rr := rr.below hb s_rr
        have s_rr := Nat.le_trans s_rr hb.size
        have rq := rq.below hb s_rq
        have s_rq := Nat.le_trans s_rq hb.size
        have H := H.trans (hb.mono H.size)
        clear hb
        go_wp2_with fail
        refine (AV.out.2 _ _ _ _ ra s_ra).mono ?_
        rintro e w18 ⟨rfl, hb⟩
        have ra := ra.below hb s_ra
        have s_ra := Nat.le_trans s_ra hb.size
        have ri := ri.below' hb s_ri
        have s_ri := Nat.le_trans s_ri hb.size
        have rr := rr.below hb s_rr
        have s_rr := Nat.le_trans s_rr hb.size
        have rq := rq.below hb s_rq
        have s_rq := Nat.le_trans s_rq hb.size
        have H := H.trans (hb.mono H.size)
        clear hb
        go_wp2
        go_ret
        exact ⟨by first | rfl | (simp; done), H⟩
end Go.Proofs.YtkhmepbdjdodmaaDoor
