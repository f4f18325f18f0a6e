/-
  Draws of a tableau: l6Draw.
-/
import Derived.Test.YtajafmdeencohaaDrawTab0
namespace Go.Proofs.Ytajafmdeencohaa
open Go.RowKit
attribute [local go_sem ↓] Go.wp_at_zero Go.wp_at_succ

set_option maxHeartbeats 8000000 in
set_option maxRecDepth 20000 in
theorem l6Draw_any (W w : World) (g : Nat) (hd : Dr W g w) : Calls Try.prog 85 #[.pointer (some ⟨g, 0, none⟩)] w (OwnsDrawnT W g w) := by
  have hgl := hd.lt
  have hW : W.heap.size ≤ w.heap.size := hd.1.size
  have R2 : Bx (w.alloc (.cells #[.slice none 0 0, .slice none 0 0, .int .i64 0] 30)) w.heap.size [.slice none 0 0, .slice none 0 0, .int .i64 0] := Bx.new w _ _
  have HS : Stp W g w (w.alloc (.cells #[.slice none 0 0, .slice none 0 0, .int .i64 0] 30)) := (Stp.refl hd).alloc _
  clear hd
  go_enter Try.func85, Try.ntmps85
  go_wp2_with fail
  refine (l5Draw_any W _ g HS.1).mono ?_
  rintro e w1 ⟨A0, B0, C0, m, n, ca, cb, cc, RA, RC, RV, BV, CV, h1, h2, h3, h4, rfl, F, h5, h6, h7, hs⟩
  have R2 := bx_off R2 hs.2 (fun e => by injection e with e; omega)
  have HS := HS.trans hs
  have hval := Pl.valid_drawn h2 h4 h5 h6 h7
  have rd := F.rds
  have CS := sStart_any A0 B0 C0 m ca m cb n cc RA (fun _ => n) RC RV BV CV _ w1 rd.1 rd.2.1 rd.2.2 (Nat.le_refl _) (by omega) (fun _ _ => by show n ≤ _; omega) (by omega) (by omega)
  unfold OwnsTab at CS
  rw [if_pos hval, if_pos hval] at CS
  have CSH := Lib.hid CS
  clear hs F h5 h6 h7 hval rd CS
  generalize Pl.startV n m RV BV = TV0 at CSH
  generalize Pl.startB n = TB0 at CSH
  go_wp2_with fail
  refine CSH.out.mono ?_
  rintro e w2 ⟨X0, c0, XA0, XC0, Y0, d0, hi0, rfl, T, hb⟩
  have hsz1 : w.heap.size + 1 ≤ w1.heap.size := R2.1
  have HS := HS.below hb
  have R2 := R2.below hb
  have T := T.low (lo' := w.heap.size + 1) hsz1
  have hsz2 := Nat.le_trans hsz1 hb.size
  have hle0 := T.le
  have B3 : Bx (w2.alloc (.cells #[.slice X0 m c0, .slice Y0 m d0, .int .i64 n] 30)) w2.heap.size [.slice X0 m c0, .slice Y0 m d0, .int .i64 n] := Bx.new w2 _ _
  have hoff : blk X0 ≠ some w2.heap.size ∧ blk Y0 ≠ some w2.heap.size ∧ ∀ i, i < m → blk (XA0 i) ≠ some w2.heap.size := ⟨(fun e => by have := T.rows.top _ e; omega), (fun e => by have := (T.top _ e).1; omega), (fun i hi e => by have := T.rows.rows.lt i hi _ e; omega)⟩
  have hb2 := (Below.refl w2.heap.size w2).alloc (Nat.le_refl _) (.cells #[.slice X0 m c0, .slice Y0 m d0, .int .i64 n] 30)
  have T := T.below hb2
  have R2 := R2.below hb2
  have HS := HS.below hb2
  clear hb hb2 CSH
  have TH := Lib.hid T
  have B3H := Lib.hid B3
  have R2H := Lib.hid R2
  have HSH := Lib.hid HS
  have HOFF := Lib.hid hoff
  clear T B3 R2 HS hoff
  go_wp2_with fail
  have T := TH.out
  have B3 := B3H.out
  have R2 := R2H.out
  have HS := HSH.out
  have hoff := HOFF.out
  clear TH B3H R2H HSH HOFF
  obtain ⟨g3, eg3⟩ : ∃ g3, g3 = w2.heap.size := ⟨_, rfl⟩
  rw [← eg3] at B3 hoff hsz2 ⊢
  clear eg3
  refine (l1Below_any W _ g 3 (by omega) (by omega) HS.1).mono ?_
  rintro e w3 ⟨nn, nn0, nn1, rfl, hs⟩
  have T := T.only (Only.of_grown (lo := g) (hi := g + 1) hs.2 (fun q hq => by injection hq with hq; omega)) (Or.inl (by omega))
  have B3 := bx_off B3 hs.2 (fun e => by injection e with e; omega)
  have R2 := bx_off R2 hs.2 (fun e => by injection e with e; omega)
  have HS := HS.trans hs
  clear hs
  obtain ⟨q, rfl⟩ : ∃ q : Nat, nn = (q : Int) := ⟨nn.toNat, by omega⟩
  have TH := Lib.hid T
  have B3H := Lib.hid B3
  have R2H := Lib.hid R2
  have HSH := Lib.hid HS
  have HOFF := Lib.hid hoff
  clear T B3 R2 HS hoff
  go_wp2
  go_loopw [5] (fun u wr => ∃ (j : Nat) (X : Option Addr) (c : Nat) (XA : Nat → Option Addr) (XC : Nat → Nat) (RV : Nat → Fr) (Y : Option Addr) (d : Nat) (BV : Nat → Int) (hi : Nat), j ≤ q ∧ u = .int .i64 j ∧ OwnTab wr (w.heap.size + 1) hi X m c XA (fun _ => n + m + 1) XC RV Y m d BV ∧ (blk X ≠ some g3 ∧ blk Y ≠ some g3 ∧ ∀ i, i < m → blk (XA i) ≠ some g3) ∧ Bx wr g3 [.slice X m c, .slice Y m d, .int .i64 n] ∧ Bx wr w.heap.size [.slice none 0 0, .slice none 0 0, .int .i64 0] ∧ Stp W g w wr) (fun u _ => q - (intOf u).toNat)
  case atStart => exact ⟨0, _, _, _, _, _, _, _, _, _, Nat.zero_le _, rfl, TH.out, HOFF.out, B3H.out, R2H.out, HSH.out⟩
  case round =>
    obtain ⟨j, X, c, XA, XC, RV, Y, d, BV, hi, hj, rfl, T, hoff, B3, R2, HS⟩ := hrel
    obtain ⟨wo, rfl⟩ : ∃ wo : World, wo = wr := ⟨_, rfl⟩
    by_cases hlt : j < q
    · have hb := (Below.refl wo.heap.size wo).drew
      have T := T.below hb
      have B3 := B3.below hb
      have R2 := R2.below hb
      have HS := HS.below hb
      clear hb
      have wr1 : IntKind.i64.wrap ((n : Int) + 1) = (n : Int) + 1 := IntWalk.i64_in _ (by omega)
      clear hoff
      go_upto_region 6 with fail
      refine wp_region_noPanic ?_
      refine regionM (S := (fun w' => w'.cell? ⟨g3, 0, none⟩ = some (.slice X m c) ∧ w'.cell? ⟨g3, 1, none⟩ = some (.slice Y m d) ∧ w'.cell? ⟨g3, 2, none⟩ = some (.int .i64 n))) 15 (by kernel_rfl) ?_ (fun hHeld => ?_)
      · exact ⟨B3.2.1 0 _ rfl, B3.2.1 1 _ rfl, B3.2.1 2 _ rfl⟩
      refine takeM 0 (v := ?v7001) rfl rfl (by kernel_rfl) (by rfl) (by kernel_rfl) (by kernel_rfl) (by kernel_rfl) (by kernel_rfl) (fun _ _ _ h => h) (by rfl) ?hy7001 (by assumption) ?r7001
      case hy7001 => (intro w hSw; (try dsimp only at hSw); first | (go_simp; done) | (go_simp; with_reducible rfl))
      simp only [Act.put, List.setIfInBounds_toArray, List.set_cons_zero, List.set_cons_succ]
      refine takeM 1 (v := ?v7002) rfl rfl (by kernel_rfl) (by rfl) (by kernel_rfl) (by kernel_rfl) (by kernel_rfl) (by kernel_rfl) (fun _ _ _ h => h) (by rfl) ?hy7002 (by assumption) ?r7002
      case hy7002 => (intro w hSw; (try dsimp only at hSw); first | (go_simp; done) | (go_simp; with_reducible rfl))
      simp only [Act.put, List.setIfInBounds_toArray, List.set_cons_zero, List.set_cons_succ]
      refine takeM 2 (v := ?v7003) rfl rfl (by kernel_rfl) (by rfl) (by kernel_rfl) (by kernel_rfl) (by kernel_rfl) (by kernel_rfl) (fun _ _ _ h => h) (by rfl) ?hy7003 (by assumption) ?r7003
      case hy7003 => (intro w hSw; (try dsimp only at hSw); first | (go_simp; done) | (go_simp; with_reducible rfl))
      simp only [Act.put, List.setIfInBounds_toArray, List.set_cons_zero, List.set_cons_succ]
      refine takeM 3 (v := ?v7004) rfl rfl (by kernel_rfl) (by rfl) (by kernel_rfl) (by kernel_rfl) (by kernel_rfl) (by kernel_rfl) (fun _ _ _ h => h) (by rfl) ?hy7004 (by assumption) ?r7004
      case hy7004 => (intro w hSw; (try dsimp only at hSw); first | (go_simp; done) | (go_simp; with_reducible rfl))
      simp only [Act.put, List.setIfInBounds_toArray, List.set_cons_zero, List.set_cons_succ]
      refine takeM 4 (v := ?v7005) rfl rfl (by kernel_rfl) (by rfl) (by kernel_rfl) (by kernel_rfl) (by kernel_rfl) (by kernel_rfl) (fun _ _ _ h => h) (by rfl) ?hy7005 (by assumption) ?r7005
      case hy7005 => (intro w hSw; (try dsimp only at hSw); first | (go_simp; done) | (go_simp; with_reducible rfl))
      simp only [Act.put, List.setIfInBounds_toArray, List.set_cons_zero, List.set_cons_succ]
      refine takeM 6 (v := ?v7006) rfl rfl (by kernel_rfl) (by rfl) (by kernel_rfl) (by kernel_rfl) (by kernel_rfl) (by kernel_rfl) (fun _ _ _ h => h) (by rfl) ?hy7006 (by assumption) ?r7006
      case hy7006 => (intro w hSw; (try dsimp only at hSw); first | (go_simp; done) | (go_simp; with_reducible rfl))
      simp only [Act.put, List.setIfInBounds_toArray, List.set_cons_zero, List.set_cons_succ]
      refine takeM 7 (v := ?v7007) rfl rfl (by kernel_rfl) (by rfl) (by kernel_rfl) (by kernel_rfl) (by kernel_rfl) (by kernel_rfl) (fun _ _ _ h => h) (by rfl) ?hy7007 (by assumption) ?r7007
      case hy7007 => (intro w hSw; (try dsimp only at hSw); first | (go_simp; done) | (go_simp; with_reducible rfl))
      simp only [Act.put, List.setIfInBounds_toArray, List.set_cons_zero, List.set_cons_succ]
      refine takeM 8 (v := ?v7008) rfl rfl (by kernel_rfl) (by rfl) (by kernel_rfl) (by kernel_rfl) (by kernel_rfl) (by kernel_rfl) (fun _ _ _ h => h) (by rfl) ?hy7008 (by assumption) ?r7008
      case hy7008 => (intro w hSw; (try dsimp only at hSw); first | (go_simp; done) | (go_simp; with_reducible rfl))
      simp only [Act.put, List.setIfInBounds_toArray, List.set_cons_zero, List.set_cons_succ]
      refine takeM 9 (v := ?v7009) rfl rfl (by kernel_rfl) (by rfl) (by kernel_rfl) (by kernel_rfl) (by kernel_rfl) (by kernel_rfl) (fun _ _ _ h => h) (by rfl) ?hy7009 (by assumption) ?r7009
      case hy7009 => (intro w hSw; (try dsimp only at hSw); first | (go_simp; done) | (go_simp; with_reducible rfl))
      simp only [Act.put, List.setIfInBounds_toArray, List.set_cons_zero, List.set_cons_succ]
      try simp only [wr1]
      refine nextM 5 (by kernel_rfl) rfl (by rfl) (fun K hK => ?_)
      go_simp
      go_at_call 86; refine (l1Below_any W _ g m (by omega) (by omega) HS.1).mono ?_; rintro e wA ⟨r, r0, r1, rfl, hs⟩; have T := T.only (Only.of_grown (lo := g) (hi := g + 1) hs.2 (fun q hq => by injection hq with hq; omega)) (Or.inl (by omega)); have B3 := bx_off B3 hs.2 (fun e => by injection e with e; omega); have R2 := bx_off R2 hs.2 (fun e => by injection e with e; omega); have HS := HS.trans hs; clear hs
      go_wp2_with fail
      refine hK.out _ _ ?_ (fun hHeld => ?_)
      · exact ⟨B3.2.1 0 _ rfl, B3.2.1 1 _ rfl, B3.2.1 2 _ rfl⟩
      clear hK K
      refine nextM 10 (by kernel_rfl) rfl (by rfl) (fun K hK => ?_)
      go_simp
      go_at_call 86; refine (l1Below_any W _ g ((n : Int) + 1) (by omega) (by omega) HS.1).mono ?_; rintro e wB ⟨k, k0, k1, rfl, hs⟩; have T := T.only (Only.of_grown (lo := g) (hi := g + 1) hs.2 (fun q hq => by injection hq with hq; omega)) (Or.inl (by omega)); have B3 := bx_off B3 hs.2 (fun e => by injection e with e; omega); have R2 := bx_off R2 hs.2 (fun e => by injection e with e; omega); have HS := HS.trans hs; clear hs
      go_wp2_with fail
      refine hK.out _ _ ?_ (fun hHeld => ?_)
      · exact ⟨B3.2.1 0 _ rfl, B3.2.1 1 _ rfl, B3.2.1 2 _ rfl⟩
      clear hK K
      refine nextM 11 (by kernel_rfl) rfl (by rfl) (fun K hK => ?_)
      go_simp
      go_at_call 34; refine (sPivot_any X Y m c m d n XA (fun _ => n + m + 1) XC RV BV r k _ _ T.rows_at T.basis_at (Nat.le_refl _) (by omega) (fun _ _ => by show n + m + 1 ≤ _; omega) (by omega) (own_none T.basis) (fun j hj => own_none (T.rows.rows.own j hj))).mono ?_; rintro e wP ⟨X2, c2, XA2, XC2, Y2, d2, h2, rfl, T2, hb⟩; have hlo2 := HS.2.size; have hg3c := B3.1; have T := T.below hb; have B3 := B3.below hb; have R2 := R2.below hb; have HS := HS.below hb; clear hb; have hoff2 : blk X2 ≠ some g3 ∧ blk Y2 ≠ some g3 ∧ ∀ i, i < m → blk (XA2 i) ≠ some g3 := ⟨(fun e => by have := (T2.rows.outer.lt g3 (by rw [ownBlock_blk]; exact e)).1; omega), (fun e => by have := (T2.basis.lt g3 (by rw [ownBlock_blk]; exact e)).1; omega), (fun i hi e => by have := ((T2.rows.rows.own i hi).lt g3 (by rw [ownBlock_blk]; exact e)).1; omega)⟩; have T := T2.low (lo' := w.heap.size + 1) (by omega); clear T2
      go_wp2_with fail
      refine hK.out _ _ ?_ (fun hHeld => ?_)
      · exact ⟨B3.2.1 0 _ rfl, B3.2.1 1 _ rfl, B3.2.1 2 _ rfl⟩
      clear hK K
      refine takeM 12 (v := ?v7010) rfl rfl (by kernel_rfl) (by rfl) (by kernel_rfl) (by kernel_rfl) (by kernel_rfl) (by kernel_rfl) (fun _ _ _ h => h) (by rfl) ?hy7010 (by assumption) ?r7010
      case hy7010 => (intro w hSw; (try dsimp only at hSw); first | (go_simp; done) | (go_simp; with_reducible rfl))
      simp only [Act.put, List.setIfInBounds_toArray, List.set_cons_zero, List.set_cons_succ]
      refine takeM 13 (v := ?v7011) rfl rfl (by kernel_rfl) (by rfl) (by kernel_rfl) (by kernel_rfl) (by kernel_rfl) (by kernel_rfl) (fun _ _ _ h => h) (by rfl) ?hy7011 (by assumption) ?r7011
      case hy7011 => (intro w hSw; (try dsimp only at hSw); first | (go_simp; done) | (go_simp; with_reducible rfl))
      simp only [Act.put, List.setIfInBounds_toArray, List.set_cons_zero, List.set_cons_succ]
      have y0 := B3.2.1 0 _ rfl
      have y1 := B3.2.1 1 _ rfl
      have y2 := B3.2.1 2 _ rfl
      have yf := B3.2.2
      have yz := B3.1
      refine twoM 14 (by kernel_rfl) rfl rfl (by rfl) (by rfl) (by kernel_rfl) (fun K hK => ?_) (fun K hK => ?_)
      · go_simp
        refine hK.out _ _ ?_ (fun hHeld => ?_)
        · exact ⟨B3.2.1 0 _ rfl, B3.2.1 1 _ rfl, B3.2.1 2 _ rfl⟩
        clear hK K
        refine nextM' 15 (by kernel_rfl) rfl (by rfl) (by kernel_rfl) (fun K hK => ?_)
        go_simp
        refine hK.out _ _ ?_
        clear hK K
        refine doneM (by kernel_rfl) ?_ _
        refine NoPanic.normal ?_
        have T := T.setOff (a := ⟨g3, 0, none⟩) hoff2.1 hoff2.2.1 hoff2.2.2 (.slice X2 m c2)
        have B3 := B3.set (k := 0) (by simp) (.slice X2 m c2)
        have R2 := R2.other (b := g3) (k := 0) (by omega) (.slice X2 m c2)
        have HS := Stp.low HS ((Below.refl w.heap.size _).setCell (p := ⟨g3, 0, none⟩) (by show w.heap.size ≤ g3; omega) (.slice X2 m c2)) (Nat.le_refl _) hW hgl
        have T := T.setOff (a := ⟨g3, 1, none⟩) hoff2.1 hoff2.2.1 hoff2.2.2 (.slice Y2 m d2)
        have B3 := B3.set (k := 1) (by simp) (.slice Y2 m d2)
        have R2 := R2.other (b := g3) (k := 1) (by omega) (.slice Y2 m d2)
        have HS := Stp.low HS ((Below.refl w.heap.size _).setCell (p := ⟨g3, 1, none⟩) (by show w.heap.size ≤ g3; omega) (.slice Y2 m d2)) (Nat.le_refl _) hW hgl
        have T := T.setOff (a := ⟨g3, 2, none⟩) hoff2.1 hoff2.2.1 hoff2.2.2 (.int .i64 n)
        have B3 := B3.set (k := 2) (by simp) (.int .i64 n)
        have R2 := R2.other (b := g3) (k := 2) (by omega) (.int .i64 n)
        have HS := Stp.low HS ((Below.refl w.heap.size _).setCell (p := ⟨g3, 2, none⟩) (by show w.heap.size ≤ g3; omega) (.int .i64 n)) (Nat.le_refl _) hW hgl
        have TH := Lib.hid T
        have B3H := Lib.hid B3
        have R2H := Lib.hid R2
        have HSH := Lib.hid HS
        have HOFF := Lib.hid hoff2
        clear T B3 R2 HS hoff2 y0 y1 y2 yf yz
        go_wp2
        go_roundw
        case rel => exact ⟨j + 1, _, _, _, _, _, _, _, _, _, by omega, by go_num, TH.out, HOFF.out, B3H.out, R2H.out, HSH.out⟩
        case measure => simp [intOf]; omega
      · go_simp
        refine hK.out _ _ ?_
        clear hK K
        refine nextM' 14 (by kernel_rfl) rfl (by rfl) (by kernel_rfl) (fun K hK => ?_)
        go_simp
        refine hK.out _ _ ?_
        clear hK K
        refine doneM (by kernel_rfl) ?_ _
        refine NoPanic.normal ?_
        have T := T.setOff (a := ⟨g3, 0, none⟩) hoff2.1 hoff2.2.1 hoff2.2.2 (.slice X2 m c2)
        have B3 := B3.set (k := 0) (by simp) (.slice X2 m c2)
        have R2 := R2.other (b := g3) (k := 0) (by omega) (.slice X2 m c2)
        have HS := Stp.low HS ((Below.refl w.heap.size _).setCell (p := ⟨g3, 0, none⟩) (by show w.heap.size ≤ g3; omega) (.slice X2 m c2)) (Nat.le_refl _) hW hgl
        have T := T.setOff (a := ⟨g3, 1, none⟩) hoff2.1 hoff2.2.1 hoff2.2.2 (.slice Y2 m d2)
        have B3 := B3.set (k := 1) (by simp) (.slice Y2 m d2)
        have R2 := R2.other (b := g3) (k := 1) (by omega) (.slice Y2 m d2)
        have HS := Stp.low HS ((Below.refl w.heap.size _).setCell (p := ⟨g3, 1, none⟩) (by show w.heap.size ≤ g3; omega) (.slice Y2 m d2)) (Nat.le_refl _) hW hgl
        have T := T.setOff (a := ⟨g3, 2, none⟩) hoff2.1 hoff2.2.1 hoff2.2.2 (.int .i64 n)
        have B3 := B3.set (k := 2) (by simp) (.int .i64 n)
        have R2 := R2.other (b := g3) (k := 2) (by omega) (.int .i64 n)
        have HS := Stp.low HS ((Below.refl w.heap.size _).setCell (p := ⟨g3, 2, none⟩) (by show w.heap.size ≤ g3; omega) (.int .i64 n)) (Nat.le_refl _) hW hgl
        have TH := Lib.hid T
        have B3H := Lib.hid B3
        have R2H := Lib.hid R2
        have HSH := Lib.hid HS
        have HOFF := Lib.hid hoff2
        clear T B3 R2 HS hoff2 y0 y1 y2 yf yz
        go_wp2
        go_roundw
        case rel => exact ⟨j + 1, _, _, _, _, _, _, _, _, _, by omega, by go_num, TH.out, HOFF.out, B3H.out, R2H.out, HSH.out⟩
        case measure => simp [intOf]; omega
    · obtain rfl : q = j := by omega
      go_wp2_with fail
      refine (l1Below_any W _ g 16 (by omega) (by omega) HS.1).mono ?_
      rintro e w4 ⟨x, x0, x1, rfl, hs⟩
      have T := T.only (Only.of_grown (lo := g) (hi := g + 1) hs.2 (fun q hq => by injection hq with hq; omega)) (Or.inl (by omega))
      have B3 := bx_off B3 hs.2 (fun e => by injection e with e; omega)
      have R2 := bx_off R2 hs.2 (fun e => by injection e with e; omega)
      have HS := HS.trans hs
      clear hs
      obtain ⟨bX, rfl⟩ := own_addr T.rows.outer (by omega)
      obtain ⟨bY, rfl⟩ := own_addr T.basis (by omega)
      by_cases hx0 : x = 0
      · have dx0 : (x == 0) = true := beq_iff_eq.2 hx0
        clear x0 x1
        subst hx0
        have c1 := B3.2.1 1 _ rfl
        go_wp2_with (at_builtin; refine wpList_rowpush _ rfl _ _ 23 rfl (w.heap.size + 1) 3 (.int .i64 0) 1 8 Try.underlying23 infoInt rfl (by decide) (.slice (some ⟨bY, 0, none⟩) m d) m _ rfl T.basis [.int .i64 0] rfl rfl (by simp [Value.oneCell']) (by decide) (by omega) R2.1 ?_)
        intro g5 cap5 w5 hown5 hg5 hat5 hlt5
        rw [cellsI_upd] at hown5
        rw [ownBlock_blk] at hg5 hat5
        have hbl := Below.of_grown (B := w.heap.size + 1) hg5 R2.1 (fun q hq => (T.basis.lt q (by rw [ownBlock_blk]; exact hq)).1)
        have hn5 : blk (some (⟨g5, 0, none⟩ : Addr)) ≠ some g3 := fun e => by
          have e : g5 = g3 := by simpa [blk] using e
          rcases hat5 with h | h
          · exact hoff.2.1 (by rw [h, e])
          · have := B3.1
            omega
        have T := T.pushBasis hg5 hown5 hat5 hlt5
        have B3 := bx_off B3 hg5 hoff.2.1
        have R2 := bx_lo R2 hbl (Nat.lt_succ_self _)
        have HS := Stp.low HS hbl (by omega) (by omega) (by omega)
        clear c1 hbl hown5 hg5 hat5
        have c0 := B3.2.1 1 _ rfl
        have cf := B3.2.2 1
        have cz := B3.1
        have T := T.setOff (a := ⟨g3, 1, none⟩) hoff.1 hn5 hoff.2.2 (.slice (some ⟨g5, 0, none⟩) (m + 1) cap5)
        have B3 := B3.set (k := 1) (by simp) (.slice (some ⟨g5, 0, none⟩) (m + 1) cap5)
        have R2 := R2.other (b := g3) (k := 1) (by omega) (.slice (some ⟨g5, 0, none⟩) (m + 1) cap5)
        have HS := Stp.low HS ((Below.refl w.heap.size _).setCell (p := ⟨g3, 1, none⟩) (by show w.heap.size ≤ g3; omega) (.slice (some ⟨g5, 0, none⟩) (m + 1) cap5)) (Nat.le_refl _) hW hgl
        have z0 := B3.2.1 0 _ rfl
        have z1 := B3.2.1 1 _ rfl
        have z2 := B3.2.1 2 _ rfl
        have r0 := R2.2.1 0 _ rfl
        have r1 := R2.2.1 1 _ rfl
        have r2 := R2.2.1 2 _ rfl
        have rz := R2.1
        have rf := R2.2.2
        have R2 := R2.set (k := 0) (by simp) (.slice (some ⟨bX, 0, none⟩) m c)
        have HS := Stp.low HS ((Below.refl w.heap.size _).setCell (p := ⟨w.heap.size, 0, none⟩) (Nat.le_refl _) (.slice (some ⟨bX, 0, none⟩) m c)) (Nat.le_refl _) hW hgl
        have T := T.set (a := ⟨w.heap.size, 0, none⟩) (Nat.lt_succ_self _) (.slice (some ⟨bX, 0, none⟩) m c)
        have R2 := R2.set (k := 1) (by simp) (.slice (some ⟨g5, 0, none⟩) (m + 1) cap5)
        have HS := Stp.low HS ((Below.refl w.heap.size _).setCell (p := ⟨w.heap.size, 1, none⟩) (Nat.le_refl _) (.slice (some ⟨g5, 0, none⟩) (m + 1) cap5)) (Nat.le_refl _) hW hgl
        have T := T.set (a := ⟨w.heap.size, 1, none⟩) (Nat.lt_succ_self _) (.slice (some ⟨g5, 0, none⟩) (m + 1) cap5)
        have R2 := R2.set (k := 2) (by simp) (.int .i64 n)
        have HS := Stp.low HS ((Below.refl w.heap.size _).setCell (p := ⟨w.heap.size, 2, none⟩) (Nat.le_refl _) (.int .i64 n)) (Nat.le_refl _) hW hgl
        have T := T.set (a := ⟨w.heap.size, 2, none⟩) (Nat.lt_succ_self _) (.int .i64 n)
        have f0 := R2.2.1 0 _ rfl
        have f1 := R2.2.1 1 _ rfl
        have f2 := R2.2.1 2 _ rfl
        have TH := Lib.hid T
        have HSH := Lib.hid HS
        clear T B3 R2 HS hoff
        go_wp2
        refine bodyPost_ret (v := .agg #[.slice (some ⟨bX, 0, none⟩) m c, .slice (some ⟨g5, 0, none⟩) (m + 1) cap5, .int .i64 n]) (by simp [results, Try.results85, go_sem, f0, f1, f2]) rfl (drawnT_mk TH.out h1 h2 (by omega) (by omega) (by omega) (by omega) (Nat.le_succ _) HSH.out)
      · have dx0 : (x == 0) = false := beq_eq_false_iff_ne.2 hx0
        by_cases hx1 : x = 1
        · have dx1 : (x == 1) = true := beq_iff_eq.2 hx1
          clear x0 x1 hx0
          subst hx1
          have HR0 := T.rows.rows.own 0 (by omega)
          have hcap : n + m + 1 ≤ XC 0 := by
            rcases HR0.2 with h | ⟨g', cap, cur, hv, _, _, hnc, _⟩
            · have := h.2
              omega
            · injection hv with _ _ h3
              omega
          obtain ⟨b0, eb0⟩ := own_addr HR0 (by omega)
          obtain ⟨b', eb', _, _, hcX⟩ := T.rows.cells (by omega)
          have eb' : bX = b' := by simpa using eb'
          subst eb'
          have xr := hcX 0 (by omega)
          rw [eb0] at xr
          have xr : w4.cell? ⟨bX, 0, none⟩ = some (.slice (some ⟨b0, 0, none⟩) (n + m + 1) (XC 0)) := xr
          have c0 := B3.2.1 0 _ rfl
          obtain ⟨⟨u0, y0⟩, fr0⟩ := own_cell (i := 0) T.rows.outer (by omega) (by omega)
          have l0 : (1 : Int) ≤ ((n + m + 1 : Nat) : Int) := by omega
          have l1 : ((n + m + 1 : Nat) : Int) ≤ (XC 0 : Int) := by omega
          have m0 : (0 : Int) < (m : Int) := by omega
          have hc1 : ¬ XC 0 = 1 := by omega
          have EB0 := Lib.hid eb0
          have TH := Lib.hid T
          have B3H := Lib.hid B3
          have R2H := Lib.hid R2
          have HSH := Lib.hid HS
          clear T B3 R2 HS HR0 hcX eb0
          go_upto_region 11 with fail
          go_region
          have T := TH.out
          have hoffr := hoff
          have OA := own_below (T.rows.outer.stored 0 (.slice (some ⟨b0, 2, none⟩) (n + m) (XC 0 - 1))).1 ((Below.refl _ _).drew)
          have hgX : w4.grownBy (w4.setCell ⟨bX, 0, none⟩ (.slice (some ⟨b0, 2, none⟩) (n + m) (XC 0 - 1))) (some bX) := only_setCell (p := ⟨bX, 0, none⟩) (World.grownBy.refl _ _) rfl _
          have OB := own_below (own_off T.basis hgX (fun q hq e => (T.top q (by rwa [ownBlock_blk] at hq)).2.1 e)) ((Below.refl _ _).drew)
          have OR := fun i (hi : i < m) => own_below (own_off (T.rows.rows.own i hi) hgX (fun q hq e => T.rows.rows.out i hi q (by rwa [ownBlock_blk] at hq) e)) ((Below.refl _ _).drew)
          have hbX := (T.rows.outer.lt bX rfl).1
          have hne3 : g3 ≠ bX := fun e => hoff.1 (by rw [e]; rfl)
          have B3 := (B3H.out.other (b := bX) (k := 0) hne3 (.slice (some ⟨b0, 2, none⟩) (n + m) (XC 0 - 1))).below ((Below.refl _ _).drew)
          have R2 := (R2H.out.other (b := bX) (k := 0) (by omega) (.slice (some ⟨b0, 2, none⟩) (n + m) (XC 0 - 1))).below ((Below.refl _ _).drew)
          have HS := (Stp.low HSH.out ((Below.refl w.heap.size _).setCell (p := ⟨bX, 0, none⟩) (by show w.heap.size ≤ bX; omega) (.slice (some ⟨b0, 2, none⟩) (n + m) (XC 0 - 1))) (Nat.le_refl _) hW hgl).drew
          clear T hgX TH B3H R2H HSH y0 fr0 xr c0 hoffr
          obtain ⟨w9, e9⟩ : ∃ w9, w9 = (w4.setCell ⟨bX, 0, none⟩ (.slice (some ⟨b0, 2, none⟩) (n + m) (XC 0 - 1))).drew := ⟨_, rfl⟩
          try simp only [if_neg hc1]
          rw [← e9] at OA OB OR B3 R2 HS ⊢
          clear e9
          have z0 := B3.2.1 0 _ rfl
          have z1 := B3.2.1 1 _ rfl
          have z2 := B3.2.1 2 _ rfl
          have r0 := R2.2.1 0 _ rfl
          have r1 := R2.2.1 1 _ rfl
          have r2 := R2.2.1 2 _ rfl
          have rz := R2.1
          have rf := R2.2.2
          have R2 := R2.set (k := 0) (by simp) (.slice (some ⟨bX, 0, none⟩) m c)
          have HS := Stp.low HS ((Below.refl w.heap.size _).setCell (p := ⟨w.heap.size, 0, none⟩) (Nat.le_refl _) (.slice (some ⟨bX, 0, none⟩) m c)) (Nat.le_refl _) hW hgl
          have OA := ownsRow_setCell_below OA (a := ⟨w.heap.size, 0, none⟩) (Nat.lt_succ_self _) (.slice (some ⟨bX, 0, none⟩) m c)
          have OB := ownsRow_setCell_below OB (a := ⟨w.heap.size, 0, none⟩) (Nat.lt_succ_self _) (.slice (some ⟨bX, 0, none⟩) m c)
          have OR := fun i hi => ownsRow_setCell_below (OR i hi) (a := ⟨w.heap.size, 0, none⟩) (Nat.lt_succ_self _) (.slice (some ⟨bX, 0, none⟩) m c)
          have R2 := R2.set (k := 1) (by simp) (.slice (some ⟨bY, 0, none⟩) m d)
          have HS := Stp.low HS ((Below.refl w.heap.size _).setCell (p := ⟨w.heap.size, 1, none⟩) (Nat.le_refl _) (.slice (some ⟨bY, 0, none⟩) m d)) (Nat.le_refl _) hW hgl
          have OA := ownsRow_setCell_below OA (a := ⟨w.heap.size, 1, none⟩) (Nat.lt_succ_self _) (.slice (some ⟨bY, 0, none⟩) m d)
          have OB := ownsRow_setCell_below OB (a := ⟨w.heap.size, 1, none⟩) (Nat.lt_succ_self _) (.slice (some ⟨bY, 0, none⟩) m d)
          have OR := fun i hi => ownsRow_setCell_below (OR i hi) (a := ⟨w.heap.size, 1, none⟩) (Nat.lt_succ_self _) (.slice (some ⟨bY, 0, none⟩) m d)
          have R2 := R2.set (k := 2) (by simp) (.int .i64 n)
          have HS := Stp.low HS ((Below.refl w.heap.size _).setCell (p := ⟨w.heap.size, 2, none⟩) (Nat.le_refl _) (.int .i64 n)) (Nat.le_refl _) hW hgl
          have OA := ownsRow_setCell_below OA (a := ⟨w.heap.size, 2, none⟩) (Nat.lt_succ_self _) (.int .i64 n)
          have OB := ownsRow_setCell_below OB (a := ⟨w.heap.size, 2, none⟩) (Nat.lt_succ_self _) (.int .i64 n)
          have OR := fun i hi => ownsRow_setCell_below (OR i hi) (a := ⟨w.heap.size, 2, none⟩) (Nat.lt_succ_self _) (.int .i64 n)
          have f0 := R2.2.1 0 _ rfl
          have f1 := R2.2.1 1 _ rfl
          have f2 := R2.2.1 2 _ rfl
          have OAH := Lib.hid OA
          have OBH := Lib.hid OB
          have ORH := Lib.hid OR
          have HSH := Lib.hid HS
          clear OA OB OR B3 R2 HS hoff
          go_wp2
          refine bodyPost_ret (v := .agg #[.slice (some ⟨bX, 0, none⟩) m c, .slice (some ⟨bY, 0, none⟩) m d, .int .i64 n]) (by simp [results, Try.results85, go_sem, f0, f1, f2]) rfl (drawnT_mk1 OAH.out ORH.out EB0.out OBH.out h1 h2 (by omega) (by omega) (by omega) (by omega) (by omega) (Nat.le_succ _) HSH.out)
        · have dx1 : (x == 1) = false := beq_eq_false_iff_ne.2 hx1
          by_cases hx2 : x = 2
          · have dx2 : (x == 2) = true := beq_iff_eq.2 hx2
            clear x0 x1 hx0 hx1
            subst hx2
            have c0 := B3.2.1 2 _ rfl
            have cf := B3.2.2 2
            have cz := B3.1
            have T := T.setOff (a := ⟨g3, 2, none⟩) hoff.1 hoff.2.1 hoff.2.2 (.int .i64 ((n : Int) + 1))
            have B3 := B3.set (k := 2) (by simp) (.int .i64 ((n : Int) + 1))
            have R2 := R2.other (b := g3) (k := 2) (by omega) (.int .i64 ((n : Int) + 1))
            have HS := Stp.low HS ((Below.refl w.heap.size _).setCell (p := ⟨g3, 2, none⟩) (by show w.heap.size ≤ g3; omega) (.int .i64 ((n : Int) + 1))) (Nat.le_refl _) hW hgl
            have z0 := B3.2.1 0 _ rfl
            have z1 := B3.2.1 1 _ rfl
            have z2 := B3.2.1 2 _ rfl
            have r0 := R2.2.1 0 _ rfl
            have r1 := R2.2.1 1 _ rfl
            have r2 := R2.2.1 2 _ rfl
            have rz := R2.1
            have rf := R2.2.2
            have R2 := R2.set (k := 0) (by simp) (.slice (some ⟨bX, 0, none⟩) m c)
            have HS := Stp.low HS ((Below.refl w.heap.size _).setCell (p := ⟨w.heap.size, 0, none⟩) (Nat.le_refl _) (.slice (some ⟨bX, 0, none⟩) m c)) (Nat.le_refl _) hW hgl
            have T := T.set (a := ⟨w.heap.size, 0, none⟩) (Nat.lt_succ_self _) (.slice (some ⟨bX, 0, none⟩) m c)
            have R2 := R2.set (k := 1) (by simp) (.slice (some ⟨bY, 0, none⟩) m d)
            have HS := Stp.low HS ((Below.refl w.heap.size _).setCell (p := ⟨w.heap.size, 1, none⟩) (Nat.le_refl _) (.slice (some ⟨bY, 0, none⟩) m d)) (Nat.le_refl _) hW hgl
            have T := T.set (a := ⟨w.heap.size, 1, none⟩) (Nat.lt_succ_self _) (.slice (some ⟨bY, 0, none⟩) m d)
            have R2 := R2.set (k := 2) (by simp) (.int .i64 ((n : Int) + 1))
            have HS := Stp.low HS ((Below.refl w.heap.size _).setCell (p := ⟨w.heap.size, 2, none⟩) (Nat.le_refl _) (.int .i64 ((n : Int) + 1))) (Nat.le_refl _) hW hgl
            have T := T.set (a := ⟨w.heap.size, 2, none⟩) (Nat.lt_succ_self _) (.int .i64 ((n : Int) + 1))
            have f0 := R2.2.1 0 _ rfl
            have f1 := R2.2.1 1 _ rfl
            have f2 := R2.2.1 2 _ rfl
            have TH := Lib.hid T
            have HSH := Lib.hid HS
            clear T B3 R2 HS hoff
            go_wp2
            refine bodyPost_ret (v := .agg #[.slice (some ⟨bX, 0, none⟩) m c, .slice (some ⟨bY, 0, none⟩) m d, .int .i64 ((n : Int) + 1)]) (by simp [results, Try.results85, go_sem, f0, f1, f2]) rfl (drawnT_mk TH.out h1 h2 (by omega) (by omega) (by omega) (by omega) (Nat.le_succ _) HSH.out)
          · have dx2 : (x == 2) = false := beq_eq_false_iff_ne.2 hx2
            clear x0 x1
            have z0 := B3.2.1 0 _ rfl
            have z1 := B3.2.1 1 _ rfl
            have z2 := B3.2.1 2 _ rfl
            have r0 := R2.2.1 0 _ rfl
            have r1 := R2.2.1 1 _ rfl
            have r2 := R2.2.1 2 _ rfl
            have rz := R2.1
            have rf := R2.2.2
            have R2 := R2.set (k := 0) (by simp) (.slice (some ⟨bX, 0, none⟩) m c)
            have HS := Stp.low HS ((Below.refl w.heap.size _).setCell (p := ⟨w.heap.size, 0, none⟩) (Nat.le_refl _) (.slice (some ⟨bX, 0, none⟩) m c)) (Nat.le_refl _) hW hgl
            have T := T.set (a := ⟨w.heap.size, 0, none⟩) (Nat.lt_succ_self _) (.slice (some ⟨bX, 0, none⟩) m c)
            have R2 := R2.set (k := 1) (by simp) (.slice (some ⟨bY, 0, none⟩) m d)
            have HS := Stp.low HS ((Below.refl w.heap.size _).setCell (p := ⟨w.heap.size, 1, none⟩) (Nat.le_refl _) (.slice (some ⟨bY, 0, none⟩) m d)) (Nat.le_refl _) hW hgl
            have T := T.set (a := ⟨w.heap.size, 1, none⟩) (Nat.lt_succ_self _) (.slice (some ⟨bY, 0, none⟩) m d)
            have R2 := R2.set (k := 2) (by simp) (.int .i64 n)
            have HS := Stp.low HS ((Below.refl w.heap.size _).setCell (p := ⟨w.heap.size, 2, none⟩) (Nat.le_refl _) (.int .i64 n)) (Nat.le_refl _) hW hgl
            have T := T.set (a := ⟨w.heap.size, 2, none⟩) (Nat.lt_succ_self _) (.int .i64 n)
            have f0 := R2.2.1 0 _ rfl
            have f1 := R2.2.1 1 _ rfl
            have f2 := R2.2.1 2 _ rfl
            have TH := Lib.hid T
            have HSH := Lib.hid HS
            clear T B3 R2 HS hoff
            go_wp2
            refine bodyPost_ret (v := .agg #[.slice (some ⟨bX, 0, none⟩) m c, .slice (some ⟨bY, 0, none⟩) m d, .int .i64 n]) (by simp [results, Try.results85, go_sem, f0, f1, f2]) rfl (drawnT_mk TH.out h1 h2 (by omega) (by omega) (by omega) (by omega) (Nat.le_succ _) HSH.out)

end Go.Proofs.Ytajafmdeencohaa
