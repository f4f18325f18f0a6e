/-
  Draws of an LP: l5Number, l5Draw.
-/
import Derived.Test.YtajafmdeencohaaDrawRat
import Derived.Test.YtajafmdeencohaaFam
import Derived.Test.YtajafmdeencohaaReg
import Derived.Test.YtajafmdeencohaaStart
namespace Go.Proofs.Ytajafmdeencohaa
open Go.RowKit
attribute [local go_sem ↓] Go.wp_at_zero Go.wp_at_succ

theorem Stp.low {W w0 w1 w' : World} {g B : Nat} (hs : Stp W g w0 w1) (hb : Below B w1 w') (h0 : w0.heap.size ≤ B) (hW : W.heap.size ≤ B) (hg : g < B) : Stp W g w0 w' :=
  ⟨⟨hs.1.1.trans (hb.mono hW), hs.1.2.keep' hb.size (fun i hi => hb.block i (by rcases hi with hi | hi <;> omega))⟩, hb.os.trans hs.2.os, hb.tape.trans hs.2.tape, hb.output.trans hs.2.output, Nat.le_trans hs.2.size hb.size,
   fun i hi hne => (hb.block i (Nat.lt_of_lt_of_le hi h0)).trans (hs.2.block i hi hne)⟩
namespace Pl
theorem rat_small {z d : Int} (h0 : -4 ≤ z) (h1 : z ≤ 5) (hd : d = 1 ∨ d = 2) : valid (rat z d).1 (rat z d).2.1 = true := by
  have h : z = -4 ∨ z = -3 ∨ z = -2 ∨ z = -1 ∨ z = 0 ∨ z = 1 ∨ z = 2 ∨ z = 3 ∨ z = 4 ∨ z = 5 := by omega
  rcases hd with rfl | rfl <;> rcases h with rfl | rfl | rfl | rfl | rfl | rfl | rfl | rfl | rfl | rfl <;> decide
theorem okTo_congr {V V' : Fr} {n : Nat} (h : ∀ i, i < n → V i = V' i) : okTo V n = okTo V' n := by
  induction n with
  | zero => rfl
  | succ n ih => rw [okTo, okTo, ih (fun i hi => h i (by omega)), h n (Nat.lt_succ_self _)]
theorem okTo_snoc {V : Fr} {n : Nat} {x y : Int} (h : okTo V n = true) (hv : valid x y = true) : okTo (upd V n (x, y)) (n + 1) = true := by
  refine okTo_yes ?_ (by simp only [upd, if_true]; exact hv)
  rw [okTo_congr (V' := V) (fun i hi => by simp only [upd]; rw [if_neg (by omega)])]
  exact h
end Pl
theorem l5Number_any (W w : World) (g : Nat) (hd : Dr W g w) :
    Calls Try.prog 88 #[.pointer (some ⟨g, 0, none⟩)] w fun e w' => ∃ z : Int, -4 ≤ z ∧ z ≤ 5 ∧ e = .returned (.int .i64 z) ∧ Stp W g w w' := by
  have hl := Lst.new (w := w) (t := 3) (P := fun v => ∃ z : Int, (-4 ≤ z ∧ z ≤ 5) ∧ v = .int .i64 z) #[.int .i64 0, .int .i64 0, .int .i64 1, .int .i64 1, .int .i64 2, .int .i64 (-1), .int .i64 (-2), .int .i64 3, .int .i64 5, .int .i64 (-4)] (by
    intro v hv
    simp only [List.mem_toArray, List.mem_cons, List.not_mem_nil, or_false] at hv
    rcases hv with rfl | rfl | rfl | rfl | rfl | rfl | rfl | rfl | rfl | rfl <;> exact ⟨_, by omega, rfl⟩)
  have hne : w.heap.size ≠ g := by have := hd.lt; omega
  have HD := Lib.hid hd
  have HL := Lib.hid hl
  clear hd hl
  go_enter Try.func88, Try.ntmps88
  go_wp2_with fail
  refine (l1PickInt_any W _ g w.heap.size 10 _ (HD.out.alloc _) (by omega) (by omega) hne HL.out).mono ?_
  rintro e w1 ⟨z, hz, rfl, hs⟩
  have HS := Lib.hid (((Stp.refl HD.out).alloc _).trans hs)
  clear hs
  go_wp2
  go_ret
  exact ⟨z, hz.1, hz.2, rfl, HS.out⟩

def OwnsDrawn (W : World) (g : Nat) (w : World) (e : Ending) (w' : World) : Prop :=
  ∃ (A0 B0 C0 : Option Addr) (m n ca cb cc : Nat) (RA : Nat → Option Addr) (RC : Nat → Nat) (RV : Nat → Nat → Int) (BV : Nat → Int) (CV : Fr), 1 ≤ m ∧ m ≤ 3 ∧ 1 ≤ n ∧ n ≤ 6 ∧
    e = .returned (.agg #[.slice A0 m ca, .slice B0 m cb, .slice C0 n cc]) ∧
    FamLP w' w.heap.size (.slice A0 m ca) (.slice B0 m cb) (.slice C0 n cc) m m m n (fun i => .slice (RA i) n (RC i)) (fun _ => n) RV BV CV ∧ (∀ i, i < m → ∀ j, j < n → -5000 ≤ RV i j ∧ RV i j ≤ 5000) ∧ (∀ i, i < m → -5000 ≤ BV i ∧ BV i ≤ 5000) ∧ Pl.okTo CV n = true ∧ Stp W g w w'
theorem drawn_mk {W w w' : World} {g m n ca cb cc : Nat} {A0 B0 C0 : Option Addr} {RA : Nat → Option Addr} {RC : Nat → Nat} {RV : Nat → Nat → Int} {BV : Nat → Int} {CV : Fr} (h1 : 1 ≤ m) (h2 : m ≤ 3) (h3 : 1 ≤ n) (h4 : n ≤ 6)
    (hF : FamLP w' w.heap.size (.slice A0 m ca) (.slice B0 m cb) (.slice C0 n cc) m m m n (fun i => .slice (RA i) n (RC i)) (fun _ => n) RV BV CV) (h5 : ∀ i, i < m → ∀ j, j < n → -5000 ≤ RV i j ∧ RV i j ≤ 5000) (h6 : ∀ i, i < m → -5000 ≤ BV i ∧ BV i ≤ 5000) (h7 : Pl.okTo CV n = true) (h8 : Stp W g w w') :
    OwnsDrawn W g w (.returned (.agg #[.slice A0 m ca, .slice B0 m cb, .slice C0 n cc])) w' := ⟨_, _, _, m, n, _, _, _, RA, RC, RV, BV, CV, h1, h2, h3, h4, rfl, hF, h5, h6, h7, h8⟩
set_option maxHeartbeats 8000000 in
set_option maxRecDepth 20000 in
theorem l5Draw_any (W w : World) (g : Nat) (hd : Dr W g w) : Calls Try.prog 108 #[.pointer (some ⟨g, 0, none⟩)] w (OwnsDrawn W g w) := by
  have hgl := hd.lt
  have hW : W.heap.size ≤ w.heap.size := hd.1.size
  have R2 : Bx (w.alloc (.cells #[.slice none 0 0, .slice none 0 0, .slice none 0 0] 53)) w.heap.size [.slice none 0 0, .slice none 0 0, .slice none 0 0] := Bx.new w _ _
  have HS : Stp W g w (w.alloc (.cells #[.slice none 0 0, .slice none 0 0, .slice none 0 0] 53)) := (Stp.refl hd).alloc _
  have HD := Lib.hid hd
  clear hd
  go_enter Try.func108, Try.ntmps108
  go_wp2_with fail
  refine (l1Below_any W _ g 3 (by omega) (by omega) HS.1).mono ?_
  rintro e w1 ⟨n1, n10, n11, rfl, hs⟩
  have R2 := bx_off R2 hs.2 (fun e => by injection e with e; omega)
  have HS := HS.trans hs
  clear hs
  go_wp2_with fail
  refine (l1Below_any W _ g 3 (by omega) (by omega) HS.1).mono ?_
  rintro e w2 ⟨m1, m10, m11, rfl, hs⟩
  have R2 := bx_off R2 hs.2 (fun e => by injection e with e; omega)
  have HS := HS.trans hs
  clear hs
  obtain ⟨n, hn⟩ : ∃ n : Nat, 1 + n1 = (n : Int) := ⟨(1 + n1).toNat, by omega⟩
  obtain ⟨m, hm⟩ : ∃ m : Nat, 1 + m1 = (m : Int) := ⟨(1 + m1).toNat, by omega⟩
  have hn1 : 1 ≤ n := by omega
  have hn3 : n ≤ 3 := by omega
  have hm1 : 1 ≤ m := by omega
  have hm3 : m ≤ 3 := by omega
  go_wp2_with fail
  clear hn hm n10 n11 m10 m11
  refine (l1Once_any W _ g 2 (by omega) (by omega) HS.1).mono ?_
  rintro e w3 ⟨slack, rfl, hs⟩
  have R2 := bx_off R2 hs.2 (fun e => by injection e with e; omega)
  have HS := HS.trans hs
  clear hs
  have hg26 : w.heap.size < w3.heap.size := R2.1
  have B6 : Bx (w3.alloc (.cells #[.slice none 0 0, .slice none 0 0, .slice none 0 0] 53)) w3.heap.size [.slice none 0 0, .slice none 0 0, .slice none 0 0] := Bx.new w3 _ _
  have R2 := R2.alloc (.cells #[.slice none 0 0, .slice none 0 0, .slice none 0 0] 53)
  have HS := HS.alloc (.cells #[.slice none 0 0, .slice none 0 0, .slice none 0 0] 53)
  obtain ⟨g6, e6⟩ : ∃ g6, g6 = w3.heap.size := ⟨_, rfl⟩
  have F := FamLP.nil (w3.alloc (.cells #[.slice none 0 0, .slice none 0 0, .slice none 0 0] 53)) (g6 + 1) (fun _ => .slice none n 0) (fun _ => n) (fun _ _ => 0) (fun _ => 0) (fun _ => (0, 1))
  rw [← e6] at B6 hg26
  have B6H := Lib.hid B6
  have R2H := Lib.hid R2
  have FH := Lib.hid F
  have HSH := Lib.hid HS
  clear B6 R2 F HS
  go_wp2
  rw [← e6]
  clear e6
  go_loopw [7] (fun u wr => ∃ (j : Nat) (C : Value) (V : Fr), j ≤ n ∧ u = .int .i64 j ∧ Hid (Pl.okTo V j = true) ∧ FamLP wr (g6 + 1) (.slice none 0 0) (.slice none 0 0) C 0 0 0 j (fun _ => .slice none n 0) (fun _ => n) (fun _ _ => 0) (fun _ => 0) V ∧ Bx wr g6 [.slice none 0 0, .slice none 0 0, C] ∧ Bx wr w.heap.size [.slice none 0 0, .slice none 0 0, .slice none 0 0] ∧ Stp W g w wr) (fun u _ => n - (intOf u).toNat)
  case atStart => exact ⟨0, _, _, Nat.zero_le _, rfl, Lib.hid rfl, FH.out, B6H.out, R2H.out, HSH.out⟩
  case round =>
    obtain ⟨j, C, V, hj, rfl, hok, F, B6, R2, HS⟩ := hrel
    by_cases hlt : j < n
    · go_wp2_with fail
      refine (l5Number_any W _ g HS.1).mono ?_
      rintro e w4 ⟨z, z0, z1, rfl, hs⟩
      have F := F.off hs.2 (fun q hq => by injection hq with hq; omega)
      have B6 := bx_off B6 hs.2 (fun e => by injection e with e; omega)
      have R2 := bx_off R2 hs.2 (fun e => by injection e with e; omega)
      have HS := HS.trans hs
      clear hs
      have hl := Lst.new (w := w4) (t := 3) (P := fun v => ∃ z : Int, (z = 1 ∨ z = 2) ∧ v = .int .i64 z) #[.int .i64 1, .int .i64 1, .int .i64 1, .int .i64 2] (by
        intro v hv
        simp only [List.mem_toArray, List.mem_cons, List.not_mem_nil, or_false] at hv
        rcases hv with rfl | rfl | rfl | rfl <;> exact ⟨_, by omega, rfl⟩)
      have hne : w4.heap.size ≠ g := by have := HS.1.lt; omega
      have hb := (Below.refl w4.heap.size w4).alloc (Nat.le_refl _) (.cells #[.int .i64 1, .int .i64 1, .int .i64 1, .int .i64 2] 3)
      have F := F.below hb
      have B6 := B6.below hb
      have R2 := R2.below hb
      have HS := HS.below hb
      clear hb
      go_wp2_with fail
      refine (l1PickInt_any W _ g w4.heap.size 4 _ HS.1 (by omega) (by omega) hne hl).mono ?_
      rintro e w5 ⟨dd, hdd, rfl, hs⟩
      have F := F.off hs.2 (fun q hq => by injection hq with hq; omega)
      have B6 := bx_off B6 hs.2 (fun e => by injection e with e; omega)
      have R2 := bx_off R2 hs.2 (fun e => by injection e with e; omega)
      have HS := HS.trans hs
      clear hs
      have hv := Pl.rat_small z0 z1 hdd
      clear hl hne
      go_wp2_with fail
      refine (sratOf_any z dd _).mono ?_
      rintro e w6 ⟨rfl, hb⟩
      have F := F.below hb
      have B6 := B6.below hb
      have R2 := R2.below hb
      have HS := HS.below hb
      clear hb
      obtain ⟨px, epx⟩ : ∃ x, x = (Pl.rat z dd).1 := ⟨_, rfl⟩
      obtain ⟨py, epy⟩ : ∃ x, x = (Pl.rat z dd).2.1 := ⟨_, rfl⟩
      rw [← epx, ← epy] at hv ⊢
      clear epx epy
      generalize (Pl.rat z dd).2.2 = pk
      have hok2 := Lib.hid (Pl.okTo_snoc hok.out hv)
      have BP := Bx.new w6 #[.int .i64 px, .int .i64 py] 66
      have hb := (Below.refl w6.heap.size w6).alloc (Nat.le_refl _) (.cells #[.int .i64 px, .int .i64 py] 66)
      have F := F.below hb
      have B6 := B6.below hb
      have R2 := R2.below hb
      have HS := HS.below hb
      clear hb
      have c0 := B6.2.1 2 _ rfl
      have p0 := BP.2.1 0 _ rfl
      have p1 := BP.2.1 1 _ rfl
      clear z0 z1 hdd hv hok
      go_upto_region 9 with fail
      have hlz : w6.heap.size < (w6.alloc (.cells #[.int .i64 px, .int .i64 py] 66)).heap.size := BP.1
      clear BP
      generalize w6.alloc (.cells #[.int .i64 px, .int .i64 py] 66) = wz at F B6 R2 HS p0 p1 c0 hlz ⊢
      go_wp2_with (at_builtin; refine wpList_rowpush _ rfl _ _ 36 rfl (g6 + 1) 66 (.agg #[.int .i64 0, .int .i64 0]) 2 16 Try.underlying36 infoRat rfl (by decide) C j _ rfl F.ownC [.int .i64 px, .int .i64 py] rfl rfl (by simp [Value.oneCell']) (by decide) (by omega) B6.1 ?_)
      intro g5 cap5 w7 hown5 hg5 hat5 hlt5
      rw [cellsV_snoc] at hown5
      clear p0 p1 c0
      have hbl := Below.of_grown (B := g6 + 1) hg5 B6.1 (fun q hq => (F.ownC.lt q hq).1)
      have hap : ∀ q, (Value.slice (some (⟨g5, 0, none⟩ : Addr)) (j + 1) cap5).ownBlock = some q → C.ownBlock = some q ∨ _ ≤ q := fun q hq => by
        have e : some g5 = some q := hq
        injection e with e
        subst e
        exact hat5
      have F := F.setC hg5 hown5 hap
      have B6 := bx_lo B6 hbl (Nat.lt_succ_self _)
      have R2 := bx_lo R2 hbl (by omega)
      have HS := Stp.low HS hbl (by omega) (by omega) (by omega)
      clear hbl hap hown5 hg5 hat5
      have c0 := B6.2.1 2 _ rfl
      have cf := B6.2.2 2
      have cz := B6.1
      have F := F.off (only_setCell (p := ⟨g6, 2, none⟩) (World.grownBy.refl _ (some g6)) rfl (.slice (some ⟨g5, 0, none⟩) (j + 1) cap5)) (fun q hq => by injection hq with hq; omega)
      have B6 := B6.set (k := 2) (by simp) (.slice (some ⟨g5, 0, none⟩) (j + 1) cap5)
      have R2 := R2.other (b := g6) (k := 2) (by omega) (.slice (some ⟨g5, 0, none⟩) (j + 1) cap5)
      have HS := Stp.low HS ((Below.refl w.heap.size _).setCell (p := ⟨g6, 2, none⟩) (by show w.heap.size ≤ g6; omega) (.slice (some ⟨g5, 0, none⟩) (j + 1) cap5)) (Nat.le_refl _) hW hgl
      have FH := Lib.hid F
      have B6H := Lib.hid B6
      have R2H := Lib.hid R2
      have HSH := Lib.hid HS
      clear F B6 R2 HS
      go_wp2
      go_roundw
      case rel => exact ⟨j + 1, _, _, by omega, by go_num, hok2, FH.out, B6H.out, R2H.out, HSH.out⟩
      case measure => simp [intOf]; omega
    · obtain rfl : n = j := by omega
      have FH := Lib.hid F
      have B6H := Lib.hid B6
      have R2H := Lib.hid R2
      have HSH := Lib.hid HS
      have hg6 := B6.1
      clear F B6 R2 HS
      go_wp2
      go_loopw [10] (fun u wr => ∃ (i : Nat) (A B : Value) (RA : Nat → Option Addr) (RC : Nat → Nat) (RV : Nat → Nat → Int) (BV : Nat → Int), i ≤ m ∧ u = .int .i64 i ∧ FamLP wr (g6 + 1) A B C i i i n (fun q => .slice (RA q) n (RC q)) (fun _ => n) RV BV V ∧ Hid (∀ q, q < i → ∀ j, j < n → -5000 ≤ RV q j ∧ RV q j ≤ 5000) ∧ Hid (∀ q, q < i → -5000 ≤ BV q ∧ BV q ≤ 5000) ∧ Bx wr g6 [A, B, C] ∧ Bx wr w.heap.size [.slice none 0 0, .slice none 0 0, .slice none 0 0] ∧ Stp W g w wr) (fun u _ => m - (intOf u).toNat)
      case atStart => exact ⟨0, _, _, _, _, _, _, Nat.zero_le _, rfl, FH.out, Lib.hid (fun q hq => absurd hq (Nat.not_lt_zero _)), Lib.hid (fun q hq => absurd hq (Nat.not_lt_zero _)), B6H.out, R2H.out, HSH.out⟩
      case round =>
        obtain ⟨i, A, B, RA, RC, RV, BV, hi, rfl, F, hRV, hBV, B6, R2, HS⟩ := hrel
        obtain ⟨wo, rfl⟩ : ∃ wo : World, wo = wr := ⟨_, rfl⟩
        by_cases hlt : i < m
        · have HO := Lib.hid (World.ownsRow_made wo #[] 0 (base := wo.heap.size) (Nat.le_refl _) (by decide) rfl (e := 3) (size := 1))
          have HST := Lib.hid ((Stp.refl HS.1).alloc (.cells #[] 3))
          have FH := Lib.hid F
          have B6H := Lib.hid B6
          have R2H := Lib.hid R2
          have HSH := Lib.hid HS
          have hgo : g < wo.heap.size := HS.1.lt
          have h6o := B6.1
          have hWo : W.heap.size ≤ wo.heap.size := HS.1.1.size
          clear F B6 R2 HS
          go_wp2
          go_loopw [11, 12] (fun o u wr => ∃ (k : Nat) (Z : Nat → Int), k ≤ n ∧ u = .int .i64 k ∧ wr.ownsRow wo.heap.size 3 1 o k (cellsI Z k) ∧ Hid (∀ j, j < k → -5000 ≤ Z j ∧ Z j ≤ 5000) ∧ Stp W g wo wr) (fun _ u _ => n - (intOf u).toNat)
          case atStart => exact ⟨0, fun _ => 0, Nat.zero_le _, rfl, by simpa [cellsI, listI] using HO.out, Lib.hid (fun q hq => absurd hq (Nat.not_lt_zero _)), HST.out⟩
          case round =>
            obtain ⟨k, Z, hk, rfl, hown, hZ, hsq⟩ := hrel
            obtain ⟨wq, rfl⟩ : ∃ wq : World, wq = wr := ⟨_, rfl⟩
            by_cases hk1 : k < n
            · go_wp2_with fail
              refine (l5Number_any W _ g hsq.1).mono ?_
              rintro e w4 ⟨z, z0, z1, rfl, hs⟩
              have hown := own_grown hown hs.2 (fun q hq => by injection hq with hq; omega)
              have HSQ := Lib.hid (hsq.trans hs)
              have hZ2 : Hid (∀ j, j < k + 1 → -5000 ≤ (if j = k then z else Z j) ∧ (if j = k then z else Z j) ≤ 5000) := Lib.hid (fun j hj => by
                by_cases e : j = k
                · rw [if_pos e]; omega
                · rw [if_neg e]; exact hZ.out j (by omega))
              have hsz := HSQ.out.2.size
              clear hs hsq z0 z1
              go_wp2_with (at_builtin; refine wpList_push _ rfl _ _ 23 rfl wo.heap.size 3 (.int .i64 0) 1 8 Try.underlying23 infoInt rfl (by decide) _ _ _ rfl hown [.int .i64 z] rfl rfl (by simp [Value.oneCell']) (by decide) (by omega) hsz ?_)
              intro v' w' hown' hk'
              have hb' := Lib.hid (Stp.low HSQ.out (hk' _ _ (Nat.le_refl _) (Below.refl _ _)) (Nat.le_refl _) hWo hgo)
              clear hk' HSQ
              rw [cellsI_upd] at hown'
              go_wp2
              go_roundw
              case rel => exact ⟨k + 1, _, by omega, by go_num, hown', hZ2, hb'.out⟩
              case measure => simp [intOf]; omega
            · obtain rfl : n = k := by omega
              obtain ⟨Aq, cq, rfl⟩ := own_form hown
              have F := FH.out.off hsq.2 (fun q hq => by injection hq with hq; omega)
              have B6 := bx_off B6H.out hsq.2 (fun e => by injection e with e; omega)
              have R2 := bx_off R2H.out hsq.2 (fun e => by injection e with e; omega)
              have HS := HSH.out.trans hsq
              have F := F.newR (Nat.le_refl _) FH.out.lt (by omega) hown
              have e1 : (fun q => if q = i then Value.slice Aq n cq else .slice (RA q) n (RC q)) = (fun q => .slice (if q = i then Aq else RA q) n (if q = i then cq else RC q)) := by
                funext q
                by_cases e : q = i
                · simp [e]
                · simp [e]
              have e2 : (fun q => if q = i then n else n) = (fun _ : Nat => n) := by
                funext q
                simp
              rw [e1, e2] at F
              have hRV2 : Hid (∀ q, q < i + 1 → ∀ j, j < n → -5000 ≤ (if q = i then Z else RV q) j ∧ (if q = i then Z else RV q) j ≤ 5000) := Lib.hid (fun q hq j hj => by
                by_cases e : q = i
                · rw [if_pos e]; exact hZ.out j hj
                · rw [if_neg e]; exact hRV.out q (by omega) j hj)
              have c0 := B6.2.1 0 _ rfl
              clear e1 e2 hown hsq FH B6H R2H HSH
              go_wp2_with (at_builtin; refine wpList_rowpush _ rfl _ _ 47 rfl (g6 + 1) 23 (.slice none 0 0) 1 24 Try.underlying47 infoRowsI rfl (by decide) A i _ rfl F.ownA [.slice Aq n cq] rfl rfl (by simp [Value.oneCell']) (by decide) (by omega) B6.1 ?_)
              intro g5 cap5 w7 hown5 hg5 hat5 hlt5
              have hown5 : w7.ownsRow (g6 + 1) 23 1 (.slice (some ⟨g5, 0, none⟩) (i + 1) cap5) (i + 1) ((List.range (i + 1)).map (fun q => .slice (if q = i then Aq else RA q) n (if q = i then cq else RC q))) := by
                rw [← range_next]
                simpa using hown5
              clear c0
              have hbl := Below.of_grown (B := g6 + 1) hg5 B6.1 (fun q hq => (F.ownA.lt q hq).1)
              have hap : ∀ q, (Value.slice (some (⟨g5, 0, none⟩ : Addr)) (i + 1) cap5).ownBlock = some q → A.ownBlock = some q ∨ _ ≤ q := fun q hq => by
                have e : some g5 = some q := hq
                injection e with e
                subst e
                exact hat5
              have F := F.setA hg5 hown5 hap
              have B6 := bx_lo B6 hbl (Nat.lt_succ_self _)
              have R2 := bx_lo R2 hbl (by omega)
              have HS := Stp.low HS hbl (by omega) (by omega) (by omega)
              clear hbl hap hown5 hg5 hat5
              have c0 := B6.2.1 0 _ rfl
              have cf := B6.2.2 0
              have cz := B6.1
              have F := F.off (only_setCell (p := ⟨g6, 0, none⟩) (World.grownBy.refl _ (some g6)) rfl (.slice (some ⟨g5, 0, none⟩) (i + 1) cap5)) (fun q hq => by injection hq with hq; omega)
              have B6 := B6.set (k := 0) (by simp) (.slice (some ⟨g5, 0, none⟩) (i + 1) cap5)
              have R2 := R2.other (b := g6) (k := 0) (by omega) (.slice (some ⟨g5, 0, none⟩) (i + 1) cap5)
              have HS := Stp.low HS ((Below.refl w.heap.size _).setCell (p := ⟨g6, 0, none⟩) (by show w.heap.size ≤ g6; omega) (.slice (some ⟨g5, 0, none⟩) (i + 1) cap5)) (Nat.le_refl _) hW hgl
              have FH := Lib.hid F
              have B6H := Lib.hid B6
              have R2H := Lib.hid R2
              have HSH := Lib.hid HS
              clear F B6 R2 HS
              go_upto_region 19 with fail
              clear c0 cf cz
              have F := FH.out
              have B6 := B6H.out
              have R2 := R2H.out
              have HS := HSH.out
              generalize (w7.setCell ⟨g6, 0, none⟩ (.slice (some ⟨g5, 0, none⟩) (i + 1) cap5)) = wz at F B6 R2 HS ⊢
              have hb := (Below.refl wz.heap.size wz).drew
              have F := F.below hb
              have B6 := B6.below hb
              have R2 := R2.below hb
              have HS := HS.below hb
              clear hb
              refine wp_region_noPanic ?_
              refine regionG (S := (fun w' => w'.cell? ⟨g6, 1, none⟩ = some B)) 8 (by kernel_rfl) ?_ (fun hHeld => ?_)
              · exact B6.2.1 1 _ rfl
              refine takeG 0 (v := ?v1001_0) rfl rfl (by kernel_rfl) (by rfl) (by kernel_rfl) (by kernel_rfl) (by kernel_rfl) (fun _ _ _ h => h) (by rfl) ?hy1001_0 (by assumption) ?r1001_0
              case hy1001_0 => (intro w hSw; (try dsimp only at hSw); first | (go_simp; done) | (go_simp; with_reducible rfl))
              simp only [Act.put, List.setIfInBounds_toArray, List.set_cons_zero, List.set_cons_succ]
              refine takeG 1 (v := ?v1001_1) rfl rfl (by kernel_rfl) (by rfl) (by kernel_rfl) (by kernel_rfl) (by kernel_rfl) (fun _ _ _ h => h) (by rfl) ?hy1001_1 (by assumption) ?r1001_1
              case hy1001_1 => (intro w hSw; (try dsimp only at hSw); first | (go_simp; done) | (go_simp; with_reducible rfl))
              simp only [Act.put, List.setIfInBounds_toArray, List.set_cons_zero, List.set_cons_succ]
              refine takeG 2 (v := ?v1001_2) rfl rfl (by kernel_rfl) (by rfl) (by kernel_rfl) (by kernel_rfl) (by kernel_rfl) (fun _ _ _ h => h) (by rfl) ?hy1001_2 (by assumption) ?r1001_2
              case hy1001_2 => (intro w hSw; (try dsimp only at hSw); first | (go_simp; done) | (go_simp; with_reducible rfl))
              simp only [Act.put, List.setIfInBounds_toArray, List.set_cons_zero, List.set_cons_succ]
              refine nextG 3 (by kernel_rfl) rfl (by rfl) (fun K hK => ?_)
              go_simp
              have hl := Lst.new (w := wz.drew) (t := 3) (P := fun v => ∃ z : Int, (-5000 ≤ z ∧ z ≤ 5000) ∧ v = .int .i64 z) #[.int .i64 0, .int .i64 1, .int .i64 4, .int .i64 6, .int .i64 7, .int .i64 (-2), .int .i64 10] (by intro v hv; simp only [List.mem_toArray, List.mem_cons, List.not_mem_nil, or_false] at hv; rcases hv with rfl | rfl | rfl | rfl | rfl | rfl | rfl <;> exact ⟨_, by omega, rfl⟩); have hne : wz.drew.heap.size ≠ g := Nat.ne_of_gt HS.1.lt; have hb := (Below.refl wz.drew.heap.size wz.drew).alloc (Nat.le_refl _) (.cells #[.int .i64 0, .int .i64 1, .int .i64 4, .int .i64 6, .int .i64 7, .int .i64 (-2), .int .i64 10] 3); have F := F.below hb; have B6 := B6.below hb; have R2 := R2.below hb; have HS := HS.below hb; clear hb
              refine hK.out _ _ ?_ (fun hHeld => ?_)
              · exact B6.2.1 1 _ rfl
              clear hK K
              try simp only [Act.put, List.setIfInBounds_toArray, List.set_cons_zero, List.set_cons_succ]
              refine nextG 4 (by kernel_rfl) rfl (by rfl) (fun K hK => ?_)
              go_simp
              go_at_call 110; refine (l1PickInt_any W _ g wz.drew.heap.size 7 _ HS.1 (by omega) (by omega) hne hl).mono ?_; rintro e w5 ⟨zb, hzb, rfl, hs⟩; have F := F.off hs.2 (fun q hq => by injection hq with hq; omega); have B6 := bx_off B6 hs.2 (fun e => by injection e with e; omega); have R2 := bx_off R2 hs.2 (fun e => by injection e with e; omega); have HS := HS.trans hs; clear hs
              go_wp2_with fail
              refine hK.out _ _ ?_ (fun hHeld => ?_)
              · exact B6.2.1 1 _ rfl
              clear hK K
              refine nextG 5 (by kernel_rfl) rfl (by rfl) (fun K hK => ?_)
              go_simp
              refine hK.out _ _ ?_ (fun hHeld => ?_)
              · exact (B6.alloc _).2.1 1 _ rfl
              clear hK K
              try simp only [Act.put, List.setIfInBounds_toArray, List.set_cons_zero, List.set_cons_succ]
              refine nextG 6 (by kernel_rfl) rfl (by rfl) (fun K hK => ?_)
              refine wp_rowpush _ _ _ 23 rfl (g6 + 1) 3 (.int .i64 0) 1 8 Try.underlying23 infoInt rfl (by decide) B i _ rfl F.ownB [.int .i64 zb] rfl rfl (by simp [Value.oneCell']) (by decide) (by omega) B6.1 ?_; intro g5b cap5b w8 hown5 hg5 hat5 hlt5; rw [cellsI_upd] at hown5; have hbl := Below.of_grown (B := g6 + 1) hg5 B6.1 (fun q hq => (F.ownB.lt q hq).1); have F := F.setB hg5 hown5 (fun q hq => by have e : some g5b = some q := hq; injection e with e; subst e; exact hat5); have B6 := bx_lo B6 hbl (Nat.lt_succ_self _); have R2 := bx_lo R2 hbl (by omega); have HS := Stp.low HS hbl (by omega) (by omega) (by omega); clear hbl hown5 hg5 hat5
              refine hK.out _ _ ?_ (fun hHeld => ?_)
              · exact B6.2.1 1 _ rfl
              clear hK K
              try simp only [Act.put, List.setIfInBounds_toArray, List.set_cons_zero, List.set_cons_succ]
              refine takeG 7 (v := ?v1001_7) rfl rfl (by kernel_rfl) (by rfl) (by kernel_rfl) (by kernel_rfl) (by kernel_rfl) (fun _ _ _ h => h) (by rfl) ?hy1001_7 (by assumption) ?r1001_7
              case hy1001_7 => (intro w hSw; (try dsimp only at hSw); first | (go_simp; done) | (go_simp; with_reducible rfl))
              simp only [Act.put, List.setIfInBounds_toArray, List.set_cons_zero, List.set_cons_succ]
              refine lastG (by kernel_rfl) (by kernel_rfl) rfl (by rfl) (fun K hK => ?_)
              have y0 := B6.2.1 1 _ rfl
              have yf := B6.2.2 1
              have yz := B6.1
              go_simp
              refine hK.out _ _ ?_
              clear hK K
              refine NoPanic.normal ?_
              clear y0 yf yz hHeld
              have F := F.off (only_setCell (p := ⟨g6, 1, none⟩) (World.grownBy.refl _ (some g6)) rfl (.slice (some ⟨g5b, 0, none⟩) (i + 1) cap5b)) (fun q hq => by injection hq with hq; omega)
              have B6 := B6.set (k := 1) (by simp) (.slice (some ⟨g5b, 0, none⟩) (i + 1) cap5b)
              have R2 := R2.other (b := g6) (k := 1) (by omega) (.slice (some ⟨g5b, 0, none⟩) (i + 1) cap5b)
              have HS := Stp.low HS ((Below.refl w.heap.size _).setCell (p := ⟨g6, 1, none⟩) (by show w.heap.size ≤ g6; omega) (.slice (some ⟨g5b, 0, none⟩) (i + 1) cap5b)) (Nat.le_refl _) hW hgl
              have hBV2 : Hid (∀ q, q < i + 1 → -5000 ≤ (if q = i then zb else BV q) ∧ (if q = i then zb else BV q) ≤ 5000) := Lib.hid (fun q hq => by
                by_cases e : q = i
                · rw [if_pos e]; exact hzb
                · rw [if_neg e]; exact hBV.out q (by omega))
              have FH := Lib.hid F
              have B6H := Lib.hid B6
              have R2H := Lib.hid R2
              have HSH := Lib.hid HS
              clear F B6 R2 HS hzb
              go_wp2
              go_roundw
              case rel => exact ⟨i + 1, _, _, _, _, _, _, by omega, by go_num, FH.out, hRV2, hBV2, B6H.out, R2H.out, HSH.out⟩
              case measure => simp [intOf]; omega
        · obtain rfl : m = i := by omega
          obtain ⟨A0, cA, rfl⟩ := own_form F.ownA
          obtain ⟨gA, rfl⟩ := own_addr F.ownA (by omega)
          obtain ⟨B0, cB, rfl⟩ := own_form F.ownB
          have hgA : g6 + 1 ≤ gA := (F.ownA.lt gA rfl).1
          have FH := Lib.hid F
          have B6H := Lib.hid B6
          have R2H := Lib.hid R2
          have HSH := Lib.hid HS
          clear F B6 R2 HS
          go_wp2
          go_loopw [13] (fun u wr => ∃ (i : Nat) (C : Value) (RA : Nat → Option Addr) (RC : Nat → Nat) (RV : Nat → Nat → Int) (V : Fr), i ≤ m ∧ u = .int .i64 i ∧ FamLP wr (g6 + 1) (.slice (some ⟨gA, 0, none⟩) m cA) (.slice B0 m cB) C m m m (n + i) (fun q => .slice (RA q) (n + i) (RC q)) (fun _ => n + i) RV BV V ∧ Hid (∀ q, q < m → ∀ j, j < n + i → -5000 ≤ RV q j ∧ RV q j ≤ 5000) ∧ Hid (Pl.okTo V (n + i) = true) ∧ Bx wr g6 [.slice (some ⟨gA, 0, none⟩) m cA, .slice B0 m cB, C] ∧ Bx wr w.heap.size [.slice none 0 0, .slice none 0 0, .slice none 0 0] ∧ Stp W g w wr ∧ (slack = false → i = 0)) (fun u _ => m - (intOf u).toNat)
          case atStart => exact ⟨0, _, _, _, _, _, Nat.zero_le _, rfl, FH.out, hRV, hok, B6H.out, R2H.out, HSH.out, fun _ => rfl⟩
          case round =>
            obtain ⟨i, C, RA, RC, RV, V, hi, rfl, F, hRV, hok, B6, R2, HS, hsl⟩ := hrel
            obtain ⟨wo, rfl⟩ : ∃ wo : World, wo = wr := ⟨_, rfl⟩
            by_cases hlt : i < m
            · have dl := decide_eq_true (show (i : Int) < (m : Int) by omega)
              cases slack
              · have hi0 := hsl rfl
                subst hi0
                obtain ⟨C0, cC, rfl⟩ := own_form F.ownC
                have z0 := B6.2.1 0 _ rfl
                have z1 := B6.2.1 1 _ rfl
                have z2 : wo.cell? ⟨g6, 2, none⟩ = some (.slice C0 n cC) := B6.2.1 2 _ rfl
                have r0 := R2.2.1 0 _ rfl
                have r1 := R2.2.1 1 _ rfl
                have r2 := R2.2.1 2 _ rfl
                have rz := R2.1
                have rf := R2.2.2
                have F := F.off (only_setCell (p := ⟨w.heap.size, 0, none⟩) (World.grownBy.refl _ (some w.heap.size)) rfl (.slice (some ⟨gA, 0, none⟩) m cA)) (fun q hq => by injection hq with hq; omega)
                have R2 := R2.set (k := 0) (by simp) (.slice (some ⟨gA, 0, none⟩) m cA)
                have HS := Stp.low HS ((Below.refl w.heap.size _).setCell (p := ⟨w.heap.size, 0, none⟩) (Nat.le_refl _) (.slice (some ⟨gA, 0, none⟩) m cA)) (Nat.le_refl _) hW hgl
                have F := F.off (only_setCell (p := ⟨w.heap.size, 1, none⟩) (World.grownBy.refl _ (some w.heap.size)) rfl (.slice B0 m cB)) (fun q hq => by injection hq with hq; omega)
                have R2 := R2.set (k := 1) (by simp) (.slice B0 m cB)
                have HS := Stp.low HS ((Below.refl w.heap.size _).setCell (p := ⟨w.heap.size, 1, none⟩) (Nat.le_refl _) (.slice B0 m cB)) (Nat.le_refl _) hW hgl
                have F := F.off (only_setCell (p := ⟨w.heap.size, 2, none⟩) (World.grownBy.refl _ (some w.heap.size)) rfl (.slice C0 n cC)) (fun q hq => by injection hq with hq; omega)
                have R2 := R2.set (k := 2) (by simp) (.slice C0 n cC)
                have HS := Stp.low HS ((Below.refl w.heap.size _).setCell (p := ⟨w.heap.size, 2, none⟩) (Nat.le_refl _) (.slice C0 n cC)) (Nat.le_refl _) hW hgl
                have f0 := R2.2.1 0 _ rfl
                have f1 := R2.2.1 1 _ rfl
                have f2 := R2.2.1 2 _ rfl
                have FH := Lib.hid (F.low (lo' := w.heap.size) (by omega))
                have HSH := Lib.hid HS
                clear F B6 R2 HS
                go_wp2
                refine bodyPost_ret (v := .agg #[.slice (some ⟨gA, 0, none⟩) m cA, .slice B0 m cB, .slice C0 n cC]) (by simp [results, Try.results108, go_sem, f0, f1, f2]) rfl (drawn_mk (n := n) hm1 hm3 (by omega) (by omega) FH.out hRV.out hBV.out hok.out HSH.out)
              · have FH := Lib.hid F
                have B6H := Lib.hid B6
                have R2H := Lib.hid R2
                have HSH := Lib.hid HS
                clear F B6 R2 HS
                go_wp2
                go_loopw [14] (fun u wr => ∃ (k : Nat) (RA : Nat → Option Addr) (RC : Nat → Nat) (RV : Nat → Nat → Int), k ≤ m ∧ u = .int .i64 k ∧ FamLP wr (g6 + 1) (.slice (some ⟨gA, 0, none⟩) m cA) (.slice B0 m cB) C m m m (n + i) (fun q => .slice (RA q) (if q < k then n + i + 1 else n + i) (RC q)) (fun q => if q < k then n + i + 1 else n + i) RV BV V ∧ Hid (∀ q, q < m → ∀ j, j < (if q < k then n + i + 1 else n + i) → -5000 ≤ RV q j ∧ RV q j ≤ 5000) ∧ Bx wr g6 [.slice (some ⟨gA, 0, none⟩) m cA, .slice B0 m cB, C] ∧ Bx wr w.heap.size [.slice none 0 0, .slice none 0 0, .slice none 0 0] ∧ Stp W g w wr) (fun u _ => m - (intOf u).toNat)
                case atStart => exact ⟨0, RA, RC, RV, Nat.zero_le _, rfl, FH.out.congrR (Nat.le_refl _) (fun q _ => ⟨by simp, by simp, rfl⟩), Lib.hid (fun q hq j hj => hRV.out q hq j (by simpa using hj)), B6H.out, R2H.out, HSH.out⟩
                case round =>
                  obtain ⟨k, RA, RC, RV, hk, rfl, F, hRV, B6, R2, HS⟩ := hrel
                  obtain ⟨wq, rfl⟩ : ∃ wq : World, wq = wr := ⟨_, rfl⟩
                  by_cases hk1 : k < m
                  · have hb := (Below.refl wq.heap.size wq).drew
                    have F := F.below hb
                    have B6 := B6.below hb
                    have R2 := R2.below hb
                    have HS := HS.below hb
                    clear hb
                    have hcell : ∀ (wx : World), wx.ownsRow (g6 + 1) 23 1 (.slice (some ⟨gA, 0, none⟩) m cA) m ((List.range m).map (fun q => Value.slice (RA q) (if q < k then n + i + 1 else n + i) (RC q))) → wx.cell? ⟨gA, k, none⟩ = some (.slice (RA k) (n + i) (RC k)) := fun wx h => by
                      have h2 := h.cells (g := gA) rfl k (.slice (RA k) (n + i) (RC k)) (by simp [hk1])
                      rwa [Addr.add_lit, Nat.zero_add] at h2
                    have HCELL := Lib.hid hcell
                    clear hcell
                    have xk := HCELL.out _ F.ownA
                    obtain ⟨bb, ebb⟩ : ∃ b, b = ((k : Int) == (i : Int)) := ⟨_, rfl⟩
                    have ebb2 := ebb.symm
                    obtain ⟨uu, hu⟩ : ∃ u : Int, u = (if bb = true then 1 else 0) := ⟨_, rfl⟩
                    have hu0 : 0 ≤ uu ∧ uu ≤ 1 := by
                      rw [hu]
                      cases bb <;> simp
                    have HUU := Lib.hid hu.symm
                    clear hu
                    have k0 : (0 : Int) ≤ (k : Int) := by omega
                    have k1 : (k : Int) < (m : Int) := by omega
                    clear ebb
                    go_upto_region 26 with fail
                    refine wp_region_noPanic ?_
                    refine regionG (S := (fun w' => w'.cell? ⟨g6, 0, none⟩ = some (.slice (some ⟨gA, 0, none⟩) m cA) ∧ w'.cell? ⟨gA, k, none⟩ = some (.slice (RA k) (n + i) (RC k)))) 15 (by kernel_rfl) ?_ (fun hHeld => ?_)
                    · exact ⟨B6.2.1 0 _ rfl, xk⟩
                    refine takeG 0 (v := ?v1002_0) rfl rfl (by kernel_rfl) (by rfl) (by kernel_rfl) (by kernel_rfl) (by kernel_rfl) (fun _ _ _ h => h) (by rfl) ?hy1002_0 (by assumption) ?r1002_0
                    case hy1002_0 => (intro w hSw; (try dsimp only at hSw); first | (go_simp; done) | (go_simp; with_reducible rfl))
                    simp only [Act.put, List.setIfInBounds_toArray, List.set_cons_zero, List.set_cons_succ]
                    refine takeG 1 (v := ?v1002_1) rfl rfl (by kernel_rfl) (by rfl) (by kernel_rfl) (by kernel_rfl) (by kernel_rfl) (fun _ _ _ h => h) (by rfl) ?hy1002_1 (by assumption) ?r1002_1
                    case hy1002_1 => (intro w hSw; (try dsimp only at hSw); first | (go_simp; done) | (go_simp; with_reducible rfl))
                    simp only [Act.put, List.setIfInBounds_toArray, List.set_cons_zero, List.set_cons_succ]
                    refine takeG 2 (v := ?v1002_2) rfl rfl (by kernel_rfl) (by rfl) (by kernel_rfl) (by kernel_rfl) (by kernel_rfl) (fun _ _ _ h => h) (by rfl) ?hy1002_2 (by assumption) ?r1002_2
                    case hy1002_2 => (intro w hSw; (try dsimp only at hSw); first | (go_simp; done) | (go_simp; with_reducible rfl))
                    simp only [Act.put, List.setIfInBounds_toArray, List.set_cons_zero, List.set_cons_succ]
                    refine takeG 3 (v := ?v1002_3) rfl rfl (by kernel_rfl) (by rfl) (by kernel_rfl) (by kernel_rfl) (by kernel_rfl) (fun _ _ _ h => h) (by rfl) ?hy1002_3 (by assumption) ?r1002_3
                    case hy1002_3 => (intro w hSw; (try dsimp only at hSw); first | (go_simp; done) | (go_simp; with_reducible rfl))
                    simp only [Act.put, List.setIfInBounds_toArray, List.set_cons_zero, List.set_cons_succ]
                    refine takeG 4 (v := ?v1002_4) rfl rfl (by kernel_rfl) (by rfl) (by kernel_rfl) (by kernel_rfl) (by kernel_rfl) (fun _ _ _ h => h) (by rfl) ?hy1002_4 (by assumption) ?r1002_4
                    case hy1002_4 => (intro w hSw; (try dsimp only at hSw); first | (go_simp; done) | (go_simp; with_reducible rfl))
                    simp only [Act.put, List.setIfInBounds_toArray, List.set_cons_zero, List.set_cons_succ]
                    refine takeG 5 (v := ?v1002_5) rfl rfl (by kernel_rfl) (by rfl) (by kernel_rfl) (by kernel_rfl) (by kernel_rfl) (fun _ _ _ h => h) (by rfl) ?hy1002_5 (by assumption) ?r1002_5
                    case hy1002_5 => (intro w hSw; (try dsimp only at hSw); first | (go_simp; done) | (go_simp; with_reducible rfl))
                    simp only [Act.put, List.setIfInBounds_toArray, List.set_cons_zero, List.set_cons_succ]
                    refine takeG 6 (v := ?v1002_6) rfl rfl (by kernel_rfl) (by rfl) (by kernel_rfl) (by kernel_rfl) (by kernel_rfl) (fun _ _ _ h => h) (by rfl) ?hy1002_6 (by assumption) ?r1002_6
                    case hy1002_6 => (intro w hSw; (try dsimp only at hSw); first | (go_simp; done) | (go_simp; with_reducible rfl))
                    simp only [Act.put, List.setIfInBounds_toArray, List.set_cons_zero, List.set_cons_succ]
                    refine takeG 7 (v := ?v1002_7) rfl rfl (by kernel_rfl) (by rfl) (by kernel_rfl) (by kernel_rfl) (by kernel_rfl) (fun _ _ _ h => h) (by rfl) ?hy1002_7 (by assumption) ?r1002_7
                    case hy1002_7 => (intro w hSw; (try dsimp only at hSw); first | (go_simp; done) | (go_simp; with_reducible rfl))
                    simp only [Act.put, List.setIfInBounds_toArray, List.set_cons_zero, List.set_cons_succ]
                    refine takeG 8 (v := ?v1002_8) rfl rfl (by kernel_rfl) (by rfl) (by kernel_rfl) (by kernel_rfl) (by kernel_rfl) (fun _ _ _ h => h) (by rfl) ?hy1002_8 (by assumption) ?r1002_8
                    case hy1002_8 => (intro w hSw; (try dsimp only at hSw); first | (go_simp; done) | (go_simp; with_reducible rfl))
                    simp only [Act.put, List.setIfInBounds_toArray, List.set_cons_zero, List.set_cons_succ]
                    refine takeG 9 (v := ?v1002_9) rfl rfl (by kernel_rfl) (by rfl) (by kernel_rfl) (by kernel_rfl) (by kernel_rfl) (fun _ _ _ h => h) (by rfl) ?hy1002_9 (by assumption) ?r1002_9
                    case hy1002_9 => (intro w hSw; (try dsimp only at hSw); first | (go_simp; done) | (go_simp; with_reducible rfl))
                    simp only [Act.put, List.setIfInBounds_toArray, List.set_cons_zero, List.set_cons_succ]
                    refine takeG 10 (v := ?v1002_10) rfl rfl (by kernel_rfl) (by rfl) (by kernel_rfl) (by kernel_rfl) (by kernel_rfl) (fun _ _ _ h => h) (by rfl) ?hy1002_10 (by assumption) ?r1002_10
                    case hy1002_10 => (intro w hSw; (try dsimp only at hSw); first | (go_simp; done) | (go_simp; with_reducible rfl))
                    simp only [Act.put, List.setIfInBounds_toArray, List.set_cons_zero, List.set_cons_succ]
                    refine nextG 11 (by kernel_rfl) rfl (by rfl) (fun K hK => ?_)
                    go_simp
                    go_at_call 71; refine (l1Bit_any bb _).mono ?_; rintro e w5 ⟨rfl, rfl⟩; rw [HUU.out]
                    go_wp2_with fail
                    refine hK.out _ _ ?_ (fun hHeld => ?_)
                    · exact ⟨B6.2.1 0 _ rfl, xk⟩
                    clear hK K
                    refine nextG 12 (by kernel_rfl) rfl (by rfl) (fun K hK => ?_)
                    go_simp
                    refine hK.out _ _ ?_ (fun hHeld => ?_)
                    · exact ⟨(B6.alloc _).2.1 0 _ rfl, HCELL.out _ (own_below F.ownA ((Below.refl _ _).alloc (Nat.le_refl _) _))⟩
                    clear hK K
                    try simp only [Act.put, List.setIfInBounds_toArray, List.set_cons_zero, List.set_cons_succ]
                    refine nextG 13 (by kernel_rfl) rfl (by rfl) (fun K hK => ?_)
                    have hRk : wq.drew.ownsRow (g6 + 1) 3 1 (.slice (RA k) (n + i) (RC k)) (n + i) (cellsI (RV k) (n + i)) := (by have h := F.ownR hk1; simpa using h); refine wp_rowpush _ _ _ 23 rfl (g6 + 1) 3 (.int .i64 0) 1 8 Try.underlying23 infoInt rfl (by decide) (.slice (RA k) (n + i) (RC k)) (n + i) _ rfl hRk [.int .i64 uu] rfl rfl (by simp [Value.oneCell']) (by decide) (by omega) B6.1 ?_; intro g5 cap5 w8 hownR hg5 hat5 hlt5; rw [cellsI_upd] at hownR; have F0 := Lib.hid F; have hgR : wq.drew.grownBy w8 (Value.slice (RA k) (if k < k then n + i + 1 else n + i) (RC k)).ownBlock := (by rw [if_neg (Nat.lt_irrefl k)]; exact hg5); have hapR : ∀ q, (Value.slice (some (⟨g5, 0, none⟩ : Addr)) (n + i + 1) cap5).ownBlock = some q → (Value.slice (RA k) (if k < k then n + i + 1 else n + i) (RC k)).ownBlock = some q ∨ wq.drew.heap.size ≤ q := (fun q hq => by have e : some g5 = some q := hq; injection e with e; subst e; rw [if_neg (Nat.lt_irrefl k)]; exact hat5); have hbl := Below.of_grown (B := g6 + 1) hg5 B6.1 (fun q hq => (hRk.lt q hq).1); have B6 := bx_lo B6 hbl (Nat.lt_succ_self _); have R2 := bx_lo R2 hbl (by omega); have HS := Stp.low HS hbl (by omega) (by omega) (by omega); have HOA := own_off F.ownA hgR (fun q hq e => F.neA hk1 q hq e); have xk := HCELL.out _ HOA; clear hRk hbl hg5 hat5
                    refine hK.out _ _ ?_ (fun hHeld => ?_)
                    · exact ⟨B6.2.1 0 _ rfl, xk⟩
                    clear hK K
                    try simp only [Act.put, List.setIfInBounds_toArray, List.set_cons_zero, List.set_cons_succ]
                    refine takeG 14 (v := ?v1002_14) rfl rfl (by kernel_rfl) (by rfl) (by kernel_rfl) (by kernel_rfl) (by kernel_rfl) (fun _ _ _ h => h) (by rfl) ?hy1002_14 (by assumption) ?r1002_14
                    case hy1002_14 => (intro w hSw; (try dsimp only at hSw); first | (go_simp; done) | (go_simp; with_reducible rfl))
                    simp only [Act.put, List.setIfInBounds_toArray, List.set_cons_zero, List.set_cons_succ]
                    refine lastG (by kernel_rfl) (by kernel_rfl) rfl (by rfl) (fun K hK => ?_)
                    obtain ⟨⟨ycl, y00⟩, f00⟩ := own_cell (i := k) HOA (by omega) (by omega)
                    have y0 := xk
                    have yf := f00
                    have yz := B6.1
                    go_simp
                    refine hK.out _ _ ?_
                    clear hK K
                    refine NoPanic.normal ?_
                    clear y0 yf yz ycl y00 f00 hHeld xk
                    have F := F0.out.setR (i := k) hk1 rfl hgR hownR hapR
                    have F := F.congrR (RN' := fun q => if q < k + 1 then n + i + 1 else n + i) (R' := fun q => .slice (if q = k then some ⟨g5, 0, none⟩ else RA q) (if q < k + 1 then n + i + 1 else n + i) (if q = k then cap5 else RC q)) (RV' := fun q => if q = k then (fun j => if j = n + i then uu else RV k j) else RV q) (Nat.le_refl _) (fun q hq => by
                      by_cases e : q = k
                      · subst e
                        simp
                      · have e2 : (q < k + 1) = (q < k) := by
                          apply propext
                          omega
                        simp only [e, if_false, e2]
                        exact ⟨trivial, trivial, trivial⟩)
                    have hRV2 : Hid (∀ q, q < m → ∀ j, j < (if q < k + 1 then n + i + 1 else n + i) → -5000 ≤ (if q = k then (fun j => if j = n + i then uu else RV k j) else RV q) j ∧ (if q = k then (fun j => if j = n + i then uu else RV k j) else RV q) j ≤ 5000) := Lib.hid (fun q hq j hj => by
                      by_cases e : q = k
                      · subst e
                        rw [if_pos rfl]
                        show -5000 ≤ (if j = n + i then uu else RV q j) ∧ (if j = n + i then uu else RV q j) ≤ 5000
                        by_cases e3 : j = n + i
                        · rw [if_pos e3]
                          omega
                        · rw [if_neg e3]
                          rw [if_pos (Nat.lt_succ_self _)] at hj
                          exact hRV.out q hq j (by rw [if_neg (Nat.lt_irrefl _)]; omega)
                      · rw [if_neg e]
                        refine hRV.out q hq j ?_
                        by_cases e4 : q < k
                        · rw [if_pos e4]
                          rwa [if_pos (by omega)] at hj
                        · rw [if_neg e4]
                          rwa [if_neg (by omega)] at hj)
                    have B6 := B6.other (b := gA) (k := k) (by omega) (.slice (some ⟨g5, 0, none⟩) (n + i + 1) cap5)
                    have R2 := R2.other (b := gA) (k := k) (by omega) (.slice (some ⟨g5, 0, none⟩) (n + i + 1) cap5)
                    have HS := Stp.low HS ((Below.refl w.heap.size _).setCell (p := ⟨gA, k, none⟩) (by show w.heap.size ≤ gA; omega) (.slice (some ⟨g5, 0, none⟩) (n + i + 1) cap5)) (Nat.le_refl _) hW hgl
                    have FH := Lib.hid F
                    have B6H := Lib.hid B6
                    have R2H := Lib.hid R2
                    have HSH := Lib.hid HS
                    clear F B6 R2 HS F0 hgR hownR hapR HCELL
                    go_wp2
                    go_roundw
                    case rel => exact ⟨k + 1, _, _, _, by omega, by go_num, FH.out, hRV2, B6H.out, R2H.out, HSH.out⟩
                    case measure => simp [intOf]; omega
                  · obtain rfl : m = k := by omega
                    have F := F.congrR (RN' := fun _ => n + i + 1) (R' := fun q => .slice (RA q) (n + i + 1) (RC q)) (RV' := RV) (Nat.le_refl _) (fun q hq => by simp [hq])
                    have hRV2 : Hid (∀ q, q < m → ∀ j, j < n + i + 1 → -5000 ≤ RV q j ∧ RV q j ≤ 5000) := Lib.hid (fun q hq j hj => hRV.out q hq j (by rw [if_pos hq]; exact hj))
                    have hok2 := Lib.hid (Pl.okTo_snoc hok.out (show Pl.valid 0 1 = true by decide))
                    have hb := (Below.refl wq.heap.size wq).drew
                    have F := F.below hb
                    have B6 := B6.below hb
                    have R2 := R2.below hb
                    have HS := HS.below hb
                    clear hb
                    go_upto_region 27 with fail
                    refine wp_region_noPanic ?_
                    refine regionG (S := (fun w' => w'.cell? ⟨g6, 2, none⟩ = some C)) 6 (by kernel_rfl) ?_ (fun hHeld => ?_)
                    · exact B6.2.1 2 _ rfl
                    refine takeG 0 (v := ?v1003_0) rfl rfl (by kernel_rfl) (by rfl) (by kernel_rfl) (by kernel_rfl) (by kernel_rfl) (fun _ _ _ h => h) (by rfl) ?hy1003_0 (by assumption) ?r1003_0
                    case hy1003_0 => (intro w hSw; (try dsimp only at hSw); first | (go_simp; done) | (go_simp; with_reducible rfl))
                    simp only [Act.put, List.setIfInBounds_toArray, List.set_cons_zero, List.set_cons_succ]
                    refine takeG 1 (v := ?v1003_1) rfl rfl (by kernel_rfl) (by rfl) (by kernel_rfl) (by kernel_rfl) (by kernel_rfl) (fun _ _ _ h => h) (by rfl) ?hy1003_1 (by assumption) ?r1003_1
                    case hy1003_1 => (intro w hSw; (try dsimp only at hSw); first | (go_simp; done) | (go_simp; with_reducible rfl))
                    simp only [Act.put, List.setIfInBounds_toArray, List.set_cons_zero, List.set_cons_succ]
                    refine nextG 2 (by kernel_rfl) rfl (by rfl) (fun K hK => ?_)
                    go_simp
                    go_at_call 57; refine (l3Int_any _ _).mono ?_; rintro e w5 ⟨rfl, hb⟩; have F := F.below hb; have B6 := B6.below hb; have R2 := R2.below hb; have HS := HS.below hb; clear hb
                    go_wp2_with fail
                    refine hK.out _ _ ?_ (fun hHeld => ?_)
                    · exact B6.2.1 2 _ rfl
                    clear hK K
                    refine nextG 3 (by kernel_rfl) rfl (by rfl) (fun K hK => ?_)
                    go_simp
                    refine hK.out _ _ ?_ (fun hHeld => ?_)
                    · exact (B6.alloc _).2.1 2 _ rfl
                    clear hK K
                    try simp only [Act.put, List.setIfInBounds_toArray, List.set_cons_zero, List.set_cons_succ]
                    refine nextG 4 (by kernel_rfl) rfl (by rfl) (fun K hK => ?_)
                    refine wp_rowpush _ _ _ 36 rfl (g6 + 1) 66 (.agg #[.int .i64 0, .int .i64 0]) 2 16 Try.underlying36 infoRat rfl (by decide) C (n + i) _ rfl F.ownC [.int .i64 0, .int .i64 1] rfl rfl (by simp [Value.oneCell']) (by decide) (by omega) B6.1 ?_; intro g5 cap5 w8 hown5 hg5 hat5 hlt5; rw [cellsV_snoc] at hown5; have hbl := Below.of_grown (B := g6 + 1) hg5 B6.1 (fun q hq => (F.ownC.lt q hq).1); have F := F.setC hg5 hown5 (fun q hq => by have e : some g5 = some q := hq; injection e with e; subst e; exact hat5); have B6 := bx_lo B6 hbl (Nat.lt_succ_self _); have R2 := bx_lo R2 hbl (by omega); have HS := Stp.low HS hbl (by omega) (by omega) (by omega); clear hbl hown5 hg5 hat5
                    refine hK.out _ _ ?_ (fun hHeld => ?_)
                    · exact B6.2.1 2 _ rfl
                    clear hK K
                    try simp only [Act.put, List.setIfInBounds_toArray, List.set_cons_zero, List.set_cons_succ]
                    refine takeG 5 (v := ?v1003_5) rfl rfl (by kernel_rfl) (by rfl) (by kernel_rfl) (by kernel_rfl) (by kernel_rfl) (fun _ _ _ h => h) (by rfl) ?hy1003_5 (by assumption) ?r1003_5
                    case hy1003_5 => (intro w hSw; (try dsimp only at hSw); first | (go_simp; done) | (go_simp; with_reducible rfl))
                    simp only [Act.put, List.setIfInBounds_toArray, List.set_cons_zero, List.set_cons_succ]
                    refine lastG (by kernel_rfl) (by kernel_rfl) rfl (by rfl) (fun K hK => ?_)
                    have y0 := B6.2.1 2 _ rfl
                    have yf := B6.2.2 2
                    have yz := B6.1
                    go_simp
                    refine hK.out _ _ ?_
                    clear hK K
                    refine NoPanic.normal ?_
                    clear y0 yf yz hHeld
                    have F := F.off (only_setCell (p := ⟨g6, 2, none⟩) (World.grownBy.refl _ (some g6)) rfl (.slice (some ⟨g5, 0, none⟩) (n + i + 1) cap5)) (fun q hq => by injection hq with hq; omega)
                    have B6 := B6.set (k := 2) (by simp) (.slice (some ⟨g5, 0, none⟩) (n + i + 1) cap5)
                    have R2 := R2.other (b := g6) (k := 2) (by omega) (.slice (some ⟨g5, 0, none⟩) (n + i + 1) cap5)
                    have HS := Stp.low HS ((Below.refl w.heap.size _).setCell (p := ⟨g6, 2, none⟩) (by show w.heap.size ≤ g6; omega) (.slice (some ⟨g5, 0, none⟩) (n + i + 1) cap5)) (Nat.le_refl _) hW hgl
                    have FH := Lib.hid F
                    have B6H := Lib.hid B6
                    have R2H := Lib.hid R2
                    have HSH := Lib.hid HS
                    clear F B6 R2 HS
                    go_wp2
                    go_roundw
                    case rel => exact ⟨i + 1, _, _, _, _, _, by omega, by go_num, FH.out, hRV2, hok2, B6H.out, R2H.out, HSH.out, fun h => by cases h⟩
                    case measure => simp [intOf]; omega
            · have dl := decide_eq_false (show ¬ (i : Int) < (m : Int) by omega)
              obtain ⟨C0, cC, rfl⟩ := own_form F.ownC
              have z0 := B6.2.1 0 _ rfl
              have z1 := B6.2.1 1 _ rfl
              have z2 : wo.cell? ⟨g6, 2, none⟩ = some (.slice C0 (n + i) cC) := B6.2.1 2 _ rfl
              have r0 := R2.2.1 0 _ rfl
              have r1 := R2.2.1 1 _ rfl
              have r2 := R2.2.1 2 _ rfl
              have rz := R2.1
              have rf := R2.2.2
              have F := F.off (only_setCell (p := ⟨w.heap.size, 0, none⟩) (World.grownBy.refl _ (some w.heap.size)) rfl (.slice (some ⟨gA, 0, none⟩) m cA)) (fun q hq => by injection hq with hq; omega)
              have R2 := R2.set (k := 0) (by simp) (.slice (some ⟨gA, 0, none⟩) m cA)
              have HS := Stp.low HS ((Below.refl w.heap.size _).setCell (p := ⟨w.heap.size, 0, none⟩) (Nat.le_refl _) (.slice (some ⟨gA, 0, none⟩) m cA)) (Nat.le_refl _) hW hgl
              have F := F.off (only_setCell (p := ⟨w.heap.size, 1, none⟩) (World.grownBy.refl _ (some w.heap.size)) rfl (.slice B0 m cB)) (fun q hq => by injection hq with hq; omega)
              have R2 := R2.set (k := 1) (by simp) (.slice B0 m cB)
              have HS := Stp.low HS ((Below.refl w.heap.size _).setCell (p := ⟨w.heap.size, 1, none⟩) (Nat.le_refl _) (.slice B0 m cB)) (Nat.le_refl _) hW hgl
              have F := F.off (only_setCell (p := ⟨w.heap.size, 2, none⟩) (World.grownBy.refl _ (some w.heap.size)) rfl (.slice C0 (n + i) cC)) (fun q hq => by injection hq with hq; omega)
              have R2 := R2.set (k := 2) (by simp) (.slice C0 (n + i) cC)
              have HS := Stp.low HS ((Below.refl w.heap.size _).setCell (p := ⟨w.heap.size, 2, none⟩) (Nat.le_refl _) (.slice C0 (n + i) cC)) (Nat.le_refl _) hW hgl
              have f0 := R2.2.1 0 _ rfl
              have f1 := R2.2.1 1 _ rfl
              have f2 := R2.2.1 2 _ rfl
              have FH := Lib.hid (F.low (lo' := w.heap.size) (by omega))
              have HSH := Lib.hid HS
              clear F B6 R2 HS
              go_wp2
              refine bodyPost_ret (v := .agg #[.slice (some ⟨gA, 0, none⟩) m cA, .slice B0 m cB, .slice C0 (n + i) cC]) (by simp [results, Try.results108, go_sem, f0, f1, f2]) rfl (drawn_mk (n := n + i) hm1 hm3 (by omega) (by omega) FH.out hRV.out hBV.out hok.out HSH.out)

end Go.Proofs.Ytajafmdeencohaa
