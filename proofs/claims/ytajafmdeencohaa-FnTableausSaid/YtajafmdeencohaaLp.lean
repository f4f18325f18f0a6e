/-
  Contracts of the laws' szLP, toLP, eqLP, markLP; an LP that came in, read field by field.
-/
import Derived.Test.YtajafmdeencohaaNest
import Derived.Test.YtajafmdeencohaaOpenVec
import Derived.Deep.Slices
namespace Go.Proofs.Ytajafmdeencohaa
open Go.RowKit Go.ChangeShapes Go.WideShapes
attribute [local go_sem ↓] Go.wp_at_zero Go.wp_at_succ

theorem szI_yes (A : Option Addr) (n c : Nat) (left : Int) (w : World) (h0 : 0 ≤ left - n) (h1 : left ≤ 1048576) : Calls Try.prog 43 #[.slice A n c, .int .i64 left] w fun e w' => e = .returned (.int .i64 (left - n)) ∧ w = w' := by
  have hd := decide_eq_false (show ¬ left - (n : Int) < 0 by omega)
  go_enter Try.func43, Try.ntmps43
  go_wp2
  go_ret
  exact ⟨rfl, rfl⟩
theorem szI_no (A : Option Addr) (n c : Nat) (left : Int) (w : World) (h0 : left - n < 0) (h1 : 0 ≤ left) (h2 : left ≤ 1048576) (hn : (n : Int) ≤ 9223372036854775807) : Calls Try.prog 43 #[.slice A n c, .int .i64 left] w fun e w' => e = .returned (.int .i64 (-1)) ∧ w = w' := by
  have hd := decide_eq_true (show left - (n : Int) < 0 by omega)
  go_enter Try.func43, Try.ntmps43
  go_wp2
  go_ret
  exact ⟨rfl, rfl⟩

theorem szIntSS_any (A : Option Addr) (n c B : Nat) (RA : Nat → Option Addr) (RN RC : Nat → Nat) (RV : Nat → Nat → Int) (left : Int) (w : World) (hr : RdI w B A n RA RN RC RV) (hl0 : 0 ≤ left) (hl : left ≤ 1048576) (hn : (n : Int) ≤ 9223372036854775807) (hz : ∀ j, j < n → (RN j : Int) ≤ 9223372036854775807) :
    Calls Try.prog 69 #[.slice A n c, .int .i64 left] w fun e w' => ∃ v : Int, e = .returned (.int .i64 v) ∧ w = w' ∧ (v = -1 ∨ (0 ≤ v ∧ v ≤ left ∧ (n : Int) ≤ left ∧ ∀ j, j < n → (RN j : Int) ≤ left)) := by
  have HZ := Lib.hid hz
  have HR := Lib.hid hr.1
  clear hz hr
  by_cases h0 : left - (n : Int) < 0
  · have hd := decide_eq_true h0
    go_enter Try.func69, Try.ntmps69
    go_wp2
    go_ret
    exact ⟨_, rfl, rfl, Or.inl rfl⟩
  · have hd := decide_eq_false h0
    go_enter Try.func69, Try.ntmps69
    go_wp2
    go_loop [1, 5] (fun l u => ∃ (j : Nat) (q : Int), j ≤ n ∧ u = .int .i64 j ∧ l = .int .i64 q ∧ 0 ≤ q ∧ q ≤ left ∧ Hid (∀ i, i < j → (RN i : Int) ≤ left)) (fun _ u => n - (intOf u).toNat)
    case atStart => exact ⟨0, _, Nat.zero_le _, rfl, rfl, by omega, by omega, Lib.hid (fun i h => absurd h (by omega))⟩
    case round =>
      obtain ⟨j, q, hj, rfl, rfl, q0, q1, hi⟩ := hrel
      by_cases hlt : j < n
      · obtain ⟨b, off, rfl, hbb, hc⟩ := HR.out (by omega)
        have x0 := hc j hlt
        have hxz := HZ.out _ hlt
        have HN := Lib.hid (fun (h2 : (RN j : Int) ≤ left) => show ∀ i, i < j + 1 → (RN i : Int) ≤ left from fun i h1 => by
          rcases Nat.lt_or_ge i j with h3 | h3
          · exact hi.out i h3
          · obtain rfl : i = j := by omega
            exact h2)
        obtain ⟨m, hm⟩ : ∃ m : Nat, m = RN j := ⟨_, rfl⟩
        rw [← hm] at x0 hxz HN
        clear hm hc
        by_cases hs : q - (m : Int) < 0
        · have hds := decide_eq_true hs
          go_wp2_with fail
          refine (szI_no _ _ _ _ _ hs q0 (by omega) hxz).mono ?_
          rintro e w1 ⟨rfl, rfl⟩
          go_wp2
          go_ret
          exact ⟨_, rfl, rfl, Or.inl rfl⟩
        · have hds := decide_eq_false hs
          go_wp2_with fail
          refine (szI_yes _ _ _ _ _ (by omega) (by omega)).mono ?_
          rintro e w1 ⟨rfl, rfl⟩
          go_wp2
          go_round
          case rel => exact ⟨j + 1, q - (m : Int), by omega, by go_num, by go_num, by omega, by omega, Lib.hid (HN.out (by omega))⟩
          case measure => simp [intOf]; omega
      · obtain rfl : j = n := by omega
        go_wp2
        go_ret
        exact ⟨_, rfl, rfl, Or.inr ⟨q0, q1, by omega, fun i hi2 => hi.out i hi2⟩⟩

theorem eqIntSS_same (A1 A2 : Option Addr) (n c1 c2 B : Nat) (RA1 RA2 : Nat → Option Addr) (RN RC1 RC2 : Nat → Nat) (RV : Nat → Nat → Int) (w : World) (h1 : RdI w B A1 n RA1 RN RC1 RV) (h2 : RdI w B A2 n RA2 RN RC2 RV) (hB : B ≤ w.heap.size) (hn : n ≤ 1048576) (hz : ∀ j, j < n → RN j ≤ 1048576) :
    Calls Try.prog 74 #[.slice A1 n c1, .slice A2 n c2] w fun e w' => e = .returned (.bool true) ∧ Below w.heap.size w w' := by
  have H1 := Lib.hid h1
  have H2 := Lib.hid h2
  have HZ := Lib.hid hz
  clear h1 h2 hz
  go_enter Try.func74, Try.ntmps74
  go_wp2
  go_loopw [5] (fun u wr => ∃ k : Nat, k ≤ n ∧ u = .int .i64 k ∧ Below w.heap.size w wr) (fun u _ => n - (intOf u).toNat)
  case atStart => exact ⟨0, Nat.zero_le _, rfl, Below.refl _ _⟩
  case round =>
    obtain ⟨k, hk, rfl, hb⟩ := hrel
    by_cases hlt : k < n
    · obtain ⟨b1, o1, rfl, hb1, hc1⟩ := H1.out.1 (by omega)
      obtain ⟨b2, o2, rfl, hb2, hc2⟩ := H2.out.1 (by omega)
      have x1 := (hb.drew.cell (p := ⟨b1, o1 + k, none⟩) (by exact Nat.lt_of_lt_of_le hb1 hB)).trans (hc1 k hlt)
      have x2 := (hb.drew.cell (p := ⟨b2, o2 + k, none⟩) (by exact Nat.lt_of_lt_of_le hb2 hB)).trans (hc2 k hlt)
      have hz1 : b1 < wr.drew.heap.size := Nat.lt_of_lt_of_le (Nat.lt_of_lt_of_le hb1 hB) hb.size
      have hz2 : b2 < wr.drew.heap.size := Nat.lt_of_lt_of_le (Nat.lt_of_lt_of_le hb2 hB) hb.size
      have EQ := Lib.hid (eqIntI_same (RA1 k) (RA2 k) (RN k) (RC1 k) (RC2 k) B (RV k) wr.drew ((H1.out.2 k hlt).below' hb.drew hB) ((H2.out.2 k hlt).below' hb.drew hB) (Nat.le_trans hB hb.size) (by have := HZ.out k hlt; omega))
      have hbd := Lib.hid hb.drew
      generalize RA1 k = m1 at x1 EQ
      generalize RA2 k = m2 at x2 EQ
      generalize RN k = mn at x1 x2 EQ
      generalize RC1 k = mc1 at x1 EQ
      generalize RC2 k = mc2 at x2 EQ
      clear hc1 hc2
      have k0 : (0 : Int) ≤ (k : Int) := by omega
      have k1 : (k : Int) < (n : Int) := by omega
      go_upto_region 6 with fail
      refine wp_region_noPanic ?_
      refine wp_region_held_drew (S := (fun w' => w'.cell? ⟨b1, o1 + k, none⟩ = some (.slice m1 mn mc1) ∧ w'.cell? ⟨b2, o2 + k, none⟩ = some (.slice m2 mn mc2))) (by kernel_rfl) ?_ (fun hHeld => ?_)
      · exact ⟨x1, x2⟩
      refine takeN 0 (v := ?v1_0) rfl (by kernel_rfl) (by kernel_rfl) (by kernel_rfl) (fun _ _ _ h => h) (by rfl) ?hy1_0 (by assumption) ?r1_0
      case hy1_0 => (intro w hSw; (try dsimp only at hSw); first | (go_simp; done) | (go_simp; with_reducible rfl))
      simp only [Act.put, List.setIfInBounds_toArray, List.set_cons_zero, List.set_cons_succ]
      refine takeN 1 (v := ?v1_1) rfl (by kernel_rfl) (by kernel_rfl) (by kernel_rfl) (fun _ _ _ h => h) (by rfl) ?hy1_1 (by assumption) ?r1_1
      case hy1_1 => (intro w hSw; (try dsimp only at hSw); first | (go_simp; done) | (go_simp; with_reducible rfl))
      simp only [Act.put, List.setIfInBounds_toArray, List.set_cons_zero, List.set_cons_succ]
      refine takeN 2 (v := ?v1_2) rfl (by kernel_rfl) (by kernel_rfl) (by kernel_rfl) (fun _ _ _ h => h) (by rfl) ?hy1_2 (by assumption) ?r1_2
      case hy1_2 => (intro w hSw; (try dsimp only at hSw); first | (go_simp; done) | (go_simp; with_reducible rfl))
      simp only [Act.put, List.setIfInBounds_toArray, List.set_cons_zero, List.set_cons_succ]
      refine takeN 3 (v := ?v1_3) rfl (by kernel_rfl) (by kernel_rfl) (by kernel_rfl) (fun _ _ _ h => h) (by rfl) ?hy1_3 (by assumption) ?r1_3
      case hy1_3 => (intro w hSw; (try dsimp only at hSw); first | (go_simp; done) | (go_simp; with_reducible rfl))
      simp only [Act.put, List.setIfInBounds_toArray, List.set_cons_zero, List.set_cons_succ]
      refine takeN 4 (v := ?v1_4) rfl (by kernel_rfl) (by kernel_rfl) (by kernel_rfl) (fun _ _ _ h => h) (by rfl) ?hy1_4 (by assumption) ?r1_4
      case hy1_4 => (intro w hSw; (try dsimp only at hSw); first | (go_simp; done) | (go_simp; with_reducible rfl))
      simp only [Act.put, List.setIfInBounds_toArray, List.set_cons_zero, List.set_cons_succ]
      refine takeN 5 (v := ?v1_5) rfl (by kernel_rfl) (by kernel_rfl) (by kernel_rfl) (fun _ _ _ h => h) (by rfl) ?hy1_5 (by assumption) ?r1_5
      case hy1_5 => (intro w hSw; (try dsimp only at hSw); first | (go_simp; done) | (go_simp; with_reducible rfl))
      simp only [Act.put, List.setIfInBounds_toArray, List.set_cons_zero, List.set_cons_succ]
      refine takeN 6 (v := ?v1_6) rfl (by kernel_rfl) (by kernel_rfl) (by kernel_rfl) (fun _ _ _ h => h) (by rfl) ?hy1_6 (by assumption) ?r1_6
      case hy1_6 => (intro w hSw; (try dsimp only at hSw); first | (go_simp; done) | (go_simp; with_reducible rfl))
      simp only [Act.put, List.setIfInBounds_toArray, List.set_cons_zero, List.set_cons_succ]
      refine takeN 7 (v := ?v1_7) rfl (by kernel_rfl) (by kernel_rfl) (by kernel_rfl) (fun _ _ _ h => h) (by rfl) ?hy1_7 (by assumption) ?r1_7
      case hy1_7 => (intro w hSw; (try dsimp only at hSw); first | (go_simp; done) | (go_simp; with_reducible rfl))
      simp only [Act.put, List.setIfInBounds_toArray, List.set_cons_zero, List.set_cons_succ]
      refine nextN 8 (by kernel_rfl) rfl (fun K hK => ?_)
      go_simp
      go_at_call 51; refine EQ.out.mono ?_; rintro e wA ⟨rfl, hbA⟩; have y1 := (hbA.cell (p := ⟨b1, o1 + k, none⟩) hz1).trans x1; have y2 := (hbA.cell (p := ⟨b2, o2 + k, none⟩) hz2).trans x2
      go_wp2_with fail
      refine hK.out _ _ ?_ (fun hHeld => ?_)
      · exact ⟨y1, y2⟩
      clear hK K
      refine takeN 9 (v := ?v1_9) rfl (by kernel_rfl) (by kernel_rfl) (by kernel_rfl) (fun _ _ _ h => h) (by rfl) ?hy1_9 (by assumption) ?r1_9
      case hy1_9 => (intro w hSw; (try dsimp only at hSw); first | (go_simp; done) | (go_simp; with_reducible rfl))
      simp only [Act.put, List.setIfInBounds_toArray, List.set_cons_zero, List.set_cons_succ]
      refine wpAnyH_done (by kernel_rfl) ?_ _
      refine NoPanic.normal ?_
      have hb' := Lib.hid (hbd.out.trans (hbA.mono hbd.out.size))
      clear hbA
      go_wp2
      go_roundw
      case rel => exact ⟨k + 1, by omega, by go_num, hb'.out⟩
      case measure => simp [intOf]; omega
    · obtain rfl : k = n := by omega
      go_wp2
      go_ret
      exact ⟨rfl, hb⟩


theorem infoRowsI : (Try.prog.info? 23).map (fun i => (i.zero, i.size, i.bytes)) = some (some (.slice none 0 0), 1, 24) := by kernel_rfl
/-- rows of integers of the call's own -/
def NestI (w : World) (lo hi : Nat) (X : Option Addr) (n c : Nat) (XA : Nat → Option Addr) (RN RC : Nat → Nat) (RV : Nat → Nat → Int) : Prop := Nest w lo hi 23 3 1 X n c XA RN RC (fun i => cellsI (RV i) (RN i))
theorem toIntSS_any (A : Option Addr) (n c B : Nat) (RA : Nat → Option Addr) (RN RC : Nat → Nat) (RV : Nat → Nat → Int) (w : World) (hr : RdI w B A n RA RN RC RV) (hB : B ≤ w.heap.size) (hn : n ≤ 1048576) (hz : ∀ j, j < n → RN j ≤ 1048576) :
    Calls Try.prog 72 #[.slice A n c] w fun e w' => ∃ (X : Option Addr) (XA : Nat → Option Addr) (XC : Nat → Nat), e = .returned (.slice X n n) ∧ NestI w' w.heap.size w'.heap.size X n n XA RN XC RV ∧ Below w.heap.size w w' := by
  obtain ⟨iR, hi, hzz, hsz, hby⟩ := info_parts infoRowsI
  have HR := Lib.hid hr
  have HZ := Lib.hid hz
  clear hr hz
  go_enter Try.func72, Try.ntmps72
  go_wp2_with (refine wpList_make_full _ rfl _ _ 47 rfl w.heap.size 23 iR (.slice none 0 0) 1 Try.underlying47 hi hzz hsz .i64 .i64 n n n rfl rfl rfl rfl (by rw [hby]; omega) (by simp only [maxLen]; omega) (Nat.le_refl _) ?_)
  intro w1 hown hg
  have hown : w1.ownsRow w.heap.size 23 1 (.slice (some ⟨w.heap.size, 0, none⟩) n n) n (rowsAt (fun _ => none) RN (fun _ => 0) n 0) := by
    rw [rowsAt_zero, ← toList_madeCells_one]
    simpa using hown
  have hb1 : Below w.heap.size w w1 := (Below.refl _ _).grown hg (Nat.le_refl _) (fun g h => by cases h)
  clear hg hi hzz hsz hby
  go_wp2
  go_loopw [4] (fun u wr => ∃ (j : Nat) (XA : Nat → Option Addr) (XC : Nat → Nat), j ≤ n ∧ u = .int .i64 j ∧ wr.ownsRow w.heap.size 23 1 (.slice (some ⟨w.heap.size, 0, none⟩) n n) n (rowsAt XA RN XC n j) ∧ Rows wr w.heap.size wr.heap.size 3 1 (some ⟨w.heap.size, 0, none⟩) j XA RN XC (fun i => cellsI (RV i) (RN i)) ∧ Below w.heap.size w wr) (fun u _ => n - (intOf u).toNat)
  case atStart => exact ⟨0, _, _, Nat.zero_le _, rfl, hown, Rows.nil _ _ _ _ _ _ _ _ _ _, hb1⟩
  case round =>
    obtain ⟨j, XA, XC, hj, rfl, ho, hrw, hb⟩ := hrel
    by_cases hlt : j < n
    · obtain ⟨b, off, rfl, hbb, hc⟩ := HR.out.1 (by omega)
      have x0 := (hb.cell (p := ⟨b, off + j, none⟩) (by exact Nat.lt_of_lt_of_le hbb hB)).trans (hc j hlt)
      have q0 := (HR.out.2 j hlt).below' hb hB
      have hz := HZ.out j hlt
      have hgz := (ho.lt w.heap.size rfl).2
      have HST := Lib.hid (fun c A => rowsAt_set XA RN XC n j c A)
      have C := Lib.hid (toIntS_any (RA j) (RN j) (RC j) B (RV j) wr q0 (Nat.le_trans hB hb.size) hz)
      have HRW := Lib.hid (fun (w2 : World) (hb2 : Below wr.heap.size wr w2) (X : Option Addr) (ow : w2.ownsRow wr.heap.size 3 1 (.slice X (RN j) (RN j)) (RN j) (cellsI (RV j) (RN j))) => hrw.push hb2 ow hb.size (Nat.le_refl _) (fun g hg => by injection hg with hg; show g < _; rw [← hg]; exact hgz))
      clear hrw
      generalize hma : RA j = ma at x0 C
      generalize hmn : RN j = mn at x0 C HST hz HRW
      generalize hmc : RC j = mc at x0 C
      have HMN := Lib.hid hmn
      clear hma hmn hmc q0 hc
      go_wp2_with fail
      refine C.out.mono ?_
      rintro e w2 ⟨X, rfl, ow, hb2⟩
      have hrw := HRW.out w2 hb2 X ow
      have ho := own_below ho hb2
      have hb := hb.trans (hb2.mono hb.size)
      have hlow := hb2.size
      obtain ⟨⟨u0, y0⟩, f0⟩ := own_cell (i := j) ho (by omega) (by omega)
      have hst := (ho.stored j (.slice X mn mn)).1
      rw [HST.out mn X hlt] at hst
      have hrw2 := hrw.off (only_setCell (p := ⟨w.heap.size, j, none⟩) (World.grownBy.refl _ (some w.heap.size)) rfl (.slice X mn mn)) (fun i hi' g hg he => hrw.out i hi' g hg he)
      have hrw3 := hrw2.wide (hi' := (w2.setCell ⟨w.heap.size, j, none⟩ (.slice X mn mn)).heap.size) (by rw [size_setCell]; exact Nat.le_refl _)
      have HRW3 := Lib.hid hrw3
      have HSTT := Lib.hid hst
      clear hst ho hrw hrw2 hrw3 ow hb2 C HST HRW hlow
      go_wp2
      go_roundw
      case rel => exact ⟨j + 1, _, _, by omega, by go_num, HSTT.out, HRW3.out, hb.setCell (Nat.le_refl _) _⟩
      case measure => simp [intOf]; omega
    · obtain rfl : j = n := by omega
      have HO := Lib.hid ho
      have HRW := Lib.hid hrw
      clear ho hown hrw
      go_wp2
      go_ret
      refine ⟨_, XA, XC, rfl, ⟨?_, fun g hg => ?_, HRW.out⟩, hb⟩
      · have h := HO.out
        rwa [rowsAt_all] at h
      · exact (HO.out.lt g (by rw [ownBlock_blk]; exact hg)).2

theorem szLP_any (aR aBs aCs : Option Addr) (arn arc abn abc acn acc : Nat) (aRA : Nat → Option Addr) (aRN aRC : Nat → Nat) (aRV : Nat → Nat → Int) (B : Nat) (w : World) (arr : RdI w B aR arn aRA aRN aRC aRV) (hB : B ≤ w.heap.size) (left : Int) (hl0 : 0 ≤ left) (hl : left ≤ 1048576) (hn : (arn : Int) ≤ 9223372036854775807) (hz : ∀ j, j < arn → (aRN j : Int) ≤ 9223372036854775807) (hbn : (abn : Int) ≤ 9223372036854775807) (hcn : (acn : Int) ≤ 9223372036854775807) :
    Calls Try.prog 27 #[.agg #[.slice aR arn arc, .slice aBs abn abc, .slice aCs acn acc], .int .i64 left] w fun e w' => ∃ v : Int, e = .returned (.int .i64 v) ∧ (v = -1 ∨ (0 ≤ v ∧ v ≤ left ∧ (arn : Int) ≤ left ∧ (∀ j, j < arn → (aRN j : Int) ≤ left) ∧ (abn : Int) ≤ left ∧ (acn : Int) ≤ left)) ∧ Below w.heap.size w w' := by
  have HB := Lib.hid ((Below.refl w.heap.size w).alloc (Nat.le_refl _) (.cells #[.slice aR arn arc, .slice aBs abn abc, .slice aCs acn acc] 49))
  have SZ := Lib.hid (szIntSS_any aR arn arc B aRA aRN aRC aRV left (w.alloc (.cells #[.slice aR arn arc, .slice aBs abn abc, .slice aCs acn acc] 49)) (arr.below HB.out hB) hl0 hl hn hz)
  clear arr hz
  go_enter Try.func27, Try.ntmps27
  go_wp2_with fail
  refine SZ.out.mono ?_
  rintro e w1 ⟨v, rfl, rfl, rfl | ⟨v0, v1, v2, v3⟩⟩
  · go_wp2
    go_ret
    exact ⟨_, rfl, Or.inl rfl, HB.out⟩
  · have d1 := decide_eq_false (show ¬ v < 0 by omega)
    have V3 := Lib.hid v3
    clear v3
    by_cases h2 : 0 ≤ v - (abn : Int)
    · have d2 := decide_eq_false (show ¬ v - (abn : Int) < 0 by omega)
      go_wp2_with fail
      refine (szI_yes _ _ _ _ _ h2 (by omega)).mono ?_
      rintro e w1 ⟨rfl, rfl⟩
      by_cases h3 : 0 ≤ v - (abn : Int) - (acn : Int)
      · have d3 := decide_eq_false (show ¬ v - (abn : Int) - (acn : Int) < 0 by omega)
        go_wp2_with fail
        refine (szRatS_yes _ _ _ _ _ h3 (by omega)).mono ?_
        rintro e w1 ⟨rfl, rfl⟩
        go_wp2
        go_ret
        exact ⟨_, rfl, Or.inr ⟨h3, by omega, by omega, V3.out, by omega, by omega⟩, HB.out⟩
      · go_wp2_with fail
        refine (szRatS_no _ _ _ _ _ (by omega) h2 (by omega) hcn).mono ?_
        rintro e w1 ⟨rfl, rfl⟩
        go_wp2
        go_ret
        exact ⟨_, rfl, Or.inl rfl, HB.out⟩
    · go_wp2_with fail
      refine (szI_no _ _ _ _ _ (by omega) v0 (by omega) hbn).mono ?_
      rintro e w1 ⟨rfl, rfl⟩
      go_wp2
      go_ret
      exact ⟨_, rfl, Or.inl rfl, HB.out⟩

/-- an LP of the call's own: its parts in three spans -/
def OwnLP (w : World) (lo hi : Nat) (X : Option Addr) (n : Nat) (XA : Nat → Option Addr) (RN XC : Nat → Nat) (RV : Nat → Nat → Int) (Y : Option Addr) (m : Nat) (BV : Nat → Int) (Z : Option Addr) (k : Nat) (CV : Fr) : Prop :=
  ∃ m1 m2, lo ≤ m1 ∧ m1 ≤ m2 ∧ m2 ≤ hi ∧ hi ≤ w.heap.size ∧ NestI w lo m1 X n n XA RN XC RV ∧ (w.ownsRow m1 3 1 (.slice Y m m) m (cellsI BV m) ∧ ∀ g, blk Y = some g → g < m2) ∧ (w.ownsRow m2 66 2 (.slice Z k k) k (cellsV CV k) ∧ ∀ g, blk Z = some g → g < hi)
section
variable {w w' : World} {lo hi n m k : Nat} {X Y Z : Option Addr} {XA : Nat → Option Addr} {RN XC : Nat → Nat} {RV : Nat → Nat → Int} {BV : Nat → Int} {CV : Fr}
theorem OwnLP.below (h : OwnLP w lo hi X n XA RN XC RV Y m BV Z k CV) (hb : Below w.heap.size w w') : OwnLP w' lo hi X n XA RN XC RV Y m BV Z k CV := by
  obtain ⟨m1, m2, h1, h2, h3, h4, h5, h6, h7⟩ := h
  exact ⟨m1, m2, h1, h2, h3, Nat.le_trans h4 hb.size, Nest.below h5 hb, ⟨own_below h6.1 hb, h6.2⟩, ⟨own_below h7.1 hb, h7.2⟩⟩
theorem OwnLP.rds (h : OwnLP w lo hi X n XA RN XC RV Y m BV Z k CV) : RdI w hi X n XA RN XC RV ∧ Rd w hi 1 Y m (cellsI BV m) ∧ RdP w hi Z k CV := by
  obtain ⟨m1, m2, h1, h2, h3, h4, h5, h6, h7⟩ := h
  exact ⟨(Nest.rdI h5).more (by omega), (Rd.of_own_hi h6.1 h6.2).more h3, RdP.of_own_hi h7.1 h7.2⟩
theorem OwnLP.hi_le (h : OwnLP w lo hi X n XA RN XC RV Y m BV Z k CV) : hi ≤ w.heap.size := by
  obtain ⟨m1, m2, h1, h2, h3, h4, _⟩ := h
  exact h4
end

set_option maxRecDepth 20000 in
set_option maxHeartbeats 2000000 in
theorem toLP_any (aR aBs aCs : Option Addr) (arn arc abn abc acn acc : Nat) (aRA : Nat → Option Addr) (aRN aRC : Nat → Nat) (aRV : Nat → Nat → Int) (aBV : Nat → Int) (aCV : Fr) (B : Nat) (w : World) (arr : RdI w B aR arn aRA aRN aRC aRV) (abb : Rd w B 1 aBs abn (cellsI aBV abn)) (acr : RdP w B aCs acn aCV) (hB : B ≤ w.heap.size) (ha1 : arn ≤ 1048576) (ha2 : ∀ j, j < arn → aRN j ≤ 1048576) (ha3 : abn ≤ 1048576) (ha4 : acn ≤ 1048576) :
    Calls Try.prog 29 #[.agg #[.slice aR arn arc, .slice aBs abn abc, .slice aCs acn acc]] w fun e w' => ∃ (X : Option Addr) (XA : Nat → Option Addr) (XC : Nat → Nat) (Y Z : Option Addr) (hi : Nat), e = .returned (.agg #[.slice X arn arn, .slice Y abn abn, .slice Z acn acn]) ∧ OwnLP w' w.heap.size hi X arn XA aRN XC aRV Y abn aBV Z acn aCV ∧ Below w.heap.size w w' := by
  have B1 : Bx (((w.alloc (.cells #[.slice aR arn arc, .slice aBs abn abc, .slice aCs acn acc] 49)).alloc (.cells #[.slice none 0 0, .slice none 0 0, .slice none 0 0] 53)).alloc (.cells #[.slice none 0 0, .slice none 0 0, .slice none 0 0] 53)) w.heap.size [.slice aR arn arc, .slice aBs abn abc, .slice aCs acn acc] := ((Bx.new w #[.slice aR arn arc, .slice aBs abn abc, .slice aCs acn acc] 49).alloc _).alloc _
  have B2 : Bx (((w.alloc (.cells #[.slice aR arn arc, .slice aBs abn abc, .slice aCs acn acc] 49)).alloc (.cells #[.slice none 0 0, .slice none 0 0, .slice none 0 0] 53)).alloc (.cells #[.slice none 0 0, .slice none 0 0, .slice none 0 0] 53)) (w.heap.size + 1) [.slice none 0 0, .slice none 0 0, .slice none 0 0] := by
    have h := (Bx.new (w.alloc (.cells #[.slice aR arn arc, .slice aBs abn abc, .slice aCs acn acc] 49)) #[.slice none 0 0, .slice none 0 0, .slice none 0 0] 53).alloc (.cells #[.slice none 0 0, .slice none 0 0, .slice none 0 0] 53)
    simpa using h
  have B3 : Bx (((w.alloc (.cells #[.slice aR arn arc, .slice aBs abn abc, .slice aCs acn acc] 49)).alloc (.cells #[.slice none 0 0, .slice none 0 0, .slice none 0 0] 53)).alloc (.cells #[.slice none 0 0, .slice none 0 0, .slice none 0 0] 53)) (w.heap.size + 1 + 1) [.slice none 0 0, .slice none 0 0, .slice none 0 0] := by
    have h := Bx.new ((w.alloc (.cells #[.slice aR arn arc, .slice aBs abn abc, .slice aCs acn acc] 49)).alloc (.cells #[.slice none 0 0, .slice none 0 0, .slice none 0 0] 53)) #[.slice none 0 0, .slice none 0 0, .slice none 0 0] 53
    simpa using h
  have HB : Below w.heap.size w (((w.alloc (.cells #[.slice aR arn arc, .slice aBs abn abc, .slice aCs acn acc] 49)).alloc (.cells #[.slice none 0 0, .slice none 0 0, .slice none 0 0] 53)).alloc (.cells #[.slice none 0 0, .slice none 0 0, .slice none 0 0] 53)) := (((Below.refl _ _).alloc (Nat.le_refl _) _).alloc (by simp) _).alloc (by simp; omega) _
  have b1 := B3.1
  have C1 := Lib.hid (toIntSS_any aR arn arc B aRA aRN aRC aRV (((w.alloc (.cells #[.slice aR arn arc, .slice aBs abn abc, .slice aCs acn acc] 49)).alloc (.cells #[.slice none 0 0, .slice none 0 0, .slice none 0 0] 53)).alloc (.cells #[.slice none 0 0, .slice none 0 0, .slice none 0 0] 53)) (arr.below HB hB) (Nat.le_trans hB HB.size) ha1 ha2)
  clear arr
  have hW3 : w.heap.size + 1 + 1 < (((w.alloc (.cells #[.slice aR arn arc, .slice aBs abn abc, .slice aCs acn acc] 49)).alloc (.cells #[.slice none 0 0, .slice none 0 0, .slice none 0 0] 53)).alloc (.cells #[.slice none 0 0, .slice none 0 0, .slice none 0 0] 53)).heap.size := b1
  go_enter Try.func29, Try.ntmps29
  go_wp2_with fail
  refine C1.out.mono ?_
  rintro e w1 ⟨X, XA, XC, rfl, ow1, hb⟩
  have l1 := hb.size
  have B1 := B1.below hb
  have B2 := B2.below hb
  have B3 := B3.below hb
  have HB := HB.trans (hb.mono HB.size)
  obtain ⟨m1, hm1⟩ : ∃ m, m = w1.heap.size := ⟨_, rfl⟩
  have s_m1 : m1 ≤ w1.heap.size := Nat.le_of_eq hm1
  rw [← hm1] at ow1
  clear hb C1
  have x0 := B1.2.1 0 _ rfl
  have x1 := B1.2.1 1 _ rfl
  have x2 := B1.2.1 2 _ rfl
  have xz := B1.1
  have z0 := B3.2.1 0 _ rfl
  have z1 := B3.2.1 1 _ rfl
  have z2 := B3.2.1 2 _ rfl
  have zz := B3.1
  have zf := B3.2.2
  have l1 : w.heap.size + 1 + 1 < m1 := by omega
  have B1 := B1.other (b := (w.heap.size + 1 + 1)) (k := 0) (by omega) (.slice X arn arn)
  have B2 := B2.other (b := (w.heap.size + 1 + 1)) (k := 0) (by omega) (.slice X arn arn)
  have B3 := B3.set (k := 0) (by simp) (.slice X arn arn)
  have ow1 := Nest.set ow1 (a := ⟨(w.heap.size + 1 + 1), 0, none⟩) (by show (w.heap.size + 1 + 1) < _; omega) (.slice X arn arn)
  have s_m1 := Nat.le_trans s_m1 (Nat.le_of_eq (size_setCell _ ⟨(w.heap.size + 1 + 1), 0, none⟩ (.slice X arn arn)).symm)
  have HB := HB.setCell (p := ⟨(w.heap.size + 1 + 1), 0, none⟩) (by show w.heap.size ≤ (w.heap.size + 1 + 1); omega) (.slice X arn arn)
  have b2 := B3.1
  have OW := Lib.hid ow1
  clear ow1
  go_wp2_with fail
  refine (toIntS_any _ _ _ _ aBV _ (abb.below' HB hB) (Nat.le_trans hB HB.size) ha3).mono ?_
  rintro e w2 ⟨Y, rfl, ow2, hb⟩
  have ow1 := OW.out
  have ow2 := own_low ow2 s_m1
  have l2 := Nat.le_trans s_m1 hb.size
  have B1 := B1.below hb
  have B2 := B2.below hb
  have B3 := B3.below hb
  have ow1 := Nest.below ow1 hb
  have s_m1 := Nat.le_trans s_m1 hb.size
  have HB := HB.trans (hb.mono HB.size)
  obtain ⟨m2, hm2⟩ : ∃ m, m = w2.heap.size := ⟨_, rfl⟩
  have s_m2 : m2 ≤ w2.heap.size := Nat.le_of_eq hm2
  have bY := fun g hg => (ow2.lt g hg).2
  rw [← hm2] at bY l2
  clear hb OW
  have x0 := B1.2.1 0 _ rfl
  have x1 := B1.2.1 1 _ rfl
  have x2 := B1.2.1 2 _ rfl
  have xz := B1.1
  have z0 := B3.2.1 0 _ rfl
  have z1 := B3.2.1 1 _ rfl
  have z2 := B3.2.1 2 _ rfl
  have zz := B3.1
  have zf := B3.2.2
  have B1 := B1.other (b := (w.heap.size + 1 + 1)) (k := 1) (by omega) (.slice Y abn abn)
  have B2 := B2.other (b := (w.heap.size + 1 + 1)) (k := 1) (by omega) (.slice Y abn abn)
  have B3 := B3.set (k := 1) (by simp) (.slice Y abn abn)
  have ow1 := Nest.set ow1 (a := ⟨(w.heap.size + 1 + 1), 1, none⟩) (by show (w.heap.size + 1 + 1) < _; omega) (.slice Y abn abn)
  have s_m1 := Nat.le_trans s_m1 (Nat.le_of_eq (size_setCell _ ⟨(w.heap.size + 1 + 1), 1, none⟩ (.slice Y abn abn)).symm)
  have ow2 := ownsRow_setCell_below ow2 (a := ⟨(w.heap.size + 1 + 1), 1, none⟩) (by show (w.heap.size + 1 + 1) < _; omega) (.slice Y abn abn)
  have s_m2 := Nat.le_trans s_m2 (Nat.le_of_eq (size_setCell _ ⟨(w.heap.size + 1 + 1), 1, none⟩ (.slice Y abn abn)).symm)
  have HB := HB.setCell (p := ⟨(w.heap.size + 1 + 1), 1, none⟩) (by show w.heap.size ≤ (w.heap.size + 1 + 1); omega) (.slice Y abn abn)
  have b3 := B3.1
  have OW := Lib.hid ow1
  have OW2 := Lib.hid ow2
  have BY := Lib.hid bY
  clear ow1 ow2 bY
  go_wp2_with fail
  refine (toRatS_any _ _ _ _ aCV _ (acr.below HB hB) (Nat.le_trans hB HB.size) ha4).mono ?_
  rintro e w3 ⟨Z, rfl, ow3, hb⟩
  have ow1 := OW.out
  have ow2 := OW2.out
  have ow3 := own_low ow3 s_m2
  have l3 := Nat.le_trans s_m2 hb.size
  have B1 := B1.below hb
  have B2 := B2.below hb
  have B3 := B3.below hb
  have ow1 := Nest.below ow1 hb
  have s_m1 := Nat.le_trans s_m1 hb.size
  have ow2 := own_below ow2 hb
  have s_m2 := Nat.le_trans s_m2 hb.size
  have HB := HB.trans (hb.mono HB.size)
  obtain ⟨m3, hm3⟩ : ∃ m, m = w3.heap.size := ⟨_, rfl⟩
  have s_m3 : m3 ≤ w3.heap.size := Nat.le_of_eq hm3
  have bZ := fun g hg => (ow3.lt g hg).2
  rw [← hm3] at bZ l3
  have BZ := Lib.hid bZ
  clear hb OW OW2 bZ
  have x0 := B1.2.1 0 _ rfl
  have x1 := B1.2.1 1 _ rfl
  have x2 := B1.2.1 2 _ rfl
  have xz := B1.1
  have z0 := B3.2.1 0 _ rfl
  have z1 := B3.2.1 1 _ rfl
  have z2 := B3.2.1 2 _ rfl
  have zz := B3.1
  have zf := B3.2.2
  have y0 := B2.2.1 0 _ rfl
  have y1 := B2.2.1 1 _ rfl
  have y2 := B2.2.1 2 _ rfl
  have yz := B2.1
  have yf := B2.2.2
  have B1 := B1.other (b := (w.heap.size + 1 + 1)) (k := 2) (by omega) (.slice Z acn acn)
  have B2 := B2.other (b := (w.heap.size + 1 + 1)) (k := 2) (by omega) (.slice Z acn acn)
  have B3 := B3.set (k := 2) (by simp) (.slice Z acn acn)
  have ow1 := Nest.set ow1 (a := ⟨(w.heap.size + 1 + 1), 2, none⟩) (by show (w.heap.size + 1 + 1) < _; omega) (.slice Z acn acn)
  have s_m1 := Nat.le_trans s_m1 (Nat.le_of_eq (size_setCell _ ⟨(w.heap.size + 1 + 1), 2, none⟩ (.slice Z acn acn)).symm)
  have ow2 := ownsRow_setCell_below ow2 (a := ⟨(w.heap.size + 1 + 1), 2, none⟩) (by show (w.heap.size + 1 + 1) < _; omega) (.slice Z acn acn)
  have s_m2 := Nat.le_trans s_m2 (Nat.le_of_eq (size_setCell _ ⟨(w.heap.size + 1 + 1), 2, none⟩ (.slice Z acn acn)).symm)
  have ow3 := ownsRow_setCell_below ow3 (a := ⟨(w.heap.size + 1 + 1), 2, none⟩) (by show (w.heap.size + 1 + 1) < _; omega) (.slice Z acn acn)
  have s_m3 := Nat.le_trans s_m3 (Nat.le_of_eq (size_setCell _ ⟨(w.heap.size + 1 + 1), 2, none⟩ (.slice Z acn acn)).symm)
  have HB := HB.setCell (p := ⟨(w.heap.size + 1 + 1), 2, none⟩) (by show w.heap.size ≤ (w.heap.size + 1 + 1); omega) (.slice Z acn acn)
  have B1 := B1.other (b := (w.heap.size + 1)) (k := 0) (by omega) (.slice X arn arn)
  have B3 := B3.other (b := (w.heap.size + 1)) (k := 0) (by omega) (.slice X arn arn)
  have B2 := B2.set (k := 0) (by simp) (.slice X arn arn)
  have ow1 := Nest.set ow1 (a := ⟨(w.heap.size + 1), 0, none⟩) (by show (w.heap.size + 1) < _; omega) (.slice X arn arn)
  have s_m1 := Nat.le_trans s_m1 (Nat.le_of_eq (size_setCell _ ⟨(w.heap.size + 1), 0, none⟩ (.slice X arn arn)).symm)
  have ow2 := ownsRow_setCell_below ow2 (a := ⟨(w.heap.size + 1), 0, none⟩) (by show (w.heap.size + 1) < _; omega) (.slice X arn arn)
  have s_m2 := Nat.le_trans s_m2 (Nat.le_of_eq (size_setCell _ ⟨(w.heap.size + 1), 0, none⟩ (.slice X arn arn)).symm)
  have ow3 := ownsRow_setCell_below ow3 (a := ⟨(w.heap.size + 1), 0, none⟩) (by show (w.heap.size + 1) < _; omega) (.slice X arn arn)
  have s_m3 := Nat.le_trans s_m3 (Nat.le_of_eq (size_setCell _ ⟨(w.heap.size + 1), 0, none⟩ (.slice X arn arn)).symm)
  have HB := HB.setCell (p := ⟨(w.heap.size + 1), 0, none⟩) (by show w.heap.size ≤ (w.heap.size + 1); omega) (.slice X arn arn)
  have B1 := B1.other (b := (w.heap.size + 1)) (k := 1) (by omega) (.slice Y abn abn)
  have B3 := B3.other (b := (w.heap.size + 1)) (k := 1) (by omega) (.slice Y abn abn)
  have B2 := B2.set (k := 1) (by simp) (.slice Y abn abn)
  have ow1 := Nest.set ow1 (a := ⟨(w.heap.size + 1), 1, none⟩) (by show (w.heap.size + 1) < _; omega) (.slice Y abn abn)
  have s_m1 := Nat.le_trans s_m1 (Nat.le_of_eq (size_setCell _ ⟨(w.heap.size + 1), 1, none⟩ (.slice Y abn abn)).symm)
  have ow2 := ownsRow_setCell_below ow2 (a := ⟨(w.heap.size + 1), 1, none⟩) (by show (w.heap.size + 1) < _; omega) (.slice Y abn abn)
  have s_m2 := Nat.le_trans s_m2 (Nat.le_of_eq (size_setCell _ ⟨(w.heap.size + 1), 1, none⟩ (.slice Y abn abn)).symm)
  have ow3 := ownsRow_setCell_below ow3 (a := ⟨(w.heap.size + 1), 1, none⟩) (by show (w.heap.size + 1) < _; omega) (.slice Y abn abn)
  have s_m3 := Nat.le_trans s_m3 (Nat.le_of_eq (size_setCell _ ⟨(w.heap.size + 1), 1, none⟩ (.slice Y abn abn)).symm)
  have HB := HB.setCell (p := ⟨(w.heap.size + 1), 1, none⟩) (by show w.heap.size ≤ (w.heap.size + 1); omega) (.slice Y abn abn)
  have B1 := B1.other (b := (w.heap.size + 1)) (k := 2) (by omega) (.slice Z acn acn)
  have B3 := B3.other (b := (w.heap.size + 1)) (k := 2) (by omega) (.slice Z acn acn)
  have B2 := B2.set (k := 2) (by simp) (.slice Z acn acn)
  have ow1 := Nest.set ow1 (a := ⟨(w.heap.size + 1), 2, none⟩) (by show (w.heap.size + 1) < _; omega) (.slice Z acn acn)
  have s_m1 := Nat.le_trans s_m1 (Nat.le_of_eq (size_setCell _ ⟨(w.heap.size + 1), 2, none⟩ (.slice Z acn acn)).symm)
  have ow2 := ownsRow_setCell_below ow2 (a := ⟨(w.heap.size + 1), 2, none⟩) (by show (w.heap.size + 1) < _; omega) (.slice Z acn acn)
  have s_m2 := Nat.le_trans s_m2 (Nat.le_of_eq (size_setCell _ ⟨(w.heap.size + 1), 2, none⟩ (.slice Z acn acn)).symm)
  have ow3 := ownsRow_setCell_below ow3 (a := ⟨(w.heap.size + 1), 2, none⟩) (by show (w.heap.size + 1) < _; omega) (.slice Z acn acn)
  have s_m3 := Nat.le_trans s_m3 (Nat.le_of_eq (size_setCell _ ⟨(w.heap.size + 1), 2, none⟩ (.slice Z acn acn)).symm)
  have HB := HB.setCell (p := ⟨(w.heap.size + 1), 2, none⟩) (by show w.heap.size ≤ (w.heap.size + 1); omega) (.slice Z acn acn)
  have f0 := B2.2.1 0 _ rfl
  have f1 := B2.2.1 1 _ rfl
  have f2 := B2.2.1 2 _ rfl
  have O := Lib.hid (show OwnLP _ w.heap.size m3 X arn XA aRN XC aRV Y abn aBV Z acn aCV from ⟨m1, m2, by omega, l2, l3, s_m3, Nest.low ow1 (by omega), ⟨ow2, fun g hg => BY.out g (by rw [ownBlock_blk]; exact hg)⟩, ⟨ow3, fun g hg => BZ.out g (by rw [ownBlock_blk]; exact hg)⟩⟩)
  have HBB := Lib.hid HB
  clear ow1 ow2 ow3 HB B1 B2 B3 s_m1 s_m2 hm1 hm2 hm3 BY BZ
  have HM := Lib.hid s_m3
  clear s_m3
  go_wp2
  refine bodyPost_ret (v := .agg #[.slice X arn arn, .slice Y abn abn, .slice Z acn acn]) (by simp [results, Try.results29, go_sem, f0, f1, f2]) rfl ⟨X, XA, XC, Y, Z, _, rfl, O.out, HBB.out⟩

theorem eqLP_same (aR aBs aCs : Option Addr) (arn arc abn abc acn acc : Nat) (aRA : Nat → Option Addr) (aRN aRC : Nat → Nat) (aRV : Nat → Nat → Int) (aBV : Nat → Int) (aCV : Fr) (bR bBs bCs : Option Addr) (brc bbc bcc : Nat) (bRA : Nat → Option Addr) (bRC : Nat → Nat) (B : Nat) (w : World) (arr : RdI w B aR arn aRA aRN aRC aRV) (abb : Rd w B 1 aBs abn (cellsI aBV abn)) (acr : RdP w B aCs acn aCV) (brr : RdI w B bR arn bRA aRN bRC aRV) (bbb : Rd w B 1 bBs abn (cellsI aBV abn)) (bcr : RdP w B bCs acn aCV) (hB : B ≤ w.heap.size) (ha1 : arn ≤ 1048576) (ha2 : ∀ j, j < arn → aRN j ≤ 1048576) (ha3 : abn ≤ 1048576) (ha4 : acn ≤ 1048576) :
    Calls Try.prog 31 #[.agg #[.slice aR arn arc, .slice aBs abn abc, .slice aCs acn acc], .agg #[.slice bR arn brc, .slice bBs abn bbc, .slice bCs acn bcc]] w fun e w' => e = .returned (.bool true) ∧ Below w.heap.size w w' := by
  have BA : Bx ((w.alloc (.cells #[.slice aR arn arc, .slice aBs abn abc, .slice aCs acn acc] 53)).alloc (.cells #[.slice bR arn brc, .slice bBs abn bbc, .slice bCs acn bcc] 53)) w.heap.size [.slice aR arn arc, .slice aBs abn abc, .slice aCs acn acc] := (Bx.new w #[.slice aR arn arc, .slice aBs abn abc, .slice aCs acn acc] 53).alloc _
  have BB : Bx ((w.alloc (.cells #[.slice aR arn arc, .slice aBs abn abc, .slice aCs acn acc] 53)).alloc (.cells #[.slice bR arn brc, .slice bBs abn bbc, .slice bCs acn bcc] 53)) (w.heap.size + 1) [.slice bR arn brc, .slice bBs abn bbc, .slice bCs acn bcc] := by
    have h := Bx.new (w.alloc (.cells #[.slice aR arn arc, .slice aBs abn abc, .slice aCs acn acc] 53)) #[.slice bR arn brc, .slice bBs abn bbc, .slice bCs acn bcc] 53
    simpa using h
  have HB : Below w.heap.size w ((w.alloc (.cells #[.slice aR arn arc, .slice aBs abn abc, .slice aCs acn acc] 53)).alloc (.cells #[.slice bR arn brc, .slice bBs abn bbc, .slice bCs acn bcc] 53)) := ((Below.refl _ _).alloc (Nat.le_refl _) _).alloc (by simp) _
  have C1 := Lib.hid (eqIntSS_same aR bR arn arc brc B aRA bRA aRN aRC bRC aRV ((w.alloc (.cells #[.slice aR arn arc, .slice aBs abn abc, .slice aCs acn acc] 53)).alloc (.cells #[.slice bR arn brc, .slice bBs abn bbc, .slice bCs acn bcc] 53)) (arr.below HB hB) (brr.below HB hB) (Nat.le_trans hB HB.size) ha1 ha2)
  clear arr brr
  go_enter Try.func31, Try.ntmps31
  go_wp2_with fail
  refine C1.out.mono ?_
  rintro e w1 ⟨rfl, hb⟩
  have BA := BA.below hb
  have BB := BB.below hb
  have HB := HB.trans (hb.mono HB.size)
  clear hb
  have x0 := BA.2.1 0 _ rfl
  have x1 := BA.2.1 1 _ rfl
  have x2 := BA.2.1 2 _ rfl
  have xz := BA.1
  have y0 := BB.2.1 0 _ rfl
  have y1 := BB.2.1 1 _ rfl
  have y2 := BB.2.1 2 _ rfl
  have yz := BB.1
  clear C1
  go_wp2_with fail
  refine (eqIntI_same _ _ _ _ _ B aBV _ (abb.below' HB hB) (bbb.below' HB hB) (Nat.le_trans hB HB.size) (by omega)).mono ?_
  rintro e w2 ⟨rfl, hb⟩
  have BA := BA.below hb
  have BB := BB.below hb
  have HB := HB.trans (hb.mono HB.size)
  clear hb
  have x0 := BA.2.1 0 _ rfl
  have x1 := BA.2.1 1 _ rfl
  have x2 := BA.2.1 2 _ rfl
  have xz := BA.1
  have y0 := BB.2.1 0 _ rfl
  have y1 := BB.2.1 1 _ rfl
  have y2 := BB.2.1 2 _ rfl
  have yz := BB.1
  go_wp2_with fail
  refine (eqRatS_same _ _ _ _ _ B aCV _ (acr.below HB hB) (bcr.below HB hB) (Nat.le_trans hB HB.size) (by omega)).mono ?_
  rintro e w3 ⟨rfl, hb⟩
  have BA := BA.below hb
  have BB := BB.below hb
  have HB := HB.trans (hb.mono HB.size)
  clear hb
  have x0 := BA.2.1 0 _ rfl
  have x1 := BA.2.1 1 _ rfl
  have x2 := BA.2.1 2 _ rfl
  have xz := BA.1
  have y0 := BB.2.1 0 _ rfl
  have y1 := BB.2.1 1 _ rfl
  have y2 := BB.2.1 2 _ rfl
  have yz := BB.1
  go_wp2
  go_ret
  exact ⟨rfl, HB⟩

theorem markIntSS_own (X : Option Addr) (n c lo hi : Nat) (XA : Nat → Option Addr) (RN RC : Nat → Nat) (RV : Nat → Nat → Int) (k : Int) (w : World) (hN : NestI w lo hi X n c XA RN RC RV) (hn : n ≤ 1048576) (hz : ∀ j, j < n → RN j ≤ 1048576) (k0 : 0 ≤ k) (k1 : k ≤ 1099511627776) :
    Calls Try.prog 75 #[.slice X n c, .int .i64 k] w fun e w' => e = .returned (.int .i64 (k + sumN RN n)) ∧ Only w w' lo hi := by
  have HZ := Lib.hid hz
  have HN := Lib.hid hN
  have SZ := Lib.hid (fun i (hi : i ≤ n) => sumN_le (RN := RN) (n := i) (m := 1048576) (fun j hj => hz j (by omega)))
  clear hz hN
  go_enter Try.func75, Try.ntmps75
  go_wp2
  go_loopw [1, 5] (fun q u wr => ∃ (j : Nat) (RX : Nat → List Value), j ≤ n ∧ u = .int .i64 j ∧ q = .int .i64 (k + sumN RN j) ∧ Nest wr lo hi 23 3 1 X n c XA RN RC RX ∧ Only w wr lo hi) (fun _ u _ => n - (intOf u).toNat)
  case atStart => exact ⟨0, _, Nat.zero_le _, rfl, by simp [sumN], HN.out, Only.refl _ _ _⟩
  case round =>
    obtain ⟨j, RX, hj, rfl, rfl, hN, ho⟩ := hrel
    by_cases hlt : j < n
    · obtain ⟨b, rfl, hbs, _, hc⟩ := hN.cells (by omega)
      have x0 := hc j hlt
      rw [Nat.zero_add] at x0
      have sz := SZ.out j hj
      have hzj := HZ.out j hlt
      have hrow := hN.rows.own j hlt
      have HM := Lib.hid (fun (w' : World) (x : List Value) hg h => hN.mark (w' := w') (x := x) hlt hg h)
      have HO := Lib.hid (fun (w' : World) (hg : wr.grownBy w' (blk (XA j))) => ho.trans (Only.of_grown hg (hN.span hlt)))
      have HS : sumN RN (j + 1) = sumN RN j + RN j := rfl
      have C := Lib.hid (markIntS_own (XA j) (RN j) (RC j) lo (k + sumN RN j) (RX j) wr hrow (by omega) (by omega) (by omega))
      rw [ownBlock_blk] at C
      clear hrow hc hzj
      generalize RN j = mn at x0 C HS HM
      generalize RC j = mc at x0 C HM
      generalize XA j = ma at x0 C HO HM
      have HSS := Lib.hid HS
      clear HS
      generalize sumN RN j = sj at C HSS sz
      go_wp2_with fail
      refine C.out.mono ?_
      rintro e w2 ⟨rfl, ow, hg⟩
      have HN2 := Lib.hid (HM.out w2 _ hg ow)
      have HO2 := Lib.hid (HO.out w2 hg)
      clear hg ow hN ho HM HO C
      go_wp2
      go_roundw
      case rel => exact ⟨j + 1, _, by omega, by go_num, by rw [HSS.out]; go_num, HN2.out, HO2.out⟩
      case measure => simp [intOf]; omega
    · obtain rfl : j = n := by omega
      go_wp2
      go_ret
      exact ⟨rfl, ho⟩

theorem markLP_own (X : Option Addr) (XA : Nat → Option Addr) (XC : Nat → Nat) (Y Z : Option Addr) (arn abn acn lo hi : Nat) (aRN : Nat → Nat) (aRV : Nat → Nat → Int) (aBV : Nat → Int) (aCV : Fr) (k : Int) (w : World) (hO : OwnLP w lo hi X arn XA aRN XC aRV Y abn aBV Z acn aCV) (ha1 : arn ≤ 1048576) (ha2 : ∀ j, j < arn → aRN j ≤ 1048576) (ha3 : abn ≤ 1048576) (ha4 : acn ≤ 1048576) (k0 : 0 ≤ k) (k1 : k ≤ 1048576) :
    Calls Try.prog 32 #[.agg #[.slice X arn arn, .slice Y abn abn, .slice Z acn acn], .int .i64 k] w fun e w' => ∃ v : Int, e = .returned (.int .i64 v) ∧ 0 ≤ v ∧ Only w w' lo hi := by
  have BA : Bx (w.alloc (.cells #[.slice X arn arn, .slice Y abn abn, .slice Z acn acn] 53)) w.heap.size [.slice X arn arn, .slice Y abn abn, .slice Z acn acn] := Bx.new w #[.slice X arn arn, .slice Y abn abn, .slice Z acn acn] 53
  have HB : Below w.heap.size w (w.alloc (.cells #[.slice X arn arn, .slice Y abn abn, .slice Z acn acn] 53)) := (Below.refl _ _).alloc (Nat.le_refl _) _
  obtain ⟨m1, m2, l1, l2, l3, l4, n1, n2, n3⟩ := hO.below HB
  have O0 := Lib.hid (Only.of_below (lo := lo) (hi := hi) HB)
  have hhi := hO.hi_le
  have SZ := sumN_le (RN := aRN) (n := arn) (m := 1048576) ha2
  have SZ2 : arn * 1048576 ≤ 1048576 * 1048576 := Nat.mul_le_mul_right _ ha1
  have C1 := Lib.hid (markIntSS_own X arn arn lo m1 XA aRN XC aRV k (w.alloc (.cells #[.slice X arn arn, .slice Y abn abn, .slice Z acn acn] 53)) n1 ha1 ha2 k0 (by omega))
  clear n1 ha2 hO
  obtain ⟨sm, hsm⟩ : ∃ sm, sm = sumN aRN arn := ⟨_, rfl⟩
  rw [← hsm] at C1 SZ
  clear hsm
  have N2 := Lib.hid n2
  have N3 := Lib.hid n3
  clear n2 n3 HB
  go_enter Try.func32, Try.ntmps32
  have x0 := BA.2.1 0 _ rfl
  have x1 := BA.2.1 1 _ rfl
  have x2 := BA.2.1 2 _ rfl
  have xz := BA.1
  go_wp2_with fail
  refine C1.out.mono ?_
  rintro e w1 ⟨rfl, o1⟩
  have BA := BA.only o1 (by omega)
  have N2 := Lib.hid (And.intro (own_only N2.out.1 o1 (fun g hg => Or.inr (N2.out.1.lt g hg).1)) N2.out.2)
  have N3 := Lib.hid (And.intro (own_only N3.out.1 o1 (fun g hg => Or.inr (Nat.le_trans l2 (N3.out.1.lt g hg).1))) N3.out.2)
  have O1 := Lib.hid (O0.out.trans (o1.wider (Nat.le_refl _) (by omega)))
  clear o1 C1 O0
  have x0 := BA.2.1 0 _ rfl
  have x1 := BA.2.1 1 _ rfl
  have x2 := BA.2.1 2 _ rfl
  have xz := BA.1
  go_wp2_with fail
  refine (markIntS_own Y abn abn m1 _ _ _ N2.out.1 (by omega) (by omega) (by omega)).mono ?_
  rintro e w2 ⟨rfl, ow, hg⟩
  have o2 := Only.of_grown (lo := m1) (hi := m2) hg (fun g h => ⟨(ow.lt g h).1, N2.out.2 g (by rwa [ownBlock_blk] at h)⟩)
  have BA := BA.only o2 (by omega)
  have N3 := Lib.hid (And.intro (own_only N3.out.1 o2 (fun g hg => Or.inr (N3.out.1.lt g hg).1)) N3.out.2)
  have O2 := Lib.hid (O1.out.trans (o2.wider (by omega) (by omega)))
  clear o2 O1 ow hg
  have x0 := BA.2.1 0 _ rfl
  have x1 := BA.2.1 1 _ rfl
  have x2 := BA.2.1 2 _ rfl
  have xz := BA.1
  go_wp2_with fail
  refine (markRatS_own Z acn acn m2 _ _ _ N3.out.1 (by omega) (by omega) (by omega)).mono ?_
  rintro e w3 ⟨rfl, ow, hg⟩
  have o3 := Only.of_grown (lo := m2) (hi := hi) hg (fun g h => ⟨(ow.lt g h).1, N3.out.2 g (by rwa [ownBlock_blk] at h)⟩)
  have O3 := Lib.hid (O2.out.trans (o3.wider (by omega) (Nat.le_refl _)))
  clear o3 O2 ow hg
  go_wp2
  go_ret
  exact ⟨_, rfl, by omega, O3.out⟩

end Go.Proofs.Ytajafmdeencohaa
