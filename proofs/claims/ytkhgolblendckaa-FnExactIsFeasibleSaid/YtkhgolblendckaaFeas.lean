/-
  Contracts of IsFeasible, of the program and of the reference.
-/
import Derived.Test.YtkhgolblendckaaLpValid
import Derived.Test.YtkhgolblendckaaDot
namespace Go.Proofs.Ytkhgolblendckaa
open Go.RowKit
attribute [local go_sem ↓] Go.wp_at_zero Go.wp_at_succ

namespace Pl
def pos (V : Fr) (j : Nat) : Bool := valid (V j).1 (V j).2 && !decide ((V j).1 < 0)
/-- row i of A, times x, is b_i -/
def gq (RN : Nat → Nat) (RV : Nat → Nat → Int) (BV : Nat → Int) (xn : Nat) (XV : Fr) (i : Nat) : Bool :=
  (dot (RN i) (unitV (RV i)) xn XV).2.2 && ((dot (RN i) (unitV (RV i)) xn XV).1 == BV i && (dot (RN i) (unitV (RV i)) xn XV).2.1 == 1)
def feas (acn arn : Nat) (aRN : Nat → Nat) (aRV : Nat → Nat → Int) (abn : Nat) (aBV : Nat → Int) (aCV : Fr) (xn : Nat) (XV : Fr) : Bool :=
  validLP acn arn aRN aRV abn aBV aCV && (xn == acn) && allB (pos XV) xn && allB (gq aRN aRV aBV xn XV) arn
theorem allIn_of_small {V : Nat → Int} {n : Nat} (h : allB (fun j => within (V j) (-5000) 5000) n = true) : allIn V n = true := by
  have H := allB_at h
  clear h
  induction n with
  | zero => rfl
  | succ n ih =>
    have h2 := H n (Nat.lt_succ_self _)
    simp only [within_iff] at h2
    exact allIn_yes (ih (fun j hj => H j (by omega))) (within_yes (by omega) (by omega))
theorem validLP_facts {acn arn : Nat} {aRN : Nat → Nat} {aRV : Nat → Nat → Int} {abn : Nat} {aBV : Nat → Int} {aCV : Fr} (h : validLP acn arn aRN aRV abn aBV aCV = true) :
    acn ≤ 70 ∧ arn ≤ 8 ∧ abn = arn ∧ (∀ i, i < arn → aRN i = acn ∧ ∀ j, j < acn → -5000 ≤ aRV i j ∧ aRV i j ≤ 5000) ∧ ∀ j, j < abn → -5000 ≤ aBV j ∧ aBV j ≤ 5000 := by
  simp only [validLP, Bool.and_eq_true, decide_eq_true_eq, beq_iff_eq] at h
  obtain ⟨⟨⟨⟨⟨h1, h2⟩, h3⟩, h4⟩, h5⟩, h6⟩ := h
  refine ⟨h1, h2, h3, fun i hi => ?_, fun j hj => within_iff.1 (allB_at h4 j hj)⟩
  have := allB_at h6 i hi
  simp only [Bool.and_eq_true, beq_iff_eq] at this
  exact ⟨this.1, fun j hj => within_iff.1 (allB_at this.2 j (by omega))⟩
theorem validLP_rows {acn arn : Nat} {aRN : Nat → Nat} {aRV : Nat → Nat → Int} {abn : Nat} {aBV : Nat → Int} {aCV : Fr} (h : validLP acn arn aRN aRV abn aBV aCV = true) :
    ∀ i, i < arn → allIn (aRV i) (aRN i) = true := by
  intro i hi
  simp only [validLP, Bool.and_eq_true] at h
  have := allB_at h.2 i hi
  simp only [Bool.and_eq_true] at this
  exact allIn_of_small this.2
end Pl

theorem l5Dot_any (A1 A2 : Option Addr) (n1 n2 c1 c2 B : Nat) (V1 : Nat → Int) (V2 : Fr) (w : World) (h1 : Rd w B 1 A1 n1 (cellsI V1 n1)) (h2 : RdP w B A2 n2 V2) (hB : B ≤ w.heap.size) (hn1 : n1 ≤ 1048576) (hn2 : n2 ≤ 1048576) (ha : Pl.allIn V1 n1 = true) :
    Calls Try.prog 80 #[.slice A1 n1 c1, .slice A2 n2 c2] w fun e w' => ∃ a b : Int, e = .returned (.tuple #[.agg #[.int .i64 a, .int .i64 b], .bool (Pl.dot n1 (unitV V1) n2 V2).2.2]) ∧ ((Pl.dot n1 (unitV V1) n2 V2).2.2 = true → a = (Pl.dot n1 (unitV V1) n2 V2).1 ∧ b = (Pl.dot n1 (unitV V1) n2 V2).2.1) ∧ Below w.heap.size w w' := by
  have B4 : Bx (w.alloc (.cells #[.int .i64 0, .int .i64 0] 44)) w.heap.size [.int .i64 0, .int .i64 0] := Bx.new w #[.int .i64 0, .int .i64 0] 44
  have HB : Below w.heap.size w (w.alloc (.cells #[.int .i64 0, .int .i64 0] 44)) := (Below.refl _ _).alloc (Nat.le_refl _) _
  have C1 := Lib.hid (sI2R_any A1 n1 c1 B V1 (w.alloc (.cells #[.int .i64 0, .int .i64 0] 44)) (h1.below' HB hB) (Nat.le_trans hB HB.size) hn1)
  have C2 := Lib.hid (fun wx (HX : Below w.heap.size w wx) X c (r : RdP wx wx.heap.size X n1 (unitV V1)) => sDot_any X A2 n1 n2 c c2 wx.heap.size (unitV V1) V2 wx r ((h2.below HX hB).more (Nat.le_trans hB HX.size)) (Nat.le_refl _) (by omega) (by omega))
  clear h1 h2
  generalize Pl.dot n1 (unitV V1) n2 V2 = dd at C2 ⊢
  obtain ⟨px, py, pk⟩ := dd
  dsimp only at C2 ⊢
  go_enter Try.func80, Try.ntmps80
  go_wp2_with fail
  refine C1.out.mono ?_
  rintro e w1 ⟨v, rfl, ow, hb⟩
  simp only [ha, if_true] at ow ⊢
  obtain ⟨X, c, rfl⟩ := own_form ow
  have r := RdP.of_own ow
  have B4 := B4.below hb
  have HB := HB.trans (hb.mono HB.size)
  have C3 := Lib.hid (C2.out w1 HB X c r)
  clear hb ow C1 C2 ha r
  go_wp2_with fail
  refine C3.out.mono ?_
  rintro e w2 ⟨rfl, hb⟩
  have B4 := B4.below hb
  have HB := HB.trans (hb.mono HB.size)
  clear hb C3
  have B8 := Bx.new w2 #[.int .i64 px, .int .i64 py] 44
  have B4 := B4.alloc (.cells #[.int .i64 px, .int .i64 py] 44)
  have f0 := B4.2.2
  have z4 := B4.1
  have x0 := B4.2.1 0 _ rfl
  have x1 := B4.2.1 1 _ rfl
  have y0 := B8.2.1 0 _ rfl
  have y1 := B8.2.1 1 _ rfl
  have HB := HB.alloc HB.size (.cells #[.int .i64 px, .int .i64 py] 44)
  cases pk
  · have HS0 := B4.set (k := 0) (by simp) (.int .i64 0)
    have HS1 := HS0.set (k := 1) (by simp) (.int .i64 0)
    have g0 := HS1.2.1 0 _ rfl
    have g1 := HS1.2.1 1 _ rfl
    have HBF := Lib.hid ((HB.setCell (p := ⟨w.heap.size, 0, none⟩) (Nat.le_refl _) (.int .i64 0)).setCell (p := ⟨w.heap.size, 1, none⟩) (Nat.le_refl _) (.int .i64 0))
    clear HS0 HS1 HB
    go_wp2
    refine bodyPost_ret (v := .tuple #[.agg #[.int .i64 0, .int .i64 0], .bool false]) (by simp [results, Try.results80, go_sem, g0, g1]) rfl ⟨0, 0, rfl, fun h => absurd h (by simp), HBF.out⟩
  · have HS0 := B4.set (k := 0) (by simp) (.int .i64 px)
    have HS1 := HS0.set (k := 1) (by simp) (.int .i64 py)
    have g0 := HS1.2.1 0 _ rfl
    have g1 := HS1.2.1 1 _ rfl
    have HBF := Lib.hid ((HB.setCell (p := ⟨w.heap.size, 0, none⟩) (Nat.le_refl _) (.int .i64 px)).setCell (p := ⟨w.heap.size, 1, none⟩) (Nat.le_refl _) (.int .i64 py))
    clear HS0 HS1 HB
    go_wp2
    refine bodyPost_ret (v := .tuple #[.agg #[.int .i64 px, .int .i64 py], .bool true]) (by simp [results, Try.results80, go_sem, g0, g1]) rfl ⟨px, py, rfl, by simp, HBF.out⟩

theorem l5NotNeg_any (A1 : Option Addr) (n c1 B : Nat) (V : Fr) (w : World) (h1 : RdP w B A1 n V) (hB : B ≤ w.heap.size) (hn1 : n ≤ 1099511627776) :
    Calls Try.prog 70 #[.slice A1 n c1] w fun e w' => e = .returned (.bool (Pl.allB (Pl.pos V) n)) ∧ Below w.heap.size w w' := by
  go_enter Try.func70, Try.ntmps70
  go_wp2
  go_loopw [3] (fun u wr => ∃ k : Nat, k ≤ n ∧ u = .int .i64 k ∧ Hid (Pl.allB (Pl.pos V) k = true) ∧ Below w.heap.size w wr) (fun u _ => n - (intOf u).toNat)
  case atStart => exact ⟨0, Nat.zero_le _, rfl, Lib.hid rfl, Below.refl _ _⟩
  case round =>
    obtain ⟨k, hk, rfl, he, hb⟩ := hrel
    by_cases hlt : k < n
    · obtain ⟨b1, o1, rfl, hb1, hc1⟩ := h1 (by omega)
      have hw1 : b1 < w.heap.size := Nat.lt_of_lt_of_le hb1 hB
      have x1 := (hb.cell (p := ⟨b1, o1 + k * 2, none⟩) hw1).trans (hc1 k hlt).1
      have x2 := (hb.cell (p := ⟨b1, o1 + k * 2 + 1, none⟩) hw1).trans (hc1 k hlt).2
      clear hc1 h1
      have k0 : (0 : Int) ≤ (k : Int) := by omega
      have k1 : (k : Int) < (n : Int) := by omega
      have HNO := Lib.hid (fun h => Pl.allB_no (q := Pl.pos V) (n := n) (j := k) h hlt)
      have HYE := Lib.hid (fun h => Pl.allB_yes (q := Pl.pos V) he.out h)
      unfold Pl.pos at HNO HYE
      have C := Lib.hid (svalid_any (V k).1 (V k).2 wr)
      generalize Pl.valid (V k).1 (V k).2 = vv at C HNO HYE
      generalize (V k).1 = a at x1 C HNO HYE
      generalize (V k).2 = b at x2 C
      cases vv
      · have HR := Lib.hid (HNO.out rfl)
        go_wp2_with fail
        refine C.out.mono ?_
        rintro e w1 ⟨rfl, hb2⟩
        go_wp2
        go_ret
        exact ⟨Pl.ret_bool HR.out.symm, hb.trans (hb2.mono hb.size)⟩
      · cases hv : decide (a < 0)
        · have HY := Lib.hid (HYE.out (by rw [hv]; rfl))
          go_wp2_with fail
          refine C.out.mono ?_
          rintro e w1 ⟨rfl, hb2⟩
          have x1 := (hb2.cell (p := ⟨b1, o1 + k * 2, none⟩) (Nat.lt_of_lt_of_le hw1 hb.size)).trans x1
          go_wp2
          go_roundw
          case rel => exact ⟨k + 1, by omega, by go_num, HY, hb.trans (hb2.mono hb.size)⟩
          case measure => simp [intOf]; omega
        · have HR := Lib.hid (HNO.out (by rw [hv]; rfl))
          go_wp2_with fail
          refine C.out.mono ?_
          rintro e w1 ⟨rfl, hb2⟩
          have x1 := (hb2.cell (p := ⟨b1, o1 + k * 2, none⟩) (Nat.lt_of_lt_of_le hw1 hb.size)).trans x1
          go_wp2
          go_ret
          exact ⟨Pl.ret_bool HR.out.symm, hb.trans (hb2.mono hb.size)⟩
    · obtain rfl : k = n := by omega
      go_wp2
      go_ret
      exact ⟨Pl.ret_bool he.out.symm, hb⟩

def notpos (a b : Int) : Bool := !Pl.valid a b || decide (a < 0)
theorem notPos_any (a b : Int) (w : World) : Calls Try.prog 81 #[.agg #[.int .i64 a, .int .i64 b]] w fun e w' => e = .returned (.bool (notpos a b)) ∧ Below w.heap.size w w' := by
  have BA := Bx.new w #[.int .i64 a, .int .i64 b] 44
  have HB : Below w.heap.size w (w.alloc (.cells #[.int .i64 a, .int .i64 b] 44)) := (Below.refl _ _).alloc (Nat.le_refl _) _
  unfold notpos
  have C := Lib.hid (ivalid_any a b (w.alloc (.cells #[.int .i64 a, .int .i64 b] 44)))
  generalize Pl.valid a b = vv at C ⊢
  cases vv
  · go_enter Try.func81, Try.ntmps81
    go_wp2_with fail
    refine C.out.mono ?_
    rintro e w1 ⟨rfl, hb⟩
    go_wp2
    go_ret
    exact ⟨rfl, HB.trans (hb.mono HB.size)⟩
  · cases hv : decide (a < 0)
    all_goals
      go_enter Try.func81, Try.ntmps81
      go_wp2_with fail
      refine C.out.mono ?_
      rintro e w1 ⟨rfl, hb⟩
      have x0 := (BA.below hb).2.1 0 _ rfl
      go_wp2
      go_ret
      exact ⟨by simp, HB.trans (hb.mono HB.size)⟩

theorem indexFunc_pos (A1 : Option Addr) (n c1 B : Nat) (V : Fr) (w : World) (h1 : RdP w B A1 n V) (hB : B ≤ w.heap.size) (hn1 : n ≤ 1099511627776) :
    Calls Try.prog 75 #[.slice A1 n c1, .func (.func 81) #[] #[]] w fun e w' => ∃ r : Int, e = .returned (.int .i64 r) ∧ decide (0 ≤ r) = Pl.anyTo notpos V n ∧ Below w.heap.size w w' := by
  go_enter Try.func75, Try.ntmps75
  go_wp2
  go_loopw [5, 8] (fun v u wr => ∃ k : Nat, k ≤ n ∧ u = .int .i64 k ∧ Hid (Pl.anyTo notpos V k = false) ∧ Below w.heap.size w wr) (fun _ u _ => n - (intOf u).toNat)
  case atStart => exact ⟨0, Nat.zero_le _, rfl, Lib.hid rfl, Below.refl _ _⟩
  case round =>
    obtain ⟨k, hk, rfl, he, hb⟩ := hrel
    by_cases hlt : k < n
    · obtain ⟨b1, o1, rfl, hb1, hc1⟩ := h1 (by omega)
      have hw1 : b1 < w.heap.size := Nat.lt_of_lt_of_le hb1 hB
      have x1 := (hb.cell (p := ⟨b1, o1 + k * 2, none⟩) hw1).trans (hc1 k hlt).1
      have x2 := (hb.cell (p := ⟨b1, o1 + k * 2 + 1, none⟩) hw1).trans (hc1 k hlt).2
      clear hc1 h1
      have k0 : (0 : Int) ≤ (k : Int) := by omega
      have k1 : (k : Int) < (n : Int) := by omega
      cases hv : notpos (V k).1 (V k).2
      · have HY := Lib.hid (Pl.anyTo_no he.out hv)
        go_wp2_with fail
        refine (notPos_any _ _ _).mono ?_
        rintro e w1 ⟨rfl, hb2⟩
        rw [hv]
        clear hv
        go_wp2
        go_roundw
        case rel => exact ⟨k + 1, by omega, by go_num, HY, hb.trans (hb2.mono hb.size)⟩
        case measure => simp [intOf]; omega
      · have HR := Lib.hid (Pl.anyTo_yes (V := V) hv hlt)
        go_wp2_with fail
        refine (notPos_any _ _ _).mono ?_
        rintro e w1 ⟨rfl, hb2⟩
        rw [hv]
        clear hv
        go_wp2
        go_ret
        exact ⟨(k : Int), rfl, by rw [HR.out]; exact decide_eq_true k0, hb.trans (hb2.mono hb.size)⟩
    · obtain rfl : k = n := by omega
      go_wp2
      go_ret
      exact ⟨-1, rfl, by rw [he.out]; rfl, hb⟩
theorem containsFunc_pos (A1 : Option Addr) (n c1 B : Nat) (V : Fr) (w : World) (h1 : RdP w B A1 n V) (hB : B ≤ w.heap.size) (hn1 : n ≤ 1099511627776) :
    Calls Try.prog 50 #[.slice A1 n c1, .func (.func 81) #[] #[]] w fun e w' => e = .returned (.bool (Pl.anyTo notpos V n)) ∧ Below w.heap.size w w' := by
  have c := indexFunc_pos A1 n c1 B V w h1 hB hn1
  go_enter Try.func50, Try.ntmps50
  go_wp2_with fail
  refine c.mono ?_
  rintro e w1 ⟨r, rfl, hr, hb⟩
  go_wp2
  go_ret
  exact ⟨Pl.ret_bool rfl, hb⟩

theorem anyTo_pos (V : Fr) (n : Nat) : Pl.anyTo notpos V n = !Pl.allB (Pl.pos V) n := by
  induction n with
  | zero => rfl
  | succ n ih => rw [Pl.anyTo, Pl.allB, ih, Pl.pos, notpos]; simp
theorem notNeg_any (A1 : Option Addr) (n m c1 B : Nat) (V : Fr) (w : World) (h1 : RdP w B A1 n V) (hB : B ≤ w.heap.size) (hn1 : n ≤ 1099511627776) :
    Calls Try.prog 72 #[.slice A1 n c1, .int .i64 m] w fun e w' => e = .returned (.bool (n == m && Pl.allB (Pl.pos V) n)) ∧ Below w.heap.size w w' := by
  have C := Lib.hid (containsFunc_pos A1 n c1 B V w h1 hB hn1)
  rw [anyTo_pos] at C
  by_cases hq : n = m
  · subst hq
    rw [beq_self_eq_true, Bool.true_and]
    go_enter Try.func72, Try.ntmps72
    go_wp2_with fail
    refine C.out.mono ?_
    rintro e w1 ⟨rfl, hb⟩
    go_wp2
    go_ret
    exact ⟨Pl.ret_bool (by simp), hb⟩
  · have q2 := beq_eq_false_iff_ne.2 (show (n : Int) ≠ (m : Int) by omega)
    have q1 := beq_eq_false_iff_ne.2 hq
    rw [q1, Bool.false_and]
    clear hq q1
    go_enter Try.func72, Try.ntmps72
    go_wp2
    go_ret
    exact ⟨rfl, Below.refl _ _⟩

theorem rats_any (A : Option Addr) (n c B : Nat) (V : Nat → Int) (w : World) (hr : Rd w B 1 A n (cellsI V n)) (hB : B ≤ w.heap.size) (hn : n ≤ 1048576) (ha : Pl.allIn V n = true) :
    Calls Try.prog 82 #[.slice A n c] w fun e w' => ∃ X c', e = .returned (.slice X n c') ∧ RdP w' w'.heap.size X n (unitV V) ∧ Below w.heap.size w w' := by
  have C := Lib.hid (iI2R_any A n c B V w hr hB hn)
  clear hr
  go_enter Try.func82, Try.ntmps82
  go_wp2_with fail
  refine C.out.mono ?_
  rintro e w1 ⟨v, rfl, ow, hb⟩
  simp only [ha, if_true] at ow
  obtain ⟨X, c', rfl⟩ := own_form ow
  have r := Lib.hid (RdP.of_own ow)
  clear ow
  go_wp2
  go_ret
  exact ⟨X, c', rfl, r.out, hb⟩

set_option maxHeartbeats 2000000 in
theorem l5Gives_any (aR aBs aCs : Option Addr) (arn arc abn abc acn acc : Nat) (aRA : Nat → Option Addr) (aRN aRC : Nat → Nat) (aRV : Nat → Nat → Int) (aBV : Nat → Int) (A2 : Option Addr) (xn c2 : Nat) (XV : Fr) (B : Nat) (w : World) (arr : RdI w B aR arn aRA aRN aRC aRV) (abb : Rd w B 1 aBs abn (cellsI aBV abn)) (hx : RdP w B A2 xn XV) (hB : B ≤ w.heap.size) (ha1 : arn ≤ 1048576) (ha2 : ∀ j, j < arn → aRN j ≤ 1048576) (ha3 : abn ≤ 1048576)  (hxn : xn ≤ 1048576) (hall : ∀ i, i < arn → Pl.allIn (aRV i) (aRN i) = true) (hbn : abn = arn) :
    Calls Try.prog 71 #[.agg #[.slice aR arn arc, .slice aBs abn abc, .slice aCs acn acc], .slice A2 xn c2, .slice aBs abn abc] w fun e w' => e = .returned (.bool (Pl.allB (Pl.gq aRN aRV aBV xn XV) arn)) ∧ Below w.heap.size w w' := by
  subst hbn
  have BA : Bx (w.alloc (.cells #[.slice aR abn arc, .slice aBs abn abc, .slice aCs acn acc] 61)) w.heap.size [.slice aR abn arc, .slice aBs abn abc, .slice aCs acn acc] := Bx.new w #[.slice aR abn arc, .slice aBs abn abc, .slice aCs acn acc] 61
  have HB : Below w.heap.size w (w.alloc (.cells #[.slice aR abn arc, .slice aBs abn abc, .slice aCs acn acc] 61)) := (Below.refl _ _).alloc (Nat.le_refl _) _
  have ARH := Lib.hid arr
  have Z := Lib.hid ha2
  have AL := Lib.hid hall
  have BBH := Lib.hid abb
  have HX := Lib.hid hx
  clear arr ha2 hall abb hx
  have x0 := BA.2.1 0 _ rfl
  go_enter Try.func71, Try.ntmps71
  go_wp2
  have HBB := Lib.hid HB
  have BAH := Lib.hid BA
  clear HB BA x0
  go_loopw [7] (fun u wr => ∃ k : Nat, k ≤ abn ∧ u = .int .i64 k ∧ Hid (Pl.allB (Pl.gq aRN aRV aBV xn XV) k = true) ∧ Bx wr w.heap.size [.slice aR abn arc, .slice aBs abn abc, .slice aCs acn acc] ∧ Below w.heap.size w wr) (fun u _ => abn - (intOf u).toNat)
  case atStart => exact ⟨0, Nat.zero_le _, rfl, Lib.hid rfl, BAH.out, HBB.out⟩
  case round =>
    obtain ⟨k, hk, rfl, he, BA, hb⟩ := hrel
    have x0 := BA.2.1 0 _ rfl
    by_cases hlt : k < abn
    · obtain ⟨b1, o1, rfl, hb1, hc1⟩ := ARH.out.1 (by omega)
      have x1 := (hb.cell (p := ⟨b1, o1 + k, none⟩) (by exact Nat.lt_of_lt_of_le hb1 hB)).trans (hc1 k hlt)
      obtain ⟨bb1, bo1, rfl, hbb1, hbc1⟩ := BBH.out.2 (by omega)
      have hwb := Nat.lt_of_lt_of_le hbb1 hB
      have xb := (hb.cell (p := ⟨bb1, bo1 + k, none⟩) (by exact hwb)).trans (hbc1 k _ (cellsI_at aBV hlt))
      have k0 : (0 : Int) ≤ (k : Int) := by omega
      have k1 : (k : Int) < (abn : Int) := by omega
      have HNO := Lib.hid (fun h => Pl.allB_no (q := Pl.gq aRN aRV aBV xn XV) (n := abn) (j := k) h hlt)
      have HYE := Lib.hid (fun h => Pl.allB_yes (q := Pl.gq aRN aRV aBV xn XV) he.out h)
      unfold Pl.gq at HNO HYE
      clear hc1 hbc1
      have CN := Lib.hid (l5Dot_any (aRA k) A2 (aRN k) xn (aRC k) c2 B (aRV k) XV wr ((ARH.out.2 k hlt).below' hb hB) (HX.out.below hb hB) (Nat.le_trans hB hb.size) (Z.out k hlt) hxn (AL.out k hlt))
      have DD := CN
      clear DD
      generalize Pl.dot (aRN k) (unitV (aRV k)) xn XV = dd at CN HNO HYE
      obtain ⟨px, py, pk⟩ := dd
      dsimp only at CN HNO HYE
      obtain ⟨m1, e1⟩ : ∃ m, m = aRA k := ⟨_, rfl⟩
      obtain ⟨u1, e3⟩ : ∃ m, m = aRN k := ⟨_, rfl⟩
      obtain ⟨d1, e5⟩ : ∃ m, m = aRC k := ⟨_, rfl⟩
      rw [← e1, ← e3, ← e5] at x1 CN
      skip
      clear e1 e3 e5
      obtain ⟨bk, ebk⟩ : ∃ m, m = aBV k := ⟨_, rfl⟩
      rw [← ebk] at xb HNO HYE
      clear ebk
      go_wp2_with fail
      refine CN.out.mono ?_
      rintro e wo ⟨qx, qy, rfl, EQX, hb2⟩
      clear CN
      have BA := BA.below hb2
      have xb := (hb2.cell (p := ⟨bb1, bo1 + k, none⟩) (by exact Nat.lt_of_lt_of_le hwb hb.size)).trans xb
      have hb := hb.trans (hb2.mono hb.size)
      clear hb2
      skip
      cases pk
      · have HR := Lib.hid (HNO.out rfl)
        go_upto_region 5 with fail
        have B8 := (Bx.new wo #[.int .i64 qx, .int .i64 qy] 44).below ((Below.refl _ _).drew)
        have hbz := (hb.alloc hb.size (.cells #[.int .i64 qx, .int .i64 qy] 44)).drew
        have xb := ((Below.refl wo.heap.size wo).alloc (Nat.le_refl _) (.cells #[.int .i64 qx, .int .i64 qy] 44)).drew.cell (p := ⟨bb1, bo1 + k, none⟩) (by exact Nat.lt_of_lt_of_le hwb hb.size) |>.trans xb
        refine wp_region_noPanic ?_
        refine wp_region_held_drew (S := (fun w' => w'.cell? ⟨wo.heap.size, 0, none⟩ = some (.int .i64 qx) ∧ w'.cell? ⟨wo.heap.size, 1, none⟩ = some (.int .i64 qy) ∧ w'.cell? ⟨bb1, bo1 + k, none⟩ = some (.int .i64 bk))) (by kernel_rfl) ?_ (fun hHeld => ?_)
        · exact ⟨B8.2.1 0 _ rfl, B8.2.1 1 _ rfl, xb⟩
        refine takeN 0 (v := ?v1_0) rfl (by kernel_rfl) (by kernel_rfl) (by kernel_rfl) (fun _ _ _ h => h) (by rfl) ?hy1_0 (by assumption) ?r1_0
        case hy1_0 => (intro w hSw; (try dsimp only at hSw); first | (go_simp; done) | (go_simp; with_reducible rfl))
        simp only [Act.put, List.setIfInBounds_toArray, List.set_cons_zero, List.set_cons_succ]
        refine takeN 1 (v := ?v1_1) rfl (by kernel_rfl) (by kernel_rfl) (by kernel_rfl) (fun _ _ _ h => h) (by rfl) ?hy1_1 (by assumption) ?r1_1
        case hy1_1 => (intro w hSw; (try dsimp only at hSw); first | (go_simp; done) | (go_simp; with_reducible rfl))
        simp only [Act.put, List.setIfInBounds_toArray, List.set_cons_zero, List.set_cons_succ]
        refine takeN 2 (v := ?v1_2) rfl (by kernel_rfl) (by kernel_rfl) (by kernel_rfl) (fun _ _ _ h => h) (by rfl) ?hy1_2 (by assumption) ?r1_2
        case hy1_2 => (intro w hSw; (try dsimp only at hSw); first | (go_simp; done) | (go_simp; with_reducible rfl))
        simp only [Act.put, List.setIfInBounds_toArray, List.set_cons_zero, List.set_cons_succ]
        refine skipN 3 rfl (by kernel_rfl) (by kernel_rfl) (by kernel_rfl) (fun _ _ _ h => h) (by rfl) (by assumption) ?_
        simp only [Act.put, List.setIfInBounds_toArray, List.set_cons_zero, List.set_cons_succ]
        refine skipN 4 rfl (by kernel_rfl) (by kernel_rfl) (by kernel_rfl) (fun _ _ _ h => h) (by rfl) (by assumption) ?_
        simp only [Act.put, List.setIfInBounds_toArray, List.set_cons_zero, List.set_cons_succ]
        refine skipN 5 rfl (by kernel_rfl) (by kernel_rfl) (by kernel_rfl) (fun _ _ _ h => h) (by rfl) (by assumption) ?_
        simp only [Act.put, List.setIfInBounds_toArray, List.set_cons_zero, List.set_cons_succ]
        refine skipN 6 rfl (by kernel_rfl) (by kernel_rfl) (by kernel_rfl) (fun _ _ _ h => h) (by rfl) (by assumption) ?_
        simp only [Act.put, List.setIfInBounds_toArray, List.set_cons_zero, List.set_cons_succ]
        refine skipN 7 rfl (by kernel_rfl) (by kernel_rfl) (by kernel_rfl) (fun _ _ _ h => h) (by rfl) (by assumption) ?_
        simp only [Act.put, List.setIfInBounds_toArray, List.set_cons_zero, List.set_cons_succ]
        refine nextN 8 (by kernel_rfl) rfl (fun K hK => ?_)
        go_simp
        refine hK.out _ _ ?_ (fun hHeld => ?_)
        · assumption
        clear hK K
        refine skipN 9 rfl (by kernel_rfl) (by kernel_rfl) (by kernel_rfl) (fun _ _ _ h => h) (by rfl) (by assumption) ?_
        simp only [Act.put, List.setIfInBounds_toArray, List.set_cons_zero, List.set_cons_succ]
        refine takeN 10 (v := ?v1_10) rfl (by kernel_rfl) (by kernel_rfl) (by kernel_rfl) (fun _ _ _ h => h) (by rfl) ?hy1_10 (by assumption) ?r1_10
        case hy1_10 => (intro w hSw; (try dsimp only at hSw); first | (go_simp; done) | (go_simp; with_reducible rfl))
        simp only [Act.put, List.setIfInBounds_toArray, List.set_cons_zero, List.set_cons_succ]
        refine wpAnyH_done (by kernel_rfl) ?_ _
        refine NoPanic.normal ?_
        go_wp2
        go_ret
        exact ⟨Pl.ret_bool HR.out.symm, hbz⟩
      · obtain ⟨rfl, rfl⟩ := EQX rfl
        by_cases q1 : qx = bk
        · subst q1
          by_cases q2 : qy = 1
          · have HY := Lib.hid (HYE.out (by rw [q2]; simp))
            subst q2
            go_upto_region 5 with fail
            have B8 := (Bx.new wo #[.int .i64 qx, .int .i64 1] 44).below ((Below.refl _ _).drew)
            have BA := BA.below ((Below.refl wo.heap.size wo).alloc (Nat.le_refl _) (.cells #[.int .i64 qx, .int .i64 1] 44)).drew
            have hbz := (hb.alloc hb.size (.cells #[.int .i64 qx, .int .i64 1] 44)).drew
            have xb := ((Below.refl wo.heap.size wo).alloc (Nat.le_refl _) (.cells #[.int .i64 qx, .int .i64 1] 44)).drew.cell (p := ⟨bb1, bo1 + k, none⟩) (by exact Nat.lt_of_lt_of_le hwb hb.size) |>.trans xb
            refine wp_region_noPanic ?_
            refine wp_region_held_drew (S := (fun w' => w'.cell? ⟨wo.heap.size, 0, none⟩ = some (.int .i64 qx) ∧ w'.cell? ⟨wo.heap.size, 1, none⟩ = some (.int .i64 1) ∧ w'.cell? ⟨bb1, bo1 + k, none⟩ = some (.int .i64 qx))) (by kernel_rfl) ?_ (fun hHeld => ?_)
            · exact ⟨B8.2.1 0 _ rfl, B8.2.1 1 _ rfl, xb⟩
            refine takeN 0 (v := ?v2_0) rfl (by kernel_rfl) (by kernel_rfl) (by kernel_rfl) (fun _ _ _ h => h) (by rfl) ?hy2_0 (by assumption) ?r2_0
            case hy2_0 => (intro w hSw; (try dsimp only at hSw); first | (go_simp; done) | (go_simp; with_reducible rfl))
            simp only [Act.put, List.setIfInBounds_toArray, List.set_cons_zero, List.set_cons_succ]
            refine takeN 1 (v := ?v2_1) rfl (by kernel_rfl) (by kernel_rfl) (by kernel_rfl) (fun _ _ _ h => h) (by rfl) ?hy2_1 (by assumption) ?r2_1
            case hy2_1 => (intro w hSw; (try dsimp only at hSw); first | (go_simp; done) | (go_simp; with_reducible rfl))
            simp only [Act.put, List.setIfInBounds_toArray, List.set_cons_zero, List.set_cons_succ]
            refine takeN 2 (v := ?v2_2) rfl (by kernel_rfl) (by kernel_rfl) (by kernel_rfl) (fun _ _ _ h => h) (by rfl) ?hy2_2 (by assumption) ?r2_2
            case hy2_2 => (intro w hSw; (try dsimp only at hSw); first | (go_simp; done) | (go_simp; with_reducible rfl))
            simp only [Act.put, List.setIfInBounds_toArray, List.set_cons_zero, List.set_cons_succ]
            refine takeN 3 (v := ?v2_3) rfl (by kernel_rfl) (by kernel_rfl) (by kernel_rfl) (fun _ _ _ h => h) (by rfl) ?hy2_3 (by assumption) ?r2_3
            case hy2_3 => (intro w hSw; (try dsimp only at hSw); first | (go_simp; done) | (go_simp; with_reducible rfl))
            simp only [Act.put, List.setIfInBounds_toArray, List.set_cons_zero, List.set_cons_succ]
            refine takeN 4 (v := ?v2_4) rfl (by kernel_rfl) (by kernel_rfl) (by kernel_rfl) (fun _ _ _ h => h) (by rfl) ?hy2_4 (by assumption) ?r2_4
            case hy2_4 => (intro w hSw; (try dsimp only at hSw); first | (go_simp; done) | (go_simp; with_reducible rfl))
            simp only [Act.put, List.setIfInBounds_toArray, List.set_cons_zero, List.set_cons_succ]
            refine takeN 5 (v := ?v2_5) rfl (by kernel_rfl) (by kernel_rfl) (by kernel_rfl) (fun _ _ _ h => h) (by rfl) ?hy2_5 (by assumption) ?r2_5
            case hy2_5 => (intro w hSw; (try dsimp only at hSw); first | (go_simp; done) | (go_simp; with_reducible rfl))
            simp only [Act.put, List.setIfInBounds_toArray, List.set_cons_zero, List.set_cons_succ]
            refine takeN 6 (v := ?v2_6) rfl (by kernel_rfl) (by kernel_rfl) (by kernel_rfl) (fun _ _ _ h => h) (by rfl) ?hy2_6 (by assumption) ?r2_6
            case hy2_6 => (intro w hSw; (try dsimp only at hSw); first | (go_simp; done) | (go_simp; with_reducible rfl))
            simp only [Act.put, List.setIfInBounds_toArray, List.set_cons_zero, List.set_cons_succ]
            refine takeN 7 (v := ?v2_7) rfl (by kernel_rfl) (by kernel_rfl) (by kernel_rfl) (fun _ _ _ h => h) (by rfl) ?hy2_7 (by assumption) ?r2_7
            case hy2_7 => (intro w hSw; (try dsimp only at hSw); first | (go_simp; done) | (go_simp; with_reducible rfl))
            simp only [Act.put, List.setIfInBounds_toArray, List.set_cons_zero, List.set_cons_succ]
            refine nextN 8 (by kernel_rfl) rfl (fun K hK => ?_)
            go_simp
            go_at_call 54; refine (l3Int_any _ _).mono ?_; rintro e wA ⟨rfl, hbA⟩; have B8 := B8.below hbA; have BA := BA.below hbA; have xb := (hbA.cell (p := ⟨bb1, bo1 + k, none⟩) (by exact Nat.lt_of_lt_of_le hwb hbz.size)).trans xb; have hbz := hbz.trans (hbA.mono hbz.size); clear hbA
            go_wp2_with fail
            refine hK.out _ _ ?_ (fun hHeld => ?_)
            · exact ⟨B8.2.1 0 _ rfl, B8.2.1 1 _ rfl, xb⟩
            clear hK K
            refine takeN 9 (v := ?v2_9) rfl (by kernel_rfl) (by kernel_rfl) (by kernel_rfl) (fun _ _ _ h => h) (by rfl) ?hy2_9 (by assumption) ?r2_9
            case hy2_9 => (intro w hSw; (try dsimp only at hSw); first | (go_simp; done) | (go_simp; with_reducible rfl))
            simp only [Act.put, List.setIfInBounds_toArray, List.set_cons_zero, List.set_cons_succ]
            refine takeN 10 (v := ?v2_10) rfl (by kernel_rfl) (by kernel_rfl) (by kernel_rfl) (fun _ _ _ h => h) (by rfl) ?hy2_10 (by assumption) ?r2_10
            case hy2_10 => (intro w hSw; (try dsimp only at hSw); first | (go_simp; done) | (go_simp; with_reducible rfl))
            simp only [Act.put, List.setIfInBounds_toArray, List.set_cons_zero, List.set_cons_succ]
            refine wpAnyH_done (by kernel_rfl) ?_ _
            refine NoPanic.normal ?_
            go_wp2
            go_roundw
            case rel => exact ⟨k + 1, by omega, by go_num, HY, BA, hbz⟩
            case measure => simp [intOf]; omega
          · have HR := Lib.hid (HNO.out (by rw [beq_eq_false_iff_ne.2 q2]; simp))
            have q3 := beq_eq_false_iff_ne.2 q2
            go_upto_region 5 with fail
            have B8 := (Bx.new wo #[.int .i64 qx, .int .i64 qy] 44).below ((Below.refl _ _).drew)
            have hbz := (hb.alloc hb.size (.cells #[.int .i64 qx, .int .i64 qy] 44)).drew
            have xb := ((Below.refl wo.heap.size wo).alloc (Nat.le_refl _) (.cells #[.int .i64 qx, .int .i64 qy] 44)).drew.cell (p := ⟨bb1, bo1 + k, none⟩) (by exact Nat.lt_of_lt_of_le hwb hb.size) |>.trans xb
            refine wp_region_noPanic ?_
            refine wp_region_held_drew (S := (fun w' => w'.cell? ⟨wo.heap.size, 0, none⟩ = some (.int .i64 qx) ∧ w'.cell? ⟨wo.heap.size, 1, none⟩ = some (.int .i64 qy) ∧ w'.cell? ⟨bb1, bo1 + k, none⟩ = some (.int .i64 qx))) (by kernel_rfl) ?_ (fun hHeld => ?_)
            · exact ⟨B8.2.1 0 _ rfl, B8.2.1 1 _ rfl, xb⟩
            refine takeN 0 (v := ?v3_0) rfl (by kernel_rfl) (by kernel_rfl) (by kernel_rfl) (fun _ _ _ h => h) (by rfl) ?hy3_0 (by assumption) ?r3_0
            case hy3_0 => (intro w hSw; (try dsimp only at hSw); first | (go_simp; done) | (go_simp; with_reducible rfl))
            simp only [Act.put, List.setIfInBounds_toArray, List.set_cons_zero, List.set_cons_succ]
            refine takeN 1 (v := ?v3_1) rfl (by kernel_rfl) (by kernel_rfl) (by kernel_rfl) (fun _ _ _ h => h) (by rfl) ?hy3_1 (by assumption) ?r3_1
            case hy3_1 => (intro w hSw; (try dsimp only at hSw); first | (go_simp; done) | (go_simp; with_reducible rfl))
            simp only [Act.put, List.setIfInBounds_toArray, List.set_cons_zero, List.set_cons_succ]
            refine takeN 2 (v := ?v3_2) rfl (by kernel_rfl) (by kernel_rfl) (by kernel_rfl) (fun _ _ _ h => h) (by rfl) ?hy3_2 (by assumption) ?r3_2
            case hy3_2 => (intro w hSw; (try dsimp only at hSw); first | (go_simp; done) | (go_simp; with_reducible rfl))
            simp only [Act.put, List.setIfInBounds_toArray, List.set_cons_zero, List.set_cons_succ]
            refine takeN 3 (v := ?v3_3) rfl (by kernel_rfl) (by kernel_rfl) (by kernel_rfl) (fun _ _ _ h => h) (by rfl) ?hy3_3 (by assumption) ?r3_3
            case hy3_3 => (intro w hSw; (try dsimp only at hSw); first | (go_simp; done) | (go_simp; with_reducible rfl))
            simp only [Act.put, List.setIfInBounds_toArray, List.set_cons_zero, List.set_cons_succ]
            refine takeN 4 (v := ?v3_4) rfl (by kernel_rfl) (by kernel_rfl) (by kernel_rfl) (fun _ _ _ h => h) (by rfl) ?hy3_4 (by assumption) ?r3_4
            case hy3_4 => (intro w hSw; (try dsimp only at hSw); first | (go_simp; done) | (go_simp; with_reducible rfl))
            simp only [Act.put, List.setIfInBounds_toArray, List.set_cons_zero, List.set_cons_succ]
            refine takeN 5 (v := ?v3_5) rfl (by kernel_rfl) (by kernel_rfl) (by kernel_rfl) (fun _ _ _ h => h) (by rfl) ?hy3_5 (by assumption) ?r3_5
            case hy3_5 => (intro w hSw; (try dsimp only at hSw); first | (go_simp; done) | (go_simp; with_reducible rfl))
            simp only [Act.put, List.setIfInBounds_toArray, List.set_cons_zero, List.set_cons_succ]
            refine takeN 6 (v := ?v3_6) rfl (by kernel_rfl) (by kernel_rfl) (by kernel_rfl) (fun _ _ _ h => h) (by rfl) ?hy3_6 (by assumption) ?r3_6
            case hy3_6 => (intro w hSw; (try dsimp only at hSw); first | (go_simp; done) | (go_simp; with_reducible rfl))
            simp only [Act.put, List.setIfInBounds_toArray, List.set_cons_zero, List.set_cons_succ]
            refine takeN 7 (v := ?v3_7) rfl (by kernel_rfl) (by kernel_rfl) (by kernel_rfl) (fun _ _ _ h => h) (by rfl) ?hy3_7 (by assumption) ?r3_7
            case hy3_7 => (intro w hSw; (try dsimp only at hSw); first | (go_simp; done) | (go_simp; with_reducible rfl))
            simp only [Act.put, List.setIfInBounds_toArray, List.set_cons_zero, List.set_cons_succ]
            refine nextN 8 (by kernel_rfl) rfl (fun K hK => ?_)
            go_simp
            go_at_call 54; refine (l3Int_any _ _).mono ?_; rintro e wA ⟨rfl, hbA⟩; have B8 := B8.below hbA; have xb := (hbA.cell (p := ⟨bb1, bo1 + k, none⟩) (by exact Nat.lt_of_lt_of_le hwb hbz.size)).trans xb; have hbz := hbz.trans (hbA.mono hbz.size); clear hbA
            go_wp2_with fail
            refine hK.out _ _ ?_ (fun hHeld => ?_)
            · exact ⟨B8.2.1 0 _ rfl, B8.2.1 1 _ rfl, xb⟩
            clear hK K
            refine takeN 9 (v := ?v3_9) rfl (by kernel_rfl) (by kernel_rfl) (by kernel_rfl) (fun _ _ _ h => h) (by rfl) ?hy3_9 (by assumption) ?r3_9
            case hy3_9 => (intro w hSw; (try dsimp only at hSw); first | (go_simp; done) | (go_simp; with_reducible rfl))
            simp only [Act.put, List.setIfInBounds_toArray, List.set_cons_zero, List.set_cons_succ]
            try simp only [q3, Bool.and_false, Bool.not_false]
            refine takeN 10 (v := ?v3_10) rfl (by kernel_rfl) (by kernel_rfl) (by kernel_rfl) (fun _ _ _ h => h) (by rfl) ?hy3_10 (by assumption) ?r3_10
            case hy3_10 => (intro w hSw; (try dsimp only at hSw); first | (go_simp; done) | (go_simp; with_reducible rfl))
            simp only [Act.put, List.setIfInBounds_toArray, List.set_cons_zero, List.set_cons_succ]
            refine wpAnyH_done (by kernel_rfl) ?_ _
            refine NoPanic.normal ?_
            go_wp2
            go_ret
            exact ⟨Pl.ret_bool HR.out.symm, hbz⟩
        · have HR := Lib.hid (HNO.out (by rw [beq_eq_false_iff_ne.2 q1]; simp))
          have q3 := beq_eq_false_iff_ne.2 q1
          go_upto_region 5 with fail
          have B8 := (Bx.new wo #[.int .i64 qx, .int .i64 qy] 44).below ((Below.refl _ _).drew)
          have hbz := (hb.alloc hb.size (.cells #[.int .i64 qx, .int .i64 qy] 44)).drew
          have xb := ((Below.refl wo.heap.size wo).alloc (Nat.le_refl _) (.cells #[.int .i64 qx, .int .i64 qy] 44)).drew.cell (p := ⟨bb1, bo1 + k, none⟩) (by exact Nat.lt_of_lt_of_le hwb hb.size) |>.trans xb
          refine wp_region_noPanic ?_
          refine wp_region_held_drew (S := (fun w' => w'.cell? ⟨wo.heap.size, 0, none⟩ = some (.int .i64 qx) ∧ w'.cell? ⟨wo.heap.size, 1, none⟩ = some (.int .i64 qy) ∧ w'.cell? ⟨bb1, bo1 + k, none⟩ = some (.int .i64 bk))) (by kernel_rfl) ?_ (fun hHeld => ?_)
          · exact ⟨B8.2.1 0 _ rfl, B8.2.1 1 _ rfl, xb⟩
          refine takeN 0 (v := ?v4_0) rfl (by kernel_rfl) (by kernel_rfl) (by kernel_rfl) (fun _ _ _ h => h) (by rfl) ?hy4_0 (by assumption) ?r4_0
          case hy4_0 => (intro w hSw; (try dsimp only at hSw); first | (go_simp; done) | (go_simp; with_reducible rfl))
          simp only [Act.put, List.setIfInBounds_toArray, List.set_cons_zero, List.set_cons_succ]
          refine takeN 1 (v := ?v4_1) rfl (by kernel_rfl) (by kernel_rfl) (by kernel_rfl) (fun _ _ _ h => h) (by rfl) ?hy4_1 (by assumption) ?r4_1
          case hy4_1 => (intro w hSw; (try dsimp only at hSw); first | (go_simp; done) | (go_simp; with_reducible rfl))
          simp only [Act.put, List.setIfInBounds_toArray, List.set_cons_zero, List.set_cons_succ]
          refine takeN 2 (v := ?v4_2) rfl (by kernel_rfl) (by kernel_rfl) (by kernel_rfl) (fun _ _ _ h => h) (by rfl) ?hy4_2 (by assumption) ?r4_2
          case hy4_2 => (intro w hSw; (try dsimp only at hSw); first | (go_simp; done) | (go_simp; with_reducible rfl))
          simp only [Act.put, List.setIfInBounds_toArray, List.set_cons_zero, List.set_cons_succ]
          refine takeN 3 (v := ?v4_3) rfl (by kernel_rfl) (by kernel_rfl) (by kernel_rfl) (fun _ _ _ h => h) (by rfl) ?hy4_3 (by assumption) ?r4_3
          case hy4_3 => (intro w hSw; (try dsimp only at hSw); first | (go_simp; done) | (go_simp; with_reducible rfl))
          simp only [Act.put, List.setIfInBounds_toArray, List.set_cons_zero, List.set_cons_succ]
          refine takeN 4 (v := ?v4_4) rfl (by kernel_rfl) (by kernel_rfl) (by kernel_rfl) (fun _ _ _ h => h) (by rfl) ?hy4_4 (by assumption) ?r4_4
          case hy4_4 => (intro w hSw; (try dsimp only at hSw); first | (go_simp; done) | (go_simp; with_reducible rfl))
          simp only [Act.put, List.setIfInBounds_toArray, List.set_cons_zero, List.set_cons_succ]
          refine takeN 5 (v := ?v4_5) rfl (by kernel_rfl) (by kernel_rfl) (by kernel_rfl) (fun _ _ _ h => h) (by rfl) ?hy4_5 (by assumption) ?r4_5
          case hy4_5 => (intro w hSw; (try dsimp only at hSw); first | (go_simp; done) | (go_simp; with_reducible rfl))
          simp only [Act.put, List.setIfInBounds_toArray, List.set_cons_zero, List.set_cons_succ]
          refine takeN 6 (v := ?v4_6) rfl (by kernel_rfl) (by kernel_rfl) (by kernel_rfl) (fun _ _ _ h => h) (by rfl) ?hy4_6 (by assumption) ?r4_6
          case hy4_6 => (intro w hSw; (try dsimp only at hSw); first | (go_simp; done) | (go_simp; with_reducible rfl))
          simp only [Act.put, List.setIfInBounds_toArray, List.set_cons_zero, List.set_cons_succ]
          refine takeN 7 (v := ?v4_7) rfl (by kernel_rfl) (by kernel_rfl) (by kernel_rfl) (fun _ _ _ h => h) (by rfl) ?hy4_7 (by assumption) ?r4_7
          case hy4_7 => (intro w hSw; (try dsimp only at hSw); first | (go_simp; done) | (go_simp; with_reducible rfl))
          simp only [Act.put, List.setIfInBounds_toArray, List.set_cons_zero, List.set_cons_succ]
          refine nextN 8 (by kernel_rfl) rfl (fun K hK => ?_)
          go_simp
          go_at_call 54; refine (l3Int_any _ _).mono ?_; rintro e wA ⟨rfl, hbA⟩; have B8 := B8.below hbA; have xb := (hbA.cell (p := ⟨bb1, bo1 + k, none⟩) (by exact Nat.lt_of_lt_of_le hwb hbz.size)).trans xb; have hbz := hbz.trans (hbA.mono hbz.size); clear hbA
          go_wp2_with fail
          refine hK.out _ _ ?_ (fun hHeld => ?_)
          · exact ⟨B8.2.1 0 _ rfl, B8.2.1 1 _ rfl, xb⟩
          clear hK K
          refine takeN 9 (v := ?v4_9) rfl (by kernel_rfl) (by kernel_rfl) (by kernel_rfl) (fun _ _ _ h => h) (by rfl) ?hy4_9 (by assumption) ?r4_9
          case hy4_9 => (intro w hSw; (try dsimp only at hSw); first | (go_simp; done) | (go_simp; with_reducible rfl))
          simp only [Act.put, List.setIfInBounds_toArray, List.set_cons_zero, List.set_cons_succ]
          try simp only [q3, Bool.false_and, Bool.not_false]
          refine takeN 10 (v := ?v4_10) rfl (by kernel_rfl) (by kernel_rfl) (by kernel_rfl) (fun _ _ _ h => h) (by rfl) ?hy4_10 (by assumption) ?r4_10
          case hy4_10 => (intro w hSw; (try dsimp only at hSw); first | (go_simp; done) | (go_simp; with_reducible rfl))
          simp only [Act.put, List.setIfInBounds_toArray, List.set_cons_zero, List.set_cons_succ]
          refine wpAnyH_done (by kernel_rfl) ?_ _
          refine NoPanic.normal ?_
          go_wp2
          go_ret
          exact ⟨Pl.ret_bool HR.out.symm, hbz⟩
    · obtain rfl : k = abn := by omega
      go_wp2
      go_ret
      exact ⟨Pl.ret_bool he.out.symm, hb⟩

set_option maxHeartbeats 2000000 in
theorem gives_any (aR aBs aCs : Option Addr) (arn arc abn abc acn acc : Nat) (aRA : Nat → Option Addr) (aRN aRC : Nat → Nat) (aRV : Nat → Nat → Int) (aBV : Nat → Int) (A2 : Option Addr) (xn c2 : Nat) (XV : Fr) (B : Nat) (w : World) (arr : RdI w B aR arn aRA aRN aRC aRV) (abb : Rd w B 1 aBs abn (cellsI aBV abn)) (hx : RdP w B A2 xn XV) (hB : B ≤ w.heap.size) (ha1 : arn ≤ 1048576) (ha2 : ∀ j, j < arn → aRN j ≤ 1048576) (ha3 : abn ≤ 1048576)  (hxn : xn ≤ 1048576) (hall : ∀ i, i < arn → Pl.allIn (aRV i) (aRN i) = true) (hbn : abn = arn) :
    Calls Try.prog 73 #[.agg #[.slice aR arn arc, .slice aBs abn abc, .slice aCs acn acc], .slice A2 xn c2, .slice aBs abn abc] w fun e w' => e = .returned (.bool (Pl.allB (Pl.gq aRN aRV aBV xn XV) arn)) ∧ Below w.heap.size w w' := by
  subst hbn
  have BA : Bx (w.alloc (.cells #[.slice aR abn arc, .slice aBs abn abc, .slice aCs acn acc] 61)) w.heap.size [.slice aR abn arc, .slice aBs abn abc, .slice aCs acn acc] := Bx.new w #[.slice aR abn arc, .slice aBs abn abc, .slice aCs acn acc] 61
  have HB : Below w.heap.size w (w.alloc (.cells #[.slice aR abn arc, .slice aBs abn abc, .slice aCs acn acc] 61)) := (Below.refl _ _).alloc (Nat.le_refl _) _
  have ARH := Lib.hid arr
  have Z := Lib.hid ha2
  have AL := Lib.hid hall
  have BBH := Lib.hid abb
  have HX := Lib.hid hx
  clear arr ha2 hall abb hx
  have x0 := BA.2.1 0 _ rfl
  go_enter Try.func73, Try.ntmps73
  go_wp2
  have HBB := Lib.hid HB
  have BAH := Lib.hid BA
  clear HB BA x0
  go_loopw [7, 8, 14] (fun v7 v8 u wr => ∃ k : Nat, k ≤ abn ∧ u = .int .i64 k ∧ Hid (Pl.allB (Pl.gq aRN aRV aBV xn XV) k = true) ∧ Bx wr w.heap.size [.slice aR abn arc, .slice aBs abn abc, .slice aCs acn acc] ∧ Below w.heap.size w wr) (fun _ _ u _ => abn - (intOf u).toNat)
  case atStart => exact ⟨0, Nat.zero_le _, rfl, Lib.hid rfl, BAH.out, HBB.out⟩
  case round =>
    obtain ⟨k, hk, rfl, he, BA, hb⟩ := hrel
    have x0 := BA.2.1 0 _ rfl
    by_cases hlt : k < abn
    · obtain ⟨b1, o1, rfl, hb1, hc1⟩ := ARH.out.1 (by omega)
      have x1 := (hb.cell (p := ⟨b1, o1 + k, none⟩) (by exact Nat.lt_of_lt_of_le hb1 hB)).trans (hc1 k hlt)
      obtain ⟨bb1, bo1, rfl, hbb1, hbc1⟩ := BBH.out.2 (by omega)
      have hwb := Nat.lt_of_lt_of_le hbb1 hB
      have xb := (hb.cell (p := ⟨bb1, bo1 + k, none⟩) (by exact hwb)).trans (hbc1 k _ (cellsI_at aBV hlt))
      have k0 : (0 : Int) ≤ (k : Int) := by omega
      have k1 : (k : Int) < (abn : Int) := by omega
      have HNO := Lib.hid (fun h => Pl.allB_no (q := Pl.gq aRN aRV aBV xn XV) (n := abn) (j := k) h hlt)
      have HYE := Lib.hid (fun h => Pl.allB_yes (q := Pl.gq aRN aRV aBV xn XV) he.out h)
      unfold Pl.gq at HNO HYE
      clear hc1 hbc1
      have CN := Lib.hid (rats_any (aRA k) (aRN k) (aRC k) B (aRV k) wr ((ARH.out.2 k hlt).below' hb hB) (Nat.le_trans hB hb.size) (Z.out k hlt) (AL.out k hlt))
      have DD := Lib.hid (fun wx (HW : Below w.heap.size w wx) X c (r : RdP wx wx.heap.size X (aRN k) (unitV (aRV k))) => iDot_any X A2 (aRN k) xn c c2 wx.heap.size (unitV (aRV k)) XV wx r ((HX.out.below HW hB).more (Nat.le_trans hB HW.size)) (Nat.le_refl _) (by have := Z.out k hlt; omega) (by omega))
      generalize Pl.dot (aRN k) (unitV (aRV k)) xn XV = dd at DD HNO HYE
      obtain ⟨px, py, pk⟩ := dd
      dsimp only at DD HNO HYE
      obtain ⟨m1, e1⟩ : ∃ m, m = aRA k := ⟨_, rfl⟩
      obtain ⟨u1, e3⟩ : ∃ m, m = aRN k := ⟨_, rfl⟩
      obtain ⟨d1, e5⟩ : ∃ m, m = aRC k := ⟨_, rfl⟩
      rw [← e1, ← e3, ← e5] at x1 CN
      rw [← e3] at DD
      generalize unitV (aRV k) = UV at CN DD
      clear e1 e3 e5
      obtain ⟨bk, ebk⟩ : ∃ m, m = aBV k := ⟨_, rfl⟩
      rw [← ebk] at xb HNO HYE
      clear ebk
      go_wp2_with fail
      refine CN.out.mono ?_
      rintro e w5 ⟨X, c', rfl, r, hb2⟩
      have BA := BA.below hb2
      have xb := (hb2.cell (p := ⟨bb1, bo1 + k, none⟩) (by exact Nat.lt_of_lt_of_le hwb hb.size)).trans xb
      have hb := hb.trans (hb2.mono hb.size)
      have C2 := Lib.hid (DD.out w5 hb X c' r)
      clear hb2 CN DD r
      go_wp2_with fail
      refine C2.out.mono ?_
      rintro e wo ⟨rfl, hb2⟩
      clear C2
      have BA := BA.below hb2
      have xb := (hb2.cell (p := ⟨bb1, bo1 + k, none⟩) (by exact Nat.lt_of_lt_of_le hwb hb.size)).trans xb
      have hb := hb.trans (hb2.mono hb.size)
      clear hb2
      obtain ⟨qx, ex⟩ : ∃ q, q = px := ⟨_, rfl⟩
      obtain ⟨qy, ey⟩ : ∃ q, q = py := ⟨_, rfl⟩
      have EQX : pk = true → qx = px ∧ qy = py := fun _ => ⟨ex, ey⟩
      rw [← ex, ← ey]
      clear ex ey
      cases pk
      · have HR := Lib.hid (HNO.out rfl)
        go_upto_region 5 with fail
        have B8 := (Bx.new wo #[.int .i64 qx, .int .i64 qy] 44).below ((Below.refl _ _).drew)
        have hbz := (hb.alloc hb.size (.cells #[.int .i64 qx, .int .i64 qy] 44)).drew
        have xb := ((Below.refl wo.heap.size wo).alloc (Nat.le_refl _) (.cells #[.int .i64 qx, .int .i64 qy] 44)).drew.cell (p := ⟨bb1, bo1 + k, none⟩) (by exact Nat.lt_of_lt_of_le hwb hb.size) |>.trans xb
        refine wp_region_noPanic ?_
        refine wp_region_held_drew (S := (fun w' => w'.cell? ⟨wo.heap.size, 0, none⟩ = some (.int .i64 qx) ∧ w'.cell? ⟨wo.heap.size, 1, none⟩ = some (.int .i64 qy) ∧ w'.cell? ⟨bb1, bo1 + k, none⟩ = some (.int .i64 bk))) (by kernel_rfl) ?_ (fun hHeld => ?_)
        · exact ⟨B8.2.1 0 _ rfl, B8.2.1 1 _ rfl, xb⟩
        refine takeN 0 (v := ?v5_0) rfl (by kernel_rfl) (by kernel_rfl) (by kernel_rfl) (fun _ _ _ h => h) (by rfl) ?hy5_0 (by assumption) ?r5_0
        case hy5_0 => (intro w hSw; (try dsimp only at hSw); first | (go_simp; done) | (go_simp; with_reducible rfl))
        simp only [Act.put, List.setIfInBounds_toArray, List.set_cons_zero, List.set_cons_succ]
        refine takeN 1 (v := ?v5_1) rfl (by kernel_rfl) (by kernel_rfl) (by kernel_rfl) (fun _ _ _ h => h) (by rfl) ?hy5_1 (by assumption) ?r5_1
        case hy5_1 => (intro w hSw; (try dsimp only at hSw); first | (go_simp; done) | (go_simp; with_reducible rfl))
        simp only [Act.put, List.setIfInBounds_toArray, List.set_cons_zero, List.set_cons_succ]
        refine takeN 2 (v := ?v5_2) rfl (by kernel_rfl) (by kernel_rfl) (by kernel_rfl) (fun _ _ _ h => h) (by rfl) ?hy5_2 (by assumption) ?r5_2
        case hy5_2 => (intro w hSw; (try dsimp only at hSw); first | (go_simp; done) | (go_simp; with_reducible rfl))
        simp only [Act.put, List.setIfInBounds_toArray, List.set_cons_zero, List.set_cons_succ]
        refine skipN 3 rfl (by kernel_rfl) (by kernel_rfl) (by kernel_rfl) (fun _ _ _ h => h) (by rfl) (by assumption) ?_
        simp only [Act.put, List.setIfInBounds_toArray, List.set_cons_zero, List.set_cons_succ]
        refine skipN 4 rfl (by kernel_rfl) (by kernel_rfl) (by kernel_rfl) (fun _ _ _ h => h) (by rfl) (by assumption) ?_
        simp only [Act.put, List.setIfInBounds_toArray, List.set_cons_zero, List.set_cons_succ]
        refine skipN 5 rfl (by kernel_rfl) (by kernel_rfl) (by kernel_rfl) (fun _ _ _ h => h) (by rfl) (by assumption) ?_
        simp only [Act.put, List.setIfInBounds_toArray, List.set_cons_zero, List.set_cons_succ]
        refine skipN 6 rfl (by kernel_rfl) (by kernel_rfl) (by kernel_rfl) (fun _ _ _ h => h) (by rfl) (by assumption) ?_
        simp only [Act.put, List.setIfInBounds_toArray, List.set_cons_zero, List.set_cons_succ]
        refine skipN 7 rfl (by kernel_rfl) (by kernel_rfl) (by kernel_rfl) (fun _ _ _ h => h) (by rfl) (by assumption) ?_
        simp only [Act.put, List.setIfInBounds_toArray, List.set_cons_zero, List.set_cons_succ]
        refine nextN 8 (by kernel_rfl) rfl (fun K hK => ?_)
        go_simp
        refine hK.out _ _ ?_ (fun hHeld => ?_)
        · assumption
        clear hK K
        refine skipN 9 rfl (by kernel_rfl) (by kernel_rfl) (by kernel_rfl) (fun _ _ _ h => h) (by rfl) (by assumption) ?_
        simp only [Act.put, List.setIfInBounds_toArray, List.set_cons_zero, List.set_cons_succ]
        refine takeN 10 (v := ?v5_10) rfl (by kernel_rfl) (by kernel_rfl) (by kernel_rfl) (fun _ _ _ h => h) (by rfl) ?hy5_10 (by assumption) ?r5_10
        case hy5_10 => (intro w hSw; (try dsimp only at hSw); first | (go_simp; done) | (go_simp; with_reducible rfl))
        simp only [Act.put, List.setIfInBounds_toArray, List.set_cons_zero, List.set_cons_succ]
        refine wpAnyH_done (by kernel_rfl) ?_ _
        refine NoPanic.normal ?_
        go_wp2
        go_ret
        exact ⟨Pl.ret_bool HR.out.symm, hbz⟩
      · obtain ⟨rfl, rfl⟩ := EQX rfl
        by_cases q1 : qx = bk
        · subst q1
          by_cases q2 : qy = 1
          · have HY := Lib.hid (HYE.out (by rw [q2]; simp))
            subst q2
            go_upto_region 5 with fail
            have B8 := (Bx.new wo #[.int .i64 qx, .int .i64 1] 44).below ((Below.refl _ _).drew)
            have BA := BA.below ((Below.refl wo.heap.size wo).alloc (Nat.le_refl _) (.cells #[.int .i64 qx, .int .i64 1] 44)).drew
            have hbz := (hb.alloc hb.size (.cells #[.int .i64 qx, .int .i64 1] 44)).drew
            have xb := ((Below.refl wo.heap.size wo).alloc (Nat.le_refl _) (.cells #[.int .i64 qx, .int .i64 1] 44)).drew.cell (p := ⟨bb1, bo1 + k, none⟩) (by exact Nat.lt_of_lt_of_le hwb hb.size) |>.trans xb
            refine wp_region_noPanic ?_
            refine wp_region_held_drew (S := (fun w' => w'.cell? ⟨wo.heap.size, 0, none⟩ = some (.int .i64 qx) ∧ w'.cell? ⟨wo.heap.size, 1, none⟩ = some (.int .i64 1) ∧ w'.cell? ⟨bb1, bo1 + k, none⟩ = some (.int .i64 qx))) (by kernel_rfl) ?_ (fun hHeld => ?_)
            · exact ⟨B8.2.1 0 _ rfl, B8.2.1 1 _ rfl, xb⟩
            refine takeN 0 (v := ?v6_0) rfl (by kernel_rfl) (by kernel_rfl) (by kernel_rfl) (fun _ _ _ h => h) (by rfl) ?hy6_0 (by assumption) ?r6_0
            case hy6_0 => (intro w hSw; (try dsimp only at hSw); first | (go_simp; done) | (go_simp; with_reducible rfl))
            simp only [Act.put, List.setIfInBounds_toArray, List.set_cons_zero, List.set_cons_succ]
            refine takeN 1 (v := ?v6_1) rfl (by kernel_rfl) (by kernel_rfl) (by kernel_rfl) (fun _ _ _ h => h) (by rfl) ?hy6_1 (by assumption) ?r6_1
            case hy6_1 => (intro w hSw; (try dsimp only at hSw); first | (go_simp; done) | (go_simp; with_reducible rfl))
            simp only [Act.put, List.setIfInBounds_toArray, List.set_cons_zero, List.set_cons_succ]
            refine takeN 2 (v := ?v6_2) rfl (by kernel_rfl) (by kernel_rfl) (by kernel_rfl) (fun _ _ _ h => h) (by rfl) ?hy6_2 (by assumption) ?r6_2
            case hy6_2 => (intro w hSw; (try dsimp only at hSw); first | (go_simp; done) | (go_simp; with_reducible rfl))
            simp only [Act.put, List.setIfInBounds_toArray, List.set_cons_zero, List.set_cons_succ]
            refine takeN 3 (v := ?v6_3) rfl (by kernel_rfl) (by kernel_rfl) (by kernel_rfl) (fun _ _ _ h => h) (by rfl) ?hy6_3 (by assumption) ?r6_3
            case hy6_3 => (intro w hSw; (try dsimp only at hSw); first | (go_simp; done) | (go_simp; with_reducible rfl))
            simp only [Act.put, List.setIfInBounds_toArray, List.set_cons_zero, List.set_cons_succ]
            refine takeN 4 (v := ?v6_4) rfl (by kernel_rfl) (by kernel_rfl) (by kernel_rfl) (fun _ _ _ h => h) (by rfl) ?hy6_4 (by assumption) ?r6_4
            case hy6_4 => (intro w hSw; (try dsimp only at hSw); first | (go_simp; done) | (go_simp; with_reducible rfl))
            simp only [Act.put, List.setIfInBounds_toArray, List.set_cons_zero, List.set_cons_succ]
            refine takeN 5 (v := ?v6_5) rfl (by kernel_rfl) (by kernel_rfl) (by kernel_rfl) (fun _ _ _ h => h) (by rfl) ?hy6_5 (by assumption) ?r6_5
            case hy6_5 => (intro w hSw; (try dsimp only at hSw); first | (go_simp; done) | (go_simp; with_reducible rfl))
            simp only [Act.put, List.setIfInBounds_toArray, List.set_cons_zero, List.set_cons_succ]
            refine takeN 6 (v := ?v6_6) rfl (by kernel_rfl) (by kernel_rfl) (by kernel_rfl) (fun _ _ _ h => h) (by rfl) ?hy6_6 (by assumption) ?r6_6
            case hy6_6 => (intro w hSw; (try dsimp only at hSw); first | (go_simp; done) | (go_simp; with_reducible rfl))
            simp only [Act.put, List.setIfInBounds_toArray, List.set_cons_zero, List.set_cons_succ]
            refine takeN 7 (v := ?v6_7) rfl (by kernel_rfl) (by kernel_rfl) (by kernel_rfl) (fun _ _ _ h => h) (by rfl) ?hy6_7 (by assumption) ?r6_7
            case hy6_7 => (intro w hSw; (try dsimp only at hSw); first | (go_simp; done) | (go_simp; with_reducible rfl))
            simp only [Act.put, List.setIfInBounds_toArray, List.set_cons_zero, List.set_cons_succ]
            refine nextN 8 (by kernel_rfl) rfl (fun K hK => ?_)
            go_simp
            go_at_call 56; refine (whole_any _ _).mono ?_; rintro e wA ⟨rfl, hbA⟩; have B8 := B8.below hbA; have BA := BA.below hbA; have xb := (hbA.cell (p := ⟨bb1, bo1 + k, none⟩) (by exact Nat.lt_of_lt_of_le hwb hbz.size)).trans xb; have hbz := hbz.trans (hbA.mono hbz.size); clear hbA
            go_wp2_with fail
            refine hK.out _ _ ?_ (fun hHeld => ?_)
            · exact ⟨B8.2.1 0 _ rfl, B8.2.1 1 _ rfl, xb⟩
            clear hK K
            refine takeN 9 (v := ?v6_9) rfl (by kernel_rfl) (by kernel_rfl) (by kernel_rfl) (fun _ _ _ h => h) (by rfl) ?hy6_9 (by assumption) ?r6_9
            case hy6_9 => (intro w hSw; (try dsimp only at hSw); first | (go_simp; done) | (go_simp; with_reducible rfl))
            simp only [Act.put, List.setIfInBounds_toArray, List.set_cons_zero, List.set_cons_succ]
            refine takeN 10 (v := ?v6_10) rfl (by kernel_rfl) (by kernel_rfl) (by kernel_rfl) (fun _ _ _ h => h) (by rfl) ?hy6_10 (by assumption) ?r6_10
            case hy6_10 => (intro w hSw; (try dsimp only at hSw); first | (go_simp; done) | (go_simp; with_reducible rfl))
            simp only [Act.put, List.setIfInBounds_toArray, List.set_cons_zero, List.set_cons_succ]
            refine wpAnyH_done (by kernel_rfl) ?_ _
            refine NoPanic.normal ?_
            go_wp2
            go_roundw
            case rel => exact ⟨k + 1, by omega, by go_num, HY, BA, hbz⟩
            case measure => simp [intOf]; omega
          · have HR := Lib.hid (HNO.out (by rw [beq_eq_false_iff_ne.2 q2]; simp))
            have q3 := beq_eq_false_iff_ne.2 q2
            go_upto_region 5 with fail
            have B8 := (Bx.new wo #[.int .i64 qx, .int .i64 qy] 44).below ((Below.refl _ _).drew)
            have hbz := (hb.alloc hb.size (.cells #[.int .i64 qx, .int .i64 qy] 44)).drew
            have xb := ((Below.refl wo.heap.size wo).alloc (Nat.le_refl _) (.cells #[.int .i64 qx, .int .i64 qy] 44)).drew.cell (p := ⟨bb1, bo1 + k, none⟩) (by exact Nat.lt_of_lt_of_le hwb hb.size) |>.trans xb
            refine wp_region_noPanic ?_
            refine wp_region_held_drew (S := (fun w' => w'.cell? ⟨wo.heap.size, 0, none⟩ = some (.int .i64 qx) ∧ w'.cell? ⟨wo.heap.size, 1, none⟩ = some (.int .i64 qy) ∧ w'.cell? ⟨bb1, bo1 + k, none⟩ = some (.int .i64 qx))) (by kernel_rfl) ?_ (fun hHeld => ?_)
            · exact ⟨B8.2.1 0 _ rfl, B8.2.1 1 _ rfl, xb⟩
            refine takeN 0 (v := ?v7_0) rfl (by kernel_rfl) (by kernel_rfl) (by kernel_rfl) (fun _ _ _ h => h) (by rfl) ?hy7_0 (by assumption) ?r7_0
            case hy7_0 => (intro w hSw; (try dsimp only at hSw); first | (go_simp; done) | (go_simp; with_reducible rfl))
            simp only [Act.put, List.setIfInBounds_toArray, List.set_cons_zero, List.set_cons_succ]
            refine takeN 1 (v := ?v7_1) rfl (by kernel_rfl) (by kernel_rfl) (by kernel_rfl) (fun _ _ _ h => h) (by rfl) ?hy7_1 (by assumption) ?r7_1
            case hy7_1 => (intro w hSw; (try dsimp only at hSw); first | (go_simp; done) | (go_simp; with_reducible rfl))
            simp only [Act.put, List.setIfInBounds_toArray, List.set_cons_zero, List.set_cons_succ]
            refine takeN 2 (v := ?v7_2) rfl (by kernel_rfl) (by kernel_rfl) (by kernel_rfl) (fun _ _ _ h => h) (by rfl) ?hy7_2 (by assumption) ?r7_2
            case hy7_2 => (intro w hSw; (try dsimp only at hSw); first | (go_simp; done) | (go_simp; with_reducible rfl))
            simp only [Act.put, List.setIfInBounds_toArray, List.set_cons_zero, List.set_cons_succ]
            refine takeN 3 (v := ?v7_3) rfl (by kernel_rfl) (by kernel_rfl) (by kernel_rfl) (fun _ _ _ h => h) (by rfl) ?hy7_3 (by assumption) ?r7_3
            case hy7_3 => (intro w hSw; (try dsimp only at hSw); first | (go_simp; done) | (go_simp; with_reducible rfl))
            simp only [Act.put, List.setIfInBounds_toArray, List.set_cons_zero, List.set_cons_succ]
            refine takeN 4 (v := ?v7_4) rfl (by kernel_rfl) (by kernel_rfl) (by kernel_rfl) (fun _ _ _ h => h) (by rfl) ?hy7_4 (by assumption) ?r7_4
            case hy7_4 => (intro w hSw; (try dsimp only at hSw); first | (go_simp; done) | (go_simp; with_reducible rfl))
            simp only [Act.put, List.setIfInBounds_toArray, List.set_cons_zero, List.set_cons_succ]
            refine takeN 5 (v := ?v7_5) rfl (by kernel_rfl) (by kernel_rfl) (by kernel_rfl) (fun _ _ _ h => h) (by rfl) ?hy7_5 (by assumption) ?r7_5
            case hy7_5 => (intro w hSw; (try dsimp only at hSw); first | (go_simp; done) | (go_simp; with_reducible rfl))
            simp only [Act.put, List.setIfInBounds_toArray, List.set_cons_zero, List.set_cons_succ]
            refine takeN 6 (v := ?v7_6) rfl (by kernel_rfl) (by kernel_rfl) (by kernel_rfl) (fun _ _ _ h => h) (by rfl) ?hy7_6 (by assumption) ?r7_6
            case hy7_6 => (intro w hSw; (try dsimp only at hSw); first | (go_simp; done) | (go_simp; with_reducible rfl))
            simp only [Act.put, List.setIfInBounds_toArray, List.set_cons_zero, List.set_cons_succ]
            refine takeN 7 (v := ?v7_7) rfl (by kernel_rfl) (by kernel_rfl) (by kernel_rfl) (fun _ _ _ h => h) (by rfl) ?hy7_7 (by assumption) ?r7_7
            case hy7_7 => (intro w hSw; (try dsimp only at hSw); first | (go_simp; done) | (go_simp; with_reducible rfl))
            simp only [Act.put, List.setIfInBounds_toArray, List.set_cons_zero, List.set_cons_succ]
            refine nextN 8 (by kernel_rfl) rfl (fun K hK => ?_)
            go_simp
            go_at_call 56; refine (whole_any _ _).mono ?_; rintro e wA ⟨rfl, hbA⟩; have B8 := B8.below hbA; have xb := (hbA.cell (p := ⟨bb1, bo1 + k, none⟩) (by exact Nat.lt_of_lt_of_le hwb hbz.size)).trans xb; have hbz := hbz.trans (hbA.mono hbz.size); clear hbA
            go_wp2_with fail
            refine hK.out _ _ ?_ (fun hHeld => ?_)
            · exact ⟨B8.2.1 0 _ rfl, B8.2.1 1 _ rfl, xb⟩
            clear hK K
            refine takeN 9 (v := ?v7_9) rfl (by kernel_rfl) (by kernel_rfl) (by kernel_rfl) (fun _ _ _ h => h) (by rfl) ?hy7_9 (by assumption) ?r7_9
            case hy7_9 => (intro w hSw; (try dsimp only at hSw); first | (go_simp; done) | (go_simp; with_reducible rfl))
            simp only [Act.put, List.setIfInBounds_toArray, List.set_cons_zero, List.set_cons_succ]
            try simp only [q3, Bool.and_false, Bool.not_false]
            refine takeN 10 (v := ?v7_10) rfl (by kernel_rfl) (by kernel_rfl) (by kernel_rfl) (fun _ _ _ h => h) (by rfl) ?hy7_10 (by assumption) ?r7_10
            case hy7_10 => (intro w hSw; (try dsimp only at hSw); first | (go_simp; done) | (go_simp; with_reducible rfl))
            simp only [Act.put, List.setIfInBounds_toArray, List.set_cons_zero, List.set_cons_succ]
            refine wpAnyH_done (by kernel_rfl) ?_ _
            refine NoPanic.normal ?_
            go_wp2
            go_ret
            exact ⟨Pl.ret_bool HR.out.symm, hbz⟩
        · have HR := Lib.hid (HNO.out (by rw [beq_eq_false_iff_ne.2 q1]; simp))
          have q3 := beq_eq_false_iff_ne.2 q1
          go_upto_region 5 with fail
          have B8 := (Bx.new wo #[.int .i64 qx, .int .i64 qy] 44).below ((Below.refl _ _).drew)
          have hbz := (hb.alloc hb.size (.cells #[.int .i64 qx, .int .i64 qy] 44)).drew
          have xb := ((Below.refl wo.heap.size wo).alloc (Nat.le_refl _) (.cells #[.int .i64 qx, .int .i64 qy] 44)).drew.cell (p := ⟨bb1, bo1 + k, none⟩) (by exact Nat.lt_of_lt_of_le hwb hb.size) |>.trans xb
          refine wp_region_noPanic ?_
          refine wp_region_held_drew (S := (fun w' => w'.cell? ⟨wo.heap.size, 0, none⟩ = some (.int .i64 qx) ∧ w'.cell? ⟨wo.heap.size, 1, none⟩ = some (.int .i64 qy) ∧ w'.cell? ⟨bb1, bo1 + k, none⟩ = some (.int .i64 bk))) (by kernel_rfl) ?_ (fun hHeld => ?_)
          · exact ⟨B8.2.1 0 _ rfl, B8.2.1 1 _ rfl, xb⟩
          refine takeN 0 (v := ?v8_0) rfl (by kernel_rfl) (by kernel_rfl) (by kernel_rfl) (fun _ _ _ h => h) (by rfl) ?hy8_0 (by assumption) ?r8_0
          case hy8_0 => (intro w hSw; (try dsimp only at hSw); first | (go_simp; done) | (go_simp; with_reducible rfl))
          simp only [Act.put, List.setIfInBounds_toArray, List.set_cons_zero, List.set_cons_succ]
          refine takeN 1 (v := ?v8_1) rfl (by kernel_rfl) (by kernel_rfl) (by kernel_rfl) (fun _ _ _ h => h) (by rfl) ?hy8_1 (by assumption) ?r8_1
          case hy8_1 => (intro w hSw; (try dsimp only at hSw); first | (go_simp; done) | (go_simp; with_reducible rfl))
          simp only [Act.put, List.setIfInBounds_toArray, List.set_cons_zero, List.set_cons_succ]
          refine takeN 2 (v := ?v8_2) rfl (by kernel_rfl) (by kernel_rfl) (by kernel_rfl) (fun _ _ _ h => h) (by rfl) ?hy8_2 (by assumption) ?r8_2
          case hy8_2 => (intro w hSw; (try dsimp only at hSw); first | (go_simp; done) | (go_simp; with_reducible rfl))
          simp only [Act.put, List.setIfInBounds_toArray, List.set_cons_zero, List.set_cons_succ]
          refine takeN 3 (v := ?v8_3) rfl (by kernel_rfl) (by kernel_rfl) (by kernel_rfl) (fun _ _ _ h => h) (by rfl) ?hy8_3 (by assumption) ?r8_3
          case hy8_3 => (intro w hSw; (try dsimp only at hSw); first | (go_simp; done) | (go_simp; with_reducible rfl))
          simp only [Act.put, List.setIfInBounds_toArray, List.set_cons_zero, List.set_cons_succ]
          refine takeN 4 (v := ?v8_4) rfl (by kernel_rfl) (by kernel_rfl) (by kernel_rfl) (fun _ _ _ h => h) (by rfl) ?hy8_4 (by assumption) ?r8_4
          case hy8_4 => (intro w hSw; (try dsimp only at hSw); first | (go_simp; done) | (go_simp; with_reducible rfl))
          simp only [Act.put, List.setIfInBounds_toArray, List.set_cons_zero, List.set_cons_succ]
          refine takeN 5 (v := ?v8_5) rfl (by kernel_rfl) (by kernel_rfl) (by kernel_rfl) (fun _ _ _ h => h) (by rfl) ?hy8_5 (by assumption) ?r8_5
          case hy8_5 => (intro w hSw; (try dsimp only at hSw); first | (go_simp; done) | (go_simp; with_reducible rfl))
          simp only [Act.put, List.setIfInBounds_toArray, List.set_cons_zero, List.set_cons_succ]
          refine takeN 6 (v := ?v8_6) rfl (by kernel_rfl) (by kernel_rfl) (by kernel_rfl) (fun _ _ _ h => h) (by rfl) ?hy8_6 (by assumption) ?r8_6
          case hy8_6 => (intro w hSw; (try dsimp only at hSw); first | (go_simp; done) | (go_simp; with_reducible rfl))
          simp only [Act.put, List.setIfInBounds_toArray, List.set_cons_zero, List.set_cons_succ]
          refine takeN 7 (v := ?v8_7) rfl (by kernel_rfl) (by kernel_rfl) (by kernel_rfl) (fun _ _ _ h => h) (by rfl) ?hy8_7 (by assumption) ?r8_7
          case hy8_7 => (intro w hSw; (try dsimp only at hSw); first | (go_simp; done) | (go_simp; with_reducible rfl))
          simp only [Act.put, List.setIfInBounds_toArray, List.set_cons_zero, List.set_cons_succ]
          refine nextN 8 (by kernel_rfl) rfl (fun K hK => ?_)
          go_simp
          go_at_call 56; refine (whole_any _ _).mono ?_; rintro e wA ⟨rfl, hbA⟩; have B8 := B8.below hbA; have xb := (hbA.cell (p := ⟨bb1, bo1 + k, none⟩) (by exact Nat.lt_of_lt_of_le hwb hbz.size)).trans xb; have hbz := hbz.trans (hbA.mono hbz.size); clear hbA
          go_wp2_with fail
          refine hK.out _ _ ?_ (fun hHeld => ?_)
          · exact ⟨B8.2.1 0 _ rfl, B8.2.1 1 _ rfl, xb⟩
          clear hK K
          refine takeN 9 (v := ?v8_9) rfl (by kernel_rfl) (by kernel_rfl) (by kernel_rfl) (fun _ _ _ h => h) (by rfl) ?hy8_9 (by assumption) ?r8_9
          case hy8_9 => (intro w hSw; (try dsimp only at hSw); first | (go_simp; done) | (go_simp; with_reducible rfl))
          simp only [Act.put, List.setIfInBounds_toArray, List.set_cons_zero, List.set_cons_succ]
          try simp only [q3, Bool.false_and, Bool.not_false]
          refine takeN 10 (v := ?v8_10) rfl (by kernel_rfl) (by kernel_rfl) (by kernel_rfl) (fun _ _ _ h => h) (by rfl) ?hy8_10 (by assumption) ?r8_10
          case hy8_10 => (intro w hSw; (try dsimp only at hSw); first | (go_simp; done) | (go_simp; with_reducible rfl))
          simp only [Act.put, List.setIfInBounds_toArray, List.set_cons_zero, List.set_cons_succ]
          refine wpAnyH_done (by kernel_rfl) ?_ _
          refine NoPanic.normal ?_
          go_wp2
          go_ret
          exact ⟨Pl.ret_bool HR.out.symm, hbz⟩
    · obtain rfl : k = abn := by omega
      go_wp2
      go_ret
      exact ⟨Pl.ret_bool he.out.symm, hb⟩

set_option maxHeartbeats 2000000 in
theorem sFeas_any (aR aBs aCs : Option Addr) (arn arc abn abc acn acc : Nat) (aRA : Nat → Option Addr) (aRN aRC : Nat → Nat) (aRV : Nat → Nat → Int) (aBV : Nat → Int) (aCV : Fr) (A2 : Option Addr) (xn c2 : Nat) (XV : Fr) (B : Nat) (w : World) (arr : RdI w B aR arn aRA aRN aRC aRV) (abb : Rd w B 1 aBs abn (cellsI aBV abn)) (acr : RdP w B aCs acn aCV) (hx : RdP w B A2 xn XV) (hB : B ≤ w.heap.size) (ha1 : arn ≤ 1048576) (ha2 : ∀ j, j < arn → aRN j ≤ 1048576) (ha3 : abn ≤ 1048576) (ha4 : acn ≤ 1048576) (hxn : xn ≤ 1048576) :
    Calls Try.prog 46 #[.agg #[.slice aR arn arc, .slice aBs abn abc, .slice aCs acn acc], .slice A2 xn c2] w fun e w' => e = .returned (.bool (Pl.feas acn arn aRN aRV abn aBV aCV xn XV)) ∧ Below w.heap.size w w' := by
  have BA : Bx (w.alloc (.cells #[.slice aR arn arc, .slice aBs abn abc, .slice aCs acn acc] 61)) w.heap.size [.slice aR arn arc, .slice aBs abn abc, .slice aCs acn acc] := Bx.new w #[.slice aR arn arc, .slice aBs abn abc, .slice aCs acn acc] 61
  have HB : Below w.heap.size w (w.alloc (.cells #[.slice aR arn arc, .slice aBs abn abc, .slice aCs acn acc] 61)) := (Below.refl _ _).alloc (Nat.le_refl _) _
  have C1 := Lib.hid (sValidLP_any aR aBs aCs arn arc abn abc acn acc aRA aRN aRC aRV aBV aCV B (w.alloc (.cells #[.slice aR arn arc, .slice aBs abn abc, .slice aCs acn acc] 61)) (arr.below HB hB) (abb.below' HB hB) (acr.below HB hB) (Nat.le_trans hB HB.size) ha1 ha2 ha3 ha4)
  have C2 := Lib.hid (fun wx (H : Below w.heap.size w wx) => l5NotNeg_any A2 xn c2 B XV wx (hx.below H hB) (Nat.le_trans hB H.size) (by omega))
  have C3 := Lib.hid (fun wx (H : Below w.heap.size w wx) h1 h2 => l5Gives_any aR aBs aCs arn arc abn abc acn acc aRA aRN aRC aRV aBV A2 xn c2 XV B wx (arr.below H hB) (abb.below' H hB) (hx.below H hB) (Nat.le_trans hB H.size) ha1 ha2 ha3 hxn h1 h2)
  unfold Pl.feas
  clear arr abb acr hx ha2
  cases hv : Pl.validLP acn arn aRN aRV abn aBV aCV
  · rw [hv] at C1
    rw [Bool.false_and, Bool.false_and, Bool.false_and]
    clear hv
    have x0 := BA.2.1 0 _ rfl
    have x1 := BA.2.1 1 _ rfl
    have x2 := BA.2.1 2 _ rfl
    go_enter Try.func46, Try.ntmps46
    go_wp2_with fail
    refine C1.out.mono ?_
    rintro e w1 ⟨rfl, hb⟩
    go_wp2
    go_ret
    exact ⟨rfl, HB.trans (hb.mono HB.size)⟩
  · rw [hv] at C1
    rw [Bool.true_and]
    have HV := Lib.hid hv
    clear hv
    have q := Pl.validLP_facts HV.out
    have hbn := q.2.2.1
    clear q
    have C3 := Lib.hid (fun wx (H : Below w.heap.size w wx) => C3.out wx H (Pl.validLP_rows HV.out) hbn)
    generalize Pl.allB (Pl.pos XV) xn = vp at C2 ⊢
    generalize Pl.allB (Pl.gq aRN aRV aBV xn XV) arn = vg at C3 ⊢
    clear hbn HV
    have x0 := BA.2.1 0 _ rfl
    have x1 := BA.2.1 1 _ rfl
    have x2 := BA.2.1 2 _ rfl
    by_cases hq : xn = acn
    · subst hq
      rw [beq_self_eq_true, Bool.true_and]
      go_enter Try.func46, Try.ntmps46
      go_wp2_with fail
      refine C1.out.mono ?_
      rintro e w1 ⟨rfl, hb⟩
      have BA := BA.below hb
      have HB := HB.trans (hb.mono HB.size)
      clear hb C1 x0 x1 x2
      have x0 := BA.2.1 0 _ rfl
      have x1 := BA.2.1 1 _ rfl
      have x2 := BA.2.1 2 _ rfl
      have C2 := Lib.hid (C2.out w1 HB)
      go_wp2_with fail
      refine C2.out.mono ?_
      rintro e w2 ⟨rfl, hb⟩
      have BA := BA.below hb
      have HB := HB.trans (hb.mono HB.size)
      clear hb C2 x0 x1 x2
      have x0 := BA.2.1 0 _ rfl
      have x1 := BA.2.1 1 _ rfl
      have x2 := BA.2.1 2 _ rfl
      have C3 := Lib.hid (C3.out w2 HB)
      cases vp
      · go_wp2
        go_ret
        exact ⟨rfl, HB⟩
      · go_wp2_with fail
        refine C3.out.mono ?_
        rintro e w3 ⟨rfl, hb⟩
        have HB := HB.trans (hb.mono HB.size)
        go_wp2
        go_ret
        exact ⟨Pl.ret_bool (by simp), HB⟩
    · have q2 := beq_eq_false_iff_ne.2 (show (xn : Int) ≠ (acn : Int) by omega)
      have q1 := beq_eq_false_iff_ne.2 hq
      rw [q1, Bool.false_and, Bool.false_and]
      clear hq q1
      go_enter Try.func46, Try.ntmps46
      go_wp2_with fail
      refine C1.out.mono ?_
      rintro e w1 ⟨rfl, hb⟩
      have BA := BA.below hb
      have HB := HB.trans (hb.mono HB.size)
      clear hb C1 x0 x1 x2
      have x0 := BA.2.1 0 _ rfl
      have x1 := BA.2.1 1 _ rfl
      have x2 := BA.2.1 2 _ rfl
      go_wp2
      go_ret
      exact ⟨rfl, HB⟩

set_option maxHeartbeats 2000000 in
theorem iFeas_any (aR aBs aCs : Option Addr) (arn arc abn abc acn acc : Nat) (aRA : Nat → Option Addr) (aRN aRC : Nat → Nat) (aRV : Nat → Nat → Int) (aBV : Nat → Int) (aCV : Fr) (A2 : Option Addr) (xn c2 : Nat) (XV : Fr) (B : Nat) (w : World) (arr : RdI w B aR arn aRA aRN aRC aRV) (abb : Rd w B 1 aBs abn (cellsI aBV abn)) (acr : RdP w B aCs acn aCV) (hx : RdP w B A2 xn XV) (hB : B ≤ w.heap.size) (ha1 : arn ≤ 1048576) (ha2 : ∀ j, j < arn → aRN j ≤ 1048576) (ha3 : abn ≤ 1048576) (ha4 : acn ≤ 1048576) (hxn : xn ≤ 1048576) :
    Calls Try.prog 47 #[.agg #[.slice aR arn arc, .slice aBs abn abc, .slice aCs acn acc], .slice A2 xn c2] w fun e w' => e = .returned (.bool (Pl.feas acn arn aRN aRV abn aBV aCV xn XV)) ∧ Below w.heap.size w w' := by
  have BA : Bx (w.alloc (.cells #[.slice aR arn arc, .slice aBs abn abc, .slice aCs acn acc] 61)) w.heap.size [.slice aR arn arc, .slice aBs abn abc, .slice aCs acn acc] := Bx.new w #[.slice aR arn arc, .slice aBs abn abc, .slice aCs acn acc] 61
  have HB : Below w.heap.size w (w.alloc (.cells #[.slice aR arn arc, .slice aBs abn abc, .slice aCs acn acc] 61)) := (Below.refl _ _).alloc (Nat.le_refl _) _
  have C1 := Lib.hid (iValidLP_any aR aBs aCs arn arc abn abc acn acc aRA aRN aRC aRV aBV aCV B (w.alloc (.cells #[.slice aR arn arc, .slice aBs abn abc, .slice aCs acn acc] 61)) (arr.below HB hB) (abb.below' HB hB) (acr.below HB hB) (Nat.le_trans hB HB.size) ha1 ha2 ha3 ha4)
  have C2 := Lib.hid (fun wx (H : Below w.heap.size w wx) => notNeg_any A2 xn acn c2 B XV wx (hx.below H hB) (Nat.le_trans hB H.size) (by omega))
  have C3 := Lib.hid (fun wx (H : Below w.heap.size w wx) h1 h2 => gives_any aR aBs aCs arn arc abn abc acn acc aRA aRN aRC aRV aBV A2 xn c2 XV B wx (arr.below H hB) (abb.below' H hB) (hx.below H hB) (Nat.le_trans hB H.size) ha1 ha2 ha3 hxn h1 h2)
  unfold Pl.feas
  clear arr abb acr hx ha2
  cases hv : Pl.validLP acn arn aRN aRV abn aBV aCV
  · rw [hv] at C1
    rw [Bool.false_and, Bool.false_and, Bool.false_and]
    clear hv
    have x0 := BA.2.1 0 _ rfl
    have x1 := BA.2.1 1 _ rfl
    have x2 := BA.2.1 2 _ rfl
    go_enter Try.func47, Try.ntmps47
    go_wp2_with fail
    refine C1.out.mono ?_
    rintro e w1 ⟨rfl, hb⟩
    go_wp2
    go_ret
    exact ⟨rfl, HB.trans (hb.mono HB.size)⟩
  · rw [hv] at C1
    rw [Bool.true_and]
    have HV := Lib.hid hv
    clear hv
    have q := Pl.validLP_facts HV.out
    have hbn := q.2.2.1
    clear q
    have C3 := Lib.hid (fun wx (H : Below w.heap.size w wx) => C3.out wx H (Pl.validLP_rows HV.out) hbn)
    generalize Pl.allB (Pl.pos XV) xn = vp at C2 ⊢
    generalize Pl.allB (Pl.gq aRN aRV aBV xn XV) arn = vg at C3 ⊢
    clear hbn HV
    have x0 := BA.2.1 0 _ rfl
    have x1 := BA.2.1 1 _ rfl
    have x2 := BA.2.1 2 _ rfl
    generalize (xn == acn && vp) = vq at C2 ⊢
    go_enter Try.func47, Try.ntmps47
    go_wp2_with fail
    refine C1.out.mono ?_
    rintro e w1 ⟨rfl, hb⟩
    have BA := BA.below hb
    have HB := HB.trans (hb.mono HB.size)
    clear hb C1 x0 x1 x2
    have x0 := BA.2.1 0 _ rfl
    have x1 := BA.2.1 1 _ rfl
    have x2 := BA.2.1 2 _ rfl
    have C2 := Lib.hid (C2.out w1 HB)
    go_wp2_with fail
    refine C2.out.mono ?_
    rintro e w2 ⟨rfl, hb⟩
    have BA := BA.below hb
    have HB := HB.trans (hb.mono HB.size)
    clear hb C2 x0 x1 x2
    have x0 := BA.2.1 0 _ rfl
    have x1 := BA.2.1 1 _ rfl
    have x2 := BA.2.1 2 _ rfl
    have C3 := Lib.hid (C3.out w2 HB)
    cases vq
    · go_wp2
      go_ret
      exact ⟨rfl, HB⟩
    · go_wp2_with fail
      refine C3.out.mono ?_
      rintro e w3 ⟨rfl, hb⟩
      have HB := HB.trans (hb.mono HB.size)
      go_wp2
      go_ret
      exact ⟨Pl.ret_bool (by simp), HB⟩

end Go.Proofs.Ytkhgolblendckaa
