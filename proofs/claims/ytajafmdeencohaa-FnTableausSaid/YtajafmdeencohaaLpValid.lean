/-
  Contracts of IsValidLP, of the program and of the reference.
-/
import Derived.Test.YtajafmdeencohaaLp
import Derived.Test.YtajafmdeencohaaVecValid
namespace Go.Proofs.Ytajafmdeencohaa
open Go.RowKit
attribute [local go_sem ↓] Go.wp_at_zero Go.wp_at_succ

namespace Pl
/-- all of the first n are so -/
def allB (q : Nat → Bool) : Nat → Bool
  | 0 => true
  | j + 1 => allB q j && q j
theorem allB_yes {q : Nat → Bool} {j : Nat} (h : allB q j = true) (hj : q j = true) : allB q (j + 1) = true := by rw [allB, h, hj]; rfl
theorem allB_no {q : Nat → Bool} {j n : Nat} (hj : q j = false) (hn : j < n) : allB q n = false := by
  induction n with
  | zero => omega
  | succ n ih =>
    rw [allB]
    by_cases h : j = n
    · subst h
      rw [hj, Bool.and_false]
    · rw [ih (by omega), Bool.false_and]
theorem allB_at {q : Nat → Bool} {n : Nat} (h : allB q n = true) : ∀ j, j < n → q j = true := by
  intro j hj
  cases hq : q j
  · rw [allB_no hq hj] at h
    cases h
  · rfl
def validLP (acn arn : Nat) (aRN : Nat → Nat) (aRV : Nat → Nat → Int) (abn : Nat) (aBV : Nat → Int) (aCV : Fr) : Bool :=
  decide (acn ≤ 70) && decide (arn ≤ 8) && (abn == arn) && Pl.allB (fun j => Pl.within (aBV j) (-5000) 5000) (abn) && okTo aCV acn && Pl.allB (fun i => aRN i == acn && Pl.allB (fun j => Pl.within (aRV i j) (-5000) 5000) (aRN i)) arn
end Pl

theorem l5Small_any (A : Option Addr) (n c B : Nat) (V : Nat → Int) (w : World) (hr : Rd w B 1 A n (cellsI V n)) (hn : n ≤ 1048576) :
    Calls Try.prog 103 #[.slice A n c] w fun e w' => e = .returned (.bool (Pl.allB (fun j => Pl.within (V j) (-5000) 5000) (n))) ∧ w = w' := by
  go_enter Try.func103, Try.ntmps103
  go_wp2
  go_loop [3] (fun u => ∃ k : Nat, k ≤ n ∧ u = .int .i64 k ∧ Hid (Pl.allB (fun j => Pl.within (V j) (-5000) 5000) (k) = true)) (fun u => n - (intOf u).toNat)
  case atStart => exact ⟨0, Nat.zero_le _, rfl, Lib.hid rfl⟩
  case round =>
    obtain ⟨k, hk, rfl, he⟩ := hrel
    by_cases hlt : k < n
    · obtain ⟨b, off, rfl, hbb, hc⟩ := hr.2 (by omega)
      have x0 := hc k _ (cellsI_at V hlt)
      clear hc hr
      have k0 : (0 : Int) ≤ (k : Int) := by omega
      have k1 : (k : Int) < (n : Int) := by omega
      have C := Lib.hid (fun wx => l1In_any (V k) (-5000) 5000 wx)
      cases hv : Pl.within (V k) (-5000) 5000
      · have HR := Lib.hid (Pl.allB_no (q := fun j => Pl.within (V j) (-5000) 5000) (n := n) hv hlt)
        rw [hv] at C
        clear hv
        go_wp2_with fail
        refine (C.out _).mono ?_
        rintro e w1 ⟨rfl, rfl⟩
        go_wp2
        go_ret
        exact ⟨Pl.ret_bool HR.out.symm, rfl⟩
      · have HY := Lib.hid (Pl.allB_yes (q := fun j => Pl.within (V j) (-5000) 5000) he.out hv)
        rw [hv] at C
        clear hv
        go_wp2_with fail
        refine (C.out _).mono ?_
        rintro e w1 ⟨rfl, rfl⟩
        go_wp2
        go_round
        case rel => exact ⟨k + 1, by omega, by go_num, HY⟩
        case measure => simp [intOf]; omega
    · obtain rfl : k = n := by omega
      go_wp2
      go_ret
      exact ⟨Pl.ret_bool he.out.symm, rfl⟩

theorem lpBad_any (a : Int) (w : World) : Calls Try.prog 104 #[.int .i64 a] w fun e w' => e = .returned (.bool (!Pl.within a (-5000) 5000)) ∧ Below w.heap.size w w' := by
  go_enter Try.func104, Try.ntmps104
  go_wp2_with fail
  refine (within_any _ _ _ _).mono ?_
  rintro e w1 ⟨rfl, rfl⟩
  go_wp2
  go_ret
  exact ⟨rfl, Below.refl _ _⟩

theorem indexFuncI_lp  (A1 : Option Addr) (n c1 B : Nat) (V : Nat → Int) (w : World) (h1 : Rd w B 1 A1 n (cellsI V n)) (hB : B ≤ w.heap.size) (hn1 : n ≤ 1099511627776) :
    Calls Try.prog 111 #[.slice A1 n c1, .func (.func 104) #[] #[]] w fun e w' => ∃ r : Int, e = .returned (.int .i64 r) ∧ decide (0 ≤ r) = !Pl.allB (fun j => Pl.within (V j) (-5000) 5000) n ∧ Below w.heap.size w w' := by
  go_enter Try.func111, Try.ntmps111
  go_wp2
  go_loopw [5, 8] (fun v u wr => ∃ k : Nat, k ≤ n ∧ u = .int .i64 k ∧ Hid (Pl.allB (fun j => Pl.within (V j) (-5000) 5000) k = true) ∧ Below w.heap.size w wr) (fun _ u _ => n - (intOf u).toNat)
  case atStart => exact ⟨0, Nat.zero_le _, rfl, Lib.hid rfl, Below.refl _ _⟩
  case round =>
    obtain ⟨k, hk, rfl, he, hb⟩ := hrel
    by_cases hlt : k < n
    · obtain ⟨b, off, rfl, hbb, hc⟩ := h1.2 (by omega)
      have x0 := (hb.cell (p := ⟨b, off + k, none⟩) (by exact Nat.lt_of_lt_of_le hbb hB)).trans (hc k _ (cellsI_at V hlt))
      clear hc h1
      have C := Lib.hid (lpBad_any (V k) wr)
      have k0 : (0 : Int) ≤ (k : Int) := by omega
      have k1 : (k : Int) < (n : Int) := by omega
      cases hv : Pl.within (V k) (-5000) 5000
      · have HR := Lib.hid (Pl.allB_no (q := fun j => Pl.within (V j) (-5000) 5000) (n := n) hv hlt)
        rw [hv] at C
        clear hv
        go_wp2_with fail
        refine C.out.mono ?_
        rintro e w1 ⟨rfl, hb2⟩
        go_wp2
        go_ret
        exact ⟨(k : Int), rfl, by rw [HR.out]; exact decide_eq_true k0, hb.trans (hb2.mono hb.size)⟩
      · have HY := Lib.hid (Pl.allB_yes (q := fun j => Pl.within (V j) (-5000) 5000) he.out hv)
        rw [hv] at C
        clear hv
        go_wp2_with fail
        refine C.out.mono ?_
        rintro e w1 ⟨rfl, hb2⟩
        go_wp2
        go_roundw
        case rel => exact ⟨k + 1, by omega, by go_num, HY, hb.trans (hb2.mono hb.size)⟩
        case measure => simp [intOf]; omega
    · obtain rfl : k = n := by omega
      go_wp2
      go_ret
      exact ⟨-1, rfl, by rw [he.out]; rfl, hb⟩
theorem containsFuncI_lp  (A1 : Option Addr) (n c1 B : Nat) (V : Nat → Int) (w : World) (h1 : Rd w B 1 A1 n (cellsI V n)) (hB : B ≤ w.heap.size) (hn1 : n ≤ 1099511627776) :
    Calls Try.prog 91 #[.slice A1 n c1, .func (.func 104) #[] #[]] w fun e w' => e = .returned (.bool (!Pl.allB (fun j => Pl.within (V j) (-5000) 5000) n)) ∧ Below w.heap.size w w' := by
  have c := indexFuncI_lp  A1 n c1 B V w  h1 hB hn1
  go_enter Try.func91, Try.ntmps91
  go_wp2_with fail
  refine c.mono ?_
  rintro e w1 ⟨r, rfl, hr, hb⟩
  go_wp2
  go_ret
  exact ⟨Pl.ret_bool rfl, hb⟩

set_option maxHeartbeats 2000000 in
theorem sValidLP_any (aR aBs aCs : Option Addr) (arn arc abn abc acn acc : Nat) (aRA : Nat → Option Addr) (aRN aRC : Nat → Nat) (aRV : Nat → Nat → Int) (aBV : Nat → Int) (aCV : Fr) (B : Nat) (w : World) (arr : RdI w B aR arn aRA aRN aRC aRV) (abb : Rd w B 1 aBs abn (cellsI aBV abn)) (acr : RdP w B aCs acn aCV) (hB : B ≤ w.heap.size) (ha1 : arn ≤ 1048576) (ha2 : ∀ j, j < arn → aRN j ≤ 1048576) (ha3 : abn ≤ 1048576) (ha4 : acn ≤ 1048576) :
    Calls Try.prog 70 #[.agg #[.slice aR arn arc, .slice aBs abn abc, .slice aCs acn acc]] w fun e w' => e = .returned (.bool (Pl.validLP acn arn aRN aRV abn aBV aCV)) ∧ Below w.heap.size w w' := by
  have BA : Bx (w.alloc (.cells #[.slice aR arn arc, .slice aBs abn abc, .slice aCs acn acc] 53)) w.heap.size [.slice aR arn arc, .slice aBs abn abc, .slice aCs acn acc] := Bx.new w #[.slice aR arn arc, .slice aBs abn abc, .slice aCs acn acc] 53
  have HB : Below w.heap.size w (w.alloc (.cells #[.slice aR arn arc, .slice aBs abn abc, .slice aCs acn acc] 53)) := (Below.refl _ _).alloc (Nat.le_refl _) _
  have SB := Lib.hid (fun wx (HX : Below w.heap.size w wx) => l5Small_any aBs abn abc B aBV wx (abb.below' HX hB) ha3)
  have AV := Lib.hid (fun wx (HX : Below w.heap.size w wx) => sAllValid_any aCs acn acc B aCV wx (acr.below HX hB) (Nat.le_trans hB HX.size) (by omega))
  have ARR := Lib.hid arr
  have Z := Lib.hid ha2
  clear arr abb acr ha2
  rw [Pl.validLP]
  generalize Pl.allB (fun j => Pl.within (aBV j) (-5000) 5000) (abn) = vb at SB ⊢
  generalize Pl.okTo aCV acn = vc at AV ⊢
  go_enter Try.func70, Try.ntmps70
  go_wp2
  have HBB := Lib.hid HB
  have BAH := Lib.hid BA
  clear HB BA
  go_loopw [3] (fun u wr => ∃ k : Nat, k ≤ arn ∧ u = .int .i64 k ∧ Hid (Pl.allB (fun i => aRN i == acn && Pl.allB (fun j => Pl.within (aRV i j) (-5000) 5000) (aRN i)) k = true) ∧ Bx wr w.heap.size [.slice aR arn arc, .slice aBs abn abc, .slice aCs acn acc] ∧ Below w.heap.size w wr) (fun u _ => arn - (intOf u).toNat)
  case atStart => exact ⟨0, Nat.zero_le _, rfl, Lib.hid rfl, BAH.out, HBB.out⟩
  case round =>
    obtain ⟨k, hk, rfl, he, BA, hb⟩ := hrel
    by_cases hlt : k < arn
    · have DB := (Below.refl wr.heap.size wr).drew
      have HBX := hb
      have BAX := BA
      have BA := BA.below DB
      have hb := hb.trans (DB.mono hb.size)
      clear DB
      obtain ⟨b1, o1, rfl, hb1, hc1⟩ := ARR.out.1 (by omega)
      have x1 := (hb.cell (p := ⟨b1, o1 + k, none⟩) (by exact Nat.lt_of_lt_of_le hb1 hB)).trans (hc1 k hlt)
      have xl := HBX.cell (p := ⟨b1, o1 + k, none⟩) (by exact Nat.lt_of_lt_of_le hb1 hB)
      have k0 : (0 : Int) ≤ (k : Int) := by omega
      have k1 : (k : Int) < (arn : Int) := by omega
      have x0 := BAX.2.1 0 _ rfl
      have HNO := Lib.hid (fun h => Pl.allB_no (q := fun i => aRN i == acn && Pl.allB (fun j => Pl.within (aRV i j) (-5000) 5000) (aRN i)) (n := arn) (j := k) h hlt)
      have HYE := Lib.hid (fun h => Pl.allB_yes (q := fun i => aRN i == acn && Pl.allB (fun j => Pl.within (aRV i j) (-5000) 5000) (aRN i)) he.out h)
      have EQ := Lib.hid (l5Small_any (aRA k) (aRN k) (aRC k) B (aRV k) wr.drew ((ARR.out.2 k hlt).below' hb hB) (Z.out k hlt))
      have hu := Z.out k hlt
      clear hc1 xl
      obtain ⟨m1, e1⟩ : ∃ m, m = aRA k := ⟨_, rfl⟩
      obtain ⟨u1, e3⟩ : ∃ m, m = aRN k := ⟨_, rfl⟩
      obtain ⟨d1, e5⟩ : ∃ m, m = aRC k := ⟨_, rfl⟩
      rw [← e1, ← e3, ← e5] at x1 EQ
      rw [← e3] at hu
      have E3 := Lib.hid e3
      clear e1 e3 e5 BAX HBX
      by_cases hq : u1 = acn
      · subst hq
        obtain ⟨vv, e7⟩ : ∃ m, m = Pl.allB (fun j => Pl.within (aRV k j) (-5000) 5000) (u1) := ⟨_, rfl⟩
        rw [← e7] at EQ
        have E7 := Lib.hid e7
        clear e7
        go_upto_region 4 with fail
        refine wp_region_noPanic ?_
        refine wp_region_held_drew (S := (fun w' => w'.cell? ⟨w.heap.size, 0, none⟩ = some (.slice (some ⟨b1, o1, none⟩) arn arc) ∧ w'.cell? ⟨w.heap.size, 2, none⟩ = some (.slice aCs u1 acc) ∧ w'.cell? ⟨b1, o1 + k, none⟩ = some (.slice m1 u1 d1))) (by kernel_rfl) ?_ (fun hHeld => ?_)
        · exact ⟨BA.2.1 0 _ rfl, BA.2.1 2 _ rfl, x1⟩
        refine takeN 0 (v := ?v1_0) rfl (by kernel_rfl) (by kernel_rfl) (by kernel_rfl) (fun _ _ _ h => h) (by rfl) ?hy1_0 (by assumption) ?r1_0
        case hy1_0 => (intro w hSw; (try dsimp only at hSw); first | (go_simp; done) | (go_simp; with_reducible rfl))
        simp only [Act.put, List.setIfInBounds_toArray, List.set_cons_zero, List.set_cons_succ]
        refine takeN 1 (v := ?v1_1) rfl (by kernel_rfl) (by kernel_rfl) (by kernel_rfl) (fun _ _ _ h => h) (by rfl) ?hy1_1 (by assumption) ?r1_1
        case hy1_1 => (intro w hSw; (try dsimp only at hSw); first | (go_simp; done) | (go_simp; with_reducible rfl))
        simp only [Act.put, List.setIfInBounds_toArray, List.set_cons_zero, List.set_cons_succ]
        refine takeN 2 (v := ?v1_2) rfl (by kernel_rfl) (by kernel_rfl) (by kernel_rfl) (fun _ _ _ h => h) (by rfl) ?hy1_2 (by assumption) ?r1_2
        case hy1_2 => (intro w hSw; (try dsimp only at hSw); first | (go_simp; done) | (go_simp; with_reducible rfl))
        simp only [Act.put, List.setIfInBounds_toArray, List.set_cons_zero, List.set_cons_succ]
        refine takeN 3 (v := ?v1_3) rfl (by kernel_rfl) (by kernel_rfl) (by kernel_rfl) (fun _ _ _ h => h) (by rfl) ?hy1_3 (by assumption) ?r1_3
        case hy1_3 => (intro w hSw; (try dsimp only at hSw); first | (go_simp; done) | (go_simp; with_reducible rfl))
        simp only [Act.put, List.setIfInBounds_toArray, List.set_cons_zero, List.set_cons_succ]
        refine takeN 4 (v := ?v1_4) rfl (by kernel_rfl) (by kernel_rfl) (by kernel_rfl) (fun _ _ _ h => h) (by rfl) ?hy1_4 (by assumption) ?r1_4
        case hy1_4 => (intro w hSw; (try dsimp only at hSw); first | (go_simp; done) | (go_simp; with_reducible rfl))
        simp only [Act.put, List.setIfInBounds_toArray, List.set_cons_zero, List.set_cons_succ]
        refine takeN 5 (v := ?v1_5) rfl (by kernel_rfl) (by kernel_rfl) (by kernel_rfl) (fun _ _ _ h => h) (by rfl) ?hy1_5 (by assumption) ?r1_5
        case hy1_5 => (intro w hSw; (try dsimp only at hSw); first | (go_simp; done) | (go_simp; with_reducible rfl))
        simp only [Act.put, List.setIfInBounds_toArray, List.set_cons_zero, List.set_cons_succ]
        refine takeN 6 (v := ?v1_6) rfl (by kernel_rfl) (by kernel_rfl) (by kernel_rfl) (fun _ _ _ h => h) (by rfl) ?hy1_6 (by assumption) ?r1_6
        case hy1_6 => (intro w hSw; (try dsimp only at hSw); first | (go_simp; done) | (go_simp; with_reducible rfl))
        simp only [Act.put, List.setIfInBounds_toArray, List.set_cons_zero, List.set_cons_succ]
        refine takeN 7 (v := ?v1_7) rfl (by kernel_rfl) (by kernel_rfl) (by kernel_rfl) (fun _ _ _ h => h) (by rfl) ?hy1_7 (by assumption) ?r1_7
        case hy1_7 => (intro w hSw; (try dsimp only at hSw); first | (go_simp; done) | (go_simp; with_reducible rfl))
        simp only [Act.put, List.setIfInBounds_toArray, List.set_cons_zero, List.set_cons_succ]
        refine takeN 8 (v := ?v1_8) rfl (by kernel_rfl) (by kernel_rfl) (by kernel_rfl) (fun _ _ _ h => h) (by rfl) ?hy1_8 (by assumption) ?r1_8
        case hy1_8 => (intro w hSw; (try dsimp only at hSw); first | (go_simp; done) | (go_simp; with_reducible rfl))
        simp only [Act.put, List.setIfInBounds_toArray, List.set_cons_zero, List.set_cons_succ]
        refine takeN 9 (v := ?v1_9) rfl (by kernel_rfl) (by kernel_rfl) (by kernel_rfl) (fun _ _ _ h => h) (by rfl) ?hy1_9 (by assumption) ?r1_9
        case hy1_9 => (intro w hSw; (try dsimp only at hSw); first | (go_simp; done) | (go_simp; with_reducible rfl))
        simp only [Act.put, List.setIfInBounds_toArray, List.set_cons_zero, List.set_cons_succ]
        refine takeN 10 (v := ?v1_10) rfl (by kernel_rfl) (by kernel_rfl) (by kernel_rfl) (fun _ _ _ h => h) (by rfl) ?hy1_10 (by assumption) ?r1_10
        case hy1_10 => (intro w hSw; (try dsimp only at hSw); first | (go_simp; done) | (go_simp; with_reducible rfl))
        simp only [Act.put, List.setIfInBounds_toArray, List.set_cons_zero, List.set_cons_succ]
        refine takeN 11 (v := ?v1_11) rfl (by kernel_rfl) (by kernel_rfl) (by kernel_rfl) (fun _ _ _ h => h) (by rfl) ?hy1_11 (by assumption) ?r1_11
        case hy1_11 => (intro w hSw; (try dsimp only at hSw); first | (go_simp; done) | (go_simp; with_reducible rfl))
        simp only [Act.put, List.setIfInBounds_toArray, List.set_cons_zero, List.set_cons_succ]
        refine takeN 12 (v := ?v1_12) rfl (by kernel_rfl) (by kernel_rfl) (by kernel_rfl) (fun _ _ _ h => h) (by rfl) ?hy1_12 (by assumption) ?r1_12
        case hy1_12 => (intro w hSw; (try dsimp only at hSw); first | (go_simp; done) | (go_simp; with_reducible rfl))
        simp only [Act.put, List.setIfInBounds_toArray, List.set_cons_zero, List.set_cons_succ]
        refine takeN 13 (v := ?v1_13) rfl (by kernel_rfl) (by kernel_rfl) (by kernel_rfl) (fun _ _ _ h => h) (by rfl) ?hy1_13 (by assumption) ?r1_13
        case hy1_13 => (intro w hSw; (try dsimp only at hSw); first | (go_simp; done) | (go_simp; with_reducible rfl))
        simp only [Act.put, List.setIfInBounds_toArray, List.set_cons_zero, List.set_cons_succ]
        refine takeN 14 (v := ?v1_14) rfl (by kernel_rfl) (by kernel_rfl) (by kernel_rfl) (fun _ _ _ h => h) (by rfl) ?hy1_14 (by assumption) ?r1_14
        case hy1_14 => (intro w hSw; (try dsimp only at hSw); first | (go_simp; done) | (go_simp; with_reducible rfl))
        simp only [Act.put, List.setIfInBounds_toArray, List.set_cons_zero, List.set_cons_succ]
        refine takeN 15 (v := ?v1_15) rfl (by kernel_rfl) (by kernel_rfl) (by kernel_rfl) (fun _ _ _ h => h) (by rfl) ?hy1_15 (by assumption) ?r1_15
        case hy1_15 => (intro w hSw; (try dsimp only at hSw); first | (go_simp; done) | (go_simp; with_reducible rfl))
        simp only [Act.put, List.setIfInBounds_toArray, List.set_cons_zero, List.set_cons_succ]
        refine nextN 16 (by kernel_rfl) rfl (fun K hK => ?_)
        go_simp
        go_at_call 103; refine (EQ.out).mono ?_; rintro e wA ⟨rfl, rfl⟩
        go_wp2_with fail
        refine hK.out _ _ ?_ (fun hHeld => ?_)
        · exact ⟨BA.2.1 0 _ rfl, BA.2.1 2 _ rfl, x1⟩
        clear hK K
        refine takeN 17 (v := ?v1_17) rfl (by kernel_rfl) (by kernel_rfl) (by kernel_rfl) (fun _ _ _ h => h) (by rfl) ?hy1_17 (by assumption) ?r1_17
        case hy1_17 => (intro w hSw; (try dsimp only at hSw); first | (go_simp; done) | (go_simp; with_reducible rfl))
        simp only [Act.put, List.setIfInBounds_toArray, List.set_cons_zero, List.set_cons_succ]
        refine takeN 18 (v := ?v1_18) rfl (by kernel_rfl) (by kernel_rfl) (by kernel_rfl) (fun _ _ _ h => h) (by rfl) ?hy1_18 (by assumption) ?r1_18
        case hy1_18 => (intro w hSw; (try dsimp only at hSw); first | (go_simp; done) | (go_simp; with_reducible rfl))
        simp only [Act.put, List.setIfInBounds_toArray, List.set_cons_zero, List.set_cons_succ]
        refine wpAnyH_done (by kernel_rfl) ?_ _
        refine NoPanic.normal ?_
        cases vv
        · have HR := Lib.hid (HNO.out (by show (aRN k == u1 && Pl.allB _ (aRN k)) = false; rw [← E3.out, ← E7.out, Bool.and_false]))
          go_wp2
          go_ret
          exact ⟨Pl.ret_bool (by rw [HR.out, Bool.and_false]), hb⟩
        · have HY := Lib.hid (HYE.out (by show (aRN k == u1 && Pl.allB _ (aRN k)) = true; rw [← E3.out, ← E7.out, beq_self_eq_true]; rfl))
          go_wp2
          go_roundw
          case rel => exact ⟨k + 1, by omega, by go_num, HY, BA, hb⟩
          case measure => simp [intOf]; omega
      · have q1 := beq_eq_false_iff_ne.2 hq
        have HR := Lib.hid (HNO.out (by show (aRN k == acn && Pl.allB _ (aRN k)) = false; rw [← E3.out, q1, Bool.false_and]))
        have q2 := beq_eq_false_iff_ne.2 (show (u1 : Int) ≠ (acn : Int) by omega)
        clear hq q1 EQ HNO HYE
        go_upto_region 4 with fail
        refine wp_region_noPanic ?_
        refine wp_region_held_drew (S := (fun w' => w'.cell? ⟨w.heap.size, 0, none⟩ = some (.slice (some ⟨b1, o1, none⟩) arn arc) ∧ w'.cell? ⟨w.heap.size, 2, none⟩ = some (.slice aCs acn acc) ∧ w'.cell? ⟨b1, o1 + k, none⟩ = some (.slice m1 u1 d1))) (by kernel_rfl) ?_ (fun hHeld => ?_)
        · exact ⟨BA.2.1 0 _ rfl, BA.2.1 2 _ rfl, x1⟩
        refine takeN 0 (v := ?v2_0) rfl (by kernel_rfl) (by kernel_rfl) (by kernel_rfl) (fun _ _ _ h => h) (by rfl) ?hy2_0 (by assumption) ?r2_0
        case hy2_0 => (intro w hSw; (try dsimp only at hSw); first | (go_simp; done) | (go_simp; with_reducible rfl))
        simp only [Act.put, List.setIfInBounds_toArray, List.set_cons_zero, List.set_cons_succ]
        refine takeN 1 (v := ?v2_1) rfl (by kernel_rfl) (by kernel_rfl) (by kernel_rfl) (fun _ _ _ h => h) (by rfl) ?hy2_1 (by assumption) ?r2_1
        case hy2_1 => (intro w hSw; (try dsimp only at hSw); first | (go_simp; done) | (go_simp; with_reducible rfl))
        simp only [Act.put, List.setIfInBounds_toArray, List.set_cons_zero, List.set_cons_succ]
        refine takeN 2 (v := ?v2_2) rfl (by kernel_rfl) (by kernel_rfl) (by kernel_rfl) (fun _ _ _ h => h) (by rfl) ?hy2_2 (by assumption) ?r2_2
        case hy2_2 => (intro w hSw; (try dsimp only at hSw); first | (go_simp; done) | (go_simp; with_reducible rfl))
        simp only [Act.put, List.setIfInBounds_toArray, List.set_cons_zero, List.set_cons_succ]
        refine takeN 3 (v := ?v2_3) rfl (by kernel_rfl) (by kernel_rfl) (by kernel_rfl) (fun _ _ _ h => h) (by rfl) ?hy2_3 (by assumption) ?r2_3
        case hy2_3 => (intro w hSw; (try dsimp only at hSw); first | (go_simp; done) | (go_simp; with_reducible rfl))
        simp only [Act.put, List.setIfInBounds_toArray, List.set_cons_zero, List.set_cons_succ]
        refine takeN 4 (v := ?v2_4) rfl (by kernel_rfl) (by kernel_rfl) (by kernel_rfl) (fun _ _ _ h => h) (by rfl) ?hy2_4 (by assumption) ?r2_4
        case hy2_4 => (intro w hSw; (try dsimp only at hSw); first | (go_simp; done) | (go_simp; with_reducible rfl))
        simp only [Act.put, List.setIfInBounds_toArray, List.set_cons_zero, List.set_cons_succ]
        refine takeN 5 (v := ?v2_5) rfl (by kernel_rfl) (by kernel_rfl) (by kernel_rfl) (fun _ _ _ h => h) (by rfl) ?hy2_5 (by assumption) ?r2_5
        case hy2_5 => (intro w hSw; (try dsimp only at hSw); first | (go_simp; done) | (go_simp; with_reducible rfl))
        simp only [Act.put, List.setIfInBounds_toArray, List.set_cons_zero, List.set_cons_succ]
        refine takeN 6 (v := ?v2_6) rfl (by kernel_rfl) (by kernel_rfl) (by kernel_rfl) (fun _ _ _ h => h) (by rfl) ?hy2_6 (by assumption) ?r2_6
        case hy2_6 => (intro w hSw; (try dsimp only at hSw); first | (go_simp; done) | (go_simp; with_reducible rfl))
        simp only [Act.put, List.setIfInBounds_toArray, List.set_cons_zero, List.set_cons_succ]
        refine takeN 7 (v := ?v2_7) rfl (by kernel_rfl) (by kernel_rfl) (by kernel_rfl) (fun _ _ _ h => h) (by rfl) ?hy2_7 (by assumption) ?r2_7
        case hy2_7 => (intro w hSw; (try dsimp only at hSw); first | (go_simp; done) | (go_simp; with_reducible rfl))
        simp only [Act.put, List.setIfInBounds_toArray, List.set_cons_zero, List.set_cons_succ]
        refine takeN 8 (v := ?v2_8) rfl (by kernel_rfl) (by kernel_rfl) (by kernel_rfl) (fun _ _ _ h => h) (by rfl) ?hy2_8 (by assumption) ?r2_8
        case hy2_8 => (intro w hSw; (try dsimp only at hSw); first | (go_simp; done) | (go_simp; with_reducible rfl))
        simp only [Act.put, List.setIfInBounds_toArray, List.set_cons_zero, List.set_cons_succ]
        refine takeN 9 (v := ?v2_9) rfl (by kernel_rfl) (by kernel_rfl) (by kernel_rfl) (fun _ _ _ h => h) (by rfl) ?hy2_9 (by assumption) ?r2_9
        case hy2_9 => (intro w hSw; (try dsimp only at hSw); first | (go_simp; done) | (go_simp; with_reducible rfl))
        simp only [Act.put, List.setIfInBounds_toArray, List.set_cons_zero, List.set_cons_succ]
        try simp only [bne, q2, Bool.not_false]
        refine takeN 10 (v := ?v2_10) rfl (by kernel_rfl) (by kernel_rfl) (by kernel_rfl) (fun _ _ _ h => h) (by rfl) ?hy2_10 (by assumption) ?r2_10
        case hy2_10 => (intro w hSw; (try dsimp only at hSw); first | (go_simp; done) | (go_simp; with_reducible rfl))
        simp only [Act.put, List.setIfInBounds_toArray, List.set_cons_zero, List.set_cons_succ]
        refine skipN 11 rfl (by kernel_rfl) (by kernel_rfl) (by kernel_rfl) (fun _ _ _ h => h) (by rfl) (by assumption) ?_
        simp only [Act.put, List.setIfInBounds_toArray, List.set_cons_zero, List.set_cons_succ]
        refine skipN 12 rfl (by kernel_rfl) (by kernel_rfl) (by kernel_rfl) (fun _ _ _ h => h) (by rfl) (by assumption) ?_
        simp only [Act.put, List.setIfInBounds_toArray, List.set_cons_zero, List.set_cons_succ]
        refine skipN 13 rfl (by kernel_rfl) (by kernel_rfl) (by kernel_rfl) (fun _ _ _ h => h) (by rfl) (by assumption) ?_
        simp only [Act.put, List.setIfInBounds_toArray, List.set_cons_zero, List.set_cons_succ]
        refine skipN 14 rfl (by kernel_rfl) (by kernel_rfl) (by kernel_rfl) (fun _ _ _ h => h) (by rfl) (by assumption) ?_
        simp only [Act.put, List.setIfInBounds_toArray, List.set_cons_zero, List.set_cons_succ]
        refine skipN 15 rfl (by kernel_rfl) (by kernel_rfl) (by kernel_rfl) (fun _ _ _ h => h) (by rfl) (by assumption) ?_
        simp only [Act.put, List.setIfInBounds_toArray, List.set_cons_zero, List.set_cons_succ]
        refine nextN 16 (by kernel_rfl) rfl (fun K hK => ?_)
        go_simp
        refine hK.out _ _ ?_ (fun hHeld => ?_)
        · assumption
        clear hK K
        refine skipN 17 rfl (by kernel_rfl) (by kernel_rfl) (by kernel_rfl) (fun _ _ _ h => h) (by rfl) (by assumption) ?_
        simp only [Act.put, List.setIfInBounds_toArray, List.set_cons_zero, List.set_cons_succ]
        refine takeN 18 (v := ?v2_18) rfl (by kernel_rfl) (by kernel_rfl) (by kernel_rfl) (fun _ _ _ h => h) (by rfl) ?hy2_18 (by assumption) ?r2_18
        case hy2_18 => (intro w hSw; (try dsimp only at hSw); first | (go_simp; done) | (go_simp; with_reducible rfl))
        simp only [Act.put, List.setIfInBounds_toArray, List.set_cons_zero, List.set_cons_succ]
        refine wpAnyH_done (by kernel_rfl) ?_ _
        refine NoPanic.normal ?_
        go_wp2
        go_ret
        exact ⟨Pl.ret_bool (by rw [HR.out, Bool.and_false]), hb⟩
    · obtain rfl : k = arn := by omega
      have x0 := BA.2.1 0 _ rfl
      have x1 := BA.2.1 1 _ rfl
      have x2 := BA.2.1 2 _ rfl
      have HE := he
      by_cases c1 : acn ≤ 70
      · have c1' := decide_eq_true (show (acn : Int) ≤ 70 by omega)
        by_cases c2 : k ≤ 8
        · have c2' := decide_eq_true (show (k : Int) ≤ 8 by omega)
          by_cases c3 : abn = k
          · have c3' := beq_iff_eq.2 (show (abn : Int) = (k : Int) by omega)
            have SBH := Lib.hid (SB.out wr hb)
            have AVH := Lib.hid (AV.out wr hb)
            have HH := Lib.hid (show (decide (acn ≤ 70) && decide (k ≤ 8) && (abn == k) && vb && vc && Pl.allB (fun i => aRN i == acn && Pl.allB (fun j => Pl.within (aRV i j) (-5000) 5000) (aRN i)) k) = (vb && vc) by rw [decide_eq_true c1, decide_eq_true c2, beq_iff_eq.2 c3, HE.out, Bool.and_true]; rfl)
            have HBX := Lib.hid hb
            clear hb HE he
            subst c3
            cases vb
            · go_wp2_with fail
              refine SBH.out.mono ?_
              rintro e w1 ⟨rfl, rfl⟩
              go_wp2
              go_ret
              exact ⟨Pl.ret_bool (by rw [HH.out]; rfl), HBX.out⟩
            · go_wp2_with fail
              refine SBH.out.mono ?_
              rintro e w1 ⟨rfl, rfl⟩
              go_wp2_with fail
              refine AVH.out.mono ?_
              rintro e w2 ⟨rfl, hb2⟩
              go_wp2
              go_ret
              exact ⟨Pl.ret_bool (by rw [HH.out]; simp), HBX.out.trans (hb2.mono HBX.out.size)⟩
          · have HH := Lib.hid (show (decide (acn ≤ 70) && decide (k ≤ 8) && (abn == k) && vb && vc && Pl.allB (fun i => aRN i == acn && Pl.allB (fun j => Pl.within (aRV i j) (-5000) 5000) (aRN i)) k) = false by rw [beq_eq_false_iff_ne.2 c3]; simp)
            have c3' := beq_eq_false_iff_ne.2 (show (abn : Int) ≠ (k : Int) by omega)
            clear HE c3 he
            go_wp2
            go_ret
            exact ⟨Pl.ret_bool HH.out.symm, hb⟩
        · have HH := Lib.hid (show (decide (acn ≤ 70) && decide (k ≤ 8) && (abn == k) && vb && vc && Pl.allB (fun i => aRN i == acn && Pl.allB (fun j => Pl.within (aRV i j) (-5000) 5000) (aRN i)) k) = false by rw [decide_eq_false c2]; simp)
          have c2' := decide_eq_false (show ¬ (k : Int) ≤ 8 by omega)
          clear HE c2 he
          go_wp2
          go_ret
          exact ⟨Pl.ret_bool HH.out.symm, hb⟩
      · have HH := Lib.hid (show (decide (acn ≤ 70) && decide (k ≤ 8) && (abn == k) && vb && vc && Pl.allB (fun i => aRN i == acn && Pl.allB (fun j => Pl.within (aRV i j) (-5000) 5000) (aRN i)) k) = false by rw [decide_eq_false c1]; simp)
        have c1' := decide_eq_false (show ¬ (acn : Int) ≤ 70 by omega)
        clear HE c1 he
        go_wp2
        go_ret
        exact ⟨Pl.ret_bool HH.out.symm, hb⟩

set_option maxHeartbeats 2000000 in
theorem iValidLP_any (aR aBs aCs : Option Addr) (arn arc abn abc acn acc : Nat) (aRA : Nat → Option Addr) (aRN aRC : Nat → Nat) (aRV : Nat → Nat → Int) (aBV : Nat → Int) (aCV : Fr) (B : Nat) (w : World) (arr : RdI w B aR arn aRA aRN aRC aRV) (abb : Rd w B 1 aBs abn (cellsI aBV abn)) (acr : RdP w B aCs acn aCV) (hB : B ≤ w.heap.size) (ha1 : arn ≤ 1048576) (ha2 : ∀ j, j < arn → aRN j ≤ 1048576) (ha3 : abn ≤ 1048576) (ha4 : acn ≤ 1048576) :
    Calls Try.prog 73 #[.agg #[.slice aR arn arc, .slice aBs abn abc, .slice aCs acn acc]] w fun e w' => e = .returned (.bool (Pl.validLP acn arn aRN aRV abn aBV aCV)) ∧ Below w.heap.size w w' := by
  have BA : Bx (w.alloc (.cells #[.slice aR arn arc, .slice aBs abn abc, .slice aCs acn acc] 53)) w.heap.size [.slice aR arn arc, .slice aBs abn abc, .slice aCs acn acc] := Bx.new w #[.slice aR arn arc, .slice aBs abn abc, .slice aCs acn acc] 53
  have HB : Below w.heap.size w (w.alloc (.cells #[.slice aR arn arc, .slice aBs abn abc, .slice aCs acn acc] 53)) := (Below.refl _ _).alloc (Nat.le_refl _) _
  have SB := Lib.hid (fun wx (HX : Below w.heap.size w wx) => containsFuncI_lp aBs abn abc B aBV wx (abb.below' HX hB) (Nat.le_trans hB HX.size) (by omega))
  have AV := Lib.hid (iAllValid_any aCs acn acc B aCV (w.alloc (.cells #[.slice aR arn arc, .slice aBs abn abc, .slice aCs acn acc] 53)) (acr.below HB hB) (Nat.le_trans hB HB.size) (by omega))
  have ARR := Lib.hid arr
  have Z := Lib.hid ha2
  clear arr abb acr ha2
  rw [Pl.validLP]
  generalize Pl.allB (fun j => Pl.within (aBV j) (-5000) 5000) (abn) = vb at SB ⊢
  generalize Pl.okTo aCV acn = vc at AV ⊢
  have x0 := BA.2.1 0 _ rfl
  have x1 := BA.2.1 1 _ rfl
  have x2 := BA.2.1 2 _ rfl
  by_cases c1 : acn ≤ 70
  · have c1' := decide_eq_false (show ¬ (acn : Int) > 70 by omega)
    by_cases c2 : arn ≤ 8
    · have c2' := decide_eq_false (show ¬ (arn : Int) > 8 by omega)
      by_cases c3 : abn = arn
      · subst c3
        have c3' := beq_self_eq_true (abn : Int)
        have HH := show (decide (acn ≤ 70) && decide (abn ≤ 8) && (abn == abn) && vb && vc && Pl.allB (fun i => aRN i == acn && Pl.allB (fun j => Pl.within (aRV i j) (-5000) 5000) (aRN i)) abn) = (vb && vc && Pl.allB (fun i => aRN i == acn && Pl.allB (fun j => Pl.within (aRV i j) (-5000) 5000) (aRN i)) abn) by rw [decide_eq_true c1, decide_eq_true c2, beq_self_eq_true]; rfl
        rw [HH]
        clear HH
        cases vc
        · rw [Bool.and_false, Bool.false_and]
          go_enter Try.func73, Try.ntmps73
          go_wp2_with fail
          refine AV.out.mono ?_
          rintro e w1 ⟨rfl, hb⟩
          go_wp2
          go_ret
          exact ⟨rfl, HB.trans (hb.mono HB.size)⟩
        · rw [Bool.and_true]
          go_enter Try.func73, Try.ntmps73
          go_wp2_with fail
          refine AV.out.mono ?_
          rintro e w1 ⟨rfl, hb⟩
          have BA := BA.below hb
          have HB := HB.trans (hb.mono HB.size)
          clear hb AV x0 x1 x2
          have x0 := BA.2.1 0 _ rfl
          go_wp2
          have HBB := Lib.hid HB
          have BAH := Lib.hid BA
          clear HB BA x0
          go_loopw [5, 34] (fun v u wr => ∃ k : Nat, k ≤ abn ∧ u = .int .i64 k ∧ Hid (Pl.allB (fun i => aRN i == acn && Pl.allB (fun j => Pl.within (aRV i j) (-5000) 5000) (aRN i)) k = true) ∧ Bx wr w.heap.size [.slice aR abn arc, .slice aBs abn abc, .slice aCs acn acc] ∧ Below w.heap.size w wr) (fun _ u _ => abn - (intOf u).toNat)
          case atStart => exact ⟨0, Nat.zero_le _, rfl, Lib.hid rfl, BAH.out, HBB.out⟩
          case round =>
            obtain ⟨k, hk, rfl, he, BA, hb⟩ := hrel
            have x0 := BA.2.1 0 _ rfl
            have x1 := BA.2.1 1 _ rfl
            have x2 := BA.2.1 2 _ rfl
            by_cases hlt : k < abn
            · obtain ⟨b1, o1, rfl, hb1, hc1⟩ := ARR.out.1 (by omega)
              have x3 := (hb.cell (p := ⟨b1, o1 + k, none⟩) (by exact Nat.lt_of_lt_of_le hb1 hB)).trans (hc1 k hlt)
              have k0 : (0 : Int) ≤ (k : Int) := by omega
              have k1 : (k : Int) < (abn : Int) := by omega
              have HNO := Lib.hid (fun h => Pl.allB_no (q := fun i => aRN i == acn && Pl.allB (fun j => Pl.within (aRV i j) (-5000) 5000) (aRN i)) (n := abn) (j := k) h hlt)
              have HYE := Lib.hid (fun h => Pl.allB_yes (q := fun i => aRN i == acn && Pl.allB (fun j => Pl.within (aRV i j) (-5000) 5000) (aRN i)) he.out h)
              have EQ := Lib.hid (containsFuncI_lp (aRA k) (aRN k) (aRC k) B (aRV k) wr ((ARR.out.2 k hlt).below' hb hB) (Nat.le_trans hB hb.size) (by have := Z.out k hlt; omega))
              have hu := Z.out k hlt
              clear hc1
              obtain ⟨m1, e1⟩ : ∃ m, m = aRA k := ⟨_, rfl⟩
              obtain ⟨u1, e3⟩ : ∃ m, m = aRN k := ⟨_, rfl⟩
              obtain ⟨d1, e5⟩ : ∃ m, m = aRC k := ⟨_, rfl⟩
              rw [← e1, ← e3, ← e5] at x3 EQ
              rw [← e3] at hu
              have E3 := Lib.hid e3
              clear e1 e3 e5
              by_cases hq : u1 = acn
              · subst hq
                obtain ⟨vv, e7⟩ : ∃ m, m = Pl.allB (fun j => Pl.within (aRV k j) (-5000) 5000) (u1) := ⟨_, rfl⟩
                rw [← e7] at EQ
                have E7 := Lib.hid e7
                have q2 := bne_self_eq_false (u1 : Int)
                clear e7
                go_wp2_with fail
                refine EQ.out.mono ?_
                rintro e w2 ⟨rfl, hb2⟩
                have BA := BA.below hb2
                have hb := hb.trans (hb2.mono hb.size)
                clear hb2
                cases vv
                · have HR := Lib.hid (HNO.out (by show (aRN k == u1 && Pl.allB _ (aRN k)) = false; rw [← E3.out, ← E7.out, Bool.and_false]))
                  go_wp2
                  go_ret
                  exact ⟨Pl.ret_bool (by rw [HR.out, Bool.and_false]), hb⟩
                · have HY := Lib.hid (HYE.out (by show (aRN k == u1 && Pl.allB _ (aRN k)) = true; rw [← E3.out, ← E7.out, beq_self_eq_true]; rfl))
                  go_wp2
                  go_roundw
                  case rel => exact ⟨k + 1, by omega, by go_num, HY, BA, hb⟩
                  case measure => simp [intOf]; omega
              · have q1 := beq_eq_false_iff_ne.2 hq
                have HR := Lib.hid (HNO.out (by show (aRN k == acn && Pl.allB _ (aRN k)) = false; rw [← E3.out, q1, Bool.false_and]))
                have q2 := beq_eq_false_iff_ne.2 (show (u1 : Int) ≠ (acn : Int) by omega)
                have q3 : ((u1 : Int) != (acn : Int)) = true := by rw [bne, q2]; rfl
                clear hq q1 EQ HNO HYE
                go_wp2
                go_ret
                exact ⟨Pl.ret_bool (by rw [HR.out, Bool.and_false]), hb⟩
            · obtain rfl : k = abn := by omega
              go_wp2_with fail
              refine (SB.out _ hb).mono ?_
              rintro e w2 ⟨rfl, hb2⟩
              have hb := hb.trans (hb2.mono hb.size)
              clear hb2
              go_wp2
              go_ret
              exact ⟨Pl.ret_bool (by rw [he.out]; simp), hb⟩
      · have HH := show (decide (acn ≤ 70) && decide (arn ≤ 8) && (abn == arn) && vb && vc && Pl.allB (fun i => aRN i == acn && Pl.allB (fun j => Pl.within (aRV i j) (-5000) 5000) (aRN i)) arn) = false by rw [beq_eq_false_iff_ne.2 c3]; simp
        rw [HH]
        have c3' := beq_eq_false_iff_ne.2 (show (abn : Int) ≠ (arn : Int) by omega)
        have c4' : ((abn : Int) != (arn : Int)) = true := by rw [bne, c3']; rfl
        clear HH c3
        go_enter Try.func73, Try.ntmps73
        go_wp2
        go_ret
        exact ⟨rfl, HB⟩
    · have HH := show (decide (acn ≤ 70) && decide (arn ≤ 8) && (abn == arn) && vb && vc && Pl.allB (fun i => aRN i == acn && Pl.allB (fun j => Pl.within (aRV i j) (-5000) 5000) (aRN i)) arn) = false by rw [decide_eq_false c2]; simp
      rw [HH]
      have c2' := decide_eq_true (show (arn : Int) > 8 by omega)
      clear HH c2
      go_enter Try.func73, Try.ntmps73
      go_wp2
      go_ret
      exact ⟨rfl, HB⟩
  · have HH := show (decide (acn ≤ 70) && decide (arn ≤ 8) && (abn == arn) && vb && vc && Pl.allB (fun i => aRN i == acn && Pl.allB (fun j => Pl.within (aRV i j) (-5000) 5000) (aRN i)) arn) = false by rw [decide_eq_false c1]; simp
    rw [HH]
    have c1' := decide_eq_true (show (acn : Int) > 70 by omega)
    clear HH c1
    go_enter Try.func73, Try.ntmps73
    go_wp2
    go_ret
    exact ⟨rfl, HB⟩

end Go.Proofs.Ytajafmdeencohaa
