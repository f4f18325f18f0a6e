/-
  Contracts of formed and l6Good: whether a tableau has its form.
-/
import Derived.Test.YtajafmdeencohaaTab
import Derived.Test.YtajafmdeencohaaLpValid
namespace Go.Proofs.Ytajafmdeencohaa
open Go.RowKit
attribute [local go_sem ↓] Go.wp_at_zero Go.wp_at_succ

namespace Pl
theorem allB_and {p q : Nat → Bool} (n : Nat) : allB (fun i => p i && q i) n = (allB p n && allB q n) := by
  induction n with
  | zero => rfl
  | succ n ih =>
    rw [allB, allB, allB, ih]
    generalize allB p n = a
    generalize allB q n = b
    generalize p n = c
    generalize q n = d
    revert a b c d
    decide
theorem allB_congr {p q : Nat → Bool} {n : Nat} (h : ∀ i, i < n → p i = q i) : allB p n = allB q n := by
  induction n with
  | zero => rfl
  | succ n ih => rw [allB, allB, ih fun i hi => h i (by omega), h n (Nat.lt_succ_self _)]
/-- whether a tableau has its form -/
def form (cols : Int) (arn : Nat) (aRN : Nat → Nat) (abn : Nat) (aBV : Nat → Int) : Bool :=
  within cols 0 1000 && (abn == arn) && allB (fun j => within (aBV j) 0 (cols + arn - 1)) abn && allB (fun i => (aRN i : Int) == cols + arn + 1) arn
theorem formFacts {cols : Int} {arn abn : Nat} {aRN : Nat → Nat} {aBV : Nat → Int} (h : form cols arn aRN abn aBV = true) :
    ∃ m : Nat, cols = (m : Int) ∧ m ≤ 1000 ∧ abn = arn ∧ (∀ i, i < arn → 0 ≤ aBV i ∧ aBV i < (m : Int) + arn) ∧ ∀ i, i < arn → aRN i = m + arn + 1 := by
  simp only [form, Bool.and_eq_true, beq_iff_eq] at h
  obtain ⟨⟨⟨h1, h2⟩, h3⟩, h4⟩ := h
  have h1 := within_iff.1 h1
  subst h2
  refine ⟨cols.toNat, by omega, by omega, rfl, fun i hi => ?_, fun i hi => ?_⟩
  · have := within_iff.1 (allB_at h3 i hi)
    omega
  · have := allB_at h4 i hi
    simp only [beq_iff_eq] at this
    omega
end Pl

set_option maxHeartbeats 2000000 in
theorem sGood_any (aR aBs : Option Addr) (arn arc abn abc : Nat) (acols : Int) (aRA : Nat → Option Addr) (aRN aRC : Nat → Nat) (aRV : Nat → Fr) (aBV : Nat → Int) (B : Nat) (w : World) (arr : RdR w B aR arn aRA aRN aRC aRV) (abb : Rd w B 1 aBs abn (cellsI aBV abn)) (hB : B ≤ w.heap.size) (ha1 : arn ≤ 1048576) (ha2 : ∀ j, j < arn → aRN j ≤ 1048576) :
    Calls Try.prog 56 #[.agg #[.slice aR arn arc, .slice aBs abn abc, .int .i64 acols]] w fun e w' => e = .returned (.bool (Pl.form acols arn aRN abn aBV)) ∧ Below w.heap.size w w' := by
  have BA : Bx (w.alloc (.cells #[.slice aR arn arc, .slice aBs abn abc, .int .i64 acols] 30)) w.heap.size [.slice aR arn arc, .slice aBs abn abc, .int .i64 acols] := Bx.new w #[.slice aR arn arc, .slice aBs abn abc, .int .i64 acols] 30
  have HB : Below w.heap.size w (w.alloc (.cells #[.slice aR arn arc, .slice aBs abn abc, .int .i64 acols] 30)) := (Below.refl _ _).alloc (Nat.le_refl _) _
  have x0 := BA.2.1 0 _ rfl
  have x1 := BA.2.1 1 _ rfl
  have x2 := BA.2.1 2 _ rfl
  by_cases c1 : 0 ≤ acols ∧ acols ≤ 1000
  · obtain ⟨m, rfl⟩ : ∃ m : Nat, acols = (m : Int) := ⟨acols.toNat, by omega⟩
    have hm : m ≤ 1000 := by omega
    have d1 := decide_eq_false (show ¬ (m : Int) < 0 by omega)
    have d2 := decide_eq_false (show ¬ (m : Int) > 1000 by omega)
    by_cases c2 : abn = arn
    · subst c2
      obtain ⟨arn, en⟩ : ∃ n, n = abn := ⟨_, rfl⟩
      rw [← en] at arr abb ha1 ha2 x0 x1 x2 BA HB ⊢
      clear en
      have HR : Hid (Pl.form (m : Int) arn aRN arn aBV = Pl.allB (fun i => ((aRN i : Int) == (m : Int) + (arn : Int) + 1) && Pl.within (aBV i) 0 ((m : Int) + (arn : Int) - 1)) arn) := Lib.hid (by rw [Pl.allB_and, Pl.form, Pl.within_yes (by omega) (by omega), beq_self_eq_true, Bool.true_and, Bool.true_and, Bool.and_comm])
      have d3 := beq_self_eq_true (arn : Int)
      have ARR := Lib.hid arr
      have ABB := Lib.hid abb
      have Z := Lib.hid ha2
      clear arr abb ha2 c1
      go_enter Try.func56, Try.ntmps56
      go_wp2
      have HBB := Lib.hid HB
      have BAH := Lib.hid BA
      clear HB BA x0 x1 x2
      go_loopw [4] (fun u wr => ∃ k : Nat, k ≤ arn ∧ u = .int .i64 k ∧ Hid (Pl.allB (fun i => ((aRN i : Int) == (m : Int) + (arn : Int) + 1) && Pl.within (aBV i) 0 ((m : Int) + (arn : Int) - 1)) k = true) ∧ Bx wr w.heap.size [.slice aR arn arc, .slice aBs arn abc, .int .i64 m] ∧ Below w.heap.size w wr) (fun u _ => arn - (intOf u).toNat)
      case atStart => exact ⟨0, Nat.zero_le _, rfl, Lib.hid rfl, BAH.out, HBB.out⟩
      case round =>
  
        obtain ⟨k, hk, rfl, he, BA, hb⟩ := hrel
        by_cases hlt : k < arn
        · have DB := (Below.refl wr.heap.size wr).drew
          have wr1 : IntKind.i64.wrap ((m : Int) + (arn : Int)) = (m : Int) + (arn : Int) := IntWalk.i64_in _ (by omega)
          have wr2 : IntKind.i64.wrap ((m : Int) + (arn : Int) + 1) = (m : Int) + (arn : Int) + 1 := IntWalk.i64_in _ (by omega)
          have wr3 : IntKind.i64.wrap ((m : Int) + (arn : Int) - 1) = (m : Int) + (arn : Int) - 1 := IntWalk.i64_in _ (by omega)
          have BA := BA.below DB
          have hb := hb.trans (DB.mono hb.size)
          clear DB
          obtain ⟨b1, o1, rfl, hb1, hc1⟩ := ARR.out.1 (by omega)
          obtain ⟨b2, o2, rfl, hb2, hc2⟩ := ABB.out.2 (by omega)
          have x1 := (hb.cell (p := ⟨b1, o1 + k, none⟩) (by exact Nat.lt_of_lt_of_le hb1 hB)).trans (hc1 k hlt)
          have x2 := (hb.cell (p := ⟨b2, o2 + k, none⟩) (by exact Nat.lt_of_lt_of_le hb2 hB)).trans (hc2 k _ (cellsI_at aBV hlt))
          have k0 : (0 : Int) ≤ (k : Int) := by omega
          have k1 : (k : Int) < (arn : Int) := by omega
          have HNO := Lib.hid (fun h => Pl.allB_no (q := fun i => ((aRN i : Int) == (m : Int) + (arn : Int) + 1) && Pl.within (aBV i) 0 ((m : Int) + (arn : Int) - 1)) (n := arn) (j := k) h hlt)
          have HYE := Lib.hid (fun h => Pl.allB_yes (q := fun i => ((aRN i : Int) == (m : Int) + (arn : Int) + 1) && Pl.within (aBV i) 0 ((m : Int) + (arn : Int) - 1)) he.out h)
          have hu := Z.out k hlt
          clear hc1 hc2
          obtain ⟨m1, e1⟩ : ∃ m, m = aRA k := ⟨_, rfl⟩
          obtain ⟨u1, e3⟩ : ∃ m, m = aRN k := ⟨_, rfl⟩
          obtain ⟨d1', e5⟩ : ∃ m, m = aRC k := ⟨_, rfl⟩
          obtain ⟨xb, e6⟩ : ∃ m, m = aBV k := ⟨_, rfl⟩
          rw [← e1, ← e3, ← e5] at x1
          rw [← e6] at x2
          rw [← e3] at hu
          have E3 := Lib.hid e3
          have E6 := Lib.hid e6
          clear e1 e3 e5 e6
          by_cases hq : u1 = m + arn + 1
          · have q1 : ((u1 : Int) == (m : Int) + (arn : Int) + 1) = true := beq_iff_eq.2 (by omega)
            have q2 := q1
            have WI := Lib.hid (fun wx => l1In_any xb 0 ((m : Int) + (arn : Int) - 1) wx)
            obtain ⟨vv, e7⟩ : ∃ v, v = Pl.within xb 0 ((m : Int) + (arn : Int) - 1) := ⟨_, rfl⟩
            rw [← e7] at WI
            have E7 := Lib.hid e7
            have Q1 := Lib.hid q1
            clear e7 q1 hq
            go_upto_region 7 with fail
            refine wp_region_noPanic ?_
            refine wp_region_held_drew (S := (fun w' => w'.cell? ⟨w.heap.size, 0, none⟩ = some (.slice (some ⟨b1, o1, none⟩) arn arc) ∧ w'.cell? ⟨w.heap.size, 1, none⟩ = some (.slice (some ⟨b2, o2, none⟩) arn abc) ∧ w'.cell? ⟨w.heap.size, 2, none⟩ = some (.int .i64 m) ∧ w'.cell? ⟨b1, o1 + k, none⟩ = some (.slice m1 u1 d1') ∧ w'.cell? ⟨b2, o2 + k, none⟩ = some (.int .i64 xb))) (by kernel_rfl) ?_ (fun hHeld => ?_)
            · exact ⟨BA.2.1 0 _ rfl, BA.2.1 1 _ rfl, BA.2.1 2 _ rfl, x1, x2⟩
            refine takeN 0 (v := ?v1_0) rfl (by kernel_rfl) (by kernel_rfl) (by kernel_rfl) (fun _ _ _ h => h) (by rfl) ?hy1_0 (by assumption) ?r1_0
            case hy1_0 => (intro w hSw; (try dsimp only at hSw); first | (go_simp; done) | (go_simp; with_reducible rfl))
            simp only [Act.put, List.setIfInBounds_toArray, List.set_cons_zero, List.set_cons_succ]
            refine takeN 1 (v := ?v1_1) rfl (by kernel_rfl) (by kernel_rfl) (by kernel_rfl) (fun _ _ _ h => h) (by rfl) ?hy1_1 (by assumption) ?r1_1
            case hy1_1 => (intro w hSw; (try dsimp only at hSw); first | (go_simp; done) | (go_simp; with_reducible rfl))
            simp only [Act.put, List.setIfInBounds_toArray, List.set_cons_zero, List.set_cons_succ]
            refine takeN 2 (v := ?v1_2) rfl (by kernel_rfl) (by kernel_rfl) (by kernel_rfl) (fun _ _ _ h => h) (by rfl) ?hy1_2 (by assumption) ?r1_2
            case hy1_2 => (intro w hSw; (try dsimp only at hSw); first | (go_simp; done) | (go_simp; with_reducible rfl))
            simp only [Act.put, List.setIfInBounds_toArray, List.set_cons_zero, List.set_cons_succ]
            refine takeN 3 (v := ?v1_3) rfl (by kernel_rfl) (by kernel_rfl) (by kernel_rfl) (fun _ _ _ h => h) (by rfl) ?hy1_3 (by assumption) ?r1_3
            case hy1_3 => (intro w hSw; (try dsimp only at hSw); first | (go_simp; done) | (go_simp; with_reducible rfl))
            simp only [Act.put, List.setIfInBounds_toArray, List.set_cons_zero, List.set_cons_succ]
            refine takeN 4 (v := ?v1_4) rfl (by kernel_rfl) (by kernel_rfl) (by kernel_rfl) (fun _ _ _ h => h) (by rfl) ?hy1_4 (by assumption) ?r1_4
            case hy1_4 => (intro w hSw; (try dsimp only at hSw); first | (go_simp; done) | (go_simp; with_reducible rfl))
            simp only [Act.put, List.setIfInBounds_toArray, List.set_cons_zero, List.set_cons_succ]
            refine takeN 5 (v := ?v1_5) rfl (by kernel_rfl) (by kernel_rfl) (by kernel_rfl) (fun _ _ _ h => h) (by rfl) ?hy1_5 (by assumption) ?r1_5
            case hy1_5 => (intro w hSw; (try dsimp only at hSw); first | (go_simp; done) | (go_simp; with_reducible rfl))
            simp only [Act.put, List.setIfInBounds_toArray, List.set_cons_zero, List.set_cons_succ]
            refine takeN 6 (v := ?v1_6) rfl (by kernel_rfl) (by kernel_rfl) (by kernel_rfl) (fun _ _ _ h => h) (by rfl) ?hy1_6 (by assumption) ?r1_6
            case hy1_6 => (intro w hSw; (try dsimp only at hSw); first | (go_simp; done) | (go_simp; with_reducible rfl))
            simp only [Act.put, List.setIfInBounds_toArray, List.set_cons_zero, List.set_cons_succ]
            refine takeN 7 (v := ?v1_7) rfl (by kernel_rfl) (by kernel_rfl) (by kernel_rfl) (fun _ _ _ h => h) (by rfl) ?hy1_7 (by assumption) ?r1_7
            case hy1_7 => (intro w hSw; (try dsimp only at hSw); first | (go_simp; done) | (go_simp; with_reducible rfl))
            simp only [Act.put, List.setIfInBounds_toArray, List.set_cons_zero, List.set_cons_succ]
            refine takeN 8 (v := ?v1_8) rfl (by kernel_rfl) (by kernel_rfl) (by kernel_rfl) (fun _ _ _ h => h) (by rfl) ?hy1_8 (by assumption) ?r1_8
            case hy1_8 => (intro w hSw; (try dsimp only at hSw); first | (go_simp; done) | (go_simp; with_reducible rfl))
            simp only [Act.put, List.setIfInBounds_toArray, List.set_cons_zero, List.set_cons_succ]
            refine takeN 9 (v := ?v1_9) rfl (by kernel_rfl) (by kernel_rfl) (by kernel_rfl) (fun _ _ _ h => h) (by rfl) ?hy1_9 (by assumption) ?r1_9
            case hy1_9 => (intro w hSw; (try dsimp only at hSw); first | (go_simp; done) | (go_simp; with_reducible rfl))
            simp only [Act.put, List.setIfInBounds_toArray, List.set_cons_zero, List.set_cons_succ]
            try simp only [wr1]
            refine takeN 10 (v := ?v1_10) rfl (by kernel_rfl) (by kernel_rfl) (by kernel_rfl) (fun _ _ _ h => h) (by rfl) ?hy1_10 (by assumption) ?r1_10
            case hy1_10 => (intro w hSw; (try dsimp only at hSw); first | (go_simp; done) | (go_simp; with_reducible rfl))
            simp only [Act.put, List.setIfInBounds_toArray, List.set_cons_zero, List.set_cons_succ]
            try simp only [wr2]
            refine takeN 11 (v := ?v1_11) rfl (by kernel_rfl) (by kernel_rfl) (by kernel_rfl) (fun _ _ _ h => h) (by rfl) ?hy1_11 (by assumption) ?r1_11
            case hy1_11 => (intro w hSw; (try dsimp only at hSw); first | (go_simp; done) | (go_simp; with_reducible rfl))
            simp only [Act.put, List.setIfInBounds_toArray, List.set_cons_zero, List.set_cons_succ]
            try simp only [bne, q2, Bool.not_true]
            refine takeN 12 (v := ?v1_12) rfl (by kernel_rfl) (by kernel_rfl) (by kernel_rfl) (fun _ _ _ h => h) (by rfl) ?hy1_12 (by assumption) ?r1_12
            case hy1_12 => (intro w hSw; (try dsimp only at hSw); first | (go_simp; done) | (go_simp; with_reducible rfl))
            simp only [Act.put, List.setIfInBounds_toArray, List.set_cons_zero, List.set_cons_succ]
            refine takeN 13 (v := ?v1_13) rfl (by kernel_rfl) (by kernel_rfl) (by kernel_rfl) (fun _ _ _ h => h) (by rfl) ?hy1_13 (by assumption) ?r1_13
            case hy1_13 => (intro w hSw; (try dsimp only at hSw); first | (go_simp; done) | (go_simp; with_reducible rfl))
            simp only [Act.put, List.setIfInBounds_toArray, List.set_cons_zero, List.set_cons_succ]
            refine takeN 14 (v := ?v1_14) rfl (by kernel_rfl) (by kernel_rfl) (by kernel_rfl) (fun _ _ _ h => h) (by rfl) ?hy1_14 (by assumption) ?r1_14
            case hy1_14 => (intro w hSw; (try dsimp only at hSw); first | (go_simp; done) | (go_simp; with_reducible rfl))
            simp only [Act.put, List.setIfInBounds_toArray, List.set_cons_zero, List.set_cons_succ]
            refine takeN 15 (v := ?v1_15) rfl (by kernel_rfl) (by kernel_rfl) (by kernel_rfl) (fun _ _ _ h => h) (by rfl) ?hy1_15 (by assumption) ?r1_15
            case hy1_15 => (intro w hSw; (try dsimp only at hSw); first | (go_simp; done) | (go_simp; with_reducible rfl))
            simp only [Act.put, List.setIfInBounds_toArray, List.set_cons_zero, List.set_cons_succ]
            refine takeN 16 (v := ?v1_16) rfl (by kernel_rfl) (by kernel_rfl) (by kernel_rfl) (fun _ _ _ h => h) (by rfl) ?hy1_16 (by assumption) ?r1_16
            case hy1_16 => (intro w hSw; (try dsimp only at hSw); first | (go_simp; done) | (go_simp; with_reducible rfl))
            simp only [Act.put, List.setIfInBounds_toArray, List.set_cons_zero, List.set_cons_succ]
            refine takeN 17 (v := ?v1_17) rfl (by kernel_rfl) (by kernel_rfl) (by kernel_rfl) (fun _ _ _ h => h) (by rfl) ?hy1_17 (by assumption) ?r1_17
            case hy1_17 => (intro w hSw; (try dsimp only at hSw); first | (go_simp; done) | (go_simp; with_reducible rfl))
            simp only [Act.put, List.setIfInBounds_toArray, List.set_cons_zero, List.set_cons_succ]
            refine takeN 18 (v := ?v1_18) rfl (by kernel_rfl) (by kernel_rfl) (by kernel_rfl) (fun _ _ _ h => h) (by rfl) ?hy1_18 (by assumption) ?r1_18
            case hy1_18 => (intro w hSw; (try dsimp only at hSw); first | (go_simp; done) | (go_simp; with_reducible rfl))
            simp only [Act.put, List.setIfInBounds_toArray, List.set_cons_zero, List.set_cons_succ]
            refine takeN 19 (v := ?v1_19) rfl (by kernel_rfl) (by kernel_rfl) (by kernel_rfl) (fun _ _ _ h => h) (by rfl) ?hy1_19 (by assumption) ?r1_19
            case hy1_19 => (intro w hSw; (try dsimp only at hSw); first | (go_simp; done) | (go_simp; with_reducible rfl))
            simp only [Act.put, List.setIfInBounds_toArray, List.set_cons_zero, List.set_cons_succ]
            refine takeN 20 (v := ?v1_20) rfl (by kernel_rfl) (by kernel_rfl) (by kernel_rfl) (fun _ _ _ h => h) (by rfl) ?hy1_20 (by assumption) ?r1_20
            case hy1_20 => (intro w hSw; (try dsimp only at hSw); first | (go_simp; done) | (go_simp; with_reducible rfl))
            simp only [Act.put, List.setIfInBounds_toArray, List.set_cons_zero, List.set_cons_succ]
            refine takeN 21 (v := ?v1_21) rfl (by kernel_rfl) (by kernel_rfl) (by kernel_rfl) (fun _ _ _ h => h) (by rfl) ?hy1_21 (by assumption) ?r1_21
            case hy1_21 => (intro w hSw; (try dsimp only at hSw); first | (go_simp; done) | (go_simp; with_reducible rfl))
            simp only [Act.put, List.setIfInBounds_toArray, List.set_cons_zero, List.set_cons_succ]
            try simp only [wr1]
            refine takeN 22 (v := ?v1_22) rfl (by kernel_rfl) (by kernel_rfl) (by kernel_rfl) (fun _ _ _ h => h) (by rfl) ?hy1_22 (by assumption) ?r1_22
            case hy1_22 => (intro w hSw; (try dsimp only at hSw); first | (go_simp; done) | (go_simp; with_reducible rfl))
            simp only [Act.put, List.setIfInBounds_toArray, List.set_cons_zero, List.set_cons_succ]
            try simp only [wr3]
            refine nextN 23 (by kernel_rfl) rfl (fun K hK => ?_)
            go_simp
            go_at_call 78; refine (WI.out _).mono ?_; rintro e wA ⟨rfl, rfl⟩
            go_wp2_with fail
            refine hK.out _ _ ?_ (fun hHeld => ?_)
            · exact ⟨BA.2.1 0 _ rfl, BA.2.1 1 _ rfl, BA.2.1 2 _ rfl, x1, x2⟩
            clear hK K
            refine takeN 24 (v := ?v1_24) rfl (by kernel_rfl) (by kernel_rfl) (by kernel_rfl) (fun _ _ _ h => h) (by rfl) ?hy1_24 (by assumption) ?r1_24
            case hy1_24 => (intro w hSw; (try dsimp only at hSw); first | (go_simp; done) | (go_simp; with_reducible rfl))
            simp only [Act.put, List.setIfInBounds_toArray, List.set_cons_zero, List.set_cons_succ]
            refine takeN 25 (v := ?v1_25) rfl (by kernel_rfl) (by kernel_rfl) (by kernel_rfl) (fun _ _ _ h => h) (by rfl) ?hy1_25 (by assumption) ?r1_25
            case hy1_25 => (intro w hSw; (try dsimp only at hSw); first | (go_simp; done) | (go_simp; with_reducible rfl))
            simp only [Act.put, List.setIfInBounds_toArray, List.set_cons_zero, List.set_cons_succ]
            refine wpAnyH_done (by kernel_rfl) ?_ _
            refine NoPanic.normal ?_
            cases vv
            · have HN := Lib.hid (HNO.out (by show (((aRN k : Int) == _) && Pl.within (aBV k) _ _) = false; rw [← E3.out, ← E6.out, ← E7.out, Bool.and_false]))
              go_wp2
              go_ret
              exact ⟨Pl.ret_bool (by rw [HR.out, HN.out]), hb⟩
            · have HY := Lib.hid (HYE.out (by show (((aRN k : Int) == _) && Pl.within (aBV k) _ _) = true; rw [← E3.out, ← E6.out, ← E7.out, Q1.out]; rfl))
              clear q2
              go_wp2
              go_roundw
              case rel => exact ⟨k + 1, by omega, by go_num, HY, BA, hb⟩
              case measure => simp [intOf]; omega
          · have q2 : ((u1 : Int) == (m : Int) + (arn : Int) + 1) = false := beq_eq_false_iff_ne.2 (by omega)
            have HN := Lib.hid (HNO.out (by show (((aRN k : Int) == _) && Pl.within (aBV k) _ _) = false; rw [← E3.out, q2, Bool.false_and]))
            clear hq HNO HYE
            go_upto_region 7 with fail
            refine wp_region_noPanic ?_
            refine wp_region_held_drew (S := (fun w' => w'.cell? ⟨w.heap.size, 0, none⟩ = some (.slice (some ⟨b1, o1, none⟩) arn arc) ∧ w'.cell? ⟨w.heap.size, 1, none⟩ = some (.slice (some ⟨b2, o2, none⟩) arn abc) ∧ w'.cell? ⟨w.heap.size, 2, none⟩ = some (.int .i64 m) ∧ w'.cell? ⟨b1, o1 + k, none⟩ = some (.slice m1 u1 d1') ∧ w'.cell? ⟨b2, o2 + k, none⟩ = some (.int .i64 xb))) (by kernel_rfl) ?_ (fun hHeld => ?_)
            · exact ⟨BA.2.1 0 _ rfl, BA.2.1 1 _ rfl, BA.2.1 2 _ rfl, x1, x2⟩
            refine takeN 0 (v := ?v2_0) rfl (by kernel_rfl) (by kernel_rfl) (by kernel_rfl) (fun _ _ _ h => h) (by rfl) ?hy2_0 (by assumption) ?r2_0
            case hy2_0 => (intro w hSw; (try dsimp only at hSw); first | (go_simp; done) | (go_simp; with_reducible rfl))
            simp only [Act.put, List.setIfInBounds_toArray, List.set_cons_zero, List.set_cons_succ]
            refine takeN 1 (v := ?v2_1) rfl (by kernel_rfl) (by kernel_rfl) (by kernel_rfl) (fun _ _ _ h => h) (by rfl) ?hy2_1 (by assumption) ?r2_1
            case hy2_1 => (intro w hSw; (try dsimp only at hSw); first | (go_simp; done) | (go_simp; with_reducible rfl))
            simp only [Act.put, List.setIfInBounds_toArray, List.set_cons_zero, List.set_cons_succ]
            refine takeN 2 (v := ?v2_2) rfl (by kernel_rfl) (by kernel_rfl) (by kernel_rfl) (fun _ _ _ h => h) (by rfl) ?hy2_2 (by assumption) ?r2_2
            case hy2_2 => (intro w hSw; (try dsimp only at hSw); first | (go_simp; done) | (go_simp; with_reducible rfl))
            simp only [Act.put, List.setIfInBounds_toArray, List.set_cons_zero, List.set_cons_succ]
            refine takeN 3 (v := ?v2_3) rfl (by kernel_rfl) (by kernel_rfl) (by kernel_rfl) (fun _ _ _ h => h) (by rfl) ?hy2_3 (by assumption) ?r2_3
            case hy2_3 => (intro w hSw; (try dsimp only at hSw); first | (go_simp; done) | (go_simp; with_reducible rfl))
            simp only [Act.put, List.setIfInBounds_toArray, List.set_cons_zero, List.set_cons_succ]
            refine takeN 4 (v := ?v2_4) rfl (by kernel_rfl) (by kernel_rfl) (by kernel_rfl) (fun _ _ _ h => h) (by rfl) ?hy2_4 (by assumption) ?r2_4
            case hy2_4 => (intro w hSw; (try dsimp only at hSw); first | (go_simp; done) | (go_simp; with_reducible rfl))
            simp only [Act.put, List.setIfInBounds_toArray, List.set_cons_zero, List.set_cons_succ]
            refine takeN 5 (v := ?v2_5) rfl (by kernel_rfl) (by kernel_rfl) (by kernel_rfl) (fun _ _ _ h => h) (by rfl) ?hy2_5 (by assumption) ?r2_5
            case hy2_5 => (intro w hSw; (try dsimp only at hSw); first | (go_simp; done) | (go_simp; with_reducible rfl))
            simp only [Act.put, List.setIfInBounds_toArray, List.set_cons_zero, List.set_cons_succ]
            refine takeN 6 (v := ?v2_6) rfl (by kernel_rfl) (by kernel_rfl) (by kernel_rfl) (fun _ _ _ h => h) (by rfl) ?hy2_6 (by assumption) ?r2_6
            case hy2_6 => (intro w hSw; (try dsimp only at hSw); first | (go_simp; done) | (go_simp; with_reducible rfl))
            simp only [Act.put, List.setIfInBounds_toArray, List.set_cons_zero, List.set_cons_succ]
            refine takeN 7 (v := ?v2_7) rfl (by kernel_rfl) (by kernel_rfl) (by kernel_rfl) (fun _ _ _ h => h) (by rfl) ?hy2_7 (by assumption) ?r2_7
            case hy2_7 => (intro w hSw; (try dsimp only at hSw); first | (go_simp; done) | (go_simp; with_reducible rfl))
            simp only [Act.put, List.setIfInBounds_toArray, List.set_cons_zero, List.set_cons_succ]
            refine takeN 8 (v := ?v2_8) rfl (by kernel_rfl) (by kernel_rfl) (by kernel_rfl) (fun _ _ _ h => h) (by rfl) ?hy2_8 (by assumption) ?r2_8
            case hy2_8 => (intro w hSw; (try dsimp only at hSw); first | (go_simp; done) | (go_simp; with_reducible rfl))
            simp only [Act.put, List.setIfInBounds_toArray, List.set_cons_zero, List.set_cons_succ]
            refine takeN 9 (v := ?v2_9) rfl (by kernel_rfl) (by kernel_rfl) (by kernel_rfl) (fun _ _ _ h => h) (by rfl) ?hy2_9 (by assumption) ?r2_9
            case hy2_9 => (intro w hSw; (try dsimp only at hSw); first | (go_simp; done) | (go_simp; with_reducible rfl))
            simp only [Act.put, List.setIfInBounds_toArray, List.set_cons_zero, List.set_cons_succ]
            try simp only [wr1]
            refine takeN 10 (v := ?v2_10) rfl (by kernel_rfl) (by kernel_rfl) (by kernel_rfl) (fun _ _ _ h => h) (by rfl) ?hy2_10 (by assumption) ?r2_10
            case hy2_10 => (intro w hSw; (try dsimp only at hSw); first | (go_simp; done) | (go_simp; with_reducible rfl))
            simp only [Act.put, List.setIfInBounds_toArray, List.set_cons_zero, List.set_cons_succ]
            try simp only [wr2]
            refine takeN 11 (v := ?v2_11) rfl (by kernel_rfl) (by kernel_rfl) (by kernel_rfl) (fun _ _ _ h => h) (by rfl) ?hy2_11 (by assumption) ?r2_11
            case hy2_11 => (intro w hSw; (try dsimp only at hSw); first | (go_simp; done) | (go_simp; with_reducible rfl))
            simp only [Act.put, List.setIfInBounds_toArray, List.set_cons_zero, List.set_cons_succ]
            try simp only [bne, q2, Bool.not_false]
            refine takeN 12 (v := ?v2_12) rfl (by kernel_rfl) (by kernel_rfl) (by kernel_rfl) (fun _ _ _ h => h) (by rfl) ?hy2_12 (by assumption) ?r2_12
            case hy2_12 => (intro w hSw; (try dsimp only at hSw); first | (go_simp; done) | (go_simp; with_reducible rfl))
            simp only [Act.put, List.setIfInBounds_toArray, List.set_cons_zero, List.set_cons_succ]
            refine skipN 13 rfl (by kernel_rfl) (by kernel_rfl) (by kernel_rfl) (fun _ _ _ h => h) (by rfl) (by assumption) ?_
            simp only [Act.put, List.setIfInBounds_toArray, List.set_cons_zero, List.set_cons_succ]
            refine skipN 14 rfl (by kernel_rfl) (by kernel_rfl) (by kernel_rfl) (fun _ _ _ h => h) (by rfl) (by assumption) ?_
            simp only [Act.put, List.setIfInBounds_toArray, List.set_cons_zero, List.set_cons_succ]
            refine skipN 15 rfl (by kernel_rfl) (by kernel_rfl) (by kernel_rfl) (fun _ _ _ h => h) (by rfl) (by assumption) ?_
            simp only [Act.put, List.setIfInBounds_toArray, List.set_cons_zero, List.set_cons_succ]
            refine skipN 16 rfl (by kernel_rfl) (by kernel_rfl) (by kernel_rfl) (fun _ _ _ h => h) (by rfl) (by assumption) ?_
            simp only [Act.put, List.setIfInBounds_toArray, List.set_cons_zero, List.set_cons_succ]
            refine skipN 17 rfl (by kernel_rfl) (by kernel_rfl) (by kernel_rfl) (fun _ _ _ h => h) (by rfl) (by assumption) ?_
            simp only [Act.put, List.setIfInBounds_toArray, List.set_cons_zero, List.set_cons_succ]
            refine skipN 18 rfl (by kernel_rfl) (by kernel_rfl) (by kernel_rfl) (fun _ _ _ h => h) (by rfl) (by assumption) ?_
            simp only [Act.put, List.setIfInBounds_toArray, List.set_cons_zero, List.set_cons_succ]
            refine skipN 19 rfl (by kernel_rfl) (by kernel_rfl) (by kernel_rfl) (fun _ _ _ h => h) (by rfl) (by assumption) ?_
            simp only [Act.put, List.setIfInBounds_toArray, List.set_cons_zero, List.set_cons_succ]
            refine skipN 20 rfl (by kernel_rfl) (by kernel_rfl) (by kernel_rfl) (fun _ _ _ h => h) (by rfl) (by assumption) ?_
            simp only [Act.put, List.setIfInBounds_toArray, List.set_cons_zero, List.set_cons_succ]
            refine skipN 21 rfl (by kernel_rfl) (by kernel_rfl) (by kernel_rfl) (fun _ _ _ h => h) (by rfl) (by assumption) ?_
            simp only [Act.put, List.setIfInBounds_toArray, List.set_cons_zero, List.set_cons_succ]
            refine skipN 22 rfl (by kernel_rfl) (by kernel_rfl) (by kernel_rfl) (fun _ _ _ h => h) (by rfl) (by assumption) ?_
            simp only [Act.put, List.setIfInBounds_toArray, List.set_cons_zero, List.set_cons_succ]
            refine nextN 23 (by kernel_rfl) rfl (fun K hK => ?_)
            go_simp
            refine hK.out _ _ ?_ (fun hHeld => ?_)
            · assumption
            clear hK K
            refine skipN 24 rfl (by kernel_rfl) (by kernel_rfl) (by kernel_rfl) (fun _ _ _ h => h) (by rfl) (by assumption) ?_
            simp only [Act.put, List.setIfInBounds_toArray, List.set_cons_zero, List.set_cons_succ]
            refine takeN 25 (v := ?v2_25) rfl (by kernel_rfl) (by kernel_rfl) (by kernel_rfl) (fun _ _ _ h => h) (by rfl) ?hy2_25 (by assumption) ?r2_25
            case hy2_25 => (intro w hSw; (try dsimp only at hSw); first | (go_simp; done) | (go_simp; with_reducible rfl))
            simp only [Act.put, List.setIfInBounds_toArray, List.set_cons_zero, List.set_cons_succ]
            refine wpAnyH_done (by kernel_rfl) ?_ _
            refine NoPanic.normal ?_
            go_wp2
            go_ret
            exact ⟨Pl.ret_bool (by rw [HR.out, HN.out]), hb⟩
        · obtain rfl : k = arn := by omega
          have x0 := BA.2.1 0 _ rfl
          go_wp2
          go_ret
          exact ⟨Pl.ret_bool (by rw [HR.out, he.out]), hb⟩
    · have HH : Pl.form (m : Int) arn aRN abn aBV = false := by rw [Pl.form, beq_eq_false_iff_ne.2 c2]; simp
      rw [HH]
      have d3 := beq_eq_false_iff_ne.2 (show (abn : Int) ≠ (arn : Int) by omega)
      have d4 : ((abn : Int) != (arn : Int)) = true := by rw [bne, d3]; rfl
      clear HH c2 c1
      go_enter Try.func56, Try.ntmps56
      go_wp2
      go_ret
      exact ⟨rfl, HB⟩
  · have HH : Pl.form acols arn aRN abn aBV = false := by rw [Pl.form, show Pl.within acols 0 1000 = false from by rw [← Bool.not_eq_true, Pl.within_iff]; exact c1]; simp
    rw [HH]
    clear HH
    by_cases c3 : acols < 0
    · have d1 := decide_eq_true c3
      clear c1 c3
      go_enter Try.func56, Try.ntmps56
      go_wp2
      go_ret
      exact ⟨rfl, HB⟩
    · have d1 := decide_eq_false c3
      have d2 := decide_eq_true (show acols > 1000 by omega)
      clear c1 c3
      go_enter Try.func56, Try.ntmps56
      go_wp2
      go_ret
      exact ⟨rfl, HB⟩

theorem badB_any (m rr g1 g2 : Nat) (hm : m ≤ 1000) (hrr : rr ≤ 1048576) (a : Int) (w : World) (x2 : w.cell? ⟨g1, 2, none⟩ = some (.int .i64 (m : Int))) (y0 : w.cell? ⟨g2, 0, none⟩ = some (.int .i64 (rr : Int))) : Calls Try.prog 92 #[.int .i64 a, .pointer (some ⟨g1, 0, none⟩), .pointer (some ⟨g2, 0, none⟩)] w fun e w' => e = .returned (.bool (!Pl.within a 0 ((m : Int) + (rr : Int) - 1))) ∧ Below w.heap.size w w' := by
  go_enter Try.func92, Try.ntmps92
  go_wp2_with fail
  refine (within_any _ _ _ _).mono ?_
  rintro e w1 ⟨rfl, rfl⟩
  go_wp2
  go_ret
  exact ⟨rfl, Below.refl _ _⟩

theorem indexFuncI_bs (m rr g1 g2 : Nat) (hm : m ≤ 1000) (hrr : rr ≤ 1048576) (A1 : Option Addr) (n c1 B : Nat) (V : Nat → Int) (w : World) (hg1 : g1 < w.heap.size) (hg2 : g2 < w.heap.size) (x2 : w.cell? ⟨g1, 2, none⟩ = some (.int .i64 (m : Int))) (y0 : w.cell? ⟨g2, 0, none⟩ = some (.int .i64 (rr : Int))) (h1 : Rd w B 1 A1 n (cellsI V n)) (hB : B ≤ w.heap.size) (hn1 : n ≤ 1099511627776) :
    Calls Try.prog 111 #[.slice A1 n c1, .func (.func 92) #[] #[.pointer (some ⟨g1, 0, none⟩), .pointer (some ⟨g2, 0, none⟩)]] w fun e w' => ∃ r : Int, e = .returned (.int .i64 r) ∧ decide (0 ≤ r) = !Pl.allB (fun j => Pl.within (V j) 0 ((m : Int) + (rr : Int) - 1)) n ∧ Below w.heap.size w w' := by
  go_enter Try.func111, Try.ntmps111
  go_wp2
  go_loopw [5, 8] (fun v u wr => ∃ k : Nat, k ≤ n ∧ u = .int .i64 k ∧ Hid (Pl.allB (fun j => Pl.within (V j) 0 ((m : Int) + (rr : Int) - 1)) k = true) ∧ Below w.heap.size w wr) (fun _ u _ => n - (intOf u).toNat)
  case atStart => exact ⟨0, Nat.zero_le _, rfl, Lib.hid rfl, Below.refl _ _⟩
  case round =>
    obtain ⟨k, hk, rfl, he, hb⟩ := hrel
    by_cases hlt : k < n
    · obtain ⟨b, off, rfl, hbb, hc⟩ := h1.2 (by omega)
      have x0 := (hb.cell (p := ⟨b, off + k, none⟩) (by exact Nat.lt_of_lt_of_le hbb hB)).trans (hc k _ (cellsI_at V hlt))
      clear hc h1
      have C := Lib.hid (badB_any m rr g1 g2 hm hrr (V k) wr ((hb.cell (p := ⟨g1, 2, none⟩) hg1).trans x2) ((hb.cell (p := ⟨g2, 0, none⟩) hg2).trans y0))
      have k0 : (0 : Int) ≤ (k : Int) := by omega
      have k1 : (k : Int) < (n : Int) := by omega
      cases hv : Pl.within (V k) 0 ((m : Int) + (rr : Int) - 1)
      · have HR := Lib.hid (Pl.allB_no (q := fun j => Pl.within (V j) 0 ((m : Int) + (rr : Int) - 1)) (n := n) hv hlt)
        rw [hv] at C
        clear hv
        go_wp2_with fail
        refine C.out.mono ?_
        rintro e w1 ⟨rfl, hb2⟩
        go_wp2
        go_ret
        exact ⟨(k : Int), rfl, by rw [HR.out]; exact decide_eq_true k0, hb.trans (hb2.mono hb.size)⟩
      · have HY := Lib.hid (Pl.allB_yes (q := fun j => Pl.within (V j) 0 ((m : Int) + (rr : Int) - 1)) he.out hv)
        rw [hv] at C
        clear hv
        go_wp2_with fail
        refine C.out.mono ?_
        rintro e w1 ⟨rfl, hb2⟩
        go_wp2
        go_roundw
        case rel => exact ⟨k + 1, by omega, by go_num, HY, hb.trans (hb2.mono hb.size)⟩
        case measure => simp [intOf]; omega
    · obtain rfl : k = n := by omega
      go_wp2
      go_ret
      exact ⟨-1, rfl, by rw [he.out]; rfl, hb⟩
theorem containsFuncI_bs (m rr g1 g2 : Nat) (hm : m ≤ 1000) (hrr : rr ≤ 1048576) (A1 : Option Addr) (n c1 B : Nat) (V : Nat → Int) (w : World) (hg1 : g1 < w.heap.size) (hg2 : g2 < w.heap.size) (x2 : w.cell? ⟨g1, 2, none⟩ = some (.int .i64 (m : Int))) (y0 : w.cell? ⟨g2, 0, none⟩ = some (.int .i64 (rr : Int))) (h1 : Rd w B 1 A1 n (cellsI V n)) (hB : B ≤ w.heap.size) (hn1 : n ≤ 1099511627776) :
    Calls Try.prog 91 #[.slice A1 n c1, .func (.func 92) #[] #[.pointer (some ⟨g1, 0, none⟩), .pointer (some ⟨g2, 0, none⟩)]] w fun e w' => e = .returned (.bool (!Pl.allB (fun j => Pl.within (V j) 0 ((m : Int) + (rr : Int) - 1)) n)) ∧ Below w.heap.size w w' := by
  have c := indexFuncI_bs m rr g1 g2 hm hrr A1 n c1 B V w hg1 hg2 x2 y0 h1 hB hn1
  go_enter Try.func91, Try.ntmps91
  go_wp2_with fail
  refine c.mono ?_
  rintro e w1 ⟨r, rfl, hr, hb⟩
  go_wp2
  go_ret
  exact ⟨Pl.ret_bool rfl, hb⟩

theorem badR_any (m rr g1 g2 : Nat) (hm : m ≤ 1000) (hrr : rr ≤ 1048576) (A : Option Addr) (n c : Nat) (w : World) (x2 : w.cell? ⟨g1, 2, none⟩ = some (.int .i64 (m : Int))) (y0 : w.cell? ⟨g2, 0, none⟩ = some (.int .i64 (rr : Int))) : Calls Try.prog 94 #[.slice A n c, .pointer (some ⟨g1, 0, none⟩), .pointer (some ⟨g2, 0, none⟩)] w fun e w' => e = .returned (.bool (!((n : Int) == (m : Int) + (rr : Int) + 1))) ∧ Below w.heap.size w w' := by
  go_enter Try.func94, Try.ntmps94
  go_wp2
  go_ret
  exact ⟨Pl.ret_bool rfl, Below.refl _ _⟩

theorem indexFuncR (m rr g1 g2 : Nat) (hm : m ≤ 1000) (hrr : rr ≤ 1048576) (A1 : Option Addr) (n c1 B : Nat) (RA : Nat → Option Addr) (RN RC : Nat → Nat) (RV : Nat → Fr) (w : World) (hg1 : g1 < w.heap.size) (hg2 : g2 < w.heap.size) (x2 : w.cell? ⟨g1, 2, none⟩ = some (.int .i64 (m : Int))) (y0 : w.cell? ⟨g2, 0, none⟩ = some (.int .i64 (rr : Int))) (h1 : RdR w B A1 n RA RN RC RV) (hB : B ≤ w.heap.size) (hn1 : n ≤ 1048576) :
    Calls Try.prog 112 #[.slice A1 n c1, .func (.func 94) #[] #[.pointer (some ⟨g1, 0, none⟩), .pointer (some ⟨g2, 0, none⟩)]] w fun e w' => ∃ q : Int, e = .returned (.int .i64 q) ∧ decide (0 ≤ q) = !Pl.allB (fun j => (RN j : Int) == (m : Int) + (rr : Int) + 1) n ∧ Below w.heap.size w w' := by
  have H1 := Lib.hid h1
  clear h1
  go_enter Try.func112, Try.ntmps112
  go_wp2
  go_loopw [5, 8] (fun v u wr => ∃ k : Nat, k ≤ n ∧ u = .int .i64 k ∧ Hid (Pl.allB (fun j => (RN j : Int) == (m : Int) + (rr : Int) + 1) k = true) ∧ Below w.heap.size w wr) (fun _ u _ => n - (intOf u).toNat)
  case atStart => exact ⟨0, Nat.zero_le _, rfl, Lib.hid rfl, Below.refl _ _⟩
  case round =>
    obtain ⟨k, hk, rfl, he, hb⟩ := hrel
    by_cases hlt : k < n
    · obtain ⟨b, off, rfl, hbb, hc⟩ := H1.out.1 (by omega)
      have x0 := (hb.cell (p := ⟨b, off + k, none⟩) (by exact Nat.lt_of_lt_of_le hbb hB)).trans (hc k hlt)
      clear hc
      have C := Lib.hid (badR_any m rr g1 g2 hm hrr (RA k) (RN k) (RC k) wr ((hb.cell (p := ⟨g1, 2, none⟩) hg1).trans x2) ((hb.cell (p := ⟨g2, 0, none⟩) hg2).trans y0))
      have HNO := Lib.hid (fun h => Pl.allB_no (q := fun j => (RN j : Int) == (m : Int) + (rr : Int) + 1) (n := n) (j := k) h hlt)
      have HYE := Lib.hid (fun h => Pl.allB_yes (q := fun j => (RN j : Int) == (m : Int) + (rr : Int) + 1) he.out h)
      have k0 : (0 : Int) ≤ (k : Int) := by omega
      have k1 : (k : Int) < (n : Int) := by omega
      obtain ⟨vv, e7⟩ : ∃ v, v = ((RN k : Int) == (m : Int) + (rr : Int) + 1) := ⟨_, rfl⟩
      rw [← e7] at C
      have E7 := Lib.hid e7
      clear e7 x2 y0
      cases vv
      · have HR := Lib.hid (HNO.out E7.out.symm)
        go_wp2_with fail
        refine C.out.mono ?_
        rintro e w1 ⟨rfl, hb2⟩
        go_wp2
        go_ret
        exact ⟨(k : Int), rfl, by rw [HR.out]; exact decide_eq_true k0, hb.trans (hb2.mono hb.size)⟩
      · have HY := Lib.hid (HYE.out E7.out.symm)
        go_wp2_with fail
        refine C.out.mono ?_
        rintro e w1 ⟨rfl, hb2⟩
        go_wp2
        go_roundw
        case rel => exact ⟨k + 1, by omega, by go_num, HY, hb.trans (hb2.mono hb.size)⟩
        case measure => simp [intOf]; omega
    · obtain rfl : k = n := by omega
      go_wp2
      go_ret
      exact ⟨-1, rfl, by rw [he.out]; rfl, hb⟩
theorem containsFuncR (m rr g1 g2 : Nat) (hm : m ≤ 1000) (hrr : rr ≤ 1048576) (A1 : Option Addr) (n c1 B : Nat) (RA : Nat → Option Addr) (RN RC : Nat → Nat) (RV : Nat → Fr) (w : World) (hg1 : g1 < w.heap.size) (hg2 : g2 < w.heap.size) (x2 : w.cell? ⟨g1, 2, none⟩ = some (.int .i64 (m : Int))) (y0 : w.cell? ⟨g2, 0, none⟩ = some (.int .i64 (rr : Int))) (h1 : RdR w B A1 n RA RN RC RV) (hB : B ≤ w.heap.size) (hn1 : n ≤ 1048576) :
    Calls Try.prog 93 #[.slice A1 n c1, .func (.func 94) #[] #[.pointer (some ⟨g1, 0, none⟩), .pointer (some ⟨g2, 0, none⟩)]] w fun e w' => e = .returned (.bool (!Pl.allB (fun j => (RN j : Int) == (m : Int) + (rr : Int) + 1) n)) ∧ Below w.heap.size w w' := by
  have c := indexFuncR m rr g1 g2 hm hrr A1 n c1 B RA RN RC RV w hg1 hg2 x2 y0 h1 hB hn1
  clear x2 y0
  go_enter Try.func93, Try.ntmps93
  go_wp2_with fail
  refine c.mono ?_
  rintro e w1 ⟨q, rfl, hq, hb⟩
  go_wp2
  go_ret
  exact ⟨Pl.ret_bool rfl, hb⟩

set_option maxHeartbeats 2000000 in
theorem formed_any (aR aBs : Option Addr) (arn arc abn abc : Nat) (acols : Int) (aRA : Nat → Option Addr) (aRN aRC : Nat → Nat) (aRV : Nat → Fr) (aBV : Nat → Int) (B : Nat) (w : World) (arr : RdR w B aR arn aRA aRN aRC aRV) (abb : Rd w B 1 aBs abn (cellsI aBV abn)) (hB : B ≤ w.heap.size) (ha1 : arn ≤ 1048576) (ha3 : abn ≤ 1048576) :
    Calls Try.prog 58 #[.agg #[.slice aR arn arc, .slice aBs abn abc, .int .i64 acols]] w fun e w' => e = .returned (.bool (Pl.form acols arn aRN abn aBV)) ∧ Below w.heap.size w w' := by
  have BA : Bx ((w.alloc (.cells #[.slice aR arn arc, .slice aBs abn abc, .int .i64 acols] 30)).alloc (.cells #[.int .i64 arn] 3)) w.heap.size [.slice aR arn arc, .slice aBs abn abc, .int .i64 acols] := (Bx.new w #[.slice aR arn arc, .slice aBs abn abc, .int .i64 acols] 30).alloc _
  have BC : Bx ((w.alloc (.cells #[.slice aR arn arc, .slice aBs abn abc, .int .i64 acols] 30)).alloc (.cells #[.int .i64 arn] 3)) (w.heap.size + 1) [.int .i64 arn] := by
    have h := Bx.new (w.alloc (.cells #[.slice aR arn arc, .slice aBs abn abc, .int .i64 acols] 30)) #[.int .i64 arn] 3
    simpa using h
  have HB : Below w.heap.size w ((w.alloc (.cells #[.slice aR arn arc, .slice aBs abn abc, .int .i64 acols] 30)).alloc (.cells #[.int .i64 arn] 3)) := ((Below.refl _ _).alloc (Nat.le_refl _) _).alloc (by simp) _
  have x0 := BA.2.1 0 _ rfl
  have x1 := BA.2.1 1 _ rfl
  have x2 := BA.2.1 2 _ rfl
  have y0 := BC.2.1 0 _ rfl
  have CB := Lib.hid (fun (m : Nat) (hm : m ≤ 1000) (wx : World) (H : Below w.heap.size w wx) hg1 hg2 a2 b0 => containsFuncI_bs m arn w.heap.size (w.heap.size + 1) hm ha1 aBs abn abc B aBV wx hg1 hg2 a2 b0 (abb.below' H hB) (Nat.le_trans hB H.size) (by omega))
  have CR := Lib.hid (fun (m : Nat) (hm : m ≤ 1000) (wx : World) (H : Below w.heap.size w wx) hg1 hg2 a2 b0 => containsFuncR m arn w.heap.size (w.heap.size + 1) hm ha1 aR arn arc B aRA aRN aRC aRV wx hg1 hg2 a2 b0 (arr.below H hB) (Nat.le_trans hB H.size) ha1)
  clear arr abb
  by_cases c1 : 0 ≤ acols ∧ acols ≤ 1000
  · obtain ⟨m, rfl⟩ : ∃ m : Nat, acols = (m : Int) := ⟨acols.toNat, by omega⟩
    have hm : m ≤ 1000 := by omega
    have HW : Pl.within (m : Int) 0 1000 = true := Pl.within_iff.2 c1
    clear c1
    by_cases c2 : abn = arn
    · subst c2
      have d3 := beq_self_eq_true (abn : Int)
      have d4 := bne_self_eq_false (abn : Int)
      obtain ⟨vb, eb⟩ : ∃ v, v = Pl.allB (fun j => Pl.within (aBV j) 0 ((m : Int) + (abn : Int) - 1)) abn := ⟨_, rfl⟩
      obtain ⟨vr, er⟩ : ∃ v, v = Pl.allB (fun i => (aRN i : Int) == (m : Int) + (abn : Int) + 1) abn := ⟨_, rfl⟩
      have HH : Pl.form (m : Int) abn aRN abn aBV = (vb && vr) := by rw [Pl.form, HW, beq_self_eq_true, ← eb, ← er]; rfl
      rw [HH]
      have CB := Lib.hid (CB.out m hm)
      have CR := Lib.hid (CR.out m hm)
      rw [← eb] at CB
      rw [← er] at CR
      have CW := Lib.hid (fun wx => within_any (m : Int) 0 1000 wx)
      rw [HW] at CW
      clear HH eb er HW
      go_enter Try.func58, Try.ntmps58
      go_wp2_with fail
      refine (CW.out _).mono ?_
      rintro e w1 ⟨rfl, rfl⟩
      go_wp2_with fail
      refine (CB.out _ HB BA.1 BC.1 x2 y0).mono ?_
      rintro e w2 ⟨rfl, hb⟩
      have BA := BA.below hb
      have BC := BC.below hb
      have HB := HB.trans (hb.mono HB.size)
      clear hb CB CW x0 x1 x2 y0
      have x0 := BA.2.1 0 _ rfl
      have x1 := BA.2.1 1 _ rfl
      have x2 := BA.2.1 2 _ rfl
      have y0 := BC.2.1 0 _ rfl
      cases vb
      · go_wp2
        go_ret
        exact ⟨rfl, HB⟩
      · go_wp2_with fail
        refine (CR.out _ HB BA.1 BC.1 x2 y0).mono ?_
        rintro e w3 ⟨rfl, hb⟩
        have HB := HB.trans (hb.mono HB.size)
        clear hb CR x0 x1 x2 y0 BA BC
        go_wp2
        go_ret
        exact ⟨Pl.ret_bool (by simp), HB⟩
    · have HH : Pl.form (m : Int) arn aRN abn aBV = false := by rw [Pl.form, beq_eq_false_iff_ne.2 c2]; simp
      rw [HH]
      have d3 := beq_eq_false_iff_ne.2 (show (abn : Int) ≠ (arn : Int) by omega)
      have d4 : ((abn : Int) != (arn : Int)) = true := by rw [bne, d3]; rfl
      have CW := Lib.hid (fun wx => within_any (m : Int) 0 1000 wx)
      rw [HW] at CW
      clear HH c2 HW CB CR
      go_enter Try.func58, Try.ntmps58
      go_wp2_with fail
      refine (CW.out _).mono ?_
      rintro e w1 ⟨rfl, rfl⟩
      go_wp2
      go_ret
      exact ⟨rfl, HB⟩
  · have HW : Pl.within acols 0 1000 = false := by rw [← Bool.not_eq_true, Pl.within_iff]; exact c1
    have HH : Pl.form acols arn aRN abn aBV = false := by rw [Pl.form, HW]; simp
    rw [HH]
    have CW := Lib.hid (fun wx => within_any acols 0 1000 wx)
    rw [HW] at CW
    clear HH HW CB CR c1
    go_enter Try.func58, Try.ntmps58
    go_wp2_with fail
    refine (CW.out _).mono ?_
    rintro e w1 ⟨rfl, rfl⟩
    go_wp2
    go_ret
    exact ⟨rfl, HB⟩

end Go.Proofs.Ytajafmdeencohaa
