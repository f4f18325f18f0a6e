/-
  The laws FnExactRatOf and FnExactCompareRat walked: each returns true.
-/
import Derived.Test.YtbjlkbpjmjpdkaaRatLaws
namespace Go.Proofs.Ytbjlkbpjmjpdkaa
open Go.RowKit
attribute [local go_sem ↓] Go.wp_at_zero Go.wp_at_succ

theorem fnExactRatOf_walk (n : Int) (_ : (Lit.int .i64 n).wf = true) (d : Int) (_ : (Lit.int .i64 d).wf = true) (w : World) :
    Calls Try.prog 4 #[.int .i64 n, .int .i64 d] w fun e w' => e = .returned (.bool true) ∧ Below w.heap.size w w' := by
  go_enter Try.func4, Try.ntmps4
  go_wp2_with fail
  refine (sratOf_any _ _ _).mono ?_
  rintro e w1 ⟨rfl, hb1⟩
  have hs1 := hb1.size
  go_wp2_with fail
  refine (iratOf_any _ _ _).mono ?_
  rintro e w2 ⟨rfl, hb2⟩
  obtain ⟨hc2, hf2, hl2, hm2, hn2⟩ := bfull hb2
  have hs2 := hb2.size
  simp at hs2
  go_wp2_with fail
  refine (eqRat_any _ _ _ _ _).mono ?_
  rintro e w3 ⟨rfl, hb3⟩
  simp only [beq_self_eq_true, Bool.and_self]
  go_wp2
  go_ret
  exact ⟨rfl, (((hb1.alloc (by omega) _).trans (hb2.mono (by simp; omega))).alloc (by omega) _).trans (hb3.mono (by simp; omega))⟩

set_option maxHeartbeats 1000000 in
theorem fnExactCompareRat_walk (a b : Int) (_ : (Lit.int .i64 a).wf = true) (_ : (Lit.int .i64 b).wf = true) (c d : Int) (_ : (Lit.int .i64 c).wf = true) (_ : (Lit.int .i64 d).wf = true) (w : World) :
    Calls Try.prog 3 #[.agg #[.int .i64 a, .int .i64 b], .agg #[.int .i64 c, .int .i64 d]] w fun e w' => e = .returned (.bool true) ∧ Below w.heap.size w w' := by
  go_enter Try.func3, Try.ntmps3
  go_upto_region 1 with fail
  go_cut [5] (fun s5 wx => s5 = .int .i64 (Pl.cmp a b c d) ∧ Below (w.heap.size + 1 + 1) ((w.alloc (.cells #[.int .i64 a, .int .i64 b] 23)).alloc (.cells #[.int .i64 c, .int .i64 d] 23)) wx)
  case first =>
    go_region_held3 (fun w' => w'.cell? ⟨w.heap.size, 0, none⟩ = some (.int .i64 a) ∧ w'.cell? ⟨w.heap.size, 1, none⟩ = some (.int .i64 b) ∧ w'.cell? ⟨w.heap.size + 1, 0, none⟩ = some (.int .i64 c) ∧ w'.cell? ⟨w.heap.size + 1, 1, none⟩ = some (.int .i64 d) ∧ w.heap.size < w'.heap.size ∧ w.heap.size + 1 < w'.heap.size) (exact two_boxes (by repeat (first | assumption | exact Below.refl _ _ | refine Below.drew ?_ | refine below_drewN ?_ _ | refine Below.alloc ?_ (by first | omega | (simp; done) | (simp; omega)) _ | refine Below.setCell ?_ (by first | omega | (simp; done) | (simp; omega)) _))) (first | (go_at_call 11; refine (toRat_any _ _ _).mono ?_; rintro e wA ⟨rfl, hb⟩; have HB : Below (w.heap.size + 1 + 1) (((w.alloc (.cells #[.int .i64 a, .int .i64 b] 23)).alloc (.cells #[.int .i64 c, .int .i64 d] 23))) wA := Below.trans (by repeat (first | assumption | exact Below.refl _ _ | refine Below.drew ?_ | refine below_drewN ?_ _ | refine Below.alloc ?_ (by first | omega | (simp; done) | (simp; omega)) _ | refine Below.setCell ?_ (by first | omega | (simp; done) | (simp; omega)) _)) (hb.mono (by first | omega | (simp; done) | (simp; omega))); have HS : w.heap.size + 1 + 1 ≤ wA.heap.size := Nat.le_trans (by simp) HB.size; obtain ⟨hc, hf, hl, hm, hn⟩ := bfull hb; (try (have z : w.heap.size + 1 + 1 < wA.heap.size := Nat.lt_of_lt_of_le (by first | omega | (simp; done) | (simp; omega)) hb.size))) | (go_at_call 10; refine (scmp_any _ _ _ _ _).mono ?_; rintro e wA ⟨rfl, hb⟩; have HB : Below (w.heap.size + 1 + 1) (((w.alloc (.cells #[.int .i64 a, .int .i64 b] 23)).alloc (.cells #[.int .i64 c, .int .i64 d] 23))) wA := Below.trans (by repeat (first | assumption | exact Below.refl _ _ | refine Below.drew ?_ | refine below_drewN ?_ _ | refine Below.alloc ?_ (by first | omega | (simp; done) | (simp; omega)) _ | refine Below.setCell ?_ (by first | omega | (simp; done) | (simp; omega)) _)) (hb.mono (by first | omega | (simp; done) | (simp; omega))); have HS : w.heap.size + 1 + 1 ≤ wA.heap.size := Nat.le_trans (by simp) HB.size; obtain ⟨hc, hf, hl, hm, hn⟩ := bfull hb; (try (have z : w.heap.size + 1 + 1 < wA.heap.size := Nat.lt_of_lt_of_le (by first | omega | (simp; done) | (simp; omega)) hb.size))))
    all_goals
      go_wp2_with fail
      go_meet
      refine ⟨rfl, by repeat (first | assumption | exact Below.refl _ _ | refine Below.drew ?_ | refine below_drewN ?_ _ | refine Below.alloc ?_ (by first | omega | (simp; done) | (simp; omega)) _ | refine Below.setCell ?_ (by first | omega | (simp; done) | (simp; omega)) _)⟩
  case rest =>
    obtain ⟨rfl, HB⟩ := hcut
    obtain ⟨wo, rfl⟩ : ∃ wo : World, wo = wc := ⟨_, rfl⟩
    have HS : w.heap.size + 1 + 1 ≤ wo.heap.size := Nat.le_trans (by simp) HB.size
    go_upto_region 2 with fail
    go_cut [6] (fun s6 wx => s6 = .int .i64 (Pl.cmp a b c d) ∧ Below (w.heap.size + 1 + 1) ((w.alloc (.cells #[.int .i64 a, .int .i64 b] 23)).alloc (.cells #[.int .i64 c, .int .i64 d] 23)) wx)
    case first =>
      go_region_held3 (fun w' => w'.cell? ⟨w.heap.size, 0, none⟩ = some (.int .i64 a) ∧ w'.cell? ⟨w.heap.size, 1, none⟩ = some (.int .i64 b) ∧ w'.cell? ⟨w.heap.size + 1, 0, none⟩ = some (.int .i64 c) ∧ w'.cell? ⟨w.heap.size + 1, 1, none⟩ = some (.int .i64 d) ∧ w.heap.size < w'.heap.size ∧ w.heap.size + 1 < w'.heap.size) (exact two_boxes (by repeat (first | assumption | exact Below.refl _ _ | refine Below.drew ?_ | refine below_drewN ?_ _ | refine Below.alloc ?_ (by first | omega | (simp; done) | (simp; omega)) _ | refine Below.setCell ?_ (by first | omega | (simp; done) | (simp; omega)) _))) (first | (go_at_call 11; refine (toRat_any _ _ _).mono ?_; rintro e wA ⟨rfl, hb⟩; have HB : Below (w.heap.size + 1 + 1) (((w.alloc (.cells #[.int .i64 a, .int .i64 b] 23)).alloc (.cells #[.int .i64 c, .int .i64 d] 23))) wA := Below.trans (by repeat (first | assumption | exact Below.refl _ _ | refine Below.drew ?_ | refine below_drewN ?_ _ | refine Below.alloc ?_ (by first | omega | (simp; done) | (simp; omega)) _ | refine Below.setCell ?_ (by first | omega | (simp; done) | (simp; omega)) _)) (hb.mono (by first | omega | (simp; done) | (simp; omega))); have HS : w.heap.size + 1 + 1 ≤ wA.heap.size := Nat.le_trans (by simp) HB.size; obtain ⟨hc, hf, hl, hm, hn⟩ := bfull hb; (try (have z : w.heap.size + 1 + 1 < wA.heap.size := Nat.lt_of_lt_of_le (by first | omega | (simp; done) | (simp; omega)) hb.size))) | (go_at_call 12; refine (icmp_any _ _ _ _ _).mono ?_; rintro e wA ⟨rfl, hb⟩; have HB : Below (w.heap.size + 1 + 1) (((w.alloc (.cells #[.int .i64 a, .int .i64 b] 23)).alloc (.cells #[.int .i64 c, .int .i64 d] 23))) wA := Below.trans (by repeat (first | assumption | exact Below.refl _ _ | refine Below.drew ?_ | refine below_drewN ?_ _ | refine Below.alloc ?_ (by first | omega | (simp; done) | (simp; omega)) _ | refine Below.setCell ?_ (by first | omega | (simp; done) | (simp; omega)) _)) (hb.mono (by first | omega | (simp; done) | (simp; omega))); have HS : w.heap.size + 1 + 1 ≤ wA.heap.size := Nat.le_trans (by simp) HB.size; obtain ⟨hc, hf, hl, hm, hn⟩ := bfull hb; (try (have z : w.heap.size + 1 + 1 < wA.heap.size := Nat.lt_of_lt_of_le (by first | omega | (simp; done) | (simp; omega)) hb.size))))
      all_goals
        go_wp2_with fail
        go_meet
        refine ⟨rfl, by repeat (first | assumption | exact Below.refl _ _ | refine Below.drew ?_ | refine below_drewN ?_ _ | refine Below.alloc ?_ (by first | omega | (simp; done) | (simp; omega)) _ | refine Below.setCell ?_ (by first | omega | (simp; done) | (simp; omega)) _)⟩
    case rest =>
      obtain ⟨rfl, HB'⟩ := hcut
      go_wp2
      go_ret
      exact ⟨rfl, (below_new2 _ _ _).trans (HB'.mono (by omega))⟩

end Go.Proofs.Ytbjlkbpjmjpdkaa
