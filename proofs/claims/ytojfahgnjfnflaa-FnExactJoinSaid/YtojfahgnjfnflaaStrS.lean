/-
  Contracts of the laws' markText, eqStringS (two slices that hold the same), markStringS (a slice of the call's own) and heldStringS.
-/
import Derived.Test.YtojfahgnjfnflaaChecked
import Derived.Test.YtojfahgnjfnflaaOwn
import Derived.Test.YtojfahgnjfnflaaNumS
import Derived.Test.YtojfahgnjfnflaaIntS
import Derived.Deep.RegionWith
import Derived.Deep.RegionHeld3
namespace Go.Proofs.Ytojfahgnjfnflaa
open Go.RowKit

theorem bcell {W w1 : World} (hb : Below W.heap.size W w1) : (∀ b o, b < W.heap.size → w1.cell? ⟨b, o, none⟩ = W.cell? ⟨b, o, none⟩) ∧ (∀ b o, b < W.heap.size → w1.frozen? ⟨b, o, none⟩ = W.frozen? ⟨b, o, none⟩) :=
  ⟨fun b o h => hb.cell (p := ⟨b, o, none⟩) h, fun b o h => hb.frozen (p := ⟨b, o, none⟩) h⟩
theorem bfull {W w1 : World} (hb : Below W.heap.size W w1) : (∀ b o, b < W.heap.size → w1.cell? ⟨b, o, none⟩ = W.cell? ⟨b, o, none⟩) ∧ (∀ b o, b < W.heap.size → w1.frozen? ⟨b, o, none⟩ = W.frozen? ⟨b, o, none⟩) ∧
    (∀ b, b < W.heap.size → b < w1.heap.size) ∧ (∀ b, b ≤ W.heap.size → b ≤ w1.heap.size) ∧ (∀ b, b < W.heap.size → ¬ b = w1.heap.size) :=
  ⟨(bcell hb).1, (bcell hb).2, fun _ h => Nat.lt_of_lt_of_le h hb.size, fun _ h => Nat.le_trans h hb.size, fun _ h => Nat.ne_of_lt (Nat.lt_of_lt_of_le h hb.size)⟩
theorem below_drewN {B : Nat} {a w : World} (h : Below B a w) (n : Nat) : Below B a (w.drewN n) := ⟨h.os, h.tape, h.output, h.size, h.block⟩

theorem keep_cell {w X : World} {b k : Nat} {v : Value} (h : Below w.heap.size w X) (hb : b < w.heap.size) (x : w.cell? ⟨b, k, none⟩ = some v) : X.cell? ⟨b, k, none⟩ = some v ∧ b < X.heap.size :=
  ⟨(h.cell hb).trans x, Nat.lt_of_lt_of_le hb h.size⟩

/-- the text of a mark -/
def mtext (k : Int) : ByteArray := ⟨(109 :: Lib.decDigits k.toNat).toArray⟩
namespace Pl
theorem ret_m {a : List UInt8} {k : Nat} (h : a = Lib.decDigits k) : Ending.returned (.string (⟨#[109]⟩ ++ ⟨a.toArray⟩)) = .returned (.string (mtext k)) := by
  rw [h]
  exact congrArg _ (congrArg _ (str_app [109] _))
end Pl

theorem markText_nat (N : Nat) (h0 : N ≠ 0) (hn : (N : Int) ≤ 1099511627776) (w : World) : Calls Try.prog 56 #[.int .i64 N] w fun e w' => e = .returned (.string (mtext N)) ∧ Below w.heap.size w w' := by
  have kb := one_byte (P := Try.prog) 38 5 9 Try.underlying38 Try.underlying5 Try.underlying9
  have HL := Lib.hid (Pl.decLen N (by omega))
  have hd1 := decide_eq_false (show ¬ (N : Int) ≤ (0 : Int) by omega)
  go_enter Try.func56, Try.ntmps56
  go_wp2
  go_loopw [0, 3] (fun m v wr => ∃ (k : Nat) (l : List UInt8), k ≤ N ∧ m = .int .i64 (k : Int) ∧ v = .string ⟨l.toArray⟩ ∧ Hid (Pl.Inv N k l) ∧ Below w.heap.size w wr) (fun m _ _ => (intOf m).natAbs)
  case atStart => exact ⟨N, [], Nat.le_refl _, by first | rfl | (go_num; done) | simp, rfl, Lib.hid (Pl.inv_start h0), Below.refl _ _⟩
  case round =>
    obtain ⟨k, l, hk, rfl, rfl, hi, hb⟩ := hrel
    have hll := Nat.le_trans (Pl.inv_len hi.out) HL.out
    by_cases hk0 : k = 0
    · subst hk0
      have HR := Lib.hid (Pl.inv_done hi.out)
      go_wp2
      go_ret
      exact ⟨Pl.ret_m HR.out, hb⟩
    · have hd1 := decide_eq_true (show (0 : Int) < (k : Int) by omega)
      have HI := Lib.hid (Pl.inv_step hk0 hi.out)
      go_wp2
      go_roundw
      case rel => exact ⟨k / 10, _, by omega, by first | rfl | (go_num; done) | simp, Pl.dig1 _ _, HI, hb.alloc hb.size _⟩
      case measure => simp [intOf]; omega

theorem markText_any (k : Int) (h0 : 1 ≤ k) (hn : k ≤ 1099511627776) (w : World) : Calls Try.prog 56 #[.int .i64 k] w fun e w' => e = .returned (.string (mtext k)) ∧ Below w.heap.size w w' := by
  obtain ⟨N, rfl⟩ : ∃ N : Nat, k = N := ⟨k.toNat, by omega⟩
  exact markText_nat N (by omega) (by omega) w

def smarks (k : Int) (n : Nat) : List Value := (List.range n).map fun i : Nat => Value.string (mtext (k + (i : Int)))
theorem smarks_at (k : Int) (n j : Nat) (h : j < n) : (smarks k n)[j]? = some (.string (mtext (k + j))) := by simp [smarks, h]
theorem smarks_length (k : Int) (n : Nat) : (smarks k n).length = n := by simp [smarks]
/-- what has been marked after j rounds -/
def smarkTo (xs : List Value) (k : Int) (j : Nat) : List Value := smarks k j ++ xs.drop j
theorem smarkTo_zero (xs : List Value) (k : Int) : smarkTo xs k 0 = xs := by simp [smarkTo, smarks]
theorem smarkTo_set (xs : List Value) (k : Int) (j : Nat) (h : j < xs.length) : (smarkTo xs k j).set j (.string (mtext (k + j))) = smarkTo xs k (j + 1) := by
  unfold smarkTo
  rw [List.set_append_right _ _ (by rw [smarks_length]; omega), smarks_length, Nat.sub_self, List.drop_eq_getElem_cons h, List.set_cons_zero]
  simp [smarks, List.range_succ]
theorem smarkTo_all (xs : List Value) (k : Int) : smarkTo xs k xs.length = smarks k xs.length := by simp [smarkTo]
theorem grown_below {a w w' : World} {row : Option Nat} (h : a.grownBy w row) (k : Below w.heap.size w w') : a.grownBy w' row :=
  ⟨k.os.trans h.os, k.tape.trans h.tape, k.output.trans h.output, Nat.le_trans h.size k.size, fun i hi hne => (k.block i (Nat.lt_of_lt_of_le hi h.size)).trans (h.block i hi hne)⟩

theorem eqStringS_same (A1 A2 : Option Addr) (c1 c2 B : Nat) (xs : List ByteArray) (w : World) (h1 : Rd w B 1 A1 xs.length (xs.map Value.string)) (h2 : Rd w B 1 A2 xs.length (xs.map Value.string)) (hB : B ≤ w.heap.size) (hn : xs.length ≤ 1099511627776) :
    Calls Try.prog 18 #[.slice A1 xs.length c1, .slice A2 xs.length c2] w fun e w' => e = .returned (.bool true) ∧ Below w.heap.size w w' := by
  obtain ⟨n, en⟩ : ∃ n, n = xs.length := ⟨_, rfl⟩
  rw [← en] at h1 h2 hn ⊢
  have EN := Lib.hid en
  clear en
  go_enter Try.func18, Try.ntmps18
  go_wp2
  go_loopw [5] (fun u wr => ∃ k : Nat, k ≤ n ∧ u = .int .i64 k ∧ Below w.heap.size w wr) (fun u _ => n - (intOf u).toNat)
  case atStart => exact ⟨0, Nat.zero_le _, rfl, Below.refl _ _⟩
  case round =>
    obtain ⟨k, hk, rfl, hb⟩ := hrel
    by_cases hlt : k < n
    · obtain ⟨b1, o1, rfl, hb1, hc1⟩ := h1.2 (by omega)
      obtain ⟨b2, o2, rfl, hb2, hc2⟩ := h2.2 (by omega)
      have x1 := (hb.cell (p := ⟨b1, o1 + k, none⟩) (by exact Nat.lt_of_lt_of_le hb1 hB)).trans (hc1 k (.string (xs[k]'(EN.out ▸ hlt))) (by simp))
      have x2 := (hb.cell (p := ⟨b2, o2 + k, none⟩) (by exact Nat.lt_of_lt_of_le hb2 hB)).trans (hc2 k (.string (xs[k]'(EN.out ▸ hlt))) (by simp))
      obtain ⟨x, hx⟩ : ∃ x : ByteArray, x = xs[k]'(EN.out ▸ hlt) := ⟨_, rfl⟩
      rw [← hx] at x1 x2
      clear hx hc1 hc2 h1 h2
      have k0 : (0 : Int) ≤ (k : Int) := by omega
      have k1 : (k : Int) < (n : Int) := by omega
      go_wp2_with fail
      go_quiet (fail)
      go_wp2
      go_roundw
      case rel => exact ⟨k + 1, by omega, by go_num, below_drewN' hb _⟩
      case measure => simp [intOf]; omega
    · obtain rfl : k = n := by omega
      go_wp2
      go_ret
      exact ⟨rfl, hb⟩

theorem markStringS_own (A : Option Addr) (n c base : Nat) (k : Int) (xs : List Value) (w : World) (hown : w.ownsRow base 9 1 (.slice A n c) n xs) (hn : n ≤ 4294967296) (k0 : 1 ≤ k) (k1 : k ≤ 4294967296) :
    Calls Try.prog 19 #[.slice A n c, .int .i64 k] w fun e w' => e = .returned (.int .i64 (k + n)) ∧ w'.ownsRow base 9 1 (.slice A n c) n (smarks k n) ∧ w.grownBy w' (Value.slice A n c).ownBlock := by
  have hlen : xs.length = n := by have := hown.1; omega
  have HL := Lib.hid hlen
  clear hlen
  go_enter Try.func19, Try.ntmps19
  go_wp2
  go_loopw [1, 5] (fun q u wr => ∃ j : Nat, j ≤ n ∧ u = .int .i64 j ∧ q = .int .i64 (k + j) ∧ wr.ownsRow base 9 1 (.slice A n c) n (smarkTo xs k j) ∧ w.grownBy wr (Value.slice A n c).ownBlock) (fun _ u _ => n - (intOf u).toNat)
  case atStart => exact ⟨0, Nat.zero_le _, rfl, by go_num, by rw [smarkTo_zero]; exact hown, World.grownBy.refl _ _⟩
  case round =>
    obtain ⟨j, hj, rfl, rfl, ho, hg⟩ := hrel
    by_cases hlt : j < n
    · go_wp2_with fail
      refine (markText_any _ (by omega) (by omega) _).mono ?_
      rintro e w1 ⟨rfl, hb1⟩
      have ho := own_below ho hb1
      have hg := grown_below hg hb1
      rcases ho.2 with ⟨_, h0⟩ | ⟨g, cap, cur, hv, hbase, hh, hcap, _, hsz, _⟩
      · omega
      · injection hv with hA _ hc
        subst hA
        subst hc
        have hst := ho.stored j (.string (mtext (k + j)))
        rw [smarkTo_set _ _ _ (by rw [HL.out]; omega)] at hst
        have hcell : w1.cell? ⟨g, j, none⟩ = some (cur[j]'(by omega)) := by
          rw [cell_of_row w1 g j cur _ (0, 0) hh]
          exact Array.getElem?_eq_getElem (by omega)
        have hfr : w1.frozen? ⟨g, j, none⟩ = false := by simp [World.frozen?, hh]
        obtain ⟨u, hu⟩ : ∃ u, u = cur[j]'(by omega) := ⟨_, rfl⟩
        rw [← hu] at hcell
        clear hu hsz hh ho hown
        have HST := Lib.hid hst
        have HG := Lib.hid hg
        clear hst hg
        go_wp2
        go_roundw
        case rel => exact ⟨j + 1, by omega, by go_num, by go_num, HST.out.1, only_setCell (p := ⟨g, j, none⟩) HG.out rfl _⟩
        case measure => simp [intOf]; omega
    · obtain rfl : j = n := by omega
      go_wp2
      go_ret
      refine ⟨rfl, ?_, hg⟩
      have := smarkTo_all xs k
      rw [HL.out] at this
      rw [← this]
      exact ho

attribute [local go_sem ↓] Go.wp_at_zero Go.wp_at_succ
theorem heldStringS_any (A : Option Addr) (n c B : Nat) (k : Int) (w : World) (hr : Rd w B 1 A n (smarks k n)) (hB : B ≤ w.heap.size) (hn : n ≤ 4294967296) (k0 : 1 ≤ k) (k1 : k ≤ 4294967296) :
    Calls Try.prog 20 #[.slice A n c, .int .i64 k] w fun e w' => e = .returned (.int .i64 (k + n)) ∧ Below w.heap.size w w' := by
  go_enter Try.func20, Try.ntmps20
  go_wp2
  go_loopw [1, 5] (fun q u wr => ∃ j : Nat, j ≤ n ∧ u = .int .i64 j ∧ q = .int .i64 (k + j) ∧ Below w.heap.size w wr) (fun _ u _ => n - (intOf u).toNat)
  case atStart => exact ⟨0, Nat.zero_le _, rfl, by go_num, Below.refl _ _⟩
  case round =>
    obtain ⟨j, hj, rfl, rfl, hbr⟩ := hrel
    by_cases hlt : j < n
    · obtain ⟨b, o, rfl, hbb, hc⟩ := hr.2 (by omega)
      have hbw : b < w.heap.size := Nat.lt_of_lt_of_le hbb hB
      have x1 := (hbr.cell (p := ⟨b, o + j, none⟩) hbw).trans (hc j _ (smarks_at k n j hlt))
      have hsz : w.heap.size ≤ wr.heap.size := hbr.size
      have hbz : b < wr.heap.size := Nat.lt_of_lt_of_le hbw hsz
      obtain ⟨x, hx⟩ : ∃ x : ByteArray, x = mtext (k + j) := ⟨_, rfl⟩
      have x0 := hc j _ (smarks_at k n j hlt)
      rw [← hx] at x1 x0
      have HX := Lib.hid hx
      clear hc hr hx
      have j0 : (0 : Int) ≤ (j : Int) := by omega
      have j1 : (j : Int) < (n : Int) := by omega
      go_upto_region 4 with fail
      go_cut [18] (fun s18 wx => s18 = .bool false ∧ Below w.heap.size w wx)
      case first =>
        go_region_held3 (fun w' => w'.cell? ⟨b, o + j, none⟩ = some (.string x) ∧ b < w'.heap.size) (exact keep_cell (by repeat (first | assumption | exact Below.refl _ _ | refine Below.drew ?_ | refine below_drewN ?_ _ | refine Below.alloc ?_ (by first | omega | (simp; done) | (simp; omega)) _ | refine Below.setCell ?_ (by first | omega | (simp; done) | (simp; omega)) _)) hbw x0) ((go_at_call 56; refine (markText_any _ (by omega) (by omega) _).mono ?_; rintro e wA ⟨rfl, hb⟩; have HB : Below (w.heap.size) (w) wA := Below.trans (by repeat (first | assumption | exact Below.refl _ _ | refine Below.drew ?_ | refine below_drewN ?_ _ | refine Below.alloc ?_ (by first | omega | (simp; done) | (simp; omega)) _ | refine Below.setCell ?_ (by first | omega | (simp; done) | (simp; omega)) _)) (hb.mono (by first | omega | (simp; done) | (simp; omega))); have HS : w.heap.size ≤ wA.heap.size := Nat.le_trans (by simp) HB.size; obtain ⟨hc, hf, hl, hm, hn⟩ := bfull hb; (try (have z : w.heap.size < wA.heap.size := Nat.lt_of_lt_of_le (by first | omega | (simp; done) | (simp; omega)) hb.size))))
        all_goals
          go_wp2_with fail
          go_meet
          refine ⟨by first | rfl | (simp; done) | simp [HX.out], by repeat (first | assumption | exact Below.refl _ _ | refine Below.drew ?_ | refine below_drewN ?_ _ | refine Below.alloc ?_ (by first | omega | (simp; done) | (simp; omega)) _ | refine Below.setCell ?_ (by first | omega | (simp; done) | (simp; omega)) _)⟩
      case rest =>
        obtain ⟨rfl, HB⟩ := hcut
        go_wp2
        go_roundw
        case rel => exact ⟨j + 1, by omega, by go_num, by go_num, HB⟩
        case measure => simp [intOf]; omega
    · obtain rfl : j = n := by omega
      go_wp2
      go_ret
      exact ⟨rfl, hbr⟩

end Go.Proofs.Ytojfahgnjfnflaa
