/-
  Contracts of the laws' eqIntS (two slices that hold the same), markIntS (a slice of the call's own) and heldIntS.
-/
import Derived.Test.YtajafmdeencohaaChecked
import Derived.Test.YtajafmdeencohaaOwn
import Derived.WalkLawsBesides
import Derived.Deep.QuietTactic
import Derived.BigQuiet
import Derived.Outline
import Derived.Lib.Hide
namespace Go.Proofs.Ytajafmdeencohaa
open Go.RowKit

def marks (k : Int) (n : Nat) : List Value := (List.range n).map fun i : Nat => Value.int .i64 (k + (i : Int))
theorem marks_at (k : Int) (n j : Nat) (h : j < n) : (marks k n)[j]? = some (.int .i64 (k + j)) := by simp [marks, h]
theorem marks_length (k : Int) (n : Nat) : (marks k n).length = n := by simp [marks]
/-- what has been marked after j rounds -/
def markTo (xs : List Value) (k : Int) (j : Nat) : List Value := marks k j ++ xs.drop j
theorem markTo_zero (xs : List Value) (k : Int) : markTo xs k 0 = xs := by simp [markTo, marks]
theorem markTo_set (xs : List Value) (k : Int) (j : Nat) (h : j < xs.length) : (markTo xs k j).set j (.int .i64 (k + j)) = markTo xs k (j + 1) := by
  unfold markTo
  rw [List.set_append_right _ _ (by rw [marks_length]; omega), marks_length, Nat.sub_self, List.drop_eq_getElem_cons h, List.set_cons_zero]
  simp [marks, List.range_succ]
theorem markTo_all (xs : List Value) (k : Int) : markTo xs k xs.length = marks k xs.length := by simp [markTo]

theorem only_setCell {a w : World} {row : Option Nat} (h : a.grownBy w row) {p : Addr} (hp : row = some p.block) (u : Value) : a.grownBy (w.setCell p u) row :=
  ⟨h.os, h.tape, h.output, by simpa [World.setCell] using h.size, fun i hi hne => (Below.heap_setCell w p u i (by
    rintro rfl
    exact hne hp.symm)).trans (h.block i hi hne)⟩

theorem below_drewN' {B : Nat} {a w : World} (h : Below B a w) (n : Nat) : Below B a (w.drewN n) := ⟨h.os, h.tape, h.output, h.size, h.block⟩

theorem eqIntS_same (A1 A2 : Option Addr) (c1 c2 B : Nat) (xs : List Int) (w : World) (h1 : Rd w B 1 A1 xs.length (xs.map (Value.int .i64))) (h2 : Rd w B 1 A2 xs.length (xs.map (Value.int .i64))) (hB : B ≤ w.heap.size) (hn : xs.length ≤ 1099511627776) :
    Calls Try.prog 51 #[.slice A1 xs.length c1, .slice A2 xs.length c2] w fun e w' => e = .returned (.bool true) ∧ Below w.heap.size w w' := by
  obtain ⟨n, en⟩ : ∃ n, n = xs.length := ⟨_, rfl⟩
  rw [← en] at h1 h2 hn ⊢
  have EN := Lib.hid en
  clear en
  go_enter Try.func51, Try.ntmps51
  go_wp2
  go_loopw [5] (fun u wr => ∃ k : Nat, k ≤ n ∧ u = .int .i64 k ∧ Below w.heap.size w wr) (fun u _ => n - (intOf u).toNat)
  case atStart => exact ⟨0, Nat.zero_le _, rfl, Below.refl _ _⟩
  case round =>
    obtain ⟨k, hk, rfl, hb⟩ := hrel
    by_cases hlt : k < n
    · obtain ⟨b1, o1, rfl, hb1, hc1⟩ := h1.2 (by omega)
      obtain ⟨b2, o2, rfl, hb2, hc2⟩ := h2.2 (by omega)
      have x1 := (hb.cell (p := ⟨b1, o1 + k, none⟩) (by exact Nat.lt_of_lt_of_le hb1 hB)).trans (hc1 k (.int .i64 (xs[k]'(EN.out ▸ hlt))) (by simp))
      have x2 := (hb.cell (p := ⟨b2, o2 + k, none⟩) (by exact Nat.lt_of_lt_of_le hb2 hB)).trans (hc2 k (.int .i64 (xs[k]'(EN.out ▸ hlt))) (by simp))
      obtain ⟨x, hx⟩ : ∃ x : Int, x = xs[k]'(EN.out ▸ hlt) := ⟨_, rfl⟩
      rw [← hx] at x1 x2
      clear hx hc1 hc2 h1 h2
      have k0 : (0 : Int) ≤ (k : Int) := by omega
      have k1 : (k : Int) < (n : Int) := by omega
      go_wp2_with fail
      go_quiet (fail)
      go_wp2
      go_roundw
      case rel => exact ⟨k + 1, by omega, by go_num, below_drewN' hb _⟩
      case measure => simp [intOf]; omega
    · obtain rfl : k = n := by omega
      go_wp2
      go_ret
      exact ⟨rfl, hb⟩

theorem markIntS_own (A : Option Addr) (n c base : Nat) (k : Int) (xs : List Value) (w : World) (hown : w.ownsRow base 3 1 (.slice A n c) n xs) (hn : n ≤ 1099511627776) (k0 : 0 ≤ k) (k1 : k ≤ 1152921504606846976) :
    Calls Try.prog 61 #[.slice A n c, .int .i64 k] w fun e w' => e = .returned (.int .i64 (k + n)) ∧ w'.ownsRow base 3 1 (.slice A n c) n (marks k n) ∧ w.grownBy w' (Value.slice A n c).ownBlock := by
  have hlen : xs.length = n := by have := hown.1; omega
  have HL := Lib.hid hlen
  clear hlen
  go_enter Try.func61, Try.ntmps61
  go_wp2
  go_loopw [1, 5] (fun q u wr => ∃ j : Nat, j ≤ n ∧ u = .int .i64 j ∧ q = .int .i64 (k + j) ∧ wr.ownsRow base 3 1 (.slice A n c) n (markTo xs k j) ∧ w.grownBy wr (Value.slice A n c).ownBlock) (fun _ u _ => n - (intOf u).toNat)
  case atStart => exact ⟨0, Nat.zero_le _, rfl, by go_num, by rw [markTo_zero]; exact hown, World.grownBy.refl _ _⟩
  case round =>
    obtain ⟨j, hj, rfl, rfl, ho, hg⟩ := hrel
    by_cases hlt : j < n
    · rcases ho.2 with ⟨_, h0⟩ | ⟨g, cap, cur, hv, hbase, hh, hcap, _, hsz, _⟩
      · omega
      · injection hv with hA _ hc
        subst hA
        subst hc
        have hst := ho.stored j (.int .i64 (k + j))
        rw [markTo_set _ _ _ (by rw [HL.out]; omega)] at hst
        have hcell : wr.cell? ⟨g, j, none⟩ = some (cur[j]'(by omega)) := by
          rw [cell_of_row wr g j cur _ (0, 0) hh]
          exact Array.getElem?_eq_getElem (by omega)
        have hfr : wr.frozen? ⟨g, j, none⟩ = false := by simp [World.frozen?, hh]
        obtain ⟨u, hu⟩ : ∃ u, u = cur[j]'(by omega) := ⟨_, rfl⟩
        rw [← hu] at hcell
        clear hu hsz hh ho hown
        have HST := Lib.hid hst
        have HG := Lib.hid hg
        clear hst hg
        go_wp2
        go_roundw
        case rel => exact ⟨j + 1, by omega, by go_num, by go_num, HST.out.1, only_setCell (p := ⟨g, j, none⟩) HG.out rfl _⟩
        case measure => simp [intOf]; omega
    · obtain rfl : j = n := by omega
      go_wp2
      go_ret
      refine ⟨rfl, ?_, hg⟩
      have := markTo_all xs k
      rw [HL.out] at this
      rw [← this]
      exact ho

theorem heldIntS_any (A : Option Addr) (n c B : Nat) (k : Int) (w : World) (hr : Rd w B 1 A n (marks k n)) (hn : n ≤ 1099511627776) (k0 : 0 ≤ k) (k1 : k ≤ 1152921504606846976) :
    Calls Try.prog 77 #[.slice A n c, .int .i64 k] w fun e w' => e = .returned (.int .i64 (k + n)) ∧ w = w' := by
  go_enter Try.func77, Try.ntmps77
  go_wp2
  go_loop [1, 5] (fun q u => ∃ j : Nat, j ≤ n ∧ u = .int .i64 j ∧ q = .int .i64 (k + j)) (fun _ u => n - (intOf u).toNat)
  case atStart => exact ⟨0, Nat.zero_le _, rfl, by go_num⟩
  case round =>
    obtain ⟨j, hj, rfl, rfl⟩ := hrel
    by_cases hlt : j < n
    · obtain ⟨b, o, rfl, hb, hc⟩ := hr.2 (by omega)
      have x1 := hc j _ (marks_at k n j hlt)
      clear hc hr
      go_wp2
      go_round
      case rel => exact ⟨j + 1, by omega, by go_num, by go_num⟩
      case measure => simp [intOf]; omega
    · obtain rfl : j = n := by omega
      go_wp2
      go_ret
      exact ⟨rfl, rfl⟩

end Go.Proofs.Ytajafmdeencohaa
