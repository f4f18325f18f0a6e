/-
  Contracts of the laws' markRatS (a slice of the call's own), heldRatS, toIntS, and of whole and l3Int.
-/
import Derived.Test.YtajafmdeencohaaVec
import Derived.Test.YtajafmdeencohaaIntS
import Derived.Test.YtajafmdeencohaaOwn2
namespace Go.Proofs.Ytajafmdeencohaa
open Go.RowKit

def marksV (k : Int) : Fr := fun i => (k + 2 * (i : Int), k + 2 * (i : Int) + 1)
def markV (V : Fr) (k : Int) (j : Nat) : Fr := fun i => if i < j then marksV k i else V i
theorem markV_zero (V : Fr) (k : Int) : markV V k 0 = V := by funext i; simp [markV]
theorem markV_step (V : Fr) (k : Int) (j : Nat) : upd (markV V k j) j (k + 2 * (j : Int), k + 2 * (j : Int) + 1) = markV V k (j + 1) := by
  funext i
  simp only [upd, markV]
  by_cases h : i = j
  · subst h
    rw [if_pos rfl, if_pos (by omega)]
    rfl
  · rw [if_neg h]
    by_cases h1 : i < j
    · rw [if_pos h1, if_pos (by omega)]
    · rw [if_neg h1, if_neg (by omega)]
theorem markV_all (V : Fr) (k : Int) (n : Nat) : cellsV (markV V k n) n = cellsV (marksV k) n := cellsV_congr fun i hi => by simp [markV, hi]

theorem markRatS_own (A : Option Addr) (n c base : Nat) (k : Int) (V : Fr) (w : World) (hown : w.ownsRow base 66 2 (.slice A n c) n (cellsV V n)) (hn : n ≤ 1099511627776) (k0 : 0 ≤ k) (k1 : k ≤ 1152921504606846976) :
    Calls Try.prog 23 #[.slice A n c, .int .i64 k] w fun e w' => e = .returned (.int .i64 (k + 2 * n)) ∧ w'.ownsRow base 66 2 (.slice A n c) n (cellsV (marksV k) n) ∧ w.grownBy w' (Value.slice A n c).ownBlock := by
  go_enter Try.func23, Try.ntmps23
  go_wp2
  go_loopw [1, 5] (fun q u wr => ∃ j : Nat, j ≤ n ∧ u = .int .i64 j ∧ q = .int .i64 (k + 2 * j) ∧ wr.ownsRow base 66 2 (.slice A n c) n (cellsV (markV V k j) n) ∧ w.grownBy wr (Value.slice A n c).ownBlock) (fun _ u _ => n - (intOf u).toNat)
  case atStart => exact ⟨0, Nat.zero_le _, rfl, by go_num, by rw [markV_zero]; exact hown, World.grownBy.refl _ _⟩
  case round =>
    obtain ⟨j, hj, rfl, rfl, ho, hg⟩ := hrel
    by_cases hlt : j < n
    · obtain ⟨g, rfl⟩ := own_addr ho (by omega)
      obtain ⟨⟨u0, y0⟩, f0⟩ := own_cell (i := j * 2) ho (by omega) (by omega)
      obtain ⟨⟨u1, y1⟩, f1⟩ := own_cell (i := j * 2 + 1) ho (by omega) (by omega)
      have hst := ((ho.stored (j * 2) (.int .i64 (k + 2 * j))).1.stored (j * 2 + 1) (.int .i64 (k + 2 * j + 1))).1
      rw [cellsV_set, markV_step] at hst
      have HST := Lib.hid hst
      have HG := Lib.hid (only_setCell (p := ⟨g, j * 2 + 1, none⟩) (only_setCell (p := ⟨g, j * 2, none⟩) hg rfl (.int .i64 (k + 2 * j))) rfl (.int .i64 (k + 2 * j + 1)))
      clear hst hg ho hown
      go_wp2
      go_roundw
      case rel => exact ⟨j + 1, by omega, by go_num, by go_num, HST.out, HG.out⟩
      case measure => simp [intOf]; omega
    · obtain rfl : j = n := by omega
      go_wp2
      go_ret
      refine ⟨rfl, ?_, hg⟩
      rw [← markV_all V]
      exact ho

theorem heldRatS_any (A : Option Addr) (n c B : Nat) (k : Int) (w : World) (hr : RdP w B A n (marksV k)) (hn : n ≤ 1099511627776) (k0 : 0 ≤ k) (k1 : k ≤ 1152921504606846976) :
    Calls Try.prog 24 #[.slice A n c, .int .i64 k] w fun e w' => e = .returned (.int .i64 (k + 2 * n)) ∧ w = w' := by
  go_enter Try.func24, Try.ntmps24
  go_wp2
  go_loop [1, 5] (fun q u => ∃ j : Nat, j ≤ n ∧ u = .int .i64 j ∧ q = .int .i64 (k + 2 * j)) (fun _ u => n - (intOf u).toNat)
  case atStart => exact ⟨0, Nat.zero_le _, rfl, by go_num⟩
  case round =>
    obtain ⟨j, hj, rfl, rfl⟩ := hrel
    by_cases hlt : j < n
    · obtain ⟨b, o, rfl, hb, hc⟩ := hr (by omega)
      have x1 := (hc j hlt).1
      have x2 := (hc j hlt).2
      simp only [marksV] at x1 x2
      clear hc hr
      go_wp2
      go_round
      case rel => exact ⟨j + 1, by omega, by go_num, by go_num⟩
      case measure => simp [intOf]; omega
    · obtain rfl : j = n := by omega
      go_wp2
      go_ret
      exact ⟨rfl, rfl⟩

/-- integers by their index -/
def listI (V : Nat → Int) (n : Nat) : List Int := (List.range n).map V
def cellsI (V : Nat → Int) (n : Nat) : List Value := (listI V n).map (Value.int .i64)
def fillI (V : Nat → Int) (j : Nat) : Nat → Int := fun i => if i < j then V i else 0
theorem listI_length (V : Nat → Int) (n : Nat) : (listI V n).length = n := by simp [listI]
theorem cellsI_at (V : Nat → Int) {n i : Nat} (h : i < n) : (cellsI V n)[i]? = some (.int .i64 (V i)) := by simp [cellsI, listI, h]
theorem fillI_zero (V : Nat → Int) (n : Nat) : cellsI (fillI V 0) n = List.replicate n (.int .i64 0) := by
  apply List.ext_getElem?
  intro i
  by_cases h : i < n
  · rw [cellsI_at _ h]
    simp [fillI, h]
  · rw [List.getElem?_eq_none (by simp [cellsI, listI]; omega), List.getElem?_eq_none (by simp; omega)]
theorem fillI_set (V : Nat → Int) {n j : Nat} : (cellsI (fillI V j) n).set j (.int .i64 (V j)) = cellsI (fillI V (j + 1)) n := by
  apply List.ext_getElem?
  intro i
  by_cases h : i < n
  · rw [List.getElem?_set, cellsI_at _ h, cellsI_at _ h]
    by_cases e : j = i
    · subst e
      rw [if_pos rfl, if_pos (by simpa [cellsI, listI] using h)]
      simp [fillI]
    · rw [if_neg e]
      simp only [fillI]
      by_cases h1 : i < j
      · rw [if_pos h1, if_pos (by omega)]
      · rw [if_neg h1, if_neg (by omega)]
  · rw [List.getElem?_eq_none (by simp [cellsI, listI]; omega), List.getElem?_eq_none (by simp [cellsI, listI]; omega)]
theorem fillI_all (V : Nat → Int) (n : Nat) : cellsI (fillI V n) n = cellsI V n := by
  apply List.ext_getElem?
  intro i
  by_cases h : i < n
  · rw [cellsI_at _ h, cellsI_at _ h]
    simp [fillI, h]
  · rw [List.getElem?_eq_none (by simp [cellsI, listI]; omega), List.getElem?_eq_none (by simp [cellsI, listI]; omega)]
theorem infoInt : (Try.prog.info? 3).map (fun i => (i.zero, i.size, i.bytes)) = some (some (.int .i64 0), 1, 8) := by kernel_rfl

theorem toIntS_any (A : Option Addr) (n c B : Nat) (V : Nat → Int) (w : World) (hr : Rd w B 1 A n (cellsI V n)) (hB : B ≤ w.heap.size) (hn : n ≤ 1048576) :
    Calls Try.prog 45 #[.slice A n c] w fun e w' => ∃ A', e = .returned (.slice A' n n) ∧ w'.ownsRow w.heap.size 3 1 (.slice A' n n) n (cellsI V n) ∧ Below w.heap.size w w' := by
  obtain ⟨iR, hi, hz, hsz, hby⟩ := info_parts infoInt
  go_enter Try.func45, Try.ntmps45
  go_wp2_with (refine wpList_make_full _ rfl _ _ 23 rfl w.heap.size 3 iR (.int .i64 0) 1 Try.underlying23 hi hz hsz .i64 .i64 n n n rfl rfl rfl rfl (by rw [hby]; omega) (by simp only [maxLen]; omega) (Nat.le_refl _) ?_)
  intro w1 hown hg
  have hown : w1.ownsRow w.heap.size 3 1 (.slice (some ⟨w.heap.size, 0, none⟩) n n) n (cellsI (fillI V 0) n) := by
    rw [fillI_zero, ← toList_madeCells_one]
    simpa using hown
  have hb1 : Below w.heap.size w w1 := (Below.refl _ _).grown hg (Nat.le_refl _) (fun g h => by cases h)
  clear hg hi hz hsz hby
  go_wp2
  go_loopw [4] (fun u wr => ∃ j : Nat, j ≤ n ∧ u = .int .i64 j ∧ wr.ownsRow w.heap.size 3 1 (.slice (some ⟨w.heap.size, 0, none⟩) n n) n (cellsI (fillI V j) n) ∧ Below w.heap.size w wr) (fun u _ => n - (intOf u).toNat)
  case atStart => exact ⟨0, Nat.zero_le _, rfl, hown, hb1⟩
  case round =>
    obtain ⟨j, hj, rfl, ho, hb⟩ := hrel
    by_cases hlt : j < n
    · obtain ⟨b, off, rfl, hbb, hc⟩ := hr.2 (by omega)
      have x0 := (hb.cell (p := ⟨b, off + j, none⟩) (by exact Nat.lt_of_lt_of_le hbb hB)).trans (hc j _ (cellsI_at V hlt))
      obtain ⟨⟨u0, y0⟩, f0⟩ := own_cell (i := j) ho (by omega) (by omega)
      have hst := (ho.stored j (.int .i64 (V j))).1
      rw [fillI_set] at hst
      have HST := Lib.hid hst
      clear hst ho hown hc hr
      go_wp2
      go_roundw
      case rel => exact ⟨j + 1, by omega, by go_num, HST.out, hb.setCell (Nat.le_refl _) _⟩
      case measure => simp [intOf]; omega
    · obtain rfl : j = n := by omega
      go_wp2
      go_ret
      rw [fillI_all] at ho
      exact ⟨_, rfl, ho, hb⟩

theorem whole_any (n : Int) (w : World) : Calls Try.prog 59 #[.int .i64 n] w fun e w' => e = .returned (.agg #[.int .i64 n, .int .i64 1]) ∧ Below w.heap.size w w' := by
  go_enter Try.func59, Try.ntmps59
  go_wp2
  refine bodyPost_ret (v := .agg #[.int .i64 n, .int .i64 1]) (by simp [results, Try.results59, go_sem]) rfl ⟨rfl, ?_⟩
  first | exact (Below.refl _ _).alloc (Nat.le_refl _) _ | exact below_set2 ((Below.refl _ _).alloc (Nat.le_refl _) _)

theorem l3Int_any (n : Int) (w : World) : Calls Try.prog 57 #[.int .i64 n] w fun e w' => e = .returned (.agg #[.int .i64 n, .int .i64 1]) ∧ Below w.heap.size w w' := by
  go_enter Try.func57, Try.ntmps57
  go_wp2
  refine bodyPost_ret (v := .agg #[.int .i64 n, .int .i64 1]) (by simp [results, Try.results57, go_sem]) rfl ⟨rfl, ?_⟩
  first | exact (Below.refl _ _).alloc (Nat.le_refl _) _ | exact below_set2 ((Below.refl _ _).alloc (Nat.le_refl _) _)

end Go.Proofs.Ytajafmdeencohaa
