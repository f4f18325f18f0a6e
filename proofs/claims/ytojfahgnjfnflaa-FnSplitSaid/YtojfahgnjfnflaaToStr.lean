/-
  Contract of the laws' toStringS: a copy of a slice of texts.
-/
import Derived.Test.YtojfahgnjfnflaaOwn2
import Derived.Test.YtojfahgnjfnflaaSplit
namespace Go.Proofs.Ytojfahgnjfnflaa
open Go.RowKit

/-- what has been copied after j rounds -/
def strTo (xs : List ByteArray) (j : Nat) : List Value := (xs.take j).map Value.string ++ List.replicate (xs.length - j) (.string ⟨#[]⟩)
theorem strTo_zero (xs : List ByteArray) : strTo xs 0 = List.replicate xs.length (.string ⟨#[]⟩) := by simp [strTo]
theorem strTo_all (xs : List ByteArray) : strTo xs xs.length = xs.map Value.string := by simp [strTo]
theorem strTo_set (xs : List ByteArray) (j : Nat) (h : j < xs.length) : (strTo xs j).set j (.string xs[j]) = strTo xs (j + 1) := by
  unfold strTo
  rw [List.set_append_right _ _ (by simp; omega), show (List.map Value.string (xs.take j)).length = j by simp; omega, Nat.sub_self, show xs.length - j = (xs.length - (j + 1)) + 1 by omega, List.replicate_succ, List.set_cons_zero,
    List.take_succ_eq_append_getElem h, List.map_append, List.append_assoc]
  rfl

theorem toStringS_any (A : Option Addr) (c B : Nat) (xs : List ByteArray) (w : World) (hr : Rd w B 1 A xs.length (xs.map Value.string)) (hB : B ≤ w.heap.size) (hn : xs.length ≤ 1048576) :
    Calls Try.prog 29 #[.slice A xs.length c] w fun e w' => ∃ A', e = .returned (.slice A' xs.length xs.length) ∧ w'.ownsRow w.heap.size 9 1 (.slice A' xs.length xs.length) xs.length (xs.map Value.string) ∧ Below w.heap.size w w' := by
  obtain ⟨iR, hi, hz, hsz, hby⟩ := info_parts infoString
  have hset := strTo_set xs
  have hall := strTo_all xs
  have hz0 := strTo_zero xs
  obtain ⟨n, en⟩ : ∃ n, n = xs.length := ⟨_, rfl⟩
  rw [← en] at hr hn hall hz0 ⊢
  have EN := Lib.hid en
  clear en
  have HSET := Lib.hid hset
  clear hset
  go_enter Try.func29, Try.ntmps29
  go_wp2_with (refine wpList_make_full _ rfl _ _ 27 rfl w.heap.size 9 iR (.string ⟨#[]⟩) 1 Try.underlying27 hi hz hsz .i64 .i64 n n n rfl rfl rfl rfl (by rw [hby]; omega) (by simp only [maxLen]; omega) (Nat.le_refl _) ?_)
  intro w1 hown hg
  have hown : w1.ownsRow w.heap.size 9 1 (.slice (some ⟨w.heap.size, 0, none⟩) n n) n (strTo xs 0) := by
    rw [hz0, ← toList_madeCells_one]
    simpa using hown
  have hb1 : Below w.heap.size w w1 := (Below.refl _ _).grown hg (Nat.le_refl _) (fun g h => by cases h)
  clear hg hi hz hsz hby hz0
  have HALL := Lib.hid hall
  clear hall
  go_wp2
  go_loopw [4] (fun u wr => ∃ j : Nat, j ≤ n ∧ u = .int .i64 j ∧ wr.ownsRow w.heap.size 9 1 (.slice (some ⟨w.heap.size, 0, none⟩) n n) n (strTo xs j) ∧ Below w.heap.size w wr) (fun u _ => n - (intOf u).toNat)
  case atStart => exact ⟨0, Nat.zero_le _, rfl, hown, hb1⟩
  case round =>
    obtain ⟨j, hj, rfl, ho, hb⟩ := hrel
    by_cases hlt : j < n
    · obtain ⟨b, off, rfl, hbb, hc⟩ := hr.2 (by omega)
      have hlx : j < xs.length := EN.out ▸ hlt
      have x0 := (hb.cell (p := ⟨b, off + j, none⟩) (by exact Nat.lt_of_lt_of_le hbb hB)).trans (hc j (.string xs[j]) (by simp))
      obtain ⟨⟨u0, y0⟩, f0⟩ := own_cell (i := j) ho (by omega) (by omega)
      have hst := (ho.stored j (.string xs[j])).1
      rw [HSET.out j hlx] at hst
      obtain ⟨x, hx⟩ : ∃ x, x = xs[j] := ⟨_, rfl⟩
      rw [← hx] at x0 hst
      clear hx
      have HST := Lib.hid hst
      clear hst ho hown hc hr
      go_wp2
      go_roundw
      case rel => exact ⟨j + 1, by omega, by go_num, HST.out, hb.setCell (Nat.le_refl _) _⟩
      case measure => simp [intOf]; omega
    · obtain rfl : j = n := by omega
      go_wp2
      go_ret
      rw [HALL.out] at ho
      exact ⟨_, rfl, ho, hb⟩

end Go.Proofs.Ytojfahgnjfnflaa
