/-
  Contract of the program's Join.
-/
import Derived.Test.YtkhmepbdjdodmaaDoorSJoinW
import Derived.Test.YtkhmepbdjdodmaaDoorJoin0
namespace Go.Proofs.YtkhmepbdjdodmaaDoor
open Go.RowKit

theorem iJoin_any (A : Option Addr) (c B : Nat) (xs : List ByteArray) (sep : ByteArray) (w : World) (hr : Rd w B 1 A xs.length (xs.map Value.string)) (hB : B ≤ w.heap.size) (hcap : xs.length ≤ c) (hn : xs.length ≤ 1048576) (hs : sep.size ≤ 1048576) (hx : ∀ x ∈ xs, x.size ≤ 1048576) :
    Calls Tryd.prog 56 #[.slice A xs.length c, .string sep] w fun e w' => e = .returned (.string ⟨(Lib.join (xs.map ByteArray.toList) sep.toList).toArray⟩) ∧ Below w.heap.size w w' := by
  have e1 : (xs.map (·.data.toList)) = xs.map ByteArray.toList := List.map_congr_left fun x _ => (ByteArray.toList_eq x).symm
  have e2 : sep.data.toList = sep.toList := (ByteArray.toList_eq sep).symm
  cases xs with
  | nil =>
    go_enter Tryd.func56, Tryd.ntmps56
    go_wp2_with (go_at_call 81; refine (join_none _ _ _ _).mono ?_; rintro e w1 ⟨rfl, rfl⟩)
    all_goals
      go_ret
      exact ⟨rfl, Below.refl _ _⟩
  | cons y r =>
    obtain ⟨b, off, rfl, hbb, hc⟩ := hr.2 (by simp)
    have hj : (Lib.join ((y :: r).map ByteArray.toList) sep.toList).length ≤ 140737488355328 := by
      rw [← Pl.joinTo_all]
      have := Pl.joinTo_len (y :: r) sep 1048576 hs hx (y :: r).length (Nat.le_refl _)
      omega
    have J := join_any b off c (y :: r) sep w (fun j x h => hc j _ (by rw [List.getElem?_map, h]; rfl)) (Nat.lt_of_lt_of_le hbb hB) (by omega) hcap (by rw [e1, e2]; exact hj)
    rw [e1, e2] at J
    generalize (⟨(Lib.join ((y :: r).map ByteArray.toList) sep.toList).toArray⟩ : ByteArray) = R at J ⊢
    have HJ := Lib.hid J
    clear J e1 hj hc hr hx hn
    obtain ⟨n, hn⟩ : ∃ n, n = (y :: r).length := ⟨_, rfl⟩
    rw [← hn] at HJ hcap ⊢
    clear hn
    go_enter Tryd.func56, Tryd.ntmps56
    go_wp2_with fail
    refine HJ.out.mono ?_
    rintro e w1 ⟨rfl, hb⟩
    go_wp2
    go_ret
    exact ⟨rfl, hb⟩

end Go.Proofs.YtkhmepbdjdodmaaDoor
