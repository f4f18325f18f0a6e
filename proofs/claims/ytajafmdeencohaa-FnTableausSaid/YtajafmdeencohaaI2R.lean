/-
  Contracts of IntsToRats, of the program and of the reference, and the walk of the law FnExactIntsToRats.
-/
import Derived.Test.YtajafmdeencohaaMarkRat
import Derived.Test.YtajafmdeencohaaVecEq
import Derived.Test.YtajafmdeencohaaCoal
import Derived.ProofKit
import Derived.WideShapes
import Derived.ChangeSlices
namespace Go.Proofs.Ytajafmdeencohaa
open Go.RowKit Go.ChangeShapes Go.WideShapes

set_option maxRecDepth 20000 in
theorem open_intsI {H : Type} {enc : TypeId × Value → H} {w : World} {r : Reach} {b0 base : Nat} {held : Bool} {v : Value} {d : DataW H} {ps : List MemPlace}
    (hval : Value.okWide Try.prog w r b0 23 v)
    (h : DataW.Trod enc Try.prog w base (fun _ => true) held 23 v d ps) :
    ∃ (A : Option Addr) (n c : Nat) (V : Nat → Int), v = .slice A n c ∧ n ≤ maxLen ∧ Rd w w.heap.size 1 A n (cellsI V n) ∧ ∀ j, j < n → (Lit.int .i64 (V j)).wf = true := by
  obtain ⟨a, len, cap, rfl⟩ := okWide_slice Try.underlying23 hval
  obtain ⟨fuel, hf⟩ := h
  rcases ChangeShapes.open_ints Try.underlying23 Try.underlying3 (by kernel_rfl) hf with ⟨hc, _⟩ | ⟨a', len', cap', zs, hc, _, hl, hm, hz, _, hcell, hw⟩
  · simp [Value.cells] at hc
    obtain ⟨rfl, rfl, rfl⟩ := hc
    exact ⟨_, _, _, fun _ => 0, rfl, Nat.zero_le _, ⟨by simp [cellsI, listI], fun h => absurd h (Nat.lt_irrefl _)⟩, fun j hj => absurd hj (Nat.not_lt_zero _)⟩
  · simp [Value.cells] at hc
    obtain ⟨rfl, rfl, rfl⟩ := hc
    simp only [if_true] at hz
    refine ⟨_, _, _, fun i => zs.getD i 0, rfl, by omega, ⟨by simp [cellsI, listI], fun hn => ?_⟩, fun j hj => ?_⟩
    · have h0 := hcell 0 (by omega)
      obtain ⟨b, off, spot⟩ := a'
      have hspot : spot = none := by simpa [Addr.add] using World.cell?_spot h0
      subst hspot
      refine ⟨b, off, rfl, by simpa [Addr.add] using World.block_lt_of_cell? _ _ h0, fun j u hu => ?_⟩
      have hj : j < len := by
        rcases Nat.lt_or_ge j len with h | h
        · exact h
        · rw [List.getElem?_eq_none (by simp [cellsI, listI]; omega)] at hu
          cases hu
      rw [cellsI_at _ hj] at hu
      injection hu with hu
      subst hu
      have := hcell j (by omega)
      rwa [Addr.add_lit] at this
    · refine hw _ ?_
      have hj' : j < zs.length := by omega
      simp only [List.getD, List.getElem?_eq_getElem hj', Option.getD_some]
      exact List.getElem_mem _

theorem eqIntI_same (A1 A2 : Option Addr) (n c1 c2 B : Nat) (V : Nat → Int) (w : World) (h1 : Rd w B 1 A1 n (cellsI V n)) (h2 : Rd w B 1 A2 n (cellsI V n)) (hB : B ≤ w.heap.size) (hn : n ≤ 1099511627776) :
    Calls Try.prog 51 #[.slice A1 n c1, .slice A2 n c2] w fun e w' => e = .returned (.bool true) ∧ Below w.heap.size w w' := by
  have c := eqIntS_same A1 A2 c1 c2 B (listI V n) w
  rw [listI_length] at c
  exact c h1 h2 hB hn
theorem rdP_grown {w w' : World} {B n : Nat} {A : Option Addr} {V : Fr} {row : Option Nat} (h : RdP w B A n V) (hg : w.grownBy w' row) (hB : B ≤ w.heap.size) (hr : ∀ g, row = some g → B ≤ g) : RdP w' B A n V :=
  h.keep fun p hp => World.cell?_of_block (hg.block p.block (by omega) (fun e => by have := hr _ e.symm; omega))
theorem Rd.below' {w w' : World} {B C n : Nat} {A : Option Addr} {xs : List Value} (h : Rd w B 1 A n xs) (hb : Below C w w') (hC : B ≤ C) : Rd w' B 1 A n xs := h.keep fun _ hp => hb.cell (Nat.lt_of_lt_of_le hp hC)

def unitV (V : Nat → Int) : Fr := fun i => (V i, 1)
theorem unit_snoc (V : Nat → Int) (j : Nat) : cellsV (unitV V) j ++ [.int .i64 (V j), .int .i64 1] = cellsV (unitV V) (j + 1) := by
  rw [cellsV_snoc]
  refine cellsV_congr fun i _ => ?_
  simp only [upd, unitV]
  by_cases h : i = j
  · subst h
    rw [if_pos rfl]
  · rw [if_neg h]
namespace Pl
theorem ret_vb {v : Value} {a b : Bool} (h : a = b) : Ending.returned (.tuple #[v, .bool a]) = .returned (.tuple #[v, .bool b]) := by rw [h]
def allIn (V : Nat → Int) : Nat → Bool
  | 0 => true
  | j + 1 => allIn V j && within (V j) (-1000000000) 1000000000
theorem allIn_yes {V : Nat → Int} {j : Nat} (h : allIn V j = true) (hj : within (V j) (-1000000000) 1000000000 = true) : allIn V (j + 1) = true := by rw [allIn, h, hj]; rfl
theorem allIn_no {V : Nat → Int} {j n : Nat} (hj : within (V j) (-1000000000) 1000000000 = false) (hn : j < n) : allIn V n = false := by
  induction n with
  | zero => omega
  | succ n ih =>
    rw [allIn]
    by_cases h : j = n
    · subst h
      rw [hj, Bool.and_false]
    · rw [ih (by omega), Bool.false_and]
end Pl
/-- a row of fractions with denominator 1, or none -/
def OwnsUnits (V : Nat → Int) (n : Nat) (w : World) (e : Ending) (w' : World) : Prop :=
  ∃ v, e = .returned (.tuple #[v, .bool (Pl.allIn V n)]) ∧ w'.ownsRow w.heap.size 66 2 v (if Pl.allIn V n then n else 0) (cellsV (unitV V) (if Pl.allIn V n then n else 0)) ∧ Below w.heap.size w w'

end Go.Proofs.Ytajafmdeencohaa
