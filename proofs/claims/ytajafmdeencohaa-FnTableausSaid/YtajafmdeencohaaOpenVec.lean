/-
  A slice of fractions that came in, read as a row of pairs.
-/
import Derived.Test.YtajafmdeencohaaVec
import Derived.Deep.SlicePairs
import Derived.ProofKit
import Derived.WideShapes
namespace Go.Proofs.Ytajafmdeencohaa
open Go.RowKit Go.ChangeShapes Go.WideShapes

theorem ok_slice {P : Program} {w : World} {r : Reach} {base : Nat} {t e : TypeId} {v : Value} (ht : P.underlying t = some (.slice e)) (h : Value.okWide P w r base t v) : ∃ a len cap, v = .slice a len cap := okWide_slice ht h

/-- the cells of a slice of fractions -/
theorem rats_cells {H : Type} {enc : TypeId × Value → H} {w : World} {fuel base : Nat} {held : Bool} {cs : List Value} {x : DataW H × List MemPlace} {t : TypeId}
    (ht : Try.prog.underlying t = some (.slice 80))
    (h : DataW.trod enc Try.prog w base (fun _ => true) held fuel t cs = some x) :
    ∃ (A : Option Addr) (n c : Nat) (V : Fr), cs = [.slice A n c] ∧ n ≤ maxLen ∧ RdP w w.heap.size A n V ∧ ∀ j, j < n → (Lit.int .i64 (V j).1).wf = true ∧ (Lit.int .i64 (V j).2).wf = true := by
  rcases Deep.open_slice_pairs ht Try.underlying80 (by kernel_rfl) rfl rfl (by kernel_rfl) (by kernel_rfl) h with ⟨rfl, _⟩ | ⟨a, len, cap, m, k, V0, V1, D0, D1, P0, P1, rfl, _, hl, hm, hmm, _, hall⟩
  · exact ⟨none, 0, 0, fun _ => (0, 0), rfl, Nat.zero_le _, fun h => absurd h (Nat.lt_irrefl _), fun j hj => absurd hj (Nat.not_lt_zero _)⟩
  · simp only [if_true] at hmm
    have hlm : len ≤ m := by omega
    have each : ∀ i, i < m → ∃ p : Int × Int, V0 i = .int .i64 p.1 ∧ V1 i = .int .i64 p.2 ∧ (Lit.int .i64 p.1).wf = true ∧ (Lit.int .i64 p.2).wf = true := fun i hi => by
      obtain ⟨_, _, t0, t1⟩ := hall i hi
      obtain ⟨x, h1, _, w1⟩ := DataW.trod_int Try.underlying3 t0
      obtain ⟨y, h2, _, w2⟩ := DataW.trod_int Try.underlying3 t1
      simp only [List.cons.injEq, and_true] at h1 h2
      exact ⟨(x, y), h1, h2, w1, w2⟩
    obtain ⟨V, hV⟩ := Deep.choose_lt (n := m) each
    refine ⟨some a, len, cap, V, rfl, by omega, fun hn => ?_, fun j hj => ⟨(hV j (by omega)).2.2.1, (hV j (by omega)).2.2.2⟩⟩
    obtain ⟨b, off, spot⟩ := a
    have h0 := hall 0 (by omega)
    have hspot : spot = none := by simpa [Addr.add] using World.cell?_spot h0.1
    subst hspot
    refine ⟨b, off, rfl, ?_, fun j hj => ?_⟩
    · simpa [Addr.add] using World.block_lt_of_cell? _ _ h0.1
    · obtain ⟨c0, c1, _, _⟩ := hall j (by omega)
      rw [Addr.add_lit, (hV j (by omega)).1] at c0
      rw [Addr.add_lit, (hV j (by omega)).2.1, ← Nat.add_assoc] at c1
      exact ⟨c0, c1⟩

set_option maxRecDepth 20000 in
theorem open_rats {H : Type} {enc : TypeId × Value → H} {w : World} {r : Reach} {b0 base : Nat} {held : Bool} {v : Value} {d : DataW H} {ps : List MemPlace}
    (hval : Value.okWide Try.prog w r b0 33 v)
    (h : DataW.Trod enc Try.prog w base (fun _ => true) held 33 v d ps) :
    ∃ (A : Option Addr) (n c : Nat) (V : Fr), v = .slice A n c ∧ n ≤ maxLen ∧ RdP w w.heap.size A n V ∧ ∀ j, j < n → (Lit.int .i64 (V j).1).wf = true ∧ (Lit.int .i64 (V j).2).wf = true := by
  obtain ⟨a, len, cap, rfl⟩ := ok_slice Try.underlying33 hval
  obtain ⟨fuel, hf⟩ := h
  obtain ⟨A, n, c, V, hc, hn, hr, hw⟩ := rats_cells Try.underlying33 hf
  simp [Value.cells] at hc
  obtain ⟨rfl, rfl, rfl⟩ := hc
  exact ⟨_, _, _, V, rfl, hn, hr, hw⟩

end Go.Proofs.Ytajafmdeencohaa
