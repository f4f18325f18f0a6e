/-
  An LP that came in, read field by field.
-/
import Derived.Test.YtajafmdeencohaaLp
namespace Go.Proofs.Ytajafmdeencohaa
open Go.RowKit Go.ChangeShapes Go.WideShapes

theorem kLP : Try.prog.cellsOf 49 = 3 := by kernel_rfl
theorem kIRows : Try.prog.cellsOf 47 = 1 := by kernel_rfl
theorem kIntsL : Try.prog.cellsOf 23 = 1 := by kernel_rfl
theorem kRatsL : Try.prog.cellsOf 33 = 1 := by kernel_rfl

theorem array3L {α : Type} {cs : Array α} (h : cs.size = 3) : ∃ c0 c1 c2, cs = #[c0, c1, c2] := by
  obtain ⟨l⟩ := cs
  match l, h with
  | [c0, c1, c2], _ => exact ⟨c0, c1, c2, rfl⟩

theorem intsL_cells {H : Type} {enc : TypeId × Value → H} {w : World} {fuel base : Nat} {held : Bool} {c0 : Value} {x : DataW H × List MemPlace}
    (h : DataW.trod enc Try.prog w base (fun _ => true) held fuel 23 [c0] = some x) :
    ∃ (A : Option Addr) (n c : Nat) (V : Nat → Int), c0 = .slice A n c ∧ n ≤ maxLen ∧ Rd w w.heap.size 1 A n (cellsI V n) := by
  rcases ChangeShapes.open_ints Try.underlying23 Try.underlying3 (by kernel_rfl) h with ⟨hc, _⟩ | ⟨a', len', cap', zs, hc, _, hl, hm, hz, _, hcell, hw⟩
  · simp only [List.cons.injEq, and_true] at hc
    subst hc
    exact ⟨_, _, _, fun _ => 0, rfl, Nat.zero_le _, ⟨by simp [cellsI, listI], fun h => absurd h (Nat.lt_irrefl _)⟩⟩
  · simp only [List.cons.injEq, and_true] at hc
    subst hc
    simp only [if_true] at hz
    refine ⟨_, _, _, fun i => zs.getD i 0, rfl, by omega, ⟨by simp [cellsI, listI], fun hn => ?_⟩⟩
    have h0 := hcell 0 (by omega)
    obtain ⟨b, off, spot⟩ := a'
    have hspot : spot = none := by simpa [Addr.add] using World.cell?_spot h0
    subst hspot
    refine ⟨b, off, rfl, by simpa [Addr.add] using World.block_lt_of_cell? _ _ h0, fun j u hu => ?_⟩
    have hj : j < len' := by
      rcases Nat.lt_or_ge j len' with h | h
      · exact h
      · rw [List.getElem?_eq_none (by simp [cellsI, listI]; omega)] at hu
        cases hu
    rw [cellsI_at _ hj] at hu
    injection hu with hu
    subst hu
    have := hcell j (by omega)
    rwa [Addr.add_lit] at this

theorem rowsL_cells {H : Type} {enc : TypeId × Value → H} {w : World} {fuel base : Nat} {held : Bool} {c0 : Value} {x : DataW H × List MemPlace}
    (h : DataW.trod enc Try.prog w base (fun _ => true) held fuel 47 [c0] = some x) :
    ∃ (A : Option Addr) (n c : Nat) (RA : Nat → Option Addr) (RN RC : Nat → Nat) (RV : Nat → Nat → Int), c0 = .slice A n c ∧ n ≤ maxLen ∧ (∀ j, j < n → RN j ≤ maxLen) ∧ RdI w w.heap.size A n RA RN RC RV := by
  rcases Deep.open_slice1 Try.underlying47 kIntsL h with ⟨hc, _⟩ | ⟨a, len, cap, m, k, V, D, Pl, hc, _, hl, hm, hmm, _, hx⟩
  · simp only [List.cons.injEq, and_true] at hc
    subst hc
    exact ⟨none, 0, 0, fun _ => none, fun _ => 0, fun _ => 0, fun _ _ => 0, rfl, Nat.zero_le _, fun j hj => absurd hj (Nat.not_lt_zero _), fun hn => absurd hn (Nat.lt_irrefl _), fun j hj => absurd hj (Nat.not_lt_zero _)⟩
  · simp only [List.cons.injEq, and_true] at hc
    subst hc
    simp only [if_true] at hmm
    have hlm : len ≤ m := by omega
    have each : ∀ i, i < m → ∃ p : Option Addr × Nat × Nat × (Nat → Int), V i = .slice p.1 p.2.1 p.2.2.1 ∧ p.2.1 ≤ maxLen ∧ Rd w w.heap.size 1 p.1 p.2.1 (cellsI p.2.2.2 p.2.1) := fun i hi => by
      obtain ⟨_, t⟩ := hx i hi
      obtain ⟨A, n, c, W, hc, hn, hr⟩ := intsL_cells t
      exact ⟨(A, n, c, W), hc, hn, hr⟩
    obtain ⟨P, hP⟩ := Deep.choose_lt (n := m) each
    refine ⟨some a, len, cap, fun i => (P i).1, fun i => (P i).2.1, fun i => (P i).2.2.1, fun i => (P i).2.2.2, rfl, by omega, fun j hj => (hP j (by omega)).2.1, fun hn => ?_, fun j hj => (hP j (by omega)).2.2⟩
    obtain ⟨b, off, spot⟩ := a
    have h0 := hx 0 (by omega)
    have hspot : spot = none := by simpa [Addr.add] using World.cell?_spot h0.1
    subst hspot
    refine ⟨b, off, rfl, by simpa [Addr.add] using World.block_lt_of_cell? _ _ h0.1, fun j hj => ?_⟩
    have h1 := (hx j (by omega)).1
    rw [Addr.add_lit, (hP j (by omega)).1] at h1
    exact h1

set_option maxRecDepth 20000 in
theorem open_lp {H : Type} {enc : TypeId × Value → H} {w : World} {r : Reach} {b0 base : Nat} {held : Bool} {v : Value} {d : DataW H} {ps : List MemPlace}
    (hval : Value.okWide Try.prog w r b0 49 v)
    (h : DataW.Trod enc Try.prog w base (fun _ => true) held 49 v d ps) :
    ∃ (aR aBs aCs : Option Addr) (arn arc abn abc acn acc : Nat) (aRA : Nat → Option Addr) (aRN aRC : Nat → Nat) (aRV : Nat → Nat → Int) (aBV : Nat → Int) (aCV : Fr), v = .agg #[.slice aR arn arc, .slice aBs abn abc, .slice aCs acn acc] ∧ (arn ≤ maxLen ∧ (∀ j, j < arn → aRN j ≤ maxLen) ∧ abn ≤ maxLen ∧ acn ≤ maxLen) ∧ RdI w w.heap.size aR arn aRA aRN aRC aRV ∧ Rd w w.heap.size 1 aBs abn (cellsI aBV abn) ∧ RdP w w.heap.size aCs acn aCV := by
  obtain ⟨cs, rfl, hsz⟩ := okWide_struct Try.underlying49 hval
  obtain ⟨c0, c1, c2, rfl⟩ := array3L (hsz.trans kLP)
  obtain ⟨fuel, hf⟩ := h
  obtain ⟨xs, n, _, _, _, hlen, hx⟩ := DataW.trod_struct Try.underlying49 hf
  obtain ⟨y0, y1, y2, rfl⟩ : ∃ y0 y1 y2, xs = [y0, y1, y2] := by
    match xs, hlen with
    | [y0, y1, y2], _ => exact ⟨y0, y1, y2, rfl⟩
  have k0 : DataW.trod enc Try.prog w base (fun _ => true) held n 47 ((([c0, c1, c2] : List Value).drop 0).take (Try.prog.cellsOf 47)) = some y0 := hx 0 _ rfl
  rw [kIRows] at k0
  have k0 : DataW.trod enc Try.prog w base (fun _ => true) held n 47 [c0] = some y0 := k0
  have k1 : DataW.trod enc Try.prog w base (fun _ => true) held n 23 ((([c0, c1, c2] : List Value).drop 1).take (Try.prog.cellsOf 23)) = some y1 := hx 1 _ rfl
  rw [kIntsL] at k1
  have k1 : DataW.trod enc Try.prog w base (fun _ => true) held n 23 [c1] = some y1 := k1
  have k2 : DataW.trod enc Try.prog w base (fun _ => true) held n 33 ((([c0, c1, c2] : List Value).drop 2).take (Try.prog.cellsOf 33)) = some y2 := hx 2 _ rfl
  rw [kRatsL] at k2
  have k2 : DataW.trod enc Try.prog w base (fun _ => true) held n 33 [c2] = some y2 := k2
  obtain ⟨A, rn, rc, RA, RN, RC, RV, e0, m0, m1, r0⟩ := rowsL_cells k0
  obtain ⟨Bs, bn, bc, BV, e1, m2, r1⟩ := intsL_cells k1
  obtain ⟨Cs, cn, cc, CV, e2, m3, r2, _⟩ := rats_cells Try.underlying33 k2
  simp only [List.cons.injEq, and_true] at e0 e1 e2
  subst e0 e1 e2
  exact ⟨A, Bs, Cs, rn, rc, bn, bc, cn, cc, RA, RN, RC, RV, BV, CV, rfl, ⟨m0, m1, m2, m3⟩, r0, r1, r2⟩

end Go.Proofs.Ytajafmdeencohaa
