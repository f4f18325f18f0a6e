/-
  Contracts of IntsToRats, of the program and of the reference, and the walk of the law FnExactIntsToRats.
-/
import Derived.Test.YtkhmepbdjdodmaaDoorMarkRat
import Derived.Test.YtkhmepbdjdodmaaDoorVecEq
import Derived.Test.YtkhmepbdjdodmaaDoorCoal
import Derived.ProofKit
import Derived.WideShapes
import Derived.ChangeSlices
namespace Go.Proofs.YtkhmepbdjdodmaaDoor
open Go.RowKit Go.ChangeShapes Go.WideShapes

set_option maxRecDepth 20000 in
theorem open_intsI {H : Type} {enc : TypeId × Value → H} {w : World} {r : Reach} {b0 base : Nat} {held : Bool} {v : Value} {d : DataW H} {ps : List MemPlace}
    (hval : Value.okWide Tryd.prog w r b0 53 v)
    (h : DataW.Trod enc Tryd.prog w base (fun _ => true) held 53 v d ps) :
    ∃ (A : Option Addr) (n c : Nat) (V : Nat → Int), v = .slice A n c ∧ n ≤ maxLen ∧ Rd w w.heap.size 1 A n (cellsI V n) ∧ ∀ j, j < n → (Lit.int .i64 (V j)).wf = true := by
  obtain ⟨a, len, cap, rfl⟩ := okWide_slice Tryd.underlying53 hval
  obtain ⟨fuel, hf⟩ := h
  rcases ChangeShapes.open_ints Tryd.underlying53 Tryd.underlying3 (by kernel_rfl) hf with ⟨hc, _⟩ | ⟨a', len', cap', zs, hc, _, hl, hm, hz, _, hcell, hw⟩
  · simp [Value.cells] at hc
    obtain ⟨rfl, rfl, rfl⟩ := hc
    exact ⟨_, _, _, fun _ => 0, rfl, Nat.zero_le _, ⟨by simp [cellsI, listI], fun h => absurd h (Nat.lt_irrefl _)⟩, fun j hj => absurd hj (Nat.not_lt_zero _)⟩
  · simp [Value.cells] at hc
    obtain ⟨rfl, rfl, rfl⟩ := hc
    simp only [if_true] at hz
    refine ⟨_, _, _, fun i => zs.getD i 0, rfl, by omega, ⟨by simp [cellsI, listI], fun hn => ?_⟩, fun j hj => ?_⟩
    · have h0 := hcell 0 (by omega)
      obtain ⟨b, off, spot⟩ := a'
      have hspot : spot = none := by simpa [Addr.add] using World.cell?_spot h0
      subst hspot
      refine ⟨b, off, rfl, by simpa [Addr.add] using World.block_lt_of_cell? _ _ h0, fun j u hu => ?_⟩
      have hj : j < len := by
        rcases Nat.lt_or_ge j len with h | h
        · exact h
        · rw [List.getElem?_eq_none (by simp [cellsI, listI]; omega)] at hu
          cases hu
      rw [cellsI_at _ hj] at hu
      injection hu with hu
      subst hu
      have := hcell j (by omega)
      rwa [Addr.add_lit] at this
    · refine hw _ ?_
      have hj' : j < zs.length := by omega
      simp only [List.getD, List.getElem?_eq_getElem hj', Option.getD_some]
      exact List.getElem_mem _

theorem rdP_grown {w w' : World} {B n : Nat} {A : Option Addr} {V : Fr} {row : Option Nat} (h : RdP w B A n V) (hg : w.grownBy w' row) (hB : B ≤ w.heap.size) (hr : ∀ g, row = some g → B ≤ g) : RdP w' B A n V :=
  h.keep fun p hp => World.cell?_of_block (hg.block p.block (by omega) (fun e => by have := hr _ e.symm; omega))
theorem Rd.below' {w w' : World} {B C n : Nat} {A : Option Addr} {xs : List Value} (h : Rd w B 1 A n xs) (hb : Below C w w') (hC : B ≤ C) : Rd w' B 1 A n xs := h.keep fun _ hp => hb.cell (Nat.lt_of_lt_of_le hp hC)

def unitV (V : Nat → Int) : Fr := fun i => (V i, 1)
theorem unit_snoc (V : Nat → Int) (j : Nat) : cellsV (unitV V) j ++ [.int .i64 (V j), .int .i64 1] = cellsV (unitV V) (j + 1) := by
  rw [cellsV_snoc]
  refine cellsV_congr fun i _ => ?_
  simp only [upd, unitV]
  by_cases h : i = j
  · subst h
    rw [if_pos rfl]
  · rw [if_neg h]
namespace Pl
theorem ret_vb {v : Value} {a b : Bool} (h : a = b) : Ending.returned (.tuple #[v, .bool a]) = .returned (.tuple #[v, .bool b]) := by rw [h]
def allIn (V : Nat → Int) : Nat → Bool
  | 0 => true
  | j + 1 => allIn V j && within (V j) (-1000000000) 1000000000
theorem allIn_yes {V : Nat → Int} {j : Nat} (h : allIn V j = true) (hj : within (V j) (-1000000000) 1000000000 = true) : allIn V (j + 1) = true := by rw [allIn, h, hj]; rfl
theorem allIn_no {V : Nat → Int} {j n : Nat} (hj : within (V j) (-1000000000) 1000000000 = false) (hn : j < n) : allIn V n = false := by
  induction n with
  | zero => omega
  | succ n ih =>
    rw [allIn]
    by_cases h : j = n
    · subst h
      rw [hj, Bool.and_false]
    · rw [ih (by omega), Bool.false_and]
end Pl
/-- a row of fractions with denominator 1, or none -/
def OwnsUnits (V : Nat → Int) (n : Nat) (w : World) (e : Ending) (w' : World) : Prop :=
  ∃ v, e = .returned (.tuple #[v, .bool (Pl.allIn V n)]) ∧ w'.ownsRow w.heap.size 27 2 v (if Pl.allIn V n then n else 0) (cellsV (unitV V) (if Pl.allIn V n then n else 0)) ∧ Below w.heap.size w w'

theorem iI2R_any (A : Option Addr) (n c B : Nat) (V : Nat → Int) (w : World) (hr : Rd w B 1 A n (cellsI V n)) (hB : B ≤ w.heap.size) (hn : n ≤ 1048576) :
    Calls Tryd.prog 37 #[.slice A n c] w (OwnsUnits V n w) := by
  go_enter Tryd.func37, Tryd.ntmps37
  go_wp2
  go_loopw [4, 6, 10] (fun o v u wr => ∃ j : Nat, j ≤ n ∧ u = .int .i64 j ∧ Hid (Pl.allIn V j = true) ∧ wr.ownsRow w.heap.size 27 2 o j (cellsV (unitV V) j) ∧ Below w.heap.size w wr) (fun _ _ u _ => n - (intOf u).toNat)
  case atStart => exact ⟨0, Nat.zero_le _, rfl, Lib.hid rfl, World.ownsRow_made w #[] 0 (Nat.le_refl _) (by decide) rfl, (Below.refl _ _).alloc (Nat.le_refl _) _⟩
  case round =>
    obtain ⟨j, hj, rfl, he, hown, hb⟩ := hrel
    by_cases hlt : j < n
    · obtain ⟨b, off, rfl, hbb, hc⟩ := hr.2 (by omega)
      have x0 := (hb.cell (p := ⟨b, off + j, none⟩) (by exact Nat.lt_of_lt_of_le hbb hB)).trans (hc j _ (cellsI_at V hlt))
      have hsn := unit_snoc V j
      cases hv : Pl.within (V j) (-1000000000) 1000000000
      · have HR := Lib.hid (Pl.allIn_no hv hlt)
        obtain ⟨x, hx⟩ : ∃ x, x = V j := ⟨_, rfl⟩
        rw [← hx] at x0 hv
        clear hx hsn hc hr
        go_wp2_with (go_at_call 72; refine (within_any _ _ _ _).mono ?_; rintro e w1 ⟨rfl, rfl⟩)
        all_goals
          go_ret2
          refine ⟨_, Pl.ret_vb HR.out.symm, ?_, hb⟩
          rw [HR.out]
          exact World.ownsRow_nil _ _ _ _
      · have HY := Lib.hid (Pl.allIn_yes he.out hv)
        obtain ⟨x, hx⟩ : ∃ x, x = V j := ⟨_, rfl⟩
        rw [← hx] at x0 hv hsn
        have HSN := Lib.hid hsn
        have hbz : b < wr.heap.size := Nat.lt_of_lt_of_le (Nat.lt_of_lt_of_le hbb hB) hb.size
        clear hx hsn hc hr
        go_wp2_with (go_at_call 72; refine (within_any _ _ _ _).mono ?_; rintro e w1 ⟨rfl, rfl⟩)
        refine (whole_any _ _).mono ?_
        rintro e w2 ⟨rfl, hb2⟩
        have hown := own_below hown hb2
        have hb := hb.trans (hb2.mono hb.size)
        clear hb2
        go_wp2_with (at_builtin; refine wpList_push _ rfl _ _ 37 rfl w.heap.size 27 (.agg #[.int .i64 0, .int .i64 0]) 2 16 Tryd.underlying37 infoRat rfl (by decide) _ _ _ rfl hown [.int .i64 x, .int .i64 1] rfl rfl (by simp [Value.oneCell']) (by decide) (by omega) hb.size ?_)
        intro v' w' hown' hk
        have hb' := hk _ _ (Nat.le_refl _) hb
        clear hk
        rw [HSN.out] at hown'
        go_wp2
        go_roundw
        case rel => exact ⟨j + 1, by omega, by go_num, HY, hown', hb'⟩
        case measure => simp [intOf]; omega
    · obtain rfl : j = n := by omega
      go_wp2
      go_ret2
      refine ⟨_, Pl.ret_vb he.out.symm, ?_, hb⟩
      rw [he.out]
      exact hown

theorem sI2R_any (A : Option Addr) (n c B : Nat) (V : Nat → Int) (w : World) (hr : Rd w B 1 A n (cellsI V n)) (hB : B ≤ w.heap.size) (hn : n ≤ 1048576) :
    Calls Tryd.prog 38 #[.slice A n c] w (OwnsUnits V n w) := by
  go_enter Tryd.func38, Tryd.ntmps38
  go_wp2
  go_loopw [4, 5] (fun o u wr => ∃ j : Nat, j ≤ n ∧ u = .int .i64 j ∧ Hid (Pl.allIn V j = true) ∧ wr.ownsRow w.heap.size 27 2 o j (cellsV (unitV V) j) ∧ Below w.heap.size w wr) (fun _ u _ => n - (intOf u).toNat)
  case atStart => exact ⟨0, Nat.zero_le _, rfl, Lib.hid rfl, World.ownsRow_made w #[] 0 (Nat.le_refl _) (by decide) rfl, (Below.refl _ _).alloc (Nat.le_refl _) _⟩
  case round =>
    obtain ⟨j, hj, rfl, he, hown, hb⟩ := hrel
    by_cases hlt : j < n
    · obtain ⟨b, off, rfl, hbb, hc⟩ := hr.2 (by omega)
      have x0 := (hb.cell (p := ⟨b, off + j, none⟩) (by exact Nat.lt_of_lt_of_le hbb hB)).trans (hc j _ (cellsI_at V hlt))
      have hsn := unit_snoc V j
      cases hv : Pl.within (V j) (-1000000000) 1000000000
      · have HR := Lib.hid (Pl.allIn_no hv hlt)
        obtain ⟨x, hx⟩ : ∃ x, x = V j := ⟨_, rfl⟩
        rw [← hx] at x0 hv
        clear hx hsn hc hr
        go_wp2_with (go_at_call 73; refine (l1In_any _ _ _ _).mono ?_; rintro e w1 ⟨rfl, rfl⟩)
        all_goals
          go_ret2
          refine ⟨_, Pl.ret_vb HR.out.symm, ?_, hb.alloc hb.size _⟩
          rw [HR.out]
          exact World.ownsRow_made _ #[] 0 hb.size (by decide) rfl
      · have HY := Lib.hid (Pl.allIn_yes he.out hv)
        obtain ⟨x, hx⟩ : ∃ x, x = V j := ⟨_, rfl⟩
        rw [← hx] at x0 hv hsn
        have HSN := Lib.hid hsn
        have hbz : b < wr.heap.size := Nat.lt_of_lt_of_le (Nat.lt_of_lt_of_le hbb hB) hb.size
        clear hx hsn hc hr
        go_wp2_with (go_at_call 73; refine (l1In_any _ _ _ _).mono ?_; rintro e w1 ⟨rfl, rfl⟩)
        refine (l3Int_any _ _).mono ?_
        rintro e w2 ⟨rfl, hb2⟩
        have hown := own_below hown hb2
        have hb := hb.trans (hb2.mono hb.size)
        clear hb2
        go_wp2_with (at_builtin; refine wpList_push _ rfl _ _ 37 rfl w.heap.size 27 (.agg #[.int .i64 0, .int .i64 0]) 2 16 Tryd.underlying37 infoRat rfl (by decide) _ _ _ rfl hown [.int .i64 x, .int .i64 1] rfl rfl (by simp [Value.oneCell']) (by decide) (by omega) hb.size ?_)
        intro v' w' hown' hk
        have hb' := hk _ _ (Nat.le_refl _) hb
        clear hk
        rw [HSN.out] at hown'
        go_wp2
        go_roundw
        case rel => exact ⟨j + 1, by omega, by go_num, HY, hown', hb'⟩
        case measure => simp [intOf]; omega
    · obtain rfl : j = n := by omega
      go_wp2
      go_ret2
      refine ⟨_, Pl.ret_vb he.out.symm, ?_, hb⟩
      rw [he.out]
      exact hown

end Go.Proofs.YtkhmepbdjdodmaaDoor
