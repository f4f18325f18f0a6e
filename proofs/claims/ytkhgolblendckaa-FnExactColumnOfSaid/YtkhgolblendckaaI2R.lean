/-
  Contracts of IntsToRats, of the program and of the reference, and the walk of the law FnExactIntsToRats.
-/
import Derived.Test.YtkhgolblendckaaMarkRat
import Derived.Test.YtkhgolblendckaaVecEq
import Derived.Test.YtkhgolblendckaaCoal
import Derived.ProofKit
import Derived.WideShapes
import Derived.ChangeSlices
namespace Go.Proofs.Ytkhgolblendckaa
open Go.RowKit Go.ChangeShapes Go.WideShapes

set_option maxRecDepth 20000 in
theorem open_intsI {H : Type} {enc : TypeId × Value → H} {w : World} {r : Reach} {b0 base : Nat} {held : Bool} {v : Value} {d : DataW H} {ps : List MemPlace}
    (hval : Value.okWide Try.prog w r b0 30 v)
    (h : DataW.Trod enc Try.prog w base (fun _ => true) held 30 v d ps) :
    ∃ (A : Option Addr) (n c : Nat) (V : Nat → Int), v = .slice A n c ∧ n ≤ maxLen ∧ Rd w w.heap.size 1 A n (cellsI V n) ∧ ∀ j, j < n → (Lit.int .i64 (V j)).wf = true := by
  obtain ⟨a, len, cap, rfl⟩ := okWide_slice Try.underlying30 hval
  obtain ⟨fuel, hf⟩ := h
  rcases ChangeShapes.open_ints Try.underlying30 Try.underlying3 (by kernel_rfl) hf with ⟨hc, _⟩ | ⟨a', len', cap', zs, hc, _, hl, hm, hz, _, hcell, hw⟩
  · simp [Value.cells] at hc
    obtain ⟨rfl, rfl, rfl⟩ := hc
    exact ⟨_, _, _, fun _ => 0, rfl, Nat.zero_le _, ⟨by simp [cellsI, listI], fun h => absurd h (Nat.lt_irrefl _)⟩, fun j hj => absurd hj (Nat.not_lt_zero _)⟩
  · simp [Value.cells] at hc
    obtain ⟨rfl, rfl, rfl⟩ := hc
    simp only [if_true] at hz
    refine ⟨_, _, _, fun i => zs.getD i 0, rfl, by omega, ⟨by simp [cellsI, listI], fun hn => ?_⟩, fun j hj => ?_⟩
    · have h0 := hcell 0 (by omega)
      obtain ⟨b, off, spot⟩ := a'
      have hspot : spot = none := by simpa [Addr.add] using World.cell?_spot h0
      subst hspot
      refine ⟨b, off, rfl, by simpa [Addr.add] using World.block_lt_of_cell? _ _ h0, fun j u hu => ?_⟩
      have hj : j < len := by
        rcases Nat.lt_or_ge j len with h | h
        · exact h
        · rw [List.getElem?_eq_none (by simp [cellsI, listI]; omega)] at hu
          cases hu
      rw [cellsI_at _ hj] at hu
      injection hu with hu
      subst hu
      have := hcell j (by omega)
      rwa [Addr.add_lit] at this
    · refine hw _ ?_
      have hj' : j < zs.length := by omega
      simp only [List.getD, List.getElem?_eq_getElem hj', Option.getD_some]
      exact List.getElem_mem _

theorem eqIntI_same (A1 A2 : Option Addr) (n c1 c2 B : Nat) (V : Nat → Int) (w : World) (h1 : Rd w B 1 A1 n (cellsI V n)) (h2 : Rd w B 1 A2 n (cellsI V n)) (hB : B ≤ w.heap.size) (hn : n ≤ 1099511627776) :
    Calls Try.prog 22 #[.slice A1 n c1, .slice A2 n c2] w fun e w' => e = .returned (.bool true) ∧ Below w.heap.size w w' := by
  have c := eqIntS_same A1 A2 c1 c2 B (listI V n) w
  rw [listI_length] at c
  exact c h1 h2 hB hn
theorem rdP_grown {w w' : World} {B n : Nat} {A : Option Addr} {V : Fr} {row : Option Nat} (h : RdP w B A n V) (hg : w.grownBy w' row) (hB : B ≤ w.heap.size) (hr : ∀ g, row = some g → B ≤ g) : RdP w' B A n V :=
  h.keep fun p hp => World.cell?_of_block (hg.block p.block (by omega) (fun e => by have := hr _ e.symm; omega))
theorem Rd.below' {w w' : World} {B C n : Nat} {A : Option Addr} {xs : List Value} (h : Rd w B 1 A n xs) (hb : Below C w w') (hC : B ≤ C) : Rd w' B 1 A n xs := h.keep fun _ hp => hb.cell (Nat.lt_of_lt_of_le hp hC)

def unitV (V : Nat → Int) : Fr := fun i => (V i, 1)
theorem unit_snoc (V : Nat → Int) (j : Nat) : cellsV (unitV V) j ++ [.int .i64 (V j), .int .i64 1] = cellsV (unitV V) (j + 1) := by
  rw [cellsV_snoc]
  refine cellsV_congr fun i _ => ?_
  simp only [upd, unitV]
  by_cases h : i = j
  · subst h
    rw [if_pos rfl]
  · rw [if_neg h]
namespace Pl
theorem ret_vb {v : Value} {a b : Bool} (h : a = b) : Ending.returned (.tuple #[v, .bool a]) = .returned (.tuple #[v, .bool b]) := by rw [h]
def allIn (V : Nat → Int) : Nat → Bool
  | 0 => true
  | j + 1 => allIn V j && within (V j) (-1000000000) 1000000000
theorem allIn_yes {V : Nat → Int} {j : Nat} (h : allIn V j = true) (hj : within (V j) (-1000000000) 1000000000 = true) : allIn V (j + 1) = true := by rw [allIn, h, hj]; rfl
theorem allIn_no {V : Nat → Int} {j n : Nat} (hj : within (V j) (-1000000000) 1000000000 = false) (hn : j < n) : allIn V n = false := by
  induction n with
  | zero => omega
  | succ n ih =>
    rw [allIn]
    by_cases h : j = n
    · subst h
      rw [hj, Bool.and_false]
    · rw [ih (by omega), Bool.false_and]
end Pl
/-- a row of fractions with denominator 1, or none -/
def OwnsUnits (V : Nat → Int) (n : Nat) (w : World) (e : Ending) (w' : World) : Prop :=
  ∃ v, e = .returned (.tuple #[v, .bool (Pl.allIn V n)]) ∧ w'.ownsRow w.heap.size 44 2 v (if Pl.allIn V n then n else 0) (cellsV (unitV V) (if Pl.allIn V n then n else 0)) ∧ Below w.heap.size w w'

theorem iI2R_any (A : Option Addr) (n c B : Nat) (V : Nat → Int) (w : World) (hr : Rd w B 1 A n (cellsI V n)) (hB : B ≤ w.heap.size) (hn : n ≤ 1048576) :
    Calls Try.prog 21 #[.slice A n c] w (OwnsUnits V n w) := by
  go_enter Try.func21, Try.ntmps21
  go_wp2
  go_loopw [4, 6, 10] (fun o v u wr => ∃ j : Nat, j ≤ n ∧ u = .int .i64 j ∧ Hid (Pl.allIn V j = true) ∧ wr.ownsRow w.heap.size 44 2 o j (cellsV (unitV V) j) ∧ Below w.heap.size w wr) (fun _ _ u _ => n - (intOf u).toNat)
  case atStart => exact ⟨0, Nat.zero_le _, rfl, Lib.hid rfl, World.ownsRow_made w #[] 0 (Nat.le_refl _) (by decide) rfl, (Below.refl _ _).alloc (Nat.le_refl _) _⟩
  case round =>
    obtain ⟨j, hj, rfl, he, hown, hb⟩ := hrel
    by_cases hlt : j < n
    · obtain ⟨b, off, rfl, hbb, hc⟩ := hr.2 (by omega)
      have x0 := (hb.cell (p := ⟨b, off + j, none⟩) (by exact Nat.lt_of_lt_of_le hbb hB)).trans (hc j _ (cellsI_at V hlt))
      have hsn := unit_snoc V j
      cases hv : Pl.within (V j) (-1000000000) 1000000000
      · have HR := Lib.hid (Pl.allIn_no hv hlt)
        obtain ⟨x, hx⟩ : ∃ x, x = V j := ⟨_, rfl⟩
        rw [← hx] at x0 hv
        clear hx hsn hc hr
        go_wp2_with (go_at_call 55; refine (within_any _ _ _ _).mono ?_; rintro e w1 ⟨rfl, rfl⟩)
        all_goals
          go_ret2
          refine ⟨_, Pl.ret_vb HR.out.symm, ?_, hb⟩
          rw [HR.out]
          exact World.ownsRow_nil _ _ _ _
      · have HY := Lib.hid (Pl.allIn_yes he.out hv)
        obtain ⟨x, hx⟩ : ∃ x, x = V j := ⟨_, rfl⟩
        rw [← hx] at x0 hv hsn
        have HSN := Lib.hid hsn
        have hbz : b < wr.heap.size := Nat.lt_of_lt_of_le (Nat.lt_of_lt_of_le hbb hB) hb.size
        clear hx hsn hc hr
        go_wp2_with (go_at_call 55; refine (within_any _ _ _ _).mono ?_; rintro e w1 ⟨rfl, rfl⟩)
        refine (whole_any _ _).mono ?_
        rintro e w2 ⟨rfl, hb2⟩
        have hown := own_below hown hb2
        have hb := hb.trans (hb2.mono hb.size)
        clear hb2
        go_wp2_with (at_builtin; refine wpList_push _ rfl _ _ 25 rfl w.heap.size 44 (.agg #[.int .i64 0, .int .i64 0]) 2 16 Try.underlying25 infoRat rfl (by decide) _ _ _ rfl hown [.int .i64 x, .int .i64 1] rfl rfl (by simp [Value.oneCell']) (by decide) (by omega) hb.size ?_)
        intro v' w' hown' hk
        have hb' := hk _ _ (Nat.le_refl _) hb
        clear hk
        rw [HSN.out] at hown'
        go_wp2
        go_roundw
        case rel => exact ⟨j + 1, by omega, by go_num, HY, hown', hb'⟩
        case measure => simp [intOf]; omega
    · obtain rfl : j = n := by omega
      go_wp2
      go_ret2
      refine ⟨_, Pl.ret_vb he.out.symm, ?_, hb⟩
      rw [he.out]
      exact hown

theorem sI2R_any (A : Option Addr) (n c B : Nat) (V : Nat → Int) (w : World) (hr : Rd w B 1 A n (cellsI V n)) (hB : B ≤ w.heap.size) (hn : n ≤ 1048576) :
    Calls Try.prog 19 #[.slice A n c] w (OwnsUnits V n w) := by
  go_enter Try.func19, Try.ntmps19
  go_wp2
  go_loopw [4, 5] (fun o u wr => ∃ j : Nat, j ≤ n ∧ u = .int .i64 j ∧ Hid (Pl.allIn V j = true) ∧ wr.ownsRow w.heap.size 44 2 o j (cellsV (unitV V) j) ∧ Below w.heap.size w wr) (fun _ u _ => n - (intOf u).toNat)
  case atStart => exact ⟨0, Nat.zero_le _, rfl, Lib.hid rfl, World.ownsRow_made w #[] 0 (Nat.le_refl _) (by decide) rfl, (Below.refl _ _).alloc (Nat.le_refl _) _⟩
  case round =>
    obtain ⟨j, hj, rfl, he, hown, hb⟩ := hrel
    by_cases hlt : j < n
    · obtain ⟨b, off, rfl, hbb, hc⟩ := hr.2 (by omega)
      have x0 := (hb.cell (p := ⟨b, off + j, none⟩) (by exact Nat.lt_of_lt_of_le hbb hB)).trans (hc j _ (cellsI_at V hlt))
      have hsn := unit_snoc V j
      cases hv : Pl.within (V j) (-1000000000) 1000000000
      · have HR := Lib.hid (Pl.allIn_no hv hlt)
        obtain ⟨x, hx⟩ : ∃ x, x = V j := ⟨_, rfl⟩
        rw [← hx] at x0 hv
        clear hx hsn hc hr
        go_wp2_with (go_at_call 53; refine (l1In_any _ _ _ _).mono ?_; rintro e w1 ⟨rfl, rfl⟩)
        all_goals
          go_ret2
          refine ⟨_, Pl.ret_vb HR.out.symm, ?_, hb.alloc hb.size _⟩
          rw [HR.out]
          exact World.ownsRow_made _ #[] 0 hb.size (by decide) rfl
      · have HY := Lib.hid (Pl.allIn_yes he.out hv)
        obtain ⟨x, hx⟩ : ∃ x, x = V j := ⟨_, rfl⟩
        rw [← hx] at x0 hv hsn
        have HSN := Lib.hid hsn
        have hbz : b < wr.heap.size := Nat.lt_of_lt_of_le (Nat.lt_of_lt_of_le hbb hB) hb.size
        clear hx hsn hc hr
        go_wp2_with (go_at_call 53; refine (l1In_any _ _ _ _).mono ?_; rintro e w1 ⟨rfl, rfl⟩)
        refine (l3Int_any _ _).mono ?_
        rintro e w2 ⟨rfl, hb2⟩
        have hown := own_below hown hb2
        have hb := hb.trans (hb2.mono hb.size)
        clear hb2
        go_wp2_with (at_builtin; refine wpList_push _ rfl _ _ 25 rfl w.heap.size 44 (.agg #[.int .i64 0, .int .i64 0]) 2 16 Try.underlying25 infoRat rfl (by decide) _ _ _ rfl hown [.int .i64 x, .int .i64 1] rfl rfl (by simp [Value.oneCell']) (by decide) (by omega) hb.size ?_)
        intro v' w' hown' hk
        have hb' := hk _ _ (Nat.le_refl _) hb
        clear hk
        rw [HSN.out] at hown'
        go_wp2
        go_roundw
        case rel => exact ⟨j + 1, by omega, by go_num, HY, hown', hb'⟩
        case measure => simp [intOf]; omega
    · obtain rfl : j = n := by omega
      go_wp2
      go_ret2
      refine ⟨_, Pl.ret_vb he.out.symm, ?_, hb⟩
      rw [he.out]
      exact hown

theorem fnExactIntsToRats_walk {w : World} (A : Option Addr) (n c : Nat) (V : Nat → Int) (hn : n ≤ maxLen) (ra : Rd w w.heap.size 1 A n (cellsI V n)) (_ : ∀ j, j < n → (Lit.int .i64 (V j)).wf = true) :
    Calls Try.prog 5 #[.slice A n c] w fun e w' => e = .returned (.bool true) ∧ Below w.heap.size w w' := by
  have m1 : n ≤ 9223372036854775807 := by simpa [maxLen] using hn
  clear hn
  by_cases hy1 : n ≤ 1048576
  · have hd1 := decide_eq_false (show ¬ (1048576 : Int) < (n : Int) by omega)
    have IS := Lib.hid (And.intro (fun A c B w h hB => sI2R_any A n c B V w h hB hy1) (fun A c B w h hB => iI2R_any A n c B V w h hB hy1))
    unfold OwnsUnits at IS
    obtain ⟨ok, hok⟩ : ∃ ok, ok = Pl.allIn V n := ⟨_, rfl⟩
    rw [← hok] at IS
    obtain ⟨m, hm⟩ : ∃ m, m = (if ok then n else 0) := ⟨_, rfl⟩
    rw [← hm] at IS
    have hmn : m ≤ 1048576 := by
      rw [hm]
      split <;> omega
    clear hm hok
    go_enter Try.func5, Try.ntmps5
    have H := Below.refl w.heap.size w
    have s_ra := Nat.le_refl w.heap.size
    go_wp2_with fail
    refine (toIntS_any _ _ _ _ V _ ra s_ra (by omega)).mono ?_
    rintro e w1 ⟨X1, rfl, ow, hb⟩
    have ra := ra.below' hb s_ra
    have s_ra := Nat.le_trans s_ra hb.size
    have H := H.trans (hb.mono H.size)
    clear hb
    have r1 := Rd.of_own ow
    have s_r1 := Nat.le_refl w1.heap.size
    clear ow
    go_wp2_with fail
    refine (IS.out.1 _ _ _ _ r1 s_r1).mono ?_
    rintro e w2 ⟨v2, rfl, ow, hb⟩
    obtain ⟨X2, c2, rfl⟩ := own_form ow
    have ra := ra.below' hb s_ra
    have s_ra := Nat.le_trans s_ra hb.size
    have r1 := r1.below' hb s_r1
    have s_r1 := Nat.le_trans s_r1 hb.size
    have H := H.trans (hb.mono H.size)
    clear hb
    have rw0 := RdP.of_own ow
    have s_rw0 := Nat.le_refl w2.heap.size
    clear ow
    go_wp2_with fail
    refine (toIntS_any _ _ _ _ V _ ra s_ra (by omega)).mono ?_
    rintro e w3 ⟨X3, rfl, ow, hb⟩
    have t_ra_ox := s_ra
    have t_r1_ox := s_r1
    have t_rw0_ox := s_rw0
    have t_base_ox := H.size
    have ra := ra.below' hb s_ra
    have s_ra := Nat.le_trans s_ra hb.size
    have r1 := r1.below' hb s_r1
    have s_r1 := Nat.le_trans s_r1 hb.size
    have rw0 := rw0.below hb s_rw0
    have s_rw0 := Nat.le_trans s_rw0 hb.size
    have H := H.trans (hb.mono H.size)
    clear hb
    have ox := ow
    clear ow
    go_wp2_with fail
    refine (IS.out.2 _ _ _ _ (Rd.of_own ox) (Nat.le_refl _)).mono ?_
    rintro e w4 ⟨v4, rfl, ow, hb⟩
    obtain ⟨X4, c4, rfl⟩ := own_form ow
    have t_ra_og := s_ra
    have t_r1_og := s_r1
    have t_rw0_og := s_rw0
    have t_base_og := H.size
    have u_ox_og := fun g h => (ox.lt g h).2
    have ra := ra.below' hb s_ra
    have s_ra := Nat.le_trans s_ra hb.size
    have r1 := r1.below' hb s_r1
    have s_r1 := Nat.le_trans s_r1 hb.size
    have rw0 := rw0.below hb s_rw0
    have s_rw0 := Nat.le_trans s_rw0 hb.size
    have ox := own_below ox hb
    have H := H.trans (hb.mono H.size)
    clear hb
    have og := ow
    clear ow
    go_wp2_with fail
    refine (eqRatS_same _ _ _ _ _ _ (unitV V) _ (RdP.of_own og) (rw0.more s_rw0) (Nat.le_refl _) (by omega)).mono ?_
    rintro e w5 ⟨rfl, hb⟩
    have ra := ra.below' hb s_ra
    have s_ra := Nat.le_trans s_ra hb.size
    have r1 := r1.below' hb s_r1
    have s_r1 := Nat.le_trans s_r1 hb.size
    have rw0 := rw0.below hb s_rw0
    have s_rw0 := Nat.le_trans s_rw0 hb.size
    have ox := own_below ox hb
    have og := own_below og hb
    have H := H.trans (hb.mono H.size)
    clear hb
    go_wp2_with fail
    refine (toIntS_any _ _ _ _ V _ ra s_ra (by omega)).mono ?_
    rintro e w6 ⟨X6, rfl, ow, hb⟩
    have ra := ra.below' hb s_ra
    have s_ra := Nat.le_trans s_ra hb.size
    have r1 := r1.below' hb s_r1
    have s_r1 := Nat.le_trans s_r1 hb.size
    have rw0 := rw0.below hb s_rw0
    have s_rw0 := Nat.le_trans s_rw0 hb.size
    have ox := own_below ox hb
    have og := own_below og hb
    have H := H.trans (hb.mono H.size)
    clear hb
    have r6 := Rd.of_own ow
    have s_r6 := Nat.le_refl w6.heap.size
    clear ow
    go_wp2_with fail
    refine (eqIntI_same _ _ _ _ _ _ V _ (Rd.of_own ox) (r6.more s_r6) (Nat.le_refl _) (by omega)).mono ?_
    rintro e w7 ⟨rfl, hb⟩
    have ra := ra.below' hb s_ra
    have s_ra := Nat.le_trans s_ra hb.size
    have r1 := r1.below' hb s_r1
    have s_r1 := Nat.le_trans s_r1 hb.size
    have rw0 := rw0.below hb s_rw0
    have s_rw0 := Nat.le_trans s_rw0 hb.size
    have r6 := r6.below' hb s_r6
    have s_r6 := Nat.le_trans s_r6 hb.size
    have ox := own_below ox hb
    have og := own_below og hb
    have H := H.trans (hb.mono H.size)
    clear hb
    go_wp2_with fail
    refine (markIntS_own X3 n n _ 1 _ _ ox (by omega) (by omega) (by omega)).mono ?_
    rintro e w8 ⟨rfl, ox, hg⟩
    have ra := rd_grown ra hg s_ra (fun g h => Nat.le_trans t_ra_ox (ox.lt g h).1)
    have s_ra := Nat.le_trans s_ra hg.size
    have rw0 := rdP_grown rw0 hg s_rw0 (fun g h => Nat.le_trans t_rw0_ox (ox.lt g h).1)
    have s_rw0 := Nat.le_trans s_rw0 hg.size
    have og := own_grown og hg (fun g h => u_ox_og g h)
    have H := H.grown hg H.size (fun g h => Nat.le_trans t_base_ox (ox.lt g h).1)
    clear hg
    go_wp2_with fail
    refine (eqRatS_same _ _ _ _ _ _ (unitV V) _ (RdP.of_own og) (rw0.more s_rw0) (Nat.le_refl _) (by omega)).mono ?_
    rintro e w9 ⟨rfl, hb⟩
    have ra := ra.below' hb s_ra
    have s_ra := Nat.le_trans s_ra hb.size
    have rw0 := rw0.below hb s_rw0
    have s_rw0 := Nat.le_trans s_rw0 hb.size
    have ox := own_below ox hb
    have og := own_below og hb
    have H := H.trans (hb.mono H.size)
    clear hb
    go_wp2_with fail
    refine (markRatS_own X4 m _ _ 1 _ _ og (by omega) (by omega) (by omega)).mono ?_
    rintro e w10 ⟨rfl, og, hg⟩
    have ra := rd_grown ra hg s_ra (fun g h => Nat.le_trans t_ra_og (og.lt g h).1)
    have s_ra := Nat.le_trans s_ra hg.size
    have rw0 := rdP_grown rw0 hg s_rw0 (fun g h => Nat.le_trans t_rw0_og (og.lt g h).1)
    have s_rw0 := Nat.le_trans s_rw0 hg.size
    have H := H.grown hg H.size (fun g h => Nat.le_trans t_base_og (og.lt g h).1)
    clear hg
    go_wp2_with fail
    refine (heldRatS_any X4 m _ _ 1 _ (RdP.of_own og) (by omega) (by omega) (by omega)).mono ?_
    rintro e w11 ⟨rfl, rfl⟩
    go_wp2_with fail
    refine (toIntS_any _ _ _ _ V _ ra s_ra (by omega)).mono ?_
    rintro e w12 ⟨X12, rfl, ow, hb⟩
    have ra := ra.below' hb s_ra
    have s_ra := Nat.le_trans s_ra hb.size
    have rw0 := rw0.below hb s_rw0
    have s_rw0 := Nat.le_trans s_rw0 hb.size
    have og := own_below og hb
    have H := H.trans (hb.mono H.size)
    clear hb
    have r12 := Rd.of_own ow
    have s_r12 := Nat.le_refl w12.heap.size
    clear ow
    go_wp2_with fail
    refine (IS.out.2 _ _ _ _ r12 s_r12).mono ?_
    rintro e w13 ⟨v13, rfl, ow, hb⟩
    obtain ⟨X13, c13, rfl⟩ := own_form ow
    have t_ra_oh := s_ra
    have t_rw0_oh := s_rw0
    have t_r12_oh := s_r12
    have t_base_oh := H.size
    have u_og_oh := fun g h => (og.lt g h).2
    have ra := ra.below' hb s_ra
    have s_ra := Nat.le_trans s_ra hb.size
    have rw0 := rw0.below hb s_rw0
    have s_rw0 := Nat.le_trans s_rw0 hb.size
    have r12 := r12.below' hb s_r12
    have s_r12 := Nat.le_trans s_r12 hb.size
    have og := own_below og hb
    have H := H.trans (hb.mono H.size)
    clear hb
    have oh := ow
    clear ow
    go_wp2_with fail
    refine (eqRatS_same _ _ _ _ _ _ (unitV V) _ (RdP.of_own oh) (rw0.more s_rw0) (Nat.le_refl _) (by omega)).mono ?_
    rintro e w14 ⟨rfl, hb⟩
    have ra := ra.below' hb s_ra
    have s_ra := Nat.le_trans s_ra hb.size
    have rw0 := rw0.below hb s_rw0
    have s_rw0 := Nat.le_trans s_rw0 hb.size
    have r12 := r12.below' hb s_r12
    have s_r12 := Nat.le_trans s_r12 hb.size
    have og := own_below og hb
    have oh := own_below oh hb
    have H := H.trans (hb.mono H.size)
    clear hb
    go_wp2_with fail
    refine (heldRatS_any X4 m _ _ 1 _ (RdP.of_own og) (by omega) (by omega) (by omega)).mono ?_
    rintro e w15 ⟨rfl, rfl⟩
    go_wp2
    go_ret
    exact ⟨rfl, H⟩
  · have hd1 := decide_eq_true (show (1048576 : Int) < (n : Int) by omega)
    go_enter Try.func5, Try.ntmps5
    go_wp2
    go_ret
    exact ⟨rfl, Below.refl _ _⟩

end Go.Proofs.Ytkhgolblendckaa
