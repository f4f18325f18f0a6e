/-
  Rows of fractions (two cells an element): words, and contracts of the laws' szRatS, toRatS, eqRatS.
-/
import Derived.Test.YtajafmdeencohaaRat3
import Derived.Test.YtajafmdeencohaaOwn
import Derived.Deep.RegionWith
import Derived.Deep.RegionHeld3
import Derived.Deep.DeepCutAuto
import Derived.Deep.DrawnRows
namespace Go.Proofs.Ytajafmdeencohaa
open Go.RowKit

abbrev Fr := Nat → Int × Int
def cellV (V : Fr) (k : Nat) : Value := .int .i64 (if k % 2 = 0 then (V (k / 2)).1 else (V (k / 2)).2)
def cellsV (V : Fr) (n : Nat) : List Value := (List.range (n * 2)).map (cellV V)
def upd (V : Fr) (j : Nat) (p : Int × Int) : Fr := fun i => if i = j then p else V i
def fill (V : Fr) (j : Nat) : Fr := fun i => if i < j then V i else (0, 0)
theorem cellsV_length (V : Fr) (n : Nat) : (cellsV V n).length = n * 2 := by simp [cellsV]
theorem cellsV_at (V : Fr) {n k : Nat} (h : k < n * 2) : (cellsV V n)[k]? = some (cellV V k) := by simp [cellsV, h]
theorem cellV_even (V : Fr) (j : Nat) : cellV V (j * 2) = .int .i64 (V j).1 := by simp [cellV]
theorem cellV_odd (V : Fr) (j : Nat) : cellV V (j * 2 + 1) = .int .i64 (V j).2 := by
  rw [cellV, if_neg (by omega), show (j * 2 + 1) / 2 = j by omega]
theorem cellsV_congr {V V' : Fr} {n : Nat} (h : ∀ i, i < n → V i = V' i) : cellsV V n = cellsV V' n := by
  apply List.map_congr_left
  intro k hk
  rw [List.mem_range] at hk
  simp only [cellV]
  rw [h (k / 2) (by omega)]
theorem cellsV_set (V : Fr) {n j : Nat} (x y : Int) : ((cellsV V n).set (j * 2) (.int .i64 x)).set (j * 2 + 1) (.int .i64 y) = cellsV (upd V j (x, y)) n := by
  apply List.ext_getElem?
  intro k
  by_cases hk : k < n * 2
  · rw [cellsV_at _ hk, List.getElem?_set, List.getElem?_set, List.length_set, cellsV_length, cellsV_at _ hk]
    by_cases h1 : j * 2 + 1 = k
    · subst h1
      rw [if_pos rfl, if_pos hk, cellV_odd]
      simp [upd]
    · rw [if_neg h1]
      by_cases h0 : j * 2 = k
      · subst h0
        rw [if_pos rfl, if_pos hk, cellV_even]
        simp [upd]
      · rw [if_neg h0]
        simp only [cellV, upd]
        rw [if_neg (show ¬ k / 2 = j by omega)]
  · rw [List.getElem?_eq_none (by simp [cellsV]; omega), List.getElem?_eq_none (by simp [cellsV]; omega)]
theorem cellsV_snoc (V : Fr) (n : Nat) (x y : Int) : cellsV V n ++ [.int .i64 x, .int .i64 y] = cellsV (upd V n (x, y)) (n + 1) := by
  have h1 : cellsV V n = (List.range (n * 2)).map (cellV (upd V n (x, y))) := by
    apply List.map_congr_left
    intro k hk
    rw [List.mem_range] at hk
    simp only [cellV, upd]
    rw [if_neg (show ¬ k / 2 = n by omega)]
  have h2 : cellV (upd V n (x, y)) (n * 2) = .int .i64 x := by rw [cellV_even]; simp [upd]
  have h3 : cellV (upd V n (x, y)) (n * 2 + 1) = .int .i64 y := by rw [cellV_odd]; simp [upd]
  rw [h1, cellsV, show (n + 1) * 2 = n * 2 + 1 + 1 by omega, List.range_succ, List.range_succ, List.map_append, List.map_append]
  simp [h2, h3]
theorem cellsV_fill (V : Fr) (n : Nat) : cellsV (fill V n) n = cellsV V n := cellsV_congr fun i hi => by simp [fill, hi]
theorem upd_fill (V : Fr) (j : Nat) : upd (fill V j) j ((V j).1, (V j).2) = fill V (j + 1) := by
  funext i
  simp only [upd, fill]
  by_cases h : i = j
  · subst h
    simp
  · by_cases h1 : i < j
    · rw [if_neg h, if_pos h1, if_pos (by omega)]
    · rw [if_neg h, if_neg h1, if_neg (by omega)]
theorem made_cellsV (n : Nat) (V : Fr) : (madeCells #[.int .i64 0, .int .i64 0] (n * 2)).toList = cellsV (fill V 0) n := by
  apply List.ext_getElem?
  intro k
  by_cases hk : k < n * 2
  · rw [cellsV_at _ hk]
    have hm : k % 2 < 2 := Nat.mod_lt _ (by omega)
    rcases (show k % 2 = 0 ∨ k % 2 = 1 by omega) with h | h <;> simp [madeCells, hk, cellV, fill, h]
  · rw [List.getElem?_eq_none (by simp [madeCells]; omega), List.getElem?_eq_none (by simp [cellsV]; omega)]

/-- The slice has n fractions, and lies below block B. -/
def RdP (w : World) (B : Nat) (A : Option Addr) (n : Nat) (V : Fr) : Prop :=
  0 < n → ∃ b off, A = some ⟨b, off, none⟩ ∧ b < B ∧ ∀ j, j < n → w.cell? ⟨b, off + j * 2, none⟩ = some (.int .i64 (V j).1) ∧ w.cell? ⟨b, off + j * 2 + 1, none⟩ = some (.int .i64 (V j).2)
section
variable {w w' : World} {B B' n : Nat} {A : Option Addr} {V : Fr}
theorem RdP.keep (h : RdP w B A n V) (hk : ∀ p : Addr, p.block < B → w'.cell? p = w.cell? p) : RdP w' B A n V := fun hn => by
  obtain ⟨b, off, e, hb, hc⟩ := h hn
  exact ⟨b, off, e, hb, fun j hj => ⟨(hk ⟨b, _, none⟩ hb).trans (hc j hj).1, (hk ⟨b, _, none⟩ hb).trans (hc j hj).2⟩⟩
theorem RdP.more (h : RdP w B A n V) (hB : B ≤ B') : RdP w B' A n V := fun hn => by
  obtain ⟨b, off, e, hb, hc⟩ := h hn
  exact ⟨b, off, e, by omega, hc⟩
theorem RdP.below (h : RdP w B A n V) {C : Nat} (hb : Below C w w') (hC : B ≤ C) : RdP w' B A n V := h.keep fun _ hp => hb.cell (Nat.lt_of_lt_of_le hp hC)
theorem RdP.of_own {base : Nat} {e : TypeId} {c : Nat} (h : w.ownsRow base e 2 (.slice A n c) n (cellsV V n)) : RdP w w.heap.size A n V := fun hn => by
  obtain ⟨b, off, e, hb, hc⟩ := (Rd.of_own h).2 hn
  refine ⟨b, off, e, hb, fun j hj => ⟨?_, ?_⟩⟩
  · rw [hc (j * 2) _ (cellsV_at V (by omega)), cellV_even]
  · rw [Nat.add_assoc, hc (j * 2 + 1) _ (cellsV_at V (by omega)), cellV_odd]
end

theorem infoRat : (Try.prog.info? 66).map (fun i => (i.zero, i.size, i.bytes)) = some (some (.agg #[.int .i64 0, .int .i64 0]), 2, 16) := by kernel_rfl

theorem szRatS_yes (A : Option Addr) (n c : Nat) (left : Int) (w : World) (h0 : 0 ≤ left - n) (h1 : left ≤ 1048576) : Calls Try.prog 15 #[.slice A n c, .int .i64 left] w fun e w' => e = .returned (.int .i64 (left - n)) ∧ w = w' := by
  have hd := decide_eq_false (show ¬ left - (n : Int) < 0 by omega)
  go_enter Try.func15, Try.ntmps15
  go_wp2
  go_ret
  exact ⟨rfl, rfl⟩
theorem szRatS_no (A : Option Addr) (n c : Nat) (left : Int) (w : World) (h0 : left - n < 0) (h1 : 0 ≤ left) (h2 : left ≤ 1048576) (hn : (n : Int) ≤ 9223372036854775807) : Calls Try.prog 15 #[.slice A n c, .int .i64 left] w fun e w' => e = .returned (.int .i64 (-1)) ∧ w = w' := by
  have hd := decide_eq_true (show left - (n : Int) < 0 by omega)
  go_enter Try.func15, Try.ntmps15
  go_wp2
  go_ret
  exact ⟨rfl, rfl⟩

theorem toRatS_any (A : Option Addr) (n c B : Nat) (V : Fr) (w : World) (hr : RdP w B A n V) (hB : B ≤ w.heap.size) (hn : n ≤ 1048576) :
    Calls Try.prog 17 #[.slice A n c] w fun e w' => ∃ A', e = .returned (.slice A' n n) ∧ w'.ownsRow w.heap.size 66 2 (.slice A' n n) n (cellsV V n) ∧ Below w.heap.size w w' := by
  obtain ⟨iR, hi, hz, hsz, hby⟩ := info_parts infoRat
  go_enter Try.func17, Try.ntmps17
  go_wp2_with (refine wpList_make_full _ rfl _ _ 36 rfl w.heap.size 66 iR (.agg #[.int .i64 0, .int .i64 0]) 2 Try.underlying36 hi hz hsz .i64 .i64 n n n rfl rfl rfl rfl (by rw [hby]; omega) (by simp only [maxLen]; omega) (Nat.le_refl _) ?_)
  intro w1 hown hg
  rw [made_cellsV n V] at hown
  have hb1 : Below w.heap.size w w1 := (Below.refl _ _).grown hg (Nat.le_refl _) (fun g h => by cases h)
  clear hg hi hz hsz hby
  go_wp2
  go_loopw [4] (fun u wr => ∃ j : Nat, j ≤ n ∧ u = .int .i64 j ∧ wr.ownsRow w.heap.size 66 2 (.slice (some ⟨w.heap.size, 0, none⟩) n n) n (cellsV (fill V j) n) ∧ Below w.heap.size w wr) (fun u _ => n - (intOf u).toNat)
  case atStart => exact ⟨0, Nat.zero_le _, rfl, hown, hb1⟩
  case round =>
    obtain ⟨j, hj, rfl, ho, hb⟩ := hrel
    by_cases hlt : j < n
    · obtain ⟨b, off, rfl, hbb, hc⟩ := hr (by omega)
      have x0 := (hb.cell (p := ⟨b, off + j * 2, none⟩) (by exact Nat.lt_of_lt_of_le hbb hB)).trans (hc j hlt).1
      have x1 := (hb.cell (p := ⟨b, off + j * 2 + 1, none⟩) (by exact Nat.lt_of_lt_of_le hbb hB)).trans (hc j hlt).2
      clear hc hr
      go_wp2_with fail
      refine (toRat_any _ _ _).mono ?_
      rintro e w2 ⟨rfl, hb2⟩
      have ho := own_below ho hb2
      have hb' := hb.trans (hb2.mono hb.size)
      have hb'z : w.heap.size < w2.heap.size := Nat.lt_of_lt_of_le (Nat.lt_of_lt_of_le (by have := ho.2; rcases this with ⟨_, h0⟩ | ⟨g, cap, cur, hv, _, hh, _⟩ <;> first | omega | exact (by injection hv with hA _ _; injection hA with hA; injection hA with hA; rw [hA]; exact (Array.getElem?_eq_some_iff.1 hh).1)) (Nat.le_refl _)) (Nat.le_refl _)
      have hst := (ho.stored (j * 2) (.int .i64 (V j).1)).1.stored (j * 2 + 1) (.int .i64 (V j).2)
      have hst1 := hst.1
      rw [cellsV_set, upd_fill] at hst1
      clear hst
      have y0 := (RdP.of_own ho) (by omega)
      obtain ⟨g, o, hA, _, hcc⟩ := y0
      injection hA with hA
      injection hA with hg ho0
      subst hg
      subst ho0
      have y0 := (hcc j hlt).1
      have y1 := (hcc j hlt).2
      rw [Nat.zero_add] at y0 y1
      have hfr : ∀ k, w2.frozen? ⟨w.heap.size, k, none⟩ = false := fun k => by
        rcases ho.2 with ⟨_, h0⟩ | ⟨g, cap, cur, hv, _, hh, _⟩
        · omega
        · injection hv with hA _ _
          injection hA with hA
          injection hA with hA
          rw [hA]
          simp [World.frozen?, hh]
      have hf0 := hfr (j * 2)
      have hf1 := hfr (j * 2 + 1)
      clear hfr hcc ho hown hb
      have HST := Lib.hid hst1
      clear hst1
      go_wp2
      go_roundw
      case rel => exact ⟨j + 1, by omega, by go_num, HST.out, (hb'.setCell (Nat.le_refl _) _).setCell (Nat.le_refl _) _⟩
      case measure => simp [intOf]; omega
    · obtain rfl : j = n := by omega
      go_wp2
      go_ret
      rw [cellsV_fill] at ho
      exact ⟨_, rfl, ho, hb⟩

end Go.Proofs.Ytajafmdeencohaa
