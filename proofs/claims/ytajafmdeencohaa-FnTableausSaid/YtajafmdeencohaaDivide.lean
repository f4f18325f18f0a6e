/-
  The contract of l6Divide: a row divided by an element.
-/
import Derived.Test.YtajafmdeencohaaAddSc
import Derived.Test.YtajafmdeencohaaVecEq
import Derived.Test.YtajafmdeencohaaGrow
namespace Go.Proofs.Ytajafmdeencohaa
open Go.RowKit
attribute [local go_sem ↓] Go.wp_at_zero Go.wp_at_succ

namespace Pl
/-- a row divided by x/y -/
def divV (V : Fr) (x y : Int) : Fr := fun j => ((div (V j).1 (V j).2 x y).1, (div (V j).1 (V j).2 x y).2.1)
def divAll (V : Fr) (x y : Int) : Nat → Bool
  | 0 => true
  | j + 1 => divAll V x y j && (div (V j).1 (V j).2 x y).2.2
theorem divAll_no {V : Fr} {x y : Int} {j n : Nat} (h : (div (V j).1 (V j).2 x y).2.2 = false) (hn : j < n) : divAll V x y n = false := by
  induction n with
  | zero => omega
  | succ n ih =>
    rw [divAll]
    by_cases e : j = n
    · subst e
      rw [h, Bool.and_false]
    · rw [ih (by omega), Bool.false_and]
theorem div_zero (a b y : Int) : (div a b 0 y).2.2 = false := by
  unfold div
  split
  · rw [Int.mul_zero, rat_zero]
  · rfl
theorem divAll_zero (V : Fr) (y : Int) {n : Nat} (hn : 0 < n) : divAll V 0 y n = false := divAll_no (div_zero _ _ _) hn
end Pl
theorem ret_sc2 {ok : Bool} {v : Value} {V : Fr} {n : Nat} {w w' : World} {b : Bool} (hb : ok = b) (h : w'.ownsRow w.heap.size 66 2 v (if b then n else 0) (cellsV V (if b then n else 0))) (hw : Below w.heap.size w w') : OwnsSc ok V n w (.returned (.tuple #[v, .bool b])) w' := by
  subst hb
  exact ⟨v, rfl, h, hw⟩

set_option maxHeartbeats 2000000 in
theorem divide_any (A : Option Addr) (n c B : Nat) (V : Fr) (x y : Int) (w : World) (h1 : RdP w B A n V) (hB : B ≤ w.heap.size) (hn : n ≤ 1048576) :
    Calls Try.prog 80 #[.slice A n c, .agg #[.int .i64 x, .int .i64 y]] w (OwnsSc (Pl.divAll V x y n) (Pl.divV V x y) n w) := by
  have BX0 : Bx (w.alloc (.cells #[.int .i64 x, .int .i64 y] 66)) w.heap.size [.int .i64 x, .int .i64 y] := Bx.new w #[.int .i64 x, .int .i64 y] 66
  have HB0 : Below w.heap.size w (w.alloc (.cells #[.int .i64 x, .int .i64 y] 66)) := (Below.refl _ _).alloc (Nat.le_refl _) _
  have HO := Lib.hid (World.ownsRow_made (w.alloc (.cells #[.int .i64 x, .int .i64 y] 66)) #[] 0 (base := w.heap.size + 1) (by simp) (by decide) rfl (e := 66) (size := 2))
  have HST := Lib.hid ((Below.refl (w.heap.size + 1) (w.alloc (.cells #[.int .i64 x, .int .i64 y] 66))).alloc (by simp) (.cells #[] 66))
  have HWS := Lib.hid (show w.heap.size + 1 ≤ (w.alloc (.cells #[.int .i64 x, .int .i64 y] 66)).heap.size by simp)
  have BX1 := Lib.hid BX0
  have HB1 := Lib.hid HB0
  clear BX0 HB0
  go_enter Try.func80, Try.ntmps80
  go_wp2
  obtain ⟨W1, e1⟩ : ∃ W1, W1 = (w.alloc (.cells #[.int .i64 x, .int .i64 y] 66)) := ⟨_, rfl⟩
  rw [← e1] at BX1 HB1 HWS
  have HST : Hid (Below (w.heap.size + 1) W1 ((w.alloc (.cells #[.int .i64 x, .int .i64 y] 66)).alloc (.cells #[] 66))) := by rw [e1]; exact HST
  clear e1
  go_loopw [6, 7] (fun o u wr => ∃ k : Nat, k ≤ n ∧ u = .int .i64 k ∧ Hid (Pl.divAll V x y k = true) ∧ wr.ownsRow (w.heap.size + 1) 66 2 o k (cellsV (Pl.divV V x y) k) ∧ Below (w.heap.size + 1) W1 wr) (fun _ u _ => n - (intOf u).toNat)
  case atStart => exact ⟨0, Nat.zero_le _, rfl, Lib.hid rfl, by simpa [cellsV] using HO.out, HST.out⟩
  case round =>
    obtain ⟨k, hk, rfl, hd, hown, hbw⟩ := hrel
    have hsz := Nat.le_trans HWS.out hbw.size
    have BX := bx_lo BX1.out hbw (Nat.lt_succ_self _)
    have hb := HB1.out.trans (hbw.mono (Nat.le_succ _))
    by_cases hlt : k < n
    · obtain ⟨b1, o1, rfl, hb1, hc1⟩ := h1 (by omega)
      have hw1 : b1 < wr.heap.size := Nat.lt_of_lt_of_le (Nat.lt_of_lt_of_le hb1 hB) hb.size
      have hw2 : w.heap.size < wr.heap.size := BX.1
      have z1 := (hb.cell (p := ⟨b1, o1 + k * 2, none⟩) (Nat.lt_of_lt_of_le hb1 hB)).trans (hc1 k hlt).1
      have z2 := (hb.cell (p := ⟨b1, o1 + k * 2 + 1, none⟩) (Nat.lt_of_lt_of_le hb1 hB)).trans (hc1 k hlt).2
      have z3 := BX.2.1 0 _ rfl
      have z4 : wr.cell? ⟨w.heap.size, 0 + 1, none⟩ = some (.int .i64 y) := BX.2.1 1 _ rfl
      have HNX := Lib.hid (show Pl.divV V x y k = ((Pl.div (V k).1 (V k).2 x y).1, (Pl.div (V k).1 (V k).2 x y).2.1) from rfl)
      have HNO := Lib.hid (fun h => Pl.divAll_no (V := V) (x := x) (y := y) (j := k) (n := n) h hlt)
      have HYE : Hid ((Pl.div (V k).1 (V k).2 x y).2.2 = true → Pl.divAll V x y (k + 1) = true) := Lib.hid (fun h => by rw [Pl.divAll, hd.out, h]; rfl)
      clear hc1 h1 BX
      obtain ⟨a1, e1⟩ : ∃ a, a = (V k).1 := ⟨_, rfl⟩
      obtain ⟨a2, e2⟩ : ∃ a, a = (V k).2 := ⟨_, rfl⟩
      rw [← e1, ← e2] at HNX HNO HYE
      rw [← e1] at z1
      rw [← e2] at z2
      clear e1 e2
      have cm := fun W => sdiv_any a1 a2 x y W
      obtain ⟨pp, hp⟩ : ∃ p, p = Pl.div a1 a2 x y := ⟨_, rfl⟩
      rw [← hp] at cm HNX HNO HYE
      clear hp
      obtain ⟨px, py, pk⟩ := pp
      simp only at cm
      have k0 : (0 : Int) ≤ (k : Int) := by omega
      have k1 : (k : Int) < (n : Int) := by omega
      have HWN := Lib.hid hown
      have HBW := Lib.hid hbw
      have HBB := Lib.hid hb
      clear hown hbw hb
      go_upto_region 5 with fail
      go_cut [8, 9] (fun s8 s9 wx => ∃ g : Nat, s8 = .pointer (some ⟨g, 0, none⟩) ∧ s9 = .bool pk ∧ wx.cell? ⟨g, 0, none⟩ = some (.int .i64 px) ∧ wx.cell? ⟨g, 1, none⟩ = some (.int .i64 py) ∧ g < wx.heap.size ∧ Below wr.heap.size wr wx)
      case first =>
        go_region_held3 (fun w' => w'.cell? ⟨b1, o1 + k * 2, none⟩ = some (.int .i64 a1) ∧ w'.cell? ⟨b1, o1 + k * 2 + 1, none⟩ = some (.int .i64 a2) ∧ w'.cell? ⟨w.heap.size, 0, none⟩ = some (.int .i64 x) ∧ w'.cell? ⟨w.heap.size, 0 + 1, none⟩ = some (.int .i64 y) ∧ b1 < w'.heap.size ∧ w.heap.size < w'.heap.size) (exact four_cells (by repeat (first | assumption | exact Below.refl _ _ | refine Below.drew ?_ | refine below_drewN ?_ _ | refine Below.alloc ?_ (by first | omega | (simp; done) | (simp; omega)) _ | refine Below.setCell ?_ (by first | omega | (simp; done) | (simp; omega)) _)) hw1 hw2 z1 z2 z3 z4) ((go_at_call 105; refine (cm _).mono ?_; rintro e wA ⟨rfl, hb⟩; have HB : Below (wr.heap.size) (wr) wA := Below.trans (by repeat (first | assumption | exact Below.refl _ _ | refine Below.drew ?_ | refine below_drewN ?_ _ | refine Below.alloc ?_ (by first | omega | (simp; done) | (simp; omega)) _ | refine Below.setCell ?_ (by first | omega | (simp; done) | (simp; omega)) _)) (hb.mono (by first | omega | (simp; done) | (simp; omega))); have HS : wr.heap.size ≤ wA.heap.size := Nat.le_trans (by simp) HB.size; obtain ⟨hc, hf, hl, hm, hn⟩ := bfull hb; (try (have z : wr.heap.size < wA.heap.size := Nat.lt_of_lt_of_le (by first | omega | (simp; done) | (simp; omega)) hb.size))))
        all_goals
          go_wp2_with fail
          go_meet
          refine ⟨_, rfl, rfl, by first | (simp; done) | exact (set2_cells (by first | (go_simp; done) | (simp [*, go_sem]; done)) (by first | (go_simp; done) | (simp [*, go_sem]; done))).1, by first | (simp; done) | exact (set2_cells (by first | (go_simp; done) | (simp [*, go_sem]; done)) (by first | (go_simp; done) | (simp [*, go_sem]; done))).2, by first | (go_simp; done) | (simp [*]; done), by repeat (first | assumption | exact Below.refl _ _ | refine Below.drew ?_ | refine below_drewN ?_ _ | refine Below.alloc ?_ (by first | omega | (simp; done) | (simp; omega)) _ | refine Below.setCell ?_ (by first | omega | (simp; done) | (simp; omega)) _)⟩
      case rest =>
        obtain ⟨g, rfl, rfl, g0, g1, gl, HC⟩ := hcut
        obtain ⟨wo, rfl⟩ : ∃ wo : World, wo = wc := ⟨_, rfl⟩
        have hown := own_below HWN.out HC
        have HBW := Lib.hid (HBW.out.trans (HC.mono hsz))
        have HB := HBB.out.trans (HC.mono HBB.out.size)
        have hsz := Nat.le_trans hsz HC.size
        clear z1 z2 z3 z4 HC HWN
        cases pk
        · have HFF := Lib.hid (HNO.out rfl)
          clear hown
          go_wp2
          go_ret2
          exact ret_sc2 HFF.out (World.ownsRow_made _ #[] 0 HB.size (by decide) rfl) (HB.alloc HB.size _)
        · have HY := Lib.hid (HYE.out rfl)
          clear HB
          go_wp2_with (at_builtin; refine wpList_push _ rfl _ _ 36 rfl (w.heap.size + 1) 66 (.agg #[.int .i64 0, .int .i64 0]) 2 16 Try.underlying36 infoRat rfl (by decide) _ _ _ rfl hown [.int .i64 px, .int .i64 py] rfl rfl (by simp [Value.oneCell']) (by decide) (by omega) hsz ?_)
          intro v' w' hown' hk'
          have hb' := Lib.hid (hk' _ _ (Nat.le_refl _) HBW.out)
          clear hk' HBW g0 g1
          have hown' : w'.ownsRow (w.heap.size + 1) 66 2 v' (k + 1) (cellsV (Pl.divV V x y) (k + 1)) := by
            have h := cellsV_next (Pl.divV V x y) k
            rw [HNX.out] at h
            rwa [h] at hown'
          go_wp2
          go_roundw
          case rel => exact ⟨k + 1, by omega, by go_num, HY, hown', hb'.out⟩
          case measure => simp [intOf]; omega
    · obtain rfl : n = k := by omega
      have HO3 := Lib.hid (own_low hown (Nat.le_succ _))
      clear hown
      go_wp2
      go_ret2
      exact ret_sc2 hd.out HO3.out hb

end Go.Proofs.Ytajafmdeencohaa
