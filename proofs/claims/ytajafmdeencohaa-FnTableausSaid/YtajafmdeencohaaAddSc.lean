/-
  Contracts of AddScaled, of the program and of the reference.
-/
import Derived.Test.YtajafmdeencohaaVecEq
import Derived.Test.YtajafmdeencohaaBox
namespace Go.Proofs.Ytajafmdeencohaa
open Go.RowKit
attribute [local go_sem ↓] Go.wp_at_zero Go.wp_at_succ

namespace Pl
/-- element j of a + k * b *)-/
def scM (x y : Int) (V2 : Fr) (j : Nat) : Int × Int × Bool := mul x y (V2 j).1 (V2 j).2
def scA (V1 : Fr) (x y : Int) (V2 : Fr) (j : Nat) : Int × Int × Bool := add (V1 j).1 (V1 j).2 (scM x y V2 j).1 (scM x y V2 j).2.1
def scV (V1 : Fr) (x y : Int) (V2 : Fr) : Fr := fun j => ((scA V1 x y V2 j).1, (scA V1 x y V2 j).2.1)
def scAll (V1 : Fr) (x y : Int) (V2 : Fr) : Nat → Bool
  | 0 => true
  | j + 1 => scAll V1 x y V2 j && ((scM x y V2 j).2.2 && (scA V1 x y V2 j).2.2)
theorem scAll_yes {V1 V2 : Fr} {x y a b c d : Int} {j : Nat} (h : scAll V1 x y V2 j = true) (hm : mul x y (V2 j).1 (V2 j).2 = (a, b, true)) (ht : add (V1 j).1 (V1 j).2 a b = (c, d, true)) : scAll V1 x y V2 (j + 1) = true ∧ scV V1 x y V2 j = (c, d) := by
  have e1 : scM x y V2 j = (a, b, true) := hm
  have e2 : scA V1 x y V2 j = (c, d, true) := by rw [scA, e1]; exact ht
  rw [scAll, h, e1, e2, scV, e2]
  exact ⟨rfl, rfl⟩
theorem scAll_no {V1 V2 : Fr} {x y a b c d : Int} {p q : Bool} {j n : Nat} (hm : mul x y (V2 j).1 (V2 j).2 = (a, b, p)) (ht : add (V1 j).1 (V1 j).2 a b = (c, d, q)) (hpq : (p && q) = false) (hn : j < n) : scAll V1 x y V2 n = false := by
  have e1 : scM x y V2 j = (a, b, p) := hm
  have e2 : scA V1 x y V2 j = (c, d, q) := by rw [scA, e1]; exact ht
  induction n with
  | zero => omega
  | succ n ih =>
    rw [scAll]
    by_cases h : j = n
    · subst h
      rw [e1, e2, hpq, Bool.and_false]
    · rw [ih (by omega), Bool.false_and]
def scOk (n1 : Nat) (V1 : Fr) (x y : Int) (n2 : Nat) (V2 : Fr) : Bool := decide (n1 = n2) && scAll V1 x y V2 n1
theorem ret_vb' {v : Value} {a b : Bool} (h : a = b) : Ending.returned (.tuple #[v, .bool a]) = .returned (.tuple #[v, .bool b]) := by rw [h]
end Pl
/-- a row of fractions, or none -/
def OwnsSc (ok : Bool) (V : Fr) (n : Nat) (w : World) (e : Ending) (w' : World) : Prop :=
  ∃ v, e = .returned (.tuple #[v, .bool ok]) ∧ w'.ownsRow w.heap.size 66 2 v (if ok then n else 0) (cellsV V (if ok then n else 0)) ∧ Below w.heap.size w w'
theorem own_lower {w : World} {base base' size n : Nat} {e : TypeId} {v : Value} {xs : List Value} (h : w.ownsRow base' e size v n xs) (hb : base ≤ base') : w.ownsRow base e size v n xs := by
  refine ⟨h.1, ?_⟩
  rcases h.2 with h2 | ⟨g, cap, cur, hv, hg, r⟩
  · exact Or.inl h2
  · exact Or.inr ⟨g, cap, cur, hv, Nat.le_trans hb hg, r⟩

theorem iSc_any (A1 A2 : Option Addr) (n1 n2 c1 c2 B : Nat) (V1 V2 : Fr) (x y : Int) (w : World) (h1 : RdP w B A1 n1 V1) (h2 : RdP w B A2 n2 V2) (hB : B ≤ w.heap.size) (hn1 : n1 ≤ 1048576) (hn2 : n2 ≤ 1048576) :
    Calls Try.prog 67 #[.slice A1 n1 c1, .agg #[.int .i64 x, .int .i64 y], .slice A2 n2 c2] w (OwnsSc (Pl.scOk n1 V1 x y n2 V2) (Pl.scV V1 x y V2) n1 w) := by
  have HB0 : Below (w.heap.size + 1) (w.alloc (.cells #[.int .i64 x, .int .i64 y] 66)) (w.alloc (.cells #[.int .i64 x, .int .i64 y] 66)) := Below.refl _ _
  have XK : Box (w.alloc (.cells #[.int .i64 x, .int .i64 y] 66)) w.heap.size x y := ⟨by simp, by simp, by simp, by simp, by simp⟩
  have HW : Below w.heap.size w (w.alloc (.cells #[.int .i64 x, .int .i64 y] 66)) := (Below.refl _ _).alloc (Nat.le_refl _) _
  by_cases hne : n1 = n2
  · subst hne
    have hok : Pl.scOk n1 V1 x y n1 V2 = Pl.scAll V1 x y V2 n1 := by rw [Pl.scOk, decide_eq_true rfl, Bool.true_and]
    rw [hok]
    clear hok hn2
    obtain ⟨n, en⟩ : ∃ n, n = n1 := ⟨_, rfl⟩
    rw [← en] at h1 h2 hn1 ⊢
    clear en
    have hwz : (w.alloc (.cells #[.int .i64 x, .int .i64 y] 66)).heap.size = w.heap.size + 1 := by simp
    have HWZ := Lib.hid hwz
    have HWB := Lib.hid HW
    clear hwz HW
    go_enter Try.func67, Try.ntmps67
    go_wp2_with fail
    go_loopw [8, 9, 22] (fun o v u wr => ∃ k : Nat, k ≤ n ∧ u = .int .i64 k ∧ Hid (Pl.scAll V1 x y V2 k = true) ∧ wr.ownsRow (w.heap.size + 1) 66 2 o k (cellsV (Pl.scV V1 x y V2) k) ∧ Box wr w.heap.size x y ∧ Below (w.heap.size + 1) (w.alloc (.cells #[.int .i64 x, .int .i64 y] 66)) wr) (fun _ _ u _ => n - (intOf u).toNat)
    case atStart =>
      have h0 := World.ownsRow_made (base := w.heap.size + 1) (size := 2) (e := 66) (w.alloc (.cells #[.int .i64 x, .int .i64 y] 66)) #[] 0 (by rw [HWZ.out]; exact Nat.le_refl _) (by decide) rfl
      exact ⟨0, Nat.zero_le _, rfl, Lib.hid rfl, by simpa [cellsV] using h0, XK.alloc _, HB0.alloc (by rw [HWZ.out]; exact Nat.le_refl _) _⟩
    case round =>
      obtain ⟨k, hk, rfl, hd, hown, xK, hb⟩ := hrel
      have HB9 := Lib.hid (HWB.out.trans (hb.mono (Nat.le_succ _)))
      have hsz := hb.size
      rw [HWZ.out] at hsz
      by_cases hlt : k < n
      · obtain ⟨b1, o1, rfl, hb1, hc1⟩ := h1 (by omega)
        obtain ⟨b2, o2, rfl, hb2, hc2⟩ := h2 (by omega)
        have hw1 : b1 < wr.heap.size := Nat.lt_of_lt_of_le (Nat.lt_of_lt_of_le hb1 hB) HB9.out.size
        have hw2 : b2 < wr.heap.size := Nat.lt_of_lt_of_le (Nat.lt_of_lt_of_le hb2 hB) HB9.out.size
        have z1 := (HB9.out.cell (p := ⟨b1, o1 + k * 2, none⟩) (Nat.lt_of_lt_of_le hb1 hB)).trans (hc1 k hlt).1
        have z2 := (HB9.out.cell (p := ⟨b1, o1 + k * 2 + 1, none⟩) (Nat.lt_of_lt_of_le hb1 hB)).trans (hc1 k hlt).2
        have z3 := (HB9.out.cell (p := ⟨b2, o2 + k * 2, none⟩) (Nat.lt_of_lt_of_le hb2 hB)).trans (hc2 k hlt).1
        have z4 := (HB9.out.cell (p := ⟨b2, o2 + k * 2 + 1, none⟩) (Nat.lt_of_lt_of_le hb2 hB)).trans (hc2 k hlt).2
        have hy := fun a b c d p q (h2 : Pl.mul x y (V2 k).1 (V2 k).2 = (a, b, p)) (h3 : Pl.add (V1 k).1 (V1 k).2 a b = (c, d, q)) (h4 : (p && q) = false) => Pl.scAll_no h2 h3 h4 hlt
        have hs := fun a b c d (h2 : Pl.mul x y (V2 k).1 (V2 k).2 = (a, b, true)) (h3 : Pl.add (V1 k).1 (V1 k).2 a b = (c, d, true)) => Pl.scAll_yes hd.out h2 h3
        clear hc1 hc2 h1 h2
        have HY := Lib.hid hy
        have HS := Lib.hid hs
        clear hy hs
        obtain ⟨a1, e1⟩ : ∃ a, a = (V1 k).1 := ⟨_, rfl⟩
        obtain ⟨a2, e2⟩ : ∃ a, a = (V1 k).2 := ⟨_, rfl⟩
        obtain ⟨a3, e3⟩ : ∃ a, a = (V2 k).1 := ⟨_, rfl⟩
        obtain ⟨a4, e4⟩ : ∃ a, a = (V2 k).2 := ⟨_, rfl⟩
        rw [← e1, ← e2, ← e3, ← e4] at HY HS
        rw [← e1] at z1
        rw [← e2] at z2
        rw [← e3] at z3
        rw [← e4] at z4
        clear e1 e2 e3 e4
        have cm := fun W => imul_any x y a3 a4 W
        obtain ⟨pp, hp⟩ : ∃ p, p = Pl.mul x y a3 a4 := ⟨_, rfl⟩
        rw [← hp] at cm HY HS
        clear hp
        obtain ⟨px, py, pk⟩ := pp
        have ca := fun W => iadd_any a1 a2 px py W
        obtain ⟨tt, ht⟩ : ∃ t, t = Pl.add a1 a2 px py := ⟨_, rfl⟩
        have HT := Lib.hid ht
        rw [← ht] at ca
        clear ht
        obtain ⟨tx, ty, tk⟩ := tt
        simp only at cm ca
        obtain ⟨xk0, xk1, _, _, xk4⟩ := id xK
        have k0 : (0 : Int) ≤ (k : Int) := by omega
        have k1 : (k : Int) < (n : Int) := by omega
        go_upto_region 7 with fail
        go_cut [10, 11] (fun s8 s9 wx => ∃ g : Nat, s8 = .pointer (some ⟨g, 0, none⟩) ∧ s9 = .bool pk ∧ wx.cell? ⟨g, 0, none⟩ = some (.int .i64 px) ∧ wx.cell? ⟨g, 1, none⟩ = some (.int .i64 py) ∧ g < wx.heap.size ∧ Below wr.heap.size wr wx)
        case first =>
          go_region_held3 (fun w' => w'.cell? ⟨w.heap.size, 0, none⟩ = some (.int .i64 x) ∧ w'.cell? ⟨w.heap.size, 1, none⟩ = some (.int .i64 y) ∧ w'.cell? ⟨b2, o2 + k * 2, none⟩ = some (.int .i64 a3) ∧ w'.cell? ⟨b2, o2 + k * 2 + 1, none⟩ = some (.int .i64 a4) ∧ w.heap.size < w'.heap.size ∧ b2 < w'.heap.size) (exact four_cells (by repeat (first | assumption | exact Below.refl _ _ | refine Below.drew ?_ | refine below_drewN ?_ _ | refine Below.alloc ?_ (by first | omega | (simp; done) | (simp; omega)) _ | refine Below.setCell ?_ (by first | omega | (simp; done) | (simp; omega)) _)) xk4 hw2 xk0 xk1 z3 z4) ((go_at_call 101; refine (cm _).mono ?_; rintro e wA ⟨rfl, hb⟩; have HB : Below (wr.heap.size) (wr) wA := Below.trans (by repeat (first | assumption | exact Below.refl _ _ | refine Below.drew ?_ | refine below_drewN ?_ _ | refine Below.alloc ?_ (by first | omega | (simp; done) | (simp; omega)) _ | refine Below.setCell ?_ (by first | omega | (simp; done) | (simp; omega)) _)) (hb.mono (by first | omega | (simp; done) | (simp; omega))); have HS : wr.heap.size ≤ wA.heap.size := Nat.le_trans (by simp) HB.size; obtain ⟨hc, hf, hl, hm, hn⟩ := bfull hb; (try (have z : wr.heap.size < wA.heap.size := Nat.lt_of_lt_of_le (by first | omega | (simp; done) | (simp; omega)) hb.size))))
          all_goals
            go_wp2_with fail
            go_meet
            refine ⟨_, rfl, rfl, by first | (simp; done) | exact (set2_cells (by first | (go_simp; done) | (simp [*, go_sem]; done)) (by first | (go_simp; done) | (simp [*, go_sem]; done))).1, by first | (simp; done) | exact (set2_cells (by first | (go_simp; done) | (simp [*, go_sem]; done)) (by first | (go_simp; done) | (simp [*, go_sem]; done))).2, by first | (go_simp; done) | (simp [*]; done), by repeat (first | assumption | exact Below.refl _ _ | refine Below.drew ?_ | refine below_drewN ?_ _ | refine Below.alloc ?_ (by first | omega | (simp; done) | (simp; omega)) _ | refine Below.setCell ?_ (by first | omega | (simp; done) | (simp; omega)) _)⟩
        case rest =>
          obtain ⟨g1, rfl, rfl, g0, g1', gl, HC⟩ := hcut
          obtain ⟨wo, rfl⟩ : ∃ wo : World, wo = wc := ⟨_, rfl⟩
          have hown := own_below hown HC
          have xK := xK.below HC
          have HB9 := Lib.hid (HB9.out.trans (HC.mono HB9.out.size))
          have hb := hb.trans (HC.mono (by omega))
          have z1 := (HC.cell (p := ⟨b1, o1 + k * 2, none⟩) hw1).trans z1
          have z2 := (HC.cell (p := ⟨b1, o1 + k * 2 + 1, none⟩) hw1).trans z2
          have hw1 := Nat.lt_of_lt_of_le hw1 HC.size
          have hsz := Nat.le_trans hsz HC.size
          clear HC xk0 xk1 xk4 z3 z4 hw2
          go_upto_region 8 with fail
          go_cut [12, 13] (fun s8 s9 wx => ∃ g : Nat, s8 = .pointer (some ⟨g, 0, none⟩) ∧ s9 = .bool tk ∧ wx.cell? ⟨g, 0, none⟩ = some (.int .i64 tx) ∧ wx.cell? ⟨g, 1, none⟩ = some (.int .i64 ty) ∧ g < wx.heap.size ∧ Below wo.heap.size wo wx)
          case first =>
            go_region_held3 (fun w' => w'.cell? ⟨g1, 0, none⟩ = some (.int .i64 px) ∧ w'.cell? ⟨g1, 1, none⟩ = some (.int .i64 py) ∧ w'.cell? ⟨b1, o1 + k * 2, none⟩ = some (.int .i64 a1) ∧ w'.cell? ⟨b1, o1 + k * 2 + 1, none⟩ = some (.int .i64 a2) ∧ g1 < w'.heap.size ∧ b1 < w'.heap.size) (exact four_cells (by repeat (first | assumption | exact Below.refl _ _ | refine Below.drew ?_ | refine below_drewN ?_ _ | refine Below.alloc ?_ (by first | omega | (simp; done) | (simp; omega)) _ | refine Below.setCell ?_ (by first | omega | (simp; done) | (simp; omega)) _)) gl hw1 g0 g1' z1 z2) ((go_at_call 102; refine (ca _).mono ?_; rintro e wB ⟨rfl, hb⟩; have HB : Below (wo.heap.size) (wo) wB := Below.trans (by repeat (first | assumption | exact Below.refl _ _ | refine Below.drew ?_ | refine below_drewN ?_ _ | refine Below.alloc ?_ (by first | omega | (simp; done) | (simp; omega)) _ | refine Below.setCell ?_ (by first | omega | (simp; done) | (simp; omega)) _)) (hb.mono (by first | omega | (simp; done) | (simp; omega))); have HS : wo.heap.size ≤ wB.heap.size := Nat.le_trans (by simp) HB.size; obtain ⟨hc, hf, hl, hm, hn⟩ := bfull hb; (try (have z : wo.heap.size < wB.heap.size := Nat.lt_of_lt_of_le (by first | omega | (simp; done) | (simp; omega)) hb.size))))
            all_goals
              go_wp2_with fail
              go_meet
              refine ⟨_, rfl, rfl, by first | (simp; done) | exact (set2_cells (by first | (go_simp; done) | (simp [*, go_sem]; done)) (by first | (go_simp; done) | (simp [*, go_sem]; done))).1, by first | (simp; done) | exact (set2_cells (by first | (go_simp; done) | (simp [*, go_sem]; done)) (by first | (go_simp; done) | (simp [*, go_sem]; done))).2, by first | (go_simp; done) | (simp [*]; done), by repeat (first | assumption | exact Below.refl _ _ | refine Below.drew ?_ | refine below_drewN ?_ _ | refine Below.alloc ?_ (by first | omega | (simp; done) | (simp; omega)) _ | refine Below.setCell ?_ (by first | omega | (simp; done) | (simp; omega)) _)⟩
          case rest =>
            obtain ⟨g2, rfl, rfl, f0, f1, fl, HC⟩ := hcut
            obtain ⟨w3, rfl⟩ : ∃ w3 : World, w3 = wc := ⟨_, rfl⟩
            have hown := own_below hown HC
            have xK := xK.below HC
            have HB9 := Lib.hid (HB9.out.trans (HC.mono HB9.out.size))
            have hb := hb.trans (HC.mono (by omega))
            have hsz := Nat.le_trans hsz HC.size
            clear HC g0 g1' z1 z2
            cases pk
            · have HR := Lib.hid (HY.out _ _ _ _ _ _ rfl HT.out.symm rfl)
              go_wp2
              go_ret2
              refine ⟨_, Pl.ret_vb' HR.out.symm, ?_, HB9.out⟩
              rw [HR.out]
              exact World.ownsRow_nil _ _ _ _
            · cases tk
              · have HR := Lib.hid (HY.out _ _ _ _ _ _ rfl HT.out.symm rfl)
                go_wp2
                go_ret2
                refine ⟨_, Pl.ret_vb' HR.out.symm, ?_, HB9.out⟩
                rw [HR.out]
                exact World.ownsRow_nil _ _ _ _
              · have HG := Lib.hid (HS.out _ _ _ _ rfl HT.out.symm)
                have hsn := cellsV_snoc (Pl.scV V1 x y V2) k tx ty
                have hup : cellsV (upd (Pl.scV V1 x y V2) k (tx, ty)) (k + 1) = cellsV (Pl.scV V1 x y V2) (k + 1) := cellsV_congr fun i _ => by
                  by_cases hik : i = k
                  · subst hik
                    simp [upd, HG.out.2]
                  · simp [upd, hik]
                have HSN := Lib.hid (hsn.trans hup)
                clear HS HY HT hsn hup
                go_wp2_with (at_builtin; refine wpList_push _ rfl _ _ 36 rfl (w.heap.size + 1) 66 (.agg #[.int .i64 0, .int .i64 0]) 2 16 Try.underlying36 infoRat rfl (by decide) _ _ _ rfl hown [.int .i64 tx, .int .i64 ty] rfl rfl (by simp [Value.oneCell']) (by decide) (by omega) hsz ?_)
                intro v' w' hown' hk
                have hb' := hk _ _ (Nat.le_refl _) hb
                have hbX := hk _ _ (Nat.le_refl _) (Below.refl _ w3)
                have xK' : Box w' w.heap.size x y := by
                  obtain ⟨q0, q1, q2, q3, q4⟩ := xK
                  exact ⟨(hbX.cell (p := ⟨w.heap.size, 0, none⟩) (Nat.lt_succ_self _)).trans q0, (hbX.cell (p := ⟨w.heap.size, 1, none⟩) (Nat.lt_succ_self _)).trans q1, (hbX.frozen (p := ⟨w.heap.size, 0, none⟩) (Nat.lt_succ_self _)).trans q2, (hbX.frozen (p := ⟨w.heap.size, 1, none⟩) (Nat.lt_succ_self _)).trans q3, Nat.lt_of_lt_of_le q4 hbX.size⟩
                clear hk hbX
                rw [HSN.out] at hown'
                go_wp2
                go_roundw
                case rel => exact ⟨k + 1, by omega, by go_num, Lib.hid HG.out.1, hown', xK', hb'⟩
                case measure => simp [intOf]; omega
      · obtain rfl : k = n := by omega
        go_wp2
        go_ret2
        refine ⟨_, Pl.ret_vb' hd.out.symm, ?_, HB9.out⟩
        rw [hd.out]
        exact own_lower hown (Nat.le_succ _)
  · have hok : Pl.scOk n1 V1 x y n2 V2 = false := by rw [Pl.scOk, decide_eq_false hne, Bool.false_and]
    have HR := Lib.hid hok
    have hd := beq_eq_false_iff_ne.2 (show (n1 : Int) ≠ (n2 : Int) by omega)
    have HB9 := Lib.hid HW
    clear HW hok HB0 XK
    go_enter Try.func67, Try.ntmps67
    go_wp2
    go_ret2
    refine ⟨_, Pl.ret_vb' HR.out.symm, ?_, HB9.out⟩
    rw [HR.out]
    exact World.ownsRow_nil _ _ _ _

theorem sSc_any (A1 A2 : Option Addr) (n1 n2 c1 c2 B : Nat) (V1 V2 : Fr) (x y : Int) (w : World) (h1 : RdP w B A1 n1 V1) (h2 : RdP w B A2 n2 V2) (hB : B ≤ w.heap.size) (hn1 : n1 ≤ 1048576) (hn2 : n2 ≤ 1048576) :
    Calls Try.prog 64 #[.slice A1 n1 c1, .agg #[.int .i64 x, .int .i64 y], .slice A2 n2 c2] w (OwnsSc (Pl.scOk n1 V1 x y n2 V2) (Pl.scV V1 x y V2) n1 w) := by
  have HB0 : Below (w.heap.size + 1) (w.alloc (.cells #[.int .i64 x, .int .i64 y] 66)) (w.alloc (.cells #[.int .i64 x, .int .i64 y] 66)) := Below.refl _ _
  have XK : Box (w.alloc (.cells #[.int .i64 x, .int .i64 y] 66)) w.heap.size x y := ⟨by simp, by simp, by simp, by simp, by simp⟩
  have HW : Below w.heap.size w (w.alloc (.cells #[.int .i64 x, .int .i64 y] 66)) := (Below.refl _ _).alloc (Nat.le_refl _) _
  by_cases hne : n1 = n2
  · subst hne
    have hok : Pl.scOk n1 V1 x y n1 V2 = Pl.scAll V1 x y V2 n1 := by rw [Pl.scOk, decide_eq_true rfl, Bool.true_and]
    rw [hok]
    clear hok hn2
    obtain ⟨n, en⟩ : ∃ n, n = n1 := ⟨_, rfl⟩
    rw [← en] at h1 h2 hn1 ⊢
    clear en
    have hwz : (w.alloc (.cells #[.int .i64 x, .int .i64 y] 66)).heap.size = w.heap.size + 1 := by simp
    have HWZ := Lib.hid hwz
    have HWB := Lib.hid HW
    clear hwz HW
    go_enter Try.func64, Try.ntmps64
    go_wp2_with fail
    go_loopw [8, 9] (fun o u wr => ∃ k : Nat, k ≤ n ∧ u = .int .i64 k ∧ Hid (Pl.scAll V1 x y V2 k = true) ∧ wr.ownsRow (w.heap.size + 1) 66 2 o k (cellsV (Pl.scV V1 x y V2) k) ∧ Box wr w.heap.size x y ∧ Below (w.heap.size + 1) (w.alloc (.cells #[.int .i64 x, .int .i64 y] 66)) wr) (fun _ u _ => n - (intOf u).toNat)
    case atStart =>
      have h0 := World.ownsRow_made (base := w.heap.size + 1) (size := 2) (e := 66) (w.alloc (.cells #[.int .i64 x, .int .i64 y] 66)) #[] 0 (by rw [HWZ.out]; exact Nat.le_refl _) (by decide) rfl
      exact ⟨0, Nat.zero_le _, rfl, Lib.hid rfl, by simpa [cellsV] using h0, XK.alloc _, HB0.alloc (by rw [HWZ.out]; exact Nat.le_refl _) _⟩
    case round =>
      obtain ⟨k, hk, rfl, hd, hown, xK, hb⟩ := hrel
      have HB9 := Lib.hid (HWB.out.trans (hb.mono (Nat.le_succ _)))
      have hsz := hb.size
      rw [HWZ.out] at hsz
      by_cases hlt : k < n
      · obtain ⟨b1, o1, rfl, hb1, hc1⟩ := h1 (by omega)
        obtain ⟨b2, o2, rfl, hb2, hc2⟩ := h2 (by omega)
        have hw1 : b1 < wr.heap.size := Nat.lt_of_lt_of_le (Nat.lt_of_lt_of_le hb1 hB) HB9.out.size
        have hw2 : b2 < wr.heap.size := Nat.lt_of_lt_of_le (Nat.lt_of_lt_of_le hb2 hB) HB9.out.size
        have z1 := (HB9.out.cell (p := ⟨b1, o1 + k * 2, none⟩) (Nat.lt_of_lt_of_le hb1 hB)).trans (hc1 k hlt).1
        have z2 := (HB9.out.cell (p := ⟨b1, o1 + k * 2 + 1, none⟩) (Nat.lt_of_lt_of_le hb1 hB)).trans (hc1 k hlt).2
        have z3 := (HB9.out.cell (p := ⟨b2, o2 + k * 2, none⟩) (Nat.lt_of_lt_of_le hb2 hB)).trans (hc2 k hlt).1
        have z4 := (HB9.out.cell (p := ⟨b2, o2 + k * 2 + 1, none⟩) (Nat.lt_of_lt_of_le hb2 hB)).trans (hc2 k hlt).2
        have hy := fun a b c d p q (h2 : Pl.mul x y (V2 k).1 (V2 k).2 = (a, b, p)) (h3 : Pl.add (V1 k).1 (V1 k).2 a b = (c, d, q)) (h4 : (p && q) = false) => Pl.scAll_no h2 h3 h4 hlt
        have hs := fun a b c d (h2 : Pl.mul x y (V2 k).1 (V2 k).2 = (a, b, true)) (h3 : Pl.add (V1 k).1 (V1 k).2 a b = (c, d, true)) => Pl.scAll_yes hd.out h2 h3
        clear hc1 hc2 h1 h2
        have HY := Lib.hid hy
        have HS := Lib.hid hs
        clear hy hs
        obtain ⟨a1, e1⟩ : ∃ a, a = (V1 k).1 := ⟨_, rfl⟩
        obtain ⟨a2, e2⟩ : ∃ a, a = (V1 k).2 := ⟨_, rfl⟩
        obtain ⟨a3, e3⟩ : ∃ a, a = (V2 k).1 := ⟨_, rfl⟩
        obtain ⟨a4, e4⟩ : ∃ a, a = (V2 k).2 := ⟨_, rfl⟩
        rw [← e1, ← e2, ← e3, ← e4] at HY HS
        rw [← e1] at z1
        rw [← e2] at z2
        rw [← e3] at z3
        rw [← e4] at z4
        clear e1 e2 e3 e4
        have cm := fun W => smul_any x y a3 a4 W
        obtain ⟨pp, hp⟩ : ∃ p, p = Pl.mul x y a3 a4 := ⟨_, rfl⟩
        rw [← hp] at cm HY HS
        clear hp
        obtain ⟨px, py, pk⟩ := pp
        have ca := fun W => sadd_any a1 a2 px py W
        obtain ⟨tt, ht⟩ : ∃ t, t = Pl.add a1 a2 px py := ⟨_, rfl⟩
        have HT := Lib.hid ht
        rw [← ht] at ca
        clear ht
        obtain ⟨tx, ty, tk⟩ := tt
        simp only at cm ca
        obtain ⟨xk0, xk1, _, _, xk4⟩ := id xK
        have k0 : (0 : Int) ≤ (k : Int) := by omega
        have k1 : (k : Int) < (n : Int) := by omega
        go_upto_region 7 with fail
        go_cut [10, 11] (fun s8 s9 wx => ∃ g : Nat, s8 = .pointer (some ⟨g, 0, none⟩) ∧ s9 = .bool pk ∧ wx.cell? ⟨g, 0, none⟩ = some (.int .i64 px) ∧ wx.cell? ⟨g, 1, none⟩ = some (.int .i64 py) ∧ g < wx.heap.size ∧ Below wr.heap.size wr wx)
        case first =>
          go_region_held3 (fun w' => w'.cell? ⟨w.heap.size, 0, none⟩ = some (.int .i64 x) ∧ w'.cell? ⟨w.heap.size, 1, none⟩ = some (.int .i64 y) ∧ w'.cell? ⟨b2, o2 + k * 2, none⟩ = some (.int .i64 a3) ∧ w'.cell? ⟨b2, o2 + k * 2 + 1, none⟩ = some (.int .i64 a4) ∧ w.heap.size < w'.heap.size ∧ b2 < w'.heap.size) (exact four_cells (by repeat (first | assumption | exact Below.refl _ _ | refine Below.drew ?_ | refine below_drewN ?_ _ | refine Below.alloc ?_ (by first | omega | (simp; done) | (simp; omega)) _ | refine Below.setCell ?_ (by first | omega | (simp; done) | (simp; omega)) _)) xk4 hw2 xk0 xk1 z3 z4) ((go_at_call 96; refine (cm _).mono ?_; rintro e wA ⟨rfl, hb⟩; have HB : Below (wr.heap.size) (wr) wA := Below.trans (by repeat (first | assumption | exact Below.refl _ _ | refine Below.drew ?_ | refine below_drewN ?_ _ | refine Below.alloc ?_ (by first | omega | (simp; done) | (simp; omega)) _ | refine Below.setCell ?_ (by first | omega | (simp; done) | (simp; omega)) _)) (hb.mono (by first | omega | (simp; done) | (simp; omega))); have HS : wr.heap.size ≤ wA.heap.size := Nat.le_trans (by simp) HB.size; obtain ⟨hc, hf, hl, hm, hn⟩ := bfull hb; (try (have z : wr.heap.size < wA.heap.size := Nat.lt_of_lt_of_le (by first | omega | (simp; done) | (simp; omega)) hb.size))))
          all_goals
            go_wp2_with fail
            go_meet
            refine ⟨_, rfl, rfl, by first | (simp; done) | exact (set2_cells (by first | (go_simp; done) | (simp [*, go_sem]; done)) (by first | (go_simp; done) | (simp [*, go_sem]; done))).1, by first | (simp; done) | exact (set2_cells (by first | (go_simp; done) | (simp [*, go_sem]; done)) (by first | (go_simp; done) | (simp [*, go_sem]; done))).2, by first | (go_simp; done) | (simp [*]; done), by repeat (first | assumption | exact Below.refl _ _ | refine Below.drew ?_ | refine below_drewN ?_ _ | refine Below.alloc ?_ (by first | omega | (simp; done) | (simp; omega)) _ | refine Below.setCell ?_ (by first | omega | (simp; done) | (simp; omega)) _)⟩
        case rest =>
          obtain ⟨g1, rfl, rfl, g0, g1', gl, HC⟩ := hcut
          obtain ⟨wo, rfl⟩ : ∃ wo : World, wo = wc := ⟨_, rfl⟩
          have hown := own_below hown HC
          have xK := xK.below HC
          have HB9 := Lib.hid (HB9.out.trans (HC.mono HB9.out.size))
          have hb := hb.trans (HC.mono (by omega))
          have z1 := (HC.cell (p := ⟨b1, o1 + k * 2, none⟩) hw1).trans z1
          have z2 := (HC.cell (p := ⟨b1, o1 + k * 2 + 1, none⟩) hw1).trans z2
          have hw1 := Nat.lt_of_lt_of_le hw1 HC.size
          have hsz := Nat.le_trans hsz HC.size
          clear HC xk0 xk1 xk4 z3 z4 hw2
          go_upto_region 8 with fail
          go_cut [12, 13] (fun s8 s9 wx => ∃ g : Nat, s8 = .pointer (some ⟨g, 0, none⟩) ∧ s9 = .bool tk ∧ wx.cell? ⟨g, 0, none⟩ = some (.int .i64 tx) ∧ wx.cell? ⟨g, 1, none⟩ = some (.int .i64 ty) ∧ g < wx.heap.size ∧ Below wo.heap.size wo wx)
          case first =>
            go_region_held3 (fun w' => w'.cell? ⟨g1, 0, none⟩ = some (.int .i64 px) ∧ w'.cell? ⟨g1, 1, none⟩ = some (.int .i64 py) ∧ w'.cell? ⟨b1, o1 + k * 2, none⟩ = some (.int .i64 a1) ∧ w'.cell? ⟨b1, o1 + k * 2 + 1, none⟩ = some (.int .i64 a2) ∧ g1 < w'.heap.size ∧ b1 < w'.heap.size) (exact four_cells (by repeat (first | assumption | exact Below.refl _ _ | refine Below.drew ?_ | refine below_drewN ?_ _ | refine Below.alloc ?_ (by first | omega | (simp; done) | (simp; omega)) _ | refine Below.setCell ?_ (by first | omega | (simp; done) | (simp; omega)) _)) gl hw1 g0 g1' z1 z2) ((go_at_call 97; refine (ca _).mono ?_; rintro e wB ⟨rfl, hb⟩; have HB : Below (wo.heap.size) (wo) wB := Below.trans (by repeat (first | assumption | exact Below.refl _ _ | refine Below.drew ?_ | refine below_drewN ?_ _ | refine Below.alloc ?_ (by first | omega | (simp; done) | (simp; omega)) _ | refine Below.setCell ?_ (by first | omega | (simp; done) | (simp; omega)) _)) (hb.mono (by first | omega | (simp; done) | (simp; omega))); have HS : wo.heap.size ≤ wB.heap.size := Nat.le_trans (by simp) HB.size; obtain ⟨hc, hf, hl, hm, hn⟩ := bfull hb; (try (have z : wo.heap.size < wB.heap.size := Nat.lt_of_lt_of_le (by first | omega | (simp; done) | (simp; omega)) hb.size))))
            all_goals
              go_wp2_with fail
              go_meet
              refine ⟨_, rfl, rfl, by first | (simp; done) | exact (set2_cells (by first | (go_simp; done) | (simp [*, go_sem]; done)) (by first | (go_simp; done) | (simp [*, go_sem]; done))).1, by first | (simp; done) | exact (set2_cells (by first | (go_simp; done) | (simp [*, go_sem]; done)) (by first | (go_simp; done) | (simp [*, go_sem]; done))).2, by first | (go_simp; done) | (simp [*]; done), by repeat (first | assumption | exact Below.refl _ _ | refine Below.drew ?_ | refine below_drewN ?_ _ | refine Below.alloc ?_ (by first | omega | (simp; done) | (simp; omega)) _ | refine Below.setCell ?_ (by first | omega | (simp; done) | (simp; omega)) _)⟩
          case rest =>
            obtain ⟨g2, rfl, rfl, f0, f1, fl, HC⟩ := hcut
            obtain ⟨w3, rfl⟩ : ∃ w3 : World, w3 = wc := ⟨_, rfl⟩
            have hown := own_below hown HC
            have xK := xK.below HC
            have HB9 := Lib.hid (HB9.out.trans (HC.mono HB9.out.size))
            have hb := hb.trans (HC.mono (by omega))
            have hsz := Nat.le_trans hsz HC.size
            clear HC g0 g1' z1 z2
            cases pk
            · have HR := Lib.hid (HY.out _ _ _ _ _ _ rfl HT.out.symm rfl)
              go_wp2
              go_ret2
              refine ⟨_, Pl.ret_vb' HR.out.symm, ?_, HB9.out.trans (((Below.refl _ _).alloc (Nat.le_refl _) _).mono HB9.out.size)⟩
              rw [HR.out]
              exact World.ownsRow_made _ #[] 0 HB9.out.size (by decide) rfl
            · cases tk
              · have HR := Lib.hid (HY.out _ _ _ _ _ _ rfl HT.out.symm rfl)
                go_wp2
                go_ret2
                refine ⟨_, Pl.ret_vb' HR.out.symm, ?_, HB9.out.trans (((Below.refl _ _).alloc (Nat.le_refl _) _).mono HB9.out.size)⟩
                rw [HR.out]
                exact World.ownsRow_made _ #[] 0 HB9.out.size (by decide) rfl
              · have HG := Lib.hid (HS.out _ _ _ _ rfl HT.out.symm)
                have hsn := cellsV_snoc (Pl.scV V1 x y V2) k tx ty
                have hup : cellsV (upd (Pl.scV V1 x y V2) k (tx, ty)) (k + 1) = cellsV (Pl.scV V1 x y V2) (k + 1) := cellsV_congr fun i _ => by
                  by_cases hik : i = k
                  · subst hik
                    simp [upd, HG.out.2]
                  · simp [upd, hik]
                have HSN := Lib.hid (hsn.trans hup)
                clear HS HY HT hsn hup
                go_wp2_with (at_builtin; refine wpList_push _ rfl _ _ 36 rfl (w.heap.size + 1) 66 (.agg #[.int .i64 0, .int .i64 0]) 2 16 Try.underlying36 infoRat rfl (by decide) _ _ _ rfl hown [.int .i64 tx, .int .i64 ty] rfl rfl (by simp [Value.oneCell']) (by decide) (by omega) hsz ?_)
                intro v' w' hown' hk
                have hb' := hk _ _ (Nat.le_refl _) hb
                have hbX := hk _ _ (Nat.le_refl _) (Below.refl _ w3)
                have xK' : Box w' w.heap.size x y := by
                  obtain ⟨q0, q1, q2, q3, q4⟩ := xK
                  exact ⟨(hbX.cell (p := ⟨w.heap.size, 0, none⟩) (Nat.lt_succ_self _)).trans q0, (hbX.cell (p := ⟨w.heap.size, 1, none⟩) (Nat.lt_succ_self _)).trans q1, (hbX.frozen (p := ⟨w.heap.size, 0, none⟩) (Nat.lt_succ_self _)).trans q2, (hbX.frozen (p := ⟨w.heap.size, 1, none⟩) (Nat.lt_succ_self _)).trans q3, Nat.lt_of_lt_of_le q4 hbX.size⟩
                clear hk hbX
                rw [HSN.out] at hown'
                go_wp2
                go_roundw
                case rel => exact ⟨k + 1, by omega, by go_num, Lib.hid HG.out.1, hown', xK', hb'⟩
                case measure => simp [intOf]; omega
      · obtain rfl : k = n := by omega
        go_wp2
        go_ret2
        refine ⟨_, Pl.ret_vb' hd.out.symm, ?_, HB9.out⟩
        rw [hd.out]
        exact own_lower hown (Nat.le_succ _)
  · have hok : Pl.scOk n1 V1 x y n2 V2 = false := by rw [Pl.scOk, decide_eq_false hne, Bool.false_and]
    have HR := Lib.hid hok
    have hd := beq_eq_false_iff_ne.2 (show (n1 : Int) ≠ (n2 : Int) by omega)
    have HB9 := Lib.hid HW
    clear HW hok HB0 XK
    go_enter Try.func64, Try.ntmps64
    have h0 := World.ownsRow_made (base := w.heap.size) (size := 2) (e := 66) (w.alloc (.cells #[.int .i64 x, .int .i64 y] 66)) #[] 0 HB9.out.size (by decide) rfl
    go_wp2
    go_ret2
    refine ⟨_, Pl.ret_vb' HR.out.symm, ?_, HB9.out.trans (((Below.refl _ _).alloc (Nat.le_refl _) _).mono HB9.out.size)⟩
    rw [HR.out]
    simpa [cellsV] using h0

end Go.Proofs.Ytajafmdeencohaa
