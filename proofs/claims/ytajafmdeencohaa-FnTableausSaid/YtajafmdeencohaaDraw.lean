/-
  The cursor of the reference's draws: contracts of l1New, l1Byte, l1Below, l1PickInt, l1Pick: what they return lies in its range, and nothing but the cursor's block turns.
-/
import Derived.Test.YtajafmdeencohaaChecked
import Derived.Test.YtajafmdeencohaaOwn
import Derived.Test.YtajafmdeencohaaPlain
import Derived.WalkLawsBesides
import Derived.Deep.QuietTactic
import Derived.BigQuiet
import Derived.Outline
import Derived.Lib.Hide
import Derived.Deep.RegionWith
import Derived.Deep.RegionHeld3
import Derived.Deep.DeepCutAuto
import Derived.Deep.DrawnRows
import Derived.ProofKit
import Derived.WideShapes
import Derived.ChangeSlices
namespace Go.Proofs.Ytajafmdeencohaa
open Go.RowKit Go.ChangeShapes Go.WideShapes

namespace Pl
theorem i64_and255 (n : Int) : bits .and .i64 n 255 = n % 256 := by
  have h1 : (BitVec.ofInt 64 255).toNat = 2 ^ 8 - 1 := by decide
  have key : (BitVec.ofInt 64 n &&& BitVec.ofInt 64 255).toNat = (n % ((2 ^ 64 : Nat) : Int)).toNat % 2 ^ 8 := by
    rw [BitVec.toNat_and, BitVec.toNat_ofInt, h1, Nat.and_two_pow_sub_one_eq_mod]
  show IntKind.i64.wrap ((BitVec.ofInt 64 n &&& BitVec.ofInt 64 255).toNat : Nat) = n % 256
  rw [key, IntKind.wrap_i64]
  omega
theorem i64_and30 (n : Int) : bits .and .i64 n 1073741823 = n % 1073741824 := by
  have h1 : (BitVec.ofInt 64 1073741823).toNat = 2 ^ 30 - 1 := by decide
  have key : (BitVec.ofInt 64 n &&& BitVec.ofInt 64 1073741823).toNat = (n % ((2 ^ 64 : Nat) : Int)).toNat % 2 ^ 30 := by
    rw [BitVec.toNat_and, BitVec.toNat_ofInt, h1, Nat.and_two_pow_sub_one_eq_mod]
  show IntKind.i64.wrap ((BitVec.ofInt 64 n &&& BitVec.ofInt 64 1073741823).toNat : Nat) = n % 1073741824
  rw [key, IntKind.wrap_i64]
  omega
end Pl

/-- n bytes that can be read at A, below block B -/
def RdB (w : World) (B : Nat) (A : Option Addr) (n : Nat) : Prop :=
  0 < n → ∃ b off, A = some ⟨b, off, none⟩ ∧ b < B ∧ ∀ j, j < n → ∃ x : Int, 0 ≤ x ∧ x < 256 ∧ w.cell? ⟨b, off + j, none⟩ = some (.int .u8 x)
theorem RdB.keep {w w' : World} {B n : Nat} {A : Option Addr} (h : RdB w B A n) (hk : ∀ p : Addr, p.block < B → w'.cell? p = w.cell? p) : RdB w' B A n := fun hn => by
  obtain ⟨b, off, e, hb, hc⟩ := h hn
  refine ⟨b, off, e, hb, fun j hj => ?_⟩
  obtain ⟨x, x0, x1, hx⟩ := hc j hj
  exact ⟨x, x0, x1, (hk ⟨b, _, none⟩ hb).trans hx⟩

set_option maxRecDepth 10000 in
theorem open_code {H : Type} {enc : TypeId × Value → H} {w : World} {r : Reach} {b0 base : Nat} {held : Bool} {v : Value} {d : DataW H} {ps : List MemPlace}
    (hval : Value.okWide Try.prog w r b0 61 v)
    (h : DataW.Trod enc Try.prog w base (fun _ => true) held 61 v d ps) :
    ∃ (A : Option Addr) (n c : Nat), v = .slice A n c ∧ n ≤ maxLen ∧ RdB w w.heap.size A n := by
  obtain ⟨a, len, cap, rfl⟩ := okWide_slice Try.underlying61 hval
  obtain ⟨fuel, hf⟩ := h
  rcases ChangeShapes.open_ints Try.underlying61 Try.underlying5 (by kernel_rfl) hf with ⟨hc, _⟩ | ⟨a', len', cap', zs, hc, _, hl, hm, hz, _, hcell, hw⟩
  · simp [Value.cells] at hc
    obtain ⟨rfl, rfl, rfl⟩ := hc
    exact ⟨_, _, _, rfl, Nat.zero_le _, fun h => absurd h (Nat.lt_irrefl _)⟩
  · simp [Value.cells] at hc
    obtain ⟨rfl, rfl, rfl⟩ := hc
    simp only [if_true] at hz
    refine ⟨_, _, _, rfl, by omega, fun hn => ?_⟩
    have h0 := hcell 0 (by omega)
    obtain ⟨b, off, spot⟩ := a'
    have hspot : spot = none := by simpa [Addr.add] using World.cell?_spot h0
    subst hspot
    refine ⟨b, off, rfl, by simpa [Addr.add] using World.block_lt_of_cell? _ _ h0, fun j hj => ?_⟩
    have h1 := hcell j (by omega)
    rw [Addr.add_lit] at h1
    have h2 := hw (zs.getD j 0) (by
      have hj' : j < zs.length := by omega
      simp only [List.getD, List.getElem?_eq_getElem hj', Option.getD_some]
      exact List.getElem_mem _)
    have h3 : 0 ≤ zs.getD j 0 ∧ zs.getD j 0 ≤ 255 := by simpa [Lit.wf, IntKind.min, IntKind.max, IntKind.signed, IntKind.bits] using h2
    exact ⟨_, h3.1, by omega, h1⟩

/-- the cursor at block g: its code lies below block B -/
def Cur (w : World) (B g : Nat) : Prop :=
  B ≤ g ∧ g < w.heap.size ∧ ∃ (A : Option Addr) (n c : Nat) (i h : Int), (n : Int) ≤ 1048576 ∧ 0 ≤ i ∧ i ≤ n ∧ RdB w B A n ∧ w.cell? ⟨g, 0, none⟩ = some (.slice A n c) ∧ w.cell? ⟨g, 1, none⟩ = some (.int .i64 i) ∧ w.cell? ⟨g, 2, none⟩ = some (.int .i64 h) ∧
    w.frozen? ⟨g, 0, none⟩ = false ∧ w.frozen? ⟨g, 1, none⟩ = false ∧ w.frozen? ⟨g, 2, none⟩ = false
/-- W: the world in which the law began; the cursor lies at block g -/
def Dr (W : World) (g : Nat) (w : World) : Prop := Below W.heap.size W w ∧ Cur w W.heap.size g
theorem Cur.keep {w w' : World} {B g : Nat} (h : Cur w B g) (hs : w.heap.size ≤ w'.heap.size) (hk : ∀ k, k < w.heap.size → w'.heap[k]? = w.heap[k]?) : Cur w' B g := by
  obtain ⟨hB, hg, A, n, c, i, h, hn, i0, i1, hr, c0, c1, c2, f0, f1, f2⟩ := h
  have hc : ∀ p : Addr, p.block < w.heap.size → w'.cell? p = w.cell? p := fun p hp => World.cell?_of_block (hk p.block hp)
  have hf : ∀ p : Addr, p.block < w.heap.size → w'.frozen? p = w.frozen? p := fun p hp => World.frozen?_of_block (hk p.block hp)
  exact ⟨hB, by omega, A, n, c, i, h, hn, i0, i1, hr.keep (fun p hp => hc p (by omega)), (hc ⟨g, 0, none⟩ hg).trans c0, (hc ⟨g, 1, none⟩ hg).trans c1, (hc ⟨g, 2, none⟩ hg).trans c2, (hf ⟨g, 0, none⟩ hg).trans f0, (hf ⟨g, 1, none⟩ hg).trans f1, (hf ⟨g, 2, none⟩ hg).trans f2⟩
theorem Cur.below {w w' : World} {B g : Nat} (h : Cur w B g) (hb : Below w.heap.size w w') : Cur w' B g := h.keep hb.size hb.block
theorem Dr.below {W w w' : World} {g : Nat} (h : Dr W g w) (hb : Below w.heap.size w w') : Dr W g w' := ⟨h.1.trans (hb.mono h.1.size), h.2.below hb⟩
theorem Dr.alloc {W w : World} {g : Nat} (h : Dr W g w) (o : Obj) : Dr W g (w.alloc o) := h.below ((Below.refl _ _).alloc (Nat.le_refl _) o)
theorem Dr.drew {W w : World} {g : Nat} (h : Dr W g w) : Dr W g w.drew := h.below ((Below.refl _ _).drew)
theorem below_drewD {B : Nat} {a w : World} (h : Below B a w) (n : Nat) : Below B a (w.drewN n) := ⟨h.os, h.tape, h.output, h.size, h.block⟩
theorem Dr.drewN {W w : World} {g : Nat} (h : Dr W g w) (n : Nat) : Dr W g (w.drewN n) := h.below (below_drewD (Below.refl _ _) n)

/-- what a step of the cursor leaves -/
def Stp (W : World) (g : Nat) (w w' : World) : Prop := Dr W g w' ∧ w.grownBy w' (some g)
theorem Stp.trans {W w w' w'' : World} {g : Nat} (h : Stp W g w w') (k : Stp W g w' w'') : Stp W g w w'' :=
  ⟨k.1, k.2.os.trans h.2.os, k.2.tape.trans h.2.tape, k.2.output.trans h.2.output, Nat.le_trans h.2.size k.2.size, fun i hi hne => (k.2.block i (Nat.lt_of_lt_of_le hi h.2.size) hne).trans (h.2.block i hi hne)⟩
theorem Stp.refl {W w : World} {g : Nat} (h : Dr W g w) : Stp W g w w := ⟨h, World.grownBy.refl _ _⟩
theorem Stp.cell {W w w' : World} {g : Nat} (h : Stp W g w w') {b o : Nat} (hb : b < w.heap.size) (hg : b ≠ g) : w'.cell? ⟨b, o, none⟩ = w.cell? ⟨b, o, none⟩ :=
  World.cell?_of_block (h.2.block b hb (fun e => hg (Option.some.inj e)))

theorem RdB.set {w : World} {B n g k : Nat} {A : Option Addr} {v : Value} (h : RdB w B A n) (hg : B ≤ g) : RdB (w.setCell ⟨g, k, none⟩ v) B A n :=
  h.keep fun p hp => World.cell?_setCell_other _ _ _ _ (fun e => by rw [← e] at hp; simp only at hp; omega)

/-- a store into the cursor's mix or place -/
theorem grown_set {a w : World} {g k : Nat} (h : a.grownBy w (some g)) (v : Value) : a.grownBy (w.setCell ⟨g, k, none⟩ v) (some g) :=
  ⟨h.os, h.tape, h.output, by simpa [World.setCell] using h.size, fun i hi hne => (Below.heap_setCell _ _ _ _ (fun e => hne (by rw [e]))).trans (h.block i hi hne)⟩
theorem Stp.mix {W w0 w : World} {g : Nat} (hs : Stp W g w0 w) (h' : Int) : Stp W g w0 (w.setCell ⟨g, 2, none⟩ (.int .i64 h')) := by
  obtain ⟨⟨hb, hB, hg, A, n, c, i, h, hn, i0, i1, hr, c0, c1, c2, f0, f1, f2⟩, hgr⟩ := hs
  refine ⟨⟨hb.setCell hB _, hB, by simpa [World.setCell] using hg, A, n, c, i, h', hn, i0, i1, hr.set hB, ?_, ?_, World.cell?_setCell_same _ _ _ c2, ?_, ?_, ?_⟩, grown_set hgr _⟩
  · rw [World.cell?_setCell_other _ _ _ _ (by intro e; injection e; omega)]
    exact c0
  · rw [World.cell?_setCell_other _ _ _ _ (by intro e; injection e; omega)]
    exact c1
  · rw [World.frozen?_setCell]
    exact f0
  · rw [World.frozen?_setCell]
    exact f1
  · rw [World.frozen?_setCell]
    exact f2
theorem Stp.place {W w0 w : World} {g : Nat} {A : Option Addr} {n c : Nat} (hs : Stp W g w0 w) (h0 : w.cell? ⟨g, 0, none⟩ = some (.slice A n c)) (i' : Int) (i0' : 0 ≤ i') (i1' : i' ≤ n) : Stp W g w0 (w.setCell ⟨g, 1, none⟩ (.int .i64 i')) := by
  obtain ⟨⟨hb, hB, hg, A', n', c', i, h, hn, i0, i1, hr, c0, c1, c2, f0, f1, f2⟩, hgr⟩ := hs
  rw [c0] at h0
  injection h0 with h0
  injection h0 with hA hn' hc
  subst hA hn' hc
  refine ⟨⟨hb.setCell hB _, hB, by simpa [World.setCell] using hg, A', n', c', i', h, hn, i0', i1', hr.set hB, ?_, World.cell?_setCell_same _ _ _ c1, ?_, ?_, ?_, ?_⟩, grown_set hgr _⟩
  · rw [World.cell?_setCell_other _ _ _ _ (by intro e; injection e; omega)]
    exact c0
  · rw [World.cell?_setCell_other _ _ _ _ (by intro e; injection e; omega)]
    exact c2
  · rw [World.frozen?_setCell]
    exact f0
  · rw [World.frozen?_setCell]
    exact f1
  · rw [World.frozen?_setCell]
    exact f2
theorem Stp.drew {W w0 w : World} {g : Nat} (hs : Stp W g w0 w) : Stp W g w0 w.drew := ⟨hs.1.drew, hs.2.os, hs.2.tape, hs.2.output, hs.2.size, hs.2.block⟩
theorem Stp.drewN {W w0 w : World} {g : Nat} (hs : Stp W g w0 w) (n : Nat) : Stp W g w0 (w.drewN n) := ⟨hs.1.drewN n, hs.2.os, hs.2.tape, hs.2.output, hs.2.size, hs.2.block⟩
theorem Stp.alloc {W w0 w : World} {g : Nat} (hs : Stp W g w0 w) (o : Obj) : Stp W g w0 (w.alloc o) :=
  ⟨hs.1.alloc o, hs.2.os, hs.2.tape, hs.2.output, Nat.le_trans hs.2.size (by simp), fun i hi hne => (Below.heap_alloc _ _ _ (Nat.lt_of_lt_of_le hi hs.2.size)).trans (hs.2.block i hi hne)⟩
theorem Stp.below {W w0 w w' : World} {g : Nat} (hs : Stp W g w0 w) (hb : Below w.heap.size w w') : Stp W g w0 w' :=
  ⟨hs.1.below hb, hb.os.trans hs.2.os, hb.tape.trans hs.2.tape, hb.output.trans hs.2.output, Nat.le_trans hs.2.size hb.size, fun i hi hne => (hb.block i (Nat.lt_of_lt_of_le hi hs.2.size)).trans (hs.2.block i hi hne)⟩

theorem l1New_any (A : Option Addr) (n c : Nat) (W w : World) (hb : Below W.heap.size W w) (hn : (n : Int) ≤ 1048576) (hr : RdB W W.heap.size A n) :
    Calls Try.prog 84 #[.slice A n c] w fun e w' => ∃ g, e = .returned (.pointer (some ⟨g, 0, none⟩)) ∧ Dr W g w' ∧ Below w.heap.size w w' ∧ w.heap.size ≤ g := by
  have ka := Pl.i64_and30
  have HR := Lib.hid hr
  have hrw : RdB w W.heap.size A n := hr.keep (fun p hp => hb.cell hp)
  have HN := Lib.hid hn
  have HC : ∀ h : Int, Cur (w.alloc (.cells #[.slice A n c, .int .i64 0, .int .i64 h] 114)) W.heap.size w.heap.size := fun h =>
    ⟨hb.size, by simp, A, n, c, 0, h, hn, by omega, by omega, hr.keep (fun p hp => ((hb.alloc hb.size _).cell hp)), by simp, by simp, by simp, by simp, by simp, by simp⟩
  have HC := Lib.hid HC
  have hn2 : n ≤ 9223372036854775807 := by omega
  clear hn
  go_enter Try.func84, Try.ntmps84
  go_wp2
  go_loop [3, 4] (fun h u => ∃ (j : Nat) (q : Int), j ≤ n ∧ j ≤ 4000 ∧ u = .int .i64 j ∧ h = .int .i64 q) (fun _ u => n - (intOf u).toNat)
  case atStart => exact ⟨0, _, Nat.zero_le _, Nat.zero_le _, rfl, rfl⟩
  case round =>
    obtain ⟨j, q, hj, hj2, rfl, rfl⟩ := hrel
    by_cases hlt : j < n
    · by_cases hlt2 : j < 4000
      · have hd2 := decide_eq_true (show (j : Int) < 4000 by omega)
        have HJ := Lib.hid hlt2
        clear hlt2 hj2
        obtain ⟨b, off, rfl, hbb, hc⟩ := hrw (by omega)
        obtain ⟨x, x0, x1, hx⟩ := hc j hlt
        clear hc hrw hr
        go_wp2
        go_round
        case rel => exact ⟨j + 1, _, by omega, by have := HJ.out; omega, by go_num, rfl⟩
        case measure => simp [intOf]; omega
      · have hd2 := decide_eq_false (show ¬ (j : Int) < 4000 by omega)
        clear hr hrw hlt2 hj2
        go_wp2
        go_ret
        exact ⟨_, rfl, ⟨hb.alloc hb.size _, HC.out _⟩, (Below.refl _ _).alloc (Nat.le_refl _) _, Nat.le_refl _⟩
    · clear hr hrw hj2
      go_wp2
      go_ret
      exact ⟨_, rfl, ⟨hb.alloc hb.size _, HC.out _⟩, (Below.refl _ _).alloc (Nat.le_refl _) _, Nat.le_refl _⟩

theorem l1Byte_any (W w : World) (g : Nat) (hd : Dr W g w) :
    Calls Try.prog 109 #[.pointer (some ⟨g, 0, none⟩)] w fun e w' => ∃ x : Int, 0 ≤ x ∧ x < 256 ∧ e = .returned (.int .i64 x) ∧ Stp W g w w' := by
  obtain ⟨hbel, hB, hg, A, n, c, i, h, hn, i0, i1, hr, c0, c1, c2, f0, f1, f2⟩ := hd
  have ka := Pl.i64_and255
  have HS := Lib.hid (Stp.refl (W := W) (g := g) (w := w) ⟨hbel, hB, hg, A, n, c, i, h, hn, i0, i1, hr, c0, c1, c2, f0, f1, f2⟩)
  have HC0 := Lib.hid (fun h' : Int => (World.cell?_setCell_other w ⟨g, 2, none⟩ ⟨g, 0, none⟩ (.int .i64 h') (by intro e; injection e; omega)).trans c0)
  clear hbel
  by_cases hlt : i < n
  · have hd1 := decide_eq_true hlt
    obtain ⟨j, rfl⟩ : ∃ j : Nat, i = j := ⟨i.toNat, by omega⟩
    obtain ⟨b, off, rfl, hbb, hc⟩ := hr (by omega)
    obtain ⟨x, x0, x1, hx⟩ := hc j (by omega)
    have hne : ¬ b = g := by omega
    have hne2 : ¬ g = b := by omega
    clear hc hr
    go_enter Try.func109, Try.ntmps109
    go_wp2_with fail
    go_region
    go_wp2_with fail
    go_region
    go_wp2_with fail
    go_region
    go_wp2
    go_ret
    refine ⟨_, by omega, by omega, rfl, ?_⟩
    exact (((Stp.place (HS.out.mix _) (HC0.out _) _ (by omega) (by omega)).drew).drew).drew
  · have hd1 := decide_eq_false hlt
    clear hr
    go_enter Try.func109, Try.ntmps109
    go_wp2_with fail
    go_region
    go_wp2_with fail
    go_region
    go_wp2
    go_ret
    refine ⟨_, by omega, by omega, rfl, ?_⟩
    exact ((HS.out.mix _).drew).drew

theorem l1Below_any (W w : World) (g : Nat) (n : Int) (h0 : 1 ≤ n) (h1 : n ≤ 256) (hd : Dr W g w) :
    Calls Try.prog 86 #[.pointer (some ⟨g, 0, none⟩), .int .i64 n] w fun e w' => ∃ x : Int, 0 ≤ x ∧ x < n ∧ e = .returned (.int .i64 x) ∧ Stp W g w w' := by
  have hd1 := decide_eq_false (show ¬ n ≤ 0 by omega)
  have hd2 := decide_eq_true h1
  have hn0 : ¬ n = 0 := by omega
  have HD := Lib.hid hd
  clear hd
  go_enter Try.func86, Try.ntmps86
  go_wp2_with fail
  refine (l1Byte_any _ _ _ HD.out).mono ?_
  rintro e w1 ⟨x, x0, x1, rfl, hs⟩
  have hm : x.tmod n = x % n := Int.tmod_eq_emod_of_nonneg x0
  have m0 := Int.emod_nonneg x hn0
  have m1 := Int.emod_lt_of_pos x (show 0 < n by omega)
  generalize x % n = y at hm m0 m1
  go_wp2
  go_ret
  exact ⟨y, m0, m1, by first | rfl | (rw [hm]), hs⟩
theorem l1Below_big (W w : World) (g : Nat) (n : Int) (h0 : 256 < n) (h1 : n ≤ 4294967296) (hd : Dr W g w) :
    Calls Try.prog 86 #[.pointer (some ⟨g, 0, none⟩), .int .i64 n] w fun e w' => ∃ x : Int, 0 ≤ x ∧ x < n ∧ e = .returned (.int .i64 x) ∧ Stp W g w w' := by
  have hd1 := decide_eq_false (show ¬ n ≤ 0 by omega)
  have hd2 := decide_eq_false (show ¬ n ≤ 256 by omega)
  have hn0 : ¬ n = 0 := by omega
  have HD := Lib.hid hd
  clear hd
  go_enter Try.func86, Try.ntmps86
  go_wp2_with fail
  refine (l1Byte_any _ _ _ HD.out).mono ?_
  rintro e w1 ⟨x, x0, x1, rfl, hs1⟩
  have HS1 := Lib.hid hs1
  clear hs1
  go_wp2_with fail
  refine (l1Byte_any _ _ _ HS1.out.1).mono ?_
  rintro e w2 ⟨y, y0, y1, rfl, hs⟩
  have HS2 := Lib.hid (HS1.out.trans hs)
  clear hs HS1
  go_wp2_with fail
  refine (l1Byte_any _ _ _ HS2.out.1).mono ?_
  rintro e w3 ⟨z, z0, z1, rfl, hs⟩
  have HS3 := Lib.hid (HS2.out.trans hs)
  clear hs HS2
  go_wp2_with fail
  refine (l1Byte_any _ _ _ HS3.out.1).mono ?_
  rintro e w4 ⟨u, u0, u1, rfl, hs⟩
  have HS4 := Lib.hid (HS3.out.trans hs)
  clear hs HS3
  obtain ⟨t, ht⟩ : ∃ t, t = x * 16777216 + y * 65536 + z * 256 + u := ⟨_, rfl⟩
  have t0 : 0 ≤ t := by omega
  have t1 : t < 4294967296 := by omega
  have hm : (x * 16777216 + y * 65536 + z * 256 + u).tmod n = t % n := by rw [← ht]; exact Int.tmod_eq_emod_of_nonneg t0
  have m0 := Int.emod_nonneg t hn0
  have m1 := Int.emod_lt_of_pos t (show 0 < n by omega)
  generalize t % n = q at hm m0 m1
  clear ht t0 t1
  go_wp2
  go_ret
  exact ⟨q, m0, m1, by first | rfl | (rw [hm]), HS4.out⟩

/-- a row of values at block b, from its beginning -/
def Lst (w : World) (b : Nat) (P : Value → Prop) (m : Nat) : Prop := b < w.heap.size ∧ ∀ j, j < m → ∃ v, P v ∧ w.cell? ⟨b, j, none⟩ = some v
theorem Lst.new {w : World} {t : TypeId} {P : Value → Prop} (vs : Array Value) (h : ∀ v ∈ vs, P v) : Lst (w.alloc (.cells vs t)) w.heap.size P vs.size :=
  ⟨by simp, fun j hj => ⟨vs[j], h _ (Array.getElem_mem hj), by simp [hj]⟩⟩

theorem l1PickInt_any (W w : World) (g b m : Nat) (P : Int → Prop) (hd : Dr W g w) (h0 : 1 ≤ m) (h1 : m ≤ 256) (hne : b ≠ g) (hl : Lst w b (fun v => ∃ z, P z ∧ v = .int .i64 z) m) :
    Calls Try.prog 110 #[.pointer (some ⟨g, 0, none⟩), .slice (some ⟨b, 0, none⟩) m m] w fun e w' => ∃ z : Int, P z ∧ e = .returned (.int .i64 z) ∧ Stp W g w w' := by
  have HL := Lib.hid hl
  have HD := Lib.hid hd
  clear hl hd
  go_enter Try.func110, Try.ntmps110
  go_wp2_with fail
  refine (l1Below_any _ _ _ _ (by omega) (by omega) HD.out).mono ?_
  rintro e w1 ⟨x, x0, x1, rfl, hs⟩
  obtain ⟨j, rfl⟩ : ∃ j : Nat, x = j := ⟨x.toNat, by omega⟩
  obtain ⟨v, ⟨z, hz, rfl⟩, hc⟩ := HL.out.2 j (by omega)
  rw [← hs.cell HL.out.1 hne] at hc
  have HS := Lib.hid hs
  have HZ := Lib.hid hz
  clear hs hz
  go_wp2
  go_ret
  exact ⟨z, HZ.out, rfl, HS.out⟩

end Go.Proofs.Ytajafmdeencohaa
