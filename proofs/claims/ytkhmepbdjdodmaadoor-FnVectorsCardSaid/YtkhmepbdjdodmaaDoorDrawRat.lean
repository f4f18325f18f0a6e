/-
  Contracts of the draws of fractions: l1Once, l3Draw.
-/
import Derived.Test.YtkhmepbdjdodmaaDoorDraw
import Derived.Test.YtkhmepbdjdodmaaDoorBox
import Derived.Test.YtkhmepbdjdodmaaDoorRat2
namespace Go.Proofs.YtkhmepbdjdodmaaDoor
open Go.RowKit
attribute [local go_sem ↓] Go.wp_at_zero Go.wp_at_succ

theorem Lst.new' {w : World} {b : Nat} {t : TypeId} {P : Value → Prop} (vs : Array Value) (hb : b = w.heap.size) (h : ∀ v ∈ vs, P v) : Lst (w.alloc (.cells vs t)) b P vs.size := by
  subst hb
  exact Lst.new vs h
theorem Box.stp {W w w' : World} {g k : Nat} {x y : Int} (h : Box w k x y) (hs : Stp W g w w') (hk : k ≠ g) : Box w' k x y := by
  obtain ⟨h0, h1, f0, f1, hl⟩ := h
  have hf : ∀ o, w'.frozen? ⟨k, o, none⟩ = w.frozen? ⟨k, o, none⟩ := fun o => World.frozen?_of_block (hs.2.block k hl (fun e => hk (Option.some.inj e)))
  exact ⟨(hs.cell hl hk).trans h0, (hs.cell hl hk).trans h1, (hf 0).trans f0, (hf 1).trans f1, Nat.lt_of_lt_of_le hl hs.2.size⟩
theorem Box.new (w : World) (x y : Int) (t : TypeId) : Box (w.alloc (.cells #[.int .i64 x, .int .i64 y] t)) w.heap.size x y := ⟨by simp, by simp, by simp, by simp, by simp⟩
theorem Cur.keep' {w w' : World} {B g : Nat} (h : Cur w B g) (hs : w.heap.size ≤ w'.heap.size) (hk : ∀ i, i < B ∨ i = g → w'.heap[i]? = w.heap[i]?) : Cur w' B g := by
  obtain ⟨hB, hg, A, n, c, i, h, hn, i0, i1, hr, c0, c1, c2, f0, f1, f2⟩ := h
  have hc : ∀ p : Addr, p.block < B ∨ p.block = g → w'.cell? p = w.cell? p := fun p hp => World.cell?_of_block (hk p.block hp)
  have hf : ∀ p : Addr, p.block < B ∨ p.block = g → w'.frozen? p = w.frozen? p := fun p hp => World.frozen?_of_block (hk p.block hp)
  exact ⟨hB, by omega, A, n, c, i, h, hn, i0, i1, hr.keep (fun p hp => hc p (Or.inl hp)), (hc ⟨g, 0, none⟩ (Or.inr rfl)).trans c0, (hc ⟨g, 1, none⟩ (Or.inr rfl)).trans c1, (hc ⟨g, 2, none⟩ (Or.inr rfl)).trans c2, (hf ⟨g, 0, none⟩ (Or.inr rfl)).trans f0, (hf ⟨g, 1, none⟩ (Or.inr rfl)).trans f1, (hf ⟨g, 2, none⟩ (Or.inr rfl)).trans f2⟩
theorem Stp.box {W w0 w : World} {g k : Nat} (hs : Stp W g w0 w) (hne : k ≠ g) (hW0 : w0.heap.size ≤ k) (hW : W.heap.size ≤ k) (x y : Value) : Stp W g w0 ((w.setCell ⟨k, 0, none⟩ x).setCell ⟨k, 1, none⟩ y) := by
  have hsz : ((w.setCell ⟨k, 0, none⟩ x).setCell ⟨k, 1, none⟩ y).heap.size = w.heap.size := by simp [World.setCell]
  have hbl : ∀ i, i ≠ k → ((w.setCell ⟨k, 0, none⟩ x).setCell ⟨k, 1, none⟩ y).heap[i]? = w.heap[i]? := fun i hi =>
    (Below.heap_setCell _ _ _ _ hi).trans (Below.heap_setCell _ _ _ _ hi)
  have hg := hs.1.2.1
  exact ⟨⟨(hs.1.1.setCell hW _).setCell hW _, hs.1.2.keep' (by rw [hsz]; exact Nat.le_refl _) (fun i hi => hbl i (by omega))⟩, hs.2.os, hs.2.tape, hs.2.output, by rw [hsz]; exact hs.2.size, fun i hi hne' => (hbl i (by omega)).trans (hs.2.block i hi hne')⟩
theorem Dr.lt {W w : World} {g : Nat} (h : Dr W g w) : g < w.heap.size := h.2.2.1

theorem l1Once_any (W w : World) (g : Nat) (n : Int) (h0 : 1 ≤ n) (h1 : n ≤ 256) (hd : Dr W g w) :
    Calls Tryd.prog 61 #[.pointer (some ⟨g, 0, none⟩), .int .i64 n] w fun e w' => ∃ k : Bool, e = .returned (.bool k) ∧ Stp W g w w' := by
  have HD := Lib.hid hd
  clear hd
  go_enter Tryd.func61, Tryd.ntmps61
  go_wp2_with fail
  refine (l1Below_any _ _ _ _ h0 h1 HD.out).mono ?_
  rintro e w1 ⟨x, x0, x1, rfl, hs⟩
  go_wp2
  go_ret
  exact ⟨_, rfl, hs⟩

theorem l3Draw_any (W w : World) (g : Nat) (hd : Dr W g w) :
    Calls Tryd.prog 66 #[.pointer (some ⟨g, 0, none⟩)] w fun e w' => ∃ a b : Int, e = .returned (.agg #[.int .i64 a, .int .i64 b]) ∧ Stp W g w w' := by
  have HD := Lib.hid hd
  have hg := hd.lt
  clear hd
  go_enter Tryd.func66, Tryd.ntmps66
  go_wp2_with fail
  refine (l1PickInt_any W _ g _ 9 (fun _ => True) ((HD.out.alloc _).alloc _) (by decide) (by decide) (by have := HD.out.lt; simp; omega) (Lst.new' _ (by first | rfl | (simp; done)) (by intro v hv; simp at hv; rcases hv with rfl | rfl | rfl | rfl | rfl | rfl | rfl | rfl | rfl <;> exact ⟨_, trivial, rfl⟩))).mono ?_
  rintro e w1 ⟨z1, _, rfl, hs⟩
  have HS1 := Lib.hid ((((Stp.refl HD.out).alloc _).alloc _).trans hs)
  have X1 : Box w1 w.heap.size 0 0 := ((Box.new w 0 0 _).alloc _).stp hs (by omega)
  have HD1 := Lib.hid hs.1
  clear hs
  go_wp2_with fail
  refine (l1PickInt_any W _ g _ 7 (fun _ => True) (HD1.out.alloc _) (by decide) (by decide) (by have := HD1.out.lt; simp; omega) (Lst.new' _ (by first | rfl | (simp; done)) (by intro v hv; simp at hv; rcases hv with rfl | rfl | rfl | rfl | rfl | rfl <;> exact ⟨_, trivial, rfl⟩))).mono ?_
  rintro e w2 ⟨z2, _, rfl, hs⟩
  have HS2 := Lib.hid ((HS1.out.alloc _).trans hs)
  have X2 := (X1.alloc _).stp hs (by omega)
  clear hs X1 HS1
  go_wp2_with fail
  refine (sratOf_any _ _ _).mono ?_
  rintro e w3 ⟨rfl, hb⟩
  have X3 := X2.below hb
  have HS3 := Lib.hid (HS2.out.below hb)
  clear hb HS2 X2
  generalize Pl.rat z1 z2 = rr
  obtain ⟨ra, rb, rk⟩ := rr
  simp only
  go_wp2_with fail
  refine (l1Once_any W _ g 12 (by decide) (by decide) (HS3.out.1.alloc _)).mono ?_
  rintro e w4 ⟨k, rfl, hs⟩
  have hz3 := X3.2.2.2.2
  have hg3 := HS3.out.1.lt
  have X4 := (X3.alloc _).stp hs (by omega)
  have Y4 : Box w4 w3.heap.size ra rb := (Box.new w3 ra rb _).stp hs (by omega)
  have HS4 := Lib.hid ((HS3.out.alloc _).trans hs)
  clear hs HS3 X3
  have hg4 := HS4.out.1.lt
  cases k
  · obtain ⟨q0, q1, q2, q3, q4⟩ := id X4
    obtain ⟨r0, r1, r2, r3, r4⟩ := id Y4
    have bx0 := (Box.store X4 ra rb).1
    have bx1 := (Box.store X4 ra rb).2.1
    go_wp2
    refine bodyPost_ret (v := .agg #[.int .i64 ra, .int .i64 rb]) (by simp [results, Tryd.results66, go_sem, bx0, bx1]) rfl ⟨_, _, rfl, ?_⟩
    exact HS4.out.box (by omega) (Nat.le_refl _) HD.out.1.size _ _
  · obtain ⟨q0, q1, q2, q3, q4⟩ := id X4
    go_wp2_with fail
    refine (l1PickInt_any W _ g _ 3 (fun _ => True) (HS4.out.1.alloc _) (by decide) (by decide) (by have := HS4.out.1.lt; simp; omega) (Lst.new' _ (by first | rfl | (simp; done)) (by intro v hv; simp at hv; rcases hv with rfl | rfl | rfl <;> exact ⟨_, trivial, rfl⟩))).mono ?_
    rintro e w5 ⟨z5, _, rfl, hs⟩
    have X5 := (X4.alloc _).stp hs (by omega)
    have HS5 := Lib.hid ((HS4.out.alloc _).trans hs)
    clear hs HS4 X4 Y4 q0 q1 q2 q3 q4
    go_wp2_with fail
    refine (l1PickInt_any W _ g _ 4 (fun _ => True) (HS5.out.1.alloc _) (by decide) (by decide) (by have := HS5.out.1.lt; simp; omega) (Lst.new' _ (by first | rfl | (simp; done)) (by intro v hv; simp at hv; rcases hv with rfl | rfl | rfl | rfl <;> exact ⟨_, trivial, rfl⟩))).mono ?_
    rintro e w6 ⟨z6, _, rfl, hs⟩
    have X6 := (X5.alloc _).stp hs (by omega)
    have HS6 := Lib.hid ((HS5.out.alloc _).trans hs)
    clear hs HS5 X5
    obtain ⟨q0, q1, q2, q3, q4⟩ := id X6
    have bx0 := (Box.store X6 z5 z6).1
    have bx1 := (Box.store X6 z5 z6).2.1
    go_wp2
    refine bodyPost_ret (v := .agg #[.int .i64 z5, .int .i64 z6]) (by simp [results, Tryd.results66, go_sem, bx0, bx1]) rfl ⟨_, _, rfl, ?_⟩
    exact HS6.out.box (by omega) (Nat.le_refl _) HD.out.1.size _ _

end Go.Proofs.YtkhmepbdjdodmaaDoor
