/-
  Contracts of the draws of fractions: l1Once, l3Draw.
-/
import Derived.Test.YtajafmdeencohaaDraw
import Derived.Test.YtajafmdeencohaaBox
import Derived.Test.YtajafmdeencohaaRat2
namespace Go.Proofs.Ytajafmdeencohaa
open Go.RowKit
attribute [local go_sem ↓] Go.wp_at_zero Go.wp_at_succ

theorem Lst.new' {w : World} {b : Nat} {t : TypeId} {P : Value → Prop} (vs : Array Value) (hb : b = w.heap.size) (h : ∀ v ∈ vs, P v) : Lst (w.alloc (.cells vs t)) b P vs.size := by
  subst hb
  exact Lst.new vs h
theorem Box.stp {W w w' : World} {g k : Nat} {x y : Int} (h : Box w k x y) (hs : Stp W g w w') (hk : k ≠ g) : Box w' k x y := by
  obtain ⟨h0, h1, f0, f1, hl⟩ := h
  have hf : ∀ o, w'.frozen? ⟨k, o, none⟩ = w.frozen? ⟨k, o, none⟩ := fun o => World.frozen?_of_block (hs.2.block k hl (fun e => hk (Option.some.inj e)))
  exact ⟨(hs.cell hl hk).trans h0, (hs.cell hl hk).trans h1, (hf 0).trans f0, (hf 1).trans f1, Nat.lt_of_lt_of_le hl hs.2.size⟩
theorem Box.new (w : World) (x y : Int) (t : TypeId) : Box (w.alloc (.cells #[.int .i64 x, .int .i64 y] t)) w.heap.size x y := ⟨by simp, by simp, by simp, by simp, by simp⟩
theorem Cur.keep' {w w' : World} {B g : Nat} (h : Cur w B g) (hs : w.heap.size ≤ w'.heap.size) (hk : ∀ i, i < B ∨ i = g → w'.heap[i]? = w.heap[i]?) : Cur w' B g := by
  obtain ⟨hB, hg, A, n, c, i, h, hn, i0, i1, hr, c0, c1, c2, f0, f1, f2⟩ := h
  have hc : ∀ p : Addr, p.block < B ∨ p.block = g → w'.cell? p = w.cell? p := fun p hp => World.cell?_of_block (hk p.block hp)
  have hf : ∀ p : Addr, p.block < B ∨ p.block = g → w'.frozen? p = w.frozen? p := fun p hp => World.frozen?_of_block (hk p.block hp)
  exact ⟨hB, by omega, A, n, c, i, h, hn, i0, i1, hr.keep (fun p hp => hc p (Or.inl hp)), (hc ⟨g, 0, none⟩ (Or.inr rfl)).trans c0, (hc ⟨g, 1, none⟩ (Or.inr rfl)).trans c1, (hc ⟨g, 2, none⟩ (Or.inr rfl)).trans c2, (hf ⟨g, 0, none⟩ (Or.inr rfl)).trans f0, (hf ⟨g, 1, none⟩ (Or.inr rfl)).trans f1, (hf ⟨g, 2, none⟩ (Or.inr rfl)).trans f2⟩
theorem Stp.box {W w0 w : World} {g k : Nat} (hs : Stp W g w0 w) (hne : k ≠ g) (hW0 : w0.heap.size ≤ k) (hW : W.heap.size ≤ k) (x y : Value) : Stp W g w0 ((w.setCell ⟨k, 0, none⟩ x).setCell ⟨k, 1, none⟩ y) := by
  have hsz : ((w.setCell ⟨k, 0, none⟩ x).setCell ⟨k, 1, none⟩ y).heap.size = w.heap.size := by simp [World.setCell]
  have hbl : ∀ i, i ≠ k → ((w.setCell ⟨k, 0, none⟩ x).setCell ⟨k, 1, none⟩ y).heap[i]? = w.heap[i]? := fun i hi =>
    (Below.heap_setCell _ _ _ _ hi).trans (Below.heap_setCell _ _ _ _ hi)
  have hg := hs.1.2.1
  exact ⟨⟨(hs.1.1.setCell hW _).setCell hW _, hs.1.2.keep' (by rw [hsz]; exact Nat.le_refl _) (fun i hi => hbl i (by omega))⟩, hs.2.os, hs.2.tape, hs.2.output, by rw [hsz]; exact hs.2.size, fun i hi hne' => (hbl i (by omega)).trans (hs.2.block i hi hne')⟩
theorem Dr.lt {W w : World} {g : Nat} (h : Dr W g w) : g < w.heap.size := h.2.2.1

theorem l1Once_any (W w : World) (g : Nat) (n : Int) (h0 : 1 ≤ n) (h1 : n ≤ 256) (hd : Dr W g w) :
    Calls Try.prog 117 #[.pointer (some ⟨g, 0, none⟩), .int .i64 n] w fun e w' => ∃ k : Bool, e = .returned (.bool k) ∧ Stp W g w w' := by
  have HD := Lib.hid hd
  clear hd
  go_enter Try.func117, Try.ntmps117
  go_wp2_with fail
  refine (l1Below_any _ _ _ _ h0 h1 HD.out).mono ?_
  rintro e w1 ⟨x, x0, x1, rfl, hs⟩
  go_wp2
  go_ret
  exact ⟨_, rfl, hs⟩

end Go.Proofs.Ytajafmdeencohaa
