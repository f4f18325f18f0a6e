/-
  Contracts of the draws of two fractions and of a fraction's parts: l3Two, DrawAddRat, DrawRatOf.
-/
import Derived.Test.YtbjlkbpjmjpdkaaDrawRat
namespace Go.Proofs.Ytbjlkbpjmjpdkaa
open Go.RowKit
attribute [local go_sem ↓] Go.wp_at_zero Go.wp_at_succ

/-- what a row of two cells wants for a store -/
def Liv (w : World) (k : Nat) : Prop := ((w.cell? ⟨k, 0, none⟩).isSome = true ∧ (w.cell? ⟨k, 1, none⟩).isSome = true) ∧ w.frozen? ⟨k, 0, none⟩ = false ∧ w.frozen? ⟨k, 1, none⟩ = false
theorem Liv.same {w w' : World} {k : Nat} (h : Liv w k) (hk : w'.heap[k]? = w.heap[k]?) : Liv w' k := by
  have hc : ∀ o, w'.cell? ⟨k, o, none⟩ = w.cell? ⟨k, o, none⟩ := fun o => World.cell?_of_block hk
  have hf : ∀ o, w'.frozen? ⟨k, o, none⟩ = w.frozen? ⟨k, o, none⟩ := fun o => World.frozen?_of_block hk
  exact ⟨⟨(hc 0) ▸ h.1.1, (hc 1) ▸ h.1.2⟩, (hf 0).trans h.2.1, (hf 1).trans h.2.2⟩
theorem Box.liv {w : World} {k : Nat} {x y : Int} (h : Box w k x y) : Liv w k := ⟨⟨by rw [h.1]; rfl, by rw [h.2.1]; rfl⟩, h.2.2.1, h.2.2.2.1⟩
/-- from w2 on: the cursor's block g and the two results' blocks t2, t3 may turn -/
structure Two (W : World) (g t2 t3 : Nat) (w2 w' : World) : Prop where
  dr : Dr W g w'
  os : w'.os = w2.os
  tape : w'.tape = w2.tape
  output : w'.output = w2.output
  size : w2.heap.size ≤ w'.heap.size
  same : ∀ i, i < w2.heap.size → i ≠ g → i ≠ t2 → i ≠ t3 → w'.heap[i]? = w2.heap[i]?
  l2 : Liv w' t2
  l3 : Liv w' t3
  h2 : t2 < w2.heap.size ∧ t2 ≠ g ∧ W.heap.size ≤ t2
  h3 : t3 < w2.heap.size ∧ t3 ≠ g ∧ W.heap.size ≤ t3
section
variable {W w2 w' : World} {g t2 t3 : Nat}
theorem Two.refl (hd : Dr W g w2) (l2 : Liv w2 t2) (l3 : Liv w2 t3) (h2 : t2 < w2.heap.size ∧ t2 ≠ g ∧ W.heap.size ≤ t2) (h3 : t3 < w2.heap.size ∧ t3 ≠ g ∧ W.heap.size ≤ t3) : Two W g t2 t3 w2 w2 :=
  ⟨hd, rfl, rfl, rfl, Nat.le_refl _, fun _ _ _ _ _ => rfl, l2, l3, h2, h3⟩
theorem Two.drew (h : Two W g t2 t3 w2 w') : Two W g t2 t3 w2 w'.drew := ⟨h.dr.drew, h.os, h.tape, h.output, h.size, h.same, h.l2, h.l3, h.h2, h.h3⟩
theorem Two.drewN (h : Two W g t2 t3 w2 w') (n : Nat) : Two W g t2 t3 w2 (w'.drewN n) := ⟨h.dr.drewN n, h.os, h.tape, h.output, h.size, h.same, h.l2, h.l3, h.h2, h.h3⟩
theorem Two.stp {w'' : World} (h : Two W g t2 t3 w2 w') (hs : Stp W g w' w'') : Two W g t2 t3 w2 w'' :=
  ⟨hs.1, hs.2.os.trans h.os, hs.2.tape.trans h.tape, hs.2.output.trans h.output, Nat.le_trans h.size hs.2.size, fun i hi h1 h2 h3 => (hs.2.block i (Nat.lt_of_lt_of_le hi h.size) (fun e => h1 (Option.some.inj e))).trans (h.same i hi h1 h2 h3),
   h.l2.same (hs.2.block t2 (Nat.lt_of_lt_of_le h.h2.1 h.size) (fun e => h.h2.2.1 (Option.some.inj e))), h.l3.same (hs.2.block t3 (Nat.lt_of_lt_of_le h.h3.1 h.size) (fun e => h.h3.2.1 (Option.some.inj e))), h.h2, h.h3⟩
theorem set_other {w : World} {k i : Nat} (x y : Value) (hi : i ≠ k) : ((w.setCell ⟨k, 0, none⟩ x).setCell ⟨k, 1, none⟩ y).heap[i]? = w.heap[i]? :=
  (Below.heap_setCell _ _ _ _ hi).trans (Below.heap_setCell _ _ _ _ hi)
theorem set_size {w : World} {k : Nat} (x y : Value) : ((w.setCell ⟨k, 0, none⟩ x).setCell ⟨k, 1, none⟩ y).heap.size = w.heap.size := by simp [World.setCell]
theorem Liv.set {w : World} {k : Nat} (h : Liv w k) (x y : Value) : Liv ((w.setCell ⟨k, 0, none⟩ x).setCell ⟨k, 1, none⟩ y) k := by
  obtain ⟨c0, c1⟩ := set2_cells (X := w) (g := k) (x := x) (y := y) h.1.1 h.1.2
  exact ⟨⟨by rw [c0]; rfl, by rw [c1]; rfl⟩, by rw [World.frozen?_setCell, World.frozen?_setCell]; exact h.2.1, by rw [World.frozen?_setCell, World.frozen?_setCell]; exact h.2.2⟩
theorem Liv.setAny {w : World} {i k : Nat} (h : Liv w i) (x y : Value) : Liv ((w.setCell ⟨k, 0, none⟩ x).setCell ⟨k, 1, none⟩ y) i := by
  by_cases e : i = k
  · subst e
    exact h.set x y
  · exact h.same (set_other x y e)
theorem Two.set2 (h : Two W g t2 t3 w2 w') (x y : Value) : Two W g t2 t3 w2 ((w'.setCell ⟨t2, 0, none⟩ x).setCell ⟨t2, 1, none⟩ y) :=
  ⟨⟨(h.dr.1.setCell h.h2.2.2 _).setCell h.h2.2.2 _, h.dr.2.keep' (by rw [set_size]; exact Nat.le_refl _) (fun i hi => set_other x y (by have := h.h2; omega))⟩, h.os, h.tape, h.output, by rw [set_size]; exact h.size,
   fun i hi h1 h2 h3 => (set_other x y h2).trans (h.same i hi h1 h2 h3), h.l2.setAny x y, h.l3.setAny x y, h.h2, h.h3⟩
theorem Two.set3 (h : Two W g t2 t3 w2 w') (x y : Value) : Two W g t2 t3 w2 ((w'.setCell ⟨t3, 0, none⟩ x).setCell ⟨t3, 1, none⟩ y) :=
  ⟨⟨(h.dr.1.setCell h.h3.2.2 _).setCell h.h3.2.2 _, h.dr.2.keep' (by rw [set_size]; exact Nat.le_refl _) (fun i hi => set_other x y (by have := h.h3; omega))⟩, h.os, h.tape, h.output, by rw [set_size]; exact h.size,
   fun i hi h1 h2 h3 => (set_other x y h3).trans (h.same i hi h1 h2 h3), h.l2.setAny x y, h.l3.setAny x y, h.h2, h.h3⟩
theorem Two.cells (h : Two W g t2 t3 w2 w') {k : Nat} {a b : Int} (hb : Box w2 k a b) (h1 : k ≠ g) (h2 : k ≠ t2) (h3 : k ≠ t3) :
    w'.cell? ⟨k, 0, none⟩ = some (.int .i64 a) ∧ w'.cell? ⟨k, 1, none⟩ = some (.int .i64 b) ∧ (w'.cell? ⟨t2, 0, none⟩).isSome = true ∧ (w'.cell? ⟨t2, 1, none⟩).isSome = true ∧ w'.frozen? ⟨t2, 0, none⟩ = false ∧ w'.frozen? ⟨t2, 1, none⟩ = false ∧
    (w'.cell? ⟨t3, 0, none⟩).isSome = true ∧ (w'.cell? ⟨t3, 1, none⟩).isSome = true ∧ w'.frozen? ⟨t3, 0, none⟩ = false ∧ w'.frozen? ⟨t3, 1, none⟩ = false ∧ t2 < w'.heap.size ∧ t3 < w'.heap.size := by
  have e := h.same k hb.2.2.2.2 h1 h2 h3
  have z := h.size
  exact ⟨(World.cell?_of_block e).trans hb.1, (World.cell?_of_block e).trans hb.2.1, h.l2.1.1, h.l2.1.2, h.l2.2.1, h.l2.2.2, h.l3.1.1, h.l3.1.2, h.l3.2.1, h.l3.2.2, Nat.lt_of_lt_of_le h.h2.1 z, Nat.lt_of_lt_of_le h.h3.1 z⟩
end

set_option maxHeartbeats 2000000 in
theorem l3Two_any (A : Option Addr) (n c : Nat) (w : World) (hn : (n : Int) ≤ 1048576) (hr : RdB w w.heap.size A n) :
    Calls Try.prog 33 #[.slice A n c] w fun e w' => ∃ a b c d : Int, e = .returned (.tuple #[.agg #[.int .i64 a, .int .i64 b], .agg #[.int .i64 c, .int .i64 d]]) ∧ Below w.heap.size w w' := by
  go_enter Try.func33, Try.ntmps33
  go_wp2_with fail
  refine (l1New_any _ _ _ w _ (((Below.refl _ _).alloc (Nat.le_refl _) _).alloc (by simp) _) hn hr).mono ?_
  rintro e w1 ⟨g, rfl, hd, hb, hg⟩
  simp at hg
  have X2 : Box w1 w.heap.size 0 0 := ((Box.new w 0 0 _).alloc _).below hb
  have X3 : Box w1 (w.heap.size + 1) 0 0 := by
    have h := (Box.new (w.alloc _) 0 0 _).below hb
    simpa using h
  have HD1 := Lib.hid hd
  clear hd hb
  go_wp2_with fail
  refine (l3Draw_any _ _ _ HD1.out).mono ?_
  rintro e w2' ⟨a, b, rfl, hs⟩
  have X2 := X2.stp hs (by omega)
  have X3 := X3.stp hs (by omega)
  have HD2 := Lib.hid hs.1
  clear hs HD1
  have z2 := X2.2.2.2.2
  have z3 := X3.2.2.2.2
  have zg := HD2.out.lt
  have z2 := X2.2.2.2.2
  have z3 := X3.2.2.2.2
  have zg := HD2.out.lt
  have Y2 := Lib.hid (((X2.alloc (.cells #[.int .i64 a, .int .i64 b] 25))).below (Below.refl _ _).drew)
  have Y3 := Lib.hid (((X3.alloc (.cells #[.int .i64 a, .int .i64 b] 25))).below (Below.refl _ _).drew)
  have Y5 := Lib.hid ((Box.new w2' a b 25).below (Below.refl _ _).drew)
  have HD3 := Lib.hid ((HD2.out.alloc (.cells #[.int .i64 a, .int .i64 b] 25)).drew)
  clear X2 X3 HD2
  go_upto_region 3 with fail
  go_region_held3 (fun w' => w'.cell? ⟨w2'.heap.size, 0, none⟩ = some (.int .i64 a) ∧ w'.cell? ⟨w2'.heap.size, 1, none⟩ = some (.int .i64 b)) (first | (go_simp; done) | (simp [*]; done) | exact ⟨Y5.out.1, Y5.out.2.1⟩) ((go_at_call 36; refine (l3Draw_any w _ g HD3.out).mono ?_; rintro e wA ⟨c, d, rfl, hs⟩; obtain ⟨k20, k21, k22, k23, k24⟩ := Y2.out.stp hs (by omega); obtain ⟨k30, k31, k32, k33, k34⟩ := Y3.out.stp hs (by omega); obtain ⟨k50, k51, k52, k53, k54⟩ := Y5.out.stp hs (by omega); have HSA := Lib.hid hs; clear hs))
  all_goals
    have f0 := (Box.other (k := w.heap.size + 1) (u := .int .i64 c) (v := .int .i64 d) (Box.store (show Box wA w.heap.size 0 0 from ⟨k20, k21, k22, k23, k24⟩) a b) (by omega))
    have f1 := Box.store (Box.other (k := w.heap.size) (u := .int .i64 a) (v := .int .i64 b) (show Box wA (w.heap.size + 1) 0 0 from ⟨k30, k31, k32, k33, k34⟩) (by omega)) c d
    obtain ⟨f00, f01, _, _, _⟩ := f0
    obtain ⟨f10, f11, _, _, _⟩ := f1
    go_wp2
    refine bodyPost_ret (v := .tuple #[.agg #[.int .i64 a, .int .i64 b], .agg #[.int .i64 c, .int .i64 d]]) (by simp [results, Try.results33, go_sem, f00, f01, f10, f11]) rfl ⟨a, b, c, d, rfl, ?_⟩
    exact (((HSA.out.1.1.setCell (Nat.le_refl _) _).setCell (Nat.le_refl _) _).setCell (Nat.le_succ _) _).setCell (Nat.le_succ _) _

theorem drawAddRat_any (A : Option Addr) (n c : Nat) (w : World) (hn : (n : Int) ≤ 1048576) (hr : RdB w w.heap.size A n) :
    Calls Try.prog 25 #[.slice A n c] w fun e w' => ∃ a b c d : Int, e = .returned (.tuple #[.agg #[.int .i64 a, .int .i64 b], .agg #[.int .i64 c, .int .i64 d]]) ∧ Below w.heap.size w w' := by
  go_enter Try.func25, Try.ntmps25
  go_wp2_with fail
  refine (l3Two_any A n c ((w.alloc (.cells #[.int .i64 0, .int .i64 0] 25)).alloc (.cells #[.int .i64 0, .int .i64 0] 25)) hn (fun hp => by
    obtain ⟨b, off, e, hlt, hc⟩ := hr hp
    refine ⟨b, off, e, by simp; omega, fun j hj => ?_⟩
    obtain ⟨x, x0, x1, hx⟩ := hc j hj
    refine ⟨x, x0, x1, ?_⟩
    rw [World.cell?_alloc_lt _ _ _ (by simp; omega), World.cell?_alloc_lt _ _ _ (by simpa using hlt)]
    exact hx)).mono ?_
  rintro e w1 ⟨a, b, c', d, rfl, hb⟩
  have X2 : Box w1 w.heap.size 0 0 := ((Box.new w 0 0 _).alloc _).below hb
  have X3 : Box w1 (w.heap.size + 1) 0 0 := by
    have h := (Box.new (w.alloc _) 0 0 _).below hb
    simpa using h
  have HB := Lib.hid ((((Below.refl w.heap.size w).alloc (Nat.le_refl _) _).alloc (by simp) _).trans (hb.mono (by simp; omega)))
  clear hb hr
  have f0 := (Box.other (k := w.heap.size + 1) (u := .int .i64 c') (v := .int .i64 d) (Box.store X2 a b) (by omega))
  have f1 := Box.store (Box.other (k := w.heap.size) (u := .int .i64 a) (v := .int .i64 b) X3 (by omega)) c' d
  obtain ⟨k20, k21, k22, k23, k24⟩ := id X2
  obtain ⟨k30, k31, k32, k33, k34⟩ := id X3
  obtain ⟨f00, f01, _, _, _⟩ := f0
  obtain ⟨f10, f11, _, _, _⟩ := f1
  go_wp2
  refine bodyPost_ret (v := .tuple #[.agg #[.int .i64 a, .int .i64 b], .agg #[.int .i64 c', .int .i64 d]]) (by simp [results, Try.results25, go_sem, f00, f01, f10, f11]) rfl ⟨a, b, c', d, rfl, ?_⟩
  exact (((HB.out.setCell (Nat.le_refl _) _).setCell (Nat.le_refl _) _).setCell (Nat.le_succ _) _).setCell (Nat.le_succ _) _

theorem drawRatOf_any (A : Option Addr) (n c : Nat) (w : World) (hn : (n : Int) ≤ 1048576) (hr : RdB w w.heap.size A n) :
    Calls Try.prog 26 #[.slice A n c] w fun e w' => ∃ a b : Int, e = .returned (.tuple #[.int .i64 a, .int .i64 b]) ∧ Below w.heap.size w w' := by
  go_enter Try.func26, Try.ntmps26
  go_wp2_with fail
  refine (l1New_any _ _ _ w w (Below.refl _ _) hn hr).mono ?_
  rintro e w0 ⟨g, rfl, hd, _, _⟩
  have HD0 := Lib.hid hd
  clear hd
  go_wp2_with fail
  refine (l1PickInt_any _ _ _ _ 7 (fun _ => True) (HD0.out.alloc _) (by decide) (by decide) (by have := HD0.out.2.2.1; omega) (Lst.new _ (by intro v hv; simp at hv; rcases hv with rfl | rfl | rfl | rfl | rfl | rfl | rfl <;> exact ⟨_, trivial, rfl⟩))).mono ?_
  rintro e w1 ⟨z1, hz1, rfl, hs⟩
  have HD1 := Lib.hid hs.1
  clear hs
  go_wp2_with fail
  refine (l1PickInt_any _ _ _ _ 7 (fun _ => True) (HD1.out.alloc _) (by decide) (by decide) (by have := HD1.out.2.2.1; omega) (Lst.new _ (by intro v hv; simp at hv; rcases hv with rfl | rfl | rfl | rfl | rfl | rfl | rfl <;> exact ⟨_, trivial, rfl⟩))).mono ?_
  rintro e w2 ⟨z2, hz2, rfl, hs⟩
  have HD2 := Lib.hid hs.1
  clear hs
  go_wp2
  go_ret2
  exact ⟨z1, z2, rfl, HD2.out.1⟩

end Go.Proofs.Ytbjlkbpjmjpdkaa
