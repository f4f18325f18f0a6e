/-
  A slice of texts that came in, read as a row; contract of the laws' szStringS; the law FnExactJoin walked.
-/
import Derived.Test.YtojfahgnjfnflaaJoinI
import Derived.Test.YtojfahgnjfnflaaStrS
import Derived.Test.YtojfahgnjfnflaaToStr
import Derived.ProofKit
import Derived.WideShapes
import Derived.SliceStrings
namespace Go.Proofs.Ytojfahgnjfnflaa
open Go.RowKit Go.ChangeShapes Go.WideShapes

theorem open_stringsS {H : Type} {enc : TypeId × Value → H} {w : World} {r : Reach} {b0 base : Nat} {held : Bool} {v : Value} {d : DataW H} {ps : List MemPlace}
    (hval : Value.okWide Try.prog w r b0 27 v)
    (h : DataW.Trod enc Try.prog w base (fun _ => true) held 27 v d ps) :
    ∃ (A : Option Addr) (c : Nat) (xs : List ByteArray), v = .slice A xs.length c ∧ xs.length ≤ maxLen ∧ Rd w w.heap.size 1 A xs.length (xs.map Value.string) ∧ ∀ x ∈ xs, x.size ≤ maxLen := by
  obtain ⟨a, len, cap, rfl⟩ := okWide_slice Try.underlying27 hval
  obtain ⟨fuel, hf⟩ := h
  rcases ChangeShapes.open_strings Try.underlying27 Try.underlying9 (by kernel_rfl) hf with ⟨hc, _⟩ | ⟨a', len', cap', ss, hc, _, hl, hm, hz, _, hcell, hw⟩
  · simp [Value.cells] at hc
    obtain ⟨rfl, rfl, rfl⟩ := hc
    exact ⟨_, _, [], rfl, Nat.zero_le _, ⟨by simp, fun h => absurd h (Nat.lt_irrefl _)⟩, fun x hx => absurd hx (by simp)⟩
  · simp [Value.cells] at hc
    obtain ⟨rfl, rfl, rfl⟩ := hc
    simp only [if_true] at hz
    have hlt : (ss.take len).length = len := by rw [List.length_take]; omega
    refine ⟨_, _, ss.take len, by rw [hlt], by rw [hlt]; omega, ⟨by simp, fun hn => ?_⟩, fun x hx => hw x (List.mem_of_mem_take hx)⟩
    rw [hlt] at hn
    have h0 := hcell 0 (by omega)
    obtain ⟨b, off, spot⟩ := a'
    have hspot : spot = none := by simpa [Addr.add] using World.cell?_spot h0
    subst hspot
    refine ⟨b, off, rfl, by simpa [Addr.add] using World.block_lt_of_cell? _ _ h0, fun j u hu => ?_⟩
    have hj : j < len := by
      rcases Nat.lt_or_ge j len with h | h
      · exact h
      · rw [List.getElem?_eq_none (by simp; omega)] at hu
        cases hu
    have hj' : j < ss.length := by omega
    rw [List.getElem?_map, List.getElem?_take_of_lt hj, List.getElem?_eq_getElem hj'] at hu
    have h1 := hcell j hj'
    rw [Addr.add_lit, List.getD, List.getElem?_eq_getElem hj'] at h1
    injection hu with hu
    subst hu
    exact h1

theorem szStringS_any (A : Option Addr) (c B : Nat) (xs : List ByteArray) (left : Int) (w : World) (hr : Rd w B 1 A xs.length (xs.map Value.string)) (hl0 : 0 ≤ left) (hl : left ≤ 1048576) (hn : (xs.length : Int) ≤ 9223372036854775807) (hz : ∀ x ∈ xs, (x.size : Int) ≤ 9223372036854775807) :
    Calls Try.prog 27 #[.slice A xs.length c, .int .i64 left] w fun e w' => ∃ v : Int, e = .returned (.int .i64 v) ∧ w = w' ∧ (v = -1 ∨ (0 ≤ v ∧ v ≤ left ∧ (xs.length : Int) ≤ left ∧ ∀ x ∈ xs, (x.size : Int) ≤ left)) := by
  have HZ := Lib.hid hz
  clear hz
  by_cases h0 : left - (xs.length : Int) < 0
  · have hd := decide_eq_true h0
    go_enter Try.func27, Try.ntmps27
    go_wp2
    go_ret
    exact ⟨_, rfl, rfl, Or.inl rfl⟩
  · have hd := decide_eq_false h0
    go_enter Try.func27, Try.ntmps27
    go_wp2
    go_loop [1, 5] (fun l u => ∃ (j : Nat) (q : Int), j ≤ xs.length ∧ u = .int .i64 j ∧ l = .int .i64 q ∧ 0 ≤ q ∧ q ≤ left ∧ Hid (∀ i, (h : i < xs.length) → i < j → (xs[i].size : Int) ≤ left)) (fun _ u => xs.length - (intOf u).toNat)
    case atStart => exact ⟨0, _, Nat.zero_le _, rfl, rfl, by omega, by omega, Lib.hid (fun i _ h => absurd h (by omega))⟩
    case round =>
      obtain ⟨j, q, hj, rfl, rfl, q0, q1, hi⟩ := hrel
      by_cases hlt : j < xs.length
      · obtain ⟨b, off, rfl, hbb, hc⟩ := hr.2 (by omega)
        have x0 := hc j (.string xs[j]) (by simp)
        have hxz := HZ.out _ (List.getElem_mem hlt)
        have HN := Lib.hid (fun (h2 : (xs[j].size : Int) ≤ left) => show ∀ i, (h : i < xs.length) → i < j + 1 → (xs[i].size : Int) ≤ left from fun i h h1 => by
          rcases Nat.lt_or_ge i j with h3 | h3
          · exact hi.out i h h3
          · obtain rfl : i = j := by omega
            exact h2)
        obtain ⟨x, hx⟩ : ∃ x : ByteArray, x = xs[j] := ⟨_, rfl⟩
        rw [← hx] at x0 hxz
        rw [← hx] at HN
        clear hx hc hr
        by_cases hs : q - (x.size : Int) < 0
        · have hds := decide_eq_true hs
          go_wp2
          go_ret
          exact ⟨_, rfl, rfl, Or.inl rfl⟩
        · have hds := decide_eq_false hs
          go_wp2
          go_round
          case rel => exact ⟨j + 1, q - (x.size : Int), by omega, by go_num, by go_num, by omega, by omega, Lib.hid (HN.out (by omega))⟩
          case measure => simp [intOf]; omega
      · obtain rfl : j = xs.length := by omega
        go_wp2
        go_ret
        refine ⟨_, rfl, rfl, Or.inr ⟨q0, q1, by omega, fun x hx => ?_⟩⟩
        obtain ⟨i, hil, rfl⟩ := List.getElem_of_mem hx
        exact hi.out i hil hil

theorem Rd.below'' {w w' : World} {B C n : Nat} {A : Option Addr} {xs : List Value} (h : Rd w B 1 A n xs) (hb : Below C w w') (hC : B ≤ C) : Rd w' B 1 A n xs := h.keep fun _ hp => hb.cell (Nat.lt_of_lt_of_le hp hC)
theorem fnExactJoin_walk {w : World} (A : Option Addr) (c : Nat) (xs : List ByteArray) (hn : xs.length ≤ maxLen) (ra : Rd w w.heap.size 1 A xs.length (xs.map Value.string)) (hz : ∀ x ∈ xs, x.size ≤ maxLen) (sep : ByteArray) (hsep : sep.size ≤ maxLen) :
    Calls Try.prog 8 #[.slice A xs.length c, .string sep] w fun e w' => e = .returned (.bool true) ∧ Below w.heap.size w w' := by
  have m1 : (xs.length : Int) ≤ 9223372036854775807 := by simp only [maxLen] at hn; omega
  have m2 : ∀ x ∈ xs, (x.size : Int) ≤ 9223372036854775807 := fun x hx => by have := hz x hx; simp only [maxLen] at this; omega
  have m3 : (sep.size : Int) ≤ 9223372036854775807 := by simp only [maxLen] at hsep; omega
  clear hn hz hsep
  by_cases hy1 : (1048576 : Int) < (sep.size : Int)
  · have hd1 := decide_eq_true hy1
    go_enter Try.func8, Try.ntmps8
    go_wp2
    go_ret
    exact ⟨rfl, Below.refl _ _⟩
  · have hd1 := decide_eq_false hy1
    have SZ := Lib.hid (szStringS_any A c _ xs 1048576 w ra (by omega) (by omega) m1 m2)
    clear m2
    go_enter Try.func8, Try.ntmps8
    go_wp2_with fail
    refine SZ.out.mono ?_
    rintro e w0 ⟨v, rfl, rfl, rfl | ⟨v0, v1, v2, v3⟩⟩
    · go_wp2
      go_ret
      exact ⟨rfl, Below.refl _ _⟩
    · have hd2 := decide_eq_false (show ¬ v < 0 by omega)
      have v4 : ∀ x ∈ xs, x.size ≤ 1048576 := fun x hx => by have := v3 x hx; omega
      have JS := Lib.hid (And.intro (fun A c B w h hB => sJoin_any A c B xs sep w h hB (by omega) (by omega) v4) (fun A c B w h hB hc => iJoin_any A c B xs sep w h hB hc (by omega) (by omega) v4))
      clear v3 v4 SZ
      generalize (⟨(Lib.join (xs.map ByteArray.toList) sep.toList).toArray⟩ : ByteArray) = R at JS
      have H := Below.refl w.heap.size w
      have s_ra := Nat.le_refl w.heap.size
      go_wp2_with fail
      refine (toStringS_any _ _ _ xs _ ra s_ra (by omega)).mono ?_
      rintro e w1 ⟨X1, rfl, ow, hb⟩
      have ra := ra.below'' hb s_ra
      have s_ra := Nat.le_trans s_ra hb.size
      have H := H.trans (hb.mono H.size)
      clear hb
      have r1 := Rd.of_own ow
      have s_r1 := Nat.le_refl w1.heap.size
      clear ow
      go_wp2_with fail
      refine (JS.out.1 _ _ _ _ r1 s_r1).mono ?_
      rintro e w2 ⟨rfl, hb⟩
      have ra := ra.below'' hb s_ra
      have s_ra := Nat.le_trans s_ra hb.size
      have r1 := r1.below'' hb s_r1
      have s_r1 := Nat.le_trans s_r1 hb.size
      have H := H.trans (hb.mono H.size)
      clear hb
      go_wp2_with fail
      refine (toStringS_any _ _ _ xs _ ra s_ra (by omega)).mono ?_
      rintro e w3 ⟨X3, rfl, ow, hb⟩
      have ra := ra.below'' hb s_ra
      have s_ra := Nat.le_trans s_ra hb.size
      have r1 := r1.below'' hb s_r1
      have s_r1 := Nat.le_trans s_r1 hb.size
      have H := H.trans (hb.mono H.size)
      clear hb
      have r3 := Rd.of_own ow
      have s_r3 := Nat.le_refl w3.heap.size
      clear ow
      go_wp2_with fail
      refine (JS.out.2 _ _ _ _ r3 s_r3 (Nat.le_refl _)).mono ?_
      rintro e w4 ⟨rfl, hb⟩
      have ra := ra.below'' hb s_ra
      have s_ra := Nat.le_trans s_ra hb.size
      have r1 := r1.below'' hb s_r1
      have s_r1 := Nat.le_trans s_r1 hb.size
      have r3 := r3.below'' hb s_r3
      have s_r3 := Nat.le_trans s_r3 hb.size
      have H := H.trans (hb.mono H.size)
      clear hb
      go_wp2_with fail
      refine (toStringS_any _ _ _ xs _ ra s_ra (by omega)).mono ?_
      rintro e w5 ⟨X5, rfl, ow, hb⟩
      have ra := ra.below'' hb s_ra
      have s_ra := Nat.le_trans s_ra hb.size
      have r1 := r1.below'' hb s_r1
      have s_r1 := Nat.le_trans s_r1 hb.size
      have r3 := r3.below'' hb s_r3
      have s_r3 := Nat.le_trans s_r3 hb.size
      have H := H.trans (hb.mono H.size)
      clear hb
      have r5 := Rd.of_own ow
      have s_r5 := Nat.le_refl w5.heap.size
      clear ow
      go_wp2_with fail
      refine (eqStringS_same _ _ _ _ _ xs _ (r3.more s_r3) (r5.more s_r5) (Nat.le_refl _) (by omega)).mono ?_
      rintro e w6 ⟨rfl, hb⟩
      have ra := ra.below'' hb s_ra
      have s_ra := Nat.le_trans s_ra hb.size
      have r1 := r1.below'' hb s_r1
      have s_r1 := Nat.le_trans s_r1 hb.size
      have r3 := r3.below'' hb s_r3
      have s_r3 := Nat.le_trans s_r3 hb.size
      have r5 := r5.below'' hb s_r5
      have s_r5 := Nat.le_trans s_r5 hb.size
      have H := H.trans (hb.mono H.size)
      clear hb
      go_wp2
      go_ret
      exact ⟨rfl, H⟩

end Go.Proofs.Ytojfahgnjfnflaa
