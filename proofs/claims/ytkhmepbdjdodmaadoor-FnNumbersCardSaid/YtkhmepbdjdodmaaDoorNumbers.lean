/-
  Contracts of the draws of numbers; the law FnNumbers walked: it returns true.
-/
import Derived.Test.YtkhmepbdjdodmaaDoorDrawRat
import Derived.Test.YtkhmepbdjdodmaaDoorBig
import Derived.Test.YtkhmepbdjdodmaaDoorNumW
import Derived.Test.YtkhmepbdjdodmaaDoorItoa
import Derived.Test.YtkhmepbdjdodmaaDoorNumbersPlain
namespace Go.Proofs.YtkhmepbdjdodmaaDoor
open Go.RowKit
attribute [local go_sem ↓] Go.wp_at_zero Go.wp_at_succ

theorem RdB.up {W w : World} {A : Option Addr} {n : Nat} (h : RdB W W.heap.size A n) (hb : Below W.heap.size W w) : RdB w w.heap.size A n := fun hn => by
  obtain ⟨b, off, e, hlt, hc⟩ := h hn
  refine ⟨b, off, e, Nat.lt_of_lt_of_le hlt hb.size, fun j hj => ?_⟩
  obtain ⟨x, x0, x1, hx⟩ := hc j hj
  exact ⟨x, x0, x1, (hb.cell (p := ⟨b, off + j, none⟩) hlt).trans hx⟩

theorem l1Whole_any (W w : World) (g : Nat) (hd : Dr W g w) :
    Calls Tryd.prog 57 #[.pointer (some ⟨g, 0, none⟩)] w fun e w' => ∃ n : Int, (-9223372036854775808 ≤ n ∧ n ≤ 9223372036854775807) ∧ e = .returned (.int .i64 n) ∧ Stp W g w w' := by
  have HD := Lib.hid hd
  have hg := hd.lt
  clear hd
  go_enter Tryd.func57, Tryd.ntmps57
  go_wp2_with fail
  refine (l1Below_any _ _ _ _ (by decide) (by decide) HD.out).mono ?_
  rintro e w1 ⟨x, x0, x1, rfl, hs⟩
  have HS1 := Lib.hid hs
  clear hs
  have hx : x = 0 ∨ x = 1 ∨ x = 2 := by omega
  have hg1 := HS1.out.1.lt
  rcases hx with rfl | rfl | rfl
  · go_wp2_with fail
    refine (l1PickInt_any W _ g _ 12 (fun z => -9223372036854775808 ≤ z ∧ z ≤ 9223372036854775807) (HS1.out.1.alloc _) (by decide) (by decide) (by have := HS1.out.1.lt; omega) (Lst.new' _ (by first | rfl | (simp; done)) (by intro v hv; simp at hv; rcases hv with rfl | rfl | rfl | rfl | rfl | rfl | rfl | rfl | rfl | rfl | rfl | rfl <;> exact ⟨_, by decide, rfl⟩))).mono ?_
    rintro e w2 ⟨z, hz, rfl, hs⟩
    have HS2 := Lib.hid ((HS1.out.alloc _).trans hs)
    have HZ := Lib.hid hz
    clear hs hz
    go_wp2
    go_ret
    exact ⟨z, HZ.out, rfl, HS2.out⟩
  · go_wp2_with fail
    refine (l1Below_big _ _ _ _ (by decide) (by decide) HS1.out.1).mono ?_
    rintro e w2 ⟨z, z0, z1, rfl, hs⟩
    have HS2 := Lib.hid (HS1.out.trans hs)
    clear hs
    go_wp2
    go_ret
    exact ⟨z - 500000, ⟨by omega, by omega⟩, rfl, HS2.out⟩
  · go_wp2_with fail
    refine (l1Below_any _ _ _ _ (by decide) (by decide) HS1.out.1).mono ?_
    rintro e w2 ⟨z, z0, z1, rfl, hs⟩
    have HS2 := Lib.hid (HS1.out.trans hs)
    clear hs
    go_wp2
    go_ret
    exact ⟨z, ⟨by omega, by omega⟩, rfl, HS2.out⟩

theorem drawFormatInt_any (A : Option Addr) (n c : Nat) (w : World) (hn : (n : Int) ≤ 1048576) (hr : RdB w w.heap.size A n) :
    Calls Tryd.prog 24 #[.slice A n c] w fun e w' => ∃ x : Int, (-9223372036854775808 ≤ x ∧ x ≤ 9223372036854775807) ∧ e = .returned (.int .i64 x) ∧ Below w.heap.size w w' := by
  go_enter Tryd.func24, Tryd.ntmps24
  go_wp2_with fail
  refine (l1New_any _ _ _ w w (Below.refl _ _) hn hr).mono ?_
  rintro e w0 ⟨g, rfl, hd, _, _⟩
  have HD0 := Lib.hid hd
  clear hd
  go_wp2_with fail
  refine (l1Whole_any _ _ _ HD0.out).mono ?_
  rintro e w1 ⟨z, hz, rfl, hs⟩
  have HS := Lib.hid hs.1.1
  have HZ := Lib.hid hz
  clear hs hz
  go_wp2
  go_ret
  exact ⟨z, HZ.out, rfl, HS.out⟩

theorem drawParseNumber_any (A : Option Addr) (n c : Nat) (w : World) (hn : (n : Int) ≤ 1048576) (hr : RdB w w.heap.size A n) :
    Calls Tryd.prog 26 #[.slice A n c] w fun e w' => ∃ s : ByteArray, s.size ≤ 64 ∧ e = .returned (.string s) ∧ Below w.heap.size w w' := by
  go_enter Tryd.func26, Tryd.ntmps26
  go_wp2_with fail
  refine (l1New_any _ _ _ w w (Below.refl _ _) hn hr).mono ?_
  rintro e w0 ⟨g, rfl, hd, _, _⟩
  have HD0 := Lib.hid hd
  clear hd
  go_wp2_with fail
  refine (l1Once_any _ _ _ _ (by decide) (by decide) HD0.out).mono ?_
  rintro e w1 ⟨k, rfl, hs⟩
  have HS1 := Lib.hid hs
  clear hs
  have hg1 := HS1.out.1.lt
  cases k
  · go_wp2_with fail
    refine (l1Pick_any w _ g _ 12 (fun s => s.size ≤ 64) (HS1.out.1.alloc _) (by decide) (by decide) (by have := HS1.out.1.lt; omega) (Lst.new' _ (by first | rfl | (simp; done)) (by intro v hv; simp at hv; rcases hv with rfl | rfl | rfl | rfl | rfl | rfl | rfl | rfl | rfl | rfl | rfl | rfl <;> exact ⟨_, by decide, rfl⟩))).mono ?_
    rintro e w2 ⟨z, hz, rfl, hs⟩
    have HS2 := Lib.hid hs.1.1
    have HZ := Lib.hid hz
    clear hs hz
    go_wp2
    go_ret
    exact ⟨z, HZ.out, rfl, HS2.out⟩
  · go_wp2_with fail
    refine (l1Whole_any _ _ _ HS1.out.1).mono ?_
    rintro e w2 ⟨z, hz, rfl, hs⟩
    have HS2 := Lib.hid hs.1.1
    have HL := Lib.hid (Lib.itoa_length_le z hz.1 hz.2)
    have HF := Lib.hid (sfmtInt_any z hz.1 hz.2 w2)
    clear hs hz
    go_wp2_with fail
    refine HF.out.mono ?_
    rintro e w3 ⟨rfl, hb⟩
    have HB := Lib.hid (HS2.out.trans (hb.mono HS2.out.size))
    have HT : (⟨(Lib.itoa z).toArray⟩ : ByteArray).size ≤ 64 := by
      show (Lib.itoa z).toArray.size ≤ 64
      rw [List.size_toArray]
      have := HL.out
      omega
    generalize (⟨(Lib.itoa z).toArray⟩ : ByteArray) = t at HT
    clear hb
    go_wp2
    go_ret
    exact ⟨t, HT, rfl, HB.out⟩

theorem fnNumbers_walk {w : World} (A : Option Addr) (n c : Nat) (_ : n ≤ maxLen) (hr : RdB w w.heap.size A n) (ht : Tab w) :
    Calls Tryd.prog 7 #[.slice A n c] w fun e w' => e = .returned (.bool true) ∧ Below w.heap.size w w' := by
  by_cases hbig : (1048576 : Int) < (n : Int)
  · go_enter Tryd.func7, Tryd.ntmps7
    go_wp2_with fail
    refine (big_yes _ _ _ _ hbig).mono ?_
    rintro e _ ⟨rfl, rfl⟩
    go_wp2
    go_ret
    exact ⟨rfl, Below.refl _ _⟩
  have DA := Lib.hid (drawFormatInt_any A n c w (by omega) hr)
  have DB := Lib.hid (fun w' (hb : Below w.heap.size w w') => drawParseNumber_any A n c w' (by omega) (hr.up hb))
  have HBIG := Lib.hid hbig
  have HT := Lib.hid ht
  clear hbig hr ht
  go_enter Tryd.func7, Tryd.ntmps7
  go_wp2_with fail
  refine (big_no _ _ _ _ (by have := HBIG.out; omega)).mono ?_
  rintro e _ ⟨rfl, rfl⟩
  go_wp2_with fail
  refine DA.out.mono ?_
  rintro e w1 ⟨x, ⟨x0, x1⟩, rfl, H⟩
  have HL := Lib.itoa_length_le x x0 x1
  have HX := Lib.hid (And.intro x0 x1)
  obtain ⟨s, hs⟩ : ∃ s : ByteArray, s = ⟨(Lib.itoa x).toArray⟩ := ⟨_, rfl⟩
  have hsz : s.size = (Lib.itoa x).length := by
    rw [hs]
    show (Lib.itoa x).toArray.size = _
    rw [List.size_toArray]
  have hsl : s.toList = Lib.itoa x := by rw [hs, ByteArray.toList_eq]
  obtain ⟨p1, p2⟩ := Pl.parseI_itoa x
  have IF := fun w ht => ifmtInt_any x x0 x1 w ht
  have SF := fun w => sfmtInt_any x x0 x1 w
  rw [← hs] at IF SF
  rw [← hsl, Pl.size_toList] at p1
  rw [← hsl] at p2
  rw [← hsz] at HL
  have IP := fun w => iparseI_any s (by omega) w
  obtain ⟨y, ok, hp⟩ : ∃ y ok, Pl.parseI s.toList 12 = (y, ok) := ⟨_, _, rfl⟩
  simp only [hp] at IP p1 p2
  have IF := Lib.hid IF
  have SF := Lib.hid SF
  have IP := Lib.hid IP
  have P1 := Lib.hid p1
  have P2 := Lib.hid p2
  clear hp p1 p2 hs hsz hsl x0 x1
  go_wp2_with fail
  refine (IF.out _ (HT.out.below H)).mono ?_
  rintro e w2 ⟨rfl, hb⟩
  have H := H.trans (hb.mono H.size)
  clear hb
  go_wp2_with fail
  refine (IP.out _).mono ?_
  rintro e _ ⟨rfl, rfl⟩
  go_upto_region 6 with fail
  go_cut [50] (fun s50 wx => s50 = .bool false ∧ Below w.heap.size w wx)
  case first =>
    go_wp2_with fail
    refine (SF.out _).mono ?_
    rintro e w3 ⟨rfl, hb⟩
    have H := H.trans (hb.mono H.size)
    clear hb
    have HH := Lib.hid H
    clear H
    have q1 := P1.out
    by_cases a1 : (s.size : Int) ≤ 12
    · have d1 := decide_eq_true a1
      have hok : ok = true := by rw [q1, decide_eq_true (show s.size ≤ 12 by omega), Bool.true_or]
      have hy := P2.out hok
      subst hok hy
      clear q1
      go_wp2_with fail
      go_meet
      exact ⟨rfl, HH.out⟩
    · have d1 := decide_eq_false a1
      by_cases a2 : x < 0
      · have d2 := decide_eq_true a2
        by_cases a3 : (s.size : Int) ≤ 13
        · have d3 := decide_eq_true a3
          have hok : ok = true := by rw [q1, decide_eq_true a2, decide_eq_true (show s.size ≤ 13 by omega), Bool.and_self, Bool.or_true]
          have hy := P2.out hok
          subst hok hy
          clear q1
          go_wp2_with fail
          go_meet
          exact ⟨rfl, HH.out⟩
        · have d3 := decide_eq_false a3
          have hok : ok = false := by rw [q1, decide_eq_false (show ¬ s.size ≤ 12 by omega), decide_eq_false (show ¬ s.size ≤ 13 by omega), Bool.and_false, Bool.or_false]
          subst hok
          clear q1
          go_wp2_with fail
          go_meet
          exact ⟨rfl, HH.out⟩
      · have d2 := decide_eq_false a2
        have hok : ok = false := by rw [q1, decide_eq_false a2, decide_eq_false (show ¬ s.size ≤ 12 by omega), Bool.false_and, Bool.or_false]
        subst hok
        clear q1
        go_wp2_with fail
        go_meet
        exact ⟨rfl, HH.out⟩
  case rest =>
    obtain ⟨rfl, H⟩ := hcut
    clear IF SF IP P1 P2
    go_wp2_with fail
    refine (DB.out _ H).mono ?_
    rintro e w4 ⟨t, ht, rfl, hb⟩
    have H := H.trans (hb.mono H.size)
    clear hb
    obtain ⟨b0, b1⟩ := Pl.parseN_small t.toList
    have ht1 := fun h => Pl.parseN_text (l := t.toList) h
    have IN := fun w => iparseN_any t (by omega) w
    have SN := fun w => sparseN_any t (by omega) w
    obtain ⟨v, fine, hp⟩ : ∃ v fine, Pl.parseN t.toList = (v, fine) := ⟨_, _, rfl⟩
    simp only [hp] at IN SN ht1 b0 b1
    have IN := Lib.hid IN
    have SN := Lib.hid SN
    have HT1 := Lib.hid ht1
    have IF := Lib.hid (fun w ht => ifmtInt_any v (by omega) (by omega) w ht)
    clear hp ht1
    go_wp2_with fail
    refine (IN.out _).mono ?_
    rintro e _ ⟨rfl, rfl⟩
    go_wp2_with fail
    refine (SN.out _).mono ?_
    rintro e w5 ⟨rfl, hb⟩
    have H := H.trans (hb.mono H.size)
    clear hb
    cases fine
    · go_wp2
      go_ret
      exact ⟨rfl, H⟩
    · have h2 := (HT1.out rfl).1
      have h3 : (⟨(Lib.itoa v).toArray⟩ : ByteArray) = t := by rw [h2, ByteArray.toList_eq]
      rw [h3] at IF
      have d1 := decide_eq_true b0
      clear h2 h3
      go_wp2_with fail
      refine (IF.out _ (HT.out.below H)).mono ?_
      rintro e w6 ⟨rfl, hb⟩
      have H := H.trans (hb.mono H.size)
      clear hb
      go_wp2
      go_ret
      exact ⟨rfl, H⟩

end Go.Proofs.YtkhmepbdjdodmaaDoor
