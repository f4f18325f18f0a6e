/-
  Contracts over texts: ParseNumber, ParseInt, and the walks of their laws.
-/
import Derived.Test.YtkhmepbdjdodmaaDoorNumR
namespace Go.Proofs.YtkhmepbdjdodmaaDoor
open Go.RowKit

namespace Pl
def trim (s : ByteArray) : ByteArray := if neg s.toList then s.extract 1 s.size else s
theorem extract_one {s : ByteArray} (h : 0 < s.size) : (s.extract 0 1).toList = [s[0]] := by
  rw [Lib.extract_toList, List.drop_zero, ← ByteArray.toList_eq, show 1 - 0 = 0 + 1 from rfl, take_toList s 0 h]
  rfl
theorem parseN_bad {l : List UInt8} (h : okDig l 6 = false) : parseN l = (0, false) := by rw [parseN, h]; rfl
theorem parseN_good {l : List UInt8} (h : okDig l 6 = true) : parseN l = ((val l : Int), true) := by rw [parseN, h]; rfl
theorem readD_cases (l : List UInt8) (m : Nat) (hm : m ≤ 12) : (okDig l m = false ∧ readD l m = -1) ∨ (okDig l m = true ∧ readD l m = val l ∧ val l < 1000000000000) := by
  cases h : okDig l m
  · exact Or.inl ⟨rfl, readD_bad h⟩
  · refine Or.inr ⟨rfl, readD_good h, ?_⟩
    obtain ⟨_, h2, _, h4⟩ := okDig_iff.1 h
    have h1 := val_lt _ h4
    have h3 : (10 : Nat) ^ l.length ≤ 10 ^ 12 := Nat.pow_le_pow_right (by decide) (by omega)
    omega
theorem neg_not_ok {l : List UInt8} {m : Nat} (h : neg l = true) : okDig l m = false := by
  rw [neg_form h]
  exact okDig_dig (by simp [allDig, isDig])
/-- 'l1Read' and 'readDigits', asked for a number -/
theorem parseN_of (l : List UInt8) : parseN l = if (parseI l 6).2 = false ∨ (parseI l 6).1 < 0 then (0, false) else ((parseI l 6).1, true) := by
  cases hn : neg l
  · have hs := pos_form hn
    cases ho : okDig l 6
    · rw [parseN_bad ho, parseI_short (by rw [hs]; exact ho)]
      rfl
    · rw [parseN_good ho, parseI, hs, hn, ho]
      simp only [Bool.false_and, Bool.not_false, Bool.and_true, if_true, Bool.false_eq_true, if_false]
      rw [if_neg]
      rintro (h | h)
      · cases h
      · have h' : ((val l : Nat) : Int) < 0 := h
        omega
  · rw [parseN_bad (neg_not_ok hn)]
    rw [if_pos]
    rw [parseI, hn]
    split
    · next h =>
      right
      simp only [Bool.true_and, Bool.and_eq_true, Bool.not_eq_true', beq_eq_false_iff_ne] at h
      simp only [if_true]
      omega
    · left
      rfl
theorem r_bad {a a' : Int} {b b' : Bool} (h1 : a = a') (h2 : b = b') : Ending.returned (.tuple #[.int .i64 a, .bool b]) = .returned (.tuple #[.int .i64 a', .bool b']) := by rw [h1, h2]
theorem parseI_big {l : List UInt8} {m : Nat} (hm : m ≤ 12) : -1000000000000 < (parseI l m).1 ∧ (parseI l m).1 < 1000000000000 := by
  rw [parseI]
  split
  · next h =>
    have ho : okDig (strip l) m = true := by
      cases e : okDig (strip l) m
      · rw [e] at h
        simp at h
      · rfl
    rcases readD_cases (strip l) m hm with ⟨e, _⟩ | ⟨_, _, e⟩
    · rw [e] at ho
      cases ho
    · dsimp only
      split <;> omega
  · exact ⟨by decide, by decide⟩
theorem ne_trim {s : ByteArray} (h : neg s.toList = true) : ((s.extract 1 s.size).toList == s.toList) = false := by
  rw [strip_of h]
  refine beq_eq_false_iff_ne.2 fun e => ?_
  have h1 := neg_form h
  rw [← e] at h1
  have h2 := congrArg List.length h1
  rw [e] at h2
  simp at h2
  have h3 := congrArg List.length e
  have h4 := congrArg List.length (neg_form h)
  simp at h4
  omega
theorem parseI_good {l : List UInt8} (h : okDig (strip l) 12 = true) (hz : ¬ (neg l = true ∧ val (strip l) = 0)) : parseI l 12 = (if neg l then -(val (strip l) : Int) else (val (strip l) : Int), true) := by
  rw [parseI, if_pos]
  rw [h]
  cases hn : neg l
  · rfl
  · have : val (strip l) ≠ 0 := fun e => hz ⟨hn, e⟩
    simpa using this
theorem parseI_zero {l : List UInt8} (hn : neg l = true) (h : val (strip l) = 0) : parseI l 12 = (0, false) := by
  rw [parseI, if_neg]
  rw [hn, h]
  simp
end Pl

theorem trim_any (s : ByteArray) (w : World) : Calls Tryd.prog 59 #[.string s, .string ⟨#[45]⟩] w fun e w' => e = .returned (.string (Pl.trim s)) ∧ w = w' := by
  by_cases h0 : s.size = 0
  · have HR := Lib.hid (show Pl.trim s = s by rw [Pl.trim, Pl.notneg_nil h0]; rfl)
    have hd := decide_eq_false (show ¬ (1 : Int) ≤ (s.size : Int) by omega)
    have hn0 : ¬ 1 ≤ s.size := by omega
    clear h0
    go_enter Tryd.func59, Tryd.ntmps59
    go_wp2_with (go_in)
    go_ret
    exact ⟨by rw [HR.out]; rfl, rfl⟩
  · have h00 : 0 < s.size := by omega
    have h1 : 1 ≤ s.size := h00
    have hd := decide_eq_true (show (1 : Int) ≤ (s.size : Int) by omega)
    have hx := Pl.extract_one h00
    by_cases hz : s[0] = 45
    · have HR := Lib.hid (show Pl.trim s = s.extract 1 s.size by rw [Pl.trim, Pl.neg_of h00 hz]; rfl)
      have he : ((s.extract 0 1).toList == [45]) = true := by rw [hx, hz]; rfl
      clear hx hz
      go_enter Tryd.func59, Tryd.ntmps59
      go_wp2_with (go_in)
      go_ret
      exact ⟨by rw [HR.out]; rfl, rfl⟩
    · have HR := Lib.hid (show Pl.trim s = s by rw [Pl.trim, Pl.notneg_of h00 hz]; rfl)
      have he : ((s.extract 0 1).toList == [45]) = false := by rw [hx]; simpa using hz
      clear hx hz
      go_enter Tryd.func59, Tryd.ntmps59
      go_wp2_with (go_in)
      go_ret
      exact ⟨by rw [HR.out]; rfl, rfl⟩

theorem iparseN_any (s : ByteArray) (hs : s.size ≤ 4611686018427387904) (w : World) : Calls Tryd.prog 27 #[.string s] w fun e w' => e = .returned (.tuple #[.int .i64 (Pl.parseN s.toList).1, .bool (Pl.parseN s.toList).2]) ∧ w = w' := by
  have c := ireadD_any s 6 (by decide) hs
  rcases Pl.readD_cases s.toList 6 (by decide) with ⟨h1, h2⟩ | ⟨h1, h2, h3⟩
  · have HR := Lib.hid (Pl.parseN_bad h1)
    rw [h2] at c
    clear h1 h2
    go_enter Tryd.func27, Tryd.ntmps27
    go_wp2_with (go_at_call 60; refine (c _).mono ?_; rintro e w1 ⟨rfl, rfl⟩)
    go_ret2
    exact ⟨Pl.r_ib HR.out rfl rfl, rfl⟩
  · have HR := Lib.hid (Pl.parseN_good h1)
    rw [h2] at c
    clear h1 h2
    obtain ⟨v, hv⟩ : ∃ v, v = Pl.val s.toList := ⟨_, rfl⟩
    rw [← hv] at c HR h3
    clear hv
    go_enter Tryd.func27, Tryd.ntmps27
    go_wp2_with (go_at_call 60; refine (c _).mono ?_; rintro e w1 ⟨rfl, rfl⟩)
    go_ret2
    exact ⟨Pl.r_ib HR.out (by first | rfl | omega | (simp; done)) (by first | rfl | (simp; done)), rfl⟩

theorem sparseN_any (s : ByteArray) (hs : s.size ≤ 4611686018427387904) (w : World) : Calls Tryd.prog 28 #[.string s] w fun e w' => e = .returned (.tuple #[.int .i64 (Pl.parseN s.toList).1, .bool (Pl.parseN s.toList).2]) ∧ Below w.heap.size w w' := by
  have c := sread_any s 6 (by decide) hs
  have HR := Lib.hid (Pl.parseN_of s.toList)
  obtain ⟨x, hx⟩ : ∃ x, x = Pl.parseI s.toList 6 := ⟨_, rfl⟩
  rw [← hx] at c HR
  clear hx
  obtain ⟨n, ok⟩ := x
  cases ok
  · go_enter Tryd.func28, Tryd.ntmps28
    go_wp2_with (go_at_call 63; refine (c _).mono ?_; rintro e w1 ⟨rfl, hb⟩)
    go_ret2
    exact ⟨Pl.r_ib (by rw [HR.out]; simp) rfl rfl, hb⟩
  · by_cases hn : n < 0
    · have hd := decide_eq_true hn
      go_enter Tryd.func28, Tryd.ntmps28
      go_wp2_with (go_at_call 63; refine (c _).mono ?_; rintro e w1 ⟨rfl, hb⟩)
      go_ret2
      exact ⟨Pl.r_ib (by rw [HR.out, if_pos (Or.inr hn)]) rfl rfl, hb⟩
    · have hd := decide_eq_false hn
      go_enter Tryd.func28, Tryd.ntmps28
      go_wp2_with (go_at_call 63; refine (c _).mono ?_; rintro e w1 ⟨rfl, hb⟩)
      go_ret2
      exact ⟨Pl.r_ib (by rw [HR.out, if_neg (by simp; omega)]) rfl rfl, hb⟩

theorem sparseI_any (s : ByteArray) (hs : s.size ≤ 4611686018427387904) (w : World) : Calls Tryd.prog 52 #[.string s] w fun e w' => e = .returned (.tuple #[.int .i64 (Pl.parseI s.toList 12).1, .bool (Pl.parseI s.toList 12).2]) ∧ Below w.heap.size w w' := by
  have c := sread_any s 12 (by decide) hs
  go_enter Tryd.func52, Tryd.ntmps52
  go_wp2_with (go_at_call 63; refine (c _).mono ?_; rintro e w1 ⟨rfl, hb⟩)
  go_ret2
  exact ⟨rfl, hb⟩

theorem iparseI_any (s : ByteArray) (hs : s.size ≤ 4611686018427387904) (w : World) : Calls Tryd.prog 25 #[.string s] w fun e w' => e = .returned (.tuple #[.int .i64 (Pl.parseI s.toList 12).1, .bool (Pl.parseI s.toList 12).2]) ∧ w = w' := by
  have ct := trim_any s
  cases hn : Pl.neg s.toList
  · rw [show Pl.trim s = s by rw [Pl.trim, hn]; rfl] at ct
    have hs' := Pl.pos_form hn
    have c := ireadD_any s 12 (by decide) hs
    have hq : (s.toList == s.toList) = true := by simp
    have hq' : (s.toList != s.toList) = false := by simp
    rcases Pl.readD_cases s.toList 12 (by decide) with ⟨h1, h2⟩ | ⟨h1, h2, h3⟩
    · have HR := Lib.hid (Pl.parseI_short (l := s.toList) (m := 12) (by rw [hs']; exact h1))
      rw [h2] at c
      clear h1 h2 hn hs'
      go_enter Tryd.func25, Tryd.ntmps25
      go_wp2_with (first | (go_at_call 59; refine (ct _).mono ?_; rintro e w1 ⟨rfl, rfl⟩) | (go_at_call 60; refine (c _).mono ?_; rintro e w1 ⟨rfl, rfl⟩))
      go_ret2
      exact ⟨Pl.r_ib HR.out (by first | rfl | omega | (simp; done)) rfl, rfl⟩
    · have HR := Lib.hid (Pl.parseI_good (l := s.toList) (by rw [hs']; exact h1) (by rw [hn]; simp))
      rw [hn, hs'] at HR
      rw [h2] at c
      clear h1 h2 hn hs'
      obtain ⟨v, hv⟩ : ∃ v, v = Pl.val s.toList := ⟨_, rfl⟩
      rw [← hv] at c HR h3
      clear hv
      by_cases h0 : v = 0
      · subst h0
        go_enter Tryd.func25, Tryd.ntmps25
        go_wp2_with (first | (go_at_call 59; refine (ct _).mono ?_; rintro e w1 ⟨rfl, rfl⟩) | (go_at_call 60; refine (c _).mono ?_; rintro e w1 ⟨rfl, rfl⟩))
        go_ret2
        exact ⟨Pl.r_ib HR.out (by first | rfl | omega | (simp; done)) rfl, rfl⟩
      · have hd0 := beq_eq_false_iff_ne.2 (show (v : Int) ≠ 0 by omega)
        go_enter Tryd.func25, Tryd.ntmps25
        go_wp2_with (first | (go_at_call 59; refine (ct _).mono ?_; rintro e w1 ⟨rfl, rfl⟩) | (go_at_call 60; refine (c _).mono ?_; rintro e w1 ⟨rfl, rfl⟩))
        go_ret2
        exact ⟨Pl.r_ib HR.out (by first | rfl | omega | (simp; done)) rfl, rfl⟩
  · rw [show Pl.trim s = s.extract 1 s.size by rw [Pl.trim, hn]; rfl] at ct
    have hs' := Pl.strip_of hn
    have hq := Pl.ne_trim hn
    have hq' : ((s.extract 1 s.size).toList != s.toList) = true := by rw [bne, hq]; rfl
    have hts : (s.extract 1 s.size).size ≤ 4611686018427387904 := by simp; omega
    have c := ireadD_any (s.extract 1 s.size) 12 (by decide) hts
    rw [hs'] at c
    generalize hg : s.extract 1 s.size = t at *
    rcases Pl.readD_cases (Pl.strip s.toList) 12 (by decide) with ⟨h1, h2⟩ | ⟨h1, h2, h3⟩
    · have HR := Lib.hid (Pl.parseI_short (l := s.toList) (m := 12) h1)
      rw [h2] at c
      clear h1 h2 hn hs' hg
      go_enter Tryd.func25, Tryd.ntmps25
      go_wp2_with (first | (go_at_call 59; refine (ct _).mono ?_; rintro e w1 ⟨rfl, rfl⟩) | (go_at_call 60; refine (c _).mono ?_; rintro e w1 ⟨rfl, rfl⟩))
      go_ret2
      exact ⟨Pl.r_ib HR.out (by first | rfl | omega | (simp; done)) rfl, rfl⟩
    · by_cases h0 : Pl.val (Pl.strip s.toList) = 0
      · have HR := Lib.hid (Pl.parseI_zero hn h0)
        rw [h2, h0] at c
        clear h1 h2 hn hs' h0 h3 hg
        go_enter Tryd.func25, Tryd.ntmps25
        go_wp2_with (first | (go_at_call 59; refine (ct _).mono ?_; rintro e w1 ⟨rfl, rfl⟩) | (go_at_call 60; refine (c _).mono ?_; rintro e w1 ⟨rfl, rfl⟩))
        go_ret2
        exact ⟨Pl.r_ib HR.out (by first | rfl | omega | (simp; done)) rfl, rfl⟩
      · have HR := Lib.hid (Pl.parseI_good (l := s.toList) h1 (fun e => h0 e.2))
        rw [hn] at HR
        rw [h2] at c
        clear h1 h2 hn hs' hg
        obtain ⟨v, hv⟩ : ∃ v, v = Pl.val (Pl.strip s.toList) := ⟨_, rfl⟩
        rw [← hv] at c HR h3 h0
        clear hv
        have hd0 := beq_eq_false_iff_ne.2 (show (v : Int) ≠ 0 by omega)
        go_enter Tryd.func25, Tryd.ntmps25
        go_wp2_with (first | (go_at_call 59; refine (ct _).mono ?_; rintro e w1 ⟨rfl, rfl⟩) | (go_at_call 60; refine (c _).mono ?_; rintro e w1 ⟨rfl, rfl⟩))
        go_ret2
        exact ⟨Pl.r_ib HR.out (by first | rfl | omega | (simp; done)) rfl, rfl⟩

end Go.Proofs.YtkhmepbdjdodmaaDoor
