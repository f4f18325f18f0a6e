/-
  Contracts over texts: l1Read, ParseNumber, ParseInt.
-/
import Derived.Test.YtkhmepbdjdodmaaDoorNumS
import Derived.Lib.Strings
namespace Go.Proofs.YtkhmepbdjdodmaaDoor
open Go.RowKit

namespace Pl
theorem neg_of {s : ByteArray} (h0 : 0 < s.size) (h : s[0] = 45) : neg s.toList = true := by
  have h1 := get_toList s 0 h0
  rw [h] at h1
  rw [neg, List.head?_eq_getElem?, List.getElem?_eq_getElem (by rw [size_toList]; exact h0), h1]
  rfl
theorem notneg_of {s : ByteArray} (h0 : 0 < s.size) (h : ¬ s[0] = 45) : neg s.toList = false := by
  have h1 := get_toList s 0 h0
  rw [neg, List.head?_eq_getElem?, List.getElem?_eq_getElem (by rw [size_toList]; exact h0), h1]
  simpa using h
theorem notneg_nil {s : ByteArray} (h0 : s.size = 0) : neg s.toList = false := by
  rw [List.eq_nil_of_length_eq_zero (by rw [size_toList]; exact h0 : s.toList.length = 0)]
  rfl
theorem strip_of {s : ByteArray} (hn : neg s.toList = true) : (s.extract 1 s.size).toList = strip s.toList := by
  rw [Lib.extract_toList, strip, hn, if_pos rfl, ← ByteArray.toList_eq, ← List.drop_one, List.take_of_length_le]
  rw [List.length_drop, size_toList]
  exact Nat.le_refl _
theorem ne45 {c : UInt8} (h : ¬ c = 45) : ¬ (c.toNat : Int) = 45 := fun e => h (UInt8.toNat_inj.1 (by simp; omega))
theorem parseI_short {l : List UInt8} {m : Nat} (h : okDig (strip l) m = false) : parseI l m = (0, false) := by
  rw [parseI, h]
  rfl
theorem okDig_len {l : List UInt8} {m : Nat} (h : ¬ (1 ≤ l.length ∧ l.length ≤ m)) : okDig l m = false := by
  rw [okDig]
  by_cases h1 : 1 ≤ l.length
  · rw [decide_eq_false (show ¬ l.length ≤ m from fun h2 => h ⟨h1, h2⟩)]
    simp
  · rw [decide_eq_false h1]
    simp
theorem okDig_dig {l : List UInt8} {m : Nat} (h : allDig l = false) : okDig l m = false := by rw [okDig_pre, h, Bool.and_false]
theorem parseI_pos {l : List UInt8} {m : Nat} (hn : neg l = false) (hd : allDig l = true) (h1 : 1 ≤ l.length) (hm : l.length ≤ m) (b : Bool) (hb : (Lib.itoa (val l : Int) == l) = b) :
    parseI l m = (if b then (val l : Int) else 0, b) := by
  have hs := pos_form hn
  have ht := itoa_test l (by rw [hs]; exact hd) (by rw [hs]; exact h1) m (by rw [hs]; exact hm)
  rw [hn] at ht
  simp only [Bool.false_eq_true, if_false] at ht
  rw [hs] at ht
  rw [parseI, hs, hn]
  cases b
  · have h : ¬ (okDig l m && !(false && (val l == 0))) = true := fun e => by
      have := ht.2 e
      rw [this] at hb
      simp at hb
    rw [if_neg h]
    rfl
  · rw [if_pos (ht.1 (by simpa using hb))]
    rfl
theorem parseI_neg {l t : List UInt8} {m : Nat} (hn : neg l = true) (hs : t = strip l) (hd : allDig t = true) (h1 : 1 ≤ t.length) (hm : t.length ≤ m) (b : Bool) (hb : (Lib.itoa (-(val t : Int)) == l) = b) :
    parseI l m = (if b then -(val t : Int) else 0, b) := by
  subst hs
  have ht := itoa_test l hd h1 m hm
  rw [hn] at ht
  simp only [if_true] at ht
  rw [parseI, hn]
  cases b
  · have h : ¬ (okDig (strip l) m && !(true && (val (strip l) == 0))) = true := fun e => by
      have := ht.2 e
      rw [this] at hb
      simp at hb
    rw [if_neg h]
    rfl
  · rw [if_pos (ht.1 (by simpa using hb))]
    rfl
theorem r_ib {a a' : Int} {b b' : Bool} {x : Int × Bool} (h : x = (a', b')) (h1 : a = a') (h2 : b = b') : Ending.returned (.tuple #[.int .i64 a, .bool b]) = .returned (.tuple #[.int .i64 x.1, .bool x.2]) := by rw [h, h1, h2]
end Pl

theorem sread_any (s : ByteArray) (m : Nat) (hm : m ≤ 12) (hs : s.size ≤ 4611686018427387904) (w : World) : Calls Tryd.prog 63 #[.string s, .int .i64 m] w fun e w' => e = .returned (.tuple #[.int .i64 (Pl.parseI s.toList m).1, .bool (Pl.parseI s.toList m).2]) ∧ Below w.heap.size w w' := by
  by_cases h0 : s.size = 0
  · have hneg := Lib.hid (Pl.notneg_nil h0)
    have HST := Lib.hid (Pl.pos_form hneg.out)
    have HR := Lib.hid (Pl.parseI_short (l := s.toList) (m := m) (by rw [HST.out]; exact Pl.okDig_len (by rw [Pl.size_toList]; omega)))
    have hd0 := decide_eq_false (show ¬ (0 : Int) < (s.size : Int) by omega)
    have hd1 := decide_eq_true (show (s.size : Int) < 1 by omega)
    have hn0 : ¬ 0 < s.size := by omega
    clear h0
    go_enter Tryd.func63, Tryd.ntmps63
    go_wp2
    go_ret2
    exact ⟨Pl.r_ib HR.out rfl rfl, Below.refl _ _⟩
  have h00 : 0 < s.size := by omega
  have hd0 := decide_eq_true (show (0 : Int) < (s.size : Int) by omega)
  by_cases hz : s[0] = 45
  · have hneg := Lib.hid (Pl.neg_of h00 hz)
    have hd4 := beq_iff_eq.2 (show ((s[0].toNat : Int) = 45) by rw [hz]; rfl)
    clear hz
    obtain ⟨t, hx⟩ : ∃ t, s.extract 1 s.size = t := ⟨_, rfl⟩
    have HST := Lib.hid (show Pl.strip s.toList = t.toList by rw [← hx]; exact (Pl.strip_of hneg.out).symm)
    have hts : s.size - 1 = t.size := by rw [← hx]; simp
    by_cases h1 : t.size < 1
    · have HR := Lib.hid (Pl.parseI_short (l := s.toList) (m := m) (by rw [HST.out]; exact Pl.okDig_len (by rw [Pl.size_toList]; omega)))
      have hd1 := decide_eq_true (show (t.size : Int) < 1 by omega)
      go_enter Tryd.func63, Tryd.ntmps63
      go_wp2
      go_ret2
      exact ⟨Pl.r_ib HR.out rfl rfl, Below.refl _ _⟩
    have hd1 := decide_eq_false (show ¬ (t.size : Int) < 1 by omega)
    by_cases h2 : m < t.size
    · have HR := Lib.hid (Pl.parseI_short (l := s.toList) (m := m) (by rw [HST.out]; exact Pl.okDig_len (by rw [Pl.size_toList]; omega)))
      have hd2 := decide_eq_true (show (m : Int) < (t.size : Int) by omega)
      go_enter Tryd.func63, Tryd.ntmps63
      go_wp2
      go_ret2
      exact ⟨Pl.r_ib HR.out rfl rfl, Below.refl _ _⟩
    have hd2 := decide_eq_false (show ¬ (m : Int) < (t.size : Int) by omega)
    go_enter Tryd.func63, Tryd.ntmps63
    go_wp2
    go_loopw [8, 9] (fun v u wr => ∃ j : Nat, j ≤ t.size ∧ u = .int .i64 j ∧ v = .int .i64 (Pl.val (t.toList.take j)) ∧ Hid (Pl.allDig (t.toList.take j) = true) ∧ Below w.heap.size w wr) (fun _ u _ => t.size - (intOf u).toNat)
    case atStart => exact ⟨0, by omega, rfl, rfl, Lib.hid rfl, Below.refl _ _⟩
    case round =>
      obtain ⟨j, hj, rfl, rfl, ha, hb⟩ := hrel
      have hv := Pl.val_small (show j ≤ 12 by omega) ha.out
      by_cases hlt : j < t.size
      · by_cases hl : t[j].toNat < 48
        · have HR := Lib.hid (Pl.parseI_short (l := s.toList) (m := m) (by rw [HST.out]; exact Pl.okDig_dig (Pl.allDig_bad hlt (Pl.notDig_lo hl))))
          have hdl := decide_eq_true (show ((t[j].toNat : Int) < 48) by omega)
          go_wp2
          go_ret2
          exact ⟨Pl.r_ib HR.out rfl rfl, hb⟩
        have hdl := decide_eq_false (show ¬ ((t[j].toNat : Int) < 48) by omega)
        by_cases hg : 57 < t[j].toNat
        · have HR := Lib.hid (Pl.parseI_short (l := s.toList) (m := m) (by rw [HST.out]; exact Pl.okDig_dig (Pl.allDig_bad hlt (Pl.notDig_hi hg))))
          have hdg := decide_eq_true (show ((57 : Int) < (t[j].toNat : Int)) by omega)
          go_wp2
          go_ret2
          exact ⟨Pl.r_ib HR.out rfl rfl, hb⟩
        have hdg := decide_eq_false (show ¬ ((57 : Int) < (t[j].toNat : Int)) by omega)
        have hn := Lib.hid (Pl.val_next hlt)
        have han := Lib.hid (Pl.allDig_next hlt (Pl.dig_in hl hg) ha.out)
        go_wp2
        go_roundw
        case rel => exact ⟨j + 1, by omega, by go_num, by rw [hn.out]; go_num, han, hb⟩
        case measure => simp [intOf]; omega
      · obtain rfl : j = t.size := by omega
        have had : Hid (Pl.allDig t.toList = true) := by rw [Pl.take_all] at ha; exact ha
        rw [Pl.take_all] at hv
        obtain ⟨v, hv'⟩ : ∃ v, v = Pl.val t.toList := ⟨_, rfl⟩
        have HVT := Lib.hid (show Pl.val (t.toList.take t.size) = v by rw [Pl.take_all]; exact hv'.symm)
        have HV := Lib.hid hv'
        rw [← hv'] at hv
        clear hv'
        have hvt := HVT.out
        cases hq : (Lib.itoa (-(v : Int)) == s.toList)
        · have HR := Lib.hid (Pl.parseI_neg (m := m) hneg.out HST.out.symm had.out (by rw [Pl.size_toList]; omega) (by rw [Pl.size_toList]; omega) false (by rw [← HV.out]; exact hq))
          have hq2 : (Lib.itoa (-(v : Int)) != s.toList) = true := by rw [bne, hq]; rfl
          go_wp2_with fail
          refine (sfmtInt_any _ (by omega) (by omega) _).mono ?_
          rintro e w1 ⟨rfl, hb1⟩
          go_wp2
          go_ret2
          exact ⟨Pl.r_ib HR.out rfl rfl, hb.trans (hb1.mono hb.size)⟩
        · have HR := Lib.hid (Pl.parseI_neg (m := m) hneg.out HST.out.symm had.out (by rw [Pl.size_toList]; omega) (by rw [Pl.size_toList]; omega) true (by rw [← HV.out]; exact hq))
          have hq2 : (Lib.itoa (-(v : Int)) != s.toList) = false := by rw [bne, hq]; rfl
          go_wp2_with fail
          refine (sfmtInt_any _ (by omega) (by omega) _).mono ?_
          rintro e w1 ⟨rfl, hb1⟩
          go_wp2
          go_ret2
          exact ⟨Pl.r_ib HR.out (by rw [HV.out]; rfl) rfl, hb.trans (hb1.mono hb.size)⟩
  · have hneg := Lib.hid (Pl.notneg_of h00 hz)
    have hd4 := beq_eq_false_iff_ne.2 (Pl.ne45 hz)
    clear hz
    have HST := Lib.hid (Pl.pos_form hneg.out)
    have hd1 := decide_eq_false (show ¬ (s.size : Int) < 1 by omega)
    by_cases h2 : m < s.size
    · have HR := Lib.hid (Pl.parseI_short (l := s.toList) (m := m) (by rw [HST.out]; exact Pl.okDig_len (by rw [Pl.size_toList]; omega)))
      have hd2 := decide_eq_true (show (m : Int) < (s.size : Int) by omega)
      go_enter Tryd.func63, Tryd.ntmps63
      go_wp2
      go_ret2
      exact ⟨Pl.r_ib HR.out rfl rfl, Below.refl _ _⟩
    have hd2 := decide_eq_false (show ¬ (m : Int) < (s.size : Int) by omega)
    go_enter Tryd.func63, Tryd.ntmps63
    go_wp2
    go_loopw [8, 9] (fun v u wr => ∃ j : Nat, j ≤ s.size ∧ u = .int .i64 j ∧ v = .int .i64 (Pl.val (s.toList.take j)) ∧ Hid (Pl.allDig (s.toList.take j) = true) ∧ Below w.heap.size w wr) (fun _ u _ => s.size - (intOf u).toNat)
    case atStart => exact ⟨0, by omega, rfl, rfl, Lib.hid rfl, Below.refl _ _⟩
    case round =>
      obtain ⟨j, hj, rfl, rfl, ha, hb⟩ := hrel
      have hv := Pl.val_small (show j ≤ 12 by omega) ha.out
      by_cases hlt : j < s.size
      · by_cases hl : s[j].toNat < 48
        · have HR := Lib.hid (Pl.parseI_short (l := s.toList) (m := m) (by rw [HST.out]; exact Pl.okDig_dig (Pl.allDig_bad hlt (Pl.notDig_lo hl))))
          have hdl := decide_eq_true (show ((s[j].toNat : Int) < 48) by omega)
          go_wp2
          go_ret2
          exact ⟨Pl.r_ib HR.out rfl rfl, hb⟩
        have hdl := decide_eq_false (show ¬ ((s[j].toNat : Int) < 48) by omega)
        by_cases hg : 57 < s[j].toNat
        · have HR := Lib.hid (Pl.parseI_short (l := s.toList) (m := m) (by rw [HST.out]; exact Pl.okDig_dig (Pl.allDig_bad hlt (Pl.notDig_hi hg))))
          have hdg := decide_eq_true (show ((57 : Int) < (s[j].toNat : Int)) by omega)
          go_wp2
          go_ret2
          exact ⟨Pl.r_ib HR.out rfl rfl, hb⟩
        have hdg := decide_eq_false (show ¬ ((57 : Int) < (s[j].toNat : Int)) by omega)
        have hn := Lib.hid (Pl.val_next hlt)
        have han := Lib.hid (Pl.allDig_next hlt (Pl.dig_in hl hg) ha.out)
        go_wp2
        go_roundw
        case rel => exact ⟨j + 1, by omega, by go_num, by rw [hn.out]; go_num, han, hb⟩
        case measure => simp [intOf]; omega
      · obtain rfl : j = s.size := by omega
        have had : Hid (Pl.allDig s.toList = true) := by rw [Pl.take_all] at ha; exact ha
        rw [Pl.take_all] at hv
        obtain ⟨v, hv'⟩ : ∃ v, v = Pl.val s.toList := ⟨_, rfl⟩
        have HVT := Lib.hid (show Pl.val (s.toList.take s.size) = v by rw [Pl.take_all]; exact hv'.symm)
        have HV := Lib.hid hv'
        rw [← hv'] at hv
        clear hv'
        have hvt := HVT.out
        cases hq : (Lib.itoa ((v : Int)) == s.toList)
        · have HR := Lib.hid (Pl.parseI_pos (m := m) hneg.out  had.out (by rw [Pl.size_toList]; omega) (by rw [Pl.size_toList]; omega) false (by rw [← HV.out]; exact hq))
          have hq2 : (Lib.itoa ((v : Int)) != s.toList) = true := by rw [bne, hq]; rfl
          go_wp2_with fail
          refine (sfmtInt_any _ (by omega) (by omega) _).mono ?_
          rintro e w1 ⟨rfl, hb1⟩
          go_wp2
          go_ret2
          exact ⟨Pl.r_ib HR.out rfl rfl, hb.trans (hb1.mono hb.size)⟩
        · have HR := Lib.hid (Pl.parseI_pos (m := m) hneg.out  had.out (by rw [Pl.size_toList]; omega) (by rw [Pl.size_toList]; omega) true (by rw [← HV.out]; exact hq))
          have hq2 : (Lib.itoa ((v : Int)) != s.toList) = false := by rw [bne, hq]; rfl
          go_wp2_with fail
          refine (sfmtInt_any _ (by omega) (by omega) _).mono ?_
          rintro e w1 ⟨rfl, hb1⟩
          go_wp2
          go_ret2
          exact ⟨Pl.r_ib HR.out (by rw [HV.out]; rfl) rfl, hb.trans (hb1.mono hb.size)⟩

end Go.Proofs.YtkhmepbdjdodmaaDoor
