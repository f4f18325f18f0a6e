/-
  Plain laws on fractions' texts: the text of a fraction is read back, a fraction lies between its floor and the next integer; no program in sight.
-/
import Derived.Test.YtkhmepbdjdodmaaDoorParseRat
import Derived.Test.YtkhmepbdjdodmaaDoorNumbersPlain
import Derived.Test.YtkhmepbdjdodmaaDoorSplitPlain
namespace Go.Proofs.YtkhmepbdjdodmaaDoor.Pl
open Go.RowKit

theorem decLen_le : ∀ m u : Nat, 1 ≤ m → u < 10 ^ m → (Lib.decDigits u).length ≤ m := by
  intro m
  induction m with
  | zero => intro u h; omega
  | succ m ih =>
    intro u _ hu
    rw [Lib.decDigits_length]
    by_cases h : u < 10
    · rw [Lib.nDigits_small h]
      omega
    · rw [Lib.nDigits_big h]
      rw [Nat.pow_succ] at hu
      have hm : 1 ≤ m := by
        rcases Nat.eq_zero_or_pos m with rfl | h1
        · simp at hu
          omega
        · exact h1
      have := ih (u / 10) hm (by omega)
      rw [Lib.decDigits_length] at this
      omega
/-- a text of an integer has no '/' -/
theorem itoa_noSlash (n : Int) : ∀ c ∈ Lib.itoa n, c ≠ 47 := by
  have hd : ∀ k : Nat, ∀ c ∈ Lib.decDigits k, c ≠ 47 := fun k c hc => by
    obtain ⟨h1, _, _, _⟩ := dec_ok k
    have h2 := List.all_eq_true.1 h1 c hc
    rw [isDig_iff] at h2
    intro e
    subst e
    simp at h2
  by_cases h : 0 ≤ n
  · obtain ⟨k, rfl⟩ : ∃ k : Nat, n = k := ⟨n.toNat, by omega⟩
    rw [itoa_nat]
    exact hd k
  · obtain ⟨k, rfl⟩ : ∃ k : Nat, n = -(k : Int) := ⟨n.natAbs, by omega⟩
    rw [itoa_negN k (by omega)]
    intro c hc
    rcases List.mem_cons.1 hc with rfl | hc
    · decide
    · exact hd k c hc
theorem isAt_list {l : List UInt8} {i : Nat} : isAt ⟨l.toArray⟩ 47 i = ((l.getD i 0).toNat == 47) := by
  unfold isAt
  rw [show (⟨l.toArray⟩ : ByteArray).toList = l from by rw [ByteArray.toList_eq]]
  rw [Bool.eq_iff_iff, beq_iff_eq, beq_iff_eq]
  omega
theorem isAt_no {l : List UInt8} (h : ∀ c ∈ l, c ≠ 47) {i : Nat} : isAt ⟨l.toArray⟩ 47 i = false := by
  rw [isAt_list, beq_eq_false_iff_ne]
  by_cases hi : i < l.length
  · rw [List.getD, List.getElem?_eq_getElem hi]
    intro e
    exact h _ (List.getElem_mem hi) (UInt8.toNat_inj.1 e)
  · rw [List.getD, List.getElem?_eq_none (by omega)]
    decide
theorem split_whole {l : List UInt8} (h : ∀ c ∈ l, c ≠ 47) : split ⟨l.toArray⟩ 47 = [⟨l.toArray⟩] := by
  rw [split, parts_none _ (fun k _ => isAt_no h)]
  simp only [List.nil_append]
  congr 1
  exact ByteArray.extract_zero_size
theorem parts_from {s : ByteArray} {b : Int} {m : Nat} {L : List ByteArray} {st : Nat} (h0 : parts s b m = (L, st)) : ∀ n, m ≤ n → (∀ k, m ≤ k → k < n → isAt s b k = false) → parts s b n = (L, st)
  | 0, hm, _ => by
    obtain rfl : m = 0 := by omega
    exact h0
  | n + 1, hm, h => by
    by_cases e : m = n + 1
    · rw [← e]
      exact h0
    · rw [parts_no (h n (by omega) (by omega)), parts_from h0 n (by omega) (fun k k1 k2 => h k k1 (by omega))]
theorem split_two {l m : List UInt8} (hl : ∀ c ∈ l, c ≠ 47) (hm : ∀ c ∈ m, c ≠ 47) : split ⟨(l ++ 47 :: m).toArray⟩ 47 = [⟨l.toArray⟩, ⟨m.toArray⟩] := by
  have hsz : (⟨(l ++ 47 :: m).toArray⟩ : ByteArray).size = l.length + 1 + m.length := by
    show (l ++ 47 :: m).toArray.size = _
    rw [List.size_toArray, List.length_append, List.length_cons]
    omega
  have h1 : parts ⟨(l ++ 47 :: m).toArray⟩ 47 l.length = ([], 0) := parts_none _ fun k hk => by
    rw [isAt_list, beq_eq_false_iff_ne, List.getD, List.getElem?_append_left hk, List.getElem?_eq_getElem hk]
    intro e
    exact hl _ (List.getElem_mem hk) (UInt8.toNat_inj.1 e)
  have h2 : isAt ⟨(l ++ 47 :: m).toArray⟩ 47 l.length = true := by
    rw [isAt_list, List.getD, List.getElem?_append_right (Nat.le_refl _), Nat.sub_self]
    rfl
  have h3 := parts_yes h2
  rw [h1] at h3
  have h4 := parts_from h3 (l.length + 1 + m.length) (by omega) (fun k k1 k2 => by
    rw [isAt_list, beq_eq_false_iff_ne, List.getD, List.getElem?_append_right (by omega), show k - l.length = (k - l.length - 1) + 1 by omega, List.getElem?_cons_succ, List.getElem?_eq_getElem (show k - l.length - 1 < m.length by omega)]
    intro e
    exact hm _ (List.getElem_mem _) (UInt8.toNat_inj.1 e))
  rw [split, hsz, h4]
  simp only [List.nil_append, List.singleton_append]
  have e1 : (⟨(l ++ 47 :: m).toArray⟩ : ByteArray).extract 0 l.length = ⟨l.toArray⟩ := by
    apply ByteArray.ext
    rw [ByteArray.data_extract]
    simp
  have e2 : (⟨(l ++ 47 :: m).toArray⟩ : ByteArray).extract (l.length + 1) (l.length + 1 + m.length) = ⟨m.toArray⟩ := by
    apply ByteArray.ext
    rw [ByteArray.data_extract]
    simp [List.drop_append]
    rw [List.drop_eq_nil_of_le (Nat.le_succ _), List.nil_append, List.take_length]
  rw [e1, e2]
theorem parseI_small {n : Int} (h0 : -1000000000 ≤ n) (h1 : n ≤ 1000000000) : parseI (Lib.itoa n) 12 = (n, true) := by
  have hl : ∀ k : Nat, k ≤ 1000000000 → (Lib.decDigits k).length ≤ 10 := fun k hk => by
    exact decLen_le 10 k (by omega) (by have : (10 : Nat) ^ 10 = 10000000000 := by decide
                                        omega)
  obtain ⟨p1, p2⟩ := parseI_itoa n
  have ht : (parseI (Lib.itoa n) 12).2 = true := by
    rw [p1]
    by_cases h : 0 ≤ n
    · obtain ⟨k, rfl⟩ : ∃ k : Nat, n = k := ⟨n.toNat, by omega⟩
      rw [itoa_nat]
      have := hl k (by omega)
      rw [decide_eq_true (show (Lib.decDigits k).length ≤ 12 by omega), Bool.true_or]
    · obtain ⟨k, rfl⟩ : ∃ k : Nat, n = -(k : Int) := ⟨n.natAbs, by omega⟩
      rw [itoa_negN k (by omega), List.length_cons]
      have := hl k (by omega)
      rw [decide_eq_true (show (Lib.decDigits k).length + 1 ≤ 12 by omega), Bool.true_or]
  exact Prod.ext (p2 ht) ht
/-- a fraction's text is read back -/
theorem parseR_fmtR (n d : Int) : (valid n d = true → parseR ⟨(fmtR n d).toArray⟩ = (n, d, true)) ∧ (valid n d = false → parseR ⟨(fmtR n d).toArray⟩ = (0, 0, false)) := by
  constructor
  · intro hv
    obtain ⟨b1, b2, b3, b4⟩ := valid_bounds hv
    have tl : ∀ l : List UInt8, (⟨l.toArray⟩ : ByteArray).toList = l := fun l => by rw [ByteArray.toList_eq]
    by_cases h1 : d = 1
    · subst h1
      have hz := split_whole (itoa_noSlash n)
      rw [fmtR_one hv rfl]
      refine pR_good (a := (n, true)) (b := (1, true)) hz.symm ?_ ?_ ?_
      · rw [List.getD_cons_zero, tl]
        exact (parseI_small b3 b4).symm
      · rfl
      · simp only [Bool.true_and, tl]
        rw [fmtR_one hv rfl]
        simp
    · have hz := split_two (itoa_noSlash n) (itoa_noSlash d)
      rw [fmtR_two hv h1]
      refine pR_good (a := (n, true)) (b := (d, true)) hz.symm ?_ ?_ ?_
      · rw [List.getD_cons_zero, tl]
        exact (parseI_small b3 b4).symm
      · rw [if_pos (by simp), List.getD_cons_succ, List.getD_cons_zero, tl]
        exact (parseI_small (by omega) b2).symm
      · simp only [Bool.true_and, tl]
        rw [fmtR_two hv h1]
        simp
  · intro hv
    rw [fmtR_bad hv]
    decide +kernel
theorem if_true {c : Bool} {a b : Int} (h : (if c = true then (a, b, true) else ((0 : Int), (0 : Int), false)).2.2 = true) : c = true := by
  cases c
  · cases h
  · rfl
theorem parseR_text {s : ByteArray} (h : (parseR s).2.2 = true) : fmtR (parseR s).1 (parseR s).2.1 = s.toList := by
  simp only [parseR] at h ⊢
  have hc := if_true h
  rw [if_pos hc]
  simp only [Bool.and_eq_true, beq_iff_eq] at hc
  exact hc.2
theorem floor_law {n d : Int} (hv : valid n d = true) : floor n d * d ≤ n ∧ n < (floor n d + 1) * d ∧ ((d == 1) = (floor n d * d == n)) := by
  obtain ⟨b1, b2, b3, b4⟩ := valid_bounds hv
  have hg : Int.gcd n d = 1 := by
    simp only [valid, Bool.and_eq_true, beq_iff_eq] at hv
    omega
  have e : floor n d = n / d := by
    unfold floor
    rw [if_pos hv]
    have h1 := Int.mul_tdiv_add_tmod n d
    have h2 := Int.mul_ediv_add_emod n d
    have h3 := Int.emod_nonneg n (show d ≠ 0 by omega)
    have h4 := Int.emod_lt_of_pos n (show 0 < d by omega)
    split
    · rename_i hm
      rw [Int.tdiv_eq_ediv]
      by_cases hn : 0 ≤ n
      · have := Int.tmod_nonneg d hn
        omega
      · have hnd : ¬ d ∣ n := fun hdv => by
          have : n.tmod d = 0 := Int.tmod_eq_zero_of_dvd hdv
          omega
        rw [if_neg (by simp [hn, hnd])]
        rw [Int.sign_eq_one_of_pos (by omega)]
        omega
    · rename_i hm
      rw [Int.tdiv_eq_ediv]
      by_cases hn : 0 ≤ n ∨ d ∣ n
      · rw [if_pos hn, Int.add_zero]
      · exfalso
        simp only [not_or] at hn
        have h5 : n.tmod d ≤ 0 := by
          have := Int.tmod_nonneg d (show 0 ≤ -n by omega)
          rw [Int.neg_tmod] at this
          omega
        have h6 : n.tmod d ≠ 0 := fun h0 => hn.2 (Int.dvd_of_tmod_eq_zero h0)
        omega
  rw [e]
  have h2 := Int.mul_ediv_add_emod n d
  have h3 := Int.emod_nonneg n (show d ≠ 0 by omega)
  have h4 := Int.emod_lt_of_pos n (show 0 < d by omega)
  rw [Int.mul_comm] at h2
  refine ⟨by omega, by rw [Int.add_mul]; omega, ?_⟩
  rw [Bool.eq_iff_iff, beq_iff_eq, beq_iff_eq]
  constructor
  · rintro rfl
    simp
  · intro h
    have hdv : d ∣ n := ⟨n / d, by rw [Int.mul_comm]; exact h.symm⟩
    have h5 : d ∣ (Int.gcd n d : Int) := Int.dvd_coe_gcd hdv (Int.dvd_refl d)
    rw [hg] at h5
    have := Int.le_of_dvd (by decide) h5
    omega

end Go.Proofs.YtkhmepbdjdodmaaDoor.Pl
