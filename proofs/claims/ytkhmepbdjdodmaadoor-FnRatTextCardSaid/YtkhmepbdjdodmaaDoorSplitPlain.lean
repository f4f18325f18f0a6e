/-
  Plain laws on splitting: the parts joined at the separator are the text again, and no part holds the separator; no program in sight.
-/
import Derived.Test.YtkhmepbdjdodmaaDoorSplit
import Derived.Lib.Join
namespace Go.Proofs.YtkhmepbdjdodmaaDoor.Pl
open Go.RowKit

theorem parts_none {s : ByteArray} {b : Int} : ∀ n, (∀ k, k < n → isAt s b k = false) → parts s b n = ([], 0)
  | 0, _ => rfl
  | n + 1, h => by rw [parts_no (h n (by omega)), parts_none n (fun k hk => h k (by omega))]
theorem split_one {p : ByteArray} {b : Int} (h : ∀ k, k < p.size → isAt p b k = false) : (split p b).length = 1 := by
  rw [split, parts_none p.size h]
  rfl
theorem isAt_ext {s : ByteArray} {b : Int} {st i k : Nat} (hk : k < i - st) : isAt (s.extract st i) b k = isAt s b (st + k) := by
  unfold isAt
  rw [Lib.extract_toList, List.getD, List.getD, List.getElem?_take_of_lt hk, List.getElem?_drop, ← ByteArray.toList_eq]
theorem parts_clean (s : ByteArray) (b : Int) : ∀ i, i ≤ s.size → (∀ k, (parts s b i).2 ≤ k → k < i → isAt s b k = false) ∧ ∀ p ∈ (parts s b i).1, ∀ k, k < p.size → isAt p b k = false
  | 0, _ => ⟨fun k _ h => absurd h (by omega), fun p hp => by cases hp⟩
  | i + 1, hi => by
    obtain ⟨h1, h2⟩ := parts_clean s b i (by omega)
    cases he : isAt s b i
    · rw [parts_no he]
      refine ⟨fun k k1 k2 => ?_, h2⟩
      rcases Nat.lt_or_ge k i with h | h
      · exact h1 k k1 h
      · obtain rfl : k = i := by omega
        exact he
    · rw [parts_yes he]
      refine ⟨fun k k1 k2 => absurd k1 (by simp only; omega), fun p hp => ?_⟩
      rw [List.mem_append] at hp
      rcases hp with hp | hp
      · exact h2 p hp
      · rw [List.mem_singleton] at hp
        subst hp
        intro k hk
        rw [ByteArray.size_extract] at hk
        rw [isAt_ext (by omega)]
        exact h1 _ (by omega) (by omega)
theorem split_clean (s : ByteArray) (b : Int) : ∀ p ∈ split s b, (split p b).length = 1 := by
  intro p hp
  obtain ⟨h1, h2⟩ := parts_clean s b s.size (Nat.le_refl _)
  rw [split, List.mem_append] at hp
  rcases hp with hp | hp
  · exact split_one (h2 p hp)
  · rw [List.mem_singleton] at hp
    subst hp
    refine split_one fun k hk => ?_
    rw [ByteArray.size_extract] at hk
    rw [isAt_ext (by omega)]
    exact h1 _ (by omega) (by omega)

theorem joinTail_app (sep : List UInt8) (r t : List (List UInt8)) : Lib.joinTail sep (r ++ t) = Lib.joinTail sep r ++ Lib.joinTail sep t := by simp [Lib.joinTail]
theorem join_grow (l : List (List UInt8)) (x y sep : List UInt8) : Lib.join (l ++ [x ++ y]) sep = Lib.join (l ++ [x]) sep ++ y := by
  cases l with
  | nil => simp only [List.nil_append, Lib.join_one]
  | cons z r =>
    simp only [List.cons_append]
    rw [Lib.join_cons, Lib.join_cons, joinTail_app, joinTail_app]
    simp [Lib.joinTail]
theorem join_more (l : List (List UInt8)) (x y sep : List UInt8) : Lib.join (l ++ [x] ++ [y]) sep = Lib.join (l ++ [x]) sep ++ sep ++ y := by
  cases l with
  | nil =>
    simp only [List.nil_append, List.singleton_append]
    rw [Lib.join_cons, Lib.join_one]
    simp [Lib.joinTail]
  | cons z r =>
    simp only [List.cons_append]
    rw [Lib.join_cons, Lib.join_cons, joinTail_app]
    simp [Lib.joinTail]
theorem parts_join (s : ByteArray) (b : Int) (hb0 : 0 ≤ b) (hb1 : b < 256) : ∀ i, i ≤ s.size →
    Lib.join ((parts s b i).1.map ByteArray.toList ++ [(s.extract (parts s b i).2 i).toList]) [UInt8.ofNat b.toNat] = s.toList.take i
  | 0, _ => by
    rw [show (parts s b 0) = ([], 0) from rfl]
    simp only [List.map_nil, List.nil_append, Lib.join_one]
    rw [Lib.extract_toList]
    simp
  | i + 1, hi => by
    have ih := parts_join s b hb0 hb1 i (by omega)
    have hle := (parts_le s b i).2
    rw [take_toList s i (by omega), ← ih]
    cases he : isAt s b i
    · rw [parts_no he]
      have : (s.extract (parts s b i).2 (i + 1)).toList = (s.extract (parts s b i).2 i).toList ++ [s[i]] := by
        rw [Lib.extract_toList, Lib.extract_toList, show i + 1 - (parts s b i).2 = (i - (parts s b i).2) + 1 by omega, List.take_succ_eq_append_getElem (by rw [List.length_drop, ← ByteArray.toList_eq, size_toList]; omega)]
        congr 2
        rw [List.getElem_drop, ← get_toList s i (by omega)]
        simp only [ByteArray.toList_eq]
        congr 1
        omega
      rw [this, join_grow]
    · rw [parts_yes he]
      rw [isAt_in (by omega), beq_iff_eq] at he
      have hx : UInt8.ofNat b.toNat = s[i] := by
        rw [← he]
        simp
      have h0 : (s.extract (i + 1) (i + 1)).toList = [] := by
        rw [Lib.extract_toList]
        simp
      simp only [List.map_append, List.map_cons, List.map_nil]
      rw [h0, join_more, hx]
      simp
theorem split_join (s : ByteArray) (b : Int) (hb0 : 0 ≤ b) (hb1 : b < 256) : Lib.join ((split s b).map ByteArray.toList) [UInt8.ofNat b.toNat] = s.toList := by
  have h := parts_join s b hb0 hb1 s.size (Nat.le_refl _)
  rw [take_all] at h
  rw [← h, split, List.map_append]
  rfl

end Go.Proofs.YtkhmepbdjdodmaaDoor.Pl
