/-
  Decimal numbers as lists of bytes: which lists are the decimal representation of a number, and of which; no program in sight.
-/
import Derived.Lib.ItoaNum
import Derived.Lib.ItoaMem
namespace Go.Proofs.YtkhmepbdjdodmaaDoor.Pl

theorem revInd {α : Type} {P : List α → Prop} (h0 : P []) (h1 : ∀ l c, P l → P (l ++ [c])) (l : List α) : P l := by
  have : ∀ (n : Nat) (l : List α), l.length = n → P l := by
    intro n
    induction n with
    | zero =>
      intro l hl
      rw [List.eq_nil_of_length_eq_zero hl]
      exact h0
    | succ n ih =>
      intro l hl
      have hne : l ≠ [] := by
        rintro rfl
        simp at hl
      rw [← List.dropLast_concat_getLast hne]
      exact h1 _ _ (ih _ (by simp [hl]))
  exact this _ l rfl
def isDig (c : UInt8) : Bool := decide (48 ≤ c.toNat) && decide (c.toNat ≤ 57)
theorem isDig_iff {c : UInt8} : isDig c = true ↔ 48 ≤ c.toNat ∧ c.toNat ≤ 57 := by simp [isDig]
/-- the number that the digits say -/
def valTo (n : Nat) : List UInt8 → Nat
  | [] => n
  | c :: l => valTo (10 * n + (c.toNat - 48)) l
def val (l : List UInt8) : Nat := valTo 0 l
theorem valTo_append (l : List UInt8) (c : UInt8) : ∀ n, valTo n (l ++ [c]) = 10 * valTo n l + (c.toNat - 48) := by
  induction l with
  | nil => intro n; rfl
  | cons d l ih => intro n; exact ih _
theorem val_nil : val [] = 0 := rfl
theorem val_snoc (l : List UInt8) (c : UInt8) : val (l ++ [c]) = 10 * val l + (c.toNat - 48) := valTo_append l c 0
def allDig (l : List UInt8) : Bool := l.all isDig
/-- a digit string without a leading zero (but for 0 alone), of at most 'most' digits -/
def okDig (l : List UInt8) (most : Nat) : Bool := decide (1 ≤ l.length) && decide (l.length ≤ most) && !(decide (1 < l.length) && (l.headD 0 == 48)) && allDig l
theorem val_lt (l : List UInt8) : allDig l = true → val l < 10 ^ l.length := by
  refine revInd (P := fun l => allDig l = true → val l < 10 ^ l.length) (fun _ => Nat.one_pos) (fun l c ih h => ?_) l
  · show val (l ++ [c]) < 10 ^ (l ++ [c]).length
    rw [val_snoc]
    simp only [allDig, List.all_append, Bool.and_eq_true, List.all_cons, List.all_nil, Bool.and_true] at h
    have h1 := ih h.1
    have h2 := isDig_iff.1 h.2
    have h3 : (10 : Nat) ^ (l ++ [c]).length = 10 * 10 ^ l.length := by
      rw [List.length_append, show ([c] : List UInt8).length = 1 from rfl, Nat.pow_succ, Nat.mul_comm]
    rw [h3]
    revert h1
    generalize (10 : Nat) ^ l.length = p
    intro h1
    omega
theorem val_pos (l : List UInt8) : allDig l = true → 1 ≤ l.length → l.headD 0 ≠ 48 → 1 ≤ val l := by
  apply revInd (P := fun l => allDig l = true → 1 ≤ l.length → l.headD 0 ≠ 48 → 1 ≤ val l) _ _ l
  · intro _ h1
    simp at h1
  · intro l c ih h h1 h0
    rw [val_snoc]
    simp only [allDig, List.all_append, Bool.and_eq_true, List.all_cons, List.all_nil, Bool.and_true] at h
    have h2 := isDig_iff.1 h.2
    cases l with
    | nil =>
      have h3 : c ≠ 48 := h0
      have h4 : c.toNat ≠ 48 := fun e => h3 (UInt8.toNat_inj.1 e)
      rw [val_nil]
      clear h0 h1 ih
      omega
    | cons d l =>
      have := ih h.1 (by simp) h0
      omega
theorem ofNat_dig (c : UInt8) (h : isDig c = true) : UInt8.ofNat (48 + (c.toNat - 48)) = c := by
  have h2 := isDig_iff.1 h
  rw [show 48 + (c.toNat - 48) = c.toNat by omega]
  simp
/-- a canonical digit string is the representation of its number -/
theorem dec_val (l : List UInt8) : allDig l = true → 1 ≤ l.length → (l.length = 1 ∨ l.headD 0 ≠ 48) → Lib.decDigits (val l) = l := by
  apply revInd (P := fun l => allDig l = true → 1 ≤ l.length → (l.length = 1 ∨ l.headD 0 ≠ 48) → Lib.decDigits (val l) = l) _ _ l
  · intro _ h1
    simp at h1
  · intro l c ih h h1 h0
    rw [val_snoc]
    simp only [allDig, List.all_append, Bool.and_eq_true, List.all_cons, List.all_nil, Bool.and_true] at h
    have h2 := isDig_iff.1 h.2
    have hc := ofNat_dig c h.2
    cases l with
    | nil =>
      rw [val_nil, Nat.mul_zero, Nat.zero_add]
      rw [Lib.decDigits, dif_pos (by omega), hc]
      rfl
    | cons d l =>
      have hd : (d :: l).headD 0 ≠ 48 := by
        rcases h0 with h0 | h0
        · simp at h0
        · exact h0
      have hp := val_pos (d :: l) h.1 (by simp) hd
      rw [Lib.decDigits, dif_neg (by omega), show (10 * val (d :: l) + (c.toNat - 48)) / 10 = val (d :: l) by omega, show (10 * val (d :: l) + (c.toNat - 48)) % 10 = c.toNat - 48 by omega, hc,
        ih h.1 (by simp) (Or.inr hd)]
/-- the representation of a number is canonical -/
theorem dec_ok (n : Nat) : allDig (Lib.decDigits n) = true ∧ 1 ≤ (Lib.decDigits n).length ∧ (n = 0 ∧ Lib.decDigits n = [48] ∨ (Lib.decDigits n).headD 0 ≠ 48) ∧ val (Lib.decDigits n) = n := by
  induction n using Nat.strongRecOn with
  | _ n ih =>
    by_cases h : n < 10
    · rw [Lib.decDigits, dif_pos h]
      have ht : (UInt8.ofNat (48 + n)).toNat = 48 + n := by simp; omega
      refine ⟨by simp [allDig, isDig_iff]; omega, by simp, ?_, ?_⟩
      · by_cases h0 : n = 0
        · subst h0
          exact Or.inl ⟨rfl, rfl⟩
        · right
          intro e
          have : (UInt8.ofNat (48 + n)).toNat = 48 := by
            rw [show UInt8.ofNat (48 + n) = 48 from e]
            rfl
          omega
      · show 10 * 0 + ((UInt8.ofNat (48 + n)).toNat - 48) = n
        rw [ht]
        omega
    · rw [Lib.decDigits, dif_neg h]
      obtain ⟨i1, i2, i3, i4⟩ := ih (n / 10) (by omega)
      have ht : (UInt8.ofNat (48 + n % 10)).toNat = 48 + n % 10 := by simp; omega
      refine ⟨?_, by simp, ?_, ?_⟩
      · simp only [allDig, List.all_append, Bool.and_eq_true, List.all_cons, List.all_nil, Bool.and_true]
        exact ⟨i1, by rw [isDig_iff]; omega⟩
      · right
        rcases i3 with ⟨e, _⟩ | i3
        · omega
        · revert i2 i3
          cases Lib.decDigits (n / 10) with
          | nil => simp
          | cons d l => intro _ h; exact h
      · rw [val_snoc, i4]
        omega
theorem okDig_iff {l : List UInt8} {most : Nat} : okDig l most = true ↔ 1 ≤ l.length ∧ l.length ≤ most ∧ (l.length = 1 ∨ l.headD 0 ≠ 48) ∧ allDig l = true := by
  simp only [okDig, Bool.and_eq_true, decide_eq_true_eq, Bool.not_eq_true', Bool.and_eq_false_imp, beq_eq_false_iff_ne]
  constructor
  · rintro ⟨⟨⟨h1, h2⟩, h3⟩, h4⟩
    refine ⟨h1, h2, ?_, h4⟩
    by_cases h : l.length = 1
    · exact Or.inl h
    · exact Or.inr (h3 (by omega))
  · rintro ⟨h1, h2, h3, h4⟩
    refine ⟨⟨⟨h1, h2⟩, fun h => ?_⟩, h4⟩
    rcases h3 with h3 | h3
    · omega
    · exact h3
theorem okDig_dec {l : List UInt8} {most : Nat} (h : okDig l most = true) : Lib.decDigits (val l) = l := by
  obtain ⟨h1, _, h3, h4⟩ := okDig_iff.1 h
  exact dec_val l h4 h1 h3

/-- 'readDigits' -/
def readD (l : List UInt8) (most : Nat) : Int := if okDig l most then (val l : Int) else -1
/-- a leading '-' -/
def neg (l : List UInt8) : Bool := l.head? == some 45
def strip (l : List UInt8) : List UInt8 := if neg l then l.tail else l
/-- 'ParseInt', 'l1Read' -/
def parseI (l : List UInt8) (most : Nat) : Int × Bool :=
  if okDig (strip l) most && !(neg l && (val (strip l) == 0)) then (if neg l then -(val (strip l) : Int) else (val (strip l) : Int), true) else (0, false)
/-- 'ParseNumber' -/
def parseN (l : List UInt8) : Int × Bool := if okDig l 6 then ((val l : Int), true) else (0, false)

theorem neg_form {l : List UInt8} (h : neg l = true) : l = 45 :: strip l := by
  cases l with
  | nil => simp [neg] at h
  | cons c l =>
    have : c = 45 := by simpa [neg] using h
    subst this
    simp [strip, neg]
theorem pos_form {l : List UInt8} (h : neg l = false) : strip l = l := by simp [strip, h]
theorem itoa_nat (n : Nat) : Lib.itoa (n : Int) = Lib.decDigits n := Lib.itoa_nonneg n
theorem itoa_negN (n : Nat) (h : 1 ≤ n) : Lib.itoa (-(n : Int)) = 45 :: Lib.decDigits n := Lib.itoa_neg n h
/-- what the reference's test asks -/
theorem itoa_test (l : List UInt8) (hd : allDig (strip l) = true) (h1 : 1 ≤ (strip l).length) (most : Nat) (hm : (strip l).length ≤ most) :
    (Lib.itoa (if neg l then -(val (strip l) : Int) else (val (strip l) : Int)) = l) ↔ (okDig (strip l) most && !(neg l && (val (strip l) == 0))) = true := by
  have hlead : ∀ t : List UInt8, allDig t = true → 1 ≤ t.length → (Lib.decDigits (val t) = t ↔ (t.length = 1 ∨ t.headD 0 ≠ 48)) := by
    intro t ht h1
    constructor
    · intro e
      obtain ⟨_, _, h3, _⟩ := dec_ok (val t)
      rcases h3 with ⟨_, h3⟩ | h3
      · rw [h3] at e
        left
        rw [← e]
        rfl
      · right
        rw [e] at h3
        exact h3
    · intro h
      exact dec_val t ht h1 h
  cases hn : neg l
  · have hs := pos_form hn
    rw [hs] at hd h1 hm ⊢
    simp only [Bool.false_eq_true, if_false, Bool.false_and, Bool.not_false, Bool.and_true]
    rw [itoa_nat, hlead l hd h1, okDig_iff]
    constructor
    · intro h
      exact ⟨h1, hm, h, hd⟩
    · intro h
      exact h.2.2.1
  · have hs := neg_form hn
    simp only [if_true, Bool.true_and, Bool.and_eq_true, Bool.not_eq_true', beq_eq_false_iff_ne]
    by_cases h0 : val (strip l) = 0
    · rw [h0]
      constructor
      · intro e
        have e2 : Lib.itoa (-((0 : Nat) : Int)) = [48] := by decide +kernel
        rw [e2, hs] at e
        injection e with e1 _
        simp at e1
      · rintro ⟨_, h⟩
        exact absurd rfl h
    · rw [itoa_negN _ (by omega)]
      constructor
      · intro e
        have e2 : Lib.decDigits (val (strip l)) = strip l := by
          have := e.trans hs
          injection this
        exact ⟨okDig_iff.2 ⟨h1, hm, (hlead _ hd h1).1 e2, hd⟩, h0⟩
      · rintro ⟨h, _⟩
        rw [okDig_dec h]
        exact hs.symm

end Go.Proofs.YtkhmepbdjdodmaaDoor.Pl
