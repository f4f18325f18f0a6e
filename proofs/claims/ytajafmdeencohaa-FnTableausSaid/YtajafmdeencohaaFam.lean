/-
  A family of own rows, each in a block of its own; an LP of the call's own as such a family.
-/
import Derived.Test.YtajafmdeencohaaGrow
import Derived.Test.YtajafmdeencohaaLpValid
namespace Go.Proofs.Ytajafmdeencohaa
open Go.RowKit

/-- own rows, no two of which share a block -/
structure Fam (w : World) (lo n : Nat) (V : Nat → Value) (T : Nat → TypeId) (S L : Nat → Nat) (X : Nat → List Value) : Prop where
  own : ∀ i, i < n → w.ownsRow lo (T i) (S i) (V i) (L i) (X i)
  ne : ∀ i j, i < n → j < n → i ≠ j → ∀ g, (V i).ownBlock = some g → (V j).ownBlock ≠ some g
section
variable {w w' : World} {lo n : Nat} {V V' : Nat → Value} {T : Nat → TypeId} {S L L' : Nat → Nat} {X X' : Nat → List Value}
theorem Fam.below (h : Fam w lo n V T S L X) (hb : Below w.heap.size w w') : Fam w' lo n V T S L X := ⟨fun i hi => own_below (h.own i hi) hb, h.ne⟩
theorem Fam.off (h : Fam w lo n V T S L X) {row : Option Nat} (hg : w.grownBy w' row) (hd : ∀ g, row = some g → g < lo) : Fam w' lo n V T S L X :=
  ⟨fun i hi => own_off (h.own i hi) hg (fun g hv e => by
    have h1 := ((h.own i hi).lt g hv).1
    have h2 := hd g e
    omega), h.ne⟩
/-- row i written or appended to -/
theorem Fam.upd (h : Fam w lo n V T S L X) {i : Nat} (hi : i < n) (hg : w.grownBy w' (V i).ownBlock) (ho : w'.ownsRow lo (T i) (S i) (V' i) (L' i) (X' i)) (hb : ∀ g, (V' i).ownBlock = some g → (V i).ownBlock = some g ∨ w.heap.size ≤ g)
    (hk : ∀ k, k < n → k ≠ i → V' k = V k ∧ L' k = L k ∧ X' k = X k) : Fam w' lo n V' T S L' X' := by
  refine ⟨fun k hk' => ?_, fun k j hk' hj hkj g hgk hgj => ?_⟩
  · by_cases e : k = i
    · subst e
      exact ho
    · obtain ⟨e1, e2, e3⟩ := hk k hk' e
      rw [e1, e2, e3]
      exact own_off (h.own k hk') hg (fun g hv e2 => h.ne k i hk' hi e g hv e2)
  · by_cases e : k = i
    · subst e
      have e1 := (hk j hj (fun e => hkj e.symm)).1
      rw [e1] at hgj
      rcases hb g hgk with h1 | h1
      · exact h.ne k j hk' hj hkj g h1 hgj
      · have := ((h.own j hj).lt g hgj).2
        omega
    · have e1 := (hk k hk' e).1
      rw [e1] at hgk
      by_cases e2 : j = i
      · subst e2
        rcases hb g hgj with h1 | h1
        · exact h.ne k j hk' hj hkj g hgk h1
        · have := ((h.own k hk').lt g hgk).2
          omega
      · have e3 := (hk j hj e2).1
        rw [e3] at hgj
        exact h.ne k j hk' hj hkj g hgk hgj
/-- a new row, in a block behind all of the family's -/
theorem Fam.push (h : Fam w lo n V T S L X) {l : Nat} (hl : ∀ i, i < n → ∀ g, (V i).ownBlock = some g → g < l) (hlo : lo ≤ l) (ho : w.ownsRow l (T n) (S n) (V' n) (L' n) (X' n)) (hk : ∀ k, k < n → V' k = V k ∧ L' k = L k ∧ X' k = X k) : Fam w lo (n + 1) V' T S L' X' := by
  refine ⟨fun k hk' => ?_, fun k j hk' hj hkj g hgk hgj => ?_⟩
  · by_cases e : k = n
    · subst e
      exact own_low ho hlo
    · obtain ⟨e1, e2, e3⟩ := hk k (by omega)
      rw [e1, e2, e3]
      exact h.own k (by omega)
  · by_cases e : k = n
    · subst e
      have e1 := (hk j (by omega)).1
      rw [e1] at hgj
      have h1 := (ho.lt g hgk).1
      have h2 := hl j (by omega) g hgj
      omega
    · have e1 := (hk k (by omega)).1
      rw [e1] at hgk
      by_cases e2 : j = n
      · subst e2
        have h1 := (ho.lt g hgj).1
        have h2 := hl k (by omega) g hgk
        omega
      · have e3 := (hk j (by omega)).1
        rw [e3] at hgj
        exact h.ne k j (by omega) (by omega) hkj g hgk hgj
theorem Fam.lt (h : Fam w lo n V T S L X) : ∀ i, i < n → ∀ g, (V i).ownBlock = some g → g < w.heap.size := fun i hi g hg => ((h.own i hi).lt g hg).2
end
def lpV (A B C : Value) (R : Nat → Value) : Nat → Value
  | 0 => A
  | 1 => B
  | 2 => C
  | i + 3 => R i
def lpT : Nat → TypeId
  | 0 => 23
  | 1 => 3
  | 2 => 66
  | _ + 3 => 3
def lpS : Nat → Nat
  | 0 => 1
  | 1 => 1
  | 2 => 2
  | _ + 3 => 1
def lpL (a b c : Nat) (RN : Nat → Nat) : Nat → Nat
  | 0 => a
  | 1 => b
  | 2 => c
  | i + 3 => RN i
def lpX (a b c : Nat) (RN : Nat → Nat) (R : Nat → Value) (RV : Nat → Nat → Int) (BV : Nat → Int) (CV : Fr) : Nat → List Value
  | 0 => (List.range a).map R
  | 1 => cellsI BV b
  | 2 => cellsV CV c
  | i + 3 => cellsI (RV i) (RN i)
/-- an LP of the call's own: k rows are made, a of them lie in the list -/
def FamLP (w : World) (lo : Nat) (A B C : Value) (k a b c : Nat) (R : Nat → Value) (RN : Nat → Nat) (RV : Nat → Nat → Int) (BV : Nat → Int) (CV : Fr) : Prop :=
  Fam w lo (k + 3) (lpV A B C R) lpT lpS (lpL a b c RN) (lpX a b c RN R RV BV CV)
theorem cellsI_upd (Z : Nat → Int) (k : Nat) (z : Int) : cellsI Z k ++ [.int .i64 z] = cellsI (fun q => if q = k then z else Z q) (k + 1) := by
  rw [← cellsI_next]
  congr 1
  · simp only [cellsI, listI]
    congr 1
    apply List.map_congr_left
    intro i hi
    rw [List.mem_range] at hi
    rw [if_neg (by omega)]
  · simp
theorem range_next (R : Nat → Value) (k : Nat) : (List.range k).map R ++ [R k] = (List.range (k + 1)).map R := by
  rw [List.range_succ, List.map_append]
  rfl
theorem FamLP.nil (w : World) (lo : Nat) (R : Nat → Value) (RN : Nat → Nat) (RV : Nat → Nat → Int) (BV : Nat → Int) (CV : Fr) : FamLP w lo (.slice none 0 0) (.slice none 0 0) (.slice none 0 0) 0 0 0 0 R RN RV BV CV := by
  refine ⟨fun i hi => ?_, fun i j hi hj _ g hg => ?_⟩
  · match i, hi with
    | 0, _ => exact World.ownsRow_nil _ _ _ _
    | 1, _ => exact World.ownsRow_nil _ _ _ _
    | 2, _ => exact World.ownsRow_nil _ _ _ _
  · match i, hi with
    | 0, _ => cases hg
    | 1, _ => cases hg
    | 2, _ => cases hg
section
variable {w w' : World} {lo k a b c : Nat} {A B C : Value} {R R' : Nat → Value} {RN RN' : Nat → Nat} {RV RV' : Nat → Nat → Int} {BV BV' : Nat → Int} {CV CV' : Fr}
theorem FamLP.off (h : FamLP w lo A B C k a b c R RN RV BV CV) {row : Option Nat} (hg : w.grownBy w' row) (hd : ∀ g, row = some g → g < lo) : FamLP w' lo A B C k a b c R RN RV BV CV := Fam.off h hg hd
theorem FamLP.below (h : FamLP w lo A B C k a b c R RN RV BV CV) (hb : Below w.heap.size w w') : FamLP w' lo A B C k a b c R RN RV BV CV := Fam.below h hb
theorem FamLP.lt (h : FamLP w lo A B C k a b c R RN RV BV CV) : ∀ i, i < k + 3 → ∀ g, (lpV A B C R i).ownBlock = some g → g < w.heap.size := Fam.lt h
theorem FamLP.low (h : FamLP w lo A B C k a b c R RN RV BV CV) {lo' : Nat} (hl : lo' ≤ lo) : FamLP w lo' A B C k a b c R RN RV BV CV := ⟨fun i hi => own_low (h.own i hi) hl, h.ne⟩
theorem FamLP.neA (h : FamLP w lo A B C k a b c R RN RV BV CV) {i : Nat} (hi : i < k) : ∀ g, A.ownBlock = some g → (R i).ownBlock ≠ some g := h.ne 0 (i + 3) (by omega) (by omega) (by omega)
theorem FamLP.ownA (h : FamLP w lo A B C k a b c R RN RV BV CV) : w.ownsRow lo 23 1 A a ((List.range a).map R) := h.own 0 (by omega)
theorem FamLP.ownB (h : FamLP w lo A B C k a b c R RN RV BV CV) : w.ownsRow lo 3 1 B b (cellsI BV b) := h.own 1 (by omega)
theorem FamLP.ownC (h : FamLP w lo A B C k a b c R RN RV BV CV) : w.ownsRow lo 66 2 C c (cellsV CV c) := h.own 2 (by omega)
theorem FamLP.ownR (h : FamLP w lo A B C k a b c R RN RV BV CV) {i : Nat} (hi : i < k) : w.ownsRow lo 3 1 (R i) (RN i) (cellsI (RV i) (RN i)) := h.own (i + 3) (by omega)
theorem FamLP.setB (h : FamLP w lo A B C k a b c R RN RV BV CV) {B' : Value} {b' : Nat} (hg : w.grownBy w' B.ownBlock) (ho : w'.ownsRow lo 3 1 B' b' (cellsI BV' b')) (hb : ∀ g, B'.ownBlock = some g → B.ownBlock = some g ∨ w.heap.size ≤ g) : FamLP w' lo A B' C k a b' c R RN RV BV' CV :=
  Fam.upd h (i := 1) (by omega) hg ho hb (fun q _ hq => by
    match q, hq with
    | 0, _ => exact ⟨rfl, rfl, rfl⟩
    | 2, _ => exact ⟨rfl, rfl, rfl⟩
    | _ + 3, _ => exact ⟨rfl, rfl, rfl⟩)
theorem FamLP.setC (h : FamLP w lo A B C k a b c R RN RV BV CV) {C' : Value} {c' : Nat} (hg : w.grownBy w' C.ownBlock) (ho : w'.ownsRow lo 66 2 C' c' (cellsV CV' c')) (hb : ∀ g, C'.ownBlock = some g → C.ownBlock = some g ∨ w.heap.size ≤ g) : FamLP w' lo A B C' k a b c' R RN RV BV CV' :=
  Fam.upd h (i := 2) (by omega) hg ho hb (fun q _ hq => by
    match q, hq with
    | 0, _ => exact ⟨rfl, rfl, rfl⟩
    | 1, _ => exact ⟨rfl, rfl, rfl⟩
    | _ + 3, _ => exact ⟨rfl, rfl, rfl⟩)
/-- the list of rows written or appended to: a' of the k rows lie in it, as R' has them -/
theorem FamLP.setA (h : FamLP w lo A B C k a b c R RN RV BV CV) {A' : Value} {a' : Nat} (hg : w.grownBy w' A.ownBlock) (ho : w'.ownsRow lo 23 1 A' a' ((List.range a').map R)) (hb : ∀ g, A'.ownBlock = some g → A.ownBlock = some g ∨ w.heap.size ≤ g) : FamLP w' lo A' B C k a' b c R RN RV BV CV :=
  Fam.upd h (i := 0) (by omega) hg ho hb (fun q _ hq => by
    match q, hq with
    | 1, _ => exact ⟨rfl, rfl, rfl⟩
    | 2, _ => exact ⟨rfl, rfl, rfl⟩
    | _ + 3, _ => exact ⟨rfl, rfl, rfl⟩)
/-- a new row of integers is made -/
theorem FamLP.newR (h : FamLP w lo A B C k a b c R RN RV BV CV) (hak : a ≤ k) {l0 : Nat} (hl : ∀ i, i < k + 3 → ∀ g, (lpV A B C R i).ownBlock = some g → g < l0) (hlo : lo ≤ l0) {v : Value} {l : Nat} {Z : Nat → Int} (ho : w.ownsRow l0 3 1 v l (cellsI Z l)) :
    FamLP w lo A B C (k + 1) a b c (fun i => if i = k then v else R i) (fun i => if i = k then l else RN i) (fun i => if i = k then Z else RV i) BV CV := by
  refine Fam.push h hl hlo (V' := lpV A B C (fun i => if i = k then v else R i)) (L' := lpL a b c (fun i => if i = k then l else RN i)) (X' := lpX a b c (fun i => if i = k then l else RN i) (fun i => if i = k then v else R i) (fun i => if i = k then Z else RV i) BV CV) ?_ (fun q hq => ?_)
  · show w.ownsRow l0 3 1 (if k = k then v else R k) (if k = k then l else RN k) (cellsI (if k = k then Z else RV k) (if k = k then l else RN k))
    simpa using ho
  · match q, hq with
    | 0, _ =>
      refine ⟨rfl, rfl, ?_⟩
      show (List.range a).map _ = (List.range a).map R
      apply List.map_congr_left
      intro i hi
      rw [List.mem_range] at hi
      simp only [if_neg (show ¬ i = k by omega)]
    | 1, _ => exact ⟨rfl, rfl, rfl⟩
    | 2, _ => exact ⟨rfl, rfl, rfl⟩
    | q + 3, hq =>
      have e : ¬ q = k := by omega
      refine ⟨?_, ?_, ?_⟩
      · show (if q = k then v else R q) = R q
        rw [if_neg e]
      · show (if q = k then l else RN q) = RN q
        rw [if_neg e]
      · show cellsI (if q = k then Z else RV q) (if q = k then l else RN q) = cellsI (RV q) (RN q)
        rw [if_neg e, if_neg e]
/-- row i appended to, and stored in the list again: two steps -/
theorem FamLP.setR (h : FamLP w lo A B C k a b c R RN RV BV CV) {i : Nat} (hi : i < k) {w1 : World} {gA cA : Nat} (hA : A = .slice (some ⟨gA, 0, none⟩) a cA) {v : Value} {l : Nat} {Z : Nat → Int} (hg : w.grownBy w1 (R i).ownBlock) (ho : w1.ownsRow lo 3 1 v l (cellsI Z l)) (hb : ∀ g, v.ownBlock = some g → (R i).ownBlock = some g ∨ w.heap.size ≤ g) :
    FamLP (w1.setCell ⟨gA, i, none⟩ v) lo A B C k a b c (fun j => if j = i then v else R j) (fun j => if j = i then l else RN j) (fun j => if j = i then Z else RV j) BV CV := by
  have h1 : Fam w1 lo (k + 3) (lpV A B C (fun j => if j = i then v else R j)) lpT lpS (lpL a b c (fun j => if j = i then l else RN j)) (fun q => if q = 0 then (List.range a).map R else lpX a b c (fun j => if j = i then l else RN j) (fun j => if j = i then v else R j) (fun j => if j = i then Z else RV j) BV CV q) := by
    refine Fam.upd h (i := i + 3) (by omega) hg ?_ ?_ (fun q _ hq => ?_)
    · show w1.ownsRow lo 3 1 (if i = i then v else R i) (if i = i then l else RN i) (cellsI (if i = i then Z else RV i) (if i = i then l else RN i))
      simpa using ho
    · intro g hg'
      have hg'' : v.ownBlock = some g := by
        have e : lpV A B C (fun j => if j = i then v else R j) (i + 3) = v := by
          show (if i = i then v else R i) = v
          simp
        rwa [e] at hg'
      exact hb g hg''
    · match q, hq with
      | 0, _ => exact ⟨rfl, rfl, rfl⟩
      | 1, _ => exact ⟨rfl, rfl, rfl⟩
      | 2, _ => exact ⟨rfl, rfl, rfl⟩
      | q + 3, hq =>
        have e : ¬ q = i := by omega
        refine ⟨?_, ?_, ?_⟩
        · show (if q = i then v else R q) = R q
          rw [if_neg e]
        · show (if q = i then l else RN q) = RN q
          rw [if_neg e]
        · show cellsI (if q = i then Z else RV q) (if q = i then l else RN q) = cellsI (RV q) (RN q)
          rw [if_neg e, if_neg e]
  have hoA : w1.ownsRow lo 23 1 A a ((List.range a).map R) := h1.own 0 (by omega)
  have hst : (w1.setCell ⟨gA, i, none⟩ v).ownsRow lo 23 1 A a ((List.range a).map (fun j => if j = i then v else R j)) := by
    rw [hA] at hoA ⊢
    have h2 := (hoA.stored i v).1
    have e : ((List.range a).map R).set i v = (List.range a).map (fun j => if j = i then v else R j) := by
      apply List.ext_getElem?
      intro j
      by_cases hj : j < a
      · by_cases e : i = j
        · subst e
          simp [hj]
        · have e2 : ¬ j = i := fun h => e h.symm
          simp [hj, e, e2]
      · rw [List.getElem?_eq_none (by simp; omega), List.getElem?_eq_none (by simp; omega)]
    rwa [e] at h2
  refine Fam.upd h1 (i := 0) (by omega) ?_ hst (fun g hg' => Or.inl hg') (fun q _ hq => ?_)
  · show w1.grownBy _ A.ownBlock
    rw [hA]
    exact only_setCell (p := ⟨gA, i, none⟩) (World.grownBy.refl _ _) rfl _
  · match q, hq with
    | 1, _ => exact ⟨rfl, rfl, rfl⟩
    | 2, _ => exact ⟨rfl, rfl, rfl⟩
    | _ + 3, _ => exact ⟨rfl, rfl, rfl⟩
theorem FamLP.congrR (h : FamLP w lo A B C k a b c R RN RV BV CV) (hak : a ≤ k) (he : ∀ q, q < k → R' q = R q ∧ RN' q = RN q ∧ RV' q = RV q) : FamLP w lo A B C k a b c R' RN' RV' BV CV := by
  refine ⟨fun q hq => ?_, fun q j hq hj hqj g hg hg2 => ?_⟩
  · match q, hq with
    | 0, _ =>
      have h0 := h.ownA
      rw [show (List.range a).map R = (List.range a).map R' from List.map_congr_left (fun i hi => ((he i (by rw [List.mem_range] at hi; omega)).1).symm)] at h0
      exact h0
    | 1, _ => exact h.own 1 (by omega)
    | 2, _ => exact h.own 2 (by omega)
    | q + 3, hq =>
      obtain ⟨e1, e2, e3⟩ := he q (by omega)
      have h0 := h.ownR (i := q) (by omega)
      show w.ownsRow lo 3 1 (R' q) (RN' q) (cellsI (RV' q) (RN' q))
      rw [e1, e2, e3]
      exact h0
  · have e : ∀ q, q < k + 3 → lpV A B C R' q = lpV A B C R q := fun q hq => by
      match q, hq with
      | 0, _ => rfl
      | 1, _ => rfl
      | 2, _ => rfl
      | q + 3, hq => exact (he q (by omega)).1
    rw [e q hq] at hg
    rw [e j hj] at hg2
    exact h.ne q j hq hj hqj g hg hg2
end
end Go.Proofs.Ytajafmdeencohaa
