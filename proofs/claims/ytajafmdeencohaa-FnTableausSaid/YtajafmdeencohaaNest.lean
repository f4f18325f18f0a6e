/-
  Rows of rows that are of the call's own, each in a block of its own (Nest); what a call that writes only blocks of a span [lo, hi) leaves (Only).
-/
import Derived.Test.YtajafmdeencohaaI2R
import Derived.Test.YtajafmdeencohaaBx
namespace Go.Proofs.Ytajafmdeencohaa
open Go.RowKit

theorem takeN {P : Program} {ops : Array Oper} {Q : Exit → Act → World → Prop} {md : Region.Mode} {S : World → Prop} (i : Nat) {oi : Oper} {v : Value} {fuel : Nat} {listed : Array Bool} {a : Act} {w : World} (hi : ops.toList[i]? = some oi)
    (hs : Region.noSelect ops = true) (hf : Region.free md ops listed i = true) (hr : (Region.ready md ops listed).contains i = true)
    (hQ : ∀ c a w, Q (.panic c) (a.put oi.dst v) w → Q (.panic c) a w) (hw : Region.wanted oi (yielded ops a.tmps) = true) (hy : ∀ w, S w → (execOp a.eval oi).run P w = .ok (.value v) w) (hS : S w)
    (h : wpAnyH P md ops Q S fuel (listed.setIfInBounds i true) (a.put oi.dst v) w) : wpAnyH P md ops Q S (fuel + 1) listed a w :=
  wpAnyH_take (by rw [← Array.getElem?_toList]; exact hi) hs hf hr hQ (Or.inl ⟨hw, hy⟩) hS h
theorem skipN {P : Program} {ops : Array Oper} {Q : Exit → Act → World → Prop} {md : Region.Mode} {S : World → Prop} (i : Nat) {oi : Oper} {fuel : Nat} {listed : Array Bool} {a : Act} {w : World} (hi : ops.toList[i]? = some oi)
    (hs : Region.noSelect ops = true) (hf : Region.free md ops listed i = true) (hr : (Region.ready md ops listed).contains i = true)
    (hQ : ∀ c a w, Q (.panic c) (a.put oi.dst undef) w → Q (.panic c) a w) (hw : Region.wanted oi (yielded ops a.tmps) = false) (hS : S w)
    (h : wpAnyH P md ops Q S fuel (listed.setIfInBounds i true) (a.put oi.dst undef) w) : wpAnyH P md ops Q S (fuel + 1) listed a w :=
  wpAnyH_take (by rw [← Array.getElem?_toList]; exact hi) hs hf hr hQ (Or.inr ⟨hw, rfl⟩) hS h
theorem nextN {P : Program} {ops : Array Oper} {Q : Exit → Act → World → Prop} {md : Region.Mode} {S : World → Prop} (i : Nat) {o : Oper} {fuel : Nat} {listed : Array Bool} {a : Act} {w : World} (hr : Region.ready md ops listed = [i]) (ho : ops.toList[i]? = some o)
    (h : ∀ K' : Act → World → Prop, Shut (∀ a w, S w → (S w → wpAnyH P md ops Q S fuel (listed.setIfInBounds i true) a w) → K' a w) → if Region.wanted o (yielded ops a.tmps) = true then Oper.wp P o a w K' Q else K' (a.put o.dst undef) w) : wpAnyH P md ops Q S (fuel + 1) listed a w :=
  wpAnyH_ready hr (by simp) (AllReadyH.cons (by rw [← Array.getElem?_toList]; exact ho) h AllReadyH.nil)

/-- w' differs from w only in blocks of the span [lo, hi), or in new ones. -/
structure Only (w w' : World) (lo hi : Nat) : Prop where
  os : w'.os = w.os
  tape : w'.tape = w.tape
  output : w'.output = w.output
  size : w.heap.size ≤ w'.heap.size
  block : ∀ k, k < w.heap.size → (k < lo ∨ hi ≤ k) → w'.heap[k]? = w.heap[k]?
theorem Only.refl (w : World) (lo hi : Nat) : Only w w lo hi := ⟨rfl, rfl, rfl, Nat.le_refl _, fun _ _ _ => rfl⟩
theorem Only.trans {a b c : World} {lo hi : Nat} (h : Only a b lo hi) (k : Only b c lo hi) : Only a c lo hi :=
  ⟨k.os.trans h.os, k.tape.trans h.tape, k.output.trans h.output, Nat.le_trans h.size k.size, fun i hi' ho => (k.block i (Nat.lt_of_lt_of_le hi' h.size) ho).trans (h.block i hi' ho)⟩
theorem Only.of_grown {w w' : World} {lo hi : Nat} {row : Option Nat} (hg : w.grownBy w' row) (h : ∀ g, row = some g → lo ≤ g ∧ g < hi) : Only w w' lo hi :=
  ⟨hg.os, hg.tape, hg.output, hg.size, fun k hk ho => hg.block k hk (fun e => by have := h k e.symm; omega)⟩
theorem Only.of_below {w w' : World} {lo hi : Nat} (h : Below w.heap.size w w') : Only w w' lo hi := ⟨h.os, h.tape, h.output, h.size, fun k hk _ => h.block k hk⟩
theorem Only.wider {w w' : World} {lo hi lo' hi' : Nat} (h : Only w w' lo hi) (h1 : lo' ≤ lo) (h2 : hi ≤ hi') : Only w w' lo' hi' := ⟨h.os, h.tape, h.output, h.size, fun k hk ho => h.block k hk (by omega)⟩
theorem _root_.Go.RowKit.Below.only {B : Nat} {a w w' : World} {lo hi : Nat} (h : Below B a w) (ho : Only w w' lo hi) (hB : B ≤ w.heap.size) (hl : B ≤ lo) : Below B a w' :=
  h.trans ⟨ho.os, ho.tape, ho.output, ho.size, fun k hk => ho.block k (by omega) (by omega)⟩
theorem RdP.only {w w' : World} {B n lo hi : Nat} {A : Option Addr} {V : Fr} (h : RdP w B A n V) (ho : Only w w' lo hi) (hB : B ≤ w.heap.size) (hl : B ≤ lo) : RdP w' B A n V :=
  h.keep fun p hp => World.cell?_of_block (ho.block p.block (by omega) (by omega))
theorem Rd.only {w w' : World} {B s n lo hi : Nat} {A : Option Addr} {xs : List Value} (h : Rd w B s A n xs) (ho : Only w w' lo hi) (hB : B ≤ w.heap.size) (hl : B ≤ lo) : Rd w' B s A n xs :=
  h.keep fun p hp => World.cell?_of_block (ho.block p.block (by omega) (by omega))
theorem own_only {w w' : World} {base size n lo hi : Nat} {e : TypeId} {v : Value} {xs : List Value} (h : w.ownsRow base e size v n xs) (ho : Only w w' lo hi) (hd : ∀ g, v.ownBlock = some g → g < lo ∨ hi ≤ g) : w'.ownsRow base e size v n xs := by
  refine ⟨h.1, ?_⟩
  rcases h.2 with h2 | ⟨g, cap, cur, hv, hg, hh, r⟩
  · exact Or.inl h2
  · exact Or.inr ⟨g, cap, cur, hv, hg, (ho.block g (Array.getElem?_eq_some_iff.1 hh).1 (hd g (by rw [hv]; rfl))).trans hh, r⟩
theorem Bx.only {w w' : World} {b lo hi : Nat} {vs : List Value} (h : Bx w b vs) (ho : Only w w' lo hi) (hd : b < lo ∨ hi ≤ b) : Bx w' b vs := by
  have e := ho.block b h.1 hd
  exact ⟨Nat.lt_of_lt_of_le h.1 ho.size, fun j v hv => (World.cell?_of_block (by exact e)).trans (h.2.1 j v hv), fun j => (World.frozen?_of_block (by exact e)).trans (h.2.2 j)⟩
theorem own_off {w w' : World} {base size n : Nat} {e : TypeId} {v : Value} {xs : List Value} {row : Option Nat} (h : w.ownsRow base e size v n xs) (hg : w.grownBy w' row) (hd : ∀ g, v.ownBlock = some g → row ≠ some g) : w'.ownsRow base e size v n xs := by
  refine ⟨h.1, ?_⟩
  rcases h.2 with h2 | ⟨g, cap, cur, hv, hb, hh, r⟩
  · exact Or.inl h2
  · exact Or.inr ⟨g, cap, cur, hv, hb, (hg.block g (Array.getElem?_eq_some_iff.1 hh).1 (fun e => hd g (by rw [hv]; rfl) e.symm)).trans hh, r⟩
theorem own_low {w : World} {base base' size n : Nat} {e : TypeId} {v : Value} {xs : List Value} (h : w.ownsRow base' e size v n xs) (hb : base ≤ base') : w.ownsRow base e size v n xs := by
  refine ⟨h.1, ?_⟩
  rcases h.2 with h2 | ⟨g, cap, cur, hv, hg, r⟩
  · exact Or.inl h2
  · exact Or.inr ⟨g, cap, cur, hv, Nat.le_trans hb hg, r⟩
theorem own_high {w : World} {base base' size n : Nat} {e : TypeId} {v : Value} {xs : List Value} (h : w.ownsRow base e size v n xs) (hb : ∀ g, v.ownBlock = some g → base' ≤ g) : w.ownsRow base' e size v n xs := by
  refine ⟨h.1, ?_⟩
  rcases h.2 with h2 | ⟨g, cap, cur, hv, hg, r⟩
  · exact Or.inl h2
  · exact Or.inr ⟨g, cap, cur, hv, hb g (by rw [hv]; rfl), r⟩

def blk (A : Option Addr) : Option Nat := A.map (·.block)
theorem ownBlock_blk (A : Option Addr) (n c : Nat) : (Value.slice A n c).ownBlock = blk A := by cases A <;> rfl

/-- the first j rows, each of the call's own in a block of its own, in the span [lo, hi), and none in X's block -/
structure Rows (w : World) (lo hi : Nat) (e : TypeId) (s : Nat) (X : Option Addr) (j : Nat) (XA : Nat → Option Addr) (RN RC : Nat → Nat) (RX : Nat → List Value) : Prop where
  own : ∀ i, i < j → w.ownsRow lo e s (.slice (XA i) (RN i) (RC i)) (RN i) (RX i)
  lt : ∀ i, i < j → ∀ g, blk (XA i) = some g → g < hi
  out : ∀ i, i < j → ∀ g, blk (XA i) = some g → blk X ≠ some g
  ne : ∀ i k, i < k → k < j → ∀ g, blk (XA i) = some g → blk (XA k) ≠ some g
section
variable {w w' : World} {lo hi s j : Nat} {e : TypeId} {X : Option Addr} {XA : Nat → Option Addr} {RN RC : Nat → Nat} {RX : Nat → List Value}
theorem Rows.nil (w : World) (lo hi : Nat) (e : TypeId) (s : Nat) (X : Option Addr) (XA : Nat → Option Addr) (RN RC : Nat → Nat) (RX : Nat → List Value) : Rows w lo hi e s X 0 XA RN RC RX :=
  ⟨fun _ h => absurd h (Nat.not_lt_zero _), fun _ h => absurd h (Nat.not_lt_zero _), fun _ h => absurd h (Nat.not_lt_zero _), fun _ _ _ h => absurd h (Nat.not_lt_zero _)⟩
theorem Rows.below (h : Rows w lo hi e s X j XA RN RC RX) (hb : Below w.heap.size w w') : Rows w' lo hi e s X j XA RN RC RX := ⟨fun i hi => own_below (h.own i hi) hb, h.lt, h.out, h.ne⟩
theorem Rows.off (h : Rows w lo hi e s X j XA RN RC RX) {row : Option Nat} (hg : w.grownBy w' row) (hd : ∀ i, i < j → ∀ g, blk (XA i) = some g → row ≠ some g) : Rows w' lo hi e s X j XA RN RC RX :=
  ⟨fun i hi => own_off (h.own i hi) hg (fun g hv => hd i hi g (by rwa [ownBlock_blk] at hv)), h.lt, h.out, h.ne⟩
theorem Rows.only (h : Rows w lo hi e s X j XA RN RC RX) {l' h' : Nat} (ho : Only w w' l' h') (hd : h' ≤ lo ∨ hi ≤ l') : Rows w' lo hi e s X j XA RN RC RX :=
  ⟨fun i hi' => own_only (h.own i hi') ho (fun g hv => by
    have h1 := ((h.own i hi').lt g hv).1
    rw [ownBlock_blk] at hv
    have h2 := h.lt i hi' g hv
    omega), h.lt, h.out, h.ne⟩
theorem Rows.wide (h : Rows w lo hi e s X j XA RN RC RX) {hi' : Nat} (hh : hi ≤ hi') : Rows w lo hi' e s X j XA RN RC RX := ⟨h.own, fun i hi1 g hg => Nat.lt_of_lt_of_le (h.lt i hi1 g hg) hh, h.out, h.ne⟩
/-- a new row, behind all that was -/
theorem Rows.push (h : Rows w lo hi e s X j XA RN RC RX) (hb : Below w.heap.size w w') {A : Option Addr} {c : Nat} (ho : w'.ownsRow w.heap.size e s (.slice A (RN j) c) (RN j) (RX j)) (hl : lo ≤ w.heap.size) (hh : hi ≤ w.heap.size) (hX : ∀ g, blk X = some g → g < w.heap.size) :
    Rows w' lo w'.heap.size e s X (j + 1) (fun i => if i = j then A else XA i) RN (fun i => if i = j then c else RC i) RX := by
  have hlt := ho.lt
  rw [ownBlock_blk] at hlt
  refine ⟨fun i hi' => ?_, fun i hi' g hg => ?_, fun i hi' g hg => ?_, fun i k hik hk g hg => ?_⟩
  · by_cases ei : i = j
    · subst ei
      simp only [if_true]
      exact own_low ho hl
    · simp only [if_neg ei]
      exact own_below (h.own i (by omega)) hb
  · by_cases ei : i = j
    · simp only [if_pos ei] at hg
      exact (hlt g hg).2
    · simp only [if_neg ei] at hg
      have := h.lt i (by omega) g hg
      have := hb.size
      omega
  · by_cases ei : i = j
    · simp only [if_pos ei] at hg
      intro hx
      have := hX g hx
      have := (hlt g hg).1
      omega
    · simp only [if_neg ei] at hg
      exact h.out i (by omega) g hg
  · rw [if_neg (show ¬ i = j by omega)] at hg
    have h1 := h.lt i (by omega) g hg
    by_cases ek : k = j
    · simp only [if_pos ek]
      intro hx
      have := (hlt g hx).1
      omega
    · simp only [if_neg ek]
      exact h.ne i k hik (by omega) g hg
/-- row i written anew, in its own block -/
theorem Rows.mark (h : Rows w lo hi e s X j XA RN RC RX) {i : Nat} (hi' : i < j) {x : List Value} (hg : w.grownBy w' (blk (XA i))) (ho : w'.ownsRow lo e s (.slice (XA i) (RN i) (RC i)) (RN i) x) :
    Rows w' lo hi e s X j XA RN RC (fun k => if k = i then x else RX k) := by
  refine ⟨fun k hk => ?_, h.lt, h.out, h.ne⟩
  by_cases ek : k = i
  · subst ek
    simp only [if_true]
    exact ho
  · simp only [if_neg ek]
    refine own_off (h.own k hk) hg (fun g hv e => ?_)
    rw [ownBlock_blk] at hv
    rcases Nat.lt_or_ge k i with hki | hki
    · exact h.ne k i hki hi' g hv e
    · exact h.ne i k (by omega) hk g e hv
theorem Rows.congr {RX' : Nat → List Value} (h : Rows w lo hi e s X j XA RN RC RX) (he : ∀ i, i < j → RX i = RX' i) : Rows w lo hi e s X j XA RN RC RX' := ⟨fun i hi => by rw [← he i hi]; exact h.own i hi, h.lt, h.out, h.ne⟩
/-- the row list itself has moved to a new block -/
theorem Rows.moved (h : Rows w lo hi e s X j XA RN RC RX) {X' : Option Addr} (hX : ∀ g, blk X' = some g → blk X = some g ∨ hi ≤ g) : Rows w lo hi e s X' j XA RN RC RX :=
  ⟨h.own, h.lt, fun i hi' g hg e => by
    rcases hX g e with h1 | h1
    · exact h.out i hi' g hg h1
    · have := h.lt i hi' g hg
      omega, h.ne⟩
end
def rowsOf (XA : Nat → Option Addr) (RN RC : Nat → Nat) (n : Nat) : List Value := (List.range n).map (fun i => Value.slice (XA i) (RN i) (RC i))
theorem rowsOf_at (XA : Nat → Option Addr) (RN RC : Nat → Nat) {n i : Nat} (h : i < n) : (rowsOf XA RN RC n)[i]? = some (.slice (XA i) (RN i) (RC i)) := by simp [rowsOf, h]
theorem rowsOf_length (XA : Nat → Option Addr) (RN RC : Nat → Nat) (n : Nat) : (rowsOf XA RN RC n).length = n := by simp [rowsOf]
theorem rowsOf_snoc (XA : Nat → Option Addr) (RN RC : Nat → Nat) (n c : Nat) (A : Option Addr) : rowsOf XA RN RC n ++ [.slice A (RN n) c] = rowsOf (fun i => if i = n then A else XA i) RN (fun i => if i = n then c else RC i) (n + 1) := by
  unfold rowsOf
  rw [List.range_succ, List.map_append]
  congr 1
  · apply List.map_congr_left
    intro i hi
    rw [List.mem_range] at hi
    simp only [if_neg (show ¬ i = n by omega)]
  · simp
/-- the rows of a copy after j rounds -/
def rowsAt (XA : Nat → Option Addr) (RN RC : Nat → Nat) (n j : Nat) : List Value := rowsOf XA RN RC j ++ List.replicate (n - j) (.slice none 0 0)
theorem rowsAt_zero (XA : Nat → Option Addr) (RN RC : Nat → Nat) (n : Nat) : rowsAt XA RN RC n 0 = List.replicate n (.slice none 0 0) := by simp [rowsAt, rowsOf]
theorem rowsAt_all (XA : Nat → Option Addr) (RN RC : Nat → Nat) (n : Nat) : rowsAt XA RN RC n n = rowsOf XA RN RC n := by simp [rowsAt]
theorem rowsAt_set (XA : Nat → Option Addr) (RN RC : Nat → Nat) (n j c : Nat) (A : Option Addr) (h : j < n) : (rowsAt XA RN RC n j).set j (.slice A (RN j) c) = rowsAt (fun i => if i = j then A else XA i) RN (fun i => if i = j then c else RC i) n (j + 1) := by
  unfold rowsAt
  rw [List.set_append_right _ _ (by rw [rowsOf_length]; omega), rowsOf_length, Nat.sub_self, show n - j = (n - (j + 1)) + 1 by omega, List.replicate_succ, List.set_cons_zero, ← rowsOf_snoc]
  simp
/-- rows of rows of the call's own -/
structure Nest (w : World) (lo hi : Nat) (T e : TypeId) (s : Nat) (X : Option Addr) (n c : Nat) (XA : Nat → Option Addr) (RN RC : Nat → Nat) (RX : Nat → List Value) : Prop where
  outer : w.ownsRow lo T 1 (.slice X n c) n (rowsOf XA RN RC n)
  top : ∀ g, blk X = some g → g < hi
  rows : Rows w lo hi e s X n XA RN RC RX
section
variable {w w' : World} {lo hi s n c : Nat} {T e : TypeId} {X : Option Addr} {XA : Nat → Option Addr} {RN RC : Nat → Nat} {RX : Nat → List Value}
theorem Nest.below (h : Nest w lo hi T e s X n c XA RN RC RX) (hb : Below w.heap.size w w') : Nest w' lo hi T e s X n c XA RN RC RX := ⟨own_below h.outer hb, h.top, h.rows.below hb⟩
theorem Nest.only (h : Nest w lo hi T e s X n c XA RN RC RX) {l' h' : Nat} (ho : Only w w' l' h') (hd : h' ≤ lo ∨ hi ≤ l') : Nest w' lo hi T e s X n c XA RN RC RX :=
  ⟨own_only h.outer ho (fun g hv => by
    have h1 := (h.outer.lt g hv).1
    rw [ownBlock_blk] at hv
    have h2 := h.top g hv
    omega), h.top, h.rows.only ho hd⟩
theorem Nest.off (h : Nest w lo hi T e s X n c XA RN RC RX) {row : Option Nat} (hg : w.grownBy w' row) (h0 : ∀ g, blk X = some g → row ≠ some g) (hd : ∀ i, i < n → ∀ g, blk (XA i) = some g → row ≠ some g) : Nest w' lo hi T e s X n c XA RN RC RX :=
  ⟨own_off h.outer hg (fun g hv => h0 g (by rwa [ownBlock_blk] at hv)), h.top, h.rows.off hg hd⟩
theorem Nest.wide (h : Nest w lo hi T e s X n c XA RN RC RX) {hi' : Nat} (hh : hi ≤ hi') : Nest w lo hi' T e s X n c XA RN RC RX := ⟨h.outer, fun g hg => Nat.lt_of_lt_of_le (h.top g hg) hh, h.rows.wide hh⟩
theorem Nest.mark (h : Nest w lo hi T e s X n c XA RN RC RX) {i : Nat} (hi' : i < n) {x : List Value} (hg : w.grownBy w' (blk (XA i))) (ho : w'.ownsRow lo e s (.slice (XA i) (RN i) (RC i)) (RN i) x) :
    Nest w' lo hi T e s X n c XA RN RC (fun k => if k = i then x else RX k) :=
  ⟨own_off h.outer hg (fun g hv e => h.rows.out i hi' g e (by rwa [ownBlock_blk] at hv)), h.top, h.rows.mark hi' hg ho⟩
theorem Nest.span (h : Nest w lo hi T e s X n c XA RN RC RX) {i : Nat} (hi' : i < n) : ∀ g, blk (XA i) = some g → lo ≤ g ∧ g < hi := fun g hg =>
  ⟨((h.rows.own i hi').lt g (by rw [ownBlock_blk]; exact hg)).1, h.rows.lt i hi' g hg⟩
theorem Nest.congr {RX' : Nat → List Value} (h : Nest w lo hi T e s X n c XA RN RC RX) (he : ∀ i, i < n → RX i = RX' i) : Nest w lo hi T e s X n c XA RN RC RX' := ⟨h.outer, h.top, h.rows.congr he⟩
theorem Nest.low (h : Nest w lo hi T e s X n c XA RN RC RX) {lo' : Nat} (hl : lo' ≤ lo) : Nest w lo' hi T e s X n c XA RN RC RX := ⟨own_low h.outer hl, h.top, fun i hi' => own_low (h.rows.own i hi') hl, h.rows.lt, h.rows.out, h.rows.ne⟩
theorem Nest.set (h : Nest w lo hi T e s X n c XA RN RC RX) {a : Addr} (ha : a.block < lo) (u : Value) : Nest (w.setCell a u) lo hi T e s X n c XA RN RC RX :=
  h.off (only_setCell (World.grownBy.refl _ (some a.block)) rfl u) (fun g hg he => by
    injection he with he
    have := (h.outer.lt g (by rw [ownBlock_blk]; exact hg)).1
    omega) (fun i hi' g hg he => by
    injection he with he
    have := ((h.rows.own i hi').lt g (by rw [ownBlock_blk]; exact hg)).1
    omega)
/-- its cells, for reading -/
theorem Nest.cells (h : Nest w lo hi T e s X n c XA RN RC RX) (hn : 0 < n) : ∃ b, X = some ⟨b, 0, none⟩ ∧ b < w.heap.size ∧ b < hi ∧ ∀ j, j < n → w.cell? ⟨b, 0 + j, none⟩ = some (.slice (XA j) (RN j) (RC j)) := by
  obtain ⟨b, rfl⟩ := own_addr h.outer hn
  exact ⟨b, rfl, (h.outer.lt b rfl).2, h.top b rfl, fun j hj => by
    have := h.outer.cells (g := b) rfl j _ (rowsOf_at XA RN RC hj)
    rwa [Addr.add_lit] at this⟩
end
theorem size_setCell (w : World) (a : Addr) (u : Value) : (w.setCell a u).heap.size = w.heap.size := by simp [World.setCell]
/-- a row of the call's own whose block lies below 'hi', for reading below hi -/
theorem Rd.of_own_hi {w : World} {base size n c hi : Nat} {e : TypeId} {A : Option Addr} {xs : List Value} (h : w.ownsRow base e size (.slice A n c) n xs) (hh : ∀ g, blk A = some g → g < hi) : Rd w hi size A n xs := by
  refine ⟨h.1, fun hn => ?_⟩
  obtain ⟨b, off, rfl, hb, hc⟩ := (Rd.of_own h).2 hn
  exact ⟨b, off, rfl, hh b rfl, hc⟩
theorem RdP.of_own_hi {w : World} {base n c hi : Nat} {e : TypeId} {A : Option Addr} {V : Fr} (h : w.ownsRow base e 2 (.slice A n c) n (cellsV V n)) (hh : ∀ g, blk A = some g → g < hi) : RdP w hi A n V := fun hn => by
  obtain ⟨b, off, rfl, hb, hc⟩ := RdP.of_own h hn
  exact ⟨b, off, rfl, hh b rfl, hc⟩

/-- n rows of integers that can be read, below block B -/
def RdI (w : World) (B : Nat) (A : Option Addr) (n : Nat) (RA : Nat → Option Addr) (RN RC : Nat → Nat) (RV : Nat → Nat → Int) : Prop :=
  (0 < n → ∃ b off, A = some ⟨b, off, none⟩ ∧ b < B ∧ ∀ j, j < n → w.cell? ⟨b, off + j, none⟩ = some (.slice (RA j) (RN j) (RC j))) ∧ ∀ j, j < n → Rd w B 1 (RA j) (RN j) (cellsI (RV j) (RN j))
section
variable {w w' : World} {B B' n : Nat} {A : Option Addr} {RA : Nat → Option Addr} {RN RC : Nat → Nat} {RV : Nat → Nat → Int}
theorem RdI.below (h : RdI w B A n RA RN RC RV) {C : Nat} (hb : Below C w w') (hC : B ≤ C) : RdI w' B A n RA RN RC RV :=
  ⟨fun hn => by
    obtain ⟨b, off, e, hlt, hc⟩ := h.1 hn
    exact ⟨b, off, e, hlt, fun j hj => (hb.cell (p := ⟨b, off + j, none⟩) (Nat.lt_of_lt_of_le hlt hC)).trans (hc j hj)⟩, fun j hj => (h.2 j hj).below' hb hC⟩
theorem RdI.more (h : RdI w B A n RA RN RC RV) (hB : B ≤ B') : RdI w B' A n RA RN RC RV :=
  ⟨fun hn => by
    obtain ⟨b, off, e, hlt, hc⟩ := h.1 hn
    exact ⟨b, off, e, by omega, hc⟩, fun j hj => (h.2 j hj).more hB⟩
theorem RdI.only {lo hi : Nat} (h : RdI w B A n RA RN RC RV) (ho : Only w w' lo hi) (hB : B ≤ w.heap.size) (hl : B ≤ lo) : RdI w' B A n RA RN RC RV :=
  ⟨fun hn => by
    obtain ⟨b, off, e, hlt, hc⟩ := h.1 hn
    exact ⟨b, off, e, hlt, fun j hj => (World.cell?_of_block (a := ⟨b, off + j, none⟩) (ho.block b (by omega) (by omega))).trans (hc j hj)⟩, fun j hj => (h.2 j hj).only ho hB hl⟩
end
theorem Nest.rdI {w : World} {lo hi n c : Nat} {T e : TypeId} {X : Option Addr} {XA : Nat → Option Addr} {RN RC : Nat → Nat} {RV : Nat → Nat → Int} (h : Nest w lo hi T e 1 X n c XA RN RC (fun i => cellsI (RV i) (RN i))) : RdI w hi X n XA RN RC RV :=
  ⟨fun hn => by
    obtain ⟨b, e, _, hlt, hc⟩ := h.cells hn
    exact ⟨b, 0, e, hlt, hc⟩, fun j hj => Rd.of_own_hi (h.rows.own j hj) (h.rows.lt j hj)⟩
/-- how many elements the first n rows have -/
def sumN (RN : Nat → Nat) : Nat → Nat
  | 0 => 0
  | n + 1 => sumN RN n + RN n
theorem sumN_le {RN : Nat → Nat} {n m : Nat} (h : ∀ j, j < n → RN j ≤ m) : sumN RN n ≤ n * m := by
  induction n with
  | zero => simp [sumN]
  | succ n ih =>
    have h1 := ih fun j hj => h j (by omega)
    have h2 := h n (Nat.lt_succ_self _)
    rw [sumN, Nat.succ_mul]
    omega
theorem sumN_mono {RN : Nat → Nat} {n m : Nat} (h : n ≤ m) : sumN RN n ≤ sumN RN m := by
  induction m with
  | zero =>
    obtain rfl : n = 0 := by omega
    exact Nat.le_refl _
  | succ m ih =>
    rcases Nat.lt_or_ge m n with h1 | h1
    · obtain rfl : n = m + 1 := by omega
      exact Nat.le_refl _
    · exact Nat.le_trans (ih h1) (Nat.le_add_right _ _)
end Go.Proofs.Ytajafmdeencohaa
