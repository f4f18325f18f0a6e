/-
  Tableaus of the call's own that grow: an append of a row, of a basis element; stores into them.
-/
import Derived.Test.YtajafmdeencohaaTabN
import Derived.Deep.AppendLies
namespace Go.Proofs.Ytajafmdeencohaa
open Go.RowKit

theorem World.grownBy_alloc {w w' : World} {o : Obj} {row : Option Nat} (h : (w.alloc o).grownBy w' row) : w.grownBy w' row :=
  ⟨h.os, h.tape, h.output, Nat.le_trans (by simp) h.size, fun k hk hne => (h.block k (by simp; omega) hne).trans (by first | exact heap_alloc_old w o hk | exact heap_alloc_old w o k hk)⟩
/-- An append of ONE element, built in a block of its own just before, at an operation: the new value written out. -/
theorem wp_rowpush {P : Program} {o : Oper} {a : Act} {K : Act → World → Prop} {Q : Exit → Act → World → Prop} (w : World) (s x : Operand) (t : TypeId)
    (ho : o.op = .call { callee := .builtin .append, args := #[s, x], argTypes := #[t, t] })
    (base : Nat) (e : TypeId) (z : Value) (size bytes : Nat) (ht : P.underlying t = some (.slice e)) (hinfo : (P.info? e).map (fun i => (i.zero, i.size, i.bytes)) = some (some z, size, bytes)) (hzs : z.cells.size = size) (hsz : 0 < size)
    (v : Value) (n : Nat) (xs : List Value) (hs : a.eval s = v) (hown : w.ownsRow base e size v n xs)
    (news : List Value) (hx : a.eval x = .slice (some ⟨w.heap.size, 0, none⟩) 1 1) (hl : news.length = size) (h1 : ∀ u ∈ news, u.oneCell' = true)
    (hby : bytes ≤ 64) (hn : n ≤ 1099511627776) (hbase : base ≤ w.heap.size)
    (h : ∀ g cap w', w'.ownsRow base e size (.slice (some ⟨g, 0, none⟩) (n + 1) cap) (n + 1) (xs ++ news) → w.grownBy w' v.ownBlock → (v.ownBlock = some g ∨ w.heap.size ≤ g) → g < w'.heap.size → K (a.put o.dst (.slice (some ⟨g, 0, none⟩) (n + 1) cap)) w') :
    o.wp P a (w.alloc (.cells news.toArray e)) K Q := by
  obtain ⟨i, hi, hz, hsize, hbytes⟩ := info_parts hinfo
  refine wp_append_lies _ s x t ho base e i z size bytes ht hi hz hsize hbytes hzs hsz v n xs hs (hown.alloc _) ⟨w.heap.size, 0, none⟩ 1 1 news hx (by omega) ?_ h1 (by omega) (by simp only [maxLen]; omega) ?_ (by simp; omega) (w.heap.size + 1) (by simp) ?_
  · intro j u hu
    rw [Addr.add_lit]
    have := World.cell?_alloc_new w news.toArray e (0 + j)
    rw [this]
    simpa using hu
  · have : (n + 1) * bytes ≤ (n + 1) * 64 := Nat.mul_le_mul_left _ hby
    omega
  · intro g cap w' hown' hgrow hat hlt
    exact h g cap w' hown' (World.grownBy_alloc hgrow) (hat.imp id (fun e => by omega)) hlt
theorem wpList_rowpush {P : Program} {ops : Array Oper} {rest : List Oper} {o : Oper} {a : Act} {Q : Exit → Act → World → Prop} (w : World) (hgd : o.guard = none) (s x : Operand) (t : TypeId)
    (ho : o.op = .call { callee := .builtin .append, args := #[s, x], argTypes := #[t, t] })
    (base : Nat) (e : TypeId) (z : Value) (size bytes : Nat) (ht : P.underlying t = some (.slice e)) (hinfo : (P.info? e).map (fun i => (i.zero, i.size, i.bytes)) = some (some z, size, bytes)) (hzs : z.cells.size = size) (hsz : 0 < size)
    (v : Value) (n : Nat) (xs : List Value) (hs : a.eval s = v) (hown : w.ownsRow base e size v n xs)
    (news : List Value) (hx : a.eval x = .slice (some ⟨w.heap.size, 0, none⟩) 1 1) (hl : news.length = size) (h1 : ∀ u ∈ news, u.oneCell' = true)
    (hby : bytes ≤ 64) (hn : n ≤ 1099511627776) (hbase : base ≤ w.heap.size)
    (h : ∀ g cap w', w'.ownsRow base e size (.slice (some ⟨g, 0, none⟩) (n + 1) cap) (n + 1) (xs ++ news) → w.grownBy w' v.ownBlock → (v.ownBlock = some g ∨ w.heap.size ≤ g) → g < w'.heap.size → wpList P ops Q rest (a.put o.dst (.slice (some ⟨g, 0, none⟩) (n + 1) cap)) w') :
    wpList P ops Q (o :: rest) a (w.alloc (.cells news.toArray e)) :=
  wpList_plain hgd fun _ hK => wp_rowpush w s x t ho base e z size bytes ht hinfo hzs hsz v n xs hs hown news hx hl h1 hby hn hbase fun g cap w' h2 h3 h4 h5 => hK _ _ (h g cap w' h2 h3 h4 h5)
theorem Below.of_grown {w w' : World} {B : Nat} {row : Option Nat} (hg : w.grownBy w' row) (hB : B ≤ w.heap.size) (hr : ∀ k, row = some k → B ≤ k) : Below B w w' := (Below.refl B w).grown hg hB hr
section
variable {w w1 w2 : World} {lo hi n c m d : Nat} {X Y : Option Addr} {XA : Nat → Option Addr} {RN RC : Nat → Nat} {RV : Nat → Fr} {BV : Nat → Int}
theorem OwnTab.wide (h : OwnTab w lo hi X n c XA RN RC RV Y m d BV) {hi' : Nat} (hh : hi ≤ hi') (hs : hi' ≤ w.heap.size) : OwnTab w lo hi' X n c XA RN RC RV Y m d BV :=
  ⟨Nest.wide h.rows hh, h.basis, fun g hg => ⟨Nat.lt_of_lt_of_le (h.top g hg).1 hh, (h.top g hg).2⟩, hs⟩
theorem OwnTab.set (h : OwnTab w lo hi X n c XA RN RC RV Y m d BV) {a : Addr} (ha : a.block < lo) (u : Value) : OwnTab (w.setCell a u) lo hi X n c XA RN RC RV Y m d BV :=
  ⟨Nest.set h.rows ha u, ownsRow_setCell_below h.basis ha u, h.top, by rw [size_setCell]; exact h.le⟩
theorem OwnTab.nil (w : World) (lo : Nat) (XA : Nat → Option Addr) (RN RC : Nat → Nat) (RV : Nat → Fr) (BV : Nat → Int) : OwnTab w lo w.heap.size none 0 0 XA RN RC RV none 0 0 BV :=
  ⟨⟨World.ownsRow_nil _ _ _ _, (fun g hg => by cases hg), Rows.nil _ _ _ _ _ _ _ _ _ _⟩, World.ownsRow_nil _ _ _ _, (fun g hg => by cases hg), Nat.le_refl _⟩
/-- a new row, appended -/
theorem OwnTab.pushRow (h : OwnTab w lo hi X n c XA RN RC RV Y m d BV) (hlo : lo ≤ w.heap.size) (hb : Below w.heap.size w w1) {A : Option Addr} {c1 : Nat} (ho : w1.ownsRow w.heap.size 66 2 (.slice A (RN n) c1) (RN n) (cellsV (RV n) (RN n)))
    (hg : w1.grownBy w2 (blk X)) {g cap : Nat} (ho2 : w2.ownsRow lo 36 1 (.slice (some ⟨g, 0, none⟩) (n + 1) cap) (n + 1) (rowsOf XA RN RC n ++ [.slice A (RN n) c1])) (hgg : blk X = some g ∨ w1.heap.size ≤ g) (hlt : g < w2.heap.size) :
    OwnTab w2 lo w2.heap.size (some ⟨g, 0, none⟩) (n + 1) cap (fun i => if i = n then A else XA i) RN (fun i => if i = n then c1 else RC i) RV Y m d BV := by
  have hX : ∀ k, blk X = some k → k < w.heap.size := fun k hk => (h.rows.outer.lt k (by rw [ownBlock_blk]; exact hk)).2
  have hr1 := h.rows.rows.push hb ho hlo (Nat.le_trans h.le (Nat.le_refl _)) hX
  have hr2 := (hr1.off hg (fun i hi k hk e => hr1.out i hi k hk e)).wide hg.size
  have hr2' := (hr1.off hg (fun i hi k hk e => hr1.out i hi k hk e))
  have hr3 : Rows w2 lo w1.heap.size 66 2 (some ⟨g, 0, none⟩) (n + 1) (fun i => if i = n then A else XA i) RN (fun i => if i = n then c1 else RC i) (fun i => cellsV (RV i) (RN i)) :=
    hr2'.moved (fun k hk => by
      have e : g = k := by simpa [blk] using hk
      subst e
      exact hgg)
  have hYlt : ∀ k, blk Y = some k → k < w.heap.size := fun k hk => Nat.lt_of_lt_of_le (h.top k hk).1 h.le
  refine ⟨⟨by rw [← rowsOf_snoc]; exact ho2, fun k hk => by
      have e : g = k := by simpa [blk] using hk
      omega, hr3.wide hg.size⟩, own_off (own_below h.basis hb) hg (fun k hk e => (h.top k (by rwa [ownBlock_blk] at hk)).2.1 e), fun k hk => ?_, Nat.le_refl _⟩
  have hk1 := hYlt k hk
  have hk2 := hb.size
  have hk3 := hg.size
  refine ⟨by omega, fun e => ?_, fun i hi e => ?_⟩
  · have e : g = k := by simpa [blk] using e
    rcases hgg with h1 | h1
    · exact (h.top k hk).2.1 (by rw [h1, e])
    · omega
  · by_cases ei : i = n
    · simp only [if_pos ei] at e
      have := (ho.lt k (by rw [ownBlock_blk]; exact e)).1
      omega
    · simp only [if_neg ei] at e
      exact (h.top k hk).2.2 i (by omega) e
/-- a new basis row, behind or in the old one's block -/
theorem OwnTab.pushBasis (h : OwnTab w lo hi X n c XA RN RC RV Y m d BV) (hg : w.grownBy w2 (blk Y)) {g cap m2 : Nat} {BV2 : Nat → Int} (ho2 : w2.ownsRow lo 3 1 (.slice (some ⟨g, 0, none⟩) m2 cap) m2 (cellsI BV2 m2)) (hgg : blk Y = some g ∨ w.heap.size ≤ g) (hlt : g < w2.heap.size) :
    OwnTab w2 lo w2.heap.size X n c XA RN RC RV (some ⟨g, 0, none⟩) m2 cap BV2 := by
  have hn : Nest w2 lo hi 36 66 2 X n c XA RN RC (fun i => cellsV (RV i) (RN i)) := Nest.off h.rows hg (fun k hk e => (h.top k e).2.1 hk) (fun i hi k hk e => (h.top k e).2.2 i hi hk)
  refine ⟨hn.wide (Nat.le_trans h.le hg.size), ho2, fun k hk => ?_, Nat.le_refl _⟩
  have e : g = k := by simpa [blk] using hk
  subst e
  refine ⟨hlt, fun e => ?_, fun i hi e => ?_⟩
  · rcases hgg with h1 | h1
    · exact (h.top g h1).2.1 e
    · have := h.rows.top g e
      have := h.le
      omega
  · rcases hgg with h1 | h1
    · exact (h.top g h1).2.2 i hi e
    · have := h.rows.rows.lt i hi g e
      have := h.le
      omega
theorem OwnTab.congr {RV2 : Nat → Fr} {BV2 : Nat → Int} (h : OwnTab w lo hi X n c XA RN RC RV Y m d BV) (h1 : ∀ i, i < n → ∀ j, j < RN i → RV i j = RV2 i j) (h2 : ∀ j, j < m → BV j = BV2 j) : OwnTab w lo hi X n c XA RN RC RV2 Y m d BV2 :=
  ⟨Nest.congr h.rows (fun i hi => cellsV_congr (h1 i hi)), by
    have e : cellsI BV m = cellsI BV2 m := by
      simp only [cellsI, listI]
      congr 1
      apply List.map_congr_left
      intro j hj
      exact h2 j (by simpa using hj)
    rw [← e]
    exact h.basis, h.top, h.le⟩
end
section
variable {w w1 w2 : World} {lo hi n c m d : Nat} {X Y : Option Addr} {XA : Nat → Option Addr} {RN RC : Nat → Nat} {RV : Nat → Fr} {BV : Nat → Int}
/-- element k of row i written in its place -/
theorem OwnTab.storeRow (h : OwnTab w lo hi X n c XA RN RC RV Y m d BV) {i k g : Nat} (hi' : i < n) (hk : k < RN i) (hA : XA i = some ⟨g, 0, none⟩) (a b : Int) {RV2 : Nat → Fr} (he : ∀ j, RV2 j = if j = i then upd (RV i) k (a, b) else RV j) :
    OwnTab ((w.setCell ⟨g, k * 2, none⟩ (.int .i64 a)).setCell ⟨g, k * 2 + 1, none⟩ (.int .i64 b)) lo hi X n c XA RN RC RV2 Y m d BV := by
  have hg : w.grownBy ((w.setCell ⟨g, k * 2, none⟩ (.int .i64 a)).setCell ⟨g, k * 2 + 1, none⟩ (.int .i64 b)) (blk (XA i)) := by
    rw [hA]
    exact only_setCell (p := ⟨g, k * 2 + 1, none⟩) (only_setCell (p := ⟨g, k * 2, none⟩) (World.grownBy.refl _ _) rfl _) rfl _
  have ho := h.rows.rows.own i hi'
  have ho2 : ((w.setCell ⟨g, k * 2, none⟩ (.int .i64 a)).setCell ⟨g, k * 2 + 1, none⟩ (.int .i64 b)).ownsRow lo 66 2 (.slice (XA i) (RN i) (RC i)) (RN i) (cellsV (upd (RV i) k (a, b)) (RN i)) := by
    rw [hA] at ho ⊢
    have hst := ((ho.stored (k * 2) (.int .i64 a)).1.stored (k * 2 + 1) (.int .i64 b)).1
    rwa [cellsV_set] at hst
  refine ⟨Nest.mark_of h.rows hi' hg ho2 (by
    funext j
    rw [he j]
    by_cases e : j = i
    · subst e
      simp
    · simp [e]), own_off h.basis hg (fun q hq e => (h.top q (by rwa [ownBlock_blk] at hq)).2.2 i hi' e), h.top, Nat.le_trans h.le hg.size⟩
theorem rowsOf_set (XA : Nat → Option Addr) (RN RC : Nat → Nat) (n i c1 : Nat) (A : Option Addr) (hi : i < n) : (rowsOf XA RN RC n).set i (.slice A (RN i) c1) = rowsOf (fun j => if j = i then A else XA j) RN (fun j => if j = i then c1 else RC j) n := by
  apply List.ext_getElem?
  intro j
  by_cases hj : j < n
  · rw [List.getElem?_set, rowsOf_at XA RN RC hj, rowsOf_length, rowsOf_at _ _ _ hj]
    by_cases e : i = j
    · subst e
      simp [hi]
    · have e2 : ¬ j = i := fun h => e h.symm
      simp [e, e2]
  · rw [List.getElem?_eq_none (by rw [List.length_set, rowsOf_length]; omega), List.getElem?_eq_none (by rw [rowsOf_length]; omega)]
/-- row i exchanged for a new one -/
theorem OwnTab.setRow (h : OwnTab w lo hi X n c XA RN RC RV Y m d BV) {i gX c1 l : Nat} {A : Option Addr} {V : Fr} (hi' : i < n) (hX : X = some ⟨gX, 0, none⟩) (ho : w.ownsRow l 66 2 (.slice A (RN i) c1) (RN i) (cellsV V (RN i))) (hl : hi ≤ l) (hlo : lo ≤ l) {RV2 : Nat → Fr} (he : ∀ j, RV2 j = if j = i then V else RV j) :
    OwnTab (w.setCell ⟨gX, i, none⟩ (.slice A (RN i) c1)) lo w.heap.size X n c (fun j => if j = i then A else XA j) RN (fun j => if j = i then c1 else RC j) RV2 Y m d BV := by
  have hg : w.grownBy (w.setCell ⟨gX, i, none⟩ (.slice A (RN i) c1)) (blk X) := by
    rw [hX]
    exact only_setCell (p := ⟨gX, i, none⟩) (World.grownBy.refl _ _) rfl _
  have hAlt : ∀ g, blk A = some g → l ≤ g ∧ g < w.heap.size := fun g hgA => ho.lt g (by rw [ownBlock_blk]; exact hgA)
  have hXlt : ∀ g, blk X = some g → g < hi := h.rows.top
  have houter : (w.setCell ⟨gX, i, none⟩ (.slice A (RN i) c1)).ownsRow lo 36 1 (.slice X n c) n (rowsOf (fun j => if j = i then A else XA j) RN (fun j => if j = i then c1 else RC j) n) := by
    have h1 := h.rows.outer
    rw [hX] at h1 ⊢
    have := (h1.stored i (.slice A (RN i) c1)).1
    rwa [rowsOf_set _ _ _ _ _ _ _ hi'] at this
  have hrows : ∀ j, j < n → j ≠ i → ∀ g, blk (XA j) = some g → blk X ≠ some g := fun j hj _ g hgj => h.rows.rows.out j hj g hgj
  refine ⟨⟨houter, fun g hgX => Nat.lt_of_lt_of_le (hXlt g hgX) h.le, ⟨fun j hj => ?_, fun j hj g hgj => ?_, fun j hj g hgj => ?_, fun j k hjk hk g hgj => ?_⟩⟩, own_off h.basis hg (fun q hq e => (h.top q (by rwa [ownBlock_blk] at hq)).2.1 e), fun g hgY => ?_, Nat.le_of_eq (size_setCell _ _ _).symm⟩
  · by_cases e : j = i
    · subst e
      simp only [if_true]
      rw [he j, if_pos rfl]
      exact own_off (own_low ho hlo) hg (fun q hq e2 => by
        rw [ownBlock_blk] at hq
        have := hAlt q hq
        have := hXlt q e2
        omega)
    · simp only [if_neg e]
      rw [he j, if_neg e]
      exact own_off (h.rows.rows.own j hj) hg (fun q hq e2 => h.rows.rows.out j hj q (by rwa [ownBlock_blk] at hq) e2)
  · by_cases e : j = i
    · simp only [if_pos e] at hgj
      exact (hAlt g hgj).2
    · simp only [if_neg e] at hgj
      exact Nat.lt_of_lt_of_le (h.rows.rows.lt j hj g hgj) h.le
  · by_cases e : j = i
    · simp only [if_pos e] at hgj
      intro e2
      have := hAlt g hgj
      have := hXlt g e2
      omega
    · simp only [if_neg e] at hgj
      exact h.rows.rows.out j hj g hgj
  · by_cases e : j = i
    · simp only [if_pos e] at hgj
      have h1 := hAlt g hgj
      rw [if_neg (show ¬ k = i by omega)]
      intro e2
      have := h.rows.rows.lt k hk g e2
      omega
    · simp only [if_neg e] at hgj
      by_cases e3 : k = i
      · simp only [if_pos e3]
        intro e2
        have := hAlt g e2
        have := h.rows.rows.lt j (by omega) g hgj
        omega
      · simp only [if_neg e3]
        exact h.rows.rows.ne j k hjk hk g hgj
  · refine ⟨Nat.lt_of_lt_of_le (h.top g hgY).1 h.le, (h.top g hgY).2.1, fun j hj e2 => ?_⟩
    by_cases e : j = i
    · simp only [if_pos e] at e2
      have := hAlt g e2
      have := (h.top g hgY).1
      omega
    · simp only [if_neg e] at e2
      exact (h.top g hgY).2.2 j hj e2
/-- a basis element written in its place -/
theorem OwnTab.setBasis (h : OwnTab w lo hi X n c XA RN RC RV Y m d BV) {k g : Nat} (hY : Y = some ⟨g, 0, none⟩) (a : Int) {BV2 : Nat → Int} (he : ∀ j, BV2 j = if j = k then a else BV j) :
    OwnTab (w.setCell ⟨g, k, none⟩ (.int .i64 a)) lo hi X n c XA RN RC RV Y m d BV2 := by
  have hg : w.grownBy (w.setCell ⟨g, k, none⟩ (.int .i64 a)) (blk Y) := by
    rw [hY]
    exact only_setCell (p := ⟨g, k, none⟩) (World.grownBy.refl _ _) rfl _
  refine ⟨Nest.off h.rows hg (fun q hq e => (h.top q e).2.1 hq) (fun i hi q hq e => (h.top q e).2.2 i hi hq), ?_, h.top, Nat.le_trans h.le hg.size⟩
  have h1 := h.basis
  rw [hY] at h1 ⊢
  have h2 := (h1.stored k (.int .i64 a)).1
  have e : (cellsI BV m).set k (.int .i64 a) = cellsI BV2 m := by
    apply List.ext_getElem?
    intro j
    by_cases hj : j < m
    · rw [List.getElem?_set, cellsI_at _ hj]
      by_cases e : k = j
      · subst e
        rw [if_pos rfl, if_pos (by simp [cellsI, listI]; omega), cellsI_at _ hj, he, if_pos rfl]
      · rw [if_neg e, cellsI_at _ hj, he, if_neg (fun h => e h.symm)]
    · rw [List.getElem?_eq_none (by simp [cellsI, listI]; omega), List.getElem?_eq_none (by simp [cellsI, listI]; omega)]
  rwa [e] at h2
/-- a store beside it -/
theorem OwnTab.setOff (h : OwnTab w lo hi X n c XA RN RC RV Y m d BV) {a : Addr} (h1 : blk X ≠ some a.block) (h2 : blk Y ≠ some a.block) (h3 : ∀ i, i < n → blk (XA i) ≠ some a.block) (u : Value) : OwnTab (w.setCell a u) lo hi X n c XA RN RC RV Y m d BV := by
  have hg : w.grownBy (w.setCell a u) (some a.block) := only_setCell (World.grownBy.refl _ _) rfl _
  exact ⟨Nest.off h.rows hg (fun q hq e => h1 (by rw [e]; exact hq)) (fun i hi q hq e => h3 i hi (by rw [e]; exact hq)), own_off h.basis hg (fun q hq e => h2 (by rw [ownBlock_blk] at hq; rw [e]; exact hq)), h.top, Nat.le_trans h.le hg.size⟩
end
theorem bx_lo {B : Nat} {w w' : World} {g : Nat} {vs : List Value} (h : Bx w g vs) (hb : Below B w w') (hg : g < B) : Bx w' g vs :=
  ⟨Nat.lt_of_lt_of_le h.1 hb.size, fun j v hv => (hb.cell (p := ⟨g, j, none⟩) hg).trans (h.2.1 j v hv), fun j => (hb.frozen (p := ⟨g, j, none⟩) hg).trans (h.2.2 j)⟩
theorem bx_off {w w' : World} {g : Nat} {vs : List Value} {row : Option Nat} (h : Bx w g vs) (hg : w.grownBy w' row) (hd : row ≠ some g) : Bx w' g vs := by
  have e := hg.block g h.1 (fun e => hd e.symm)
  exact ⟨Nat.lt_of_lt_of_le h.1 hg.size, fun j v hv => (World.cell?_of_block (by exact e)).trans (h.2.1 j v hv), fun j => (World.frozen?_of_block (by exact e)).trans (h.2.2 j)⟩
theorem cellsV_next (V : Fr) (k : Nat) : cellsV V k ++ [.int .i64 (V k).1, .int .i64 (V k).2] = cellsV V (k + 1) := by
  rw [cellsV_snoc]
  congr 1
  funext i
  simp only [upd]
  split
  · rename_i h
    subst h
    rfl
  · rfl
theorem cellsI_next (V : Nat → Int) (n : Nat) : cellsI V n ++ [.int .i64 (V n)] = cellsI V (n + 1) := by
  simp [cellsI, listI, List.range_succ]
end Go.Proofs.Ytajafmdeencohaa
