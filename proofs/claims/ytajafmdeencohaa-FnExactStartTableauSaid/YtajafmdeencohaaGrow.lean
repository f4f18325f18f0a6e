/-
  Tableaus of the call's own that grow: an append of a row, of a basis element; stores into them.
-/
import Derived.Test.YtajafmdeencohaaTabN
import Derived.Deep.AppendLies
namespace Go.Proofs.Ytajafmdeencohaa
open Go.RowKit

theorem World.grownBy_alloc {w w' : World} {o : Obj} {row : Option Nat} (h : (w.alloc o).grownBy w' row) : w.grownBy w' row :=
  ⟨h.os, h.tape, h.output, Nat.le_trans (by simp) h.size, fun k hk hne => (h.block k (by simp; omega) hne).trans (by first | exact heap_alloc_old w o hk | exact heap_alloc_old w o k hk)⟩
/-- An append of ONE element, built in a block of its own just before, at an operation: the new value written out. -/
theorem wp_rowpush {P : Program} {o : Oper} {a : Act} {K : Act → World → Prop} {Q : Exit → Act → World → Prop} (w : World) (s x : Operand) (t : TypeId)
    (ho : o.op = .call { callee := .builtin .append, args := #[s, x], argTypes := #[t, t] })
    (base : Nat) (e : TypeId) (z : Value) (size bytes : Nat) (ht : P.underlying t = some (.slice e)) (hinfo : (P.info? e).map (fun i => (i.zero, i.size, i.bytes)) = some (some z, size, bytes)) (hzs : z.cells.size = size) (hsz : 0 < size)
    (v : Value) (n : Nat) (xs : List Value) (hs : a.eval s = v) (hown : w.ownsRow base e size v n xs)
    (news : List Value) (hx : a.eval x = .slice (some ⟨w.heap.size, 0, none⟩) 1 1) (hl : news.length = size) (h1 : ∀ u ∈ news, u.oneCell' = true)
    (hby : bytes ≤ 64) (hn : n ≤ 1099511627776) (hbase : base ≤ w.heap.size)
    (h : ∀ g cap w', w'.ownsRow base e size (.slice (some ⟨g, 0, none⟩) (n + 1) cap) (n + 1) (xs ++ news) → w.grownBy w' v.ownBlock → (v.ownBlock = some g ∨ w.heap.size ≤ g) → g < w'.heap.size → K (a.put o.dst (.slice (some ⟨g, 0, none⟩) (n + 1) cap)) w') :
    o.wp P a (w.alloc (.cells news.toArray e)) K Q := by
  obtain ⟨i, hi, hz, hsize, hbytes⟩ := info_parts hinfo
  refine wp_append_lies _ s x t ho base e i z size bytes ht hi hz hsize hbytes hzs hsz v n xs hs (hown.alloc _) ⟨w.heap.size, 0, none⟩ 1 1 news hx (by omega) ?_ h1 (by omega) (by simp only [maxLen]; omega) ?_ (by simp; omega) (w.heap.size + 1) (by simp) ?_
  · intro j u hu
    rw [Addr.add_lit]
    have := World.cell?_alloc_new w news.toArray e (0 + j)
    rw [this]
    simpa using hu
  · have : (n + 1) * bytes ≤ (n + 1) * 64 := Nat.mul_le_mul_left _ hby
    omega
  · intro g cap w' hown' hgrow hat hlt
    exact h g cap w' hown' (World.grownBy_alloc hgrow) (hat.imp id (fun e => by omega)) hlt
theorem wpList_rowpush {P : Program} {ops : Array Oper} {rest : List Oper} {o : Oper} {a : Act} {Q : Exit → Act → World → Prop} (w : World) (hgd : o.guard = none) (s x : Operand) (t : TypeId)
    (ho : o.op = .call { callee := .builtin .append, args := #[s, x], argTypes := #[t, t] })
    (base : Nat) (e : TypeId) (z : Value) (size bytes : Nat) (ht : P.underlying t = some (.slice e)) (hinfo : (P.info? e).map (fun i => (i.zero, i.size, i.bytes)) = some (some z, size, bytes)) (hzs : z.cells.size = size) (hsz : 0 < size)
    (v : Value) (n : Nat) (xs : List Value) (hs : a.eval s = v) (hown : w.ownsRow base e size v n xs)
    (news : List Value) (hx : a.eval x = .slice (some ⟨w.heap.size, 0, none⟩) 1 1) (hl : news.length = size) (h1 : ∀ u ∈ news, u.oneCell' = true)
    (hby : bytes ≤ 64) (hn : n ≤ 1099511627776) (hbase : base ≤ w.heap.size)
    (h : ∀ g cap w', w'.ownsRow base e size (.slice (some ⟨g, 0, none⟩) (n + 1) cap) (n + 1) (xs ++ news) → w.grownBy w' v.ownBlock → (v.ownBlock = some g ∨ w.heap.size ≤ g) → g < w'.heap.size → wpList P ops Q rest (a.put o.dst (.slice (some ⟨g, 0, none⟩) (n + 1) cap)) w') :
    wpList P ops Q (o :: rest) a (w.alloc (.cells news.toArray e)) :=
  wpList_plain hgd fun _ hK => wp_rowpush w s x t ho base e z size bytes ht hinfo hzs hsz v n xs hs hown news hx hl h1 hby hn hbase fun g cap w' h2 h3 h4 h5 => hK _ _ (h g cap w' h2 h3 h4 h5)
theorem Below.of_grown {w w' : World} {B : Nat} {row : Option Nat} (hg : w.grownBy w' row) (hB : B ≤ w.heap.size) (hr : ∀ k, row = some k → B ≤ k) : Below B w w' := (Below.refl B w).grown hg hB hr
section
variable {w w1 w2 : World} {lo hi n c m d : Nat} {X Y : Option Addr} {XA : Nat → Option Addr} {RN RC : Nat → Nat} {RV : Nat → Fr} {BV : Nat → Int}
theorem OwnTab.wide (h : OwnTab w lo hi X n c XA RN RC RV Y m d BV) {hi' : Nat} (hh : hi ≤ hi') (hs : hi' ≤ w.heap.size) : OwnTab w lo hi' X n c XA RN RC RV Y m d BV :=
  ⟨Nest.wide h.rows hh, h.basis, fun g hg => ⟨Nat.lt_of_lt_of_le (h.top g hg).1 hh, (h.top g hg).2⟩, hs⟩
theorem OwnTab.set (h : OwnTab w lo hi X n c XA RN RC RV Y m d BV) {a : Addr} (ha : a.block < lo) (u : Value) : OwnTab (w.setCell a u) lo hi X n c XA RN RC RV Y m d BV :=
  ⟨Nest.set h.rows ha u, ownsRow_setCell_below h.basis ha u, h.top, by rw [size_setCell]; exact h.le⟩
theorem OwnTab.nil (w : World) (lo : Nat) (XA : Nat → Option Addr) (RN RC : Nat → Nat) (RV : Nat → Fr) (BV : Nat → Int) : OwnTab w lo w.heap.size none 0 0 XA RN RC RV none 0 0 BV :=
  ⟨⟨World.ownsRow_nil _ _ _ _, (fun g hg => by cases hg), Rows.nil _ _ _ _ _ _ _ _ _ _⟩, World.ownsRow_nil _ _ _ _, (fun g hg => by cases hg), Nat.le_refl _⟩
/-- a new row, appended -/
theorem OwnTab.pushRow (h : OwnTab w lo hi X n c XA RN RC RV Y m d BV) (hlo : lo ≤ w.heap.size) (hb : Below w.heap.size w w1) {A : Option Addr} {c1 : Nat} (ho : w1.ownsRow w.heap.size 66 2 (.slice A (RN n) c1) (RN n) (cellsV (RV n) (RN n)))
    (hg : w1.grownBy w2 (blk X)) {g cap : Nat} (ho2 : w2.ownsRow lo 36 1 (.slice (some ⟨g, 0, none⟩) (n + 1) cap) (n + 1) (rowsOf XA RN RC n ++ [.slice A (RN n) c1])) (hgg : blk X = some g ∨ w1.heap.size ≤ g) (hlt : g < w2.heap.size) :
    OwnTab w2 lo w2.heap.size (some ⟨g, 0, none⟩) (n + 1) cap (fun i => if i = n then A else XA i) RN (fun i => if i = n then c1 else RC i) RV Y m d BV := by
  have hX : ∀ k, blk X = some k → k < w.heap.size := fun k hk => (h.rows.outer.lt k (by rw [ownBlock_blk]; exact hk)).2
  have hr1 := h.rows.rows.push hb ho hlo (Nat.le_trans h.le (Nat.le_refl _)) hX
  have hr2 := (hr1.off hg (fun i hi k hk e => hr1.out i hi k hk e)).wide hg.size
  have hr2' := (hr1.off hg (fun i hi k hk e => hr1.out i hi k hk e))
  have hr3 : Rows w2 lo w1.heap.size 66 2 (some ⟨g, 0, none⟩) (n + 1) (fun i => if i = n then A else XA i) RN (fun i => if i = n then c1 else RC i) (fun i => cellsV (RV i) (RN i)) :=
    hr2'.moved (fun k hk => by
      have e : g = k := by simpa [blk] using hk
      subst e
      exact hgg)
  have hYlt : ∀ k, blk Y = some k → k < w.heap.size := fun k hk => Nat.lt_of_lt_of_le (h.top k hk).1 h.le
  refine ⟨⟨by rw [← rowsOf_snoc]; exact ho2, fun k hk => by
      have e : g = k := by simpa [blk] using hk
      omega, hr3.wide hg.size⟩, own_off (own_below h.basis hb) hg (fun k hk e => (h.top k (by rwa [ownBlock_blk] at hk)).2.1 e), fun k hk => ?_, Nat.le_refl _⟩
  have hk1 := hYlt k hk
  have hk2 := hb.size
  have hk3 := hg.size
  refine ⟨by omega, fun e => ?_, fun i hi e => ?_⟩
  · have e : g = k := by simpa [blk] using e
    rcases hgg with h1 | h1
    · exact (h.top k hk).2.1 (by rw [h1, e])
    · omega
  · by_cases ei : i = n
    · simp only [if_pos ei] at e
      have := (ho.lt k (by rw [ownBlock_blk]; exact e)).1
      omega
    · simp only [if_neg ei] at e
      exact (h.top k hk).2.2 i (by omega) e
/-- a new basis row, behind or in the old one's block -/
theorem OwnTab.pushBasis (h : OwnTab w lo hi X n c XA RN RC RV Y m d BV) (hg : w.grownBy w2 (blk Y)) {g cap m2 : Nat} {BV2 : Nat → Int} (ho2 : w2.ownsRow lo 3 1 (.slice (some ⟨g, 0, none⟩) m2 cap) m2 (cellsI BV2 m2)) (hgg : blk Y = some g ∨ w.heap.size ≤ g) (hlt : g < w2.heap.size) :
    OwnTab w2 lo w2.heap.size X n c XA RN RC RV (some ⟨g, 0, none⟩) m2 cap BV2 := by
  have hn : Nest w2 lo hi 36 66 2 X n c XA RN RC (fun i => cellsV (RV i) (RN i)) := Nest.off h.rows hg (fun k hk e => (h.top k e).2.1 hk) (fun i hi k hk e => (h.top k e).2.2 i hi hk)
  refine ⟨hn.wide (Nat.le_trans h.le hg.size), ho2, fun k hk => ?_, Nat.le_refl _⟩
  have e : g = k := by simpa [blk] using hk
  subst e
  refine ⟨hlt, fun e => ?_, fun i hi e => ?_⟩
  · rcases hgg with h1 | h1
    · exact (h.top g h1).2.1 e
    · have := h.rows.top g e
      have := h.le
      omega
  · rcases hgg with h1 | h1
    · exact (h.top g h1).2.2 i hi e
    · have := h.rows.rows.lt i hi g e
      have := h.le
      omega
theorem OwnTab.congr {RV2 : Nat → Fr} {BV2 : Nat → Int} (h : OwnTab w lo hi X n c XA RN RC RV Y m d BV) (h1 : ∀ i, i < n → ∀ j, j < RN i → RV i j = RV2 i j) (h2 : ∀ j, j < m → BV j = BV2 j) : OwnTab w lo hi X n c XA RN RC RV2 Y m d BV2 :=
  ⟨Nest.congr h.rows (fun i hi => cellsV_congr (h1 i hi)), by
    have e : cellsI BV m = cellsI BV2 m := by
      simp only [cellsI, listI]
      congr 1
      apply List.map_congr_left
      intro j hj
      exact h2 j (by simpa using hj)
    rw [← e]
    exact h.basis, h.top, h.le⟩
end
theorem cellsV_next (V : Fr) (k : Nat) : cellsV V k ++ [.int .i64 (V k).1, .int .i64 (V k).2] = cellsV V (k + 1) := by
  rw [cellsV_snoc]
  congr 1
  funext i
  simp only [upd]
  split
  · rename_i h
    subst h
    rfl
  · rfl
theorem cellsI_next (V : Nat → Int) (n : Nat) : cellsI V n ++ [.int .i64 (V n)] = cellsI V (n + 1) := by
  simp [cellsI, listI, List.range_succ]
end Go.Proofs.Ytajafmdeencohaa
