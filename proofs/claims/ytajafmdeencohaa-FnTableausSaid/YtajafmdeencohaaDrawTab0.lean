/-
  What a drawn tableau is: read in every world that agrees on the call's own blocks.
-/
import Derived.Test.YtajafmdeencohaaFamRd
import Derived.Test.YtajafmdeencohaaPivotS
import Derived.Test.YtajafmdeencohaaReg2
namespace Go.Proofs.Ytajafmdeencohaa
open Go.RowKit

/-- a drawn tableau -/
def OwnsDrawnT (W : World) (g : Nat) (w : World) (e : Ending) (w' : World) : Prop :=
  ∃ (R0 Bs : Option Addr) (rn rc bn bc : Nat) (cols : Int) (RA : Nat → Option Addr) (RN RC : Nat → Nat) (RV : Nat → Fr) (BV : Nat → Int), 1 ≤ rn ∧ rn ≤ 3 ∧ (∀ j, j < rn → RN j ≤ 16) ∧ bn ≤ 16 ∧ 0 ≤ cols ∧ cols ≤ 16 ∧
    e = .returned (.agg #[.slice R0 rn rc, .slice Bs bn bc, .int .i64 cols]) ∧ ((Bs = none → bn = 0 ∧ bc = 0) ∧ ∀ j, j < rn → RA j = none → RN j = 0 ∧ RC j = 0) ∧
    (∀ w2 : World, w'.heap.size ≤ w2.heap.size → (∀ k, w.heap.size ≤ k → k < w'.heap.size → w2.heap[k]? = w'.heap[k]?) → RdR w2 w'.heap.size R0 rn RA RN RC RV ∧ Rd w2 w'.heap.size 1 Bs bn (cellsI BV bn)) ∧ Stp W g w w'
theorem own_same {w w2 : World} {base size n : Nat} {e : TypeId} {v : Value} {xs : List Value} (h : w.ownsRow base e size v n xs) (he : ∀ k, base ≤ k → k < w.heap.size → w2.heap[k]? = w.heap[k]?) : w2.ownsRow base e size v n xs := by
  refine ⟨h.1, ?_⟩
  rcases h.2 with h2 | ⟨g, cap, cur, hv, hg, hh, r⟩
  · exact Or.inl h2
  · exact Or.inr ⟨g, cap, cur, hv, hg, (he g hg (Array.getElem?_eq_some_iff.1 hh).1).trans hh, r⟩
theorem OwnTab.keep {w w2 : World} {lo hi n c m d : Nat} {X Y : Option Addr} {XA : Nat → Option Addr} {RN RC : Nat → Nat} {RV : Nat → Fr} {BV : Nat → Int} (h : OwnTab w lo hi X n c XA RN RC RV Y m d BV) (hs : w.heap.size ≤ w2.heap.size) (he : ∀ k, lo ≤ k → k < w.heap.size → w2.heap[k]? = w.heap[k]?) : OwnTab w2 lo hi X n c XA RN RC RV Y m d BV :=
  ⟨⟨own_same h.rows.outer he, h.rows.top, ⟨fun i hi => own_same (h.rows.rows.own i hi) he, h.rows.rows.lt, h.rows.rows.out, h.rows.rows.ne⟩⟩, own_same h.basis he, h.top, Nat.le_trans h.le hs⟩
theorem drawnT_mk {W w w' : World} {g lo hi m c bn d N : Nat} {X Y : Option Addr} {XA : Nat → Option Addr} {XC : Nat → Nat} {RV : Nat → Fr} {BV : Nat → Int} {cols : Int} (T : OwnTab w' lo hi X m c XA (fun _ => N) XC RV Y bn d BV) (h1 : 1 ≤ m) (h2 : m ≤ 3) (h3 : N ≤ 16) (h4 : bn ≤ 16) (h5 : 0 ≤ cols) (h6 : cols ≤ 16) (hlo : w.heap.size ≤ lo) (HS : Stp W g w w') :
    OwnsDrawnT W g w (.returned (.agg #[.slice X m c, .slice Y bn d, .int .i64 cols])) w' :=
  ⟨X, Y, m, c, bn, d, cols, XA, _, XC, RV, BV, h1, h2, fun _ _ => h3, h4, h5, h6, rfl, ⟨own_none T.basis, fun j hj => own_none (T.rows.rows.own j hj)⟩, fun w2 hs he => by
    have T2 := T.keep hs (fun k hk hk2 => he k (by omega) hk2)
    exact ⟨T2.rds.1.more T.le, T2.rds.2.more T.le⟩, HS⟩
/-- the first row without its first element -/
theorem drawnT_mk1 {W w w' : World} {g lo m c bn d N bX b0 : Nat} {Y : Option Addr} {XA : Nat → Option Addr} {XC : Nat → Nat} {RV : Nat → Fr} {BV : Nat → Int} {cols : Int}
    (ho : w'.ownsRow lo 36 1 (.slice (some ⟨bX, 0, none⟩) m c) m ((rowsOf XA (fun _ => N) XC m).set 0 (.slice (some ⟨b0, 2, none⟩) (N - 1) (XC 0 - 1)))) (hr : ∀ i, i < m → w'.ownsRow lo 66 2 (.slice (XA i) N (XC i)) N (cellsV (RV i) N)) (hA : XA 0 = some ⟨b0, 0, none⟩) (hb : w'.ownsRow lo 3 1 (.slice Y bn d) bn (cellsI BV bn))
    (h1 : 1 ≤ m) (h2 : m ≤ 3) (h3 : N ≤ 16) (h3' : 1 ≤ N) (h4 : bn ≤ 16) (h5 : 0 ≤ cols) (h6 : cols ≤ 16) (hlo : w.heap.size ≤ lo) (HS : Stp W g w w') :
    OwnsDrawnT W g w (.returned (.agg #[.slice (some ⟨bX, 0, none⟩) m c, .slice Y bn d, .int .i64 cols])) w' := by
  refine ⟨some ⟨bX, 0, none⟩, Y, m, c, bn, d, cols, fun i => if i = 0 then some ⟨b0, 2, none⟩ else XA i, fun i => if i = 0 then N - 1 else N, fun i => if i = 0 then XC 0 - 1 else XC i, fun i => if i = 0 then (fun k => RV 0 (k + 1)) else RV i, BV, h1, h2, fun j _ => ?_, h4, h5, h6, rfl, ⟨own_none hb, fun j hj e => ?_⟩, fun w2 hs he => ⟨⟨fun _ => ?_, fun j hj => ?_⟩, ?_⟩, HS⟩
  · show (if j = 0 then N - 1 else N) ≤ 16
    split <;> omega
  · by_cases e0 : j = 0
    · simp [e0] at e
    · simp only [if_neg e0] at e ⊢
      exact own_none (hr j hj) e
  · have ho2 := own_same (w2 := w2) ho (fun k hk hk2 => he k (by omega) hk2)
    refine ⟨bX, 0, rfl, (ho.lt bX rfl).2, fun j hj => ?_⟩
    have h := ho2.cells (g := bX) rfl j (.slice (if j = 0 then some ⟨b0, 2, none⟩ else XA j) (if j = 0 then N - 1 else N) (if j = 0 then XC 0 - 1 else XC j)) (by
      by_cases e0 : j = 0
      · subst e0
        rw [List.getElem?_set, if_pos rfl, if_pos (by rw [rowsOf_length]; omega)]
        simp
      · rw [List.getElem?_set, if_neg (fun h => e0 h.symm), rowsOf_at _ _ _ hj]
        simp [e0])
    rwa [Addr.add_lit] at h
  · have hr2 := own_same (w2 := w2) (hr j hj) (fun k hk hk2 => he k (by omega) hk2)
    by_cases e0 : j = 0
    · subst e0
      simp only [if_true]
      rw [hA] at hr2
      have hlt := ((hr 0 hj).lt b0 (by rw [hA]; rfl)).2
      obtain ⟨b, off, e, _, hc⟩ := RdP.of_own hr2 (by omega)
      have e1 : b0 = b ∧ 0 = off := by
        injection e with e
        injection e with e1 e2
        exact ⟨e1, e2⟩
      obtain ⟨rfl, rfl⟩ := e1
      refine fun hn => ⟨b0, 2, rfl, hlt, fun k hk => ?_⟩
      have h := hc (k + 1) (by omega)
      rw [show 0 + (k + 1) * 2 = 2 + k * 2 by omega] at h
      exact h
    · simp only [if_neg e0]
      have hk := (RdP.of_own hr2)
      intro hn
      obtain ⟨b, off, e, _, hc⟩ := hk hn
      refine ⟨b, off, e, ?_, hc⟩
      exact ((hr j hj).lt b (by rw [e]; rfl)).2
  · have hb2 := own_same (w2 := w2) hb (fun k hk hk2 => he k (by omega) hk2)
    refine Rd.of_own_hi hb2 (fun q hq => (hb.lt q (by rw [ownBlock_blk]; exact hq)).2)
end Go.Proofs.Ytajafmdeencohaa
