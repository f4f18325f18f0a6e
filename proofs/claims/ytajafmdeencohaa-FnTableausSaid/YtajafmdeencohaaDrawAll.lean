/-
  Draws of an LP, right or bent: l5Bent. DrawStartTableau. DrawSolutionOf. DrawPivotTableau. DrawCostRow.
-/
import Derived.Test.YtajafmdeencohaaDrawTab0
import Derived.Test.YtajafmdeencohaaDrawTab
namespace Go.Proofs.Ytajafmdeencohaa
open Go.RowKit
attribute [local go_sem ↓] Go.wp_at_zero Go.wp_at_succ

theorem Fam.offN {w w' : World} {lo n : Nat} {V : Nat → Value} {T : Nat → TypeId} {S L : Nat → Nat} {X : Nat → List Value} (h : Fam w lo n V T S L X) {row : Option Nat} (hg : w.grownBy w' row) (hd : ∀ g, row = some g → ∀ i, i < n → ∀ q, (V i).ownBlock = some q → q ≠ g) : Fam w' lo n V T S L X :=
  ⟨fun i hi => own_off (h.own i hi) hg (fun g hv e => hd g e i hi g hv rfl), h.ne⟩
theorem cellsI_set (Z : Nat → Int) {k j : Nat} (z : Int) : (cellsI Z k).set j (.int .i64 z) = cellsI (fun t => if t = j then z else Z t) k := by
  apply List.ext_getElem?
  intro i
  by_cases hi : i < k
  · by_cases e : j = i
    · subst e
      simp [cellsI, listI, hi]
    · have e2 : ¬ i = j := fun h => e h.symm
      simp [cellsI, listI, hi, e, e2]
  · rw [List.getElem?_eq_none (by simp [cellsI, listI]; omega), List.getElem?_eq_none (by simp [cellsI, listI]; omega)]
/-- element j of row i written -/
theorem FamLP.storeR {w : World} {lo k a b c : Nat} {A B C : Value} {R : Nat → Value} {RN : Nat → Nat} {RV : Nat → Nat → Int} {BV : Nat → Int} {CV : Fr} (h : FamLP w lo A B C k a b c R RN RV BV CV) {i : Nat} (hi : i < k) {g l d : Nat} (hR : R i = .slice (some ⟨g, 0, none⟩) l d) (hl : RN i = l) (j : Nat) (z : Int) :
    FamLP (w.setCell ⟨g, j, none⟩ (.int .i64 z)) lo A B C k a b c R RN (fun q => if q = i then (fun t => if t = j then z else RV i t) else RV q) BV CV := by
  subst hl
  refine Fam.upd h (i := i + 3) (by omega) ?_ ?_ (fun _ hg => Or.inl hg) (fun q _ hq => ?_)
  · show w.grownBy _ (R i).ownBlock
    rw [hR]
    exact only_setCell (p := ⟨g, j, none⟩) (World.grownBy.refl _ _) rfl _
  · show World.ownsRow _ lo 3 1 (R i) (RN i) (cellsI (if i = i then (fun t => if t = j then z else RV i t) else RV i) (RN i))
    have h2 := h.ownR hi
    rw [hR] at h2 ⊢
    rw [if_pos rfl, ← cellsI_set]
    exact (h2.stored j (.int .i64 z)).1
  · match q, hq with
    | 0, _ => exact ⟨rfl, rfl, rfl⟩
    | 1, _ => exact ⟨rfl, rfl, rfl⟩
    | 2, _ => exact ⟨rfl, rfl, rfl⟩
    | q + 3, hq =>
      have e : ¬ q = i := by omega
      refine ⟨rfl, rfl, ?_⟩
      show cellsI (if q = i then _ else RV q) (RN q) = cellsI (RV q) (RN q)
      rw [if_neg e]
/-- a drawn LP, right or bent -/
def OwnsBent (W : World) (g : Nat) (w : World) (e : Ending) (w' : World) : Prop :=
  ∃ (A0 B0 C0 : Option Addr) (m bn n ca cb cc : Nat) (RA : Nat → Option Addr) (RN RC : Nat → Nat) (RV : Nat → Nat → Int) (BV : Nat → Int) (CV : Fr), m ≤ 16 ∧ (∀ j, j < m → RN j ≤ 16) ∧ bn ≤ 16 ∧ n ≤ 16 ∧
    e = .returned (.agg #[.slice A0 m ca, .slice B0 bn cb, .slice C0 n cc]) ∧
    (∀ w2 : World, w'.heap.size ≤ w2.heap.size → (∀ k, w.heap.size ≤ k → k < w'.heap.size → w2.heap[k]? = w'.heap[k]?) → RdI w2 w2.heap.size A0 m RA RN RC RV ∧ Rd w2 w2.heap.size 1 B0 bn (cellsI BV bn) ∧ RdP w2 w2.heap.size C0 n CV) ∧ Stp W g w w'
section
variable {w w2 : World} {lo m bn n ca cb cc : Nat} {A0 B0 C0 : Option Addr} {RA : Nat → Option Addr} {RN RC : Nat → Nat} {RV : Nat → Nat → Int} {BV : Nat → Int} {CV : Fr}
theorem FamLP.rdsN (h : FamLP w lo (.slice A0 m ca) (.slice B0 bn cb) (.slice C0 n cc) m m bn n (fun i => .slice (RA i) (RN i) (RC i)) RN RV BV CV) :
    RdI w w.heap.size A0 m RA RN RC RV ∧ Rd w w.heap.size 1 B0 bn (cellsI BV bn) ∧ RdP w w.heap.size C0 n CV := by
  refine ⟨⟨fun hm => ?_, fun j hj => Rd.of_own (h.ownR hj)⟩, Rd.of_own h.ownB, RdP.of_own h.ownC⟩
  obtain ⟨b, rfl⟩ := own_addr h.ownA hm
  refine ⟨b, 0, rfl, (h.ownA.lt b rfl).2, fun j hj => ?_⟩
  have h2 := h.ownA.cells (g := b) rfl j (.slice (RA j) (RN j) (RC j)) (by simp [hj])
  rwa [Addr.add_lit] at h2
theorem bent_mk {W w0 : World} {g : Nat} (h : FamLP w lo (.slice A0 m ca) (.slice B0 bn cb) (.slice C0 n cc) m m bn n (fun i => .slice (RA i) (RN i) (RC i)) RN RV BV CV) (h1 : m ≤ 16) (h2 : ∀ j, j < m → RN j ≤ 16) (h3 : bn ≤ 16) (h4 : n ≤ 16) (hlo : w0.heap.size ≤ lo) (HS : Stp W g w0 w) :
    OwnsBent W g w0 (.returned (.agg #[.slice A0 m ca, .slice B0 bn cb, .slice C0 n cc])) w :=
  ⟨A0, B0, C0, m, bn, n, ca, cb, cc, RA, RN, RC, RV, BV, CV, h1, h2, h3, h4, rfl, fun w2 _ he => FamLP.rdsN (ca := ca) (cb := cb) (cc := cc) ⟨fun i hi => own_same (h.own i hi) (fun k hk hk2 => he k (by omega) hk2), h.ne⟩, HS⟩
end

set_option maxHeartbeats 8000000 in
set_option maxRecDepth 20000 in
theorem l5Bent_any (W w : World) (g : Nat) (hd : Dr W g w) : Calls Try.prog 87 #[.pointer (some ⟨g, 0, none⟩)] w (OwnsBent W g w) := by
  have hgl := hd.lt
  have hW : W.heap.size ≤ w.heap.size := hd.1.size
  have R2 : Bx (w.alloc (.cells #[.slice none 0 0, .slice none 0 0, .slice none 0 0] 53)) w.heap.size [.slice none 0 0, .slice none 0 0, .slice none 0 0] := Bx.new w _ _
  have HS : Stp W g w (w.alloc (.cells #[.slice none 0 0, .slice none 0 0, .slice none 0 0] 53)) := (Stp.refl hd).alloc _
  clear hd
  go_enter Try.func87, Try.ntmps87
  go_wp2_with fail
  refine (l5Draw_any W _ g HS.1).mono ?_
  rintro e w1 ⟨A0, B0, C0, m, n, ca, cb, cc, RA, RC, RV, BV, CV, h1, h2, h3, h4, rfl, F, h5, h6, h7, hs⟩
  clear h5 h6 h7
  have R2 := bx_off R2 hs.2 (fun e => by injection e with e; omega)
  have HS := HS.trans hs
  have F := F.low (lo' := w.heap.size + 1) (by simp)
  clear hs
  have hsz1 : w.heap.size + 1 ≤ w1.heap.size := R2.1
  have hoff : ∀ i, i < m + 3 → ∀ q, (lpV (.slice A0 m ca) (.slice B0 m cb) (.slice C0 n cc) (fun i => .slice (RA i) n (RC i)) i).ownBlock = some q → q ≠ w1.heap.size := fun i hi q hq => Nat.ne_of_lt (F.lt i hi q hq)
  have B3 : Bx (w1.alloc (.cells #[.slice A0 m ca, .slice B0 m cb, .slice C0 n cc] 53)) w1.heap.size [.slice A0 m ca, .slice B0 m cb, .slice C0 n cc] := Bx.new w1 _ _
  have hb := (Below.refl w1.heap.size w1).alloc (Nat.le_refl _) (.cells #[.slice A0 m ca, .slice B0 m cb, .slice C0 n cc] 53)
  have F := FamLP.below F hb
  have R2 := R2.below hb
  have HS := HS.below hb
  clear hb
  have FH := Lib.hid F
  have B3H := Lib.hid B3
  have R2H := Lib.hid R2
  have HSH := Lib.hid HS
  have HOFF := Lib.hid hoff
  clear F B3 R2 HS hoff
  go_wp2_with fail
  have F := FH.out
  have B3 := B3H.out
  have R2 := R2H.out
  have HS := HSH.out
  have hoff := HOFF.out
  clear FH B3H R2H HSH HOFF
  obtain ⟨g3, eg3⟩ : ∃ g3, g3 = w1.heap.size := ⟨_, rfl⟩
  rw [← eg3] at B3 hoff hsz1 ⊢
  clear eg3
  refine (l1Below_any W _ g 12 (by omega) (by omega) HS.1).mono ?_
  rintro e w4 ⟨x, x0, x1, rfl, hs⟩
  replace F := F.off hs.2 (fun q hq => by injection hq with hq; omega)
  replace B3 := bx_off B3 hs.2 (fun e => by injection e with e; omega)
  replace R2 := bx_off R2 hs.2 (fun e => by injection e with e; omega)
  replace HS := HS.trans hs
  clear hs
  by_cases hx0 : x = 0
  · have dx0 : (x == 0) = true := beq_iff_eq.2 hx0
    clear x0 x1
    subst hx0
    have c1 := B3.2.1 1 _ rfl
    go_wp2_with (at_builtin; refine wpList_rowpush _ rfl _ _ 23 rfl (w.heap.size + 1) 3 (.int .i64 0) 1 8 Try.underlying23 infoInt rfl (by decide) (.slice B0 m cb) m _ rfl F.ownB [.int .i64 1] rfl rfl (by simp [Value.oneCell']) (by decide) (by omega) R2.1 ?_)
    intro g5 cap5 w5 hown5 hg5 hat5 hlt5
    rw [cellsI_upd] at hown5
    have hbl := Below.of_grown (B := w.heap.size + 1) hg5 R2.1 (fun q hq => (F.ownB.lt q hq).1)
    have hn5 : g5 ≠ g3 := fun e => by
      rcases hat5 with h | h
      · exact hoff 1 (by omega) g5 h e
      · have := B3.1
        omega
    have hoff1 : ∀ q, (Value.slice B0 m cb).ownBlock = some q → q ≠ g3 := fun q hq => hoff 1 (by omega) q hq
    have F := FamLP.setB F hg5 hown5 (fun q hq => by
      have e : some g5 = some q := hq
      injection e with e
      subst e
      exact hat5)
    have hoff5 : ∀ i, i < m + 3 → ∀ q, (lpV (.slice A0 m ca) (.slice (some ⟨g5, 0, none⟩) (m + 1) cap5) (.slice C0 n cc) (fun i => .slice (RA i) n (RC i)) i).ownBlock = some q → q ≠ g3 := fun i hi q hq => by
      match i, hi with
      | 0, hi => exact hoff 0 hi q hq
      | 1, _ =>
        have e : some g5 = some q := hq
        injection e with e
        subst e
        exact hn5
      | 2, hi => exact hoff 2 hi q hq
      | i + 3, hi => exact hoff (i + 3) hi q hq
    have B3 := bx_off B3 hg5 (fun e => hoff1 g3 e rfl)
    have R2 := bx_lo R2 hbl (Nat.lt_succ_self _)
    have HS := Stp.low HS hbl (by omega) (by omega) (by omega)
    clear c1 hbl hown5 hg5 hat5
    have c0 := B3.2.1 1 _ rfl
    have cf := B3.2.2 1
    have cz := B3.1
    have F : FamLP _ _ _ _ _ _ _ _ _ _ _ _ _ _ := Fam.offN F (only_setCell (p := ⟨g3, 1, none⟩) (World.grownBy.refl _ (some g3)) rfl (.slice (some ⟨g5, 0, none⟩) (m + 1) cap5)) (fun q hq i hi k hk => by injection hq with hq; rw [← hq]; exact hoff5 i hi k hk)
    have B3 := B3.set (k := 1) (by simp) (.slice (some ⟨g5, 0, none⟩) (m + 1) cap5)
    have R2 := R2.other (b := g3) (k := 1) (by omega) (.slice (some ⟨g5, 0, none⟩) (m + 1) cap5)
    have HS := Stp.low HS ((Below.refl w.heap.size _).setCell (p := ⟨g3, 1, none⟩) (by show w.heap.size ≤ g3; omega) (.slice (some ⟨g5, 0, none⟩) (m + 1) cap5)) (Nat.le_refl _) hW hgl
    have z0 := B3.2.1 0 _ rfl
    have z1 := B3.2.1 1 _ rfl
    have z2 := B3.2.1 2 _ rfl
    have r0 := R2.2.1 0 _ rfl
    have r1 := R2.2.1 1 _ rfl
    have r2 := R2.2.1 2 _ rfl
    have rz := R2.1
    have rf := R2.2.2
    have F := FamLP.off F (only_setCell (p := ⟨w.heap.size, 0, none⟩) (World.grownBy.refl _ (some w.heap.size)) rfl (.slice A0 m ca)) (fun q hq => by injection hq with hq; omega)
    have R2 := R2.set (k := 0) (by simp) (.slice A0 m ca)
    have HS := Stp.low HS ((Below.refl w.heap.size _).setCell (p := ⟨w.heap.size, 0, none⟩) (Nat.le_refl _) (.slice A0 m ca)) (Nat.le_refl _) hW hgl
    have F := FamLP.off F (only_setCell (p := ⟨w.heap.size, 1, none⟩) (World.grownBy.refl _ (some w.heap.size)) rfl (.slice (some ⟨g5, 0, none⟩) (m + 1) cap5)) (fun q hq => by injection hq with hq; omega)
    have R2 := R2.set (k := 1) (by simp) (.slice (some ⟨g5, 0, none⟩) (m + 1) cap5)
    have HS := Stp.low HS ((Below.refl w.heap.size _).setCell (p := ⟨w.heap.size, 1, none⟩) (Nat.le_refl _) (.slice (some ⟨g5, 0, none⟩) (m + 1) cap5)) (Nat.le_refl _) hW hgl
    have F := FamLP.off F (only_setCell (p := ⟨w.heap.size, 2, none⟩) (World.grownBy.refl _ (some w.heap.size)) rfl (.slice C0 n cc)) (fun q hq => by injection hq with hq; omega)
    have R2 := R2.set (k := 2) (by simp) (.slice C0 n cc)
    have HS := Stp.low HS ((Below.refl w.heap.size _).setCell (p := ⟨w.heap.size, 2, none⟩) (Nat.le_refl _) (.slice C0 n cc)) (Nat.le_refl _) hW hgl
    have f0 := R2.2.1 0 _ rfl
    have f1 := R2.2.1 1 _ rfl
    have f2 := R2.2.1 2 _ rfl
    have FH := Lib.hid F
    have HSH := Lib.hid HS
    clear F B3 R2 HS
    go_wp2
    refine bodyPost_ret (v := .agg #[.slice A0 m ca, .slice (some ⟨g5, 0, none⟩) (m + 1) cap5, .slice C0 n cc]) (by simp [results, Try.results87, go_sem, f0, f1, f2]) rfl (bent_mk (RN := fun _ => n) FH.out (by omega) (fun _ _ => by omega) (by omega) (by omega) (Nat.le_succ _) HSH.out)
  · have dx0 : (x == 0) = false := beq_eq_false_iff_ne.2 hx0
    by_cases hx1 : x = 1
    · have dx1 : (x == 1) = true := beq_iff_eq.2 hx1
      clear x0 x1 hx0
      subst hx1
      obtain ⟨gA, rfl⟩ := own_addr (FamLP.ownA F) (by omega)
      have hgA : w.heap.size + 1 ≤ gA := ((FamLP.ownA F).lt gA rfl).1
      have hcell : ∀ (wx : World), wx.ownsRow (w.heap.size + 1) 23 1 (.slice (some ⟨gA, 0, none⟩) m ca) m ((List.range m).map (fun i => Value.slice (RA i) n (RC i))) → wx.cell? ⟨gA, 0, none⟩ = some (.slice (RA 0) n (RC 0)) := fun wx h => by
        have h2 := h.cells (g := gA) rfl 0 (.slice (RA 0) n (RC 0)) (by rw [List.getElem?_map, List.getElem?_range (by omega)]; rfl)
        rwa [Addr.add_lit, Nat.zero_add] at h2
      have HCELL := Lib.hid hcell
      clear hcell
      have hb := (Below.refl w4.heap.size w4).drew
      replace F := FamLP.below F hb
      replace B3 := B3.below hb
      replace R2 := R2.below hb
      replace HS := HS.below hb
      clear hb
      have xk := HCELL.out _ (FamLP.ownA F)
      have k0 : 0 < m := by omega
      go_upto_region 6 with fail
      refine wp_region_noPanic ?_
      refine regionG (S := (fun w' => w'.cell? ⟨g3, 0, none⟩ = some (.slice (some ⟨gA, 0, none⟩) m ca) ∧ w'.cell? ⟨gA, 0, none⟩ = some (.slice (RA 0) n (RC 0)))) 9 (by kernel_rfl) ?_ (fun hHeld => ?_)
      · exact ⟨B3.2.1 0 _ rfl, xk⟩
      refine takeG 0 (v := ?v1001_0) rfl rfl (by kernel_rfl) (by rfl) (by kernel_rfl) (by kernel_rfl) (by kernel_rfl) (fun _ _ _ h => h) (by rfl) ?hy1001_0 (by assumption) ?r1001_0
      case hy1001_0 => (intro w hSw; (try dsimp only at hSw); first | (go_simp; done) | (go_simp; with_reducible rfl))
      simp only [Act.put, List.setIfInBounds_toArray, List.set_cons_zero, List.set_cons_succ]
      refine takeG 1 (v := ?v1001_1) rfl rfl (by kernel_rfl) (by rfl) (by kernel_rfl) (by kernel_rfl) (by kernel_rfl) (fun _ _ _ h => h) (by rfl) ?hy1001_1 (by assumption) ?r1001_1
      case hy1001_1 => (intro w hSw; (try dsimp only at hSw); first | (go_simp; done) | (go_simp; with_reducible rfl))
      simp only [Act.put, List.setIfInBounds_toArray, List.set_cons_zero, List.set_cons_succ]
      refine takeG 2 (v := ?v1001_2) rfl rfl (by kernel_rfl) (by rfl) (by kernel_rfl) (by kernel_rfl) (by kernel_rfl) (fun _ _ _ h => h) (by rfl) ?hy1001_2 (by assumption) ?r1001_2
      case hy1001_2 => (intro w hSw; (try dsimp only at hSw); first | (go_simp; done) | (go_simp; with_reducible rfl))
      simp only [Act.put, List.setIfInBounds_toArray, List.set_cons_zero, List.set_cons_succ]
      refine takeG 3 (v := ?v1001_3) rfl rfl (by kernel_rfl) (by rfl) (by kernel_rfl) (by kernel_rfl) (by kernel_rfl) (fun _ _ _ h => h) (by rfl) ?hy1001_3 (by assumption) ?r1001_3
      case hy1001_3 => (intro w hSw; (try dsimp only at hSw); first | (go_simp; done) | (go_simp; with_reducible rfl))
      simp only [Act.put, List.setIfInBounds_toArray, List.set_cons_zero, List.set_cons_succ]
      refine takeG 4 (v := ?v1001_4) rfl rfl (by kernel_rfl) (by rfl) (by kernel_rfl) (by kernel_rfl) (by kernel_rfl) (fun _ _ _ h => h) (by rfl) ?hy1001_4 (by assumption) ?r1001_4
      case hy1001_4 => (intro w hSw; (try dsimp only at hSw); first | (go_simp; done) | (go_simp; with_reducible rfl))
      simp only [Act.put, List.setIfInBounds_toArray, List.set_cons_zero, List.set_cons_succ]
      refine takeG 5 (v := ?v1001_5) rfl rfl (by kernel_rfl) (by rfl) (by kernel_rfl) (by kernel_rfl) (by kernel_rfl) (fun _ _ _ h => h) (by rfl) ?hy1001_5 (by assumption) ?r1001_5
      case hy1001_5 => (intro w hSw; (try dsimp only at hSw); first | (go_simp; done) | (go_simp; with_reducible rfl))
      simp only [Act.put, List.setIfInBounds_toArray, List.set_cons_zero, List.set_cons_succ]
      refine nextG 6 (by kernel_rfl) rfl (by rfl) (fun K hK => ?_)
      go_simp
      refine hK.out _ _ ?_ (fun hHeld => ?_)
      · exact ⟨(B3.alloc _).2.1 0 _ rfl, HCELL.out _ (own_below (FamLP.ownA F) ((Below.refl _ _).alloc (Nat.le_refl _) _))⟩
      clear hK K
      try simp only [Act.put, List.setIfInBounds_toArray, List.set_cons_zero, List.set_cons_succ]
      refine nextG 7 (by kernel_rfl) rfl (by rfl) (fun K hK => ?_)
      have hRk : w4.drew.ownsRow (w.heap.size + 1) 3 1 (.slice (RA 0) n (RC 0)) n (cellsI (RV 0) n) := FamLP.ownR F (i := 0) (by omega); refine wp_rowpush _ _ _ 23 rfl (w.heap.size + 1) 3 (.int .i64 0) 1 8 Try.underlying23 infoInt rfl (by decide) (.slice (RA 0) n (RC 0)) n _ rfl hRk [.int .i64 1] rfl rfl (by simp [Value.oneCell']) (by decide) (by omega) R2.1 ?_; intro g5 cap5 w8 hownR hg5 hat5 hlt5; rw [cellsI_upd] at hownR; have F0 := Lib.hid F; have hgR := hg5; have hapR : ∀ q, (Value.slice (some (⟨g5, 0, none⟩ : Addr)) (n + 1) cap5).ownBlock = some q → (Value.slice (RA 0) n (RC 0)).ownBlock = some q ∨ w4.drew.heap.size ≤ q := (fun q hq => by have e : some g5 = some q := hq; injection e with e; subst e; exact hat5); have hbl := Below.of_grown (B := w.heap.size + 1) hg5 R2.1 (fun q hq => (hRk.lt q hq).1); have B3 := bx_off B3 hg5 (fun e => hoff 3 (by omega) g3 e rfl); have R2 := bx_lo R2 hbl (Nat.lt_succ_self _); have HS := Stp.low HS hbl (by omega) (by omega) (by omega); have HOA := own_off (FamLP.ownA F) hgR (fun q hq e => FamLP.neA F (i := 0) (by omega) q hq e); have xk := HCELL.out _ HOA; clear hRk hbl hg5 hat5
      refine hK.out _ _ ?_ (fun hHeld => ?_)
      · exact ⟨B3.2.1 0 _ rfl, xk⟩
      clear hK K
      try simp only [Act.put, List.setIfInBounds_toArray, List.set_cons_zero, List.set_cons_succ]
      refine takeG 8 (v := ?v1001_8) rfl rfl (by kernel_rfl) (by rfl) (by kernel_rfl) (by kernel_rfl) (by kernel_rfl) (fun _ _ _ h => h) (by rfl) ?hy1001_8 (by assumption) ?r1001_8
      case hy1001_8 => (intro w hSw; (try dsimp only at hSw); first | (go_simp; done) | (go_simp; with_reducible rfl))
      simp only [Act.put, List.setIfInBounds_toArray, List.set_cons_zero, List.set_cons_succ]
      refine lastG (by kernel_rfl) (by kernel_rfl) rfl (by rfl) (fun K hK => ?_)
      obtain ⟨⟨ycl, y00⟩, f00⟩ := own_cell (i := 0) HOA (by omega) (by omega)
      have y0 := xk
      have yf := f00
      have yz := B3.1
      go_simp
      refine hK.out _ _ ?_
      clear hK K
      refine NoPanic.normal ?_
      clear y0 yf yz ycl y00 f00 hHeld xk
      have F := FamLP.setR F0.out (i := 0) (by omega) rfl hgR hownR hapR
      have F := FamLP.congrR F (R' := fun q => .slice (if q = 0 then some ⟨g5, 0, none⟩ else RA q) (if q = 0 then n + 1 else n) (if q = 0 then cap5 else RC q)) (RN' := fun q => if q = 0 then n + 1 else n) (RV' := fun q => if q = 0 then (fun j => if j = n then 1 else RV 0 j) else RV q) (Nat.le_refl _) (fun q hq => by
        by_cases e : q = 0
        · subst e
          simp
        · simp [e])
      have hne3 : g3 ≠ gA := fun e => hoff 0 (by omega) gA rfl e.symm
      have B3 := B3.other (b := gA) (k := 0) hne3 (.slice (some ⟨g5, 0, none⟩) (n + 1) cap5)
      have R2 := R2.other (b := gA) (k := 0) (by omega) (.slice (some ⟨g5, 0, none⟩) (n + 1) cap5)
      have HS := Stp.low HS ((Below.refl w.heap.size _).setCell (p := ⟨gA, 0, none⟩) (by show w.heap.size ≤ gA; omega) (.slice (some ⟨g5, 0, none⟩) (n + 1) cap5)) (Nat.le_refl _) hW hgl
      clear F0 hgR hownR hapR HCELL
      have z0 := B3.2.1 0 _ rfl
      have z1 := B3.2.1 1 _ rfl
      have z2 := B3.2.1 2 _ rfl
      have r0 := R2.2.1 0 _ rfl
      have r1 := R2.2.1 1 _ rfl
      have r2 := R2.2.1 2 _ rfl
      have rz := R2.1
      have rf := R2.2.2
      have F := FamLP.off F (only_setCell (p := ⟨w.heap.size, 0, none⟩) (World.grownBy.refl _ (some w.heap.size)) rfl (.slice (some ⟨gA, 0, none⟩) m ca)) (fun q hq => by injection hq with hq; omega)
      have R2 := R2.set (k := 0) (by simp) (.slice (some ⟨gA, 0, none⟩) m ca)
      have HS := Stp.low HS ((Below.refl w.heap.size _).setCell (p := ⟨w.heap.size, 0, none⟩) (Nat.le_refl _) (.slice (some ⟨gA, 0, none⟩) m ca)) (Nat.le_refl _) hW hgl
      have F := FamLP.off F (only_setCell (p := ⟨w.heap.size, 1, none⟩) (World.grownBy.refl _ (some w.heap.size)) rfl (.slice B0 m cb)) (fun q hq => by injection hq with hq; omega)
      have R2 := R2.set (k := 1) (by simp) (.slice B0 m cb)
      have HS := Stp.low HS ((Below.refl w.heap.size _).setCell (p := ⟨w.heap.size, 1, none⟩) (Nat.le_refl _) (.slice B0 m cb)) (Nat.le_refl _) hW hgl
      have F := FamLP.off F (only_setCell (p := ⟨w.heap.size, 2, none⟩) (World.grownBy.refl _ (some w.heap.size)) rfl (.slice C0 n cc)) (fun q hq => by injection hq with hq; omega)
      have R2 := R2.set (k := 2) (by simp) (.slice C0 n cc)
      have HS := Stp.low HS ((Below.refl w.heap.size _).setCell (p := ⟨w.heap.size, 2, none⟩) (Nat.le_refl _) (.slice C0 n cc)) (Nat.le_refl _) hW hgl
      have f0 := R2.2.1 0 _ rfl
      have f1 := R2.2.1 1 _ rfl
      have f2 := R2.2.1 2 _ rfl
      have FH := Lib.hid F
      have HSH := Lib.hid HS
      clear F B3 R2 HS
      go_wp2
      refine bodyPost_ret (v := .agg #[.slice (some ⟨gA, 0, none⟩) m ca, .slice B0 m cb, .slice C0 n cc]) (by simp [results, Try.results87, go_sem, f0, f1, f2]) rfl (bent_mk FH.out (by omega) (fun j _ => by show (if j = 0 then n + 1 else n) ≤ 16; split <;> omega) (by omega) (by omega) (Nat.le_succ _) HSH.out)
    · have dx1 : (x == 1) = false := beq_eq_false_iff_ne.2 hx1
      by_cases hx2 : x = 2
      · have dx2 : (x == 2) = true := beq_iff_eq.2 hx2
        clear x0 x1 hx0 hx1
        subst hx2
        obtain ⟨gR, egR⟩ := own_addr (FamLP.ownR F (i := 0) (by omega)) (by omega)
        obtain ⟨gA, rfl⟩ := own_addr (FamLP.ownA F) (by omega)
        have hgA : w.heap.size + 1 ≤ gA := ((FamLP.ownA F).lt gA rfl).1
        have hcell : ∀ (wx : World), wx.ownsRow (w.heap.size + 1) 23 1 (.slice (some ⟨gA, 0, none⟩) m ca) m ((List.range m).map (fun i => Value.slice (RA i) n (RC i))) → wx.cell? ⟨gA, 0, none⟩ = some (.slice (RA 0) n (RC 0)) := fun wx h => by
          have h2 := h.cells (g := gA) rfl 0 (.slice (RA 0) n (RC 0)) (by rw [List.getElem?_map, List.getElem?_range (by omega)]; rfl)
          rwa [Addr.add_lit, Nat.zero_add] at h2
        have HCELL := Lib.hid hcell
        clear hcell
        have hb := (Below.refl w4.heap.size w4).drew
        replace F := FamLP.below F hb
        replace B3 := B3.below hb
        replace R2 := R2.below hb
        replace HS := HS.below hb
        clear hb
        have xk := HCELL.out _ (FamLP.ownA F)
        have k0 : 0 < m := by omega
        have n0 : 0 < n := by omega
        simp only [egR] at xk HCELL
        go_upto_region 8 with fail
        refine wp_region_noPanic ?_
        refine regionG (S := (fun w' => w'.cell? ⟨g3, 0, none⟩ = some (.slice (some ⟨gA, 0, none⟩) m ca) ∧ w'.cell? ⟨gA, 0, none⟩ = some (.slice (some ⟨gR, 0, none⟩) n (RC 0)))) 8 (by kernel_rfl) ?_ (fun hHeld => ?_)
        · exact ⟨B3.2.1 0 _ rfl, xk⟩
        refine takeG 0 (v := ?v1002_0) rfl rfl (by kernel_rfl) (by rfl) (by kernel_rfl) (by kernel_rfl) (by kernel_rfl) (fun _ _ _ h => h) (by rfl) ?hy1002_0 (by assumption) ?r1002_0
        case hy1002_0 => (intro w hSw; (try dsimp only at hSw); first | (go_simp; done) | (go_simp; with_reducible rfl))
        simp only [Act.put, List.setIfInBounds_toArray, List.set_cons_zero, List.set_cons_succ]
        refine takeG 1 (v := ?v1002_1) rfl rfl (by kernel_rfl) (by rfl) (by kernel_rfl) (by kernel_rfl) (by kernel_rfl) (fun _ _ _ h => h) (by rfl) ?hy1002_1 (by assumption) ?r1002_1
        case hy1002_1 => (intro w hSw; (try dsimp only at hSw); first | (go_simp; done) | (go_simp; with_reducible rfl))
        simp only [Act.put, List.setIfInBounds_toArray, List.set_cons_zero, List.set_cons_succ]
        refine takeG 2 (v := ?v1002_2) rfl rfl (by kernel_rfl) (by rfl) (by kernel_rfl) (by kernel_rfl) (by kernel_rfl) (fun _ _ _ h => h) (by rfl) ?hy1002_2 (by assumption) ?r1002_2
        case hy1002_2 => (intro w hSw; (try dsimp only at hSw); first | (go_simp; done) | (go_simp; with_reducible rfl))
        simp only [Act.put, List.setIfInBounds_toArray, List.set_cons_zero, List.set_cons_succ]
        refine takeG 3 (v := ?v1002_3) rfl rfl (by kernel_rfl) (by rfl) (by kernel_rfl) (by kernel_rfl) (by kernel_rfl) (fun _ _ _ h => h) (by rfl) ?hy1002_3 (by assumption) ?r1002_3
        case hy1002_3 => (intro w hSw; (try dsimp only at hSw); first | (go_simp; done) | (go_simp; with_reducible rfl))
        simp only [Act.put, List.setIfInBounds_toArray, List.set_cons_zero, List.set_cons_succ]
        refine takeG 4 (v := ?v1002_4) rfl rfl (by kernel_rfl) (by rfl) (by kernel_rfl) (by kernel_rfl) (by kernel_rfl) (fun _ _ _ h => h) (by rfl) ?hy1002_4 (by assumption) ?r1002_4
        case hy1002_4 => (intro w hSw; (try dsimp only at hSw); first | (go_simp; done) | (go_simp; with_reducible rfl))
        simp only [Act.put, List.setIfInBounds_toArray, List.set_cons_zero, List.set_cons_succ]
        refine nextG 5 (by kernel_rfl) rfl (by rfl) (fun K hK => ?_)
        go_simp
        have hl := Lst.new (w := w4.drew) (t := 3) (P := fun v => ∃ z : Int, True ∧ v = .int .i64 z) #[.int .i64 5000, .int .i64 5001, .int .i64 (-5001)] (by intro v hv; simp only [List.mem_toArray, List.mem_cons, List.not_mem_nil, or_false] at hv; rcases hv with rfl | rfl | rfl <;> exact ⟨_, trivial, rfl⟩); have hne : w4.drew.heap.size ≠ g := Nat.ne_of_gt HS.1.lt; have hb := (Below.refl w4.drew.heap.size w4.drew).alloc (Nat.le_refl _) (.cells #[.int .i64 5000, .int .i64 5001, .int .i64 (-5001)] 3); replace F := FamLP.below F hb; replace B3 := B3.below hb; replace R2 := R2.below hb; replace HS := HS.below hb; clear hb; have xk := HCELL.out _ (FamLP.ownA F)
        refine hK.out _ _ ?_ (fun hHeld => ?_)
        · exact ⟨B3.2.1 0 _ rfl, xk⟩
        clear hK K
        try simp only [Act.put, List.setIfInBounds_toArray, List.set_cons_zero, List.set_cons_succ]
        refine nextG 6 (by kernel_rfl) rfl (by rfl) (fun K hK => ?_)
        go_simp
        go_at_call 110; refine (l1PickInt_any W _ g w4.drew.heap.size 3 _ HS.1 (by omega) (by omega) hne hl).mono ?_; rintro e w5 ⟨zb, hzb, rfl, hs⟩; replace F := F.off hs.2 (fun q hq => by injection hq with hq; omega); replace B3 := bx_off B3 hs.2 (fun e => by injection e with e; omega); replace R2 := bx_off R2 hs.2 (fun e => by injection e with e; omega); replace HS := HS.trans hs; clear hs; have xk := HCELL.out _ (FamLP.ownA F)
        go_wp2_with fail
        refine hK.out _ _ ?_ (fun hHeld => ?_)
        · exact ⟨B3.2.1 0 _ rfl, xk⟩
        clear hK K
        refine takeG 7 (v := ?v1002_7) rfl rfl (by kernel_rfl) (by rfl) (by kernel_rfl) (by kernel_rfl) (by kernel_rfl) (fun _ _ _ h => h) (by rfl) ?hy1002_7 (by assumption) ?r1002_7
        case hy1002_7 => (intro w hSw; (try dsimp only at hSw); first | (go_simp; done) | (go_simp; with_reducible rfl))
        simp only [Act.put, List.setIfInBounds_toArray, List.set_cons_zero, List.set_cons_succ]
        refine lastG (by kernel_rfl) (by kernel_rfl) rfl (by rfl) (fun K hK => ?_)
        have hRk : World.ownsRow _ (w.heap.size + 1) 3 1 (.slice (RA 0) n (RC 0)) n (cellsI (RV 0) n) := FamLP.ownR F (i := 0) (by omega)
        rw [egR] at hRk
        obtain ⟨⟨ycl, y00⟩, f00⟩ := own_cell (i := 0) hRk (by omega) (by omega)
        have hgR := (hRk.lt gR rfl).1
        have hzR := (hRk.lt gR rfl).2
        go_simp
        refine hK.out _ _ ?_
        clear hK K
        refine NoPanic.normal ?_
        clear ycl y00 f00 hHeld xk hRk hzR HCELL hl hne
        have F := FamLP.storeR F (i := 0) (by omega) (g := gR) (by show Value.slice (RA 0) n (RC 0) = _; rw [egR]) rfl 0 zb
        have hne3 : g3 ≠ gR := fun e => hoff 3 (by omega) gR (by show (Value.slice (RA 0) n (RC 0)).ownBlock = _; rw [egR]; rfl) e.symm
        have B3 := B3.other (b := gR) (k := 0) hne3 (.int .i64 zb)
        have R2 := R2.other (b := gR) (k := 0) (by omega) (.int .i64 zb)
        have HS := Stp.low HS ((Below.refl w.heap.size _).setCell (p := ⟨gR, 0, none⟩) (by show w.heap.size ≤ gR; omega) (.int .i64 zb)) (Nat.le_refl _) hW hgl
        have z0 := B3.2.1 0 _ rfl
        have z1 := B3.2.1 1 _ rfl
        have z2 := B3.2.1 2 _ rfl
        have r0 := R2.2.1 0 _ rfl
        have r1 := R2.2.1 1 _ rfl
        have r2 := R2.2.1 2 _ rfl
        have rz := R2.1
        have rf := R2.2.2
        have F := FamLP.off F (only_setCell (p := ⟨w.heap.size, 0, none⟩) (World.grownBy.refl _ (some w.heap.size)) rfl (.slice (some ⟨gA, 0, none⟩) m ca)) (fun q hq => by injection hq with hq; omega)
        have R2 := R2.set (k := 0) (by simp) (.slice (some ⟨gA, 0, none⟩) m ca)
        have HS := Stp.low HS ((Below.refl w.heap.size _).setCell (p := ⟨w.heap.size, 0, none⟩) (Nat.le_refl _) (.slice (some ⟨gA, 0, none⟩) m ca)) (Nat.le_refl _) hW hgl
        have F := FamLP.off F (only_setCell (p := ⟨w.heap.size, 1, none⟩) (World.grownBy.refl _ (some w.heap.size)) rfl (.slice B0 m cb)) (fun q hq => by injection hq with hq; omega)
        have R2 := R2.set (k := 1) (by simp) (.slice B0 m cb)
        have HS := Stp.low HS ((Below.refl w.heap.size _).setCell (p := ⟨w.heap.size, 1, none⟩) (Nat.le_refl _) (.slice B0 m cb)) (Nat.le_refl _) hW hgl
        have F := FamLP.off F (only_setCell (p := ⟨w.heap.size, 2, none⟩) (World.grownBy.refl _ (some w.heap.size)) rfl (.slice C0 n cc)) (fun q hq => by injection hq with hq; omega)
        have R2 := R2.set (k := 2) (by simp) (.slice C0 n cc)
        have HS := Stp.low HS ((Below.refl w.heap.size _).setCell (p := ⟨w.heap.size, 2, none⟩) (Nat.le_refl _) (.slice C0 n cc)) (Nat.le_refl _) hW hgl
        have f0 := R2.2.1 0 _ rfl
        have f1 := R2.2.1 1 _ rfl
        have f2 := R2.2.1 2 _ rfl
        have FH := Lib.hid F
        have HSH := Lib.hid HS
        clear F B3 R2 HS
        go_wp2
        refine bodyPost_ret (v := .agg #[.slice (some ⟨gA, 0, none⟩) m ca, .slice B0 m cb, .slice C0 n cc]) (by simp [results, Try.results87, go_sem, f0, f1, f2]) rfl (bent_mk (RN := fun _ => n) FH.out (by omega) (fun _ _ => by omega) (by omega) (by omega) (Nat.le_succ _) HSH.out)
      · have dx2 : (x == 2) = false := beq_eq_false_iff_ne.2 hx2
        clear x0 x1
        have z0 := B3.2.1 0 _ rfl
        have z1 := B3.2.1 1 _ rfl
        have z2 := B3.2.1 2 _ rfl
        have r0 := R2.2.1 0 _ rfl
        have r1 := R2.2.1 1 _ rfl
        have r2 := R2.2.1 2 _ rfl
        have rz := R2.1
        have rf := R2.2.2
        have F := FamLP.off F (only_setCell (p := ⟨w.heap.size, 0, none⟩) (World.grownBy.refl _ (some w.heap.size)) rfl (.slice A0 m ca)) (fun q hq => by injection hq with hq; omega)
        have R2 := R2.set (k := 0) (by simp) (.slice A0 m ca)
        have HS := Stp.low HS ((Below.refl w.heap.size _).setCell (p := ⟨w.heap.size, 0, none⟩) (Nat.le_refl _) (.slice A0 m ca)) (Nat.le_refl _) hW hgl
        have F := FamLP.off F (only_setCell (p := ⟨w.heap.size, 1, none⟩) (World.grownBy.refl _ (some w.heap.size)) rfl (.slice B0 m cb)) (fun q hq => by injection hq with hq; omega)
        have R2 := R2.set (k := 1) (by simp) (.slice B0 m cb)
        have HS := Stp.low HS ((Below.refl w.heap.size _).setCell (p := ⟨w.heap.size, 1, none⟩) (Nat.le_refl _) (.slice B0 m cb)) (Nat.le_refl _) hW hgl
        have F := FamLP.off F (only_setCell (p := ⟨w.heap.size, 2, none⟩) (World.grownBy.refl _ (some w.heap.size)) rfl (.slice C0 n cc)) (fun q hq => by injection hq with hq; omega)
        have R2 := R2.set (k := 2) (by simp) (.slice C0 n cc)
        have HS := Stp.low HS ((Below.refl w.heap.size _).setCell (p := ⟨w.heap.size, 2, none⟩) (Nat.le_refl _) (.slice C0 n cc)) (Nat.le_refl _) hW hgl
        have f0 := R2.2.1 0 _ rfl
        have f1 := R2.2.1 1 _ rfl
        have f2 := R2.2.1 2 _ rfl
        have FH := Lib.hid F
        have HSH := Lib.hid HS
        clear F B3 R2 HS
        go_wp2
        refine bodyPost_ret (v := .agg #[.slice A0 m ca, .slice B0 m cb, .slice C0 n cc]) (by simp [results, Try.results87, go_sem, f0, f1, f2]) rfl (bent_mk (RN := fun _ => n) FH.out (by omega) (fun _ _ => by omega) (by omega) (by omega) (Nat.le_succ _) HSH.out)
end Go.Proofs.Ytajafmdeencohaa

namespace Go.Proofs.Ytajafmdeencohaa
open Go.RowKit
attribute [local go_sem ↓] Go.wp_at_zero Go.wp_at_succ

/-- a drawn LP that can be read -/
def DrawnLP (v : Value) (w : World) : Prop :=
  ∃ (A0 B0 C0 : Option Addr) (m bn n ca cb cc : Nat) (RA : Nat → Option Addr) (RN RC : Nat → Nat) (RV : Nat → Nat → Int) (BV : Nat → Int) (CV : Fr), m ≤ 16 ∧ (∀ j, j < m → RN j ≤ 16) ∧ bn ≤ 16 ∧ n ≤ 16 ∧
    v = .agg #[.slice A0 m ca, .slice B0 bn cb, .slice C0 n cc] ∧ RdI w w.heap.size A0 m RA RN RC RV ∧ Rd w w.heap.size 1 B0 bn (cellsI BV bn) ∧ RdP w w.heap.size C0 n CV
set_option maxRecDepth 20000 in
theorem drawStart_any (A : Option Addr) (n c : Nat) (w : World) (hn : (n : Int) ≤ 1048576) (hr : RdB w w.heap.size A n) :
    Calls Try.prog 38 #[.slice A n c] w fun e w' => ∃ v, e = .returned v ∧ DrawnLP v w' ∧ Below w.heap.size w w' := by
  have R2 : Bx (w.alloc (.cells #[.slice none 0 0, .slice none 0 0, .slice none 0 0] 53)) w.heap.size [.slice none 0 0, .slice none 0 0, .slice none 0 0] := Bx.new w _ _
  have HN := Lib.hid (l1New_any A n c w (w.alloc (.cells #[.slice none 0 0, .slice none 0 0, .slice none 0 0] 53)) ((Below.refl _ _).alloc (Nat.le_refl _) _) hn hr)
  clear hr
  go_enter Try.func38, Try.ntmps38
  go_wp2_with fail
  refine HN.out.mono ?_
  rintro e w1 ⟨g, rfl, hd, hb, hg⟩
  have hgw : w.heap.size < g := Nat.lt_of_lt_of_le R2.1 hg
  have R2 := R2.below hb
  have hz1 := R2.1
  clear hb hg HN
  go_wp2_with fail
  refine (l5Bent_any w w1 g hd).mono ?_
  rintro e w2 ⟨A0, B0, C0, m, bn, n, ca, cb, cc, RA, RN, RC, RV, BV, CV, h1, h2, h3, h4, rfl, hk, hs⟩
  have R2 := bx_off R2 hs.2 (fun e => by injection e with e; omega)
  have HB := hs.1.1
  have hsz := hs.2.size
  have r0 := R2.2.1 0 _ rfl
  have r1 := R2.2.1 1 _ rfl
  have r2 := R2.2.1 2 _ rfl
  have rz := R2.1
  have rf := R2.2.2
  have hgr := World.grownBy.refl w2 (some w.heap.size)
  have R2 := R2.set (k := 0) (by simp) (.slice A0 m ca)
  have HB := HB.setCell (p := ⟨w.heap.size, 0, none⟩) (Nat.le_refl _) (.slice A0 m ca)
  have hgr := only_setCell (p := ⟨w.heap.size, 0, none⟩) hgr rfl (.slice A0 m ca)
  have R2 := R2.set (k := 1) (by simp) (.slice B0 bn cb)
  have HB := HB.setCell (p := ⟨w.heap.size, 1, none⟩) (Nat.le_refl _) (.slice B0 bn cb)
  have hgr := only_setCell (p := ⟨w.heap.size, 1, none⟩) hgr rfl (.slice B0 bn cb)
  have R2 := R2.set (k := 2) (by simp) (.slice C0 n cc)
  have HB := HB.setCell (p := ⟨w.heap.size, 2, none⟩) (Nat.le_refl _) (.slice C0 n cc)
  have hgr := only_setCell (p := ⟨w.heap.size, 2, none⟩) hgr rfl (.slice C0 n cc)
  have f0 := R2.2.1 0 _ rfl
  have f1 := R2.2.1 1 _ rfl
  have f2 := R2.2.1 2 _ rfl
  have HR := Lib.hid (hk _ hgr.size (fun k hk1 hk2 => hgr.block k hk2 (fun e => by injection e with e; omega)))
  have HSZ := Lib.hid hgr.size
  have HBB := Lib.hid HB
  have H2 := Lib.hid h2
  clear hk hgr R2 HB hs h2
  go_wp2
  refine bodyPost_ret (v := .agg #[.slice A0 m ca, .slice B0 bn cb, .slice C0 n cc]) (by simp [results, Try.results38, go_sem, f0, f1, f2]) rfl ⟨_, rfl, ⟨A0, B0, C0, m, bn, n, ca, cb, cc, RA, RN, RC, RV, BV, CV, h1, H2.out, h3, h4, rfl, HR.out⟩, HBB.out⟩
end Go.Proofs.Ytajafmdeencohaa

namespace Go.Proofs.Ytajafmdeencohaa
open Go.RowKit
attribute [local go_sem ↓] Go.wp_at_zero Go.wp_at_succ

/-- a drawn tableau that can be read -/
def DrawnTab (v : Value) (w : World) : Prop :=
  ∃ (R0 Bs : Option Addr) (rn rc bn bc : Nat) (cols : Int) (RA : Nat → Option Addr) (RN RC : Nat → Nat) (RV : Nat → Fr) (BV : Nat → Int), 1 ≤ rn ∧ rn ≤ 3 ∧ (∀ j, j < rn → RN j ≤ 16) ∧ bn ≤ 16 ∧ 0 ≤ cols ∧ cols ≤ 16 ∧
    v = .agg #[.slice R0 rn rc, .slice Bs bn bc, .int .i64 cols] ∧ ((Bs = none → bn = 0 ∧ bc = 0) ∧ ∀ j, j < rn → RA j = none → RN j = 0 ∧ RC j = 0) ∧ RdR w w.heap.size R0 rn RA RN RC RV ∧ Rd w w.heap.size 1 Bs bn (cellsI BV bn)
set_option maxRecDepth 20000 in
theorem drawSol_any (A : Option Addr) (n c : Nat) (w : World) (hn : (n : Int) ≤ 1048576) (hr : RdB w w.heap.size A n) :
    Calls Try.prog 40 #[.slice A n c] w fun e w' => ∃ v, e = .returned v ∧ DrawnTab v w' ∧ Below w.heap.size w w' := by
  have R2 : Bx (w.alloc (.cells #[.slice none 0 0, .slice none 0 0, .int .i64 0] 30)) w.heap.size [.slice none 0 0, .slice none 0 0, .int .i64 0] := Bx.new w _ _
  have HN := Lib.hid (l1New_any A n c w (w.alloc (.cells #[.slice none 0 0, .slice none 0 0, .int .i64 0] 30)) ((Below.refl _ _).alloc (Nat.le_refl _) _) hn hr)
  clear hr
  go_enter Try.func40, Try.ntmps40
  go_wp2_with fail
  refine HN.out.mono ?_
  rintro e w1 ⟨g, rfl, hd, hb, hg⟩
  have hgw : w.heap.size < g := Nat.lt_of_lt_of_le R2.1 hg
  have R2 := R2.below hb
  have hz1 := R2.1
  clear hb hg HN
  go_wp2_with fail
  refine (l6Draw_any w w1 g hd).mono ?_
  rintro e w2 ⟨R0, Bs, rn, rc, bn, bc, cols, RA, RN, RC, RV, BV, h1, h2, h3, h4, h5, h6, rfl, hnil, hk, hs⟩
  have R2 := bx_off R2 hs.2 (fun e => by injection e with e; omega)
  have HB := hs.1.1
  have hsz := hs.2.size
  have r0 := R2.2.1 0 _ rfl
  have r1 := R2.2.1 1 _ rfl
  have r2 := R2.2.1 2 _ rfl
  have rz := R2.1
  have rf := R2.2.2
  have hgr := World.grownBy.refl w2 (some w.heap.size)
  have R2 := R2.set (k := 0) (by simp) (.slice R0 rn rc)
  have HB := HB.setCell (p := ⟨w.heap.size, 0, none⟩) (Nat.le_refl _) (.slice R0 rn rc)
  have hgr := only_setCell (p := ⟨w.heap.size, 0, none⟩) hgr rfl (.slice R0 rn rc)
  have R2 := R2.set (k := 1) (by simp) (.slice Bs bn bc)
  have HB := HB.setCell (p := ⟨w.heap.size, 1, none⟩) (Nat.le_refl _) (.slice Bs bn bc)
  have hgr := only_setCell (p := ⟨w.heap.size, 1, none⟩) hgr rfl (.slice Bs bn bc)
  have R2 := R2.set (k := 2) (by simp) (.int .i64 cols)
  have HB := HB.setCell (p := ⟨w.heap.size, 2, none⟩) (Nat.le_refl _) (.int .i64 cols)
  have hgr := only_setCell (p := ⟨w.heap.size, 2, none⟩) hgr rfl (.int .i64 cols)
  have f0 := R2.2.1 0 _ rfl
  have f1 := R2.2.1 1 _ rfl
  have f2 := R2.2.1 2 _ rfl
  have HR := Lib.hid (hk _ hgr.size (fun k hk1 hk2 => hgr.block k hk2 (fun e => by injection e with e; omega)))
  have HSZ := Lib.hid hgr.size
  have HBB := Lib.hid HB
  have HNIL := Lib.hid hnil
  have H3 := Lib.hid h3
  clear hk hgr R2 HB hs hnil h3
  go_wp2
  refine bodyPost_ret (v := .agg #[.slice R0 rn rc, .slice Bs bn bc, .int .i64 cols]) (by simp [results, Try.results40, go_sem, f0, f1, f2]) rfl ⟨_, rfl, ⟨R0, Bs, rn, rc, bn, bc, cols, RA, RN, RC, RV, BV, h1, h2, H3.out, h4, h5, h6, rfl, HNIL.out, HR.out.1.more HSZ.out, HR.out.2.more HSZ.out⟩, HBB.out⟩
end Go.Proofs.Ytajafmdeencohaa

namespace Go.Proofs.Ytajafmdeencohaa
open Go.RowKit
attribute [local go_sem ↓] Go.wp_at_zero Go.wp_at_succ

/-- the blocks from lo to hi are as w2 has them -/
def Keeps (lo hi : Nat) (w2 w' : World) : Prop := hi ≤ w'.heap.size ∧ ∀ k, lo ≤ k → k < hi → w'.heap[k]? = w2.heap[k]?
section
variable {lo hi : Nat} {w2 w' w'' : World}
theorem Keeps.refl (lo : Nat) (w : World) : Keeps lo w.heap.size w w := ⟨Nat.le_refl _, fun _ _ _ => rfl⟩
theorem Keeps.grown (h : Keeps lo hi w2 w') {row : Option Nat} (hg : w'.grownBy w'' row) (hd : ∀ g, row = some g → g < lo) : Keeps lo hi w2 w'' :=
  ⟨Nat.le_trans h.1 hg.size, fun k hk hk2 => (hg.block k (Nat.lt_of_lt_of_le hk2 h.1) (fun e => by have := hd k e.symm; omega)).trans (h.2 k hk hk2)⟩
theorem Keeps.below (h : Keeps lo hi w2 w') (hb : Below w'.heap.size w' w'') : Keeps lo hi w2 w'' :=
  ⟨Nat.le_trans h.1 hb.size, fun k hk hk2 => (hb.block k (Nat.lt_of_lt_of_le hk2 h.1)).trans (h.2 k hk hk2)⟩
theorem Keeps.set (h : Keeps lo hi w2 w') {p : Addr} (hp : p.block < lo) (v : Value) : Keeps lo hi w2 (w'.setCell p v) :=
  ⟨by simpa [World.setCell] using h.1, fun k hk hk2 => (Below.heap_setCell _ _ _ _ (by omega)).trans (h.2 k hk hk2)⟩
end
set_option maxHeartbeats 4000000 in
set_option maxRecDepth 20000 in
theorem drawPiv_any (A : Option Addr) (n c : Nat) (w : World) (hn : (n : Int) ≤ 1048576) (hr : RdB w w.heap.size A n) :
    Calls Try.prog 37 #[.slice A n c] w fun e w' => ∃ (v : Value) (row col : Int), e = .returned (.tuple #[v, .int .i64 row, .int .i64 col]) ∧ DrawnTab v w' ∧ Below w.heap.size w w' := by
  have R2 : Bx (w.alloc (.cells #[.slice none 0 0, .slice none 0 0, .int .i64 0] 30)) w.heap.size [.slice none 0 0, .slice none 0 0, .int .i64 0] := Bx.new w _ _
  have HN := Lib.hid (l1New_any A n c w (w.alloc (.cells #[.slice none 0 0, .slice none 0 0, .int .i64 0] 30)) ((Below.refl _ _).alloc (Nat.le_refl _) _) hn hr)
  clear hr
  go_enter Try.func37, Try.ntmps37
  go_wp2_with fail
  refine HN.out.mono ?_
  rintro e w1 ⟨g, rfl, hd, hb, hg⟩
  have hgw : w.heap.size < g := Nat.lt_of_lt_of_le R2.1 hg
  have hgl := hd.lt
  have R2 := R2.below hb
  have hz1 := R2.1
  clear hb hg HN
  go_wp2_with fail
  refine (l6Draw_any w w1 g hd).mono ?_
  rintro e w2 ⟨R0, Bs, rn, rc, bn, bc, cols, RA, RN, RC, RV, BV, h1, h2, h3, h4, h5, h6, rfl, hnil, hk, hs⟩
  have hle := hs.2.size
  have R2 := bx_off R2 hs.2 (fun e => by injection e with e; omega)
  have HS := hs
  have KP := Keeps.refl w1.heap.size w2
  have B3 : Bx (w2.alloc (.cells #[.slice R0 rn rc, .slice Bs bn bc, .int .i64 cols] 30)) w2.heap.size [.slice R0 rn rc, .slice Bs bn bc, .int .i64 cols] := Bx.new w2 _ _
  have hb2 := (Below.refl w2.heap.size w2).alloc (Nat.le_refl _) (.cells #[.slice R0 rn rc, .slice Bs bn bc, .int .i64 cols] 30)
  have R2 := R2.below hb2
  have HS := HS.below hb2
  have KP := KP.below hb2
  clear hs hb2
  have HK := Lib.hid hk
  have HNIL := Lib.hid hnil
  have H3 := Lib.hid h3
  have R2H := Lib.hid R2
  have HSH := Lib.hid HS
  have KPH := Lib.hid KP
  have B3H := Lib.hid B3
  clear hk hnil h3 R2 HS KP B3
  go_upto_region 3 with fail
  have R2 := R2H.out
  have HS := HSH.out
  have KP := KPH.out
  have B3 := B3H.out
  clear R2H HSH KPH B3H
  have hb := (Below.refl (w2.alloc (.cells #[.slice R0 rn rc, .slice Bs bn bc, .int .i64 cols] 30)).heap.size (w2.alloc (.cells #[.slice R0 rn rc, .slice Bs bn bc, .int .i64 cols] 30))).drew
  have R2 := R2.below hb
  have B3 := B3.below hb
  have KP := KP.below hb
  have HS := HS.below hb
  clear hb
  have wr1 : IntKind.i64.wrap ((rn : Int) + 2) = (rn : Int) + 2 := IntWalk.i64_in _ (by omega)
  have wr2 : IntKind.i64.wrap (cols + 2) = cols + 2 := IntWalk.i64_in _ (by omega)
  refine wp_region_noPanic ?_
  refine wp_region_held_drew (S := (fun w' => w'.cell? ⟨w2.heap.size, 0, none⟩ = some (.slice R0 rn rc) ∧ w'.cell? ⟨w2.heap.size, 1, none⟩ = some (.slice Bs bn bc) ∧ w'.cell? ⟨w2.heap.size, 2, none⟩ = some (.int .i64 cols))) (by kernel_rfl) ?_ (fun hHeld => ?_)
  · exact ⟨B3.2.1 0 _ rfl, B3.2.1 1 _ rfl, B3.2.1 2 _ rfl⟩
  refine takeN 0 (v := ?v1) rfl (by kernel_rfl) (by kernel_rfl) (by kernel_rfl) (fun _ _ _ h => h) (by rfl) ?hy1 (by assumption) ?r1
  case hy1 => (intro w hSw; (try dsimp only at hSw); first | (go_simp; done) | (go_simp; with_reducible rfl))
  simp only [Act.put, List.setIfInBounds_toArray, List.set_cons_zero, List.set_cons_succ]
  refine takeN 1 (v := ?v2) rfl (by kernel_rfl) (by kernel_rfl) (by kernel_rfl) (fun _ _ _ h => h) (by rfl) ?hy2 (by assumption) ?r2
  case hy2 => (intro w hSw; (try dsimp only at hSw); first | (go_simp; done) | (go_simp; with_reducible rfl))
  simp only [Act.put, List.setIfInBounds_toArray, List.set_cons_zero, List.set_cons_succ]
  refine takeN 2 (v := ?v3) rfl (by kernel_rfl) (by kernel_rfl) (by kernel_rfl) (fun _ _ _ h => h) (by rfl) ?hy3 (by assumption) ?r3
  case hy3 => (intro w hSw; (try dsimp only at hSw); first | (go_simp; done) | (go_simp; with_reducible rfl))
  simp only [Act.put, List.setIfInBounds_toArray, List.set_cons_zero, List.set_cons_succ]
  refine takeN 3 (v := ?v4) rfl (by kernel_rfl) (by kernel_rfl) (by kernel_rfl) (fun _ _ _ h => h) (by rfl) ?hy4 (by assumption) ?r4
  case hy4 => (intro w hSw; (try dsimp only at hSw); first | (go_simp; done) | (go_simp; with_reducible rfl))
  simp only [Act.put, List.setIfInBounds_toArray, List.set_cons_zero, List.set_cons_succ]
  refine takeN 4 (v := ?v5) rfl (by kernel_rfl) (by kernel_rfl) (by kernel_rfl) (fun _ _ _ h => h) (by rfl) ?hy5 (by assumption) ?r5
  case hy5 => (intro w hSw; (try dsimp only at hSw); first | (go_simp; done) | (go_simp; with_reducible rfl))
  simp only [Act.put, List.setIfInBounds_toArray, List.set_cons_zero, List.set_cons_succ]
  refine takeN 5 (v := ?v6) rfl (by kernel_rfl) (by kernel_rfl) (by kernel_rfl) (fun _ _ _ h => h) (by rfl) ?hy6 (by assumption) ?r6
  case hy6 => (intro w hSw; (try dsimp only at hSw); first | (go_simp; done) | (go_simp; with_reducible rfl))
  simp only [Act.put, List.setIfInBounds_toArray, List.set_cons_zero, List.set_cons_succ]
  try simp only [wr1]
  refine takeN 8 (v := ?v7) rfl (by kernel_rfl) (by kernel_rfl) (by kernel_rfl) (fun _ _ _ h => h) (by rfl) ?hy7 (by assumption) ?r7
  case hy7 => (intro w hSw; (try dsimp only at hSw); first | (go_simp; done) | (go_simp; with_reducible rfl))
  simp only [Act.put, List.setIfInBounds_toArray, List.set_cons_zero, List.set_cons_succ]
  refine takeN 9 (v := ?v8) rfl (by kernel_rfl) (by kernel_rfl) (by kernel_rfl) (fun _ _ _ h => h) (by rfl) ?hy8 (by assumption) ?r8
  case hy8 => (intro w hSw; (try dsimp only at hSw); first | (go_simp; done) | (go_simp; with_reducible rfl))
  simp only [Act.put, List.setIfInBounds_toArray, List.set_cons_zero, List.set_cons_succ]
  refine takeN 10 (v := ?v9) rfl (by kernel_rfl) (by kernel_rfl) (by kernel_rfl) (fun _ _ _ h => h) (by rfl) ?hy9 (by assumption) ?r9
  case hy9 => (intro w hSw; (try dsimp only at hSw); first | (go_simp; done) | (go_simp; with_reducible rfl))
  simp only [Act.put, List.setIfInBounds_toArray, List.set_cons_zero, List.set_cons_succ]
  refine takeN 11 (v := ?v10) rfl (by kernel_rfl) (by kernel_rfl) (by kernel_rfl) (fun _ _ _ h => h) (by rfl) ?hy10 (by assumption) ?r10
  case hy10 => (intro w hSw; (try dsimp only at hSw); first | (go_simp; done) | (go_simp; with_reducible rfl))
  simp only [Act.put, List.setIfInBounds_toArray, List.set_cons_zero, List.set_cons_succ]
  try simp only [wr2]
  refine nextN 6 (by kernel_rfl) rfl (fun K hK => ?_)
  go_simp
  go_at_call 86; refine (l1Below_any w _ g ((rn : Int) + 2) (by omega) (by omega) HS.1).mono ?_; rintro e wA ⟨r, r0, r1, rfl, hs⟩; have R2 := bx_off R2 hs.2 (fun e => by injection e with e; omega); have B3 := bx_off B3 hs.2 (fun e => by injection e with e; omega); have KP := KP.grown hs.2 (fun q hq => by injection hq with hq; omega); have HS := HS.trans hs; clear hs
  go_wp2_with fail
  refine hK.out _ _ ?_ (fun hHeld => ?_)
  · exact ⟨B3.2.1 0 _ rfl, B3.2.1 1 _ rfl, B3.2.1 2 _ rfl⟩
  clear hK K
  have wr3 : IntKind.i64.wrap (r - 1) = r - 1 := IntWalk.i64_in _ (by omega)
  refine takeN 7 (v := ?v11) rfl (by kernel_rfl) (by kernel_rfl) (by kernel_rfl) (fun _ _ _ h => h) (by rfl) ?hy11 (by assumption) ?r11
  case hy11 => (intro w hSw; (try dsimp only at hSw); first | (go_simp; done) | (go_simp; with_reducible rfl))
  simp only [Act.put, List.setIfInBounds_toArray, List.set_cons_zero, List.set_cons_succ]
  try simp only [wr3]
  refine nextN 12 (by kernel_rfl) rfl (fun K hK => ?_)
  go_simp
  go_at_call 86; refine (l1Below_any w _ g (cols + 2) (by omega) (by omega) HS.1).mono ?_; rintro e wB ⟨k, k0, k1, rfl, hs⟩; have R2 := bx_off R2 hs.2 (fun e => by injection e with e; omega); have B3 := bx_off B3 hs.2 (fun e => by injection e with e; omega); have KP := KP.grown hs.2 (fun q hq => by injection hq with hq; omega); have HS := HS.trans hs; clear hs
  go_wp2_with fail
  refine hK.out _ _ ?_ (fun hHeld => ?_)
  · exact ⟨B3.2.1 0 _ rfl, B3.2.1 1 _ rfl, B3.2.1 2 _ rfl⟩
  clear hK K
  have wr4 : IntKind.i64.wrap (k - 1) = k - 1 := IntWalk.i64_in _ (by omega)
  refine takeN 13 (v := ?v12) rfl (by kernel_rfl) (by kernel_rfl) (by kernel_rfl) (fun _ _ _ h => h) (by rfl) ?hy12 (by assumption) ?r12
  case hy12 => (intro w hSw; (try dsimp only at hSw); first | (go_simp; done) | (go_simp; with_reducible rfl))
  simp only [Act.put, List.setIfInBounds_toArray, List.set_cons_zero, List.set_cons_succ]
  try simp only [wr4]
  have y0 := R2.2.1 0 _ rfl
  have y1 := R2.2.1 1 _ rfl
  have y2 := R2.2.1 2 _ rfl
  have yf := R2.2.2
  have yz := R2.1
  refine nextN 14 (by kernel_rfl) rfl (fun K hK => ?_)
  go_simp
  have HB := HS.1.1
  have HB := HB.setCell (p := ⟨w.heap.size, 0, none⟩) (Nat.le_refl _) (.slice R0 rn rc)
  have KP := KP.set (p := ⟨w.heap.size, 0, none⟩) (by show w.heap.size < _; omega) (.slice R0 rn rc)
  have B3 := B3.other (b := w.heap.size) (k := 0) (by omega) (.slice R0 rn rc)
  have R2 := R2.set (k := 0) (by simp) (.slice R0 rn rc)
  have HB := HB.setCell (p := ⟨w.heap.size, 1, none⟩) (Nat.le_refl _) (.slice Bs bn bc)
  have KP := KP.set (p := ⟨w.heap.size, 1, none⟩) (by show w.heap.size < _; omega) (.slice Bs bn bc)
  have B3 := B3.other (b := w.heap.size) (k := 1) (by omega) (.slice Bs bn bc)
  have R2 := R2.set (k := 1) (by simp) (.slice Bs bn bc)
  have HB := HB.setCell (p := ⟨w.heap.size, 2, none⟩) (Nat.le_refl _) (.int .i64 cols)
  have KP := KP.set (p := ⟨w.heap.size, 2, none⟩) (by show w.heap.size < _; omega) (.int .i64 cols)
  have B3 := B3.other (b := w.heap.size) (k := 2) (by omega) (.int .i64 cols)
  have R2 := R2.set (k := 2) (by simp) (.int .i64 cols)
  refine hK.out _ _ ?_ (fun hHeld => ?_)
  · exact ⟨B3.2.1 0 _ rfl, B3.2.1 1 _ rfl, B3.2.1 2 _ rfl⟩
  clear hK K y0 y1 y2 yf yz
  refine takeN 15 (v := ?v13) rfl (by kernel_rfl) (by kernel_rfl) (by kernel_rfl) (fun _ _ _ h => h) (by rfl) ?hy13 (by assumption) ?r13
  case hy13 => (intro w hSw; (try dsimp only at hSw); first | (go_simp; done) | (go_simp; with_reducible rfl))
  simp only [Act.put, List.setIfInBounds_toArray, List.set_cons_zero, List.set_cons_succ]
  refine takeN 16 (v := ?v14) rfl (by kernel_rfl) (by kernel_rfl) (by kernel_rfl) (fun _ _ _ h => h) (by rfl) ?hy14 (by assumption) ?r14
  case hy14 => (intro w hSw; (try dsimp only at hSw); first | (go_simp; done) | (go_simp; with_reducible rfl))
  simp only [Act.put, List.setIfInBounds_toArray, List.set_cons_zero, List.set_cons_succ]
  refine wpAnyH_done (by kernel_rfl) ?_ _
  refine NoPanic.normal ?_
  have f0 := R2.2.1 0 _ rfl
  have f1 := R2.2.1 1 _ rfl
  have f2 := R2.2.1 2 _ rfl
  have HR := Lib.hid (HK.out _ KP.1 KP.2)
  have HSZ := Lib.hid KP.1
  have HBB := Lib.hid HB
  clear KP HB R2 B3 HS HK hHeld
  go_wp2
  refine bodyPost_ret (v := .tuple #[.agg #[.slice R0 rn rc, .slice Bs bn bc, .int .i64 cols], .int .i64 (r - 1), .int .i64 (k - 1)]) (by simp [results, Try.results37, go_sem, f0, f1, f2]) rfl ⟨_, _, _, rfl, ⟨R0, Bs, rn, rc, bn, bc, cols, RA, RN, RC, RV, BV, h1, h2, H3.out, h4, h5, h6, rfl, HNIL.out, HR.out.1.more HSZ.out, HR.out.2.more HSZ.out⟩, HBB.out⟩
end Go.Proofs.Ytajafmdeencohaa

namespace Go.Proofs.Ytajafmdeencohaa
open Go.RowKit
attribute [local go_sem ↓] Go.wp_at_zero Go.wp_at_succ

theorem Keeps.belowB {lo hi B : Nat} {w2 w' w'' : World} (h : Keeps lo hi w2 w') (hb : Below B w' w'') (hB : hi ≤ B) : Keeps lo hi w2 w'' :=
  ⟨Nat.le_trans h.1 hb.size, fun k hk hk2 => (hb.block k (by omega)).trans (h.2 k hk hk2)⟩
set_option maxHeartbeats 4000000 in
set_option maxRecDepth 20000 in
theorem drawCost_any (A : Option Addr) (n c : Nat) (w : World) (hn : (n : Int) ≤ 1048576) (hr : RdB w w.heap.size A n) :
    Calls Try.prog 39 #[.slice A n c] w fun e w' => ∃ (v : Value) (CA : Option Addr) (cn cc : Nat) (CV : Fr), e = .returned (.tuple #[v, .slice CA cn cc]) ∧ DrawnTab v w' ∧ cn ≤ 19 ∧ RdP w' w'.heap.size CA cn CV ∧ (CA = none → cn = 0 ∧ cc = 0) ∧ Below w.heap.size w w' := by
  have R2 : Bx (w.alloc (.cells #[.slice none 0 0, .slice none 0 0, .int .i64 0] 30)) w.heap.size [.slice none 0 0, .slice none 0 0, .int .i64 0] := Bx.new w _ _
  have HN := Lib.hid (l1New_any A n c w (w.alloc (.cells #[.slice none 0 0, .slice none 0 0, .int .i64 0] 30)) ((Below.refl _ _).alloc (Nat.le_refl _) _) hn hr)
  clear hr
  go_enter Try.func39, Try.ntmps39
  go_wp2_with fail
  refine HN.out.mono ?_
  rintro e w1 ⟨g, rfl, hd, hb, hg⟩
  have hgw : w.heap.size < g := Nat.lt_of_lt_of_le R2.1 hg
  have hgl := hd.lt
  have R2 := R2.below hb
  have hz1 := R2.1
  clear hb hg HN
  go_wp2_with fail
  refine (l6Draw_any w w1 g hd).mono ?_
  rintro e w2 ⟨R0, Bs, rn, rc, bn, bc, cols, RA, RN, RC, RV, BV, h1, h2, h3, h4, h5, h6, rfl, hnil, hk, hs⟩
  have hle := hs.2.size
  have R2 := bx_off R2 hs.2 (fun e => by injection e with e; omega)
  have HS := hs
  have KP := Keeps.refl w1.heap.size w2
  have B3 : Bx (w2.alloc (.cells #[.slice R0 rn rc, .slice Bs bn bc, .int .i64 cols] 30)) w2.heap.size [.slice R0 rn rc, .slice Bs bn bc, .int .i64 cols] := Bx.new w2 _ _
  have hb2 := (Below.refl w2.heap.size w2).alloc (Nat.le_refl _) (.cells #[.slice R0 rn rc, .slice Bs bn bc, .int .i64 cols] 30)
  have R2 := R2.below hb2
  have HS := HS.below hb2
  have KP := KP.below hb2
  clear hs hb2
  obtain ⟨w3, e3⟩ : ∃ w3 : World, w3 = w2.alloc (.cells #[.slice R0 rn rc, .slice Bs bn bc, .int .i64 cols] 30) := ⟨_, rfl⟩
  have hw3 : w3.heap.size = w2.heap.size + 1 := by rw [e3]; simp
  rw [← e3] at B3 R2 HS KP
  have hown := World.ownsRow_made w3 #[] 0 (base := w3.heap.size) (Nat.le_refl _) (by decide) rfl (e := 66) (size := 2)
  have hb := (Below.refl w3.heap.size w3).alloc (Nat.le_refl _) (.cells #[] 66)
  have R2 := R2.below hb
  have B3 := B3.below hb
  have KP := KP.below hb
  have HS := HS.below hb
  clear hb
  have y0 : w3.cell? ⟨w2.heap.size, 0, none⟩ = some (.slice R0 rn rc) := by rw [e3]; exact (Bx.new w2 #[.slice R0 rn rc, .slice Bs bn bc, .int .i64 cols] 30).2.1 0 _ rfl
  have y2 : w3.cell? ⟨w2.heap.size, 2, none⟩ = some (.int .i64 cols) := by rw [e3]; exact (Bx.new w2 #[.slice R0 rn rc, .slice Bs bn bc, .int .i64 cols] 30).2.1 2 _ rfl
  obtain ⟨N, hN⟩ : ∃ N : Nat, (N : Int) = cols + (rn : Int) := ⟨(cols + rn).toNat, by omega⟩
  have hN19 : N ≤ 19 := by omega
  have wr1 : IntKind.i64.wrap (cols + (rn : Int)) = (N : Int) := by rw [hN]; exact IntWalk.i64_in _ (by omega)
  have HK := Lib.hid hk
  have HNIL := Lib.hid hnil
  have H3 := Lib.hid h3
  have E3 := Lib.hid e3
  clear hk hnil h3 hN e3
  have hownH := Lib.hid hown
  have B3H := Lib.hid B3
  have R2H := Lib.hid R2
  have KPH := Lib.hid KP
  have HSH := Lib.hid HS
  clear hown B3 R2 KP HS
  go_wp2_with fail
  have e3 := E3.out
  rw [← e3]
  clear E3 e3
  go_wp2
  obtain ⟨g3, eg3⟩ : ∃ g3, g3 = w2.heap.size := ⟨_, rfl⟩
  obtain ⟨base, ebs⟩ : ∃ base, base = w3.heap.size := ⟨_, rfl⟩
  have hbase : w2.heap.size < base := by omega
  go_loopw [6, 8] (fun o u wr => ∃ (k : Nat) (Z : Fr), k ≤ N ∧ u = .int .i64 k ∧ base ≤ wr.heap.size ∧ wr.ownsRow base 66 2 o k (cellsV Z k) ∧ Bx wr w2.heap.size [.slice R0 rn rc, .slice Bs bn bc, .int .i64 cols] ∧ Bx wr w.heap.size [.slice none 0 0, .slice none 0 0, .int .i64 0] ∧ Keeps w1.heap.size w2.heap.size w2 wr ∧ Stp w g w1 wr) (fun _ u _ => N - (intOf u).toNat)
  case atStart => exact ⟨0, fun _ => (0, 1), Nat.zero_le _, rfl, by rw [ebs]; simp, by rw [ebs]; simpa [cellsV, hw3] using hownH.out, B3H.out, R2H.out, KPH.out, HSH.out⟩
  case round =>
    clear ebs hw3
    obtain ⟨k, Z, hk, rfl, hsb0, hown, B3, R2, KP, HS⟩ := hrel
    obtain ⟨wq, rfl⟩ : ∃ wq : World, wq = wr := ⟨_, rfl⟩
    by_cases hk1 : k < N
    · go_wp2_with fail
      refine (l5Number_any w _ g HS.1).mono ?_
      rintro e w4 ⟨z, z0, z1, rfl, hs⟩
      have hs5 := hs.2.size
      have R2 := bx_off R2 hs.2 (fun e => by injection e with e; omega)
      have B3 := bx_off B3 hs.2 (fun e => by injection e with e; omega)
      have KP := KP.grown hs.2 (fun q hq => by injection hq with hq; omega)
      have hown := own_grown hown hs.2 (fun q hq => by injection hq with hq; omega)
      have HS := HS.trans hs
      clear hs
      clear z0 z1
      go_wp2_with fail
      refine (l3Int_any _ _).mono ?_
      rintro e w5 ⟨rfl, hb⟩
      have hb5 := hb.size
      have R2 := R2.below hb
      have B3 := B3.below hb
      have KP := KP.below hb
      have hown := own_below hown hb
      have HS := HS.below hb
      clear hb
      have hsz : base ≤ w5.heap.size := Nat.le_trans hsb0 (Nat.le_trans hs5 hb5)
      have hownH := Lib.hid hown
      have B3H := Lib.hid B3
      have R2H := Lib.hid R2
      have KPH := Lib.hid KP
      have HSH := Lib.hid HS
      clear hown B3 R2 KP HS
      have hown := hownH.out
      clear hownH
      go_wp2_with (at_builtin; refine wpList_push _ rfl _ _ 36 rfl base 66 (.agg #[.int .i64 0, .int .i64 0]) 2 16 Try.underlying36 infoRat rfl (by decide) _ _ _ rfl hown [.int .i64 z, .int .i64 1] rfl rfl (by simp [Value.oneCell']) (by decide) (by omega) hsz ?_)
      intro v' w' hown' hk'
      have hb' := hk' _ _ (Nat.le_refl _) (Below.refl _ _)
      have B3 := Lib.hid (bx_lo B3H.out hb' (by omega))
      have R2 := Lib.hid (bx_lo R2H.out hb' (by omega))
      have KP := Lib.hid (KPH.out.belowB hb' (by omega))
      have HS := Lib.hid (Stp.low HSH.out hb' (by omega) (by omega) (by omega))
      have hb2 := hb'.size
      have hsb : base ≤ w'.heap.size := Nat.le_trans hsz hb2
      rw [cellsV_snoc] at hown'
      clear hk' hb' hown B3H R2H KPH HSH
      go_wp2
      go_roundw
      case rel => exact ⟨k + 1, _, by omega, by go_num, hsb, hown', B3.out, R2.out, KP.out, HS.out⟩
      case measure => simp [intOf]; omega
    · obtain rfl : N = k := by omega
      obtain ⟨Aq, cq, rfl⟩ := own_form hown
      have y0 := B3.2.1 0 _ rfl
      have y1 := B3.2.1 1 _ rfl
      have y2 := B3.2.1 2 _ rfl
      have r0 := R2.2.1 0 _ rfl
      have r1 := R2.2.1 1 _ rfl
      have r2 := R2.2.1 2 _ rfl
      have rz := R2.1
      have rf := R2.2.2
      have HB := HS.1.1
      have HB := HB.setCell (p := ⟨w.heap.size, 0, none⟩) (Nat.le_refl _) (.slice R0 rn rc)
      have KP := KP.set (p := ⟨w.heap.size, 0, none⟩) (by show w.heap.size < _; omega) (.slice R0 rn rc)
      have hown := ownsRow_setCell_below hown (a := ⟨w.heap.size, 0, none⟩) (by show w.heap.size < base; omega) (.slice R0 rn rc)
      have R2 := R2.set (k := 0) (by simp) (.slice R0 rn rc)
      have HB := HB.setCell (p := ⟨w.heap.size, 1, none⟩) (Nat.le_refl _) (.slice Bs bn bc)
      have KP := KP.set (p := ⟨w.heap.size, 1, none⟩) (by show w.heap.size < _; omega) (.slice Bs bn bc)
      have hown := ownsRow_setCell_below hown (a := ⟨w.heap.size, 1, none⟩) (by show w.heap.size < base; omega) (.slice Bs bn bc)
      have R2 := R2.set (k := 1) (by simp) (.slice Bs bn bc)
      have HB := HB.setCell (p := ⟨w.heap.size, 2, none⟩) (Nat.le_refl _) (.int .i64 cols)
      have KP := KP.set (p := ⟨w.heap.size, 2, none⟩) (by show w.heap.size < _; omega) (.int .i64 cols)
      have hown := ownsRow_setCell_below hown (a := ⟨w.heap.size, 2, none⟩) (by show w.heap.size < base; omega) (.int .i64 cols)
      have R2 := R2.set (k := 2) (by simp) (.int .i64 cols)
      have f0 := R2.2.1 0 _ rfl
      have f1 := R2.2.1 1 _ rfl
      have f2 := R2.2.1 2 _ rfl
      have HR := Lib.hid (HK.out _ KP.1 KP.2)
      have HSZ := Lib.hid KP.1
      have HBB := Lib.hid HB
      have HOO := Lib.hid hown
      clear KP HB R2 B3 HS HK hown
      go_wp2
      refine bodyPost_ret (v := .tuple #[.agg #[.slice R0 rn rc, .slice Bs bn bc, .int .i64 cols], .slice Aq N cq]) (by simp [results, Try.results39, go_sem, f0, f1, f2]) rfl ⟨_, _, _, _, _, rfl, ⟨R0, Bs, rn, rc, bn, bc, cols, RA, RN, RC, RV, BV, h1, h2, H3.out, h4, h5, h6, rfl, HNIL.out, HR.out.1.more HSZ.out, HR.out.2.more HSZ.out⟩, by omega, RdP.of_own HOO.out, own_none HOO.out, HBB.out⟩
end Go.Proofs.Ytajafmdeencohaa
