/-
  Contracts on tableaus: the laws' szTableau, toTableau, eqTableau; EnteringColumn of the program and of the reference.
-/
import Derived.Test.YtajafmdeencohaaBx
import Derived.Test.YtajafmdeencohaaI2R
import Derived.Test.YtajafmdeencohaaBox
import Derived.Deep.Slices
namespace Go.Proofs.Ytajafmdeencohaa
open Go.RowKit Go.ChangeShapes Go.WideShapes
attribute [local go_sem ↓] Go.wp_at_zero Go.wp_at_succ

theorem takeL {P : Program} {ops : Array Oper} {Q : Exit → Act → World → Prop} {md : Region.Mode} {S : World → Prop} (i : Nat) {oi : Oper} {v : Value} {fuel : Nat} {listed : Array Bool} {a : Act} {w : World} (hi : ops.toList[i]? = some oi)
    (hs : Region.noSelect ops = true) (hf : Region.free md ops listed i = true) (hr : (Region.ready md ops listed).contains i = true)
    (hQ : ∀ c a w, Q (.panic c) (a.put oi.dst v) w → Q (.panic c) a w) (hw : Region.wanted oi (yielded ops a.tmps) = true) (hy : ∀ w, S w → (execOp a.eval oi).run P w = .ok (.value v) w) (hS : S w)
    (h : wpAnyH P md ops Q S fuel (listed.setIfInBounds i true) (a.put oi.dst v) w) : wpAnyH P md ops Q S (fuel + 1) listed a w :=
  wpAnyH_take (by rw [← Array.getElem?_toList]; exact hi) hs hf hr hQ (Or.inl ⟨hw, hy⟩) hS h
theorem skipL {P : Program} {ops : Array Oper} {Q : Exit → Act → World → Prop} {md : Region.Mode} {S : World → Prop} (i : Nat) {oi : Oper} {fuel : Nat} {listed : Array Bool} {a : Act} {w : World} (hi : ops.toList[i]? = some oi)
    (hs : Region.noSelect ops = true) (hf : Region.free md ops listed i = true) (hr : (Region.ready md ops listed).contains i = true)
    (hQ : ∀ c a w, Q (.panic c) (a.put oi.dst undef) w → Q (.panic c) a w) (hw : Region.wanted oi (yielded ops a.tmps) = false) (hS : S w)
    (h : wpAnyH P md ops Q S fuel (listed.setIfInBounds i true) (a.put oi.dst undef) w) : wpAnyH P md ops Q S (fuel + 1) listed a w :=
  wpAnyH_take (by rw [← Array.getElem?_toList]; exact hi) hs hf hr hQ (Or.inr ⟨hw, rfl⟩) hS h
theorem nextL {P : Program} {ops : Array Oper} {Q : Exit → Act → World → Prop} {md : Region.Mode} {S : World → Prop} (i : Nat) {o : Oper} {fuel : Nat} {listed : Array Bool} {a : Act} {w : World} (hr : Region.ready md ops listed = [i]) (ho : ops.toList[i]? = some o)
    (h : ∀ K' : Act → World → Prop, Shut (∀ a w, S w → (S w → wpAnyH P md ops Q S fuel (listed.setIfInBounds i true) a w) → K' a w) → if Region.wanted o (yielded ops a.tmps) = true then Oper.wp P o a w K' Q else K' (a.put o.dst undef) w) : wpAnyH P md ops Q S (fuel + 1) listed a w :=
  wpAnyH_ready hr (by simp) (AllReadyH.cons (by rw [← Array.getElem?_toList]; exact ho) h AllReadyH.nil)

/-- n rows of fractions that can be read, below block B -/
def RdR (w : World) (B : Nat) (A : Option Addr) (n : Nat) (RA : Nat → Option Addr) (RN RC : Nat → Nat) (RV : Nat → Fr) : Prop :=
  (0 < n → ∃ b off, A = some ⟨b, off, none⟩ ∧ b < B ∧ ∀ j, j < n → w.cell? ⟨b, off + j, none⟩ = some (.slice (RA j) (RN j) (RC j))) ∧ ∀ j, j < n → RdP w B (RA j) (RN j) (RV j)
section
variable {w w' : World} {B B' n : Nat} {A : Option Addr} {RA : Nat → Option Addr} {RN RC : Nat → Nat} {RV : Nat → Fr}
theorem RdR.below (h : RdR w B A n RA RN RC RV) {C : Nat} (hb : Below C w w') (hC : B ≤ C) : RdR w' B A n RA RN RC RV :=
  ⟨fun hn => by
    obtain ⟨b, off, e, hlt, hc⟩ := h.1 hn
    exact ⟨b, off, e, hlt, fun j hj => (hb.cell (p := ⟨b, off + j, none⟩) (Nat.lt_of_lt_of_le hlt hC)).trans (hc j hj)⟩, fun j hj => (h.2 j hj).below hb hC⟩
theorem RdR.more (h : RdR w B A n RA RN RC RV) (hB : B ≤ B') : RdR w B' A n RA RN RC RV :=
  ⟨fun hn => by
    obtain ⟨b, off, e, hlt, hc⟩ := h.1 hn
    exact ⟨b, off, e, by omega, hc⟩, fun j hj => (h.2 j hj).more hB⟩
end
/-- the rows of a copy after j rounds -/
def rowsTo (XA : Nat → Option Addr) (RN : Nat → Nat) (n j : Nat) : List Value := (List.range j).map (fun i => Value.slice (XA i) (RN i) (RN i)) ++ List.replicate (n - j) (.slice none 0 0)
theorem rowsTo_zero (XA : Nat → Option Addr) (RN : Nat → Nat) (n : Nat) : rowsTo XA RN n 0 = List.replicate n (.slice none 0 0) := by simp [rowsTo]
theorem rowsTo_set (XA : Nat → Option Addr) (RN : Nat → Nat) (n j : Nat) (X : Option Addr) (h : j < n) : (rowsTo XA RN n j).set j (.slice X (RN j) (RN j)) = rowsTo (fun i => if i = j then X else XA i) RN n (j + 1) := by
  unfold rowsTo
  rw [List.set_append_right _ _ (by simp), show ((List.range j).map (fun i => Value.slice (XA i) (RN i) (RN i))).length = j by simp, Nat.sub_self, show n - j = (n - (j + 1)) + 1 by omega, List.replicate_succ, List.set_cons_zero, List.range_succ, List.map_append, List.append_assoc]
  congr 1
  · apply List.map_congr_left
    intro i hi
    rw [List.mem_range] at hi
    show Value.slice (XA i) (RN i) (RN i) = Value.slice (if i = j then X else XA i) (RN i) (RN i)
    rw [if_neg (show ¬ i = j by omega)]
  · simp
/-- a copy of rows, of the call's own from block 'base' on -/
def OwnR (w : World) (base : Nat) (X : Option Addr) (n : Nat) (XA : Nat → Option Addr) (RN : Nat → Nat) (RV : Nat → Fr) : Prop :=
  w.ownsRow base 36 1 (.slice X n n) n (rowsTo XA RN n n) ∧ ∀ i, i < n → w.ownsRow base 66 2 (.slice (XA i) (RN i) (RN i)) (RN i) (cellsV (RV i) (RN i))
section
variable {w w' : World} {base n : Nat} {X : Option Addr} {XA : Nat → Option Addr} {RN : Nat → Nat} {RV : Nat → Fr}
theorem OwnR.below (h : OwnR w base X n XA RN RV) (hb : Below w.heap.size w w') : OwnR w' base X n XA RN RV := ⟨own_below h.1 hb, fun i hi => own_below (h.2 i hi) hb⟩
theorem OwnR.set (h : OwnR w base X n XA RN RV) {a : Addr} (ha : a.block < base) (u : Value) : OwnR (w.setCell a u) base X n XA RN RV := ⟨ownsRow_setCell_below h.1 ha u, fun i hi => ownsRow_setCell_below (h.2 i hi) ha u⟩
theorem OwnR.rd (h : OwnR w base X n XA RN RV) : RdR w w.heap.size X n XA RN RN RV :=
  ⟨fun hn => by
    obtain ⟨b, off, e, hlt, hc⟩ := (Rd.of_own h.1).2 hn
    exact ⟨b, off, e, hlt, fun j hj => hc j _ (by simp [rowsTo, hj])⟩, fun j hj => RdP.of_own (h.2 j hj)⟩
end
theorem own_lower' {w : World} {base base' size n : Nat} {e : TypeId} {v : Value} {xs : List Value} (h : w.ownsRow base' e size v n xs) (hb : base ≤ base') : w.ownsRow base e size v n xs := by
  refine ⟨h.1, ?_⟩
  rcases h.2 with h2 | ⟨g, cap, cur, hv, hg, r⟩
  · exact Or.inl h2
  · exact Or.inr ⟨g, cap, cur, hv, Nat.le_trans hb hg, r⟩
theorem infoRows : (Try.prog.info? 36).map (fun i => (i.zero, i.size, i.bytes)) = some (some (.slice none 0 0), 1, 24) := by kernel_rfl

theorem szIntS_yes (A : Option Addr) (n c : Nat) (left : Int) (w : World) (h0 : 0 ≤ left - n) (h1 : left ≤ 1048576) : Calls Try.prog 43 #[.slice A n c, .int .i64 left] w fun e w' => e = .returned (.int .i64 (left - n)) ∧ w = w' := by
  have hd := decide_eq_false (show ¬ left - (n : Int) < 0 by omega)
  go_enter Try.func43, Try.ntmps43
  go_wp2
  go_ret
  exact ⟨rfl, rfl⟩
theorem szIntS_no (A : Option Addr) (n c : Nat) (left : Int) (w : World) (h0 : left - n < 0) (h1 : 0 ≤ left) (h2 : left ≤ 1048576) (hn : (n : Int) ≤ 9223372036854775807) : Calls Try.prog 43 #[.slice A n c, .int .i64 left] w fun e w' => e = .returned (.int .i64 (-1)) ∧ w = w' := by
  have hd := decide_eq_true (show left - (n : Int) < 0 by omega)
  go_enter Try.func43, Try.ntmps43
  go_wp2
  go_ret
  exact ⟨rfl, rfl⟩

theorem szRatSS_any (A : Option Addr) (n c B : Nat) (RA : Nat → Option Addr) (RN RC : Nat → Nat) (RV : Nat → Fr) (left : Int) (w : World) (hr : RdR w B A n RA RN RC RV) (hl0 : 0 ≤ left) (hl : left ≤ 1048576) (hn : (n : Int) ≤ 9223372036854775807) (hz : ∀ j, j < n → (RN j : Int) ≤ 9223372036854775807) :
    Calls Try.prog 42 #[.slice A n c, .int .i64 left] w fun e w' => ∃ v : Int, e = .returned (.int .i64 v) ∧ w = w' ∧ (v = -1 ∨ (0 ≤ v ∧ v ≤ left ∧ (n : Int) ≤ left ∧ ∀ j, j < n → (RN j : Int) ≤ left)) := by
  have HZ := Lib.hid hz
  have HR := Lib.hid hr.1
  clear hz hr
  by_cases h0 : left - (n : Int) < 0
  · have hd := decide_eq_true h0
    go_enter Try.func42, Try.ntmps42
    go_wp2
    go_ret
    exact ⟨_, rfl, rfl, Or.inl rfl⟩
  · have hd := decide_eq_false h0
    go_enter Try.func42, Try.ntmps42
    go_wp2
    go_loop [1, 5] (fun l u => ∃ (j : Nat) (q : Int), j ≤ n ∧ u = .int .i64 j ∧ l = .int .i64 q ∧ 0 ≤ q ∧ q ≤ left ∧ Hid (∀ i, i < j → (RN i : Int) ≤ left)) (fun _ u => n - (intOf u).toNat)
    case atStart => exact ⟨0, _, Nat.zero_le _, rfl, rfl, by omega, by omega, Lib.hid (fun i h => absurd h (by omega))⟩
    case round =>
      obtain ⟨j, q, hj, rfl, rfl, q0, q1, hi⟩ := hrel
      by_cases hlt : j < n
      · obtain ⟨b, off, rfl, hbb, hc⟩ := HR.out (by omega)
        have x0 := hc j hlt
        have hxz := HZ.out _ hlt
        have HN := Lib.hid (fun (h2 : (RN j : Int) ≤ left) => show ∀ i, i < j + 1 → (RN i : Int) ≤ left from fun i h1 => by
          rcases Nat.lt_or_ge i j with h3 | h3
          · exact hi.out i h3
          · obtain rfl : i = j := by omega
            exact h2)
        obtain ⟨m, hm⟩ : ∃ m : Nat, m = RN j := ⟨_, rfl⟩
        rw [← hm] at x0 hxz HN
        clear hm hc
        by_cases hs : q - (m : Int) < 0
        · have hds := decide_eq_true hs
          go_wp2_with fail
          refine (szRatS_no _ _ _ _ _ hs q0 (by omega) hxz).mono ?_
          rintro e w1 ⟨rfl, rfl⟩
          go_wp2
          go_ret
          exact ⟨_, rfl, rfl, Or.inl rfl⟩
        · have hds := decide_eq_false hs
          go_wp2_with fail
          refine (szRatS_yes _ _ _ _ _ (by omega) (by omega)).mono ?_
          rintro e w1 ⟨rfl, rfl⟩
          go_wp2
          go_round
          case rel => exact ⟨j + 1, q - (m : Int), by omega, by go_num, by go_num, by omega, by omega, Lib.hid (HN.out (by omega))⟩
          case measure => simp [intOf]; omega
      · obtain rfl : j = n := by omega
        go_wp2
        go_ret
        exact ⟨_, rfl, rfl, Or.inr ⟨q0, q1, by omega, fun i hi2 => hi.out i hi2⟩⟩

theorem toRatSS_any (A : Option Addr) (n c B : Nat) (RA : Nat → Option Addr) (RN RC : Nat → Nat) (RV : Nat → Fr) (w : World) (hr : RdR w B A n RA RN RC RV) (hB : B ≤ w.heap.size) (hn : n ≤ 1048576) (hz : ∀ j, j < n → RN j ≤ 1048576) :
    Calls Try.prog 44 #[.slice A n c] w fun e w' => ∃ (X : Option Addr) (XA : Nat → Option Addr), e = .returned (.slice X n n) ∧ OwnR w' w.heap.size X n XA RN RV ∧ Below w.heap.size w w' := by
  obtain ⟨iR, hi, hzz, hsz, hby⟩ := info_parts infoRows
  have HR := Lib.hid hr
  have HZ := Lib.hid hz
  clear hr hz
  go_enter Try.func44, Try.ntmps44
  go_wp2_with (refine wpList_make_full _ rfl _ _ 28 rfl w.heap.size 36 iR (.slice none 0 0) 1 Try.underlying28 hi hzz hsz .i64 .i64 n n n rfl rfl rfl rfl (by rw [hby]; omega) (by simp only [maxLen]; omega) (Nat.le_refl _) ?_)
  intro w1 hown hg
  have hown : w1.ownsRow w.heap.size 36 1 (.slice (some ⟨w.heap.size, 0, none⟩) n n) n (rowsTo (fun _ => none) RN n 0) := by
    rw [rowsTo_zero, ← toList_madeCells_one]
    simpa using hown
  have hb1 : Below w.heap.size w w1 := (Below.refl _ _).grown hg (Nat.le_refl _) (fun g h => by cases h)
  clear hg hi hzz hsz hby
  go_wp2
  go_loopw [4] (fun u wr => ∃ (j : Nat) (XA : Nat → Option Addr), j ≤ n ∧ u = .int .i64 j ∧ wr.ownsRow w.heap.size 36 1 (.slice (some ⟨w.heap.size, 0, none⟩) n n) n (rowsTo XA RN n j) ∧ Hid (∀ i, i < j → wr.ownsRow (w.heap.size + 1) 66 2 (.slice (XA i) (RN i) (RN i)) (RN i) (cellsV (RV i) (RN i))) ∧ Below w.heap.size w wr) (fun u _ => n - (intOf u).toNat)
  case atStart => exact ⟨0, _, Nat.zero_le _, rfl, hown, Lib.hid (fun i h => absurd h (Nat.not_lt_zero _)), hb1⟩
  case round =>
    obtain ⟨j, XA, hj, rfl, ho, hin, hb⟩ := hrel
    by_cases hlt : j < n
    · obtain ⟨b, off, rfl, hbb, hc⟩ := HR.out.1 (by omega)
      have x0 := (hb.cell (p := ⟨b, off + j, none⟩) (by exact Nat.lt_of_lt_of_le hbb hB)).trans (hc j hlt)
      have q0 := (HR.out.2 j hlt).below hb hB
      have hz := HZ.out j hlt
      have hgz := (ho.lt w.heap.size rfl).2
      have HST := Lib.hid (rowsTo_set XA RN n j)
      have C := Lib.hid (toRatS_any (RA j) (RN j) (RC j) B (RV j) wr q0 (Nat.le_trans hB hb.size) hz)
      generalize hma : RA j = ma at x0 C
      generalize hmn : RN j = mn at x0 C HST hz
      generalize hmc : RC j = mc at x0 C
      have HMN := Lib.hid hmn
      clear hma hmn hmc q0 hc
      go_wp2_with fail
      refine C.out.mono ?_
      rintro e w2 ⟨X, rfl, ow, hb2⟩
      have hin2 : ∀ i, i < j → w2.ownsRow (w.heap.size + 1) 66 2 (.slice (XA i) (RN i) (RN i)) (RN i) (cellsV (RV i) (RN i)) := fun i hi => own_below (hin.out i hi) hb2
      have ho := own_below ho hb2
      have hb := hb.trans (hb2.mono hb.size)
      have ow := own_lower' ow (show w.heap.size + 1 ≤ wr.heap.size by omega)
      obtain ⟨⟨u0, y0⟩, f0⟩ := own_cell (i := j) ho (by omega) (by omega)
      have hst := (ho.stored j (.slice X mn mn)).1
      rw [HST.out X hlt] at hst
      have HIN : Hid (∀ i, i < j + 1 → (w2.setCell ⟨w.heap.size, j, none⟩ (.slice X mn mn)).ownsRow (w.heap.size + 1) 66 2 (.slice ((fun i => if i = j then X else XA i) i) (RN i) (RN i)) (RN i) (cellsV (RV i) (RN i))) := Lib.hid (fun i hi => by
        by_cases e : i = j
        · subst e
          simp only [if_true, HMN.out]
          exact ownsRow_setCell_below ow (Nat.lt_succ_self _) _
        · simp only [if_neg e]
          exact ownsRow_setCell_below (hin2 i (by omega)) (Nat.lt_succ_self _) _)
      have HSTT := Lib.hid hst
      clear hst ho hin2 ow hb2 C HST
      go_wp2
      go_roundw
      case rel => exact ⟨j + 1, _, by omega, by go_num, HSTT.out, HIN, hb.setCell (Nat.le_refl _) _⟩
      case measure => simp [intOf]; omega
    · obtain rfl : j = n := by omega
      have HO := Lib.hid ho
      clear ho hown
      go_wp2
      go_ret
      exact ⟨_, XA, rfl, ⟨HO.out, fun i hi => own_lower' (hin.out i hi) (Nat.le_succ _)⟩, hb⟩

theorem eqRatSS_same (A1 A2 : Option Addr) (n c1 c2 B : Nat) (RA1 RA2 : Nat → Option Addr) (RN RC1 RC2 : Nat → Nat) (RV : Nat → Fr) (w : World) (h1 : RdR w B A1 n RA1 RN RC1 RV) (h2 : RdR w B A2 n RA2 RN RC2 RV) (hB : B ≤ w.heap.size) (hn : n ≤ 1048576) (hz : ∀ j, j < n → RN j ≤ 1048576) :
    Calls Try.prog 50 #[.slice A1 n c1, .slice A2 n c2] w fun e w' => e = .returned (.bool true) ∧ Below w.heap.size w w' := by
  have H1 := Lib.hid h1
  have H2 := Lib.hid h2
  have HZ := Lib.hid hz
  clear h1 h2 hz
  go_enter Try.func50, Try.ntmps50
  go_wp2
  go_loopw [5] (fun u wr => ∃ k : Nat, k ≤ n ∧ u = .int .i64 k ∧ Below w.heap.size w wr) (fun u _ => n - (intOf u).toNat)
  case atStart => exact ⟨0, Nat.zero_le _, rfl, Below.refl _ _⟩
  case round =>
    obtain ⟨k, hk, rfl, hb⟩ := hrel
    by_cases hlt : k < n
    · obtain ⟨b1, o1, rfl, hb1, hc1⟩ := H1.out.1 (by omega)
      obtain ⟨b2, o2, rfl, hb2, hc2⟩ := H2.out.1 (by omega)
      have x1 := (hb.drew.cell (p := ⟨b1, o1 + k, none⟩) (by exact Nat.lt_of_lt_of_le hb1 hB)).trans (hc1 k hlt)
      have x2 := (hb.drew.cell (p := ⟨b2, o2 + k, none⟩) (by exact Nat.lt_of_lt_of_le hb2 hB)).trans (hc2 k hlt)
      have hz1 : b1 < wr.drew.heap.size := Nat.lt_of_lt_of_le (Nat.lt_of_lt_of_le hb1 hB) hb.size
      have hz2 : b2 < wr.drew.heap.size := Nat.lt_of_lt_of_le (Nat.lt_of_lt_of_le hb2 hB) hb.size
      have EQ := Lib.hid (eqRatS_same (RA1 k) (RA2 k) (RN k) (RC1 k) (RC2 k) B (RV k) wr.drew ((H1.out.2 k hlt).below hb.drew hB) ((H2.out.2 k hlt).below hb.drew hB) (Nat.le_trans hB hb.size) (by have := HZ.out k hlt; omega))
      have hbd := Lib.hid hb.drew
      generalize RA1 k = m1 at x1 EQ
      generalize RA2 k = m2 at x2 EQ
      generalize RN k = mn at x1 x2 EQ
      generalize RC1 k = mc1 at x1 EQ
      generalize RC2 k = mc2 at x2 EQ
      clear hc1 hc2
      have k0 : (0 : Int) ≤ (k : Int) := by omega
      have k1 : (k : Int) < (n : Int) := by omega
      go_upto_region 6 with fail
      refine wp_region_noPanic ?_
      refine wp_region_held_drew (S := (fun w' => w'.cell? ⟨b1, o1 + k, none⟩ = some (.slice m1 mn mc1) ∧ w'.cell? ⟨b2, o2 + k, none⟩ = some (.slice m2 mn mc2))) (by kernel_rfl) ?_ (fun hHeld => ?_)
      · exact ⟨x1, x2⟩
      refine takeL 0 (v := ?v1_0) rfl (by kernel_rfl) (by kernel_rfl) (by kernel_rfl) (fun _ _ _ h => h) (by rfl) ?hy1_0 (by assumption) ?r1_0
      case hy1_0 => (intro w hSw; (try dsimp only at hSw); first | (go_simp; done) | (go_simp; with_reducible rfl))
      simp only [Act.put, List.setIfInBounds_toArray, List.set_cons_zero, List.set_cons_succ]
      refine takeL 1 (v := ?v1_1) rfl (by kernel_rfl) (by kernel_rfl) (by kernel_rfl) (fun _ _ _ h => h) (by rfl) ?hy1_1 (by assumption) ?r1_1
      case hy1_1 => (intro w hSw; (try dsimp only at hSw); first | (go_simp; done) | (go_simp; with_reducible rfl))
      simp only [Act.put, List.setIfInBounds_toArray, List.set_cons_zero, List.set_cons_succ]
      refine takeL 2 (v := ?v1_2) rfl (by kernel_rfl) (by kernel_rfl) (by kernel_rfl) (fun _ _ _ h => h) (by rfl) ?hy1_2 (by assumption) ?r1_2
      case hy1_2 => (intro w hSw; (try dsimp only at hSw); first | (go_simp; done) | (go_simp; with_reducible rfl))
      simp only [Act.put, List.setIfInBounds_toArray, List.set_cons_zero, List.set_cons_succ]
      refine takeL 3 (v := ?v1_3) rfl (by kernel_rfl) (by kernel_rfl) (by kernel_rfl) (fun _ _ _ h => h) (by rfl) ?hy1_3 (by assumption) ?r1_3
      case hy1_3 => (intro w hSw; (try dsimp only at hSw); first | (go_simp; done) | (go_simp; with_reducible rfl))
      simp only [Act.put, List.setIfInBounds_toArray, List.set_cons_zero, List.set_cons_succ]
      refine takeL 4 (v := ?v1_4) rfl (by kernel_rfl) (by kernel_rfl) (by kernel_rfl) (fun _ _ _ h => h) (by rfl) ?hy1_4 (by assumption) ?r1_4
      case hy1_4 => (intro w hSw; (try dsimp only at hSw); first | (go_simp; done) | (go_simp; with_reducible rfl))
      simp only [Act.put, List.setIfInBounds_toArray, List.set_cons_zero, List.set_cons_succ]
      refine takeL 5 (v := ?v1_5) rfl (by kernel_rfl) (by kernel_rfl) (by kernel_rfl) (fun _ _ _ h => h) (by rfl) ?hy1_5 (by assumption) ?r1_5
      case hy1_5 => (intro w hSw; (try dsimp only at hSw); first | (go_simp; done) | (go_simp; with_reducible rfl))
      simp only [Act.put, List.setIfInBounds_toArray, List.set_cons_zero, List.set_cons_succ]
      refine takeL 6 (v := ?v1_6) rfl (by kernel_rfl) (by kernel_rfl) (by kernel_rfl) (fun _ _ _ h => h) (by rfl) ?hy1_6 (by assumption) ?r1_6
      case hy1_6 => (intro w hSw; (try dsimp only at hSw); first | (go_simp; done) | (go_simp; with_reducible rfl))
      simp only [Act.put, List.setIfInBounds_toArray, List.set_cons_zero, List.set_cons_succ]
      refine takeL 7 (v := ?v1_7) rfl (by kernel_rfl) (by kernel_rfl) (by kernel_rfl) (fun _ _ _ h => h) (by rfl) ?hy1_7 (by assumption) ?r1_7
      case hy1_7 => (intro w hSw; (try dsimp only at hSw); first | (go_simp; done) | (go_simp; with_reducible rfl))
      simp only [Act.put, List.setIfInBounds_toArray, List.set_cons_zero, List.set_cons_succ]
      refine nextL 8 (by kernel_rfl) rfl (fun K hK => ?_)
      go_simp
      go_at_call 19; refine EQ.out.mono ?_; rintro e wA ⟨rfl, hbA⟩; have y1 := (hbA.cell (p := ⟨b1, o1 + k, none⟩) hz1).trans x1; have y2 := (hbA.cell (p := ⟨b2, o2 + k, none⟩) hz2).trans x2
      go_wp2_with fail
      refine hK.out _ _ ?_ (fun hHeld => ?_)
      · exact ⟨y1, y2⟩
      clear hK K
      refine takeL 9 (v := ?v1_9) rfl (by kernel_rfl) (by kernel_rfl) (by kernel_rfl) (fun _ _ _ h => h) (by rfl) ?hy1_9 (by assumption) ?r1_9
      case hy1_9 => (intro w hSw; (try dsimp only at hSw); first | (go_simp; done) | (go_simp; with_reducible rfl))
      simp only [Act.put, List.setIfInBounds_toArray, List.set_cons_zero, List.set_cons_succ]
      refine wpAnyH_done (by kernel_rfl) ?_ _
      refine NoPanic.normal ?_
      have hb' := Lib.hid (hbd.out.trans (hbA.mono hbd.out.size))
      clear hbA
      go_wp2
      go_roundw
      case rel => exact ⟨k + 1, by omega, by go_num, hb'.out⟩
      case measure => simp [intOf]; omega
    · obtain rfl : k = n := by omega
      go_wp2
      go_ret
      exact ⟨rfl, hb⟩

theorem isign_any (a b : Int) (w : World) : Calls Try.prog 54 #[.agg #[.int .i64 a, .int .i64 b]] w fun e w' => e = .returned (.int .i64 (Pl.cmp a b 0 1)) ∧ Below w.heap.size w w' := by
  have XB : Box (w.alloc (.cells #[.int .i64 a, .int .i64 b] 66)).drew w.heap.size a b := Box.below (w := w.alloc _) ⟨by simp, by simp, by simp, by simp, by simp⟩ (Below.refl _ _).drew
  have HB : Below w.heap.size w (w.alloc (.cells #[.int .i64 a, .int .i64 b] 66)).drew := ((Below.refl _ _).alloc (Nat.le_refl _) _).drew
  go_enter Try.func54, Try.ntmps54
  go_upto_region 1 with fail
  refine wp_region_noPanic ?_
  refine wp_region_held_drew (S := (fun w' => w'.cell? ⟨w.heap.size, 0, none⟩ = some (.int .i64 a) ∧ w'.cell? ⟨w.heap.size, 1, none⟩ = some (.int .i64 b))) (by kernel_rfl) ?_ (fun hHeld => ?_)
  · exact ⟨XB.1, XB.2.1⟩
  refine takeL 0 (v := ?v2_0) rfl (by kernel_rfl) (by kernel_rfl) (by kernel_rfl) (fun _ _ _ h => h) (by rfl) ?hy2_0 (by assumption) ?r2_0
  case hy2_0 => (intro w hSw; (try dsimp only at hSw); first | (go_simp; done) | (go_simp; with_reducible rfl))
  simp only [Act.put, List.setIfInBounds_toArray, List.set_cons_zero, List.set_cons_succ]
  refine nextL 1 (by kernel_rfl) rfl (fun K hK => ?_)
  go_simp
  go_at_call 59; refine (whole_any 0 _).mono ?_; rintro e w1 ⟨rfl, hb1⟩; have XB := XB.below hb1; have HB := HB.trans (hb1.mono HB.size); clear hb1
  go_wp2_with fail
  refine hK.out _ _ ?_ (fun hHeld => ?_)
  · exact ⟨XB.1, XB.2.1⟩
  clear hK K
  refine nextL 2 (by kernel_rfl) rfl (fun K hK => ?_)
  go_simp
  go_at_call 90; refine (icmp_any a b 0 1 _).mono ?_; rintro e w2 ⟨rfl, hb2⟩; have XB := XB.below hb2; have HB := HB.trans (hb2.mono HB.size); clear hb2
  go_wp2_with fail
  refine hK.out _ _ ?_ (fun hHeld => ?_)
  · exact ⟨XB.1, XB.2.1⟩
  clear hK K
  refine takeL 3 (v := ?v2_3) rfl (by kernel_rfl) (by kernel_rfl) (by kernel_rfl) (fun _ _ _ h => h) (by rfl) ?hy2_3 (by assumption) ?r2_3
  case hy2_3 => (intro w hSw; (try dsimp only at hSw); first | (go_simp; done) | (go_simp; with_reducible rfl))
  simp only [Act.put, List.setIfInBounds_toArray, List.set_cons_zero, List.set_cons_succ]
  refine wpAnyH_done (by kernel_rfl) ?_ _
  refine NoPanic.normal ?_
  go_wp2
  go_ret
  exact ⟨rfl, HB⟩

theorem ssign_any (a b : Int) (w : World) : Calls Try.prog 52 #[.agg #[.int .i64 a, .int .i64 b]] w fun e w' => e = .returned (.int .i64 (Pl.cmp a b 0 1)) ∧ Below w.heap.size w w' := by
  have XB : Box (w.alloc (.cells #[.int .i64 a, .int .i64 b] 66)).drew w.heap.size a b := Box.below (w := w.alloc _) ⟨by simp, by simp, by simp, by simp, by simp⟩ (Below.refl _ _).drew
  have HB : Below w.heap.size w (w.alloc (.cells #[.int .i64 a, .int .i64 b] 66)).drew := ((Below.refl _ _).alloc (Nat.le_refl _) _).drew
  go_enter Try.func52, Try.ntmps52
  go_upto_region 1 with fail
  refine wp_region_noPanic ?_
  refine wp_region_held_drew (S := (fun w' => w'.cell? ⟨w.heap.size, 0, none⟩ = some (.int .i64 a) ∧ w'.cell? ⟨w.heap.size, 1, none⟩ = some (.int .i64 b))) (by kernel_rfl) ?_ (fun hHeld => ?_)
  · exact ⟨XB.1, XB.2.1⟩
  refine takeL 0 (v := ?v3_0) rfl (by kernel_rfl) (by kernel_rfl) (by kernel_rfl) (fun _ _ _ h => h) (by rfl) ?hy3_0 (by assumption) ?r3_0
  case hy3_0 => (intro w hSw; (try dsimp only at hSw); first | (go_simp; done) | (go_simp; with_reducible rfl))
  simp only [Act.put, List.setIfInBounds_toArray, List.set_cons_zero, List.set_cons_succ]
  refine nextL 1 (by kernel_rfl) rfl (fun K hK => ?_)
  go_simp
  go_at_call 57; refine (l3Int_any 0 _).mono ?_; rintro e w1 ⟨rfl, hb1⟩; have XB := XB.below hb1; have HB := HB.trans (hb1.mono HB.size); clear hb1
  go_wp2_with fail
  refine hK.out _ _ ?_ (fun hHeld => ?_)
  · exact ⟨XB.1, XB.2.1⟩
  clear hK K
  refine nextL 2 (by kernel_rfl) rfl (fun K hK => ?_)
  go_simp
  go_at_call 89; refine (scmp_any a b 0 1 _).mono ?_; rintro e w2 ⟨rfl, hb2⟩; have XB := XB.below hb2; have HB := HB.trans (hb2.mono HB.size); clear hb2
  go_wp2_with fail
  refine hK.out _ _ ?_ (fun hHeld => ?_)
  · exact ⟨XB.1, XB.2.1⟩
  clear hK K
  refine takeL 3 (v := ?v3_3) rfl (by kernel_rfl) (by kernel_rfl) (by kernel_rfl) (fun _ _ _ h => h) (by rfl) ?hy3_3 (by assumption) ?r3_3
  case hy3_3 => (intro w hSw; (try dsimp only at hSw); first | (go_simp; done) | (go_simp; with_reducible rfl))
  simp only [Act.put, List.setIfInBounds_toArray, List.set_cons_zero, List.set_cons_succ]
  refine wpAnyH_done (by kernel_rfl) ?_ _
  refine NoPanic.normal ?_
  go_wp2
  go_ret
  exact ⟨rfl, HB⟩

namespace Pl
/-- the first column below k with a negative cost, else -1 -/
def fneg (V : Fr) : Nat → Int
  | 0 => -1
  | k + 1 => if fneg V k = -1 then (if cmp (V k).1 (V k).2 0 1 < 0 then (k : Int) else -1) else fneg V k
theorem fneg_miss {V : Fr} {k : Nat} (h : fneg V k = -1) (hc : ¬ cmp (V k).1 (V k).2 0 1 < 0) : fneg V (k + 1) = -1 := by rw [fneg, if_pos h, if_neg hc]
theorem fneg_hit {V : Fr} {k : Nat} (h : fneg V k = -1) (hc : cmp (V k).1 (V k).2 0 1 < 0) : ∀ m, k < m → fneg V m = k
  | 0, hm => by omega
  | m + 1, hm => by
    by_cases e : k = m
    · subst e
      rw [fneg, if_pos h, if_pos hc]
    · have := fneg_hit h hc m (by omega)
      rw [fneg, this, if_neg (by omega)]
def enter (V : Fr) (n : Nat) (last : Int) : Int := if (n : Int) < last then -1 else fneg V last.toNat
end Pl

theorem iEnt_any (R Bs : Option Addr) (rn rc bn bc : Nat) (cols : Int) (A : Option Addr) (n c B : Nat) (V : Fr) (last : Int) (w : World) (hr : RdP w B A n V) (hB : B ≤ w.heap.size) (hn : n ≤ 1048576) :
    Calls Try.prog 18 #[.agg #[.slice R rn rc, .slice Bs bn bc, .int .i64 cols], .slice A n c, .int .i64 last] w fun e w' => e = .returned (.int .i64 (Pl.enter V n last)) ∧ Below w.heap.size w w' := by
  have HW := Lib.hid ((Below.refl w.heap.size w).alloc (Nat.le_refl _) (.cells #[.slice R rn rc, .slice Bs bn bc, .int .i64 cols] 30))
  by_cases hgt : (n : Int) < last
  · have hd0 := decide_eq_true hgt
    have HR := Lib.hid (show Pl.enter V n last = -1 from by rw [Pl.enter, if_pos hgt])
    go_enter Try.func18, Try.ntmps18
    go_wp2
    go_ret
    exact ⟨by rw [HR.out]; rfl, HW.out⟩
  · have hd0 := decide_eq_false hgt
    have hent : Pl.enter V n last = Pl.fneg V last.toNat := by rw [Pl.enter, if_neg hgt]
    have HE := Lib.hid hent
    clear hent
    go_enter Try.func18, Try.ntmps18
    go_wp2
    go_loopw [7] (fun u wr => ∃ j : Nat, (j ≤ n ∧ j ≤ last.toNat) ∧ u = .int .i64 j ∧ Hid (Pl.fneg V j = -1) ∧ Below w.heap.size w wr) (fun u _ => last.toNat - (intOf u).toNat)
    case atStart => exact ⟨0, ⟨Nat.zero_le _, Nat.zero_le _⟩, rfl, Lib.hid rfl, HW.out⟩
    case round =>
      obtain ⟨j, ⟨hj, hj2⟩, rfl, hf, hb⟩ := hrel
      by_cases hlt : (j : Int) < last
      · have hd1 := decide_eq_true hlt
        obtain ⟨b, off, rfl, hbb, hc⟩ := hr (by omega)
        have x0 := (hb.cell (p := ⟨b, off + j * 2, none⟩) (by exact Nat.lt_of_lt_of_le hbb hB)).trans (hc j (by omega)).1
        have x1 := (hb.cell (p := ⟨b, off + j * 2 + 1, none⟩) (by exact Nat.lt_of_lt_of_le hbb hB)).trans (hc j (by omega)).2
        have HH := Lib.hid (fun h => Pl.fneg_hit hf.out h)
        have HM := Lib.hid (fun h => Pl.fneg_miss hf.out h)
        have SG := Lib.hid (fun w => isign_any (V j).1 (V j).2 w)
        generalize (V j).1 = x at x0 HH HM SG
        generalize (V j).2 = y at x1 HH HM SG
        generalize Pl.cmp x y 0 1 = sg at HH HM SG
        have k1 : (j : Int) < (n : Int) := by omega
        clear hc hr
        by_cases hs : sg < 0
        · have hd2 := decide_eq_true hs
          have HR := Lib.hid (HH.out hs last.toNat (by omega))
          go_wp2_with fail
          refine (SG.out _).mono ?_
          rintro e w1 ⟨rfl, hb1⟩
          have hb := hb.trans (hb1.mono hb.size)
          clear hb1
          go_wp2
          go_ret
          exact ⟨by rw [HE.out, HR.out]; rfl, hb⟩
        · have hd2 := decide_eq_false hs
          have HR := Lib.hid (HM.out hs)
          go_wp2_with fail
          refine (SG.out _).mono ?_
          rintro e w1 ⟨rfl, hb1⟩
          have hb := hb.trans (hb1.mono hb.size)
          clear hb1
          go_wp2
          go_roundw
          case rel => exact ⟨j + 1, ⟨by omega, by omega⟩, by go_num, HR, hb⟩
          case measure => simp [intOf]; omega
      · have hd1 := decide_eq_false hlt
        have hjl : last.toNat ≤ j := by omega
        have HR := Lib.hid (show Pl.fneg V last.toNat = -1 from by
          have : last.toNat = j := by omega
          rw [this]
          exact hf.out)
        go_wp2
        go_ret
        exact ⟨by rw [HE.out, HR.out]; rfl, hb⟩

theorem sEnt_any (R Bs : Option Addr) (rn rc bn bc : Nat) (cols : Int) (A : Option Addr) (n c B : Nat) (V : Fr) (last : Int) (w : World) (hr : RdP w B A n V) (hB : B ≤ w.heap.size) (hn : n ≤ 1048576) :
    Calls Try.prog 16 #[.agg #[.slice R rn rc, .slice Bs bn bc, .int .i64 cols], .slice A n c, .int .i64 last] w fun e w' => e = .returned (.int .i64 (Pl.enter V n last)) ∧ Below w.heap.size w w' := by
  have HW := Lib.hid ((Below.refl w.heap.size w).alloc (Nat.le_refl _) (.cells #[.slice R rn rc, .slice Bs bn bc, .int .i64 cols] 30))
  by_cases hgt : (n : Int) < last
  · have hd0 := decide_eq_false (show ¬ last ≤ (n : Int) by omega)
    have hd9 := decide_eq_true (show (0 : Int) < last by omega)
    have HR := Lib.hid (show Pl.enter V n last = -1 from by rw [Pl.enter, if_pos hgt])
    go_enter Try.func16, Try.ntmps16
    go_wp2
    go_loopw [7] (fun u wr => u = .int .i64 0 ∧ Below w.heap.size w wr) (fun _ _ => 0)
    case atStart => exact ⟨rfl, HW.out⟩
    case round =>
      obtain ⟨rfl, hb⟩ := hrel
      go_wp2
      go_ret
      exact ⟨by rw [HR.out]; rfl, hb⟩
  · have hd0 := decide_eq_true (show last ≤ (n : Int) by omega)
    have hent : Pl.enter V n last = Pl.fneg V last.toNat := by rw [Pl.enter, if_neg hgt]
    have HE := Lib.hid hent
    clear hent
    go_enter Try.func16, Try.ntmps16
    go_wp2
    go_loopw [7] (fun u wr => ∃ j : Nat, (j ≤ n ∧ j ≤ last.toNat) ∧ u = .int .i64 j ∧ Hid (Pl.fneg V j = -1) ∧ Below w.heap.size w wr) (fun u _ => last.toNat - (intOf u).toNat)
    case atStart => exact ⟨0, ⟨Nat.zero_le _, Nat.zero_le _⟩, rfl, Lib.hid rfl, HW.out⟩
    case round =>
      obtain ⟨j, ⟨hj, hj2⟩, rfl, hf, hb⟩ := hrel
      by_cases hlt : (j : Int) < last
      · have hd1 := decide_eq_true hlt
        obtain ⟨b, off, rfl, hbb, hc⟩ := hr (by omega)
        have x0 := (hb.cell (p := ⟨b, off + j * 2, none⟩) (by exact Nat.lt_of_lt_of_le hbb hB)).trans (hc j (by omega)).1
        have x1 := (hb.cell (p := ⟨b, off + j * 2 + 1, none⟩) (by exact Nat.lt_of_lt_of_le hbb hB)).trans (hc j (by omega)).2
        have HH := Lib.hid (fun h => Pl.fneg_hit hf.out h)
        have HM := Lib.hid (fun h => Pl.fneg_miss hf.out h)
        have SG := Lib.hid (fun w => ssign_any (V j).1 (V j).2 w)
        generalize (V j).1 = x at x0 HH HM SG
        generalize (V j).2 = y at x1 HH HM SG
        generalize Pl.cmp x y 0 1 = sg at HH HM SG
        have k1 : (j : Int) < (n : Int) := by omega
        clear hc hr
        by_cases hs : sg < 0
        · have hd2 := decide_eq_true hs
          have HR := Lib.hid (HH.out hs last.toNat (by omega))
          go_wp2_with fail
          refine (SG.out _).mono ?_
          rintro e w1 ⟨rfl, hb1⟩
          have hb := hb.trans (hb1.mono hb.size)
          clear hb1
          go_wp2
          go_ret
          exact ⟨by rw [HE.out, HR.out]; rfl, hb⟩
        · have hd2 := decide_eq_false hs
          have HR := Lib.hid (HM.out hs)
          go_wp2_with fail
          refine (SG.out _).mono ?_
          rintro e w1 ⟨rfl, hb1⟩
          have hb := hb.trans (hb1.mono hb.size)
          clear hb1
          go_wp2
          go_roundw
          case rel => exact ⟨j + 1, ⟨by omega, by omega⟩, by go_num, HR, hb⟩
          case measure => simp [intOf]; omega
      · have hd1 := decide_eq_false hlt
        have hjl : last.toNat ≤ j := by omega
        have HR := Lib.hid (show Pl.fneg V last.toNat = -1 from by
          have : last.toNat = j := by omega
          rw [this]
          exact hf.out)
        go_wp2
        go_ret
        exact ⟨by rw [HE.out, HR.out]; rfl, hb⟩

end Go.Proofs.Ytajafmdeencohaa
