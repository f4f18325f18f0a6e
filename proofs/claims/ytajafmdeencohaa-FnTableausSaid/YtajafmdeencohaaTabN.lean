/-
  Tableaus of the call's own (OwnTab): the laws' toTableau, markTableau, heldTableau.
-/
import Derived.Test.YtajafmdeencohaaTab2
import Derived.Test.YtajafmdeencohaaNest
namespace Go.Proofs.Ytajafmdeencohaa
open Go.RowKit Go.ChangeShapes Go.WideShapes
attribute [local go_sem ↓] Go.wp_at_zero Go.wp_at_succ

/-- w' differs from w only in blocks with P, or in new ones. -/
structure OnlyP (w w' : World) (P : Nat → Prop) : Prop where
  os : w'.os = w.os
  tape : w'.tape = w.tape
  output : w'.output = w.output
  size : w.heap.size ≤ w'.heap.size
  block : ∀ k, k < w.heap.size → ¬ P k → w'.heap[k]? = w.heap[k]?
theorem OnlyP.refl (w : World) (P : Nat → Prop) : OnlyP w w P := ⟨rfl, rfl, rfl, Nat.le_refl _, fun _ _ _ => rfl⟩
theorem OnlyP.trans {a b c : World} {P : Nat → Prop} (h : OnlyP a b P) (k : OnlyP b c P) : OnlyP a c P :=
  ⟨k.os.trans h.os, k.tape.trans h.tape, k.output.trans h.output, Nat.le_trans h.size k.size, fun i hi' ho => (k.block i (Nat.lt_of_lt_of_le hi' h.size) ho).trans (h.block i hi' ho)⟩
theorem OnlyP.of_grown {w w' : World} {P : Nat → Prop} {row : Option Nat} (hg : w.grownBy w' row) (h : ∀ g, row = some g → P g) : OnlyP w w' P :=
  ⟨hg.os, hg.tape, hg.output, hg.size, fun k hk ho => hg.block k hk (fun e => ho (h k e.symm))⟩
theorem OnlyP.only {w w' : World} {P : Nat → Prop} {lo hi : Nat} (h : OnlyP w w' P) (hp : ∀ k, P k → lo ≤ k ∧ k < hi) : Only w w' lo hi :=
  ⟨h.os, h.tape, h.output, h.size, fun k hk ho => h.block k hk (fun hP => by have := hp k hP; omega)⟩
theorem own_onlyP {w w' : World} {base size n : Nat} {e : TypeId} {v : Value} {xs : List Value} {P : Nat → Prop} (h : w.ownsRow base e size v n xs) (ho : OnlyP w w' P) (hd : ∀ g, v.ownBlock = some g → ¬ P g) : w'.ownsRow base e size v n xs := by
  refine ⟨h.1, ?_⟩
  rcases h.2 with h2 | ⟨g, cap, cur, hv, hg, hh, r⟩
  · exact Or.inl h2
  · exact Or.inr ⟨g, cap, cur, hv, hg, (ho.block g (Array.getElem?_eq_some_iff.1 hh).1 (hd g (by rw [hv]; rfl))).trans hh, r⟩
/-- rows of fractions of the call's own -/
def NestR (w : World) (lo hi : Nat) (X : Option Addr) (n c : Nat) (XA : Nat → Option Addr) (RN RC : Nat → Nat) (RV : Nat → Fr) : Prop := Nest w lo hi 36 66 2 X n c XA RN RC (fun i => cellsV (RV i) (RN i))
theorem Nest.rdR {w : World} {lo hi n c : Nat} {T e : TypeId} {X : Option Addr} {XA : Nat → Option Addr} {RN RC : Nat → Nat} {RV : Nat → Fr} (h : Nest w lo hi T e 2 X n c XA RN RC (fun i => cellsV (RV i) (RN i))) : RdR w hi X n XA RN RC RV :=
  ⟨fun hn => by
    obtain ⟨b, e, _, hlt, hc⟩ := h.cells hn
    exact ⟨b, 0, e, hlt, hc⟩, fun j hj => RdP.of_own_hi (h.rows.own j hj) (h.rows.lt j hj)⟩
theorem RdR.only {w w' : World} {B n lo hi : Nat} {A : Option Addr} {RA : Nat → Option Addr} {RN RC : Nat → Nat} {RV : Nat → Fr} (h : RdR w B A n RA RN RC RV) (ho : Only w w' lo hi) (hB : B ≤ w.heap.size) (hl : B ≤ lo) : RdR w' B A n RA RN RC RV :=
  ⟨fun hn => by
    obtain ⟨b, off, e, hlt, hc⟩ := h.1 hn
    exact ⟨b, off, e, hlt, fun j hj => (World.cell?_of_block (a := ⟨b, off + j, none⟩) (ho.block b (by omega) (by omega))).trans (hc j hj)⟩, fun j hj => (h.2 j hj).only ho hB hl⟩
/-- a tableau of the call's own -/
structure OwnTab (w : World) (lo hi : Nat) (X : Option Addr) (n c : Nat) (XA : Nat → Option Addr) (RN RC : Nat → Nat) (RV : Nat → Fr) (Y : Option Addr) (m d : Nat) (BV : Nat → Int) : Prop where
  rows : NestR w lo hi X n c XA RN RC RV
  basis : w.ownsRow lo 3 1 (.slice Y m d) m (cellsI BV m)
  top : ∀ g, blk Y = some g → g < hi ∧ blk X ≠ some g ∧ ∀ i, i < n → blk (XA i) ≠ some g
  le : hi ≤ w.heap.size
section
variable {w w' : World} {lo hi n c m d : Nat} {X Y : Option Addr} {XA : Nat → Option Addr} {RN RC : Nat → Nat} {RV : Nat → Fr} {BV : Nat → Int}
theorem OwnTab.below (h : OwnTab w lo hi X n c XA RN RC RV Y m d BV) (hb : Below w.heap.size w w') : OwnTab w' lo hi X n c XA RN RC RV Y m d BV :=
  ⟨Nest.below h.rows hb, own_below h.basis hb, h.top, Nat.le_trans h.le hb.size⟩
theorem OwnTab.only (h : OwnTab w lo hi X n c XA RN RC RV Y m d BV) {l' h' : Nat} (ho : Only w w' l' h') (hd : h' ≤ lo ∨ hi ≤ l') : OwnTab w' lo hi X n c XA RN RC RV Y m d BV :=
  ⟨Nest.only h.rows ho hd, own_only h.basis ho (fun g hg => by
    have h1 := (h.basis.lt g hg).1
    rw [ownBlock_blk] at hg
    have h2 := (h.top g hg).1
    omega), h.top, Nat.le_trans h.le ho.size⟩
theorem OwnTab.rds (h : OwnTab w lo hi X n c XA RN RC RV Y m d BV) : RdR w hi X n XA RN RC RV ∧ Rd w hi 1 Y m (cellsI BV m) :=
  ⟨Nest.rdR h.rows, Rd.of_own_hi h.basis (fun g hg => (h.top g hg).1)⟩
theorem OwnTab.rows_at (h : OwnTab w lo hi X n c XA RN RC RV Y m d BV) : RdR w w.heap.size X n XA RN RC RV := h.rds.1.more h.le
theorem OwnTab.basis_at (h : OwnTab w lo hi X n c XA RN RC RV Y m d BV) : Rd w w.heap.size 1 Y m (cellsI BV m) := h.rds.2.more h.le
theorem OwnTab.low (h : OwnTab w lo hi X n c XA RN RC RV Y m d BV) {lo' : Nat} (hl : lo' ≤ lo) : OwnTab w lo' hi X n c XA RN RC RV Y m d BV := ⟨Nest.low h.rows hl, own_low h.basis hl, h.top, h.le⟩
end

theorem toRatSS_nest (A : Option Addr) (n c B : Nat) (RA : Nat → Option Addr) (RN RC : Nat → Nat) (RV : Nat → Fr) (w : World) (hr : RdR w B A n RA RN RC RV) (hB : B ≤ w.heap.size) (hn : n ≤ 1048576) (hz : ∀ j, j < n → RN j ≤ 1048576) :
    Calls Try.prog 44 #[.slice A n c] w fun e w' => ∃ (X : Option Addr) (XA : Nat → Option Addr) (XC : Nat → Nat), e = .returned (.slice X n n) ∧ NestR w' w.heap.size w'.heap.size X n n XA RN XC RV ∧ Below w.heap.size w w' := by
  obtain ⟨iR, hi, hzz, hsz, hby⟩ := info_parts infoRows
  have HR := Lib.hid hr
  have HZ := Lib.hid hz
  clear hr hz
  go_enter Try.func44, Try.ntmps44
  go_wp2_with (refine wpList_make_full _ rfl _ _ 28 rfl w.heap.size 36 iR (.slice none 0 0) 1 Try.underlying28 hi hzz hsz .i64 .i64 n n n rfl rfl rfl rfl (by rw [hby]; omega) (by simp only [maxLen]; omega) (Nat.le_refl _) ?_)
  intro w1 hown hg
  have hown : w1.ownsRow w.heap.size 36 1 (.slice (some ⟨w.heap.size, 0, none⟩) n n) n (rowsAt (fun _ => none) RN (fun _ => 0) n 0) := by
    rw [rowsAt_zero, ← toList_madeCells_one]
    simpa using hown
  have hb1 : Below w.heap.size w w1 := (Below.refl _ _).grown hg (Nat.le_refl _) (fun g h => by cases h)
  clear hg hi hzz hsz hby
  go_wp2
  go_loopw [4] (fun u wr => ∃ (j : Nat) (XA : Nat → Option Addr) (XC : Nat → Nat), j ≤ n ∧ u = .int .i64 j ∧ wr.ownsRow w.heap.size 36 1 (.slice (some ⟨w.heap.size, 0, none⟩) n n) n (rowsAt XA RN XC n j) ∧ Rows wr w.heap.size wr.heap.size 66 2 (some ⟨w.heap.size, 0, none⟩) j XA RN XC (fun i => cellsV (RV i) (RN i)) ∧ Below w.heap.size w wr) (fun u _ => n - (intOf u).toNat)
  case atStart => exact ⟨0, _, _, Nat.zero_le _, rfl, hown, Rows.nil _ _ _ _ _ _ _ _ _ _, hb1⟩
  case round =>
    obtain ⟨j, XA, XC, hj, rfl, ho, hrw, hb⟩ := hrel
    by_cases hlt : j < n
    · obtain ⟨b, off, rfl, hbb, hc⟩ := HR.out.1 (by omega)
      have x0 := (hb.cell (p := ⟨b, off + j, none⟩) (by exact Nat.lt_of_lt_of_le hbb hB)).trans (hc j hlt)
      have q0 := (HR.out.2 j hlt).below hb hB
      have hz := HZ.out j hlt
      have hgz := (ho.lt w.heap.size rfl).2
      have HST := Lib.hid (fun c A => rowsAt_set XA RN XC n j c A)
      have C := Lib.hid (toRatS_any (RA j) (RN j) (RC j) B (RV j) wr q0 (Nat.le_trans hB hb.size) hz)
      have HRW := Lib.hid (fun (w2 : World) (hb2 : Below wr.heap.size wr w2) (X : Option Addr) (ow : w2.ownsRow wr.heap.size 66 2 (.slice X (RN j) (RN j)) (RN j) (cellsV (RV j) (RN j))) => hrw.push hb2 ow hb.size (Nat.le_refl _) (fun g hg => by injection hg with hg; show g < _; rw [← hg]; exact hgz))
      clear hrw
      generalize hma : RA j = ma at x0 C
      generalize hmn : RN j = mn at x0 C HST hz HRW
      generalize hmc : RC j = mc at x0 C
      have HMN := Lib.hid hmn
      clear hma hmn hmc q0 hc
      go_wp2_with fail
      refine C.out.mono ?_
      rintro e w2 ⟨X, rfl, ow, hb2⟩
      have hrw := HRW.out w2 hb2 X ow
      have ho := own_below ho hb2
      have hb := hb.trans (hb2.mono hb.size)
      have hlow := hb2.size
      obtain ⟨⟨u0, y0⟩, f0⟩ := own_cell (i := j) ho (by omega) (by omega)
      have hst := (ho.stored j (.slice X mn mn)).1
      rw [HST.out mn X hlt] at hst
      have hrw2 := hrw.off (only_setCell (p := ⟨w.heap.size, j, none⟩) (World.grownBy.refl _ (some w.heap.size)) rfl (.slice X mn mn)) (fun i hi' g hg he => hrw.out i hi' g hg he)
      have hrw3 := hrw2.wide (hi' := (w2.setCell ⟨w.heap.size, j, none⟩ (.slice X mn mn)).heap.size) (by rw [size_setCell]; exact Nat.le_refl _)
      have HRW3 := Lib.hid hrw3
      have HSTT := Lib.hid hst
      clear hst ho hrw hrw2 hrw3 ow hb2 C HST HRW hlow
      go_wp2
      go_roundw
      case rel => exact ⟨j + 1, _, _, by omega, by go_num, HSTT.out, HRW3.out, hb.setCell (Nat.le_refl _) _⟩
      case measure => simp [intOf]; omega
    · obtain rfl : j = n := by omega
      have HO := Lib.hid ho
      have HRW := Lib.hid hrw
      clear ho hown hrw
      go_wp2
      go_ret
      refine ⟨_, XA, XC, rfl, ⟨?_, fun g hg => ?_, HRW.out⟩, hb⟩
      · have h := HO.out
        rwa [rowsAt_all] at h
      · exact (HO.out.lt g (by rw [ownBlock_blk]; exact hg)).2


set_option maxRecDepth 20000 in
set_option maxHeartbeats 2000000 in
theorem toTab_own (aR aBs : Option Addr) (arn arc abn abc : Nat) (acols : Int) (aRA : Nat → Option Addr) (aRN aRC : Nat → Nat) (aRV : Nat → Fr) (aBV : Nat → Int) (B : Nat) (w : World) (arr : RdR w B aR arn aRA aRN aRC aRV) (abb : Rd w B 1 aBs abn (cellsI aBV abn)) (hB : B ≤ w.heap.size) (ha1 : arn ≤ 1048576) (ha2 : ∀ j, j < arn → aRN j ≤ 1048576) (ha3 : abn ≤ 1048576) :
    Calls Try.prog 12 #[.agg #[.slice aR arn arc, .slice aBs abn abc, .int .i64 acols]] w fun e w' => ∃ (X : Option Addr) (XA : Nat → Option Addr) (XC : Nat → Nat) (Y : Option Addr) (hi : Nat), e = .returned (.agg #[.slice X arn arn, .slice Y abn abn, .int .i64 acols]) ∧ OwnTab w' w.heap.size hi X arn arn XA aRN XC aRV Y abn abn aBV ∧ Below w.heap.size w w' := by
  have B1 : Bx (((w.alloc (.cells #[.slice aR arn arc, .slice aBs abn abc, .int .i64 acols] 25)).alloc (.cells #[.slice none 0 0, .slice none 0 0, .int .i64 0] 30)).alloc (.cells #[.slice none 0 0, .slice none 0 0, .int .i64 0] 30)) w.heap.size [.slice aR arn arc, .slice aBs abn abc, .int .i64 acols] := ((Bx.new w #[.slice aR arn arc, .slice aBs abn abc, .int .i64 acols] 25).alloc _).alloc _
  have B2 : Bx (((w.alloc (.cells #[.slice aR arn arc, .slice aBs abn abc, .int .i64 acols] 25)).alloc (.cells #[.slice none 0 0, .slice none 0 0, .int .i64 0] 30)).alloc (.cells #[.slice none 0 0, .slice none 0 0, .int .i64 0] 30)) (w.heap.size + 1) [.slice none 0 0, .slice none 0 0, .int .i64 0] := by
    have h := (Bx.new (w.alloc (.cells #[.slice aR arn arc, .slice aBs abn abc, .int .i64 acols] 25)) #[.slice none 0 0, .slice none 0 0, .int .i64 0] 30).alloc (.cells #[.slice none 0 0, .slice none 0 0, .int .i64 0] 30)
    simpa using h
  have B3 : Bx (((w.alloc (.cells #[.slice aR arn arc, .slice aBs abn abc, .int .i64 acols] 25)).alloc (.cells #[.slice none 0 0, .slice none 0 0, .int .i64 0] 30)).alloc (.cells #[.slice none 0 0, .slice none 0 0, .int .i64 0] 30)) (w.heap.size + 1 + 1) [.slice none 0 0, .slice none 0 0, .int .i64 0] := by
    have h := Bx.new ((w.alloc (.cells #[.slice aR arn arc, .slice aBs abn abc, .int .i64 acols] 25)).alloc (.cells #[.slice none 0 0, .slice none 0 0, .int .i64 0] 30)) #[.slice none 0 0, .slice none 0 0, .int .i64 0] 30
    simpa using h
  have HB : Below w.heap.size w (((w.alloc (.cells #[.slice aR arn arc, .slice aBs abn abc, .int .i64 acols] 25)).alloc (.cells #[.slice none 0 0, .slice none 0 0, .int .i64 0] 30)).alloc (.cells #[.slice none 0 0, .slice none 0 0, .int .i64 0] 30)) := (((Below.refl _ _).alloc (Nat.le_refl _) _).alloc (by simp) _).alloc (by simp; omega) _
  have b1 := B3.1
  have C1 := Lib.hid (toRatSS_nest aR arn arc B aRA aRN aRC aRV (((w.alloc (.cells #[.slice aR arn arc, .slice aBs abn abc, .int .i64 acols] 25)).alloc (.cells #[.slice none 0 0, .slice none 0 0, .int .i64 0] 30)).alloc (.cells #[.slice none 0 0, .slice none 0 0, .int .i64 0] 30)) (arr.below HB hB) (Nat.le_trans hB HB.size) ha1 ha2)
  clear arr
  have hW3 : w.heap.size + 1 + 1 < (((w.alloc (.cells #[.slice aR arn arc, .slice aBs abn abc, .int .i64 acols] 25)).alloc (.cells #[.slice none 0 0, .slice none 0 0, .int .i64 0] 30)).alloc (.cells #[.slice none 0 0, .slice none 0 0, .int .i64 0] 30)).heap.size := b1
  go_enter Try.func12, Try.ntmps12
  go_wp2_with fail
  refine C1.out.mono ?_
  rintro e w1 ⟨X, XA, XC, rfl, ow1, hb⟩
  have l1 := hb.size
  have B1 := B1.below hb
  have B2 := B2.below hb
  have B3 := B3.below hb
  have HB := HB.trans (hb.mono HB.size)
  obtain ⟨m1, hm1⟩ : ∃ m, m = w1.heap.size := ⟨_, rfl⟩
  have s_m1 : m1 ≤ w1.heap.size := Nat.le_of_eq hm1
  rw [← hm1] at ow1
  clear hb C1
  have x0 := B1.2.1 0 _ rfl
  have x1 := B1.2.1 1 _ rfl
  have x2 := B1.2.1 2 _ rfl
  have xz := B1.1
  have z0 := B3.2.1 0 _ rfl
  have z1 := B3.2.1 1 _ rfl
  have z2 := B3.2.1 2 _ rfl
  have zz := B3.1
  have zf := B3.2.2
  have l1 : w.heap.size + 1 + 1 < m1 := by omega
  have B1 := B1.other (b := (w.heap.size + 1 + 1)) (k := 0) (by omega) (.slice X arn arn)
  have B2 := B2.other (b := (w.heap.size + 1 + 1)) (k := 0) (by omega) (.slice X arn arn)
  have B3 := B3.set (k := 0) (by simp) (.slice X arn arn)
  have ow1 := Nest.set ow1 (a := ⟨(w.heap.size + 1 + 1), 0, none⟩) (by show (w.heap.size + 1 + 1) < _; omega) (.slice X arn arn)
  have s_m1 := Nat.le_trans s_m1 (Nat.le_of_eq (size_setCell _ ⟨(w.heap.size + 1 + 1), 0, none⟩ (.slice X arn arn)).symm)
  have HB := HB.setCell (p := ⟨(w.heap.size + 1 + 1), 0, none⟩) (by show w.heap.size ≤ (w.heap.size + 1 + 1); omega) (.slice X arn arn)
  have b2 := B3.1
  have OW := Lib.hid ow1
  clear ow1
  go_wp2_with fail
  refine (toIntS_any _ _ _ _ aBV _ (abb.below' HB hB) (Nat.le_trans hB HB.size) ha3).mono ?_
  rintro e w2 ⟨Y, rfl, ow2, hb⟩
  have ow1 := OW.out
  have ow2 := own_low ow2 s_m1
  have l2 := Nat.le_trans s_m1 hb.size
  have B1 := B1.below hb
  have B2 := B2.below hb
  have B3 := B3.below hb
  have ow1 := Nest.below ow1 hb
  have s_m1 := Nat.le_trans s_m1 hb.size
  have HB := HB.trans (hb.mono HB.size)
  obtain ⟨m2, hm2⟩ : ∃ m, m = w2.heap.size := ⟨_, rfl⟩
  have s_m2 : m2 ≤ w2.heap.size := Nat.le_of_eq hm2
  have bY := fun g hg => (ow2.lt g hg).2
  rw [← hm2] at bY l2
  have BY := Lib.hid bY
  clear hb OW bY
  have x0 := B1.2.1 0 _ rfl
  have x1 := B1.2.1 1 _ rfl
  have x2 := B1.2.1 2 _ rfl
  have xz := B1.1
  have z0 := B3.2.1 0 _ rfl
  have z1 := B3.2.1 1 _ rfl
  have z2 := B3.2.1 2 _ rfl
  have zz := B3.1
  have zf := B3.2.2
  have y0 := B2.2.1 0 _ rfl
  have y1 := B2.2.1 1 _ rfl
  have y2 := B2.2.1 2 _ rfl
  have yz := B2.1
  have yf := B2.2.2
  have B1 := B1.other (b := (w.heap.size + 1 + 1)) (k := 1) (by omega) (.slice Y abn abn)
  have B2 := B2.other (b := (w.heap.size + 1 + 1)) (k := 1) (by omega) (.slice Y abn abn)
  have B3 := B3.set (k := 1) (by simp) (.slice Y abn abn)
  have ow1 := Nest.set ow1 (a := ⟨(w.heap.size + 1 + 1), 1, none⟩) (by show (w.heap.size + 1 + 1) < _; omega) (.slice Y abn abn)
  have s_m1 := Nat.le_trans s_m1 (Nat.le_of_eq (size_setCell _ ⟨(w.heap.size + 1 + 1), 1, none⟩ (.slice Y abn abn)).symm)
  have ow2 := ownsRow_setCell_below ow2 (a := ⟨(w.heap.size + 1 + 1), 1, none⟩) (by show (w.heap.size + 1 + 1) < _; omega) (.slice Y abn abn)
  have s_m2 := Nat.le_trans s_m2 (Nat.le_of_eq (size_setCell _ ⟨(w.heap.size + 1 + 1), 1, none⟩ (.slice Y abn abn)).symm)
  have HB := HB.setCell (p := ⟨(w.heap.size + 1 + 1), 1, none⟩) (by show w.heap.size ≤ (w.heap.size + 1 + 1); omega) (.slice Y abn abn)
  have B1 := B1.other (b := (w.heap.size + 1 + 1)) (k := 2) (by omega) (.int .i64 acols)
  have B2 := B2.other (b := (w.heap.size + 1 + 1)) (k := 2) (by omega) (.int .i64 acols)
  have B3 := B3.set (k := 2) (by simp) (.int .i64 acols)
  have ow1 := Nest.set ow1 (a := ⟨(w.heap.size + 1 + 1), 2, none⟩) (by show (w.heap.size + 1 + 1) < _; omega) (.int .i64 acols)
  have s_m1 := Nat.le_trans s_m1 (Nat.le_of_eq (size_setCell _ ⟨(w.heap.size + 1 + 1), 2, none⟩ (.int .i64 acols)).symm)
  have ow2 := ownsRow_setCell_below ow2 (a := ⟨(w.heap.size + 1 + 1), 2, none⟩) (by show (w.heap.size + 1 + 1) < _; omega) (.int .i64 acols)
  have s_m2 := Nat.le_trans s_m2 (Nat.le_of_eq (size_setCell _ ⟨(w.heap.size + 1 + 1), 2, none⟩ (.int .i64 acols)).symm)
  have HB := HB.setCell (p := ⟨(w.heap.size + 1 + 1), 2, none⟩) (by show w.heap.size ≤ (w.heap.size + 1 + 1); omega) (.int .i64 acols)
  have B1 := B1.other (b := (w.heap.size + 1)) (k := 0) (by omega) (.slice X arn arn)
  have B3 := B3.other (b := (w.heap.size + 1)) (k := 0) (by omega) (.slice X arn arn)
  have B2 := B2.set (k := 0) (by simp) (.slice X arn arn)
  have ow1 := Nest.set ow1 (a := ⟨(w.heap.size + 1), 0, none⟩) (by show (w.heap.size + 1) < _; omega) (.slice X arn arn)
  have s_m1 := Nat.le_trans s_m1 (Nat.le_of_eq (size_setCell _ ⟨(w.heap.size + 1), 0, none⟩ (.slice X arn arn)).symm)
  have ow2 := ownsRow_setCell_below ow2 (a := ⟨(w.heap.size + 1), 0, none⟩) (by show (w.heap.size + 1) < _; omega) (.slice X arn arn)
  have s_m2 := Nat.le_trans s_m2 (Nat.le_of_eq (size_setCell _ ⟨(w.heap.size + 1), 0, none⟩ (.slice X arn arn)).symm)
  have HB := HB.setCell (p := ⟨(w.heap.size + 1), 0, none⟩) (by show w.heap.size ≤ (w.heap.size + 1); omega) (.slice X arn arn)
  have B1 := B1.other (b := (w.heap.size + 1)) (k := 1) (by omega) (.slice Y abn abn)
  have B3 := B3.other (b := (w.heap.size + 1)) (k := 1) (by omega) (.slice Y abn abn)
  have B2 := B2.set (k := 1) (by simp) (.slice Y abn abn)
  have ow1 := Nest.set ow1 (a := ⟨(w.heap.size + 1), 1, none⟩) (by show (w.heap.size + 1) < _; omega) (.slice Y abn abn)
  have s_m1 := Nat.le_trans s_m1 (Nat.le_of_eq (size_setCell _ ⟨(w.heap.size + 1), 1, none⟩ (.slice Y abn abn)).symm)
  have ow2 := ownsRow_setCell_below ow2 (a := ⟨(w.heap.size + 1), 1, none⟩) (by show (w.heap.size + 1) < _; omega) (.slice Y abn abn)
  have s_m2 := Nat.le_trans s_m2 (Nat.le_of_eq (size_setCell _ ⟨(w.heap.size + 1), 1, none⟩ (.slice Y abn abn)).symm)
  have HB := HB.setCell (p := ⟨(w.heap.size + 1), 1, none⟩) (by show w.heap.size ≤ (w.heap.size + 1); omega) (.slice Y abn abn)
  have B1 := B1.other (b := (w.heap.size + 1)) (k := 2) (by omega) (.int .i64 acols)
  have B3 := B3.other (b := (w.heap.size + 1)) (k := 2) (by omega) (.int .i64 acols)
  have B2 := B2.set (k := 2) (by simp) (.int .i64 acols)
  have ow1 := Nest.set ow1 (a := ⟨(w.heap.size + 1), 2, none⟩) (by show (w.heap.size + 1) < _; omega) (.int .i64 acols)
  have s_m1 := Nat.le_trans s_m1 (Nat.le_of_eq (size_setCell _ ⟨(w.heap.size + 1), 2, none⟩ (.int .i64 acols)).symm)
  have ow2 := ownsRow_setCell_below ow2 (a := ⟨(w.heap.size + 1), 2, none⟩) (by show (w.heap.size + 1) < _; omega) (.int .i64 acols)
  have s_m2 := Nat.le_trans s_m2 (Nat.le_of_eq (size_setCell _ ⟨(w.heap.size + 1), 2, none⟩ (.int .i64 acols)).symm)
  have HB := HB.setCell (p := ⟨(w.heap.size + 1), 2, none⟩) (by show w.heap.size ≤ (w.heap.size + 1); omega) (.int .i64 acols)
  have f0 := B2.2.1 0 _ rfl
  have f1 := B2.2.1 1 _ rfl
  have f2 := B2.2.1 2 _ rfl
  have O := Lib.hid (show OwnTab _ w.heap.size m2 X arn arn XA aRN XC aRV Y abn abn aBV from ⟨Nest.wide (Nest.low ow1 (by omega)) l2, own_low ow2 (by omega), fun g hg => ⟨BY.out g (by rw [ownBlock_blk]; exact hg), fun hx => by have h1 := (ow2.lt g (by rw [ownBlock_blk]; exact hg)).1; have h2 := ow1.top g hx; omega, fun i hi hx => by have h1 := (ow2.lt g (by rw [ownBlock_blk]; exact hg)).1; have h2 := ow1.rows.lt i hi g hx; omega⟩, s_m2⟩)
  have HBB := Lib.hid HB
  clear ow1 ow2 HB B1 B2 B3 s_m1 hm1 hm2 BY s_m2
  go_wp2
  refine bodyPost_ret (v := .agg #[.slice X arn arn, .slice Y abn abn, .int .i64 acols]) (by simp [results, Try.results12, go_sem, f0, f1, f2]) rfl ⟨X, XA, XC, Y, _, rfl, O.out, HBB.out⟩

/-- the rows' fractions when the first j rows are marked -/
def markR (RV : Nat → Fr) (RN : Nat → Nat) (k : Int) (j : Nat) : Nat → List Value := fun i => if i < j then cellsV (marksV (k + 2 * (sumN RN i : Int))) (RN i) else cellsV (RV i) (RN i)
theorem markR_zero (RV : Nat → Fr) (RN : Nat → Nat) (k : Int) : markR RV RN k 0 = fun i => cellsV (RV i) (RN i) := by
  funext i
  simp [markR]
theorem markR_step (RV : Nat → Fr) (RN : Nat → Nat) (k : Int) (j : Nat) : (fun i => if i = j then cellsV (marksV (k + 2 * (sumN RN j : Int))) (RN j) else markR RV RN k j i) = markR RV RN k (j + 1) := by
  funext i
  by_cases h : i = j
  · subst h
    simp [markR]
  · simp only [if_neg h, markR]
    by_cases h2 : i < j
    · rw [if_pos h2, if_pos (by omega)]
    · rw [if_neg h2, if_neg (by omega)]
theorem Nest.mark_of {w w' : World} {lo hi s n c : Nat} {T e : TypeId} {X : Option Addr} {XA : Nat → Option Addr} {RN RC : Nat → Nat} {RX RX' : Nat → List Value} (h : Nest w lo hi T e s X n c XA RN RC RX) {i : Nat} (hi' : i < n) {x : List Value} (hg : w.grownBy w' (blk (XA i))) (ho : w'.ownsRow lo e s (.slice (XA i) (RN i) (RC i)) (RN i) x) (he : (fun k => if k = i then x else RX k) = RX') : Nest w' lo hi T e s X n c XA RN RC RX' := by
  have := h.mark hi' hg ho
  rwa [he] at this
theorem markRatSS_own (X : Option Addr) (n c lo hi : Nat) (XA : Nat → Option Addr) (RN RC : Nat → Nat) (RV : Nat → Fr) (k : Int) (w : World) (hN : NestR w lo hi X n c XA RN RC RV) (hn : n ≤ 1048576) (hz : ∀ j, j < n → RN j ≤ 1048576) (k0 : 0 ≤ k) (k1 : k ≤ 1099511627776) :
    Calls Try.prog 60 #[.slice X n c, .int .i64 k] w fun e w' => e = .returned (.int .i64 (k + 2 * (sumN RN n : Int))) ∧ NestR w' lo hi X n c XA RN RC (fun i => marksV (k + 2 * (sumN RN i : Int))) ∧ OnlyP w w' (fun g => ∃ i, i < n ∧ blk (XA i) = some g) := by
  have HZ := Lib.hid hz
  have HN : Hid (Nest w lo hi 36 66 2 X n c XA RN RC (markR RV RN k 0)) := Lib.hid (by rw [markR_zero]; exact hN)
  have SZ := Lib.hid (fun i (hi : i ≤ n) => sumN_le (RN := RN) (n := i) (m := 1048576) (fun j hj => hz j (by omega)))
  clear hz hN
  go_enter Try.func60, Try.ntmps60
  go_wp2
  go_loopw [1, 5] (fun q u wr => ∃ j : Nat, j ≤ n ∧ u = .int .i64 j ∧ q = .int .i64 (k + 2 * (sumN RN j : Int)) ∧ Nest wr lo hi 36 66 2 X n c XA RN RC (markR RV RN k j) ∧ OnlyP w wr (fun g => ∃ i, i < n ∧ blk (XA i) = some g)) (fun _ u _ => n - (intOf u).toNat)
  case atStart => exact ⟨0, Nat.zero_le _, rfl, by simp [sumN], HN.out, OnlyP.refl _ _⟩
  case round =>
    obtain ⟨j, hj, rfl, rfl, hN, ho⟩ := hrel
    by_cases hlt : j < n
    · obtain ⟨b, rfl, hbs, _, hc⟩ := hN.cells (by omega)
      have x0 := hc j hlt
      rw [Nat.zero_add] at x0
      have sz := SZ.out j hj
      have sq : j * 1048576 ≤ 1048576 * 1048576 := Nat.mul_le_mul_right _ (by omega)
      have hzj := HZ.out j hlt
      have hrow := hN.rows.own j hlt
      have hrow' : wr.ownsRow lo 66 2 (.slice (XA j) (RN j) (RC j)) (RN j) (cellsV (RV j) (RN j)) := by
        have e : markR RV RN k j j = cellsV (RV j) (RN j) := by simp [markR]
        rwa [e] at hrow
      have HM := Lib.hid (fun (w' : World) hg h => hN.mark_of (w' := w') (x := cellsV (marksV (k + 2 * (sumN RN j : Int))) (RN j)) hlt hg h (markR_step RV RN k j))
      have HO := Lib.hid (fun (w' : World) (hg : wr.grownBy w' (blk (XA j))) => ho.trans (OnlyP.of_grown hg (fun g hx => ⟨j, hlt, hx⟩)))
      have HS : sumN RN (j + 1) = sumN RN j + RN j := rfl
      have C := Lib.hid (markRatS_own (XA j) (RN j) (RC j) lo (k + 2 * (sumN RN j : Int)) (RV j) wr hrow' (by omega) (by omega) (by omega))
      rw [ownBlock_blk] at C
      clear hrow hrow' hc hzj
      generalize RN j = mn at x0 C HS HM
      generalize RC j = mc at x0 C HM
      generalize XA j = ma at x0 C HO HM
      have HSS := Lib.hid HS
      clear HS
      generalize sumN RN j = sj at C HSS sz HM
      go_wp2_with fail
      refine C.out.mono ?_
      rintro e w2 ⟨rfl, ow, hg⟩
      have HN2 := Lib.hid (HM.out w2 hg ow)
      have HO2 := Lib.hid (HO.out w2 hg)
      clear hg ow hN ho HM HO C
      go_wp2
      go_roundw
      case rel => exact ⟨j + 1, by omega, by go_num, by rw [HSS.out]; go_num, HN2.out, HO2.out⟩
      case measure => simp [intOf]; omega
    · obtain rfl : j = n := by omega
      go_wp2
      go_ret
      exact ⟨rfl, Nest.congr hN (fun i hi => by simp [markR, hi]), ho⟩

theorem heldRatSS_any (A : Option Addr) (n c B : Nat) (RA : Nat → Option Addr) (RN RC : Nat → Nat) (k : Int) (w : World) (hr : RdR w B A n RA RN RC (fun i => marksV (k + 2 * (sumN RN i : Int)))) (hn : n ≤ 1048576) (hz : ∀ j, j < n → RN j ≤ 1048576) (k0 : 0 ≤ k) (k1 : k ≤ 1099511627776) :
    Calls Try.prog 76 #[.slice A n c, .int .i64 k] w fun e w' => e = .returned (.int .i64 (k + 2 * (sumN RN n : Int))) ∧ w = w' := by
  have HZ := Lib.hid hz
  have HR := Lib.hid hr
  have SZ := Lib.hid (fun i (hi : i ≤ n) => sumN_le (RN := RN) (n := i) (m := 1048576) (fun j hj => hz j (by omega)))
  clear hz hr
  go_enter Try.func76, Try.ntmps76
  go_wp2
  go_loop [1, 5] (fun q u => ∃ j : Nat, j ≤ n ∧ u = .int .i64 j ∧ q = .int .i64 (k + 2 * (sumN RN j : Int))) (fun _ u => n - (intOf u).toNat)
  case atStart => exact ⟨0, Nat.zero_le _, rfl, by simp [sumN]⟩
  case round =>
    obtain ⟨j, hj, rfl, rfl⟩ := hrel
    by_cases hlt : j < n
    · obtain ⟨b, off, rfl, hbb, hc⟩ := HR.out.1 (by omega)
      have x0 := hc j hlt
      have sz := SZ.out j hj
      have sq : j * 1048576 ≤ 1048576 * 1048576 := Nat.mul_le_mul_right _ (by omega)
      have hzj := HZ.out j hlt
      have HS : sumN RN (j + 1) = sumN RN j + RN j := rfl
      have C := Lib.hid (heldRatS_any (RA j) (RN j) (RC j) B (k + 2 * (sumN RN j : Int)) w (HR.out.2 j hlt) (by omega) (by omega) (by omega))
      clear hc
      generalize RN j = mn at x0 C HS hzj
      generalize RC j = mc at x0 C
      generalize RA j = ma at x0 C
      have HSS := Lib.hid HS
      clear HS
      generalize sumN RN j = sj at C HSS sz
      have dd := decide_eq_false (show ¬ (k + 2 * (sj : Int) + 2 * (mn : Int) < 0) by omega)
      go_wp2_with fail
      refine C.out.mono ?_
      rintro e w2 ⟨rfl, rfl⟩
      go_wp2
      go_round
      case rel => exact ⟨j + 1, by omega, by go_num, by rw [HSS.out]; go_num⟩
      case measure => simp [intOf]; omega
    · obtain rfl : j = n := by omega
      go_wp2
      go_ret
      exact ⟨rfl, rfl⟩

theorem marks_cells (k : Int) (m : Nat) : marks k m = cellsI (fun i => k + (i : Int)) m := by
  first | rfl | (simp [marks, cellsI, listI])
theorem markTab_own (X : Option Addr) (n c : Nat) (XA : Nat → Option Addr) (RN RC : Nat → Nat) (RV : Nat → Fr) (Y : Option Addr) (m d : Nat) (BV : Nat → Int) (cols : Int) (lo hi : Nat) (k : Int) (w : World) (hO : OwnTab w lo hi X n c XA RN RC RV Y m d BV) (ha1 : n ≤ 1048576) (ha2 : ∀ j, j < n → RN j ≤ 1048576) (ha3 : m ≤ 1048576) (k0 : 0 ≤ k) (k1 : k ≤ 1048576) :
    Calls Try.prog 22 #[.agg #[.slice X n c, .slice Y m d, .int .i64 cols], .int .i64 k] w fun e w' => e = .returned (.int .i64 (k + 2 * (sumN RN n : Int) + m)) ∧ OwnTab w' lo hi X n c XA RN RC (fun i => marksV (k + 2 * (sumN RN i : Int))) Y m d (fun i => k + 2 * (sumN RN n : Int) + i) ∧ Only w w' lo hi := by
  have BA : Bx (w.alloc (.cells #[.slice X n c, .slice Y m d, .int .i64 cols] 30)) w.heap.size [.slice X n c, .slice Y m d, .int .i64 cols] := Bx.new w #[.slice X n c, .slice Y m d, .int .i64 cols] 30
  have HB : Below w.heap.size w (w.alloc (.cells #[.slice X n c, .slice Y m d, .int .i64 cols] 30)) := (Below.refl _ _).alloc (Nat.le_refl _) _
  have h2 := hO.below HB
  have O0 := Lib.hid (Only.of_below (lo := lo) (hi := hi) HB)
  have hle := hO.le
  have SZ := sumN_le (RN := RN) (n := n) (m := 1048576) ha2
  have SZ2 : n * 1048576 ≤ 1048576 * 1048576 := Nat.mul_le_mul_right _ ha1
  have C1 := Lib.hid (markRatSS_own X n c lo hi XA RN RC RV k (w.alloc (.cells #[.slice X n c, .slice Y m d, .int .i64 cols] 30)) h2.rows ha1 ha2 k0 (by omega))
  have H2 := Lib.hid h2
  have HS := Lib.hid (fun i (hi : i < n) => h2.rows.span hi)
  have HTOP := Lib.hid h2.top
  clear h2 ha2 hO HB
  obtain ⟨sm, hsm⟩ : ∃ sm, sm = sumN RN n := ⟨_, rfl⟩
  rw [← hsm] at C1 SZ
  have HSM := Lib.hid hsm
  clear hsm
  go_enter Try.func22, Try.ntmps22
  have x0 := BA.2.1 0 _ rfl
  have x1 := BA.2.1 1 _ rfl
  have x2 := BA.2.1 2 _ rfl
  have xz := BA.1
  go_wp2_with fail
  refine C1.out.mono ?_
  rintro e w1 ⟨rfl, hN, op⟩
  have o1 := op.only (lo := lo) (hi := hi) (fun g ⟨i, hi, hx⟩ => HS.out i hi g hx)
  have BA := BA.only o1 (by omega)
  have OB := Lib.hid (own_onlyP H2.out.basis op (fun g hg ⟨i, hi, hx⟩ => (HTOP.out g (by rwa [ownBlock_blk] at hg)).2.2 i hi hx))
  have O1 := Lib.hid (O0.out.trans o1)
  have HN := Lib.hid hN
  have HLE := Lib.hid (Nat.le_trans H2.out.le o1.size)
  clear o1 C1 O0 op hN H2
  have x0 := BA.2.1 0 _ rfl
  have x1 := BA.2.1 1 _ rfl
  have x2 := BA.2.1 2 _ rfl
  have xz := BA.1
  go_wp2_with fail
  refine (markIntS_own Y m d lo _ _ _ OB.out (by omega) (by omega) (by omega)).mono ?_
  rintro e w2 ⟨rfl, ow, hg⟩
  rw [marks_cells] at ow
  have o2 := Only.of_grown (lo := lo) (hi := hi) hg (fun g h => ⟨(ow.lt g h).1, (HTOP.out g (by rwa [ownBlock_blk] at h)).1⟩)
  have hN2 := Nest.off HN.out hg (fun g hx e => (HTOP.out g (by rw [← ownBlock_blk Y m d]; exact e)).2.1 hx) (fun i hi g hx e => (HTOP.out g (by rw [← ownBlock_blk Y m d]; exact e)).2.2 i hi hx)
  have O2 := Lib.hid (O1.out.trans o2)
  have HN2 := Lib.hid hN2
  have OW := Lib.hid ow
  have HLE2 := Lib.hid (Nat.le_trans HLE.out o2.size)
  clear o2 O1 ow hg hN2 HN HLE
  go_wp2
  go_ret
  rw [HSM.out] at OW ⊢
  exact ⟨rfl, ⟨HN2.out, OW.out, HTOP.out, HLE2.out⟩, O2.out⟩

theorem heldTab_any (X : Option Addr) (n c : Nat) (XA : Nat → Option Addr) (RN RC : Nat → Nat) (Y : Option Addr) (m d : Nat) (cols : Int) (lo hi : Nat) (k : Int) (w : World) (hO : OwnTab w lo hi X n c XA RN RC (fun i => marksV (k + 2 * (sumN RN i : Int))) Y m d (fun i => k + 2 * (sumN RN n : Int) + i)) (ha1 : n ≤ 1048576) (ha2 : ∀ j, j < n → RN j ≤ 1048576) (ha3 : m ≤ 1048576) (k0 : 0 ≤ k) (k1 : k ≤ 1048576) :
    Calls Try.prog 33 #[.agg #[.slice X n c, .slice Y m d, .int .i64 cols], .int .i64 k] w fun e w' => e = .returned (.int .i64 (k + 2 * (sumN RN n : Int) + m)) ∧ Below w.heap.size w w' := by
  have BA : Bx (w.alloc (.cells #[.slice X n c, .slice Y m d, .int .i64 cols] 30)) w.heap.size [.slice X n c, .slice Y m d, .int .i64 cols] := Bx.new w #[.slice X n c, .slice Y m d, .int .i64 cols] 30
  have HB : Below w.heap.size w (w.alloc (.cells #[.slice X n c, .slice Y m d, .int .i64 cols] 30)) := (Below.refl _ _).alloc (Nat.le_refl _) _
  have SZ := sumN_le (RN := RN) (n := n) (m := 1048576) ha2
  have SZ2 : n * 1048576 ≤ 1048576 * 1048576 := Nat.mul_le_mul_right _ ha1
  have h2 := hO.below HB
  have C1 := Lib.hid (heldRatSS_any X n c hi XA RN RC k (w.alloc (.cells #[.slice X n c, .slice Y m d, .int .i64 cols] 30)) h2.rds.1 ha1 ha2 k0 (by omega))
  have hbs : Rd (w.alloc (.cells #[.slice X n c, .slice Y m d, .int .i64 cols] 30)) hi 1 Y m (marks (k + 2 * (sumN RN n : Int)) m) := by
    rw [marks_cells]
    exact h2.rds.2
  clear h2 ha2 hO
  generalize sumN RN n = sm at C1 SZ hbs ⊢
  have C2 := Lib.hid (heldIntS_any Y m d hi (k + 2 * (sm : Int)) (w.alloc (.cells #[.slice X n c, .slice Y m d, .int .i64 cols] 30)) hbs (by omega) (by omega) (by omega))
  clear hbs
  have d1 := decide_eq_false (show ¬ (k + 2 * (sm : Int) < 0) by omega)
  have d2 := decide_eq_false (show ¬ (k + 2 * (sm : Int) + (m : Int) < 0) by omega)
  go_enter Try.func33, Try.ntmps33
  have x0 := BA.2.1 0 _ rfl
  have x1 := BA.2.1 1 _ rfl
  have x2 := BA.2.1 2 _ rfl
  have xz := BA.1
  go_wp2_with fail
  refine C1.out.mono ?_
  rintro e w1 ⟨rfl, rfl⟩
  go_wp2_with fail
  refine C2.out.mono ?_
  rintro e w2 ⟨rfl, rfl⟩
  go_wp2
  go_ret
  exact ⟨rfl, HB⟩

theorem markTab_only (X : Option Addr) (n c : Nat) (XA : Nat → Option Addr) (RN RC : Nat → Nat) (RV : Nat → Fr) (Y : Option Addr) (m d : Nat) (BV : Nat → Int) (cols : Int) (lo hi : Nat) (k : Int) (w : World) (hO : OwnTab w lo hi X n c XA RN RC RV Y m d BV) (ha1 : n ≤ 1048576) (ha2 : ∀ j, j < n → RN j ≤ 1048576) (ha3 : m ≤ 1048576) (k0 : 0 ≤ k) (k1 : k ≤ 1048576) :
    Calls Try.prog 22 #[.agg #[.slice X n c, .slice Y m d, .int .i64 cols], .int .i64 k] w fun e w' => ∃ v : Int, e = .returned (.int .i64 v) ∧ 0 ≤ v ∧ Only w w' lo hi := by
  refine (markTab_own X n c XA RN RC RV Y m d BV cols lo hi k w hO ha1 ha2 ha3 k0 k1).mono ?_
  rintro e w' ⟨rfl, _, h⟩
  exact ⟨_, rfl, by omega, h⟩

theorem markTab_lim (X : Option Addr) (n c : Nat) (XA : Nat → Option Addr) (RN RC : Nat → Nat) (RV : Nat → Fr) (Y : Option Addr) (m d : Nat) (BV : Nat → Int) (cols : Int) (lo hi : Nat) (k : Int) (w : World) (hO : OwnTab w lo hi X n c XA RN RC RV Y m d BV) (ha1 : n ≤ 1048576) (ha2 : ∀ j, j < n → RN j ≤ 1048576) (ha3 : m ≤ 1048576) (k0 : 0 ≤ k) (k1 : k ≤ 1048576) :
    Calls Try.prog 22 #[.agg #[.slice X n c, .slice Y m d, .int .i64 cols], .int .i64 k] w fun e w' => ∃ v : Int, e = .returned (.int .i64 v) ∧ 0 ≤ v ∧ v ≤ 1152921504606846976 ∧ Only w w' lo hi := by
  have SZ := sumN_le (RN := RN) (n := n) (m := 1048576) ha2
  have SZ2 : n * 1048576 ≤ 1048576 * 1048576 := Nat.mul_le_mul_right _ ha1
  refine (markTab_own X n c XA RN RC RV Y m d BV cols lo hi k w hO ha1 ha2 ha3 k0 k1).mono ?_
  rintro e w' ⟨rfl, _, h⟩
  exact ⟨_, rfl, by omega, by omega, h⟩

end Go.Proofs.Ytajafmdeencohaa
