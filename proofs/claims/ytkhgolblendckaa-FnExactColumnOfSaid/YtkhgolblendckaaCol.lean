/-
  Contracts of ColumnOf, of the program and of the reference.
-/
import Derived.Test.YtkhgolblendckaaLpFacts
namespace Go.Proofs.Ytkhgolblendckaa
open Go.RowKit
attribute [local go_sem ↓] Go.wp_at_zero Go.wp_at_succ

def colN (ok : Bool) (col : Int) (acn arn : Nat) : Nat := if (ok && Pl.within col 0 (acn - 1)) = true then arn else 0
def colV (aRV : Nat → Nat → Int) (col : Int) : Nat → Int := fun i => aRV i col.toNat
/-- the column, of the call's own -/
def OwnsCol (ok : Bool) (col : Int) (acn arn : Nat) (aRV : Nat → Nat → Int) (w : World) (e : Ending) (w' : World) : Prop :=
  ∃ v, e = .returned v ∧ w'.ownsRow w.heap.size 3 1 v (colN ok col acn arn) (cellsI (colV aRV col) (colN ok col acn arn)) ∧ Below w.heap.size w w'

theorem bx_low {B : Nat} {w w' : World} {g : Nat} {vs : List Value} (h : Bx w g vs) (hb : Below B w w') (hg : g < B) : Bx w' g vs :=
  ⟨Nat.lt_of_lt_of_le h.1 hb.size, fun j v hv => (hb.cell (p := ⟨g, j, none⟩) hg).trans (h.2.1 j v hv), fun j => (hb.frozen (p := ⟨g, j, none⟩) hg).trans (h.2.2 j)⟩

theorem column_any (aR aBs aCs : Option Addr) (arn arc abn abc acn acc : Nat) (aRA : Nat → Option Addr) (aRN aRC : Nat → Nat) (aRV : Nat → Nat → Int) (jj : Nat) (B : Nat) (w : World) (arr : RdI w B aR arn aRA aRN aRC aRV) (hB : B ≤ w.heap.size) (ha1 : arn ≤ 1048576) (hrn : ∀ i, i < arn → aRN i = acn) (hjj : jj < acn) :
    Calls Try.prog 68 #[.agg #[.slice aR arn arc, .slice aBs abn abc, .slice aCs acn acc], .int .i64 jj] w fun e w' => ∃ v, e = .returned v ∧ w'.ownsRow w.heap.size 3 1 v arn (cellsI (colV aRV jj) arn) ∧ Below w.heap.size w w' := by
  have BA0 := Lib.hid (show Bx (w.alloc (.cells #[.slice aR arn arc, .slice aBs abn abc, .slice aCs acn acc] 61)) w.heap.size [.slice aR arn arc, .slice aBs abn abc, .slice aCs acn acc] from Bx.new w #[.slice aR arn arc, .slice aBs abn abc, .slice aCs acn acc] 61)
  have HB0 := Lib.hid (show Below w.heap.size w (w.alloc (.cells #[.slice aR arn arc, .slice aBs abn abc, .slice aCs acn acc] 61)) from (Below.refl _ _).alloc (Nat.le_refl _) _)
  have ARH := Lib.hid arr
  have HRN := Lib.hid hrn
  clear arr hrn
  have x0 := BA0.out.2.1 0 _ rfl
  have HO := Lib.hid (World.ownsRow_made (w.alloc (.cells #[.slice aR arn arc, .slice aBs abn abc, .slice aCs acn acc] 61)) #[] 0 (base := w.heap.size + 1) (by simp) (by decide) rfl (e := 3) (size := 1))
  have HST := Lib.hid ((Below.refl (w.heap.size + 1) (w.alloc (.cells #[.slice aR arn arc, .slice aBs abn abc, .slice aCs acn acc] 61))).alloc (by simp) (.cells #[] 3))
  have HWS := Lib.hid (show w.heap.size + 1 ≤ (w.alloc (.cells #[.slice aR arn arc, .slice aBs abn abc, .slice aCs acn acc] 61)).heap.size by simp)
  go_enter Try.func68, Try.ntmps68
  go_wp2
  have BA1 := BA0
  have HB1 := HB0
  clear BA0 HB0 x0
  obtain ⟨W1, e1⟩ : ∃ W1, W1 = (w.alloc (.cells #[.slice aR arn arc, .slice aBs abn abc, .slice aCs acn acc] 61)) := ⟨_, rfl⟩
  rw [← e1] at BA1 HB1 HWS
  have HST : Hid (Below (w.heap.size + 1) W1 ((w.alloc (.cells #[.slice aR arn arc, .slice aBs abn abc, .slice aCs acn acc] 61)).alloc (.cells #[] 3))) := by rw [e1]; exact HST
  clear e1
  go_loopw [5, 7, 12] (fun o v7 u wr => ∃ k : Nat, k ≤ arn ∧ u = .int .i64 k ∧ wr.ownsRow (w.heap.size + 1) 3 1 o k (cellsI (colV aRV jj) k) ∧ Below (w.heap.size + 1) W1 wr) (fun _ _ u _ => arn - (intOf u).toNat)
  case atStart => exact ⟨0, Nat.zero_le _, rfl, by rw [cellsI_nil]; simpa using HO.out, HST.out⟩
  case round =>
    obtain ⟨k, hk, rfl, hown, hbw⟩ := hrel
    have hsz : w.heap.size + 1 ≤ wr.heap.size := Nat.le_trans HWS.out hbw.size
    have BA := bx_low BA1.out hbw (Nat.lt_succ_self _)
    have hb := HB1.out.trans (hbw.mono (Nat.le_succ _))
    have x0 := BA.2.1 0 _ rfl
    by_cases hlt : k < arn
    · obtain ⟨b1, o1, rfl, hb1, hc1⟩ := ARH.out.1 (by omega)
      have x1 := (hb.cell (p := ⟨b1, o1 + k, none⟩) (by exact Nat.lt_of_lt_of_le hb1 hB)).trans (hc1 k hlt)
      have hrn := HRN.out k hlt
      obtain ⟨b2, o2, e2, hb2, hc2⟩ := (ARH.out.2 k hlt).2 (by omega)
      have x2 := (hb.cell (p := ⟨b2, o2 + jj, none⟩) (by exact Nat.lt_of_lt_of_le hb2 hB)).trans (hc2 jj _ (cellsI_at (aRV k) (by omega)))
      rw [e2, hrn] at x1
      have HSN := Lib.hid (cellsI_snoc (colV aRV (jj : Int)) k)
      obtain ⟨xk, ek⟩ : ∃ x, x = aRV k jj := ⟨_, rfl⟩
      rw [show colV aRV (jj : Int) k = aRV k jj from by simp [colV], ← ek] at HSN
      rw [← ek] at x2
      have k0 : (0 : Int) ≤ (k : Int) := by omega
      have k1 : (k : Int) < (arn : Int) := by omega
      have j0 : (0 : Int) ≤ (jj : Int) := by omega
      have j1 : (jj : Int) < (acn : Int) := by omega
      have HBW := Lib.hid hbw
      clear hc1 hc2 e2 hrn ek hbw hb BA
      go_wp2_with (at_builtin; refine wpList_push _ rfl _ _ 30 rfl (w.heap.size + 1) 3 (.int .i64 0) 1 8 Try.underlying30 infoInt rfl (by decide) _ _ _ rfl hown [.int .i64 xk] rfl rfl (by simp [Value.oneCell']) (by decide) (by omega) hsz ?_)
      intro v' w' hown' hk'
      have hb' := Lib.hid (hk' _ _ (Nat.le_refl _) HBW.out)
      clear hk' HBW
      rw [HSN.out] at hown'
      go_wp2
      go_roundw
      case rel => exact ⟨k + 1, by omega, by go_num, hown', hb'.out⟩
      case measure => simp [intOf]; omega
    · obtain rfl : k = arn := by omega
      have HO := Lib.hid (own_low hown (Nat.le_succ _))
      clear hown
      go_wp2
      go_ret
      exact ⟨_, rfl, HO.out, hb⟩

theorem iCol_any (aR aBs aCs : Option Addr) (arn arc abn abc acn acc : Nat) (aRA : Nat → Option Addr) (aRN aRC : Nat → Nat) (aRV : Nat → Nat → Int) (aBV : Nat → Int) (aCV : Fr) (col : Int) (hcol : (Lit.int .i64 col).wf = true) (B : Nat) (w : World) (arr : RdI w B aR arn aRA aRN aRC aRV) (abb : Rd w B 1 aBs abn (cellsI aBV abn)) (acr : RdP w B aCs acn aCV) (hB : B ≤ w.heap.size) (ha1 : arn ≤ 1048576) (ha2 : ∀ j, j < arn → aRN j ≤ 1048576) (ha3 : abn ≤ 1048576) (ha4 : acn ≤ 1048576) :
    Calls Try.prog 43 #[.agg #[.slice aR arn arc, .slice aBs abn abc, .slice aCs acn acc], .int .i64 col] w (OwnsCol (Pl.validLP acn arn aRN aRV abn aBV aCV) col acn arn aRV w) := by
  obtain ⟨cl1, cl2⟩ := Pl.bounds hcol
  clear hcol
  have BA : Bx (w.alloc (.cells #[.slice aR arn arc, .slice aBs abn abc, .slice aCs acn acc] 61)) w.heap.size [.slice aR arn arc, .slice aBs abn abc, .slice aCs acn acc] := Bx.new w #[.slice aR arn arc, .slice aBs abn abc, .slice aCs acn acc] 61
  have HB : Below w.heap.size w (w.alloc (.cells #[.slice aR arn arc, .slice aBs abn abc, .slice aCs acn acc] 61)) := (Below.refl _ _).alloc (Nat.le_refl _) _
  have C1 := Lib.hid (iValidLP_any aR aBs aCs arn arc abn abc acn acc aRA aRN aRC aRV aBV aCV B (w.alloc (.cells #[.slice aR arn arc, .slice aBs abn abc, .slice aCs acn acc] 61)) (arr.below HB hB) (abb.below' HB hB) (acr.below HB hB) (Nat.le_trans hB HB.size) ha1 ha2 ha3 ha4)
  have C2 := Lib.hid (fun wx (H : Below w.heap.size w wx) jj h1 h2 => column_any aR aBs aCs arn arc abn abc acn acc aRA aRN aRC aRV jj B wx (arr.below H hB) (Nat.le_trans hB H.size) ha1 h1 h2)
  unfold OwnsCol colN
  clear abb acr ha2
  cases hv : Pl.validLP acn arn aRN aRV abn aBV aCV
  · rw [hv] at C1
    simp only [Bool.false_and, Bool.false_eq_true, if_false]
    clear hv arr C2
    have x0 := BA.2.1 0 _ rfl
    have x1 := BA.2.1 1 _ rfl
    have x2 := BA.2.1 2 _ rfl
    go_enter Try.func43, Try.ntmps43
    go_wp2_with fail
    refine C1.out.mono ?_
    rintro e w1 ⟨rfl, hb⟩
    have HB := HB.trans (hb.mono HB.size)
    go_wp2
    go_ret
    exact ⟨_, rfl, World.ownsRow_nil _ _ _ _, HB⟩
  · rw [hv] at C1
    have q := Pl.lpFacts hv
    have HRN := Lib.hid (fun i hi => (q.2.2.2.1 i hi).1)
    have hc70 := q.1
    clear q hv
    simp only [Bool.true_and]
    have CW := Lib.hid (fun wx => within_any col 0 ((acn : Int) - 1) wx)
    cases hw : Pl.within col 0 ((acn : Int) - 1)
    · rw [hw] at CW
      simp only [Bool.false_eq_true, if_false]
      clear hw C2
      have x0 := BA.2.1 0 _ rfl
      have x1 := BA.2.1 1 _ rfl
      have x2 := BA.2.1 2 _ rfl
      go_enter Try.func43, Try.ntmps43
      go_wp2_with fail
      refine C1.out.mono ?_
      rintro e w1 ⟨rfl, hb⟩
      have BA := BA.below hb
      have HB := HB.trans (hb.mono HB.size)
      clear hb C1 x0 x1 x2
      have x2 := BA.2.1 2 _ rfl
      go_wp2_with fail
      refine (CW.out _).mono ?_
      rintro e w2 ⟨rfl, rfl⟩
      go_wp2
      go_ret
      exact ⟨_, rfl, World.ownsRow_nil _ _ _ _, HB⟩
    · have hwi := Pl.within_iff.1 hw
      rw [hw] at CW
      simp only [if_true]
      obtain ⟨jj, rfl⟩ : ∃ jj : Nat, col = (jj : Int) := ⟨col.toNat, by omega⟩
      have hjj : jj < acn := by omega
      clear hw hwi
      have x0 := BA.2.1 0 _ rfl
      have x1 := BA.2.1 1 _ rfl
      have x2 := BA.2.1 2 _ rfl
      go_enter Try.func43, Try.ntmps43
      go_wp2_with fail
      refine C1.out.mono ?_
      rintro e w1 ⟨rfl, hb⟩
      have BA := BA.below hb
      have HB := HB.trans (hb.mono HB.size)
      clear hb C1 x0 x1 x2
      have x0 := BA.2.1 0 _ rfl
      have x1 := BA.2.1 1 _ rfl
      have x2 := BA.2.1 2 _ rfl
      go_wp2_with fail
      refine (CW.out _).mono ?_
      rintro e w2 ⟨rfl, rfl⟩
      have C3 := Lib.hid (C2.out w1 HB jj HRN.out hjj)
      clear C2 CW
      go_wp2_with fail
      refine C3.out.mono ?_
      rintro e w3 ⟨v, rfl, ow, hb⟩
      have OW := Lib.hid (own_low ow HB.size)
      have HB := HB.trans (hb.mono HB.size)
      clear ow hb C3
      go_wp2
      go_ret
      exact ⟨_, rfl, OW.out, HB⟩

theorem sCol_any (aR aBs aCs : Option Addr) (arn arc abn abc acn acc : Nat) (aRA : Nat → Option Addr) (aRN aRC : Nat → Nat) (aRV : Nat → Nat → Int) (aBV : Nat → Int) (aCV : Fr) (col : Int) (hcol : (Lit.int .i64 col).wf = true) (B : Nat) (w : World) (arr : RdI w B aR arn aRA aRN aRC aRV) (abb : Rd w B 1 aBs abn (cellsI aBV abn)) (acr : RdP w B aCs acn aCV) (hB : B ≤ w.heap.size) (ha1 : arn ≤ 1048576) (ha2 : ∀ j, j < arn → aRN j ≤ 1048576) (ha3 : abn ≤ 1048576) (ha4 : acn ≤ 1048576) :
    Calls Try.prog 42 #[.agg #[.slice aR arn arc, .slice aBs abn abc, .slice aCs acn acc], .int .i64 col] w (OwnsCol (Pl.validLP acn arn aRN aRV abn aBV aCV) col acn arn aRV w) := by
  obtain ⟨cl1, cl2⟩ := Pl.bounds hcol
  clear hcol
  have BA0 := Lib.hid (show Bx (w.alloc (.cells #[.slice aR arn arc, .slice aBs abn abc, .slice aCs acn acc] 61)) w.heap.size [.slice aR arn arc, .slice aBs abn abc, .slice aCs acn acc] from Bx.new w #[.slice aR arn arc, .slice aBs abn abc, .slice aCs acn acc] 61)
  have HB0 := Lib.hid (show Below w.heap.size w (w.alloc (.cells #[.slice aR arn arc, .slice aBs abn abc, .slice aCs acn acc] 61)) from (Below.refl _ _).alloc (Nat.le_refl _) _)
  have x0 := BA0.out.2.1 0 _ rfl
  have x1 := BA0.out.2.1 1 _ rfl
  have x2 := BA0.out.2.1 2 _ rfl
  have HO := Lib.hid (World.ownsRow_made (w.alloc (.cells #[.slice aR arn arc, .slice aBs abn abc, .slice aCs acn acc] 61)) #[] 0 (base := w.heap.size + 1) (by simp) (by decide) rfl (e := 3) (size := 1))
  have HST := Lib.hid ((Below.refl (w.heap.size + 1) (w.alloc (.cells #[.slice aR arn arc, .slice aBs abn abc, .slice aCs acn acc] 61))).alloc (by simp) (.cells #[] 3))
  have BA := BA0.out.alloc (.cells #[] 3)
  have HB := HB0.out.alloc HB0.out.size (.cells #[] 3)
  have HWS := Lib.hid (show w.heap.size + 1 ≤ (w.alloc (.cells #[.slice aR arn arc, .slice aBs abn abc, .slice aCs acn acc] 61)).heap.size by simp)
  obtain ⟨W1, e1⟩ : ∃ W1, W1 = (w.alloc (.cells #[.slice aR arn arc, .slice aBs abn abc, .slice aCs acn acc] 61)).alloc (.cells #[] 3) := ⟨_, rfl⟩
  have HO2 : W1.ownsRow (w.heap.size + 1) 3 1 (.slice (some ⟨w.heap.size + 1, 0, none⟩) 0 0) 0 [] := by
    have h := HO.out
    rw [← e1] at h
    simpa using h
  have HSZ : w.heap.size + 1 ≤ W1.heap.size := by rw [e1]; simp
  rw [← e1] at BA HB
  have C1 := Lib.hid (sValidLP_any aR aBs aCs arn arc abn abc acn acc aRA aRN aRC aRV aBV aCV B W1 (arr.below HB hB) (abb.below' HB hB) (acr.below HB hB) (Nat.le_trans hB HB.size) ha1 ha2 ha3 ha4)
  have ARH := Lib.hid arr
  unfold OwnsCol colN
  clear arr abb acr ha2 HO HST BA0 HB0 x0 x1 x2 HWS
  have E1 := Lib.hid e1
  clear e1
  have HOH := Lib.hid HO2
  clear HO2
  have RS : Hid (∀ {x : World}, x = (w.alloc (.cells #[.slice aR arn arc, .slice aBs abn abc, .slice aCs acn acc] 61)).alloc (.cells #[] 3) → x = W1) := fun h => h.trans E1.out.symm
  cases hv : Pl.validLP acn arn aRN aRV abn aBV aCV
  · rw [hv] at C1
    simp only [Bool.false_and, Bool.false_eq_true, if_false]
    clear hv
    have x0 := BA.2.1 0 _ rfl
    have x1 := BA.2.1 1 _ rfl
    have x2 := BA.2.1 2 _ rfl
    rw [E1.out] at x0 x1 x2
    go_enter Try.func42, Try.ntmps42
    go_wp2_with fail
    rw [← E1.out]
    refine C1.out.mono ?_
    rintro e w1 ⟨rfl, hb⟩
    have OW := Lib.hid (own_low (own_below HOH.out hb) (Nat.le_succ w.heap.size))
    have HB := HB.trans (hb.mono HB.size)
    clear hb
    go_wp2
    go_ret
    exact ⟨_, rfl, OW.out, HB⟩
  · rw [hv] at C1
    have q := Pl.lpFacts hv
    have HRN := Lib.hid (fun i hi => (q.2.2.2.1 i hi).1)
    have hc70 := q.1
    clear q hv
    simp only [Bool.true_and]
    have CW := Lib.hid (fun wx => l1In_any col 0 ((acn : Int) - 1) wx)
    cases hw : Pl.within col 0 ((acn : Int) - 1)
    · rw [hw] at CW
      simp only [Bool.false_eq_true, if_false]
      clear hw
      have x0 := BA.2.1 0 _ rfl
      have x1 := BA.2.1 1 _ rfl
      have x2 := BA.2.1 2 _ rfl
      rw [E1.out] at x0 x1 x2
      go_enter Try.func42, Try.ntmps42
      go_wp2_with fail
      rw [← E1.out]
      refine C1.out.mono ?_
      rintro e w1 ⟨rfl, hb⟩
      have OW := Lib.hid (own_low (own_below HOH.out hb) (Nat.le_succ w.heap.size))
      have BA := BA.below hb
      have HB := HB.trans (hb.mono HB.size)
      clear hb C1 x0 x1 x2
      have x2 := BA.2.1 2 _ rfl
      go_wp2_with fail
      refine (CW.out _).mono ?_
      rintro e w2 ⟨rfl, rfl⟩
      go_wp2
      go_ret
      exact ⟨_, rfl, OW.out, HB⟩
    · have hwi := Pl.within_iff.1 hw
      rw [hw] at CW
      simp only [if_true]
      obtain ⟨jj, rfl⟩ : ∃ jj : Nat, col = (jj : Int) := ⟨col.toNat, by omega⟩
      have hjj : jj < acn := by omega
      clear hw hwi
      have x0 := BA.2.1 0 _ rfl
      have x1 := BA.2.1 1 _ rfl
      have x2 := BA.2.1 2 _ rfl
      rw [E1.out] at x0 x1 x2
      go_enter Try.func42, Try.ntmps42
      go_wp2_with fail
      rw [← E1.out]
      refine C1.out.mono ?_
      rintro e w1 ⟨rfl, hb⟩
      have OW := Lib.hid (own_below HOH.out hb)
      have BA1 := Lib.hid (BA.below hb)
      have HB1 := Lib.hid (HB.trans (hb.mono HB.size))
      have HWS := Lib.hid (Nat.le_trans HSZ hb.size)
      clear hb C1 x0 x1 x2 BA HB HSZ
      have x2 := BA1.out.2.1 2 _ rfl
      go_wp2_with fail
      refine (CW.out _).mono ?_
      rintro e w2 ⟨rfl, rfl⟩
      clear CW x2 E1 RS HOH
      go_wp2
      go_loopw [5, 6] (fun o u wr => ∃ k : Nat, k ≤ arn ∧ u = .int .i64 k ∧ wr.ownsRow (w.heap.size + 1) 3 1 o k (cellsI (colV aRV jj) k) ∧ Below (w.heap.size + 1) w1 wr) (fun _ u _ => arn - (intOf u).toNat)
      case atStart => exact ⟨0, Nat.zero_le _, rfl, OW.out, Below.refl _ _⟩
      case round =>
        obtain ⟨k, hk, rfl, hown, hbw⟩ := hrel
        have hsz : w.heap.size + 1 ≤ wr.heap.size := Nat.le_trans HWS.out hbw.size
        have BA := bx_low BA1.out hbw (Nat.lt_succ_self _)
        have hb := HB1.out.trans (hbw.mono (Nat.le_succ _))
        have x0 := BA.2.1 0 _ rfl
        by_cases hlt : k < arn
        · obtain ⟨b1, o1, rfl, hb1, hc1⟩ := ARH.out.1 (by omega)
          have x1 := (hb.cell (p := ⟨b1, o1 + k, none⟩) (by exact Nat.lt_of_lt_of_le hb1 hB)).trans (hc1 k hlt)
          have hrn := HRN.out k hlt
          obtain ⟨b2, o2, e2, hb2, hc2⟩ := (ARH.out.2 k hlt).2 (by omega)
          have x2 := (hb.cell (p := ⟨b2, o2 + jj, none⟩) (by exact Nat.lt_of_lt_of_le hb2 hB)).trans (hc2 jj _ (cellsI_at (aRV k) (by omega)))
          rw [e2, hrn] at x1
          have HSN := Lib.hid (cellsI_snoc (colV aRV (jj : Int)) k)
          obtain ⟨xk, ek⟩ : ∃ x, x = aRV k jj := ⟨_, rfl⟩
          rw [show colV aRV (jj : Int) k = aRV k jj from by simp [colV], ← ek] at HSN
          rw [← ek] at x2
          have k0 : (0 : Int) ≤ (k : Int) := by omega
          have k1 : (k : Int) < (arn : Int) := by omega
          have j0 : (0 : Int) ≤ (jj : Int) := by omega
          have j1 : (jj : Int) < (acn : Int) := by omega
          have HBW := Lib.hid hbw
          clear hc1 hc2 e2 hrn ek hbw hb BA
          go_wp2_with (at_builtin; refine wpList_push _ rfl _ _ 30 rfl (w.heap.size + 1) 3 (.int .i64 0) 1 8 Try.underlying30 infoInt rfl (by decide) _ _ _ rfl hown [.int .i64 xk] rfl rfl (by simp [Value.oneCell']) (by decide) (by omega) hsz ?_)
          intro v' w' hown' hk'
          have hb' := Lib.hid (hk' _ _ (Nat.le_refl _) HBW.out)
          clear hk' HBW
          rw [HSN.out] at hown'
          go_wp2
          go_roundw
          case rel => exact ⟨k + 1, by omega, by go_num, hown', hb'.out⟩
          case measure => simp [intOf]; omega
        · obtain rfl : k = arn := by omega
          have HO := Lib.hid (own_low hown (Nat.le_succ _))
          clear hown
          go_wp2
          go_ret
          exact ⟨_, rfl, HO.out, hb⟩
end Go.Proofs.Ytkhgolblendckaa
