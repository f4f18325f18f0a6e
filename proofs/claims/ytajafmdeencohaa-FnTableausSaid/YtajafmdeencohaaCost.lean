/-
  Contracts of CostRow, of the program and of the reference.
-/
import Derived.Test.YtajafmdeencohaaForm
import Derived.Test.YtajafmdeencohaaClone
import Derived.Test.YtajafmdeencohaaAddSc
namespace Go.Proofs.Ytajafmdeencohaa
open Go.RowKit
attribute [local go_sem ↓] Go.wp_at_zero Go.wp_at_succ

namespace Pl
/-- the cost row after the first k rows: t is where the value stands -/
def costV (C : Fr) (aBV : Nat → Int) (aRV : Nat → Fr) (t : Nat) : Nat → Fr
  | 0 => upd C t (0, 1)
  | k + 1 => scV (costV C aBV aRV t k) (ng (C (aBV k).toNat).1) (C (aBV k).toNat).2 (aRV k)
def costAll (C : Fr) (aBV : Nat → Int) (aRV : Nat → Fr) (t : Nat) : Nat → Bool
  | 0 => true
  | k + 1 => costAll C aBV aRV t k && scAll (costV C aBV aRV t k) (ng (C (aBV k).toNat).1) (C (aBV k).toNat).2 (aRV k) (t + 1)
theorem costAll_no {C : Fr} {aBV : Nat → Int} {aRV : Nat → Fr} {t k n : Nat} (h : scAll (costV C aBV aRV t k) (ng (C (aBV k).toNat).1) (C (aBV k).toNat).2 (aRV k) (t + 1) = false) (hn : k < n) : costAll C aBV aRV t n = false := by
  induction n with
  | zero => omega
  | succ n ih =>
    rw [costAll]
    by_cases e : k = n
    · subst e
      rw [h, Bool.and_false]
    · rw [ih (by omega), Bool.false_and]
theorem scOk_same (n : Nat) (V1 : Fr) (x y : Int) (V2 : Fr) : scOk n V1 x y n V2 = scAll V1 x y V2 n := by simp [scOk]
def costOk (cols : Int) (arn : Nat) (aRN : Nat → Nat) (abn : Nat) (aBV : Nat → Int) (aRV : Nat → Fr) (n : Nat) (C : Fr) : Bool :=
  form cols arn aRN abn aBV && ((n : Int) == cols + arn) && okTo C n && costAll C aBV aRV n arn
end Pl
theorem bx_low3 {B : Nat} {w w' : World} {g : Nat} {vs : List Value} (h : Bx w g vs) (hb : Below B w w') (hg : g < B) : Bx w' g vs :=
  ⟨Nat.lt_of_lt_of_le h.1 hb.size, fun j v hv => (hb.cell (p := ⟨g, j, none⟩) hg).trans (h.2.1 j v hv), fun j => (hb.frozen (p := ⟨g, j, none⟩) hg).trans (h.2.2 j)⟩
theorem ret_sc {ok : Bool} {v : Value} {V : Fr} {n : Nat} {w w' : World} {b : Bool} (hb : ok = b) (h : w'.ownsRow w.heap.size 66 2 v (if b then n else 0) (cellsV V (if b then n else 0))) (hw : Below w.heap.size w w') : OwnsSc ok V n w (.returned (.tuple #[v, .bool b])) w' := by
  subst hb
  exact ⟨v, rfl, h, hw⟩

set_option maxHeartbeats 2000000 in
theorem iCost_any (aR aBs : Option Addr) (arn arc abn abc : Nat) (acols : Int) (aRA : Nat → Option Addr) (aRN aRC : Nat → Nat) (aRV : Nat → Fr) (aBV : Nat → Int) (A : Option Addr) (n c : Nat) (V : Fr) (B : Nat) (w : World) (arr : RdR w B aR arn aRA aRN aRC aRV) (abb : Rd w B 1 aBs abn (cellsI aBV abn)) (hv : RdP w B A n V) (hB : B ≤ w.heap.size) (ha1 : arn ≤ 1048576) (ha2 : ∀ j, j < arn → aRN j ≤ 1048576) (ha3 : abn ≤ 1048576) (hn : n ≤ 1048576) (hA : A = none → n = 0 ∧ c = 0) :
    Calls Try.prog 26 #[.agg #[.slice aR arn arc, .slice aBs abn abc, .int .i64 acols], .slice A n c] w (OwnsSc (Pl.costOk acols arn aRN abn aBV aRV n V) (Pl.costV V aBV aRV n arn) (n + 1) w) := by
  have BA0 := Lib.hid (show Bx (w.alloc (.cells #[.slice aR arn arc, .slice aBs abn abc, .int .i64 acols] 30)) w.heap.size [.slice aR arn arc, .slice aBs abn abc, .int .i64 acols] from Bx.new w #[.slice aR arn arc, .slice aBs abn abc, .int .i64 acols] 30)
  have HB0 := Lib.hid (show Below w.heap.size w (w.alloc (.cells #[.slice aR arn arc, .slice aBs abn abc, .int .i64 acols] 30)) from (Below.refl _ _).alloc (Nat.le_refl _) _)
  have C1 := Lib.hid (formed_any aR aBs arn arc abn abc acols aRA aRN aRC aRV aBV B (w.alloc (.cells #[.slice aR arn arc, .slice aBs abn abc, .int .i64 acols] 30)) (arr.below HB0.out hB) (abb.below' HB0.out hB) (Nat.le_trans hB HB0.out.size) ha1 ha3)
  have VV := Lib.hid (fun wx (H : Below w.heap.size w wx) => iAllValid_any A n c B V wx (hv.below H hB) (Nat.le_trans hB H.size) (by omega))
  have CC := Lib.hid (fun wx (H : Below w.heap.size w wx) => clone_any A n c B V wx (hv.below H hB) (Nat.le_trans hB H.size) hn hA)
  have BA := BA0.out
  have x0 := BA.2.1 0 _ rfl
  have x1 := BA.2.1 1 _ rfl
  have x2 := BA.2.1 2 _ rfl
  cases hf : Pl.form acols arn aRN abn aBV
  · rw [hf] at C1
    have HH : Pl.costOk acols arn aRN abn aBV aRV n V = false := by rw [Pl.costOk, hf]; rfl
    rw [HH]
    clear HH hf arr abb ha2 ha3 hv VV CC hA
    go_enter Try.func26, Try.ntmps26
    go_wp2_with fail
    refine C1.out.mono ?_
    rintro e w1 ⟨rfl, hb⟩
    have HB := HB0.out.trans (hb.mono HB0.out.size)
    go_wp2
    go_ret2
    exact ret_sc rfl (World.ownsRow_nil _ _ _ _) HB
  · rw [hf] at C1
    obtain ⟨m, rfl, hm, hba, hbv, hrn⟩ := Pl.formFacts hf
    have HRN := Lib.hid hrn
    have HBV := Lib.hid hbv
    have ABH := Lib.hid abb
    have ARH := Lib.hid arr
    have HVH := Lib.hid hv
    have HA2 := Lib.hid ha2
    have hba := hba.symm
    subst hba
    clear hbv hrn arr abb hv ha2 ha3
    by_cases hq : n = m + arn
    · have q1 : ((n : Int) == (m : Int) + (arn : Int)) = true := beq_iff_eq.2 (by omega)
      have q2 : ((n : Int) != (m : Int) + (arn : Int)) = false := by rw [bne, q1]; rfl
      have HOK : Hid (Pl.costOk (m : Int) arn aRN arn aBV aRV n V = (Pl.okTo V n && Pl.costAll V aBV aRV n arn)) := Lib.hid (by rw [Pl.costOk, hf, q1]; rfl)
      have HNN := Lib.hid hq
      clear hf hq
      go_enter Try.func26, Try.ntmps26
      go_wp2_with fail
      refine C1.out.mono ?_
      rintro e w0 ⟨rfl, hb⟩
      have BA := BA.below hb
      have HB := HB0.out.trans (hb.mono HB0.out.size)
      clear x0 x1 x2 hb C1 BA0 HB0
      have x0 := BA.2.1 0 _ rfl
      have x2 := BA.2.1 2 _ rfl
      have AV := Lib.hid (VV.out w0 HB)
      clear VV
      generalize Pl.okTo V n = vo at AV HOK
      cases vo
      · have H26 := Lib.hid (HOK.out.trans (Bool.false_and _))
        clear HOK CC hA
        go_wp2_with fail
        refine AV.out.mono ?_
        rintro e w1 ⟨rfl, hb⟩
        have HB := HB.trans (hb.mono HB.size)
        clear hb AV
        go_wp2
        go_ret2
        exact ret_sc H26.out (World.ownsRow_nil _ _ _ _) HB
      · have HEQ := Lib.hid (HOK.out.trans (Bool.true_and _))
        clear HOK hA
        go_wp2_with fail
        refine AV.out.mono ?_
        rintro e w1 ⟨rfl, hb⟩
        have BA := BA.below hb
        have HB := HB.trans (hb.mono HB.size)
        clear hb AV x0 x2 q1 q2
        have x0 := BA.2.1 0 _ rfl
        have x2 := BA.2.1 2 _ rfl
        have HSZ1 : w.heap.size + 1 ≤ w1.heap.size := BA.1
        go_wp2_with fail
        refine (CC.out w1 HB).mono ?_
        rintro e w2 ⟨v, rfl, ow, hb⟩
        have hown := own_low ow HSZ1
        have BA := BA.below hb
        have HB := HB.trans (hb.mono HB.size)
        have hsz := Nat.le_trans HSZ1 hb.size
        clear ow hb CC x0 x2 HSZ1
        go_wp2_with fail
        refine (whole_any _ _).mono ?_
        rintro e w3 ⟨rfl, hb⟩
        have hown := own_below hown hb
        have BA := BA.below hb
        have HB := HB.trans (hb.mono HB.size)
        have hsz := Nat.le_trans hsz hb.size
        clear hb
        have BA3 := Lib.hid BA
        have HB3 := Lib.hid HB
        clear BA HB
        go_wp2_with (at_builtin; refine wpList_push _ rfl _ _ 36 rfl (w.heap.size + 1) 66 (.agg #[.int .i64 0, .int .i64 0]) 2 16 Try.underlying36 infoRat rfl (by decide) _ _ _ rfl hown [.int .i64 0, .int .i64 1] rfl rfl (by simp [Value.oneCell']) (by decide) (by omega) hsz ?_)
        intro v' w' hown' hk'
        have hb' := hk' _ _ (Nat.le_refl _) (Below.refl (w.heap.size + 1) w3)
        rw [cellsV_snoc] at hown'
        have BA := bx_low3 BA3.out hb' (Nat.lt_succ_self _)
        have HB := HB3.out.trans (hb'.mono (Nat.le_succ _))
        have hsz := Nat.le_trans hsz hb'.size
        clear hk' hown BA3 HB3 hb'
        have x0 := BA.2.1 0 _ rfl
        have HWH := Lib.hid hown'
        obtain ⟨W1, e1⟩ : ∃ W1, W1 = w' := ⟨_, rfl⟩
        have BA1 : Hid (Bx W1 w.heap.size [.slice aR arn arc, .slice aBs arn abc, .int .i64 (m : Int)]) := Lib.hid (by rw [e1]; exact BA)
        have HB1 : Hid (Below w.heap.size w W1) := Lib.hid (by rw [e1]; exact HB)
        have HST1 : Hid (Below (w.heap.size + 1) W1 w') := Lib.hid (by rw [e1]; exact Below.refl _ _)
        have HSZ1 : Hid (w.heap.size + 1 ≤ W1.heap.size) := Lib.hid (by rw [e1]; exact hsz)
        clear hown' BA HB hsz
        go_wp2
        clear x0
        go_loopw [6, 7, 8, 9, 10, 38] (fun o _ _ _ _ u wr => ∃ k : Nat, k ≤ arn ∧ u = .int .i64 k ∧ Hid (Pl.costAll V aBV aRV n k = true) ∧ wr.ownsRow (w.heap.size + 1) 66 2 o (n + 1) (cellsV (Pl.costV V aBV aRV n k) (n + 1)) ∧ Below (w.heap.size + 1) W1 wr) (fun _ _ _ _ _ u _ => arn - (intOf u).toNat)
        case atStart => exact ⟨0, Nat.zero_le _, rfl, Lib.hid rfl, HWH.out, HST1.out⟩
        case round =>
          obtain ⟨k, hk, rfl, he, hown, hbw⟩ := hrel
          have BA := bx_low3 BA1.out hbw (Nat.lt_succ_self _)
          have hb := HB1.out.trans (hbw.mono (Nat.le_succ _))
          have x1 := BA.2.1 1 _ rfl
          by_cases hlt : k < arn
          · have hsz := Nat.le_trans HSZ1.out hbw.size
            obtain ⟨AO, co, rfl⟩ := own_form hown
            have HBW := Lib.hid hbw
            obtain ⟨b1, o1, rfl, hb1, hc1⟩ := ARH.out.1 (by omega)
            obtain ⟨b2, o2, rfl, hb2, hc2⟩ := ABH.out.2 (by omega)
            have x3 := (hb.cell (p := ⟨b1, o1 + k, none⟩) (by exact Nat.lt_of_lt_of_le hb1 hB)).trans (hc1 k hlt)
            have x4 := (hb.cell (p := ⟨b2, o2 + k, none⟩) (by exact Nat.lt_of_lt_of_le hb2 hB)).trans (hc2 k _ (cellsI_at aBV hlt))
            have hrn := HRN.out k hlt
            have hz := HA2.out k hlt
            have hbv := HBV.out k hlt
            have hnn := HNN.out
            obtain ⟨q, hq⟩ : ∃ q : Nat, aBV k = (q : Int) := ⟨(aBV k).toNat, by omega⟩
            rw [hq] at x4 hbv
            obtain ⟨b4, o4, rfl, hb4, hc4⟩ := HVH.out (by omega)
            have x5 := (hb.cell (p := ⟨b4, o4 + q * 2, none⟩) (by exact Nat.lt_of_lt_of_le hb4 hB)).trans (hc4 q (by omega)).1
            have x6 := (hb.cell (p := ⟨b4, o4 + q * 2 + 1, none⟩) (by exact Nat.lt_of_lt_of_le hb4 hB)).trans (hc4 q (by omega)).2
            have HROW := Lib.hid (fun wx (H : Below w.heap.size w wx) => ((ARH.out.2 k hlt).below H hB).more (Nat.le_trans hB H.size))
            have hz : n + 1 ≤ 1048576 := by omega
            rw [show aRN k = n + 1 by omega] at x3 HROW
            have HNO : Hid (Pl.scAll (Pl.costV V aBV aRV n k) (Pl.ng (V q).1) (V q).2 (aRV k) (n + 1) = false → Pl.costAll V aBV aRV n arn = false) := Lib.hid (fun h => Pl.costAll_no (k := k) (by rw [hq]; exact h) hlt)
            have HYE : Hid (Pl.scAll (Pl.costV V aBV aRV n k) (Pl.ng (V q).1) (V q).2 (aRV k) (n + 1) = true → Pl.costAll V aBV aRV n (k + 1) = true) := Lib.hid (fun h => by rw [Pl.costAll, he.out]; rw [hq]; exact h)
            have HST : Hid (Pl.scV (Pl.costV V aBV aRV n k) (Pl.ng (V q).1) (V q).2 (aRV k) = Pl.costV V aBV aRV n (k + 1)) := Lib.hid (by rw [Pl.costV, hq]; rfl)
            obtain ⟨xa, ea⟩ : ∃ x, x = (V q).1 := ⟨_, rfl⟩
            obtain ⟨xb, eb⟩ : ∃ x, x = (V q).2 := ⟨_, rfl⟩
            rw [← ea, ← eb] at HNO HYE HST
            rw [← ea] at x5
            rw [← eb] at x6
            have k0 : (0 : Int) ≤ (k : Int) := by omega
            have k1 : (k : Int) < (arn : Int) := by omega
            have q0 : (0 : Int) ≤ (q : Int) := by omega
            have q1' : (q : Int) < (n : Int) := by omega
            clear hc1 hc2 hc4 hrn hq ea eb hbv hnn
            generalize aRA k = m1 at x3 HROW
            generalize aRC k = d1 at x3
            have HBX := Lib.hid hb
            clear hbw BA hb
            go_wp2_with fail
            refine (minus_any xa xb _).mono ?_
            rintro e w2 ⟨rfl, hb2⟩
            have hown := own_below hown hb2
            have HBW := Lib.hid (HBW.out.trans (hb2.mono hsz))
            have HBX := Lib.hid (HBX.out.trans (hb2.mono HBX.out.size))
            have hsz := Nat.le_trans hsz hb2.size
            have C := Lib.hid (iSc_any AO m1 (n + 1) (n + 1) co d1 w2.heap.size (Pl.costV V aBV aRV n k) (aRV k) (Pl.ng xa) xb w2 (RdP.of_own hown) (HROW.out w2 HBX.out) (Nat.le_refl _) (by omega) (by omega))
            rw [Pl.scOk_same, HST.out] at C
            unfold OwnsSc at C
            generalize Pl.scAll (Pl.costV V aBV aRV n k) (Pl.ng xa) xb (aRV k) (n + 1) = vv at C HNO HYE
            clear hb2 hown x1 x3 x4 x5 x6 HROW HST HBX
            go_wp2_with fail
            refine C.out.mono ?_
            rintro e w3 ⟨v3, rfl, ow3, hb3⟩
            have HBW := Lib.hid (HBW.out.trans (hb3.mono hsz))
            cases vv
            · have H26 := Lib.hid (HEQ.out.trans (HNO.out rfl))
              have HB := HB1.out.trans (HBW.out.mono (Nat.le_succ _))
              clear ow3 hb3 C HNO HYE
              go_wp2
              go_ret2
              exact ret_sc H26.out (World.ownsRow_nil _ _ _ _) HB
            · have OW3 := Lib.hid (own_low ow3 hsz)
              have HY := Lib.hid (HYE.out rfl)
              clear ow3 hb3 C HNO HYE hsz
              go_wp2
              go_roundw
              case rel => exact ⟨k + 1, by omega, by go_num, HY, OW3.out, HBW.out⟩
              case measure => simp [intOf]; omega
          · obtain rfl : k = arn := by omega
            have HO := Lib.hid (own_low hown (Nat.le_succ _))
            have HTT := Lib.hid (HEQ.out.trans he.out)
            clear hown
            go_wp2
            go_ret2
            exact ret_sc HTT.out HO.out hb
    · have q1 : ((n : Int) == (m : Int) + (arn : Int)) = false := beq_eq_false_iff_ne.2 (by omega)
      have q2 : ((n : Int) != (m : Int) + (arn : Int)) = true := by rw [bne, q1]; rfl
      have HH : Pl.costOk (m : Int) arn aRN arn aBV aRV n V = false := by rw [Pl.costOk, q1]; simp
      rw [HH]
      clear HH hf VV CC hA hq
      go_enter Try.func26, Try.ntmps26
      go_wp2_with fail
      refine C1.out.mono ?_
      rintro e w1 ⟨rfl, hb⟩
      have BA := BA.below hb
      have HB := HB0.out.trans (hb.mono HB0.out.size)
      clear x0 x1 x2 hb
      have x0 := BA.2.1 0 _ rfl
      have x2 := BA.2.1 2 _ rfl
      go_wp2
      go_ret2
      exact ret_sc rfl (World.ownsRow_nil _ _ _ _) HB

set_option maxHeartbeats 2000000 in
theorem sCost_any (aR aBs : Option Addr) (arn arc abn abc : Nat) (acols : Int) (aRA : Nat → Option Addr) (aRN aRC : Nat → Nat) (aRV : Nat → Fr) (aBV : Nat → Int) (A : Option Addr) (n c : Nat) (V : Fr) (B : Nat) (w : World) (arr : RdR w B aR arn aRA aRN aRC aRV) (abb : Rd w B 1 aBs abn (cellsI aBV abn)) (hv : RdP w B A n V) (hB : B ≤ w.heap.size) (ha1 : arn ≤ 1048576) (ha2 : ∀ j, j < arn → aRN j ≤ 1048576) (hn : n ≤ 1048576) (hA : A = none → n = 0 ∧ c = 0) :
    Calls Try.prog 25 #[.agg #[.slice aR arn arc, .slice aBs abn abc, .int .i64 acols], .slice A n c] w (OwnsSc (Pl.costOk acols arn aRN abn aBV aRV n V) (Pl.costV V aBV aRV n arn) (n + 1) w) := by
  have BA0 := Lib.hid (show Bx (w.alloc (.cells #[.slice aR arn arc, .slice aBs abn abc, .int .i64 acols] 30)) w.heap.size [.slice aR arn arc, .slice aBs abn abc, .int .i64 acols] from Bx.new w #[.slice aR arn arc, .slice aBs abn abc, .int .i64 acols] 30)
  have HB0 := Lib.hid (show Below w.heap.size w (w.alloc (.cells #[.slice aR arn arc, .slice aBs abn abc, .int .i64 acols] 30)) from (Below.refl _ _).alloc (Nat.le_refl _) _)
  have C1 := Lib.hid (sGood_any aR aBs arn arc abn abc acols aRA aRN aRC aRV aBV B (w.alloc (.cells #[.slice aR arn arc, .slice aBs abn abc, .int .i64 acols] 30)) (arr.below HB0.out hB) (abb.below' HB0.out hB) (Nat.le_trans hB HB0.out.size) ha1 ha2)
  have VV := Lib.hid (fun wx (H : Below w.heap.size w wx) => sAllValid_any A n c B V wx (hv.below H hB) (Nat.le_trans hB H.size) (by omega))
  have CC := Lib.hid (fun wx (H : Below w.heap.size w wx) => copy_any A n c B V wx (hv.below H hB) (Nat.le_trans hB H.size) hn hA)
  have BA := BA0.out
  have x0 := BA.2.1 0 _ rfl
  have x1 := BA.2.1 1 _ rfl
  have x2 := BA.2.1 2 _ rfl
  cases hf : Pl.form acols arn aRN abn aBV
  · rw [hf] at C1
    have HH : Pl.costOk acols arn aRN abn aBV aRV n V = false := by rw [Pl.costOk, hf]; rfl
    rw [HH]
    clear HH hf arr abb ha2 hv VV CC hA
    go_enter Try.func25, Try.ntmps25
    go_wp2_with fail
    refine C1.out.mono ?_
    rintro e w1 ⟨rfl, hb⟩
    have HB := HB0.out.trans (hb.mono HB0.out.size)
    go_wp2
    go_ret2
    exact ret_sc rfl (World.ownsRow_made _ #[] 0 HB.size (by decide) rfl) (HB.alloc HB.size _)
  · rw [hf] at C1
    obtain ⟨m, rfl, hm, hba, hbv, hrn⟩ := Pl.formFacts hf
    have HRN := Lib.hid hrn
    have HBV := Lib.hid hbv
    have ABH := Lib.hid abb
    have ARH := Lib.hid arr
    have HVH := Lib.hid hv
    have HA2 := Lib.hid ha2
    have hba := hba.symm
    subst hba
    clear hbv hrn arr abb hv ha2
    by_cases hq : n = m + arn
    · have q1 : ((n : Int) == (m : Int) + (arn : Int)) = true := beq_iff_eq.2 (by omega)
      have q2 : ((n : Int) != (m : Int) + (arn : Int)) = false := by rw [bne, q1]; rfl
      have HOK : Hid (Pl.costOk (m : Int) arn aRN arn aBV aRV n V = (Pl.okTo V n && Pl.costAll V aBV aRV n arn)) := Lib.hid (by rw [Pl.costOk, hf, q1]; rfl)
      have HNN := Lib.hid hq
      clear hf hq
      go_enter Try.func25, Try.ntmps25
      go_wp2_with fail
      refine C1.out.mono ?_
      rintro e w1 ⟨rfl, hb⟩
      have BA := BA.below hb
      have HB := HB0.out.trans (hb.mono HB0.out.size)
      clear x0 x1 x2 hb C1 BA0 HB0
      have x0 := BA.2.1 0 _ rfl
      have x2 := BA.2.1 2 _ rfl
      have HSZ1 : w.heap.size + 1 ≤ w1.heap.size := BA.1
      go_wp2_with fail
      refine (CC.out w1 HB).mono ?_
      rintro e w2 ⟨v, rfl, ow, hb⟩
      have hown := own_low ow HSZ1
      have BA := BA.below hb
      have HB := HB.trans (hb.mono HB.size)
      have hsz := Nat.le_trans HSZ1 hb.size
      clear ow hb CC x0 x2 HSZ1
      go_wp2_with fail
      refine (l3Int_any _ _).mono ?_
      rintro e w3 ⟨rfl, hb⟩
      have hown := own_below hown hb
      have BA := BA.below hb
      have HB := HB.trans (hb.mono HB.size)
      have hsz := Nat.le_trans hsz hb.size
      clear hb
      have BA3 := Lib.hid BA
      have HB3 := Lib.hid HB
      clear BA HB
      go_wp2_with (at_builtin; refine wpList_push _ rfl _ _ 36 rfl (w.heap.size + 1) 66 (.agg #[.int .i64 0, .int .i64 0]) 2 16 Try.underlying36 infoRat rfl (by decide) _ _ _ rfl hown [.int .i64 0, .int .i64 1] rfl rfl (by simp [Value.oneCell']) (by decide) (by omega) hsz ?_)
      intro v' w' hown' hk'
      have hb' := hk' _ _ (Nat.le_refl _) (Below.refl (w.heap.size + 1) w3)
      rw [cellsV_snoc] at hown'
      have BA := bx_low3 BA3.out hb' (Nat.lt_succ_self _)
      have HB := HB3.out.trans (hb'.mono (Nat.le_succ _))
      have hsz := Nat.le_trans hsz hb'.size
      clear hk' hown BA3 HB3 hb'
      clear q1 q2
      go_wp2_with fail
      refine (VV.out w' HB).mono ?_
      rintro e w4 ⟨rfl, hb⟩
      have BA := BA.below hb
      have HB := HB.trans (hb.mono HB.size)
      have HWH := Lib.hid (own_below hown' hb)
      have hsz := Nat.le_trans hsz hb.size
      clear hown' hb VV
      generalize Pl.okTo V n = vo at HOK
      go_wp2
      obtain ⟨W1, e1⟩ : ∃ W1, W1 = w4 := ⟨_, rfl⟩
      have BA1 : Hid (Bx W1 w.heap.size [.slice aR arn arc, .slice aBs arn abc, .int .i64 (m : Int)]) := Lib.hid (by rw [e1]; exact BA)
      have HB1 : Hid (Below w.heap.size w W1) := Lib.hid (by rw [e1]; exact HB)
      have HST1 : Hid (Below (w.heap.size + 1) W1 w4) := Lib.hid (by rw [e1]; exact Below.refl _ _)
      have HSZ1 : Hid (w.heap.size + 1 ≤ W1.heap.size) := Lib.hid (by rw [e1]; exact hsz)
      clear BA HB hsz hA
      cases vo
      · have H25 := Lib.hid (HOK.out.trans (Bool.false_and _))
        clear HOK HWH
        go_loopw [6, 7, 8] (fun o s u wr => s = .bool false ∧ u = .int .i64 0 ∧ Below (w.heap.size + 1) W1 wr) (fun _ _ _ _ => 0)
        case atStart => exact ⟨rfl, rfl, HST1.out⟩
        case round =>
          obtain ⟨rfl, rfl, hbw⟩ := hrel
          have BA := bx_low3 BA1.out hbw (Nat.lt_succ_self _)
          have HB := HB1.out.trans (hbw.mono (Nat.le_succ _))
          have x0 := BA.2.1 0 _ rfl
          clear BA hbw
          by_cases hz : 0 < arn
          · have d1 := decide_eq_true (show (0 : Int) < (arn : Int) by omega)
            go_wp2
            go_ret2
            exact ret_sc H25.out (World.ownsRow_made _ #[] 0 HB.size (by decide) rfl) (HB.alloc HB.size _)
          · have d1 := decide_eq_false (show ¬ (0 : Int) < (arn : Int) by omega)
            go_wp2
            go_ret2
            exact ret_sc H25.out (World.ownsRow_made _ #[] 0 HB.size (by decide) rfl) (HB.alloc HB.size _)
      · have HEQ := Lib.hid (HOK.out.trans (Bool.true_and _))
        clear HOK
        go_loopw [6, 7, 8] (fun o s u wr => ∃ (k : Nat) (b : Bool), k ≤ arn ∧ u = .int .i64 k ∧ s = .bool b ∧ Hid (b = true → Pl.costAll V aBV aRV n k = true ∧ wr.ownsRow (w.heap.size + 1) 66 2 o (n + 1) (cellsV (Pl.costV V aBV aRV n k) (n + 1))) ∧ Hid (b = false → Pl.costAll V aBV aRV n arn = false) ∧ Below (w.heap.size + 1) W1 wr) (fun _ _ u _ => arn - (intOf u).toNat)
        case atStart => exact ⟨0, true, Nat.zero_le _, rfl, rfl, Lib.hid (fun _ => ⟨rfl, HWH.out⟩), Lib.hid (fun h => by cases h), HST1.out⟩
        case round =>
          obtain ⟨k, b, hk, rfl, rfl, he, hx, hbw⟩ := hrel
          cases b
          · have H25 := Lib.hid (HEQ.out.trans (hx.out rfl))
            have BA := bx_low3 BA1.out hbw (Nat.lt_succ_self _)
            have HB := HB1.out.trans (hbw.mono (Nat.le_succ _))
            have x0 := BA.2.1 0 _ rfl
            clear BA hbw
            by_cases hz : k < arn
            · have d1 := decide_eq_true (show (k : Int) < (arn : Int) by omega)
              go_wp2
              go_ret2
              exact ret_sc H25.out (World.ownsRow_made _ #[] 0 HB.size (by decide) rfl) (HB.alloc HB.size _)
            · have d1 := decide_eq_false (show ¬ (k : Int) < (arn : Int) by omega)
              go_wp2
              go_ret2
              exact ret_sc H25.out (World.ownsRow_made _ #[] 0 HB.size (by decide) rfl) (HB.alloc HB.size _)
          · have hown := (he.out rfl).2
            have hee := (he.out rfl).1
            clear he hx
            by_cases hlt : k < arn
            · have DB := (Below.refl wr.heap.size wr).drew
              have HBX0 := hbw
              have hown := own_below hown DB
              have hbw := hbw.trans (DB.mono (Nat.le_trans HSZ1.out hbw.size))
              have BA := bx_low3 BA1.out hbw (Nat.lt_succ_self _)
              have hb := HB1.out.trans (hbw.mono (Nat.le_succ _))
              clear DB
              have hsz := Nat.le_trans HSZ1.out hbw.size
              have xc := (bx_low3 BA1.out HBX0 (Nat.lt_succ_self _)).2.1 0 _ rfl
              clear HBX0
              obtain ⟨AO, co, rfl⟩ := own_form hown
              have HBW := Lib.hid hbw
              obtain ⟨b1, o1, rfl, hb1, hc1⟩ := ARH.out.1 (by omega)
              obtain ⟨b2, o2, rfl, hb2, hc2⟩ := ABH.out.2 (by omega)
              have x3 := (hb.cell (p := ⟨b1, o1 + k, none⟩) (by exact Nat.lt_of_lt_of_le hb1 hB)).trans (hc1 k hlt)
              have x4 := (hb.cell (p := ⟨b2, o2 + k, none⟩) (by exact Nat.lt_of_lt_of_le hb2 hB)).trans (hc2 k _ (cellsI_at aBV hlt))
              have hrn := HRN.out k hlt
              have hz := HA2.out k hlt
              have hbv := HBV.out k hlt
              have hnn := HNN.out
              obtain ⟨q, hq⟩ : ∃ q : Nat, aBV k = (q : Int) := ⟨(aBV k).toNat, by omega⟩
              rw [hq] at x4 hbv
              obtain ⟨b4, o4, rfl, hb4, hc4⟩ := HVH.out (by omega)
              have x5 := (hb.cell (p := ⟨b4, o4 + q * 2, none⟩) (by exact Nat.lt_of_lt_of_le hb4 hB)).trans (hc4 q (by omega)).1
              have x6 := (hb.cell (p := ⟨b4, o4 + q * 2 + 1, none⟩) (by exact Nat.lt_of_lt_of_le hb4 hB)).trans (hc4 q (by omega)).2
              have HROW := Lib.hid (fun wx (H : Below w.heap.size w wx) => ((ARH.out.2 k hlt).below H hB).more (Nat.le_trans hB H.size))
              have hz : n + 1 ≤ 1048576 := by omega
              rw [show aRN k = n + 1 by omega] at x3 HROW
              have HNO : Hid (Pl.scAll (Pl.costV V aBV aRV n k) (Pl.ng (V q).1) (V q).2 (aRV k) (n + 1) = false → Pl.costAll V aBV aRV n arn = false) := Lib.hid (fun h => Pl.costAll_no (k := k) (by rw [hq]; exact h) hlt)
              have HYE : Hid (Pl.scAll (Pl.costV V aBV aRV n k) (Pl.ng (V q).1) (V q).2 (aRV k) (n + 1) = true → Pl.costAll V aBV aRV n (k + 1) = true) := Lib.hid (fun h => by rw [Pl.costAll, hee]; rw [hq]; exact h)
              have HST : Hid (Pl.scV (Pl.costV V aBV aRV n k) (Pl.ng (V q).1) (V q).2 (aRV k) = Pl.costV V aBV aRV n (k + 1)) := Lib.hid (by rw [Pl.costV, hq]; rfl)
              obtain ⟨xa, ea⟩ : ∃ x, x = (V q).1 := ⟨_, rfl⟩
              obtain ⟨xb, eb⟩ : ∃ x, x = (V q).2 := ⟨_, rfl⟩
              rw [← ea, ← eb] at HNO HYE HST
              rw [← ea] at x5
              rw [← eb] at x6
              have k0 : (0 : Int) ≤ (k : Int) := by omega
              have k1 : (k : Int) < (arn : Int) := by omega
              have q0 : (0 : Int) ≤ (q : Int) := by omega
              have q1' : (q : Int) < (n : Int) := by omega
              clear hc1 hc2 hc4 hrn hq ea eb hbv hnn
              generalize aRA k = m1 at x3 HROW
              generalize aRC k = d1 at x3
              have hz1 : b1 < wr.drew.heap.size := Nat.lt_of_lt_of_le (Nat.lt_of_lt_of_le hb1 hB) hb.size
              have hz2 : b2 < wr.drew.heap.size := Nat.lt_of_lt_of_le (Nat.lt_of_lt_of_le hb2 hB) hb.size
              have hz4 : b4 < wr.drew.heap.size := Nat.lt_of_lt_of_le (Nat.lt_of_lt_of_le hb4 hB) hb.size
              have C := Lib.hid (sSc_any AO m1 (n + 1) (n + 1) co d1 wr.drew.heap.size (Pl.costV V aBV aRV n k) (aRV k) (Pl.ng xa) xb wr.drew (RdP.of_own hown) (HROW.out wr.drew hb) (Nat.le_refl _) (by omega) (by omega))
              rw [Pl.scOk_same, HST.out] at C
              unfold OwnsSc at C
              generalize Pl.scAll (Pl.costV V aBV aRV n k) (Pl.ng xa) xb (aRV k) (n + 1) = vv at C HNO HYE
              have ngw : IntKind.i64.wrap (-xa) = Pl.ng xa := rfl
              clear hbw hb hown HROW HST hee hz
              go_upto_region 8 with fail
              refine wp_region_noPanic ?_
              refine wp_region_held_drew (S := (fun w' => w'.cell? ⟨w.heap.size, 0, none⟩ = some (.slice (some ⟨b1, o1, none⟩) arn arc) ∧ w'.cell? ⟨w.heap.size, 1, none⟩ = some (.slice (some ⟨b2, o2, none⟩) arn abc) ∧ w'.cell? ⟨b1, o1 + k, none⟩ = some (.slice m1 (n + 1) d1) ∧ w'.cell? ⟨b2, o2 + k, none⟩ = some (.int .i64 q) ∧ w'.cell? ⟨b4, o4 + q * 2, none⟩ = some (.int .i64 xa) ∧ w'.cell? ⟨b4, o4 + q * 2 + 1, none⟩ = some (.int .i64 xb))) (by kernel_rfl) ?_ (fun hHeld => ?_)
              · exact ⟨BA.2.1 0 _ rfl, BA.2.1 1 _ rfl, x3, x4, x5, x6⟩
              refine takeN 0 (v := ?v1_0) rfl (by kernel_rfl) (by kernel_rfl) (by kernel_rfl) (fun _ _ _ h => h) (by rfl) ?hy1_0 (by assumption) ?r1_0
              case hy1_0 => (intro w hSw; (try dsimp only at hSw); first | (go_simp; done) | (go_simp; with_reducible rfl))
              simp only [Act.put, List.setIfInBounds_toArray, List.set_cons_zero, List.set_cons_succ]
              refine takeN 1 (v := ?v1_1) rfl (by kernel_rfl) (by kernel_rfl) (by kernel_rfl) (fun _ _ _ h => h) (by rfl) ?hy1_1 (by assumption) ?r1_1
              case hy1_1 => (intro w hSw; (try dsimp only at hSw); first | (go_simp; done) | (go_simp; with_reducible rfl))
              simp only [Act.put, List.setIfInBounds_toArray, List.set_cons_zero, List.set_cons_succ]
              refine takeN 2 (v := ?v1_2) rfl (by kernel_rfl) (by kernel_rfl) (by kernel_rfl) (fun _ _ _ h => h) (by rfl) ?hy1_2 (by assumption) ?r1_2
              case hy1_2 => (intro w hSw; (try dsimp only at hSw); first | (go_simp; done) | (go_simp; with_reducible rfl))
              simp only [Act.put, List.setIfInBounds_toArray, List.set_cons_zero, List.set_cons_succ]
              refine takeN 3 (v := ?v1_3) rfl (by kernel_rfl) (by kernel_rfl) (by kernel_rfl) (fun _ _ _ h => h) (by rfl) ?hy1_3 (by assumption) ?r1_3
              case hy1_3 => (intro w hSw; (try dsimp only at hSw); first | (go_simp; done) | (go_simp; with_reducible rfl))
              simp only [Act.put, List.setIfInBounds_toArray, List.set_cons_zero, List.set_cons_succ]
              refine takeN 4 (v := ?v1_4) rfl (by kernel_rfl) (by kernel_rfl) (by kernel_rfl) (fun _ _ _ h => h) (by rfl) ?hy1_4 (by assumption) ?r1_4
              case hy1_4 => (intro w hSw; (try dsimp only at hSw); first | (go_simp; done) | (go_simp; with_reducible rfl))
              simp only [Act.put, List.setIfInBounds_toArray, List.set_cons_zero, List.set_cons_succ]
              refine takeN 5 (v := ?v1_5) rfl (by kernel_rfl) (by kernel_rfl) (by kernel_rfl) (fun _ _ _ h => h) (by rfl) ?hy1_5 (by assumption) ?r1_5
              case hy1_5 => (intro w hSw; (try dsimp only at hSw); first | (go_simp; done) | (go_simp; with_reducible rfl))
              simp only [Act.put, List.setIfInBounds_toArray, List.set_cons_zero, List.set_cons_succ]
              refine takeN 6 (v := ?v1_6) rfl (by kernel_rfl) (by kernel_rfl) (by kernel_rfl) (fun _ _ _ h => h) (by rfl) ?hy1_6 (by assumption) ?r1_6
              case hy1_6 => (intro w hSw; (try dsimp only at hSw); first | (go_simp; done) | (go_simp; with_reducible rfl))
              simp only [Act.put, List.setIfInBounds_toArray, List.set_cons_zero, List.set_cons_succ]
              refine takeN 7 (v := ?v1_7) rfl (by kernel_rfl) (by kernel_rfl) (by kernel_rfl) (fun _ _ _ h => h) (by rfl) ?hy1_7 (by assumption) ?r1_7
              case hy1_7 => (intro w hSw; (try dsimp only at hSw); first | (go_simp; done) | (go_simp; with_reducible rfl))
              simp only [Act.put, List.setIfInBounds_toArray, List.set_cons_zero, List.set_cons_succ]
              refine takeN 8 (v := ?v1_8) rfl (by kernel_rfl) (by kernel_rfl) (by kernel_rfl) (fun _ _ _ h => h) (by rfl) ?hy1_8 (by assumption) ?r1_8
              case hy1_8 => (intro w hSw; (try dsimp only at hSw); first | (go_simp; done) | (go_simp; with_reducible rfl))
              simp only [Act.put, List.setIfInBounds_toArray, List.set_cons_zero, List.set_cons_succ]
              refine takeN 9 (v := ?v1_9) rfl (by kernel_rfl) (by kernel_rfl) (by kernel_rfl) (fun _ _ _ h => h) (by rfl) ?hy1_9 (by assumption) ?r1_9
              case hy1_9 => (intro w hSw; (try dsimp only at hSw); first | (go_simp; done) | (go_simp; with_reducible rfl))
              simp only [Act.put, List.setIfInBounds_toArray, List.set_cons_zero, List.set_cons_succ]
              refine takeN 10 (v := ?v1_10) rfl (by kernel_rfl) (by kernel_rfl) (by kernel_rfl) (fun _ _ _ h => h) (by rfl) ?hy1_10 (by assumption) ?r1_10
              case hy1_10 => (intro w hSw; (try dsimp only at hSw); first | (go_simp; done) | (go_simp; with_reducible rfl))
              simp only [Act.put, List.setIfInBounds_toArray, List.set_cons_zero, List.set_cons_succ]
              try simp only [ngw]
              refine takeN 11 (v := ?v1_11) rfl (by kernel_rfl) (by kernel_rfl) (by kernel_rfl) (fun _ _ _ h => h) (by rfl) ?hy1_11 (by assumption) ?r1_11
              case hy1_11 => (intro w hSw; (try dsimp only at hSw); first | (go_simp; done) | (go_simp; with_reducible rfl))
              simp only [Act.put, List.setIfInBounds_toArray, List.set_cons_zero, List.set_cons_succ]
              refine takeN 12 (v := ?v1_12) rfl (by kernel_rfl) (by kernel_rfl) (by kernel_rfl) (fun _ _ _ h => h) (by rfl) ?hy1_12 (by assumption) ?r1_12
              case hy1_12 => (intro w hSw; (try dsimp only at hSw); first | (go_simp; done) | (go_simp; with_reducible rfl))
              simp only [Act.put, List.setIfInBounds_toArray, List.set_cons_zero, List.set_cons_succ]
              refine takeN 13 (v := ?v1_13) rfl (by kernel_rfl) (by kernel_rfl) (by kernel_rfl) (fun _ _ _ h => h) (by rfl) ?hy1_13 (by assumption) ?r1_13
              case hy1_13 => (intro w hSw; (try dsimp only at hSw); first | (go_simp; done) | (go_simp; with_reducible rfl))
              simp only [Act.put, List.setIfInBounds_toArray, List.set_cons_zero, List.set_cons_succ]
              refine takeN 14 (v := ?v1_14) rfl (by kernel_rfl) (by kernel_rfl) (by kernel_rfl) (fun _ _ _ h => h) (by rfl) ?hy1_14 (by assumption) ?r1_14
              case hy1_14 => (intro w hSw; (try dsimp only at hSw); first | (go_simp; done) | (go_simp; with_reducible rfl))
              simp only [Act.put, List.setIfInBounds_toArray, List.set_cons_zero, List.set_cons_succ]
              refine takeN 15 (v := ?v1_15) rfl (by kernel_rfl) (by kernel_rfl) (by kernel_rfl) (fun _ _ _ h => h) (by rfl) ?hy1_15 (by assumption) ?r1_15
              case hy1_15 => (intro w hSw; (try dsimp only at hSw); first | (go_simp; done) | (go_simp; with_reducible rfl))
              simp only [Act.put, List.setIfInBounds_toArray, List.set_cons_zero, List.set_cons_succ]
              refine takeN 16 (v := ?v1_16) rfl (by kernel_rfl) (by kernel_rfl) (by kernel_rfl) (fun _ _ _ h => h) (by rfl) ?hy1_16 (by assumption) ?r1_16
              case hy1_16 => (intro w hSw; (try dsimp only at hSw); first | (go_simp; done) | (go_simp; with_reducible rfl))
              simp only [Act.put, List.setIfInBounds_toArray, List.set_cons_zero, List.set_cons_succ]
              refine takeN 17 (v := ?v1_17) rfl (by kernel_rfl) (by kernel_rfl) (by kernel_rfl) (fun _ _ _ h => h) (by rfl) ?hy1_17 (by assumption) ?r1_17
              case hy1_17 => (intro w hSw; (try dsimp only at hSw); first | (go_simp; done) | (go_simp; with_reducible rfl))
              simp only [Act.put, List.setIfInBounds_toArray, List.set_cons_zero, List.set_cons_succ]
              refine takeN 18 (v := ?v1_18) rfl (by kernel_rfl) (by kernel_rfl) (by kernel_rfl) (fun _ _ _ h => h) (by rfl) ?hy1_18 (by assumption) ?r1_18
              case hy1_18 => (intro w hSw; (try dsimp only at hSw); first | (go_simp; done) | (go_simp; with_reducible rfl))
              simp only [Act.put, List.setIfInBounds_toArray, List.set_cons_zero, List.set_cons_succ]
              refine takeN 19 (v := ?v1_19) rfl (by kernel_rfl) (by kernel_rfl) (by kernel_rfl) (fun _ _ _ h => h) (by rfl) ?hy1_19 (by assumption) ?r1_19
              case hy1_19 => (intro w hSw; (try dsimp only at hSw); first | (go_simp; done) | (go_simp; with_reducible rfl))
              simp only [Act.put, List.setIfInBounds_toArray, List.set_cons_zero, List.set_cons_succ]
              refine takeN 20 (v := ?v1_20) rfl (by kernel_rfl) (by kernel_rfl) (by kernel_rfl) (fun _ _ _ h => h) (by rfl) ?hy1_20 (by assumption) ?r1_20
              case hy1_20 => (intro w hSw; (try dsimp only at hSw); first | (go_simp; done) | (go_simp; with_reducible rfl))
              simp only [Act.put, List.setIfInBounds_toArray, List.set_cons_zero, List.set_cons_succ]
              refine takeN 21 (v := ?v1_21) rfl (by kernel_rfl) (by kernel_rfl) (by kernel_rfl) (fun _ _ _ h => h) (by rfl) ?hy1_21 (by assumption) ?r1_21
              case hy1_21 => (intro w hSw; (try dsimp only at hSw); first | (go_simp; done) | (go_simp; with_reducible rfl))
              simp only [Act.put, List.setIfInBounds_toArray, List.set_cons_zero, List.set_cons_succ]
              refine takeN 22 (v := ?v1_22) rfl (by kernel_rfl) (by kernel_rfl) (by kernel_rfl) (fun _ _ _ h => h) (by rfl) ?hy1_22 (by assumption) ?r1_22
              case hy1_22 => (intro w hSw; (try dsimp only at hSw); first | (go_simp; done) | (go_simp; with_reducible rfl))
              simp only [Act.put, List.setIfInBounds_toArray, List.set_cons_zero, List.set_cons_succ]
              refine takeN 23 (v := ?v1_23) rfl (by kernel_rfl) (by kernel_rfl) (by kernel_rfl) (fun _ _ _ h => h) (by rfl) ?hy1_23 (by assumption) ?r1_23
              case hy1_23 => (intro w hSw; (try dsimp only at hSw); first | (go_simp; done) | (go_simp; with_reducible rfl))
              simp only [Act.put, List.setIfInBounds_toArray, List.set_cons_zero, List.set_cons_succ]
              refine takeN 24 (v := ?v1_24) rfl (by kernel_rfl) (by kernel_rfl) (by kernel_rfl) (fun _ _ _ h => h) (by rfl) ?hy1_24 (by assumption) ?r1_24
              case hy1_24 => (intro w hSw; (try dsimp only at hSw); first | (go_simp; done) | (go_simp; with_reducible rfl))
              simp only [Act.put, List.setIfInBounds_toArray, List.set_cons_zero, List.set_cons_succ]
              refine takeN 25 (v := ?v1_25) rfl (by kernel_rfl) (by kernel_rfl) (by kernel_rfl) (fun _ _ _ h => h) (by rfl) ?hy1_25 (by assumption) ?r1_25
              case hy1_25 => (intro w hSw; (try dsimp only at hSw); first | (go_simp; done) | (go_simp; with_reducible rfl))
              simp only [Act.put, List.setIfInBounds_toArray, List.set_cons_zero, List.set_cons_succ]
              refine nextN 26 (by kernel_rfl) rfl (fun K hK => ?_)
              go_simp
              go_at_call 64; refine C.out.mono ?_; rintro e wA ⟨v3, rfl, ow3, hbA⟩; have BA := BA.below hbA; have x3 := (hbA.cell (p := ⟨b1, o1 + k, none⟩) hz1).trans x3; have x4 := (hbA.cell (p := ⟨b2, o2 + k, none⟩) hz2).trans x4; have x5 := (hbA.cell (p := ⟨b4, o4 + q * 2, none⟩) hz4).trans x5; have x6 := (hbA.cell (p := ⟨b4, o4 + q * 2 + 1, none⟩) hz4).trans x6; have HBW := Lib.hid (HBW.out.trans (hbA.mono hsz)); have OW3 := Lib.hid (own_low ow3 hsz); clear hbA ow3
              go_wp2_with fail
              refine hK.out _ _ ?_ (fun hHeld => ?_)
              · exact ⟨BA.2.1 0 _ rfl, BA.2.1 1 _ rfl, x3, x4, x5, x6⟩
              clear hK K
              refine takeN 27 (v := ?v1_27) rfl (by kernel_rfl) (by kernel_rfl) (by kernel_rfl) (fun _ _ _ h => h) (by rfl) ?hy1_27 (by assumption) ?r1_27
              case hy1_27 => (intro w hSw; (try dsimp only at hSw); first | (go_simp; done) | (go_simp; with_reducible rfl))
              simp only [Act.put, List.setIfInBounds_toArray, List.set_cons_zero, List.set_cons_succ]
              refine takeN 28 (v := ?v1_28) rfl (by kernel_rfl) (by kernel_rfl) (by kernel_rfl) (fun _ _ _ h => h) (by rfl) ?hy1_28 (by assumption) ?r1_28
              case hy1_28 => (intro w hSw; (try dsimp only at hSw); first | (go_simp; done) | (go_simp; with_reducible rfl))
              simp only [Act.put, List.setIfInBounds_toArray, List.set_cons_zero, List.set_cons_succ]
              refine takeN 29 (v := ?v1_29) rfl (by kernel_rfl) (by kernel_rfl) (by kernel_rfl) (fun _ _ _ h => h) (by rfl) ?hy1_29 (by assumption) ?r1_29
              case hy1_29 => (intro w hSw; (try dsimp only at hSw); first | (go_simp; done) | (go_simp; with_reducible rfl))
              simp only [Act.put, List.setIfInBounds_toArray, List.set_cons_zero, List.set_cons_succ]
              refine takeN 30 (v := ?v1_30) rfl (by kernel_rfl) (by kernel_rfl) (by kernel_rfl) (fun _ _ _ h => h) (by rfl) ?hy1_30 (by assumption) ?r1_30
              case hy1_30 => (intro w hSw; (try dsimp only at hSw); first | (go_simp; done) | (go_simp; with_reducible rfl))
              simp only [Act.put, List.setIfInBounds_toArray, List.set_cons_zero, List.set_cons_succ]
              refine takeN 31 (v := ?v1_31) rfl (by kernel_rfl) (by kernel_rfl) (by kernel_rfl) (fun _ _ _ h => h) (by rfl) ?hy1_31 (by assumption) ?r1_31
              case hy1_31 => (intro w hSw; (try dsimp only at hSw); first | (go_simp; done) | (go_simp; with_reducible rfl))
              simp only [Act.put, List.setIfInBounds_toArray, List.set_cons_zero, List.set_cons_succ]
              refine wpAnyH_done (by kernel_rfl) ?_ _
              refine NoPanic.normal ?_
              have HX : Hid (vv = true → Pl.costAll V aBV aRV n (k + 1) = true ∧ wA.ownsRow (w.heap.size + 1) 66 2 v3 (n + 1) (cellsV (Pl.costV V aBV aRV n (k + 1)) (n + 1))) := Lib.hid (fun h => by subst h; exact ⟨HYE.out rfl, OW3.out⟩)
              have HN : Hid (vv = false → Pl.costAll V aBV aRV n arn = false) := Lib.hid (fun h => by subst h; exact HNO.out rfl)
              clear x3 x4 x5 x6 BA ngw C HNO HYE OW3
              go_wp2
              go_roundw
              case rel => exact ⟨k + 1, vv, by omega, by go_num, rfl, HX, HN, HBW.out⟩
              case measure => simp [intOf]; omega
            · obtain rfl : k = arn := by omega
              have BA := bx_low3 BA1.out hbw (Nat.lt_succ_self _)
              have hb := HB1.out.trans (hbw.mono (Nat.le_succ _))
              have x0 := BA.2.1 0 _ rfl
              have HO := Lib.hid (own_low hown (Nat.le_succ _))
              have HTT := Lib.hid (HEQ.out.trans hee)
              clear hown hee BA hbw
              go_wp2
              go_ret2
              exact ret_sc HTT.out HO.out hb
    · have q1 : ((n : Int) == (m : Int) + (arn : Int)) = false := beq_eq_false_iff_ne.2 (by omega)
      have q2 : ((n : Int) != (m : Int) + (arn : Int)) = true := by rw [bne, q1]; rfl
      have HH : Pl.costOk (m : Int) arn aRN arn aBV aRV n V = false := by rw [Pl.costOk, q1]; simp
      rw [HH]
      clear HH hf VV CC hA hq
      go_enter Try.func25, Try.ntmps25
      go_wp2_with fail
      refine C1.out.mono ?_
      rintro e w1 ⟨rfl, hb⟩
      have BA := BA.below hb
      have HB := HB0.out.trans (hb.mono HB0.out.size)
      clear x0 x1 x2 hb
      have x0 := BA.2.1 0 _ rfl
      have x2 := BA.2.1 2 _ rfl
      go_wp2
      go_ret2
      exact ret_sc rfl (World.ownsRow_made _ #[] 0 HB.size (by decide) rfl) (HB.alloc HB.size _)

end Go.Proofs.Ytajafmdeencohaa
