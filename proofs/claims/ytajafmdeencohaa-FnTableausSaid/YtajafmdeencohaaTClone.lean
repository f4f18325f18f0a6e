/-
  Contracts of cloneTableau and l6Copy.
-/
import Derived.Test.YtajafmdeencohaaGrow
import Derived.Test.YtajafmdeencohaaReg
import Derived.Test.YtajafmdeencohaaClone
import Derived.Maps.AppendAt
namespace Go.Proofs.Ytajafmdeencohaa
open Go.RowKit
attribute [local go_sem ↓] Go.wp_at_zero Go.wp_at_succ

/-- two operations may come up -/
theorem twoN {P : Program} {ops : Array Oper} {Q : Exit → Act → World → Prop} {md : Region.Mode} {S : World → Prop} (i j : Nat) {oi oj : Oper} {fuel : Nat} {listed : Array Bool} {a : Act} {w : World} (hr : Region.ready md ops listed = [i, j]) (hi : ops.toList[i]? = some oi) (hj : ops.toList[j]? = some oj)
    (h1 : ∀ K' : Act → World → Prop, Shut (∀ a w, S w → (S w → wpAnyH P md ops Q S fuel (listed.setIfInBounds i true) a w) → K' a w) → if Region.wanted oi (yielded ops a.tmps) = true then Oper.wp P oi a w K' Q else K' (a.put oi.dst undef) w)
    (h2 : ∀ K' : Act → World → Prop, Shut (∀ a w, S w → (S w → wpAnyH P md ops Q S fuel (listed.setIfInBounds j true) a w) → K' a w) → if Region.wanted oj (yielded ops a.tmps) = true then Oper.wp P oj a w K' Q else K' (a.put oj.dst undef) w) : wpAnyH P md ops Q S (fuel + 1) listed a w :=
  wpAnyH_ready hr (by simp) (AllReadyH.cons (by rw [← Array.getElem?_toList]; exact hi) h1 (AllReadyH.cons (by rw [← Array.getElem?_toList]; exact hj) h2 AllReadyH.nil))
/-- An append of a whole row of integers onto an empty one of the call's own. -/
theorem wp_appI {o : Oper} {a : Act} {K : Act → World → Prop} {Q : Exit → Act → World → Prop} (w : World) (s x : Operand)
    (ho : o.op = .call { callee := .builtin .append, args := #[s, x], argTypes := #[23, 23] }) (base B : Nat) (v : Value) (hs : a.eval s = v) (hown : w.ownsRow base 3 1 v 0 [])
    (A : Option Addr) (m c : Nat) (V : Nat → Int) (hx : a.eval x = .slice A m c) (hr : Rd w B 1 A m (cellsI V m)) (hA : A = none → m = 0 ∧ c = 0) (hm : m ≤ 1048576) (hbase : base ≤ w.heap.size)
    (h : ∀ v' w', w'.ownsRow base 3 1 v' m (cellsI V m) → w.grownBy w' v.ownBlock → (v'.ownBlock = v.ownBlock ∨ v'.ownBlock = some w.heap.size) → K (a.put o.dst v') w') : o.wp Try.prog a w K Q := by
  obtain ⟨iR, hi, hz, hsz, hby⟩ := info_parts infoInt
  rcases A with _ | a'
  · obtain ⟨rfl, rfl⟩ := hA rfl
    have hrun := run_append_owned_none (P := Try.prog) (w := w) base 23 o.type 3 iR 1 Try.underlying23 hi v 0 [] hown
    unfold Oper.wp
    simp [execOp, ho, resolve, invoke, builtin, hs, hx, hrun, Result.andThen]
    exact h _ _ hown (World.grownBy.refl _ _) (Or.inl rfl)
  · obtain ⟨v', w', hr2, h2, h3, _, h5⟩ := run_append_own_at (P := Try.prog) w base 23 o.type 3 iR (.int .i64 0) 1 8 Try.underlying23 hi hz hsz hby (by decide) (by decide) v 0 [] hown a' m c (cellsI V m) (by simp [cellsI, listI]) (Rd.news hr) (cellsI_one _ _) (by simp only [maxLen]; omega) (by omega) hbase
    rw [Nat.zero_add, List.nil_append] at h2
    unfold Oper.wp
    simp [execOp, ho, resolve, invoke, builtin, hs, hx, hr2, Result.andThen]
    exact h v' w' h2 h3 h5
/-- a tableau of the call's own, returned -/
def OwnsT (n m : Nat) (cols : Int) (RN : Nat → Nat) (RV : Nat → Fr) (BV : Nat → Int) (w : World) (e : Ending) (w' : World) : Prop :=
  ∃ (X : Option Addr) (c : Nat) (XA : Nat → Option Addr) (XC : Nat → Nat) (Y : Option Addr) (d hi : Nat), e = .returned (.agg #[.slice X n c, .slice Y m d, .int .i64 cols]) ∧ OwnTab w' w.heap.size hi X n c XA RN XC RV Y m d BV ∧ Below w.heap.size w w'

set_option maxHeartbeats 4000000 in
set_option maxRecDepth 20000 in
theorem tclone_any (aR aBs : Option Addr) (arn arc abn abc : Nat) (acols : Int) (aRA : Nat → Option Addr) (aRN aRC : Nat → Nat) (aRV : Nat → Fr) (aBV : Nat → Int) (B : Nat) (w : World) (arr : RdR w B aR arn aRA aRN aRC aRV) (abb : Rd w B 1 aBs abn (cellsI aBV abn)) (hB : B ≤ w.heap.size) (ha1 : arn ≤ 1048576) (ha2 : ∀ j, j < arn → aRN j ≤ 1048576) (ha3 : abn ≤ 1048576) (hAB : aBs = none → abn = 0 ∧ abc = 0) (hAR : ∀ j, j < arn → aRA j = none → aRN j = 0 ∧ aRC j = 0) :
    Calls Try.prog 82 #[.agg #[.slice aR arn arc, .slice aBs abn abc, .int .i64 acols]] w (OwnsT arn abn acols aRN aRV aBV w) := by
  have BA : Bx ((w.alloc (.cells #[.slice aR arn arc, .slice aBs abn abc, .int .i64 acols] 30)).alloc (.cells #[.slice none 0 0, .slice none 0 0, .int .i64 0] 30)) w.heap.size [.slice aR arn arc, .slice aBs abn abc, .int .i64 acols] := (Bx.new w #[.slice aR arn arc, .slice aBs abn abc, .int .i64 acols] 30).alloc _
  have BR : Bx ((w.alloc (.cells #[.slice aR arn arc, .slice aBs abn abc, .int .i64 acols] 30)).alloc (.cells #[.slice none 0 0, .slice none 0 0, .int .i64 0] 30)) (w.heap.size + 1) [.slice none 0 0, .slice none 0 0, .int .i64 0] := by
    have h := Bx.new (w.alloc (.cells #[.slice aR arn arc, .slice aBs abn abc, .int .i64 acols] 30)) #[.slice none 0 0, .slice none 0 0, .int .i64 0] 30
    simpa using h
  have HB : Below w.heap.size w ((w.alloc (.cells #[.slice aR arn arc, .slice aBs abn abc, .int .i64 acols] 30)).alloc (.cells #[.slice none 0 0, .slice none 0 0, .int .i64 0] 30)) := ((Below.refl _ _).alloc (Nat.le_refl _) _).alloc (by simp) _
  have hz2 : w.heap.size + 2 ≤ ((w.alloc (.cells #[.slice aR arn arc, .slice aBs abn abc, .int .i64 acols] 30)).alloc (.cells #[.slice none 0 0, .slice none 0 0, .int .i64 0] 30)).heap.size := by simp
  have HA2 := Lib.hid ha2
  have HAR := Lib.hid hAR
  have ARH := Lib.hid arr
  have ABH := Lib.hid abb
  unfold OwnsT
  clear ha2 hAR arr abb
  go_enter Try.func82, Try.ntmps82
  go_upto_region 1 with fail
  generalize ((w.alloc (.cells #[.slice aR arn arc, .slice aBs abn abc, .int .i64 acols] 30)).alloc (.cells #[.slice none 0 0, .slice none 0 0, .int .i64 0] 30)) = wz at BA BR HB hz2 ⊢
  have HBD := Lib.hid (HB.trans ((Below.refl wz.heap.size wz).drew.mono HB.size))
  have HLD := Lib.hid ((Below.refl (w.heap.size + 2) wz).drew)
  have BAD := Lib.hid (BA.below ((Below.refl wz.heap.size wz).drew))
  have HZD := Lib.hid (show w.heap.size + 2 ≤ wz.drew.heap.size from hz2)
  have CI := Lib.hid (fun wx (H : Below (w.heap.size + 2) wz.drew wx) => cloneI_any aBs abn abc B aBV wx (ABH.out.below' (HBD.out.trans (H.mono (by omega))) hB) (Nat.le_trans hB (HBD.out.trans (H.mono (by omega))).size) ha3 hAB)
  go_cut [3] (fun v wx => ∃ (g : Nat) (Y : Option Addr) (d : Nat), v = .pointer (some ⟨g, 0, none⟩) ∧ Bx wx g [.slice none 0 0, .slice Y abn d, .int .i64 acols] ∧ wx.ownsRow (w.heap.size + 2) 3 1 (.slice Y abn d) abn (cellsI aBV abn) ∧ blk Y ≠ some g ∧ w.heap.size + 2 ≤ g ∧ Below (w.heap.size + 2) wz wx)
  case first =>
    refine wp_region_noPanic ?_
    refine wp_region_held_drew (S := (fun w' => w'.cell? ⟨w.heap.size, 1, none⟩ = some (.slice aBs abn abc) ∧ w'.cell? ⟨w.heap.size, 2, none⟩ = some (.int .i64 acols))) (by kernel_rfl) ?_ (fun hHeld => ?_)
    · exact ⟨BAD.out.2.1 1 _ rfl, BAD.out.2.1 2 _ rfl⟩
    have HQ := Lib.hid (Below.refl (w.heap.size + 2) wz.drew)
    refine takeN 0 (v := ?v3001) rfl (by kernel_rfl) (by kernel_rfl) (by kernel_rfl) (fun _ _ _ h => h) (by rfl) ?hy3001 (by assumption) ?r3001
    case hy3001 => (intro w hSw; (try dsimp only at hSw); first | (go_simp; done) | (go_simp; with_reducible rfl))
    simp only [Act.put, List.setIfInBounds_toArray, List.set_cons_zero, List.set_cons_succ]
    refine takeN 1 (v := ?v3002) rfl (by kernel_rfl) (by kernel_rfl) (by kernel_rfl) (fun _ _ _ h => h) (by rfl) ?hy3002 (by assumption) ?r3002
    case hy3002 => (intro w hSw; (try dsimp only at hSw); first | (go_simp; done) | (go_simp; with_reducible rfl))
    simp only [Act.put, List.setIfInBounds_toArray, List.set_cons_zero, List.set_cons_succ]
    refine takeN 3 (v := ?v3003) rfl (by kernel_rfl) (by kernel_rfl) (by kernel_rfl) (fun _ _ _ h => h) (by rfl) ?hy3003 (by assumption) ?r3003
    case hy3003 => (intro w hSw; (try dsimp only at hSw); first | (go_simp; done) | (go_simp; with_reducible rfl))
    simp only [Act.put, List.setIfInBounds_toArray, List.set_cons_zero, List.set_cons_succ]
    refine takeN 4 (v := ?v3004) rfl (by kernel_rfl) (by kernel_rfl) (by kernel_rfl) (fun _ _ _ h => h) (by rfl) ?hy3004 (by assumption) ?r3004
    case hy3004 => (intro w hSw; (try dsimp only at hSw); first | (go_simp; done) | (go_simp; with_reducible rfl))
    simp only [Act.put, List.setIfInBounds_toArray, List.set_cons_zero, List.set_cons_succ]
    refine twoN 2 6 (by kernel_rfl) rfl rfl (fun K hK => ?_) (fun K hK => ?_)
    · go_simp
      go_at_call 106
      refine (CI.out _ HQ.out).mono ?_
      rintro e wA ⟨vY, rfl, oy, hbA⟩
      obtain ⟨Y, d, rfl⟩ := own_form oy
      have HQ := Lib.hid (HQ.out.trans (hbA.mono (Nat.le_trans HZD.out HQ.out.size)))
      have OY := Lib.hid (own_low oy (Nat.le_trans HZD.out (by first | exact Nat.le_refl _ | simp)))
      clear oy hbA
      go_wp2_with fail
      refine hK.out _ _ ?_ (fun hHeld => ?_)
      · exact ⟨(bx_lo BAD.out HQ.out (by omega)).2.1 1 _ rfl, (bx_lo BAD.out HQ.out (by omega)).2.1 2 _ rfl⟩
      clear hK K
      try simp only [Act.put, List.setIfInBounds_toArray, List.set_cons_zero, List.set_cons_succ]
      refine takeN 5 (v := ?v3005) rfl (by kernel_rfl) (by kernel_rfl) (by kernel_rfl) (fun _ _ _ h => h) (by rfl) ?hy3005 (by assumption) ?r3005
      case hy3005 => (intro w hSw; (try dsimp only at hSw); first | (go_simp; done) | (go_simp; with_reducible rfl))
      simp only [Act.put, List.setIfInBounds_toArray, List.set_cons_zero, List.set_cons_succ]
      refine nextN 6 (by kernel_rfl) rfl (fun K hK => ?_)
      go_simp
      have BT : Bx (wA.alloc (.cells #[.slice none 0 0, .slice none 0 0, .int .i64 0] 30)) wA.heap.size [.slice none 0 0, .slice none 0 0, .int .i64 0] := Bx.new wA #[.slice none 0 0, .slice none 0 0, .int .i64 0] 30
      have hgl : w.heap.size + 2 ≤ wA.heap.size := Nat.le_trans HZD.out HQ.out.size
      have HQP := HQ
      have OYP := OY
      have hne : blk Y ≠ some wA.heap.size := fun e => by have h1 := (OY.out.lt _ (by rw [ownBlock_blk]; exact e)).2; omega
      have HQ := Lib.hid (HQ.out.alloc (Nat.le_trans HZD.out HQ.out.size) (.cells #[.slice none 0 0, .slice none 0 0, .int .i64 0] 30))
      have OY := Lib.hid (own_below OY.out ((Below.refl wA.heap.size wA).alloc (Nat.le_refl _) (.cells #[.slice none 0 0, .slice none 0 0, .int .i64 0] 30)))
      refine hK.out _ _ ?_ (fun hHeld => ?_)
      · exact ⟨(bx_lo BAD.out HQ.out (by omega)).2.1 1 _ rfl, (bx_lo BAD.out HQ.out (by omega)).2.1 2 _ rfl⟩
      clear hK K
      try simp only [Act.put, List.setIfInBounds_toArray, List.set_cons_zero, List.set_cons_succ]
      refine nextN 7 (by kernel_rfl) rfl (fun K hK => ?_)
      go_simp
      have BT : Bx (wA.alloc (.cells #[.slice none 0 0, .slice Y abn d, .int .i64 acols] 30)) wA.heap.size [.slice none 0 0, .slice Y abn d, .int .i64 acols] := Bx.new _ _ _
      have HQ := Lib.hid (HQP.out.alloc hgl (.cells #[.slice none 0 0, .slice Y abn d, .int .i64 acols] 30))
      have OY := Lib.hid (own_below OYP.out ((Below.refl wA.heap.size wA).alloc (Nat.le_refl _) (.cells #[.slice none 0 0, .slice Y abn d, .int .i64 acols] 30)))
      refine hK.out _ _ ?_ (fun hHeld => ?_)
      · exact ⟨(bx_lo BAD.out HQ.out (by omega)).2.1 1 _ rfl, (bx_lo BAD.out HQ.out (by omega)).2.1 2 _ rfl⟩
      clear hK K
      refine wpAnyH_done (by kernel_rfl) ?_ _
      refine NoPanic.normal ?_
      go_wp2_with fail
      go_meet
      exact ⟨wA.heap.size, Y, d, rfl, BT, OY.out, hne, hgl, HLD.out.trans HQ.out⟩
    · go_simp
      have BT : Bx (wz.drew.alloc (.cells #[.slice none 0 0, .slice none 0 0, .int .i64 0] 30)) wz.heap.size [.slice none 0 0, .slice none 0 0, .int .i64 0] := by
        have h := Bx.new wz.drew #[.slice none 0 0, .slice none 0 0, .int .i64 0] 30
        rwa [show wz.drew.heap.size = wz.heap.size by simp] at h
      have hgl : w.heap.size + 2 ≤ wz.heap.size := by
        have h := Nat.le_trans HZD.out HQ.out.size
        rwa [show wz.drew.heap.size = wz.heap.size by simp] at h
      have HQP := HQ
      have HQ := Lib.hid (HQ.out.alloc (Nat.le_trans HZD.out HQ.out.size) (.cells #[.slice none 0 0, .slice none 0 0, .int .i64 0] 30))
      refine hK.out _ _ ?_ (fun hHeld => ?_)
      · exact ⟨(bx_lo BAD.out HQ.out (by omega)).2.1 1 _ rfl, (bx_lo BAD.out HQ.out (by omega)).2.1 2 _ rfl⟩
      clear hK K
      try simp only [Act.put, List.setIfInBounds_toArray, List.set_cons_zero, List.set_cons_succ]
      refine nextN 2 (by kernel_rfl) rfl (fun K hK => ?_)
      go_simp
      go_at_call 106
      refine (CI.out _ HQ.out).mono ?_
      rintro e wA ⟨vY, rfl, oy, hbA⟩
      obtain ⟨Y, d, rfl⟩ := own_form oy
      have HQ := Lib.hid (HQ.out.trans (hbA.mono (Nat.le_trans HZD.out HQ.out.size)))
      have OY := Lib.hid (own_low oy (Nat.le_trans HZD.out (by first | exact Nat.le_refl _ | simp)))
      have BT := BT.below hbA
      have hne : blk Y ≠ some wz.heap.size := fun e => by have h1 := (oy.lt _ (by rw [ownBlock_blk]; exact e)).1; rw [show (wz.drew.alloc (.cells #[.slice none 0 0, .slice none 0 0, .int .i64 0] 30)).heap.size = wz.heap.size + 1 by simp] at h1; omega
      clear oy hbA
      go_wp2_with fail
      refine hK.out _ _ ?_ (fun hHeld => ?_)
      · exact ⟨(bx_lo BAD.out HQ.out (by omega)).2.1 1 _ rfl, (bx_lo BAD.out HQ.out (by omega)).2.1 2 _ rfl⟩
      clear hK K
      try simp only [Act.put, List.setIfInBounds_toArray, List.set_cons_zero, List.set_cons_succ]
      refine takeN 5 (v := ?v3007) rfl (by kernel_rfl) (by kernel_rfl) (by kernel_rfl) (fun _ _ _ h => h) (by rfl) ?hy3007 (by assumption) ?r3007
      case hy3007 => (intro w hSw; (try dsimp only at hSw); first | (go_simp; done) | (go_simp; with_reducible rfl))
      simp only [Act.put, List.setIfInBounds_toArray, List.set_cons_zero, List.set_cons_succ]
      have t0 := BT.2.1 0 _ rfl
      have t1 := BT.2.1 1 _ rfl
      have t2 := BT.2.1 2 _ rfl
      have tz := BT.1
      have tf := BT.2.2
      refine nextN 7 (by kernel_rfl) rfl (fun K hK => ?_)
      go_simp
      clear t0 t1 t2 tz tf
      have BT := BT.set (k := 0) (by simp) (.slice none 0 0)
      have HQ := Lib.hid (HQ.out.setCell (p := ⟨wz.heap.size, 0, none⟩) hgl (.slice none 0 0))
      have OY := Lib.hid (own_off OY.out (only_setCell (p := ⟨wz.heap.size, 0, none⟩) (World.grownBy.refl _ _) rfl (.slice none 0 0)) (fun q hq e => hne (by rw [ownBlock_blk] at hq; rw [hq]; exact e.symm)))
      have BT := BT.set (k := 1) (by simp) (.slice Y abn d)
      have HQ := Lib.hid (HQ.out.setCell (p := ⟨wz.heap.size, 1, none⟩) hgl (.slice Y abn d))
      have OY := Lib.hid (own_off OY.out (only_setCell (p := ⟨wz.heap.size, 1, none⟩) (World.grownBy.refl _ _) rfl (.slice Y abn d)) (fun q hq e => hne (by rw [ownBlock_blk] at hq; rw [hq]; exact e.symm)))
      have BT := BT.set (k := 2) (by simp) (.int .i64 acols)
      have HQ := Lib.hid (HQ.out.setCell (p := ⟨wz.heap.size, 2, none⟩) hgl (.int .i64 acols))
      have OY := Lib.hid (own_off OY.out (only_setCell (p := ⟨wz.heap.size, 2, none⟩) (World.grownBy.refl _ _) rfl (.int .i64 acols)) (fun q hq e => hne (by rw [ownBlock_blk] at hq; rw [hq]; exact e.symm)))
      refine hK.out _ _ ?_ (fun hHeld => ?_)
      · exact ⟨(bx_lo BAD.out HQ.out (by omega)).2.1 1 _ rfl, (bx_lo BAD.out HQ.out (by omega)).2.1 2 _ rfl⟩
      clear hK K
      refine wpAnyH_done (by kernel_rfl) ?_ _
      refine NoPanic.normal ?_
      go_wp2_with fail
      go_meet
      exact ⟨wz.heap.size, Y, d, rfl, BT, OY.out, hne, hgl, HLD.out.trans HQ.out⟩
  case rest =>
    obtain ⟨g3, Y, d, rfl, BT, oy, hne, hge, hq⟩ := hcut
    obtain ⟨wo, rfl⟩ : ∃ wo : World, wo = wc := ⟨_, rfl⟩
    have BA1 := Lib.hid BA
    have BR1 := Lib.hid BR
    have HB1 := Lib.hid HB
    have HT0 := Lib.hid (show OwnTab wo (w.heap.size + 2) wo.heap.size none 0 0 (fun _ => none) aRN (fun _ => 0) aRV Y abn d aBV from ⟨⟨World.ownsRow_nil _ _ _ _, (fun g hg => by cases hg), Rows.nil _ _ _ _ _ _ _ _ _ _⟩, oy, (fun g hg => ⟨(oy.lt g (by rw [ownBlock_blk]; exact hg)).2, (fun h => by cases h), fun i hi => absurd hi (Nat.not_lt_zero _)⟩), Nat.le_refl _⟩)
    have BTH := Lib.hid BT
    have HQ0 := Lib.hid hq
    have BA0 := bx_lo BA hq (by omega)
    have x0 := BA0.2.1 0 _ rfl
    clear BA BR HB BT oy hq BA0 CI BAD
    go_wp2
    clear x0
    go_loopw [15] (fun u wr => ∃ (i : Nat) (X : Option Addr) (c : Nat) (XA : Nat → Option Addr) (RC : Nat → Nat), i ≤ arn ∧ u = .int .i64 i ∧ OwnTab wr (w.heap.size + 2) wr.heap.size X i c XA aRN RC aRV Y abn d aBV ∧ Bx wr g3 [.slice X i c, .slice Y abn d, .int .i64 acols] ∧ (blk X ≠ some g3 ∧ ∀ k, k < i → blk (XA k) ≠ some g3) ∧ Below (w.heap.size + 2) wz wr) (fun u _ => arn - (intOf u).toNat)
    case atStart => exact ⟨0, none, 0, _, _, Nat.zero_le _, rfl, HT0.out, BTH.out, ⟨(fun h => by cases h), fun k hk => absurd hk (Nat.not_lt_zero _)⟩, HQ0.out⟩
    case round =>
      obtain ⟨i, X, c, XA, RC, hi, rfl, hT, BT, hoff, hq⟩ := hrel
      obtain ⟨wo2, rfl⟩ : ∃ wo : World, wo = wr := ⟨_, rfl⟩
      have BA := bx_lo BA1.out hq (by omega)
      have hb := HB1.out.trans (hq.mono (by omega))
      have x0 := BA.2.1 0 _ rfl
      by_cases hlt : i < arn
      · obtain ⟨b1, o1, rfl, hb1, hc1⟩ := ARH.out.1 (by omega)
        have x1 := (hb.cell (p := ⟨b1, o1 + i, none⟩) (by exact Nat.lt_of_lt_of_le hb1 hB)).trans (hc1 i hlt)
        have i0 : (0 : Int) ≤ (i : Int) := by omega
        have i1 : (i : Int) < (arn : Int) := by omega
        have DB := (Below.refl wo2.heap.size wo2).drew
        have HT := Lib.hid (hT.below DB)
        have BTX := Lib.hid BT
        have HQ := Lib.hid (hq.trans (DB.mono (by have := BT.1; omega)))
        have HBB := Lib.hid (hb.trans (DB.mono hb.size))
        have HROWI := Lib.hid ((ARH.out.2 i hlt).below HBB.out hB)
        have CR := Lib.hid (clone_any (aRA i) (aRN i) (aRC i) B (aRV i) wo2.drew HROWI.out (Nat.le_trans hB HBB.out.size) (HA2.out i hlt) (HAR.out i hlt))
        have HR := Lib.hid (Below.refl wo2.drew.heap.size wo2.drew)
        have HO82 := Lib.hid hoff
        have hz0 := BT.1
        have hlo : w.heap.size + 2 ≤ wo2.drew.heap.size := by show _ ≤ wo2.heap.size; omega
        have hb1z : b1 < wo2.drew.heap.size := Nat.lt_of_lt_of_le (Nat.lt_of_lt_of_le hb1 hB) HBB.out.size
        clear hT hoff hq hb hc1 DB BA
        go_upto_region 5 with fail
        have BA := bx_lo BA1.out HQ.out (by omega)
        have BT := BTX.out.below (Below.refl wo2.heap.size wo2).drew
        have x1 : wo2.drew.cell? ⟨b1, o1 + i, none⟩ = some (.slice (aRA i) (aRN i) (aRC i)) := x1
        refine wp_region_noPanic ?_
        refine regionG (S := (fun w' => w'.cell? ⟨g3, 0, none⟩ = some (.slice X i c))) 7 (by kernel_rfl) ?_ (fun hHeld => ?_)
        · exact BT.2.1 0 _ rfl
        refine takeG 0 (v := ?v1001_0) rfl rfl (by kernel_rfl) (by rfl) (by kernel_rfl) (by kernel_rfl) (by kernel_rfl) (fun _ _ _ h => h) (by rfl) ?hy1001_0 (by assumption) ?r1001_0
        case hy1001_0 => (intro w hSw; (try dsimp only at hSw); first | (go_simp; done) | (go_simp; with_reducible rfl))
        simp only [Act.put, List.setIfInBounds_toArray, List.set_cons_zero, List.set_cons_succ]
        refine takeG 1 (v := ?v1001_1) rfl rfl (by kernel_rfl) (by rfl) (by kernel_rfl) (by kernel_rfl) (by kernel_rfl) (fun _ _ _ h => h) (by rfl) ?hy1001_1 (by assumption) ?r1001_1
        case hy1001_1 => (intro w hSw; (try dsimp only at hSw); first | (go_simp; done) | (go_simp; with_reducible rfl))
        simp only [Act.put, List.setIfInBounds_toArray, List.set_cons_zero, List.set_cons_succ]
        refine takeG 2 (v := ?v1001_2) rfl rfl (by kernel_rfl) (by rfl) (by kernel_rfl) (by kernel_rfl) (by kernel_rfl) (fun _ _ _ h => h) (by rfl) ?hy1001_2 (by assumption) ?r1001_2
        case hy1001_2 => (intro w hSw; (try dsimp only at hSw); first | (go_simp; done) | (go_simp; with_reducible rfl))
        simp only [Act.put, List.setIfInBounds_toArray, List.set_cons_zero, List.set_cons_succ]
        refine nextG 3 (by kernel_rfl) rfl (by rfl) (fun K hK => ?_)
        go_simp
        go_at_call 66; refine CR.out.mono ?_; rintro e w4 ⟨v4, rfl, ow4, hb4⟩; obtain ⟨A4, c4, rfl⟩ := own_form ow4; have ROWLT := Lib.hid (fun g (h : blk A4 = some g) => (ow4.lt g (by rw [ownBlock_blk]; exact h)).1); have HROW := Lib.hid ow4; have HR := Lib.hid (HR.out.trans (hb4.mono HR.out.size)); have HQ := Lib.hid (HQ.out.trans (hb4.mono hlo)); have HQS := Lib.hid (Nat.le_trans hlo hb4.size); have BT := BT.below hb4; clear ow4 hb4
        go_wp2_with fail
        refine hK.out _ _ ?_ (fun hHeld => ?_)
        · exact BT.2.1 0 _ rfl
        clear hK K
        refine nextG 4 (by kernel_rfl) rfl (by rfl) (fun K hK => ?_)
        go_simp
        refine hK.out _ _ ?_ (fun hHeld => ?_)
        · exact (BT.alloc _).2.1 0 _ rfl
        clear hK K
        try simp only [Act.put, List.setIfInBounds_toArray, List.set_cons_zero, List.set_cons_succ]
        refine nextG 5 (by kernel_rfl) rfl (by rfl) (fun K hK => ?_)
        refine wp_rowpush _ _ _ 28 rfl (w.heap.size + 2) 36 (.slice none 0 0) 1 24 Try.underlying28 infoRows rfl (by decide) (.slice X i c) i _ rfl (own_below HT.out.rows.outer HR.out) [.slice A4 (aRN i) c4] rfl rfl (by simp [Value.oneCell']) (by decide) (by omega) HQS.out ?_; intro g6 cap6 w6 hown6 hg6 hat6 hlt6; have HQ := Lib.hid (HQ.out.trans (Below.of_grown hg6 HQS.out (fun k hk => (HT.out.rows.outer.lt k hk).1))); rw [ownBlock_blk] at hg6 hat6; have BT := bx_off BT hg6 HO82.out.1; have HT6 := Lib.hid (HT.out.pushRow hlo HR.out HROW.out hg6 hown6 hat6 hlt6); clear hown6 hg6
        refine hK.out _ _ ?_ (fun hHeld => ?_)
        · exact BT.2.1 0 _ rfl
        clear hK K
        try simp only [Act.put, List.setIfInBounds_toArray, List.set_cons_zero, List.set_cons_succ]
        refine takeG 6 (v := ?v1001_6) rfl rfl (by kernel_rfl) (by rfl) (by kernel_rfl) (by kernel_rfl) (by kernel_rfl) (fun _ _ _ h => h) (by rfl) ?hy1001_6 (by assumption) ?r1001_6
        case hy1001_6 => (intro w hSw; (try dsimp only at hSw); first | (go_simp; done) | (go_simp; with_reducible rfl))
        simp only [Act.put, List.setIfInBounds_toArray, List.set_cons_zero, List.set_cons_succ]
        refine lastG (by kernel_rfl) (by kernel_rfl) rfl (by rfl) (fun K hK => ?_)
        have y0 := BT.2.1 0 _ rfl
        have yf := BT.2.2 0
        have yz := BT.1
        go_simp
        refine hK.out _ _ ?_
        clear hK K
        refine NoPanic.normal ?_
        have BT7 := Lib.hid (BT.set (k := 0) (by simp) (.slice (some ⟨g6, 0, none⟩) (i + 1) cap6))
        have hn6 : blk (some (⟨g6, 0, none⟩ : Addr)) ≠ some g3 := fun e => by
          have e : g6 = g3 := by simpa [blk] using e
          rcases hat6 with h1 | h1
          · exact HO82.out.1 (by rw [h1, e])
          · have := HR.out.size
            have : wo2.drew.heap.size = wo2.heap.size := rfl
            omega
        have hnr : ∀ k, k < i + 1 → blk (if k = i then A4 else XA k) ≠ some g3 := fun k hk e => by
          by_cases ek : k = i
          · rw [if_pos ek] at e
            have := (ROWLT.out g3 e)
            have : wo2.drew.heap.size = wo2.heap.size := rfl
            omega
          · rw [if_neg ek] at e
            exact HO82.out.2 k (by omega) e
        have HT7 := Lib.hid ((HT6.out.setOff (a := ⟨g3, 0, none⟩) hn6 hne hnr (.slice (some ⟨g6, 0, none⟩) (i + 1) cap6)).wide (Nat.le_of_eq (size_setCell _ _ _).symm) (Nat.le_refl _))
        have HQ7 := Lib.hid (HQ.out.setCell (p := ⟨g3, 0, none⟩) hge (.slice (some ⟨g6, 0, none⟩) (i + 1) cap6))
        have HO827 := Lib.hid (And.intro hn6 hnr)
        clear BT HT6 HQ HR hn6 hnr hat6 HROW HQS y0 yf yz x0 x1 BA hHeld
        go_wp2
        go_roundw
        case rel => exact ⟨i + 1, _, _, _, _, by omega, by go_num, HT7.out, BT7.out, HO827.out, HQ7.out⟩
        case measure => simp [intOf]; omega
      · obtain rfl : arn = i := by omega
        have BR := bx_lo BR1.out hq (by omega)
        have z0 := BT.2.1 0 _ rfl
        have z1 := BT.2.1 1 _ rfl
        have z2 := BT.2.1 2 _ rfl
        have r0 := BR.2.1 0 _ rfl
        have r1 := BR.2.1 1 _ rfl
        have r2 := BR.2.1 2 _ rfl
        have rz := BR.1
        have rf := BR.2.2
        have HB := hb
        clear hb BA BT
        have BR := BR.set (k := 0) (by simp) (.slice X arn c)
        have hT := OwnTab.set hT (a := ⟨w.heap.size + 1, 0, none⟩) (by show w.heap.size + 1 < _; omega) (.slice X arn c)
        have HB := HB.setCell (p := ⟨w.heap.size + 1, 0, none⟩) (by show w.heap.size ≤ w.heap.size + 1; omega) (.slice X arn c)
        have BR := BR.set (k := 1) (by simp) (.slice Y abn d)
        have hT := OwnTab.set hT (a := ⟨w.heap.size + 1, 1, none⟩) (by show w.heap.size + 1 < _; omega) (.slice Y abn d)
        have HB := HB.setCell (p := ⟨w.heap.size + 1, 1, none⟩) (by show w.heap.size ≤ w.heap.size + 1; omega) (.slice Y abn d)
        have BR := BR.set (k := 2) (by simp) (.int .i64 acols)
        have hT := OwnTab.set hT (a := ⟨w.heap.size + 1, 2, none⟩) (by show w.heap.size + 1 < _; omega) (.int .i64 acols)
        have HB := HB.setCell (p := ⟨w.heap.size + 1, 2, none⟩) (by show w.heap.size ≤ w.heap.size + 1; omega) (.int .i64 acols)
        have f0 := BR.2.1 0 _ rfl
        have f1 := BR.2.1 1 _ rfl
        have f2 := BR.2.1 2 _ rfl
        have HBB := Lib.hid HB
        have OTT := Lib.hid (hT.low (lo' := w.heap.size) (by omega))
        clear HB BR hT
        go_wp2
        refine bodyPost_ret (v := .agg #[.slice X arn c, .slice Y abn d, .int .i64 acols]) (by simp [results, Try.results82, go_sem, f0, f1, f2]) rfl ⟨X, c, XA, RC, Y, d, _, rfl, OTT.out, HBB.out⟩

set_option maxHeartbeats 4000000 in
set_option maxRecDepth 20000 in
theorem tcopy_any (aR aBs : Option Addr) (arn arc abn abc : Nat) (acols : Int) (aRA : Nat → Option Addr) (aRN aRC : Nat → Nat) (aRV : Nat → Fr) (aBV : Nat → Int) (B : Nat) (w : World) (arr : RdR w B aR arn aRA aRN aRC aRV) (abb : Rd w B 1 aBs abn (cellsI aBV abn)) (hB : B ≤ w.heap.size) (ha1 : arn ≤ 1048576) (ha2 : ∀ j, j < arn → aRN j ≤ 1048576) (ha3 : abn ≤ 1048576) (hAB : aBs = none → abn = 0 ∧ abc = 0) (hAR : ∀ j, j < arn → aRA j = none → aRN j = 0 ∧ aRC j = 0) :
    Calls Try.prog 79 #[.agg #[.slice aR arn arc, .slice aBs abn abc, .int .i64 acols]] w (OwnsT arn abn acols aRN aRV aBV w) := by
  have BA : Bx ((w.alloc (.cells #[.slice aR arn arc, .slice aBs abn abc, .int .i64 acols] 30)).alloc (.cells #[.slice none 0 0, .slice none 0 0, .int .i64 0] 30)) w.heap.size [.slice aR arn arc, .slice aBs abn abc, .int .i64 acols] := (Bx.new w #[.slice aR arn arc, .slice aBs abn abc, .int .i64 acols] 30).alloc _
  have BR : Bx ((w.alloc (.cells #[.slice aR arn arc, .slice aBs abn abc, .int .i64 acols] 30)).alloc (.cells #[.slice none 0 0, .slice none 0 0, .int .i64 0] 30)) (w.heap.size + 1) [.slice none 0 0, .slice none 0 0, .int .i64 0] := by
    have h := Bx.new (w.alloc (.cells #[.slice aR arn arc, .slice aBs abn abc, .int .i64 acols] 30)) #[.slice none 0 0, .slice none 0 0, .int .i64 0] 30
    simpa using h
  have HB : Below w.heap.size w ((w.alloc (.cells #[.slice aR arn arc, .slice aBs abn abc, .int .i64 acols] 30)).alloc (.cells #[.slice none 0 0, .slice none 0 0, .int .i64 0] 30)) := ((Below.refl _ _).alloc (Nat.le_refl _) _).alloc (by simp) _
  have hz2 : w.heap.size + 2 ≤ ((w.alloc (.cells #[.slice aR arn arc, .slice aBs abn abc, .int .i64 acols] 30)).alloc (.cells #[.slice none 0 0, .slice none 0 0, .int .i64 0] 30)).heap.size := by simp
  have HA2 := Lib.hid ha2
  have HAR := Lib.hid hAR
  have ARH := Lib.hid arr
  have ABH := Lib.hid abb
  unfold OwnsT
  clear ha2 hAR arr abb
  go_enter Try.func79, Try.ntmps79
  go_upto_region 1 with fail
  generalize ((w.alloc (.cells #[.slice aR arn arc, .slice aBs abn abc, .int .i64 acols] 30)).alloc (.cells #[.slice none 0 0, .slice none 0 0, .int .i64 0] 30)) = wz at BA BR HB hz2 ⊢
  have HBD := Lib.hid (HB.trans ((Below.refl wz.heap.size wz).drew.mono HB.size))
  have HLD := Lib.hid ((Below.refl (w.heap.size + 2) wz).drew)
  have BAD := Lib.hid (BA.below ((Below.refl wz.heap.size wz).drew))
  have HZD := Lib.hid (show w.heap.size + 2 ≤ wz.drew.heap.size from hz2)
  have CI := Lib.hid (fun wx (H : Below (w.heap.size + 2) wz.drew wx) => cloneI_any aBs abn abc B aBV wx (ABH.out.below' (HBD.out.trans (H.mono (by omega))) hB) (Nat.le_trans hB (HBD.out.trans (H.mono (by omega))).size) ha3 hAB)
  go_cut [3] (fun v wx => ∃ (g : Nat) (Y : Option Addr) (d : Nat), v = .pointer (some ⟨g, 0, none⟩) ∧ Bx wx g [.slice none 0 0, .slice Y abn d, .int .i64 acols] ∧ wx.ownsRow (w.heap.size + 2) 3 1 (.slice Y abn d) abn (cellsI aBV abn) ∧ blk Y ≠ some g ∧ w.heap.size + 2 ≤ g ∧ Below (w.heap.size + 2) wz wx)
  case first =>
    refine wp_region_noPanic ?_
    refine wp_region_held_drew (S := (fun w' => w'.cell? ⟨w.heap.size, 1, none⟩ = some (.slice aBs abn abc) ∧ w'.cell? ⟨w.heap.size, 2, none⟩ = some (.int .i64 acols))) (by kernel_rfl) ?_ (fun hHeld => ?_)
    · exact ⟨BAD.out.2.1 1 _ rfl, BAD.out.2.1 2 _ rfl⟩
    have HQ := Lib.hid (Below.refl (w.heap.size + 2) wz.drew)
    refine takeN 1 (v := ?v3008) rfl (by kernel_rfl) (by kernel_rfl) (by kernel_rfl) (fun _ _ _ h => h) (by rfl) ?hy3008 (by assumption) ?r3008
    case hy3008 => (intro w hSw; (try dsimp only at hSw); first | (go_simp; done) | (go_simp; with_reducible rfl))
    simp only [Act.put, List.setIfInBounds_toArray, List.set_cons_zero, List.set_cons_succ]
    refine takeN 2 (v := ?v3009) rfl (by kernel_rfl) (by kernel_rfl) (by kernel_rfl) (fun _ _ _ h => h) (by rfl) ?hy3009 (by assumption) ?r3009
    case hy3009 => (intro w hSw; (try dsimp only at hSw); first | (go_simp; done) | (go_simp; with_reducible rfl))
    simp only [Act.put, List.setIfInBounds_toArray, List.set_cons_zero, List.set_cons_succ]
    refine takeN 4 (v := ?v3010) rfl (by kernel_rfl) (by kernel_rfl) (by kernel_rfl) (fun _ _ _ h => h) (by rfl) ?hy3010 (by assumption) ?r3010
    case hy3010 => (intro w hSw; (try dsimp only at hSw); first | (go_simp; done) | (go_simp; with_reducible rfl))
    simp only [Act.put, List.setIfInBounds_toArray, List.set_cons_zero, List.set_cons_succ]
    refine takeN 5 (v := ?v3011) rfl (by kernel_rfl) (by kernel_rfl) (by kernel_rfl) (fun _ _ _ h => h) (by rfl) ?hy3011 (by assumption) ?r3011
    case hy3011 => (intro w hSw; (try dsimp only at hSw); first | (go_simp; done) | (go_simp; with_reducible rfl))
    simp only [Act.put, List.setIfInBounds_toArray, List.set_cons_zero, List.set_cons_succ]
    refine twoN 0 7 (by kernel_rfl) rfl rfl (fun K hK => ?_) (fun K hK => ?_)
    · go_simp
      have OM : Hid ((wz.drew.alloc (.cells #[] 3)).ownsRow (w.heap.size + 2) 3 1 (.slice (some ⟨wz.heap.size, 0, none⟩) 0 0) 0 []) := Lib.hid (by rw [show wz.heap.size = wz.drew.heap.size by simp]; exact World.ownsRow_made wz.drew #[] 0 (Nat.le_trans HZD.out HQ.out.size) (by decide) rfl)
      have HQ := Lib.hid (HQ.out.alloc (Nat.le_trans HZD.out HQ.out.size) (.cells #[] 3))
      refine hK.out _ _ ?_ (fun hHeld => ?_)
      · exact ⟨(bx_lo BAD.out HQ.out (by omega)).2.1 1 _ rfl, (bx_lo BAD.out HQ.out (by omega)).2.1 2 _ rfl⟩
      clear hK K
      try simp only [Act.put, List.setIfInBounds_toArray, List.set_cons_zero, List.set_cons_succ]
      refine twoN 3 7 (by kernel_rfl) rfl rfl (fun K hK => ?_) (fun K hK => ?_)
      · rw [if_pos (by rfl)]
        refine wp_appI _ _ _ rfl (w.heap.size + 2) B (.slice (some ⟨wz.heap.size, 0, none⟩) 0 0) rfl OM.out aBs abn abc aBV rfl (ABH.out.below' (HBD.out.trans (HQ.out.mono (by omega))) hB) hAB ha3 (Nat.le_trans HZD.out HQ.out.size) ?_
        intro vY wA oy hgA hat
        obtain ⟨Y, d, rfl⟩ := own_form oy
        have hbA := Below.of_grown (B := w.heap.size + 2) hgA (Nat.le_trans HZD.out HQ.out.size) (fun k hk => (OM.out.lt k hk).1)
        have HQ := Lib.hid (HQ.out.trans hbA)
        have OY := Lib.hid oy
        clear oy hbA hgA hat
        refine hK.out _ _ ?_ (fun hHeld => ?_)
        · exact ⟨(bx_lo BAD.out HQ.out (by omega)).2.1 1 _ rfl, (bx_lo BAD.out HQ.out (by omega)).2.1 2 _ rfl⟩
        clear hK K
        try simp only [Act.put, List.setIfInBounds_toArray, List.set_cons_zero, List.set_cons_succ]
        refine takeN 6 (v := ?v3012) rfl (by kernel_rfl) (by kernel_rfl) (by kernel_rfl) (fun _ _ _ h => h) (by rfl) ?hy3012 (by assumption) ?r3012
        case hy3012 => (intro w hSw; (try dsimp only at hSw); first | (go_simp; done) | (go_simp; with_reducible rfl))
        simp only [Act.put, List.setIfInBounds_toArray, List.set_cons_zero, List.set_cons_succ]
        refine nextN 7 (by kernel_rfl) rfl (fun K hK => ?_)
        go_simp
        have BT : Bx (wA.alloc (.cells #[.slice none 0 0, .slice none 0 0, .int .i64 0] 30)) wA.heap.size [.slice none 0 0, .slice none 0 0, .int .i64 0] := Bx.new wA #[.slice none 0 0, .slice none 0 0, .int .i64 0] 30
        have hgl : w.heap.size + 2 ≤ wA.heap.size := Nat.le_trans HZD.out HQ.out.size
        have HQP := HQ
        have OYP := OY
        have hne : blk Y ≠ some wA.heap.size := fun e => by have h1 := (OY.out.lt _ (by rw [ownBlock_blk]; exact e)).2; omega
        have HQ := Lib.hid (HQ.out.alloc (Nat.le_trans HZD.out HQ.out.size) (.cells #[.slice none 0 0, .slice none 0 0, .int .i64 0] 30))
        have OY := Lib.hid (own_below OY.out ((Below.refl wA.heap.size wA).alloc (Nat.le_refl _) (.cells #[.slice none 0 0, .slice none 0 0, .int .i64 0] 30)))
        refine hK.out _ _ ?_ (fun hHeld => ?_)
        · exact ⟨(bx_lo BAD.out HQ.out (by omega)).2.1 1 _ rfl, (bx_lo BAD.out HQ.out (by omega)).2.1 2 _ rfl⟩
        clear hK K
        try simp only [Act.put, List.setIfInBounds_toArray, List.set_cons_zero, List.set_cons_succ]
        refine nextN 8 (by kernel_rfl) rfl (fun K hK => ?_)
        go_simp
        have BT : Bx (wA.alloc (.cells #[.slice none 0 0, .slice Y abn d, .int .i64 acols] 30)) wA.heap.size [.slice none 0 0, .slice Y abn d, .int .i64 acols] := Bx.new _ _ _
        have HQ := Lib.hid (HQP.out.alloc hgl (.cells #[.slice none 0 0, .slice Y abn d, .int .i64 acols] 30))
        have OY := Lib.hid (own_below OYP.out ((Below.refl wA.heap.size wA).alloc (Nat.le_refl _) (.cells #[.slice none 0 0, .slice Y abn d, .int .i64 acols] 30)))
        refine hK.out _ _ ?_ (fun hHeld => ?_)
        · exact ⟨(bx_lo BAD.out HQ.out (by omega)).2.1 1 _ rfl, (bx_lo BAD.out HQ.out (by omega)).2.1 2 _ rfl⟩
        clear hK K
        refine wpAnyH_done (by kernel_rfl) ?_ _
        refine NoPanic.normal ?_
        go_wp2_with fail
        go_meet
        exact ⟨wA.heap.size, Y, d, rfl, BT, OY.out, hne, hgl, HLD.out.trans HQ.out⟩
      · go_simp
        have BT : Bx ((wz.drew.alloc (.cells #[] 3)).alloc (.cells #[.slice none 0 0, .slice none 0 0, .int .i64 0] 30)) (wz.heap.size + 1) [.slice none 0 0, .slice none 0 0, .int .i64 0] := by
          have h := Bx.new (wz.drew.alloc (.cells #[] 3)) #[.slice none 0 0, .slice none 0 0, .int .i64 0] 30
          rwa [show (wz.drew.alloc (.cells #[] 3)).heap.size = (wz.heap.size + 1) by simp] at h
        have hgl : w.heap.size + 2 ≤ (wz.heap.size + 1) := by
          have h := Nat.le_trans HZD.out HQ.out.size
          rwa [show (wz.drew.alloc (.cells #[] 3)).heap.size = (wz.heap.size + 1) by simp] at h
        have HQP := HQ
        have HQ := Lib.hid (HQ.out.alloc (Nat.le_trans HZD.out HQ.out.size) (.cells #[.slice none 0 0, .slice none 0 0, .int .i64 0] 30))
        have OM := Lib.hid (own_below OM.out ((Below.refl (wz.drew.alloc (.cells #[] 3)).heap.size (wz.drew.alloc (.cells #[] 3))).alloc (Nat.le_refl _) (.cells #[.slice none 0 0, .slice none 0 0, .int .i64 0] 30)))
        refine hK.out _ _ ?_ (fun hHeld => ?_)
        · exact ⟨(bx_lo BAD.out HQ.out (by omega)).2.1 1 _ rfl, (bx_lo BAD.out HQ.out (by omega)).2.1 2 _ rfl⟩
        clear hK K
        try simp only [Act.put, List.setIfInBounds_toArray, List.set_cons_zero, List.set_cons_succ]
        refine nextN 3 (by kernel_rfl) rfl (fun K hK => ?_)
        rw [if_pos (by rfl)]
        refine wp_appI _ _ _ rfl (w.heap.size + 2) B (.slice (some ⟨wz.heap.size, 0, none⟩) 0 0) rfl OM.out aBs abn abc aBV rfl (ABH.out.below' (HBD.out.trans (HQ.out.mono (by omega))) hB) hAB ha3 (Nat.le_trans HZD.out HQ.out.size) ?_
        intro vY wA oy hgA hat
        obtain ⟨Y, d, rfl⟩ := own_form oy
        have hbA := Below.of_grown (B := w.heap.size + 2) hgA (Nat.le_trans HZD.out HQ.out.size) (fun k hk => (OM.out.lt k hk).1)
        have HQ := Lib.hid (HQ.out.trans hbA)
        have OY := Lib.hid oy
        have BT := bx_off BT hgA (fun e => by have e : some wz.heap.size = some (wz.heap.size + 1) := e; injection e with e; omega)
        have hne : blk Y ≠ some (wz.heap.size + 1) := fun e => by
          have e2 : (Value.slice Y abn d).ownBlock = some (wz.heap.size + 1) := by rw [ownBlock_blk]; exact e
          rcases hat with h1 | h1
          · have h1 : some (wz.heap.size + 1) = some wz.heap.size := e2.symm.trans h1
            injection h1 with h1
            omega
          · have h1 := e2.symm.trans h1
            injection h1 with h1
            have h4 := h1.trans (show _ = wz.heap.size + 2 by simp)
            omega
        clear oy hbA hgA hat
        refine hK.out _ _ ?_ (fun hHeld => ?_)
        · exact ⟨(bx_lo BAD.out HQ.out (by omega)).2.1 1 _ rfl, (bx_lo BAD.out HQ.out (by omega)).2.1 2 _ rfl⟩
        clear hK K
        try simp only [Act.put, List.setIfInBounds_toArray, List.set_cons_zero, List.set_cons_succ]
        refine takeN 6 (v := ?v3014) rfl (by kernel_rfl) (by kernel_rfl) (by kernel_rfl) (fun _ _ _ h => h) (by rfl) ?hy3014 (by assumption) ?r3014
        case hy3014 => (intro w hSw; (try dsimp only at hSw); first | (go_simp; done) | (go_simp; with_reducible rfl))
        simp only [Act.put, List.setIfInBounds_toArray, List.set_cons_zero, List.set_cons_succ]
        have t0 := BT.2.1 0 _ rfl
        have t1 := BT.2.1 1 _ rfl
        have t2 := BT.2.1 2 _ rfl
        have tz := BT.1
        have tf := BT.2.2
        refine nextN 8 (by kernel_rfl) rfl (fun K hK => ?_)
        go_simp
        clear t0 t1 t2 tz tf
        have BT := BT.set (k := 0) (by simp) (.slice none 0 0)
        have HQ := Lib.hid (HQ.out.setCell (p := ⟨(wz.heap.size + 1), 0, none⟩) hgl (.slice none 0 0))
        have OY := Lib.hid (own_off OY.out (only_setCell (p := ⟨(wz.heap.size + 1), 0, none⟩) (World.grownBy.refl _ _) rfl (.slice none 0 0)) (fun q hq e => hne (by rw [ownBlock_blk] at hq; rw [hq]; exact e.symm)))
        have BT := BT.set (k := 1) (by simp) (.slice Y abn d)
        have HQ := Lib.hid (HQ.out.setCell (p := ⟨(wz.heap.size + 1), 1, none⟩) hgl (.slice Y abn d))
        have OY := Lib.hid (own_off OY.out (only_setCell (p := ⟨(wz.heap.size + 1), 1, none⟩) (World.grownBy.refl _ _) rfl (.slice Y abn d)) (fun q hq e => hne (by rw [ownBlock_blk] at hq; rw [hq]; exact e.symm)))
        have BT := BT.set (k := 2) (by simp) (.int .i64 acols)
        have HQ := Lib.hid (HQ.out.setCell (p := ⟨(wz.heap.size + 1), 2, none⟩) hgl (.int .i64 acols))
        have OY := Lib.hid (own_off OY.out (only_setCell (p := ⟨(wz.heap.size + 1), 2, none⟩) (World.grownBy.refl _ _) rfl (.int .i64 acols)) (fun q hq e => hne (by rw [ownBlock_blk] at hq; rw [hq]; exact e.symm)))
        refine hK.out _ _ ?_ (fun hHeld => ?_)
        · exact ⟨(bx_lo BAD.out HQ.out (by omega)).2.1 1 _ rfl, (bx_lo BAD.out HQ.out (by omega)).2.1 2 _ rfl⟩
        clear hK K
        refine wpAnyH_done (by kernel_rfl) ?_ _
        refine NoPanic.normal ?_
        go_wp2_with fail
        go_meet
        exact ⟨(wz.heap.size + 1), Y, d, rfl, BT, OY.out, hne, hgl, HLD.out.trans HQ.out⟩
    · go_simp
      have BT : Bx (wz.drew.alloc (.cells #[.slice none 0 0, .slice none 0 0, .int .i64 0] 30)) wz.heap.size [.slice none 0 0, .slice none 0 0, .int .i64 0] := by
        have h := Bx.new wz.drew #[.slice none 0 0, .slice none 0 0, .int .i64 0] 30
        rwa [show wz.drew.heap.size = wz.heap.size by simp] at h
      have hgl : w.heap.size + 2 ≤ wz.heap.size := by
        have h := Nat.le_trans HZD.out HQ.out.size
        rwa [show wz.drew.heap.size = wz.heap.size by simp] at h
      have HQP := HQ
      have HQ := Lib.hid (HQ.out.alloc (Nat.le_trans HZD.out HQ.out.size) (.cells #[.slice none 0 0, .slice none 0 0, .int .i64 0] 30))
      refine hK.out _ _ ?_ (fun hHeld => ?_)
      · exact ⟨(bx_lo BAD.out HQ.out (by omega)).2.1 1 _ rfl, (bx_lo BAD.out HQ.out (by omega)).2.1 2 _ rfl⟩
      clear hK K
      try simp only [Act.put, List.setIfInBounds_toArray, List.set_cons_zero, List.set_cons_succ]
      refine nextN 0 (by kernel_rfl) rfl (fun K hK => ?_)
      go_simp
      have OM : Hid (((wz.drew.alloc (.cells #[.slice none 0 0, .slice none 0 0, .int .i64 0] 30)).alloc (.cells #[] 3)).ownsRow (w.heap.size + 2) 3 1 (.slice (some ⟨(wz.heap.size + 1), 0, none⟩) 0 0) 0 []) := Lib.hid (by rw [show (wz.heap.size + 1) = (wz.drew.alloc (.cells #[.slice none 0 0, .slice none 0 0, .int .i64 0] 30)).heap.size by simp]; exact World.ownsRow_made (wz.drew.alloc (.cells #[.slice none 0 0, .slice none 0 0, .int .i64 0] 30)) #[] 0 (Nat.le_trans HZD.out HQ.out.size) (by decide) rfl)
      have BT := BT.alloc (.cells #[] 3)
      have HQ := Lib.hid (HQ.out.alloc (Nat.le_trans HZD.out HQ.out.size) (.cells #[] 3))
      refine hK.out _ _ ?_ (fun hHeld => ?_)
      · exact ⟨(bx_lo BAD.out HQ.out (by omega)).2.1 1 _ rfl, (bx_lo BAD.out HQ.out (by omega)).2.1 2 _ rfl⟩
      clear hK K
      try simp only [Act.put, List.setIfInBounds_toArray, List.set_cons_zero, List.set_cons_succ]
      refine nextN 3 (by kernel_rfl) rfl (fun K hK => ?_)
      rw [if_pos (by rfl)]
      refine wp_appI _ _ _ rfl (w.heap.size + 2) B (.slice (some ⟨(wz.heap.size + 1), 0, none⟩) 0 0) rfl OM.out aBs abn abc aBV rfl (ABH.out.below' (HBD.out.trans (HQ.out.mono (by omega))) hB) hAB ha3 (Nat.le_trans HZD.out HQ.out.size) ?_
      intro vY wA oy hgA hat
      obtain ⟨Y, d, rfl⟩ := own_form oy
      have hbA := Below.of_grown (B := w.heap.size + 2) hgA (Nat.le_trans HZD.out HQ.out.size) (fun k hk => (OM.out.lt k hk).1)
      have HQ := Lib.hid (HQ.out.trans hbA)
      have OY := Lib.hid oy
      have BT := bx_off BT hgA (fun e => by have e : some (wz.heap.size + 1) = some wz.heap.size := e; injection e with e; omega)
      have hne : blk Y ≠ some wz.heap.size := fun e => by
        have e2 : (Value.slice Y abn d).ownBlock = some wz.heap.size := by rw [ownBlock_blk]; exact e
        rcases hat with h1 | h1
        · have h1 : some wz.heap.size = some (wz.heap.size + 1) := e2.symm.trans h1
          injection h1 with h1
          omega
        · have h1 := e2.symm.trans h1
          injection h1 with h1
          have h4 := h1.trans (show _ = wz.heap.size + 2 by simp)
          omega
      clear oy hbA hgA hat
      refine hK.out _ _ ?_ (fun hHeld => ?_)
      · exact ⟨(bx_lo BAD.out HQ.out (by omega)).2.1 1 _ rfl, (bx_lo BAD.out HQ.out (by omega)).2.1 2 _ rfl⟩
      clear hK K
      try simp only [Act.put, List.setIfInBounds_toArray, List.set_cons_zero, List.set_cons_succ]
      refine takeN 6 (v := ?v3015) rfl (by kernel_rfl) (by kernel_rfl) (by kernel_rfl) (fun _ _ _ h => h) (by rfl) ?hy3015 (by assumption) ?r3015
      case hy3015 => (intro w hSw; (try dsimp only at hSw); first | (go_simp; done) | (go_simp; with_reducible rfl))
      simp only [Act.put, List.setIfInBounds_toArray, List.set_cons_zero, List.set_cons_succ]
      have t0 := BT.2.1 0 _ rfl
      have t1 := BT.2.1 1 _ rfl
      have t2 := BT.2.1 2 _ rfl
      have tz := BT.1
      have tf := BT.2.2
      refine nextN 8 (by kernel_rfl) rfl (fun K hK => ?_)
      go_simp
      clear t0 t1 t2 tz tf
      have BT := BT.set (k := 0) (by simp) (.slice none 0 0)
      have HQ := Lib.hid (HQ.out.setCell (p := ⟨wz.heap.size, 0, none⟩) hgl (.slice none 0 0))
      have OY := Lib.hid (own_off OY.out (only_setCell (p := ⟨wz.heap.size, 0, none⟩) (World.grownBy.refl _ _) rfl (.slice none 0 0)) (fun q hq e => hne (by rw [ownBlock_blk] at hq; rw [hq]; exact e.symm)))
      have BT := BT.set (k := 1) (by simp) (.slice Y abn d)
      have HQ := Lib.hid (HQ.out.setCell (p := ⟨wz.heap.size, 1, none⟩) hgl (.slice Y abn d))
      have OY := Lib.hid (own_off OY.out (only_setCell (p := ⟨wz.heap.size, 1, none⟩) (World.grownBy.refl _ _) rfl (.slice Y abn d)) (fun q hq e => hne (by rw [ownBlock_blk] at hq; rw [hq]; exact e.symm)))
      have BT := BT.set (k := 2) (by simp) (.int .i64 acols)
      have HQ := Lib.hid (HQ.out.setCell (p := ⟨wz.heap.size, 2, none⟩) hgl (.int .i64 acols))
      have OY := Lib.hid (own_off OY.out (only_setCell (p := ⟨wz.heap.size, 2, none⟩) (World.grownBy.refl _ _) rfl (.int .i64 acols)) (fun q hq e => hne (by rw [ownBlock_blk] at hq; rw [hq]; exact e.symm)))
      refine hK.out _ _ ?_ (fun hHeld => ?_)
      · exact ⟨(bx_lo BAD.out HQ.out (by omega)).2.1 1 _ rfl, (bx_lo BAD.out HQ.out (by omega)).2.1 2 _ rfl⟩
      clear hK K
      refine wpAnyH_done (by kernel_rfl) ?_ _
      refine NoPanic.normal ?_
      go_wp2_with fail
      go_meet
      exact ⟨wz.heap.size, Y, d, rfl, BT, OY.out, hne, hgl, HLD.out.trans HQ.out⟩
  case rest =>
    obtain ⟨g3, Y, d, rfl, BT, oy, hne, hge, hq⟩ := hcut
    obtain ⟨wo, rfl⟩ : ∃ wo : World, wo = wc := ⟨_, rfl⟩
    have BA1 := Lib.hid BA
    have BR1 := Lib.hid BR
    have HB1 := Lib.hid HB
    have HT0 := Lib.hid (show OwnTab wo (w.heap.size + 2) wo.heap.size none 0 0 (fun _ => none) aRN (fun _ => 0) aRV Y abn d aBV from ⟨⟨World.ownsRow_nil _ _ _ _, (fun g hg => by cases hg), Rows.nil _ _ _ _ _ _ _ _ _ _⟩, oy, (fun g hg => ⟨(oy.lt g (by rw [ownBlock_blk]; exact hg)).2, (fun h => by cases h), fun i hi => absurd hi (Nat.not_lt_zero _)⟩), Nat.le_refl _⟩)
    have BTH := Lib.hid BT
    have HQ0 := Lib.hid hq
    have BA0 := bx_lo BA hq (by omega)
    have x0 := BA0.2.1 0 _ rfl
    clear BA BR HB BT oy hq BA0 CI BAD
    go_wp2
    clear x0
    go_loopw [4] (fun u wr => ∃ (i : Nat) (X : Option Addr) (c : Nat) (XA : Nat → Option Addr) (RC : Nat → Nat), i ≤ arn ∧ u = .int .i64 i ∧ OwnTab wr (w.heap.size + 2) wr.heap.size X i c XA aRN RC aRV Y abn d aBV ∧ Bx wr g3 [.slice X i c, .slice Y abn d, .int .i64 acols] ∧ (blk X ≠ some g3 ∧ ∀ k, k < i → blk (XA k) ≠ some g3) ∧ Below (w.heap.size + 2) wz wr) (fun u _ => arn - (intOf u).toNat)
    case atStart => exact ⟨0, none, 0, _, _, Nat.zero_le _, rfl, HT0.out, BTH.out, ⟨(fun h => by cases h), fun k hk => absurd hk (Nat.not_lt_zero _)⟩, HQ0.out⟩
    case round =>
      obtain ⟨i, X, c, XA, RC, hi, rfl, hT, BT, hoff, hq⟩ := hrel
      obtain ⟨wo2, rfl⟩ : ∃ wo : World, wo = wr := ⟨_, rfl⟩
      have BA := bx_lo BA1.out hq (by omega)
      have hb := HB1.out.trans (hq.mono (by omega))
      have x0 := BA.2.1 0 _ rfl
      by_cases hlt : i < arn
      · obtain ⟨b1, o1, rfl, hb1, hc1⟩ := ARH.out.1 (by omega)
        have x1 := (hb.cell (p := ⟨b1, o1 + i, none⟩) (by exact Nat.lt_of_lt_of_le hb1 hB)).trans (hc1 i hlt)
        have i0 : (0 : Int) ≤ (i : Int) := by omega
        have i1 : (i : Int) < (arn : Int) := by omega
        have DB := (Below.refl wo2.heap.size wo2).drew
        have HT := Lib.hid (hT.below DB)
        have BTX := Lib.hid BT
        have HQ := Lib.hid (hq.trans (DB.mono (by have := BT.1; omega)))
        have HBB := Lib.hid (hb.trans (DB.mono hb.size))
        have HROWI := Lib.hid ((ARH.out.2 i hlt).below HBB.out hB)
        have CR := Lib.hid (copy_any (aRA i) (aRN i) (aRC i) B (aRV i) wo2.drew HROWI.out (Nat.le_trans hB HBB.out.size) (HA2.out i hlt) (HAR.out i hlt))
        have HR := Lib.hid (Below.refl wo2.drew.heap.size wo2.drew)
        have HO79 := Lib.hid hoff
        have hz0 := BT.1
        have hlo : w.heap.size + 2 ≤ wo2.drew.heap.size := by show _ ≤ wo2.heap.size; omega
        have hb1z : b1 < wo2.drew.heap.size := Nat.lt_of_lt_of_le (Nat.lt_of_lt_of_le hb1 hB) HBB.out.size
        clear hT hoff hq hb hc1 DB BA
        go_upto_region 5 with fail
        have BA := bx_lo BA1.out HQ.out (by omega)
        have BT := BTX.out.below (Below.refl wo2.heap.size wo2).drew
        have x1 : wo2.drew.cell? ⟨b1, o1 + i, none⟩ = some (.slice (aRA i) (aRN i) (aRC i)) := x1
        refine wp_region_noPanic ?_
        refine regionG (S := (fun w' => w'.cell? ⟨g3, 0, none⟩ = some (.slice X i c) ∧ w'.cell? ⟨w.heap.size, 0, none⟩ = some (.slice (some ⟨b1, o1, none⟩) arn arc) ∧ w'.cell? ⟨b1, o1 + i, none⟩ = some (.slice (aRA i) (aRN i) (aRC i)))) 11 (by kernel_rfl) ?_ (fun hHeld => ?_)
        · exact ⟨BT.2.1 0 _ rfl, BA.2.1 0 _ rfl, x1⟩
        refine takeG 0 (v := ?v1002_0) rfl rfl (by kernel_rfl) (by rfl) (by kernel_rfl) (by kernel_rfl) (by kernel_rfl) (fun _ _ _ h => h) (by rfl) ?hy1002_0 (by assumption) ?r1002_0
        case hy1002_0 => (intro w hSw; (try dsimp only at hSw); first | (go_simp; done) | (go_simp; with_reducible rfl))
        simp only [Act.put, List.setIfInBounds_toArray, List.set_cons_zero, List.set_cons_succ]
        refine takeG 1 (v := ?v1002_1) rfl rfl (by kernel_rfl) (by rfl) (by kernel_rfl) (by kernel_rfl) (by kernel_rfl) (fun _ _ _ h => h) (by rfl) ?hy1002_1 (by assumption) ?r1002_1
        case hy1002_1 => (intro w hSw; (try dsimp only at hSw); first | (go_simp; done) | (go_simp; with_reducible rfl))
        simp only [Act.put, List.setIfInBounds_toArray, List.set_cons_zero, List.set_cons_succ]
        refine takeG 2 (v := ?v1002_2) rfl rfl (by kernel_rfl) (by rfl) (by kernel_rfl) (by kernel_rfl) (by kernel_rfl) (fun _ _ _ h => h) (by rfl) ?hy1002_2 (by assumption) ?r1002_2
        case hy1002_2 => (intro w hSw; (try dsimp only at hSw); first | (go_simp; done) | (go_simp; with_reducible rfl))
        simp only [Act.put, List.setIfInBounds_toArray, List.set_cons_zero, List.set_cons_succ]
        refine takeG 3 (v := ?v1002_3) rfl rfl (by kernel_rfl) (by rfl) (by kernel_rfl) (by kernel_rfl) (by kernel_rfl) (fun _ _ _ h => h) (by rfl) ?hy1002_3 (by assumption) ?r1002_3
        case hy1002_3 => (intro w hSw; (try dsimp only at hSw); first | (go_simp; done) | (go_simp; with_reducible rfl))
        simp only [Act.put, List.setIfInBounds_toArray, List.set_cons_zero, List.set_cons_succ]
        refine takeG 4 (v := ?v1002_4) rfl rfl (by kernel_rfl) (by rfl) (by kernel_rfl) (by kernel_rfl) (by kernel_rfl) (fun _ _ _ h => h) (by rfl) ?hy1002_4 (by assumption) ?r1002_4
        case hy1002_4 => (intro w hSw; (try dsimp only at hSw); first | (go_simp; done) | (go_simp; with_reducible rfl))
        simp only [Act.put, List.setIfInBounds_toArray, List.set_cons_zero, List.set_cons_succ]
        refine takeG 5 (v := ?v1002_5) rfl rfl (by kernel_rfl) (by rfl) (by kernel_rfl) (by kernel_rfl) (by kernel_rfl) (fun _ _ _ h => h) (by rfl) ?hy1002_5 (by assumption) ?r1002_5
        case hy1002_5 => (intro w hSw; (try dsimp only at hSw); first | (go_simp; done) | (go_simp; with_reducible rfl))
        simp only [Act.put, List.setIfInBounds_toArray, List.set_cons_zero, List.set_cons_succ]
        refine takeG 6 (v := ?v1002_6) rfl rfl (by kernel_rfl) (by rfl) (by kernel_rfl) (by kernel_rfl) (by kernel_rfl) (fun _ _ _ h => h) (by rfl) ?hy1002_6 (by assumption) ?r1002_6
        case hy1002_6 => (intro w hSw; (try dsimp only at hSw); first | (go_simp; done) | (go_simp; with_reducible rfl))
        simp only [Act.put, List.setIfInBounds_toArray, List.set_cons_zero, List.set_cons_succ]
        refine nextG 7 (by kernel_rfl) rfl (by rfl) (fun K hK => ?_)
        go_simp
        go_at_call 62; refine CR.out.mono ?_; rintro e w4 ⟨v4, rfl, ow4, hb4⟩; obtain ⟨A4, c4, rfl⟩ := own_form ow4; have ROWLT := Lib.hid (fun g (h : blk A4 = some g) => (ow4.lt g (by rw [ownBlock_blk]; exact h)).1); have HROW := Lib.hid ow4; have HR := Lib.hid (HR.out.trans (hb4.mono HR.out.size)); have HQ := Lib.hid (HQ.out.trans (hb4.mono hlo)); have HQS := Lib.hid (Nat.le_trans hlo hb4.size); have BT := BT.below hb4; have BA := BA.below hb4; have x1 := (hb4.cell (p := ⟨b1, o1 + i, none⟩) hb1z).trans x1; have hb1c := Nat.lt_of_lt_of_le hb1z hb4.size; clear ow4 hb4
        go_wp2_with fail
        refine hK.out _ _ ?_ (fun hHeld => ?_)
        · exact ⟨BT.2.1 0 _ rfl, BA.2.1 0 _ rfl, x1⟩
        clear hK K
        refine nextG 8 (by kernel_rfl) rfl (by rfl) (fun K hK => ?_)
        go_simp
        refine hK.out _ _ ?_ (fun hHeld => ?_)
        · exact ⟨(BT.alloc _).2.1 0 _ rfl, (BA.alloc _).2.1 0 _ rfl, (((Below.refl _ _).alloc (Nat.le_refl _) _).cell (p := ⟨b1, o1 + i, none⟩) hb1c).trans x1⟩
        clear hK K
        try simp only [Act.put, List.setIfInBounds_toArray, List.set_cons_zero, List.set_cons_succ]
        refine nextG 9 (by kernel_rfl) rfl (by rfl) (fun K hK => ?_)
        refine wp_rowpush _ _ _ 28 rfl (w.heap.size + 2) 36 (.slice none 0 0) 1 24 Try.underlying28 infoRows rfl (by decide) (.slice X i c) i _ rfl (own_below HT.out.rows.outer HR.out) [.slice A4 (aRN i) c4] rfl rfl (by simp [Value.oneCell']) (by decide) (by omega) HQS.out ?_; intro g6 cap6 w6 hown6 hg6 hat6 hlt6; have HQ := Lib.hid (HQ.out.trans (Below.of_grown hg6 HQS.out (fun k hk => (HT.out.rows.outer.lt k hk).1))); rw [ownBlock_blk] at hg6 hat6; have BT := bx_off BT hg6 HO79.out.1; have HT6 := Lib.hid (HT.out.pushRow hlo HR.out HROW.out hg6 hown6 hat6 hlt6); have BA := bx_lo BA (Below.of_grown (B := w.heap.size + 2) hg6 HQS.out (fun k hk => (HT.out.rows.outer.lt k (by rw [ownBlock_blk]; exact hk)).1)) (by omega); have x1 := ((Below.of_grown (B := w.heap.size + 2) hg6 HQS.out (fun k hk => (HT.out.rows.outer.lt k (by rw [ownBlock_blk]; exact hk)).1)).cell (p := ⟨b1, o1 + i, none⟩) (by show b1 < _; omega)).trans x1; clear hown6 hg6
        refine hK.out _ _ ?_ (fun hHeld => ?_)
        · exact ⟨BT.2.1 0 _ rfl, BA.2.1 0 _ rfl, x1⟩
        clear hK K
        try simp only [Act.put, List.setIfInBounds_toArray, List.set_cons_zero, List.set_cons_succ]
        refine takeG 10 (v := ?v1002_10) rfl rfl (by kernel_rfl) (by rfl) (by kernel_rfl) (by kernel_rfl) (by kernel_rfl) (fun _ _ _ h => h) (by rfl) ?hy1002_10 (by assumption) ?r1002_10
        case hy1002_10 => (intro w hSw; (try dsimp only at hSw); first | (go_simp; done) | (go_simp; with_reducible rfl))
        simp only [Act.put, List.setIfInBounds_toArray, List.set_cons_zero, List.set_cons_succ]
        refine lastG (by kernel_rfl) (by kernel_rfl) rfl (by rfl) (fun K hK => ?_)
        have y0 := BT.2.1 0 _ rfl
        have yf := BT.2.2 0
        have yz := BT.1
        go_simp
        refine hK.out _ _ ?_
        clear hK K
        refine NoPanic.normal ?_
        have BT7 := Lib.hid (BT.set (k := 0) (by simp) (.slice (some ⟨g6, 0, none⟩) (i + 1) cap6))
        have hn6 : blk (some (⟨g6, 0, none⟩ : Addr)) ≠ some g3 := fun e => by
          have e : g6 = g3 := by simpa [blk] using e
          rcases hat6 with h1 | h1
          · exact HO79.out.1 (by rw [h1, e])
          · have := HR.out.size
            have : wo2.drew.heap.size = wo2.heap.size := rfl
            omega
        have hnr : ∀ k, k < i + 1 → blk (if k = i then A4 else XA k) ≠ some g3 := fun k hk e => by
          by_cases ek : k = i
          · rw [if_pos ek] at e
            have := (ROWLT.out g3 e)
            have : wo2.drew.heap.size = wo2.heap.size := rfl
            omega
          · rw [if_neg ek] at e
            exact HO79.out.2 k (by omega) e
        have HT7 := Lib.hid ((HT6.out.setOff (a := ⟨g3, 0, none⟩) hn6 hne hnr (.slice (some ⟨g6, 0, none⟩) (i + 1) cap6)).wide (Nat.le_of_eq (size_setCell _ _ _).symm) (Nat.le_refl _))
        have HQ7 := Lib.hid (HQ.out.setCell (p := ⟨g3, 0, none⟩) hge (.slice (some ⟨g6, 0, none⟩) (i + 1) cap6))
        have HO797 := Lib.hid (And.intro hn6 hnr)
        clear BT HT6 HQ HR hn6 hnr hat6 HROW HQS y0 yf yz x0 x1 BA hHeld
        go_wp2
        go_roundw
        case rel => exact ⟨i + 1, _, _, _, _, by omega, by go_num, HT7.out, BT7.out, HO797.out, HQ7.out⟩
        case measure => simp [intOf]; omega
      · obtain rfl : arn = i := by omega
        have BR := bx_lo BR1.out hq (by omega)
        have z0 := BT.2.1 0 _ rfl
        have z1 := BT.2.1 1 _ rfl
        have z2 := BT.2.1 2 _ rfl
        have r0 := BR.2.1 0 _ rfl
        have r1 := BR.2.1 1 _ rfl
        have r2 := BR.2.1 2 _ rfl
        have rz := BR.1
        have rf := BR.2.2
        have HB := hb
        clear hb BA BT
        have BR := BR.set (k := 0) (by simp) (.slice X arn c)
        have hT := OwnTab.set hT (a := ⟨w.heap.size + 1, 0, none⟩) (by show w.heap.size + 1 < _; omega) (.slice X arn c)
        have HB := HB.setCell (p := ⟨w.heap.size + 1, 0, none⟩) (by show w.heap.size ≤ w.heap.size + 1; omega) (.slice X arn c)
        have BR := BR.set (k := 1) (by simp) (.slice Y abn d)
        have hT := OwnTab.set hT (a := ⟨w.heap.size + 1, 1, none⟩) (by show w.heap.size + 1 < _; omega) (.slice Y abn d)
        have HB := HB.setCell (p := ⟨w.heap.size + 1, 1, none⟩) (by show w.heap.size ≤ w.heap.size + 1; omega) (.slice Y abn d)
        have BR := BR.set (k := 2) (by simp) (.int .i64 acols)
        have hT := OwnTab.set hT (a := ⟨w.heap.size + 1, 2, none⟩) (by show w.heap.size + 1 < _; omega) (.int .i64 acols)
        have HB := HB.setCell (p := ⟨w.heap.size + 1, 2, none⟩) (by show w.heap.size ≤ w.heap.size + 1; omega) (.int .i64 acols)
        have f0 := BR.2.1 0 _ rfl
        have f1 := BR.2.1 1 _ rfl
        have f2 := BR.2.1 2 _ rfl
        have HBB := Lib.hid HB
        have OTT := Lib.hid (hT.low (lo' := w.heap.size) (by omega))
        clear HB BR hT
        go_wp2
        refine bodyPost_ret (v := .agg #[.slice X arn c, .slice Y abn d, .int .i64 acols]) (by simp [results, Try.results79, go_sem, f0, f1, f2]) rfl ⟨X, c, XA, RC, Y, d, _, rfl, OTT.out, HBB.out⟩

end Go.Proofs.Ytajafmdeencohaa
