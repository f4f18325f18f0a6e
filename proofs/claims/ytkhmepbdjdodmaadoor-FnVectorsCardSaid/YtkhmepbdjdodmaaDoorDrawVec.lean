/-
  Contracts of the draws of vectors: l4Draw, DrawAddScaled, DrawIntsToRats.
-/
import Derived.Test.YtkhmepbdjdodmaaDoorDrawRat
import Derived.Test.YtkhmepbdjdodmaaDoorI2R
namespace Go.Proofs.YtkhmepbdjdodmaaDoor
open Go.RowKit
attribute [local go_sem ↓] Go.wp_at_zero Go.wp_at_succ

theorem takeL {P : Program} {ops : Array Oper} {Q : Exit → Act → World → Prop} {md : Region.Mode} {S : World → Prop} (i : Nat) {oi : Oper} {v : Value} {fuel : Nat} {listed : Array Bool} {a : Act} {w : World} (hi : ops.toList[i]? = some oi)
    (hs : Region.noSelect ops = true) (hf : Region.free md ops listed i = true) (hr : (Region.ready md ops listed).contains i = true)
    (hQ : ∀ c a w, Q (.panic c) (a.put oi.dst v) w → Q (.panic c) a w) (hw : Region.wanted oi (yielded ops a.tmps) = true) (hy : ∀ w, S w → (execOp a.eval oi).run P w = .ok (.value v) w) (hS : S w)
    (h : wpAnyH P md ops Q S fuel (listed.setIfInBounds i true) (a.put oi.dst v) w) : wpAnyH P md ops Q S (fuel + 1) listed a w :=
  wpAnyH_take (by rw [← Array.getElem?_toList]; exact hi) hs hf hr hQ (Or.inl ⟨hw, hy⟩) hS h
theorem skipL {P : Program} {ops : Array Oper} {Q : Exit → Act → World → Prop} {md : Region.Mode} {S : World → Prop} (i : Nat) {oi : Oper} {fuel : Nat} {listed : Array Bool} {a : Act} {w : World} (hi : ops.toList[i]? = some oi)
    (hs : Region.noSelect ops = true) (hf : Region.free md ops listed i = true) (hr : (Region.ready md ops listed).contains i = true)
    (hQ : ∀ c a w, Q (.panic c) (a.put oi.dst undef) w → Q (.panic c) a w) (hw : Region.wanted oi (yielded ops a.tmps) = false) (hS : S w)
    (h : wpAnyH P md ops Q S fuel (listed.setIfInBounds i true) (a.put oi.dst undef) w) : wpAnyH P md ops Q S (fuel + 1) listed a w :=
  wpAnyH_take (by rw [← Array.getElem?_toList]; exact hi) hs hf hr hQ (Or.inr ⟨hw, rfl⟩) hS h
theorem nextL {P : Program} {ops : Array Oper} {Q : Exit → Act → World → Prop} {md : Region.Mode} {S : World → Prop} (i : Nat) {o : Oper} {fuel : Nat} {listed : Array Bool} {a : Act} {w : World} (hr : Region.ready md ops listed = [i]) (ho : ops.toList[i]? = some o)
    (h : ∀ K' : Act → World → Prop, Shut (∀ a w, S w → (S w → wpAnyH P md ops Q S fuel (listed.setIfInBounds i true) a w) → K' a w) → if Region.wanted o (yielded ops a.tmps) = true then Oper.wp P o a w K' Q else K' (a.put o.dst undef) w) : wpAnyH P md ops Q S (fuel + 1) listed a w :=
  wpAnyH_ready hr (by simp) (AllReadyH.cons (by rw [← Array.getElem?_toList]; exact ho) h AllReadyH.nil)

theorem memL {P : Program} {ops : Array Oper} {Q : Exit → Act → World → Prop} {md : Region.Mode} {S : World → Prop} (i : Nat) {o : Oper} {fuel : Nat} {listed : Array Bool} {a : Act} {w : World} (hr : Region.ready md ops listed = [i]) (ho : ops.toList[i]? = some o)
    (h : ∀ K' : Act → World → Prop, Shut (∀ a w, S w → (S w → wpAnyH P md ops Q S fuel (listed.setIfInBounds i true) a w) → K' a w) → if Region.wanted o (yielded ops a.tmps) = true then Oper.wp P o a w K' Q else K' (a.put o.dst undef) w) : wpAnyH P md ops Q S (fuel + 1) listed a w := nextL i hr ho h
theorem Stp.belowB {W w0 w1 w' : World} {g B : Nat} (hs : Stp W g w0 w1) (hb : Below B w1 w') (h0 : w0.heap.size ≤ B) (hW : W.heap.size ≤ B) (hg : g < B) : Stp W g w0 w' :=
  ⟨⟨hs.1.1.trans (hb.mono hW), hs.1.2.keep' hb.size (fun i hi => hb.block i (by rcases hi with hi | hi <;> omega))⟩, hb.os.trans hs.2.os, hb.tape.trans hs.2.tape, hb.output.trans hs.2.output, Nat.le_trans hs.2.size hb.size,
   fun i hi hne => (hb.block i (Nat.lt_of_lt_of_le hi h0)).trans (hs.2.block i hi hne)⟩
theorem RdP.stp {W w w' : World} {B n g : Nat} {A : Option Addr} {V : Fr} (h : RdP w B A n V) (hs : Stp W g w w') (hB : B ≤ w.heap.size) (hne : ∀ b off, A = some ⟨b, off, none⟩ → b ≠ g) : RdP w' B A n V := fun hn => by
  obtain ⟨b, off, e, hb, hc⟩ := h hn
  have hbw : b < w.heap.size := Nat.lt_of_lt_of_le hb hB
  exact ⟨b, off, e, hb, fun j hj => ⟨(hs.cell hbw (hne b off e)).trans (hc j hj).1, (hs.cell hbw (hne b off e)).trans (hc j hj).2⟩⟩

theorem l4Draw_any (W w : World) (g : Nat) (n : Nat) (hn : n ≤ 8) (hd : Dr W g w) :
    Calls Tryd.prog 65 #[.pointer (some ⟨g, 0, none⟩), .int .i64 n] w fun e w' => ∃ (v : Value) (V : Fr), e = .returned v ∧ w'.ownsRow w.heap.size 27 2 v n (cellsV V n) ∧ Stp W g w w' := by
  have HD := Lib.hid hd
  have hg := hd.lt
  have hW : W.heap.size ≤ w.heap.size := hd.1.size
  clear hd
  go_enter Tryd.func65, Tryd.ntmps65
  go_wp2
  go_loopw [5, 6] (fun o u wr => ∃ (j : Nat) (V : Fr), j ≤ n ∧ u = .int .i64 j ∧ wr.ownsRow w.heap.size 27 2 o j (cellsV V j) ∧ Hid (Stp W g w wr)) (fun _ u _ => n - (intOf u).toNat)
  case atStart => exact ⟨0, fun _ => (0, 0), Nat.zero_le _, rfl, World.ownsRow_made w #[] 0 (Nat.le_refl _) (by decide) rfl, Lib.hid ((Stp.refl HD.out).alloc _)⟩
  case round =>
    obtain ⟨j, V, hj, rfl, hown, HS⟩ := hrel
    by_cases hlt : j < n
    · go_wp2_with fail
      refine (l3Draw_any _ _ _ HS.out.1).mono ?_
      rintro e w1 ⟨a, b, rfl, hs⟩
      have hown := own_grown hown hs.2 (fun k hk => by injection hk with hk; omega)
      have HS1 := Lib.hid (HS.out.trans hs)
      clear hs
      have HSN := Lib.hid (cellsV_snoc V j a b)
      go_wp2_with (at_builtin; refine wpList_push _ rfl _ _ 37 rfl w.heap.size 27 (.agg #[.int .i64 0, .int .i64 0]) 2 16 Tryd.underlying37 infoRat rfl (by decide) _ _ _ rfl hown [.int .i64 a, .int .i64 b] rfl rfl (by simp [Value.oneCell']) (by decide) (by omega) HS1.out.2.size ?_)
      intro v' w' hown' hk
      have HS2 := Lib.hid (HS1.out.belowB (hk _ _ (Nat.le_refl _) (Below.refl _ w1)) (Nat.le_refl _) hW hg)
      clear hk
      rw [HSN.out] at hown'
      go_wp2
      go_roundw
      case rel => exact ⟨j + 1, _, by omega, by go_num, hown', HS2⟩
      case measure => simp [intOf]; omega
    · obtain rfl : j = n := by omega
      go_wp2
      go_ret
      exact ⟨_, V, rfl, hown, HS.out⟩

set_option maxRecDepth 20000 in
set_option maxHeartbeats 2000000 in
theorem drawAddScaled_any (A : Option Addr) (n c : Nat) (w : World) (hn : (n : Int) ≤ 1048576) (hr : RdB w w.heap.size A n) :
    Calls Tryd.prog 29 #[.slice A n c] w fun e w' => ∃ (A1 A2 : Option Addr) (c1 c2 n1 n2 : Nat) (V1 V2 : Fr) (kx ky : Int), (n1 ≤ 8 ∧ n2 ≤ 8) ∧ e = .returned (.tuple #[.slice A1 n1 c1, .agg #[.int .i64 kx, .int .i64 ky], .slice A2 n2 c2]) ∧ RdP w' w'.heap.size A1 n1 V1 ∧ RdP w' w'.heap.size A2 n2 V2 ∧ Below w.heap.size w w' := by
  go_enter Tryd.func29, Tryd.ntmps29
  go_wp2_with fail
  refine (l1New_any _ _ _ w _ ((Below.refl _ _).alloc (Nat.le_refl _) _) hn hr).mono ?_
  rintro e w0 ⟨g, rfl, hd, hb, hg⟩
  simp at hg
  have X0 : Box w0 w.heap.size 0 0 := (Box.new w 0 0 _).below hb
  have HD0 := Lib.hid hd
  clear hd hb
  go_wp2_with fail
  refine (l1Below_any _ _ _ _ (by decide) (by decide) HD0.out).mono ?_
  rintro e w1 ⟨x, x0, x1, rfl, hs⟩
  obtain ⟨i, rfl⟩ : ∃ i : Nat, x = i := ⟨x.toNat, by omega⟩
  have X0 := X0.stp hs (by omega)
  have HD1 := Lib.hid hs.1
  clear hs HD0
  have hg1 := HD1.out.lt
  go_wp2_with fail
  refine (l4Draw_any w _ g i (by omega) HD1.out).mono ?_
  rintro e w2 ⟨v1, V1, rfl, ow, hs⟩
  have X0 := X0.stp hs (by omega)
  have HD2 := Lib.hid hs.1
  clear hs
  go_wp2_with fail
  refine (l3Draw_any _ _ _ HD2.out).mono ?_
  rintro e w3 ⟨kx, ky, rfl, hs⟩
  have X0 := X0.stp hs (by omega)
  have ow := own_grown ow hs.2 (fun q hq => by injection hq with hq; omega)
  have HD3 := Lib.hid hs.1
  clear hs
  have hg3 := HD3.out.lt
  have hz3 := X0.2.2.2.2
  have X4 := (Box.new w3 kx ky 27).below (Below.refl _ _).drew
  have X0 := (X0.alloc (.cells #[.int .i64 kx, .int .i64 ky] 27)).below (Below.refl _ _).drew
  have ow := own_below (own_below ow ((Below.refl _ w3).alloc (Nat.le_refl _) (.cells #[.int .i64 kx, .int .i64 ky] 27))) (Below.refl _ _).drew
  have HD4 := Lib.hid ((HD3.out.alloc (.cells #[.int .i64 kx, .int .i64 ky] 27)).drew)
  obtain ⟨A1, c1, rfl⟩ := own_form ow
  go_upto_region 5 with fail
  refine wp_region_noPanic ?_
  refine wp_region_held_drew (S := (fun w' => w'.cell? ⟨w3.heap.size, 0, none⟩ = some (.int .i64 kx) ∧ w'.cell? ⟨w3.heap.size, 1, none⟩ = some (.int .i64 ky))) (by kernel_rfl) ?_ (fun hHeld => ?_)
  · exact ⟨X4.1, X4.2.1⟩
  refine takeL 0 (v := ?vv0) rfl (by kernel_rfl) (by kernel_rfl) (by kernel_rfl) (fun _ _ _ h => h) (by rfl) ?hh0 (by assumption) ?rr0
  case hh0 => (intro w hSw; (try dsimp only at hSw); first | (go_simp; done) | (go_simp; with_reducible rfl))
  simp only [Act.put, List.setIfInBounds_toArray, List.set_cons_zero, List.set_cons_succ]
  refine takeL 1 (v := ?vv1) rfl (by kernel_rfl) (by kernel_rfl) (by kernel_rfl) (fun _ _ _ h => h) (by rfl) ?hh1 (by assumption) ?rr1
  case hh1 => (intro w hSw; (try dsimp only at hSw); first | (go_simp; done) | (go_simp; with_reducible rfl))
  simp only [Act.put, List.setIfInBounds_toArray, List.set_cons_zero, List.set_cons_succ]
  refine takeL 2 (v := ?vv2) rfl (by kernel_rfl) (by kernel_rfl) (by kernel_rfl) (fun _ _ _ h => h) (by rfl) ?hh2 (by assumption) ?rr2
  case hh2 => (intro w hSw; (try dsimp only at hSw); first | (go_simp; done) | (go_simp; with_reducible rfl))
  simp only [Act.put, List.setIfInBounds_toArray, List.set_cons_zero, List.set_cons_succ]
  refine takeL 3 (v := ?vv3) rfl (by kernel_rfl) (by kernel_rfl) (by kernel_rfl) (fun _ _ _ h => h) (by rfl) ?hh3 (by assumption) ?rr3
  case hh3 => (intro w hSw; (try dsimp only at hSw); first | (go_simp; done) | (go_simp; with_reducible rfl))
  simp only [Act.put, List.setIfInBounds_toArray, List.set_cons_zero, List.set_cons_succ]
  refine takeL 4 (v := ?vv4) rfl (by kernel_rfl) (by kernel_rfl) (by kernel_rfl) (fun _ _ _ h => h) (by rfl) ?hh4 (by assumption) ?rr4
  case hh4 => (intro w hSw; (try dsimp only at hSw); first | (go_simp; done) | (go_simp; with_reducible rfl))
  simp only [Act.put, List.setIfInBounds_toArray, List.set_cons_zero, List.set_cons_succ]
  refine memL 5 (by kernel_rfl) rfl (fun K hK => ?_)
  go_simp
  refine hK.out _ _ ?_ (fun hHeld => ?_)
  · exact ⟨(X4.alloc _).1, (X4.alloc _).2.1⟩
  clear hK K
  refine nextL 6 (by kernel_rfl) rfl (fun K hK => ?_)
  go_simp
  go_at_call 67; refine (l1PickInt_any w _ g _ 4 (fun z => 0 ≤ z ∧ z ≤ 1) ((HD4.out.alloc _)) (by decide) (by decide) (by have := HD4.out.lt; simp at this ⊢; omega) (Lst.new' _ (by first | rfl | (simp; done)) (by intro v hv; simp at hv; rcases hv with rfl | rfl <;> exact ⟨_, by decide, rfl⟩))).mono ?_; rintro e w5 ⟨z, ⟨z0, z1⟩, rfl, hs⟩; obtain ⟨k, rfl⟩ : ∃ k : Nat, z = k := ⟨z.toNat, by omega⟩; have X4 := (X4.alloc _).stp hs (by omega); have X0 := (X0.alloc _).stp hs (by omega); have ow := own_grown (own_below ow ((Below.refl _ _).alloc (Nat.le_refl _) _)) hs.2 (fun q hq => by injection hq with hq; omega); have HD5 := Lib.hid hs.1; have hz5 := X0.2.2.2.2; clear hs
  go_wp2_with fail
  refine hK.out _ _ ?_ (fun hHeld => ?_)
  · exact ⟨X4.1, X4.2.1⟩
  clear hK K
  refine takeL 7 (v := ?vv7) rfl (by kernel_rfl) (by kernel_rfl) (by kernel_rfl) (fun _ _ _ h => h) (by rfl) ?hh7 (by assumption) ?rr7
  case hh7 => (intro w hSw; (try dsimp only at hSw); first | (go_simp; done) | (go_simp; with_reducible rfl))
  simp only [Act.put, List.setIfInBounds_toArray, List.set_cons_zero, List.set_cons_succ]
  try simp only [show IntKind.i64.wrap ((i : Int) + (k : Int)) = ((i + k : Nat) : Int) from by rw [IntKind.wrap_i64]; omega]
  refine nextL 8 (by kernel_rfl) rfl (fun K hK => ?_)
  go_simp
  go_at_call 65; refine (l4Draw_any w _ g (i + k) (by omega) HD5.out).mono ?_; rintro e w6 ⟨v2, V2, rfl, ow2, hs⟩; obtain ⟨A2, c2, rfl⟩ := own_form ow2; have X4 := X4.stp hs (by omega); have X0 := X0.stp hs (by omega); have ow := own_grown ow hs.2 (fun q hq => by injection hq with hq; omega); have HD6 := Lib.hid hs.1; clear hs
  go_wp2_with fail
  refine hK.out _ _ ?_ (fun hHeld => ?_)
  · exact ⟨X4.1, X4.2.1⟩
  clear hK K
  refine takeL 9 (v := ?vv9) rfl (by kernel_rfl) (by kernel_rfl) (by kernel_rfl) (fun _ _ _ h => h) (by rfl) ?hh9 (by assumption) ?rr9
  case hh9 => (intro w hSw; (try dsimp only at hSw); first | (go_simp; done) | (go_simp; with_reducible rfl))
  simp only [Act.put, List.setIfInBounds_toArray, List.set_cons_zero, List.set_cons_succ]
  obtain ⟨x40, x41, _, _, x44⟩ := id X4
  obtain ⟨x00, x01, x02, x03, x04⟩ := id X0
  refine memL 10 (by kernel_rfl) rfl (fun K hK => ?_)
  go_simp
  refine hK.out _ _ ?_ (fun hHeld => ?_)
  · exact ⟨(Box.other X4 (by omega)).1, (Box.other X4 (by omega)).2.1⟩
  clear hK K
  refine takeL 11 (v := ?vv11) rfl (by kernel_rfl) (by kernel_rfl) (by kernel_rfl) (fun _ _ _ h => h) (by rfl) ?hh11 (by assumption) ?rr11
  case hh11 => (intro w hSw; (try dsimp only at hSw); first | (go_simp; done) | (go_simp; with_reducible rfl))
  simp only [Act.put, List.setIfInBounds_toArray, List.set_cons_zero, List.set_cons_succ]
  refine wpAnyH_done (by kernel_rfl) ?_ _
  refine NoPanic.normal ?_
  have f0 := (Box.store X0 kx ky).1
  have f1 := (Box.store X0 kx ky).2.1
  have q1 := Lib.hid (RdP.of_own (ownsRow_setCell_below (ownsRow_setCell_below ow (a := ⟨w.heap.size, 0, none⟩) (by show w.heap.size < w1.heap.size; omega) (.int .i64 kx)) (a := ⟨w.heap.size, 1, none⟩) (by show w.heap.size < w1.heap.size; omega) (.int .i64 ky)))
  have q2 := Lib.hid (RdP.of_own (ownsRow_setCell_below (ownsRow_setCell_below ow2 (a := ⟨w.heap.size, 0, none⟩) (by show w.heap.size < w5.heap.size; omega) (.int .i64 kx)) (a := ⟨w.heap.size, 1, none⟩) (by show w.heap.size < w5.heap.size; omega) (.int .i64 ky)))
  clear ow ow2
  go_wp2
  refine bodyPost_ret (v := .tuple #[.slice A1 i c1, .agg #[.int .i64 kx, .int .i64 ky], .slice A2 (i + k) c2]) (by simp [results, Tryd.results29, go_sem, f0, f1]) rfl ⟨A1, A2, c1, c2, i, i + k, V1, V2, kx, ky, ⟨by omega, by omega⟩, rfl, q1.out, q2.out, ?_⟩
  exact (HD6.out.1.setCell (Nat.le_refl _) _).setCell (Nat.le_refl _) _

theorem drawIntsToRats_any (A : Option Addr) (n c : Nat) (w : World) (hn : (n : Int) ≤ 1048576) (hr : RdB w w.heap.size A n) :
    Calls Tryd.prog 36 #[.slice A n c] w fun e w' => ∃ (A1 : Option Addr) (c1 n1 : Nat) (V : Nat → Int), n1 ≤ 8 ∧ e = .returned (.slice A1 n1 c1) ∧ Rd w' w'.heap.size 1 A1 n1 (cellsI V n1) ∧ Below w.heap.size w w' := by
  go_enter Tryd.func36, Tryd.ntmps36
  go_wp2_with fail
  refine (l1New_any _ _ _ w w (Below.refl _ _) hn hr).mono ?_
  rintro e w0 ⟨g, rfl, hd, _, _⟩
  have HD0 := Lib.hid hd
  have hg := hd.lt
  have hW : w.heap.size ≤ w0.heap.size := hd.1.size
  clear hd
  go_wp2_with fail
  refine (l1Below_any _ _ _ _ (by decide) (by decide) (HD0.out.alloc _)).mono ?_
  rintro e w1 ⟨x, x0, x1, rfl, hs⟩
  obtain ⟨m, rfl⟩ : ∃ m : Nat, x = m := ⟨x.toNat, by omega⟩
  have h0 : w1.ownsRow w0.heap.size 3 1 (.slice (some ⟨w0.heap.size, 0, none⟩) 0 0) 0 (cellsI (fun _ => 0) 0) := own_grown (World.ownsRow_made w0 #[] 0 (Nat.le_refl _) (by decide) rfl) hs.2 (fun q hq => by injection hq with hq; omega)
  have HS1' := Lib.hid (((Stp.refl HD0.out).alloc _).trans hs)
  clear hs
  go_wp2
  go_loopw [4, 6] (fun o u wr => ∃ (j : Nat) (V : Nat → Int), j ≤ m ∧ u = .int .i64 j ∧ wr.ownsRow w0.heap.size 3 1 o j (cellsI V j) ∧ Hid (Stp w g w0 wr)) (fun _ u _ => m - (intOf u).toNat)
  case atStart => exact ⟨0, fun _ => 0, Nat.zero_le _, rfl, h0, HS1'⟩
  case round =>
    obtain ⟨j, V, hj, rfl, hown, HS⟩ := hrel
    by_cases hlt : j < m
    · have hgr := HS.out.1.lt
      go_wp2_with fail
      refine (l1PickInt_any w _ g _ 4 (fun _ => True) (HS.out.1.alloc _) (by decide) (by decide) (by omega) (Lst.new' _ (by first | rfl | (simp; done)) (by intro v hv; simp at hv; rcases hv with rfl | rfl | rfl | rfl <;> exact ⟨_, trivial, rfl⟩))).mono ?_
      rintro e w2 ⟨z, _, rfl, hs⟩
      have hown := own_grown (own_below hown ((Below.refl _ _).alloc (Nat.le_refl _) _)) hs.2 (fun q hq => by injection hq with hq; omega)
      have HS1 := Lib.hid ((HS.out.alloc _).trans hs)
      clear hs
      have HSN : cellsI V j ++ [.int .i64 z] = cellsI (fun i => if i = j then z else V i) (j + 1) := by
        apply List.ext_getElem?
        intro i
        by_cases h1 : i < j
        · rw [List.getElem?_append_left (by simp [cellsI, listI]; omega), cellsI_at _ h1, cellsI_at _ (by omega), if_neg (by omega)]
        · by_cases h2 : i = j
          · subst h2
            rw [List.getElem?_append_right (by simp [cellsI, listI]), cellsI_at _ (by omega), if_pos rfl]
            simp [cellsI, listI]
          · rw [List.getElem?_eq_none (by simp [cellsI, listI]; omega), List.getElem?_eq_none (by simp [cellsI, listI]; omega)]
      have HSN := Lib.hid HSN
      go_wp2_with (at_builtin; refine wpList_push _ rfl _ _ 53 rfl w0.heap.size 3 (.int .i64 0) 1 8 Tryd.underlying53 infoInt rfl (by decide) _ _ _ rfl hown [.int .i64 z] rfl rfl (by simp [Value.oneCell']) (by decide) (by omega) HS1.out.2.size ?_)
      intro v' w' hown' hk
      have HS2 := Lib.hid (HS1.out.belowB (hk _ _ (Nat.le_refl _) (Below.refl _ w2)) (Nat.le_refl _) hW hg)
      clear hk
      go_wp2
      go_roundw
      case rel => exact ⟨j + 1, _, by omega, by go_num, hown', HS2⟩
      case measure => simp [intOf]; omega
    · obtain rfl : j = m := by omega
      obtain ⟨A1, c1, rfl⟩ := own_form hown
      have HR := Lib.hid (Rd.of_own hown)
      clear hown h0
      go_wp2
      go_ret
      exact ⟨A1, c1, j, V, by omega, rfl, HR.out, HS.out.1.1⟩

end Go.Proofs.YtkhmepbdjdodmaaDoor
