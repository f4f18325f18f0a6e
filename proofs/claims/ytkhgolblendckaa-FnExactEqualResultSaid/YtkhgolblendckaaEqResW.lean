/-
  A result of a linear program that came in, read field by field; the law FnExactEqualResult walked: it returns true.
-/
import Derived.Test.YtkhgolblendckaaEqRes
namespace Go.Proofs.Ytkhgolblendckaa
open Go.RowKit Go.ChangeShapes Go.WideShapes
attribute [local go_sem ↓] Go.wp_at_zero Go.wp_at_succ

theorem takeL {P : Program} {ops : Array Oper} {Q : Exit → Act → World → Prop} {md : Region.Mode} {S : World → Prop} (i : Nat) {oi : Oper} {v : Value} {fuel : Nat} {listed : Array Bool} {a : Act} {w : World} (hi : ops.toList[i]? = some oi)
    (hs : Region.noSelect ops = true) (hf : Region.free md ops listed i = true) (hr : (Region.ready md ops listed).contains i = true)
    (hQ : ∀ c a w, Q (.panic c) (a.put oi.dst v) w → Q (.panic c) a w) (hw : Region.wanted oi (yielded ops a.tmps) = true) (hy : ∀ w, S w → (execOp a.eval oi).run P w = .ok (.value v) w) (hS : S w)
    (h : wpAnyH P md ops Q S fuel (listed.setIfInBounds i true) (a.put oi.dst v) w) : wpAnyH P md ops Q S (fuel + 1) listed a w :=
  wpAnyH_take (by rw [← Array.getElem?_toList]; exact hi) hs hf hr hQ (Or.inl ⟨hw, hy⟩) hS h
theorem skipL {P : Program} {ops : Array Oper} {Q : Exit → Act → World → Prop} {md : Region.Mode} {S : World → Prop} (i : Nat) {oi : Oper} {fuel : Nat} {listed : Array Bool} {a : Act} {w : World} (hi : ops.toList[i]? = some oi)
    (hs : Region.noSelect ops = true) (hf : Region.free md ops listed i = true) (hr : (Region.ready md ops listed).contains i = true)
    (hQ : ∀ c a w, Q (.panic c) (a.put oi.dst undef) w → Q (.panic c) a w) (hw : Region.wanted oi (yielded ops a.tmps) = false) (hS : S w)
    (h : wpAnyH P md ops Q S fuel (listed.setIfInBounds i true) (a.put oi.dst undef) w) : wpAnyH P md ops Q S (fuel + 1) listed a w :=
  wpAnyH_take (by rw [← Array.getElem?_toList]; exact hi) hs hf hr hQ (Or.inr ⟨hw, rfl⟩) hS h
theorem nextL {P : Program} {ops : Array Oper} {Q : Exit → Act → World → Prop} {md : Region.Mode} {S : World → Prop} (i : Nat) {o : Oper} {fuel : Nat} {listed : Array Bool} {a : Act} {w : World} (hr : Region.ready md ops listed = [i]) (ho : ops.toList[i]? = some o)
    (h : ∀ K' : Act → World → Prop, Shut (∀ a w, S w → (S w → wpAnyH P md ops Q S fuel (listed.setIfInBounds i true) a w) → K' a w) → if Region.wanted o (yielded ops a.tmps) = true then Oper.wp P o a w K' Q else K' (a.put o.dst undef) w) : wpAnyH P md ops Q S (fuel + 1) listed a w :=
  wpAnyH_ready hr (by simp) (AllReadyH.cons (by rw [← Array.getElem?_toList]; exact ho) h AllReadyH.nil)

theorem array7 {α : Type} {cs : Array α} (h : cs.size = 7) : ∃ c0 c1 c2 c3 c4 c5 c6, cs = #[c0, c1, c2, c3, c4, c5, c6] := by
  obtain ⟨l⟩ := cs
  match l, h with
  | [c0, c1, c2, c3, c4, c5, c6], _ => exact ⟨c0, c1, c2, c3, c4, c5, c6, rfl⟩
theorem kLpr : Try.prog.cellsOf 41 = 7 := by kernel_rfl
theorem kRat : Try.prog.cellsOf 39 = 2 := by kernel_rfl
theorem kInt : Try.prog.cellsOf 3 = 1 := by kernel_rfl
theorem kRats : Try.prog.cellsOf 22 = 1 := by kernel_rfl
theorem open_lpr {H : Type} {enc : TypeId × Value → H} {w : World} {r : Reach} {b0 base : Nat} {held : Bool} {v : Value} {d : DataW H} {ps : List MemPlace}
    (hval : Value.okWide Try.prog w r b0 41 v)
    (h : DataW.Trod enc Try.prog w base (fun _ => true) held 41 v d ps) :
    ∃ (ast avn avd apv : Int) (a1 a2 a3 : Option Addr) (an1 an2 an3 ac1 ac2 ac3 : Nat) (aV1 aV2 aV3 : Fr), v = .agg #[.int .i64 ast, .slice a1 an1 ac1, .slice a2 an2 ac2, .slice a3 an3 ac3, .int .i64 avn, .int .i64 avd, .int .i64 apv] ∧ (an1 ≤ maxLen ∧ an2 ≤ maxLen ∧ an3 ≤ maxLen) ∧
      RdP w w.heap.size a1 an1 aV1 ∧ RdP w w.heap.size a2 an2 aV2 ∧ RdP w w.heap.size a3 an3 aV3 := by
  obtain ⟨cs, rfl, hsz⟩ := okWide_struct Try.underlying41 hval
  obtain ⟨c0, c1, c2, c3, c4, c5, c6, rfl⟩ := array7 (hsz.trans kLpr)
  obtain ⟨fuel, hf⟩ := h
  obtain ⟨xs, n, _, _, _, hlen, hx⟩ := DataW.trod_struct Try.underlying41 hf
  obtain ⟨y0, y1, y2, y3, y4, y5, rfl⟩ : ∃ y0 y1 y2 y3 y4 y5, xs = [y0, y1, y2, y3, y4, y5] := by
    match xs, hlen with
    | [y0, y1, y2, y3, y4, y5], _ => exact ⟨y0, y1, y2, y3, y4, y5, rfl⟩
  have k0 : DataW.trod enc Try.prog w base (fun _ => true) held n 3 ((([c0, c1, c2, c3, c4, c5, c6] : List Value).drop 0).take (Try.prog.cellsOf 3)) = some y0 := hx 0 _ rfl
  rw [kInt] at k0
  have k0 : DataW.trod enc Try.prog w base (fun _ => true) held n 3 [c0] = some y0 := k0
  have k1 : DataW.trod enc Try.prog w base (fun _ => true) held n 22 ((([c0, c1, c2, c3, c4, c5, c6] : List Value).drop 1).take (Try.prog.cellsOf 22)) = some y1 := hx 1 _ rfl
  rw [kRats] at k1
  have k1 : DataW.trod enc Try.prog w base (fun _ => true) held n 22 [c1] = some y1 := k1
  have k2 : DataW.trod enc Try.prog w base (fun _ => true) held n 22 ((([c0, c1, c2, c3, c4, c5, c6] : List Value).drop 2).take (Try.prog.cellsOf 22)) = some y2 := hx 2 _ rfl
  rw [kRats] at k2
  have k2 : DataW.trod enc Try.prog w base (fun _ => true) held n 22 [c2] = some y2 := k2
  have k3 : DataW.trod enc Try.prog w base (fun _ => true) held n 22 ((([c0, c1, c2, c3, c4, c5, c6] : List Value).drop 3).take (Try.prog.cellsOf 22)) = some y3 := hx 3 _ rfl
  rw [kRats] at k3
  have k3 : DataW.trod enc Try.prog w base (fun _ => true) held n 22 [c3] = some y3 := k3
  have k4 : DataW.trod enc Try.prog w base (fun _ => true) held n 39 ((([c0, c1, c2, c3, c4, c5, c6] : List Value).drop 4).take (Try.prog.cellsOf 39)) = some y4 := hx 4 _ rfl
  rw [kRat] at k4
  have k4 : DataW.trod enc Try.prog w base (fun _ => true) held n 39 [c4, c5] = some y4 := k4
  have k5 : DataW.trod enc Try.prog w base (fun _ => true) held n 3 ((([c0, c1, c2, c3, c4, c5, c6] : List Value).drop 6).take (Try.prog.cellsOf 3)) = some y5 := hx 5 _ rfl
  rw [kInt] at k5
  have k5 : DataW.trod enc Try.prog w base (fun _ => true) held n 3 [c6] = some y5 := k5
  obtain ⟨z0, z1, n2, _, _, j0, j1⟩ := trod_struct2 Try.underlying39 k4
  have j0 : DataW.trod enc Try.prog w base (fun _ => true) held n2 3 ((([c4, c5] : List Value).drop 0).take (Try.prog.cellsOf 3)) = some z0 := j0
  have j1 : DataW.trod enc Try.prog w base (fun _ => true) held n2 3 ((([c4, c5] : List Value).drop 1).take (Try.prog.cellsOf 3)) = some z1 := j1
  rw [kInt] at j0 j1
  have j0 : DataW.trod enc Try.prog w base (fun _ => true) held n2 3 [c4] = some z0 := j0
  have j1 : DataW.trod enc Try.prog w base (fun _ => true) held n2 3 [c5] = some z1 := j1
  obtain ⟨st, e0, _, _⟩ := DataW.trod_int Try.underlying3 k0
  obtain ⟨vn, e4, _, _⟩ := DataW.trod_int Try.underlying3 j0
  obtain ⟨vd, e5, _, _⟩ := DataW.trod_int Try.underlying3 j1
  obtain ⟨pv, e6, _, _⟩ := DataW.trod_int Try.underlying3 k5
  obtain ⟨a1, n1, c1', V1, e1, m1, r1, _⟩ := rats_cells Try.underlying22 k1
  obtain ⟨a2, n2', c2', V2, e2, m2, r2, _⟩ := rats_cells Try.underlying22 k2
  obtain ⟨a3, n3, c3', V3, e3, m3, r3, _⟩ := rats_cells Try.underlying22 k3
  simp only [List.cons.injEq, and_true] at e0 e1 e2 e3 e4 e5 e6
  subst e0 e1 e2 e3 e4 e5 e6
  exact ⟨st, vn, vd, pv, a1, a2, a3, n1, n2', n3, c1', c2', c3', V1, V2, V3, rfl, ⟨m1, m2, m3⟩, r1, r2, r3⟩

set_option maxRecDepth 40000 in
set_option maxHeartbeats 4000000 in
theorem fnExactEqualResult_walk {w : World} (ast avn avd apv : Int) (a1 a2 a3 : Option Addr) (an1 an2 an3 ac1 ac2 ac3 : Nat) (aV1 aV2 aV3 : Fr) (hma : an1 ≤ maxLen ∧ an2 ≤ maxLen ∧ an3 ≤ maxLen) (ra1 : RdP w w.heap.size a1 an1 aV1) (ra2 : RdP w w.heap.size a2 an2 aV2) (ra3 : RdP w w.heap.size a3 an3 aV3) (bst bvn bvd bpv : Int) (b1 b2 b3 : Option Addr) (bn1 bn2 bn3 bc1 bc2 bc3 : Nat) (bV1 bV2 bV3 : Fr) (hmb : bn1 ≤ maxLen ∧ bn2 ≤ maxLen ∧ bn3 ≤ maxLen) (rb1 : RdP w w.heap.size b1 bn1 bV1) (rb2 : RdP w w.heap.size b2 bn2 bV2) (rb3 : RdP w w.heap.size b3 bn3 bV3) :
    Calls Try.prog 6 #[.agg #[.int .i64 ast, .slice a1 an1 ac1, .slice a2 an2 ac2, .slice a3 an3 ac3, .int .i64 avn, .int .i64 avd, .int .i64 apv], .agg #[.int .i64 bst, .slice b1 bn1 bc1, .slice b2 bn2 bc2, .slice b3 bn3 bc3, .int .i64 bvn, .int .i64 bvd, .int .i64 bpv]] w fun e w' => e = .returned (.bool true) ∧ Below w.heap.size w w' := by
  simp only [maxLen] at hma hmb
  obtain ⟨m1, m2, m3⟩ := hma
  obtain ⟨k1, k2, k3⟩ := hmb
  have SA := Lib.hid (fun w left h0 h1 => szLpr_any ast avn avd apv a1 a2 a3 an1 an2 an3 ac1 ac2 ac3 w left h0 h1 (by omega) (by omega) (by omega))
  have SB := Lib.hid (fun w left h0 h1 => szLpr_any bst bvn bvd bpv b1 b2 b3 bn1 bn2 bn3 bc1 bc2 bc3 w left h0 h1 (by omega) (by omega) (by omega))
  clear m1 m2 m3 k1 k2 k3
  have BA : Bx ((w.alloc (.cells #[.int .i64 ast, .slice a1 an1 ac1, .slice a2 an2 ac2, .slice a3 an3 ac3, .int .i64 avn, .int .i64 avd, .int .i64 apv] 41)).alloc (.cells #[.int .i64 bst, .slice b1 bn1 bc1, .slice b2 bn2 bc2, .slice b3 bn3 bc3, .int .i64 bvn, .int .i64 bvd, .int .i64 bpv] 41)) w.heap.size [.int .i64 ast, .slice a1 an1 ac1, .slice a2 an2 ac2, .slice a3 an3 ac3, .int .i64 avn, .int .i64 avd, .int .i64 apv] := (Bx.new w #[.int .i64 ast, .slice a1 an1 ac1, .slice a2 an2 ac2, .slice a3 an3 ac3, .int .i64 avn, .int .i64 avd, .int .i64 apv] 41).alloc _
  have BB : Bx ((w.alloc (.cells #[.int .i64 ast, .slice a1 an1 ac1, .slice a2 an2 ac2, .slice a3 an3 ac3, .int .i64 avn, .int .i64 avd, .int .i64 apv] 41)).alloc (.cells #[.int .i64 bst, .slice b1 bn1 bc1, .slice b2 bn2 bc2, .slice b3 bn3 bc3, .int .i64 bvn, .int .i64 bvd, .int .i64 bpv] 41)) (w.heap.size + 1) [.int .i64 bst, .slice b1 bn1 bc1, .slice b2 bn2 bc2, .slice b3 bn3 bc3, .int .i64 bvn, .int .i64 bvd, .int .i64 bpv] := by
    have h := Bx.new (w.alloc (.cells #[.int .i64 ast, .slice a1 an1 ac1, .slice a2 an2 ac2, .slice a3 an3 ac3, .int .i64 avn, .int .i64 avd, .int .i64 apv] 41)) #[.int .i64 bst, .slice b1 bn1 bc1, .slice b2 bn2 bc2, .slice b3 bn3 bc3, .int .i64 bvn, .int .i64 bvd, .int .i64 bpv] 41
    simpa using h
  have H : Below w.heap.size w ((w.alloc (.cells #[.int .i64 ast, .slice a1 an1 ac1, .slice a2 an2 ac2, .slice a3 an3 ac3, .int .i64 avn, .int .i64 avd, .int .i64 apv] 41)).alloc (.cells #[.int .i64 bst, .slice b1 bn1 bc1, .slice b2 bn2 bc2, .slice b3 bn3 bc3, .int .i64 bvn, .int .i64 bvd, .int .i64 bpv] 41)) := ((Below.refl _ _).alloc (Nat.le_refl _) _).alloc (by simp) _
  go_enter Try.func6, Try.ntmps6
  go_wp2_with fail
  refine (SA.out _ _ (by omega) (by omega)).mono ?_
  rintro e w1 ⟨v, rfl, hv, hb⟩
  have BA := BA.below hb
  have BB := BB.below hb
  have H := H.trans (hb.mono H.size)
  clear hb
  have x0 := BA.2.1 0 _ rfl
  have x1 := BA.2.1 1 _ rfl
  have x2 := BA.2.1 2 _ rfl
  have x3 := BA.2.1 3 _ rfl
  have x4 := BA.2.1 4 _ rfl
  have x5 := BA.2.1 5 _ rfl
  have x6 := BA.2.1 6 _ rfl
  have y0 := BB.2.1 0 _ rfl
  have y1 := BB.2.1 1 _ rfl
  have y2 := BB.2.1 2 _ rfl
  have y3 := BB.2.1 3 _ rfl
  have y4 := BB.2.1 4 _ rfl
  have y5 := BB.2.1 5 _ rfl
  have y6 := BB.2.1 6 _ rfl
  have xz := BA.1
  have yz := BB.1
  rcases hv with rfl | ⟨v0, v1, ha1, ha2, ha3⟩
  · go_wp2
    go_ret
    exact ⟨rfl, H⟩
  · have d1 := decide_eq_false (show ¬ v < 0 by omega)
    go_wp2_with fail
    refine (SB.out _ _ v0 (by omega)).mono ?_
    rintro e w2 ⟨v', rfl, hv, hb⟩
    have BA := BA.below hb
    have BB := BB.below hb
    have H := H.trans (hb.mono H.size)
    clear hb
    rcases hv with rfl | ⟨v0', v1', hb1, hb2, hb3⟩
    · go_wp2
      go_ret
      exact ⟨rfl, H⟩
    · have d2 := decide_eq_false (show ¬ v' < 0 by omega)
      have ha1 : an1 ≤ 1048576 := by omega
      have ha2 : an2 ≤ 1048576 := by omega
      have ha3 : an3 ≤ 1048576 := by omega
      have hb1 : bn1 ≤ 1048576 := by omega
      have hb2 : bn2 ≤ 1048576 := by omega
      have hb3 : bn3 ≤ 1048576 := by omega
      have hb : Below w2.heap.size w2 w2.drew := (Below.refl _ _).drew
      have BA := BA.below hb
      have BB := BB.below hb
      have H := H.trans (hb.mono H.size)
      clear hb
      go_upto_region 8 with fail
      refine wp_region_noPanic ?_
      refine wp_region_held_drew (S := (fun w' => w'.cell? ⟨w.heap.size, 0, none⟩ = some (.int .i64 ast) ∧ w'.cell? ⟨w.heap.size, 1, none⟩ = some (.slice a1 an1 ac1) ∧ w'.cell? ⟨w.heap.size, 2, none⟩ = some (.slice a2 an2 ac2) ∧ w'.cell? ⟨w.heap.size, 3, none⟩ = some (.slice a3 an3 ac3) ∧ w'.cell? ⟨w.heap.size, 4, none⟩ = some (.int .i64 avn) ∧ w'.cell? ⟨w.heap.size, 5, none⟩ = some (.int .i64 avd) ∧ w'.cell? ⟨w.heap.size, 6, none⟩ = some (.int .i64 apv) ∧ w'.cell? ⟨w.heap.size + 1, 0, none⟩ = some (.int .i64 bst) ∧ w'.cell? ⟨w.heap.size + 1, 1, none⟩ = some (.slice b1 bn1 bc1) ∧ w'.cell? ⟨w.heap.size + 1, 2, none⟩ = some (.slice b2 bn2 bc2) ∧ w'.cell? ⟨w.heap.size + 1, 3, none⟩ = some (.slice b3 bn3 bc3) ∧ w'.cell? ⟨w.heap.size + 1, 4, none⟩ = some (.int .i64 bvn) ∧ w'.cell? ⟨w.heap.size + 1, 5, none⟩ = some (.int .i64 bvd) ∧ w'.cell? ⟨w.heap.size + 1, 6, none⟩ = some (.int .i64 bpv))) (by kernel_rfl) ?_ (fun hHeld => ?_)
      · exact ⟨BA.2.1 0 _ rfl, BA.2.1 1 _ rfl, BA.2.1 2 _ rfl, BA.2.1 3 _ rfl, BA.2.1 4 _ rfl, BA.2.1 5 _ rfl, BA.2.1 6 _ rfl, BB.2.1 0 _ rfl, BB.2.1 1 _ rfl, BB.2.1 2 _ rfl, BB.2.1 3 _ rfl, BB.2.1 4 _ rfl, BB.2.1 5 _ rfl, BB.2.1 6 _ rfl⟩
      refine takeL 0 (v := ?v1_0) rfl (by kernel_rfl) (by kernel_rfl) (by kernel_rfl) (fun _ _ _ h => h) (by rfl) ?hy1_0 (by assumption) ?r1_0
      case hy1_0 => (intro w hSw; (try dsimp only at hSw); first | (go_simp; done) | (go_simp; with_reducible rfl))
      simp only [Act.put, List.setIfInBounds_toArray, List.set_cons_zero, List.set_cons_succ]
      refine takeL 2 (v := ?v1_2) rfl (by kernel_rfl) (by kernel_rfl) (by kernel_rfl) (fun _ _ _ h => h) (by rfl) ?hy1_2 (by assumption) ?r1_2
      case hy1_2 => (intro w hSw; (try dsimp only at hSw); first | (go_simp; done) | (go_simp; with_reducible rfl))
      simp only [Act.put, List.setIfInBounds_toArray, List.set_cons_zero, List.set_cons_succ]
      refine nextL 1 (by kernel_rfl) rfl (fun K hK => ?_)
      go_simp
      go_at_call 28; refine (toLpr_any ast avn avd apv a1 a2 a3 an1 an2 an3 ac1 ac2 ac3 aV1 aV2 aV3 _ _ (ra1.below H (Nat.le_refl _)) (ra2.below H (Nat.le_refl _)) (ra3.below H (Nat.le_refl _)) H.size ha1 ha2 ha3).mono ?_; rintro e w3 ⟨P1, P2, P3, rfl, qP1, qP2, qP3, hb⟩; have BA := BA.below hb; have BB := BB.below hb; have H := H.trans (hb.mono H.size); clear hb; have s_qP1 := Nat.le_refl w3.heap.size; have s_qP2 := Nat.le_refl w3.heap.size; have s_qP3 := Nat.le_refl w3.heap.size
      go_wp2_with fail
      refine hK.out _ _ ?_ (fun hHeld => ?_)
      · exact ⟨BA.2.1 0 _ rfl, BA.2.1 1 _ rfl, BA.2.1 2 _ rfl, BA.2.1 3 _ rfl, BA.2.1 4 _ rfl, BA.2.1 5 _ rfl, BA.2.1 6 _ rfl, BB.2.1 0 _ rfl, BB.2.1 1 _ rfl, BB.2.1 2 _ rfl, BB.2.1 3 _ rfl, BB.2.1 4 _ rfl, BB.2.1 5 _ rfl, BB.2.1 6 _ rfl⟩
      clear hK K
      refine nextL 3 (by kernel_rfl) rfl (fun K hK => ?_)
      go_simp
      go_at_call 28; refine (toLpr_any bst bvn bvd bpv b1 b2 b3 bn1 bn2 bn3 bc1 bc2 bc3 bV1 bV2 bV3 _ _ (rb1.below H (Nat.le_refl _)) (rb2.below H (Nat.le_refl _)) (rb3.below H (Nat.le_refl _)) H.size hb1 hb2 hb3).mono ?_; rintro e w4 ⟨Q1, Q2, Q3, rfl, qQ1, qQ2, qQ3, hb⟩; have BA := BA.below hb; have BB := BB.below hb; have qP1 := qP1.below hb s_qP1; have s_qP1 := Nat.le_trans s_qP1 hb.size; have qP2 := qP2.below hb s_qP2; have s_qP2 := Nat.le_trans s_qP2 hb.size; have qP3 := qP3.below hb s_qP3; have s_qP3 := Nat.le_trans s_qP3 hb.size; have H := H.trans (hb.mono H.size); clear hb; have s_qQ1 := Nat.le_refl w4.heap.size; have s_qQ2 := Nat.le_refl w4.heap.size; have s_qQ3 := Nat.le_refl w4.heap.size
      go_wp2_with fail
      refine hK.out _ _ ?_ (fun hHeld => ?_)
      · exact ⟨BA.2.1 0 _ rfl, BA.2.1 1 _ rfl, BA.2.1 2 _ rfl, BA.2.1 3 _ rfl, BA.2.1 4 _ rfl, BA.2.1 5 _ rfl, BA.2.1 6 _ rfl, BB.2.1 0 _ rfl, BB.2.1 1 _ rfl, BB.2.1 2 _ rfl, BB.2.1 3 _ rfl, BB.2.1 4 _ rfl, BB.2.1 5 _ rfl, BB.2.1 6 _ rfl⟩
      clear hK K
      refine nextL 4 (by kernel_rfl) rfl (fun K hK => ?_)
      go_simp
      go_at_call 27; refine (sEqR_any ast avn avd apv P1 P2 P3 an1 an2 an3 an1 an2 an3 aV1 aV2 aV3 bst bvn bvd bpv Q1 Q2 Q3 bn1 bn2 bn3 bn1 bn2 bn3 bV1 bV2 bV3 _ _ (qP1.more s_qP1) (qP2.more s_qP2) (qP3.more s_qP3) (qQ1.more s_qQ1) (qQ2.more s_qQ2) (qQ3.more s_qQ3) (Nat.le_refl _) ha1 ha2 ha3 hb1 hb2 hb3).mono ?_; rintro e w5 ⟨rfl, hb⟩; have BA := BA.below hb; have BB := BB.below hb; have qP1 := qP1.below hb s_qP1; have s_qP1 := Nat.le_trans s_qP1 hb.size; have qP2 := qP2.below hb s_qP2; have s_qP2 := Nat.le_trans s_qP2 hb.size; have qP3 := qP3.below hb s_qP3; have s_qP3 := Nat.le_trans s_qP3 hb.size; have qQ1 := qQ1.below hb s_qQ1; have s_qQ1 := Nat.le_trans s_qQ1 hb.size; have qQ2 := qQ2.below hb s_qQ2; have s_qQ2 := Nat.le_trans s_qQ2 hb.size; have qQ3 := qQ3.below hb s_qQ3; have s_qQ3 := Nat.le_trans s_qQ3 hb.size; have H := H.trans (hb.mono H.size); clear hb
      go_wp2_with fail
      refine hK.out _ _ ?_ (fun hHeld => ?_)
      · exact ⟨BA.2.1 0 _ rfl, BA.2.1 1 _ rfl, BA.2.1 2 _ rfl, BA.2.1 3 _ rfl, BA.2.1 4 _ rfl, BA.2.1 5 _ rfl, BA.2.1 6 _ rfl, BB.2.1 0 _ rfl, BB.2.1 1 _ rfl, BB.2.1 2 _ rfl, BB.2.1 3 _ rfl, BB.2.1 4 _ rfl, BB.2.1 5 _ rfl, BB.2.1 6 _ rfl⟩
      clear hK K
      refine takeL 5 (v := ?v1_5) rfl (by kernel_rfl) (by kernel_rfl) (by kernel_rfl) (fun _ _ _ h => h) (by rfl) ?hy1_5 (by assumption) ?r1_5
      case hy1_5 => (intro w hSw; (try dsimp only at hSw); first | (go_simp; done) | (go_simp; with_reducible rfl))
      simp only [Act.put, List.setIfInBounds_toArray, List.set_cons_zero, List.set_cons_succ]
      refine wpAnyH_done (by kernel_rfl) ?_ _
      refine NoPanic.normal ?_
      skip
      have x0 := BA.2.1 0 _ rfl
      have x1 := BA.2.1 1 _ rfl
      have x2 := BA.2.1 2 _ rfl
      have x3 := BA.2.1 3 _ rfl
      have x4 := BA.2.1 4 _ rfl
      have x5 := BA.2.1 5 _ rfl
      have x6 := BA.2.1 6 _ rfl
      have xz := BA.1
      have y0 := BB.2.1 0 _ rfl
      have y1 := BB.2.1 1 _ rfl
      have y2 := BB.2.1 2 _ rfl
      have y3 := BB.2.1 3 _ rfl
      have y4 := BB.2.1 4 _ rfl
      have y5 := BB.2.1 5 _ rfl
      have y6 := BB.2.1 6 _ rfl
      have yz := BB.1
      go_wp2_with fail
      refine (toLpr_any ast avn avd apv a1 a2 a3 an1 an2 an3 ac1 ac2 ac3 aV1 aV2 aV3 _ _ (ra1.below H (Nat.le_refl _)) (ra2.below H (Nat.le_refl _)) (ra3.below H (Nat.le_refl _)) H.size ha1 ha2 ha3).mono ?_
      rintro e w6 ⟨X1, X2, X3, rfl, qX1, qX2, qX3, hb⟩
      have BA := BA.below hb
      have BB := BB.below hb
      have H := H.trans (hb.mono H.size)
      clear hb
      have x0 := BA.2.1 0 _ rfl
      have x1 := BA.2.1 1 _ rfl
      have x2 := BA.2.1 2 _ rfl
      have x3 := BA.2.1 3 _ rfl
      have x4 := BA.2.1 4 _ rfl
      have x5 := BA.2.1 5 _ rfl
      have x6 := BA.2.1 6 _ rfl
      have xz := BA.1
      have y0 := BB.2.1 0 _ rfl
      have y1 := BB.2.1 1 _ rfl
      have y2 := BB.2.1 2 _ rfl
      have y3 := BB.2.1 3 _ rfl
      have y4 := BB.2.1 4 _ rfl
      have y5 := BB.2.1 5 _ rfl
      have y6 := BB.2.1 6 _ rfl
      have yz := BB.1
      have s_qX1 := Nat.le_refl w6.heap.size
      have s_qX2 := Nat.le_refl w6.heap.size
      have s_qX3 := Nat.le_refl w6.heap.size
      go_wp2_with fail
      have HA7 := (Below.refl w6.heap.size w6).alloc (Nat.le_refl _) (.cells #[.int .i64 ast, .slice X1 an1 an1, .slice X2 an2 an2, .slice X3 an3 an3, .int .i64 avn, .int .i64 avd, .int .i64 apv] 46)
      have hb := HA7
      have BA := BA.below hb
      have BB := BB.below hb
      have qX1 := qX1.below hb s_qX1
      have s_qX1 := Nat.le_trans s_qX1 hb.size
      have qX2 := qX2.below hb s_qX2
      have s_qX2 := Nat.le_trans s_qX2 hb.size
      have qX3 := qX3.below hb s_qX3
      have s_qX3 := Nat.le_trans s_qX3 hb.size
      have H := H.trans (hb.mono H.size)
      clear hb
      have B7 := Bx.new w6 #[.int .i64 ast, .slice X1 an1 an1, .slice X2 an2 an2, .slice X3 an3 an3, .int .i64 avn, .int .i64 avd, .int .i64 apv] 46
      refine (toLpr_any bst bvn bvd bpv b1 b2 b3 bn1 bn2 bn3 bc1 bc2 bc3 bV1 bV2 bV3 _ _ (rb1.below H (Nat.le_refl _)) (rb2.below H (Nat.le_refl _)) (rb3.below H (Nat.le_refl _)) H.size hb1 hb2 hb3).mono ?_
      rintro e w7 ⟨Y1, Y2, Y3, rfl, qY1, qY2, qY3, hb⟩
      have BA := BA.below hb
      have BB := BB.below hb
      have B7 := B7.below hb
      have qX1 := qX1.below hb s_qX1
      have s_qX1 := Nat.le_trans s_qX1 hb.size
      have qX2 := qX2.below hb s_qX2
      have s_qX2 := Nat.le_trans s_qX2 hb.size
      have qX3 := qX3.below hb s_qX3
      have s_qX3 := Nat.le_trans s_qX3 hb.size
      have H := H.trans (hb.mono H.size)
      clear hb
      have s_qY1 := Nat.le_refl w7.heap.size
      have s_qY2 := Nat.le_refl w7.heap.size
      have s_qY3 := Nat.le_refl w7.heap.size
      have x0 := BA.2.1 0 _ rfl
      have x1 := BA.2.1 1 _ rfl
      have x2 := BA.2.1 2 _ rfl
      have x3 := BA.2.1 3 _ rfl
      have x4 := BA.2.1 4 _ rfl
      have x5 := BA.2.1 5 _ rfl
      have x6 := BA.2.1 6 _ rfl
      have xz := BA.1
      have y0 := BB.2.1 0 _ rfl
      have y1 := BB.2.1 1 _ rfl
      have y2 := BB.2.1 2 _ rfl
      have y3 := BB.2.1 3 _ rfl
      have y4 := BB.2.1 4 _ rfl
      have y5 := BB.2.1 5 _ rfl
      have y6 := BB.2.1 6 _ rfl
      have yz := BB.1
      have u0 := B7.2.1 0 _ rfl
      have u1 := B7.2.1 1 _ rfl
      have u2 := B7.2.1 2 _ rfl
      have u3 := B7.2.1 3 _ rfl
      have u4 := B7.2.1 4 _ rfl
      have u5 := B7.2.1 5 _ rfl
      have u6 := B7.2.1 6 _ rfl
      have uz := B7.1
      go_wp2_with fail
      have HA8 := (Below.refl w7.heap.size w7).alloc (Nat.le_refl _) (.cells #[.int .i64 bst, .slice Y1 bn1 bn1, .slice Y2 bn2 bn2, .slice Y3 bn3 bn3, .int .i64 bvn, .int .i64 bvd, .int .i64 bpv] 46)
      have hb := HA8
      have BA := BA.below hb
      have BB := BB.below hb
      have B7 := B7.below hb
      have qX1 := qX1.below hb s_qX1
      have s_qX1 := Nat.le_trans s_qX1 hb.size
      have qX2 := qX2.below hb s_qX2
      have s_qX2 := Nat.le_trans s_qX2 hb.size
      have qX3 := qX3.below hb s_qX3
      have s_qX3 := Nat.le_trans s_qX3 hb.size
      have qY1 := qY1.below hb s_qY1
      have s_qY1 := Nat.le_trans s_qY1 hb.size
      have qY2 := qY2.below hb s_qY2
      have s_qY2 := Nat.le_trans s_qY2 hb.size
      have qY3 := qY3.below hb s_qY3
      have s_qY3 := Nat.le_trans s_qY3 hb.size
      have H := H.trans (hb.mono H.size)
      clear hb
      have B8 := Bx.new w7 #[.int .i64 bst, .slice Y1 bn1 bn1, .slice Y2 bn2 bn2, .slice Y3 bn3 bn3, .int .i64 bvn, .int .i64 bvd, .int .i64 bpv] 46
      refine (iEqR_any ast avn avd apv X1 X2 X3 an1 an2 an3 an1 an2 an3 aV1 aV2 aV3 bst bvn bvd bpv Y1 Y2 Y3 bn1 bn2 bn3 bn1 bn2 bn3 bV1 bV2 bV3 _ _ (qX1.more s_qX1) (qX2.more s_qX2) (qX3.more s_qX3) (qY1.more s_qY1) (qY2.more s_qY2) (qY3.more s_qY3) (Nat.le_refl _) ha1 ha2 ha3 hb1 hb2 hb3).mono ?_
      rintro e w8 ⟨rfl, hb⟩
      have BA := BA.below hb
      have BB := BB.below hb
      have B7 := B7.below hb
      have B8 := B8.below hb
      have qX1 := qX1.below hb s_qX1
      have s_qX1 := Nat.le_trans s_qX1 hb.size
      have qX2 := qX2.below hb s_qX2
      have s_qX2 := Nat.le_trans s_qX2 hb.size
      have qX3 := qX3.below hb s_qX3
      have s_qX3 := Nat.le_trans s_qX3 hb.size
      have qY1 := qY1.below hb s_qY1
      have s_qY1 := Nat.le_trans s_qY1 hb.size
      have qY2 := qY2.below hb s_qY2
      have s_qY2 := Nat.le_trans s_qY2 hb.size
      have qY3 := qY3.below hb s_qY3
      have s_qY3 := Nat.le_trans s_qY3 hb.size
      have H := H.trans (hb.mono H.size)
      clear hb
      have hb : Below w8.heap.size w8 w8.drew := (Below.refl _ _).drew
      have BA := BA.below hb
      have BB := BB.below hb
      have B7 := B7.below hb
      have B8 := B8.below hb
      have qX1 := qX1.below hb s_qX1
      have s_qX1 := Nat.le_trans s_qX1 hb.size
      have qX2 := qX2.below hb s_qX2
      have s_qX2 := Nat.le_trans s_qX2 hb.size
      have qX3 := qX3.below hb s_qX3
      have s_qX3 := Nat.le_trans s_qX3 hb.size
      have qY1 := qY1.below hb s_qY1
      have s_qY1 := Nat.le_trans s_qY1 hb.size
      have qY2 := qY2.below hb s_qY2
      have s_qY2 := Nat.le_trans s_qY2 hb.size
      have qY3 := qY3.below hb s_qY3
      have s_qY3 := Nat.le_trans s_qY3 hb.size
      have H := H.trans (hb.mono H.size)
      clear hb
      go_upto_region 14 with fail
      refine wp_region_noPanic ?_
      refine wp_region_held_drew (S := (fun w' => w'.cell? ⟨w6.heap.size, 0, none⟩ = some (.int .i64 ast) ∧ w'.cell? ⟨w6.heap.size, 1, none⟩ = some (.slice X1 an1 an1) ∧ w'.cell? ⟨w6.heap.size, 2, none⟩ = some (.slice X2 an2 an2) ∧ w'.cell? ⟨w6.heap.size, 3, none⟩ = some (.slice X3 an3 an3) ∧ w'.cell? ⟨w6.heap.size, 4, none⟩ = some (.int .i64 avn) ∧ w'.cell? ⟨w6.heap.size, 5, none⟩ = some (.int .i64 avd) ∧ w'.cell? ⟨w6.heap.size, 6, none⟩ = some (.int .i64 apv) ∧ w'.cell? ⟨w.heap.size, 0, none⟩ = some (.int .i64 ast) ∧ w'.cell? ⟨w.heap.size, 1, none⟩ = some (.slice a1 an1 ac1) ∧ w'.cell? ⟨w.heap.size, 2, none⟩ = some (.slice a2 an2 ac2) ∧ w'.cell? ⟨w.heap.size, 3, none⟩ = some (.slice a3 an3 ac3) ∧ w'.cell? ⟨w.heap.size, 4, none⟩ = some (.int .i64 avn) ∧ w'.cell? ⟨w.heap.size, 5, none⟩ = some (.int .i64 avd) ∧ w'.cell? ⟨w.heap.size, 6, none⟩ = some (.int .i64 apv))) (by kernel_rfl) ?_ (fun hHeld => ?_)
      · exact ⟨B7.2.1 0 _ rfl, B7.2.1 1 _ rfl, B7.2.1 2 _ rfl, B7.2.1 3 _ rfl, B7.2.1 4 _ rfl, B7.2.1 5 _ rfl, B7.2.1 6 _ rfl, BA.2.1 0 _ rfl, BA.2.1 1 _ rfl, BA.2.1 2 _ rfl, BA.2.1 3 _ rfl, BA.2.1 4 _ rfl, BA.2.1 5 _ rfl, BA.2.1 6 _ rfl⟩
      refine takeL 0 (v := ?v2_0) rfl (by kernel_rfl) (by kernel_rfl) (by kernel_rfl) (fun _ _ _ h => h) (by rfl) ?hy2_0 (by assumption) ?r2_0
      case hy2_0 => (intro w hSw; (try dsimp only at hSw); first | (go_simp; done) | (go_simp; with_reducible rfl))
      simp only [Act.put, List.setIfInBounds_toArray, List.set_cons_zero, List.set_cons_succ]
      refine takeL 1 (v := ?v2_1) rfl (by kernel_rfl) (by kernel_rfl) (by kernel_rfl) (fun _ _ _ h => h) (by rfl) ?hy2_1 (by assumption) ?r2_1
      case hy2_1 => (intro w hSw; (try dsimp only at hSw); first | (go_simp; done) | (go_simp; with_reducible rfl))
      simp only [Act.put, List.setIfInBounds_toArray, List.set_cons_zero, List.set_cons_succ]
      refine nextL 2 (by kernel_rfl) rfl (fun K hK => ?_)
      go_simp
      go_at_call 28; refine (toLpr_any ast avn avd apv a1 a2 a3 an1 an2 an3 ac1 ac2 ac3 aV1 aV2 aV3 _ _ (ra1.below H (Nat.le_refl _)) (ra2.below H (Nat.le_refl _)) (ra3.below H (Nat.le_refl _)) H.size ha1 ha2 ha3).mono ?_; rintro e w9 ⟨R1, R2, R3, rfl, qR1, qR2, qR3, hb⟩; have BA := BA.below hb; have BB := BB.below hb; have B7 := B7.below hb; have B8 := B8.below hb; have qX1 := qX1.below hb s_qX1; have s_qX1 := Nat.le_trans s_qX1 hb.size; have qX2 := qX2.below hb s_qX2; have s_qX2 := Nat.le_trans s_qX2 hb.size; have qX3 := qX3.below hb s_qX3; have s_qX3 := Nat.le_trans s_qX3 hb.size; have qY1 := qY1.below hb s_qY1; have s_qY1 := Nat.le_trans s_qY1 hb.size; have qY2 := qY2.below hb s_qY2; have s_qY2 := Nat.le_trans s_qY2 hb.size; have qY3 := qY3.below hb s_qY3; have s_qY3 := Nat.le_trans s_qY3 hb.size; have H := H.trans (hb.mono H.size); clear hb; have s_qR1 := Nat.le_refl w9.heap.size; have s_qR2 := Nat.le_refl w9.heap.size; have s_qR3 := Nat.le_refl w9.heap.size
      go_wp2_with fail
      refine hK.out _ _ ?_ (fun hHeld => ?_)
      · exact ⟨B7.2.1 0 _ rfl, B7.2.1 1 _ rfl, B7.2.1 2 _ rfl, B7.2.1 3 _ rfl, B7.2.1 4 _ rfl, B7.2.1 5 _ rfl, B7.2.1 6 _ rfl, BA.2.1 0 _ rfl, BA.2.1 1 _ rfl, BA.2.1 2 _ rfl, BA.2.1 3 _ rfl, BA.2.1 4 _ rfl, BA.2.1 5 _ rfl, BA.2.1 6 _ rfl⟩
      clear hK K
      refine nextL 3 (by kernel_rfl) rfl (fun K hK => ?_)
      go_simp
      go_at_call 30; refine (eqLpr_same ast avn avd apv X1 X2 X3 an1 an2 an3 an1 an2 an3 aV1 aV2 aV3 R1 R2 R3 an1 an2 an3 _ _ (qX1.more s_qX1) (qX2.more s_qX2) (qX3.more s_qX3) (qR1.more s_qR1) (qR2.more s_qR2) (qR3.more s_qR3) (Nat.le_refl _) ha1 ha2 ha3).mono ?_; rintro e w10 ⟨rfl, hb⟩; have BA := BA.below hb; have BB := BB.below hb; have B7 := B7.below hb; have B8 := B8.below hb; have qX1 := qX1.below hb s_qX1; have s_qX1 := Nat.le_trans s_qX1 hb.size; have qX2 := qX2.below hb s_qX2; have s_qX2 := Nat.le_trans s_qX2 hb.size; have qX3 := qX3.below hb s_qX3; have s_qX3 := Nat.le_trans s_qX3 hb.size; have qY1 := qY1.below hb s_qY1; have s_qY1 := Nat.le_trans s_qY1 hb.size; have qY2 := qY2.below hb s_qY2; have s_qY2 := Nat.le_trans s_qY2 hb.size; have qY3 := qY3.below hb s_qY3; have s_qY3 := Nat.le_trans s_qY3 hb.size; have qR1 := qR1.below hb s_qR1; have s_qR1 := Nat.le_trans s_qR1 hb.size; have qR2 := qR2.below hb s_qR2; have s_qR2 := Nat.le_trans s_qR2 hb.size; have qR3 := qR3.below hb s_qR3; have s_qR3 := Nat.le_trans s_qR3 hb.size; have H := H.trans (hb.mono H.size); clear hb
      go_wp2_with fail
      refine hK.out _ _ ?_ (fun hHeld => ?_)
      · exact ⟨B7.2.1 0 _ rfl, B7.2.1 1 _ rfl, B7.2.1 2 _ rfl, B7.2.1 3 _ rfl, B7.2.1 4 _ rfl, B7.2.1 5 _ rfl, B7.2.1 6 _ rfl, BA.2.1 0 _ rfl, BA.2.1 1 _ rfl, BA.2.1 2 _ rfl, BA.2.1 3 _ rfl, BA.2.1 4 _ rfl, BA.2.1 5 _ rfl, BA.2.1 6 _ rfl⟩
      clear hK K
      refine takeL 4 (v := ?v2_4) rfl (by kernel_rfl) (by kernel_rfl) (by kernel_rfl) (fun _ _ _ h => h) (by rfl) ?hy2_4 (by assumption) ?r2_4
      case hy2_4 => (intro w hSw; (try dsimp only at hSw); first | (go_simp; done) | (go_simp; with_reducible rfl))
      simp only [Act.put, List.setIfInBounds_toArray, List.set_cons_zero, List.set_cons_succ]
      refine wpAnyH_done (by kernel_rfl) ?_ _
      refine NoPanic.normal ?_
      have hb : Below w10.heap.size w10 w10.drew := (Below.refl _ _).drew
      have BA := BA.below hb
      have BB := BB.below hb
      have B7 := B7.below hb
      have B8 := B8.below hb
      have qX1 := qX1.below hb s_qX1
      have s_qX1 := Nat.le_trans s_qX1 hb.size
      have qX2 := qX2.below hb s_qX2
      have s_qX2 := Nat.le_trans s_qX2 hb.size
      have qX3 := qX3.below hb s_qX3
      have s_qX3 := Nat.le_trans s_qX3 hb.size
      have qY1 := qY1.below hb s_qY1
      have s_qY1 := Nat.le_trans s_qY1 hb.size
      have qY2 := qY2.below hb s_qY2
      have s_qY2 := Nat.le_trans s_qY2 hb.size
      have qY3 := qY3.below hb s_qY3
      have s_qY3 := Nat.le_trans s_qY3 hb.size
      have H := H.trans (hb.mono H.size)
      clear hb
      go_upto_region 16 with fail
      refine wp_region_noPanic ?_
      refine wp_region_held_drew (S := (fun w' => w'.cell? ⟨w7.heap.size, 0, none⟩ = some (.int .i64 bst) ∧ w'.cell? ⟨w7.heap.size, 1, none⟩ = some (.slice Y1 bn1 bn1) ∧ w'.cell? ⟨w7.heap.size, 2, none⟩ = some (.slice Y2 bn2 bn2) ∧ w'.cell? ⟨w7.heap.size, 3, none⟩ = some (.slice Y3 bn3 bn3) ∧ w'.cell? ⟨w7.heap.size, 4, none⟩ = some (.int .i64 bvn) ∧ w'.cell? ⟨w7.heap.size, 5, none⟩ = some (.int .i64 bvd) ∧ w'.cell? ⟨w7.heap.size, 6, none⟩ = some (.int .i64 bpv) ∧ w'.cell? ⟨w.heap.size + 1, 0, none⟩ = some (.int .i64 bst) ∧ w'.cell? ⟨w.heap.size + 1, 1, none⟩ = some (.slice b1 bn1 bc1) ∧ w'.cell? ⟨w.heap.size + 1, 2, none⟩ = some (.slice b2 bn2 bc2) ∧ w'.cell? ⟨w.heap.size + 1, 3, none⟩ = some (.slice b3 bn3 bc3) ∧ w'.cell? ⟨w.heap.size + 1, 4, none⟩ = some (.int .i64 bvn) ∧ w'.cell? ⟨w.heap.size + 1, 5, none⟩ = some (.int .i64 bvd) ∧ w'.cell? ⟨w.heap.size + 1, 6, none⟩ = some (.int .i64 bpv))) (by kernel_rfl) ?_ (fun hHeld => ?_)
      · exact ⟨B8.2.1 0 _ rfl, B8.2.1 1 _ rfl, B8.2.1 2 _ rfl, B8.2.1 3 _ rfl, B8.2.1 4 _ rfl, B8.2.1 5 _ rfl, B8.2.1 6 _ rfl, BB.2.1 0 _ rfl, BB.2.1 1 _ rfl, BB.2.1 2 _ rfl, BB.2.1 3 _ rfl, BB.2.1 4 _ rfl, BB.2.1 5 _ rfl, BB.2.1 6 _ rfl⟩
      refine takeL 0 (v := ?v3_0) rfl (by kernel_rfl) (by kernel_rfl) (by kernel_rfl) (fun _ _ _ h => h) (by rfl) ?hy3_0 (by assumption) ?r3_0
      case hy3_0 => (intro w hSw; (try dsimp only at hSw); first | (go_simp; done) | (go_simp; with_reducible rfl))
      simp only [Act.put, List.setIfInBounds_toArray, List.set_cons_zero, List.set_cons_succ]
      refine takeL 1 (v := ?v3_1) rfl (by kernel_rfl) (by kernel_rfl) (by kernel_rfl) (fun _ _ _ h => h) (by rfl) ?hy3_1 (by assumption) ?r3_1
      case hy3_1 => (intro w hSw; (try dsimp only at hSw); first | (go_simp; done) | (go_simp; with_reducible rfl))
      simp only [Act.put, List.setIfInBounds_toArray, List.set_cons_zero, List.set_cons_succ]
      refine nextL 2 (by kernel_rfl) rfl (fun K hK => ?_)
      go_simp
      go_at_call 28; refine (toLpr_any bst bvn bvd bpv b1 b2 b3 bn1 bn2 bn3 bc1 bc2 bc3 bV1 bV2 bV3 _ _ (rb1.below H (Nat.le_refl _)) (rb2.below H (Nat.le_refl _)) (rb3.below H (Nat.le_refl _)) H.size hb1 hb2 hb3).mono ?_; rintro e w11 ⟨T1, T2, T3, rfl, qT1, qT2, qT3, hb⟩; have BA := BA.below hb; have BB := BB.below hb; have B7 := B7.below hb; have B8 := B8.below hb; have qX1 := qX1.below hb s_qX1; have s_qX1 := Nat.le_trans s_qX1 hb.size; have qX2 := qX2.below hb s_qX2; have s_qX2 := Nat.le_trans s_qX2 hb.size; have qX3 := qX3.below hb s_qX3; have s_qX3 := Nat.le_trans s_qX3 hb.size; have qY1 := qY1.below hb s_qY1; have s_qY1 := Nat.le_trans s_qY1 hb.size; have qY2 := qY2.below hb s_qY2; have s_qY2 := Nat.le_trans s_qY2 hb.size; have qY3 := qY3.below hb s_qY3; have s_qY3 := Nat.le_trans s_qY3 hb.size; have H := H.trans (hb.mono H.size); clear hb; have s_qT1 := Nat.le_refl w11.heap.size; have s_qT2 := Nat.le_refl w11.heap.size; have s_qT3 := Nat.le_refl w11.heap.size
      go_wp2_with fail
      refine hK.out _ _ ?_ (fun hHeld => ?_)
      · exact ⟨B8.2.1 0 _ rfl, B8.2.1 1 _ rfl, B8.2.1 2 _ rfl, B8.2.1 3 _ rfl, B8.2.1 4 _ rfl, B8.2.1 5 _ rfl, B8.2.1 6 _ rfl, BB.2.1 0 _ rfl, BB.2.1 1 _ rfl, BB.2.1 2 _ rfl, BB.2.1 3 _ rfl, BB.2.1 4 _ rfl, BB.2.1 5 _ rfl, BB.2.1 6 _ rfl⟩
      clear hK K
      refine nextL 3 (by kernel_rfl) rfl (fun K hK => ?_)
      go_simp
      go_at_call 30; refine (eqLpr_same bst bvn bvd bpv Y1 Y2 Y3 bn1 bn2 bn3 bn1 bn2 bn3 bV1 bV2 bV3 T1 T2 T3 bn1 bn2 bn3 _ _ (qY1.more s_qY1) (qY2.more s_qY2) (qY3.more s_qY3) (qT1.more s_qT1) (qT2.more s_qT2) (qT3.more s_qT3) (Nat.le_refl _) hb1 hb2 hb3).mono ?_; rintro e w12 ⟨rfl, hb⟩; have BA := BA.below hb; have BB := BB.below hb; have B7 := B7.below hb; have B8 := B8.below hb; have qX1 := qX1.below hb s_qX1; have s_qX1 := Nat.le_trans s_qX1 hb.size; have qX2 := qX2.below hb s_qX2; have s_qX2 := Nat.le_trans s_qX2 hb.size; have qX3 := qX3.below hb s_qX3; have s_qX3 := Nat.le_trans s_qX3 hb.size; have qY1 := qY1.below hb s_qY1; have s_qY1 := Nat.le_trans s_qY1 hb.size; have qY2 := qY2.below hb s_qY2; have s_qY2 := Nat.le_trans s_qY2 hb.size; have qY3 := qY3.below hb s_qY3; have s_qY3 := Nat.le_trans s_qY3 hb.size; have qT1 := qT1.below hb s_qT1; have s_qT1 := Nat.le_trans s_qT1 hb.size; have qT2 := qT2.below hb s_qT2; have s_qT2 := Nat.le_trans s_qT2 hb.size; have qT3 := qT3.below hb s_qT3; have s_qT3 := Nat.le_trans s_qT3 hb.size; have H := H.trans (hb.mono H.size); clear hb
      go_wp2_with fail
      refine hK.out _ _ ?_ (fun hHeld => ?_)
      · exact ⟨B8.2.1 0 _ rfl, B8.2.1 1 _ rfl, B8.2.1 2 _ rfl, B8.2.1 3 _ rfl, B8.2.1 4 _ rfl, B8.2.1 5 _ rfl, B8.2.1 6 _ rfl, BB.2.1 0 _ rfl, BB.2.1 1 _ rfl, BB.2.1 2 _ rfl, BB.2.1 3 _ rfl, BB.2.1 4 _ rfl, BB.2.1 5 _ rfl, BB.2.1 6 _ rfl⟩
      clear hK K
      refine takeL 4 (v := ?v3_4) rfl (by kernel_rfl) (by kernel_rfl) (by kernel_rfl) (fun _ _ _ h => h) (by rfl) ?hy3_4 (by assumption) ?r3_4
      case hy3_4 => (intro w hSw; (try dsimp only at hSw); first | (go_simp; done) | (go_simp; with_reducible rfl))
      simp only [Act.put, List.setIfInBounds_toArray, List.set_cons_zero, List.set_cons_succ]
      refine wpAnyH_done (by kernel_rfl) ?_ _
      refine NoPanic.normal ?_
      go_wp2
      go_ret
      exact ⟨rfl, H⟩

end Go.Proofs.Ytkhgolblendckaa
