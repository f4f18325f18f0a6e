/-
  The law FnExactAddScaled walked: it returns true.
-/
import Derived.Test.YtkhgolblendckaaAddSc
import Derived.Test.YtkhgolblendckaaMarkRat
import Derived.Test.YtkhgolblendckaaI2R
namespace Go.Proofs.Ytkhgolblendckaa
open Go.RowKit
attribute [local go_sem ↓] Go.wp_at_zero Go.wp_at_succ

theorem takeL {P : Program} {ops : Array Oper} {Q : Exit → Act → World → Prop} {md : Region.Mode} {S : World → Prop} (i : Nat) {oi : Oper} {v : Value} {fuel : Nat} {listed : Array Bool} {a : Act} {w : World} (hi : ops.toList[i]? = some oi)
    (hs : Region.noSelect ops = true) (hf : Region.free md ops listed i = true) (hr : (Region.ready md ops listed).contains i = true)
    (hQ : ∀ c a w, Q (.panic c) (a.put oi.dst v) w → Q (.panic c) a w) (hw : Region.wanted oi (yielded ops a.tmps) = true) (hy : ∀ w, S w → (execOp a.eval oi).run P w = .ok (.value v) w) (hS : S w)
    (h : wpAnyH P md ops Q S fuel (listed.setIfInBounds i true) (a.put oi.dst v) w) : wpAnyH P md ops Q S (fuel + 1) listed a w :=
  wpAnyH_take (by rw [← Array.getElem?_toList]; exact hi) hs hf hr hQ (Or.inl ⟨hw, hy⟩) hS h
theorem skipL {P : Program} {ops : Array Oper} {Q : Exit → Act → World → Prop} {md : Region.Mode} {S : World → Prop} (i : Nat) {oi : Oper} {fuel : Nat} {listed : Array Bool} {a : Act} {w : World} (hi : ops.toList[i]? = some oi)
    (hs : Region.noSelect ops = true) (hf : Region.free md ops listed i = true) (hr : (Region.ready md ops listed).contains i = true)
    (hQ : ∀ c a w, Q (.panic c) (a.put oi.dst undef) w → Q (.panic c) a w) (hw : Region.wanted oi (yielded ops a.tmps) = false) (hS : S w)
    (h : wpAnyH P md ops Q S fuel (listed.setIfInBounds i true) (a.put oi.dst undef) w) : wpAnyH P md ops Q S (fuel + 1) listed a w :=
  wpAnyH_take (by rw [← Array.getElem?_toList]; exact hi) hs hf hr hQ (Or.inr ⟨hw, rfl⟩) hS h
theorem nextL {P : Program} {ops : Array Oper} {Q : Exit → Act → World → Prop} {md : Region.Mode} {S : World → Prop} (i : Nat) {o : Oper} {fuel : Nat} {listed : Array Bool} {a : Act} {w : World} (hr : Region.ready md ops listed = [i]) (ho : ops.toList[i]? = some o)
    (h : ∀ K' : Act → World → Prop, Shut (∀ a w, S w → (S w → wpAnyH P md ops Q S fuel (listed.setIfInBounds i true) a w) → K' a w) → if Region.wanted o (yielded ops a.tmps) = true then Oper.wp P o a w K' Q else K' (a.put o.dst undef) w) : wpAnyH P md ops Q S (fuel + 1) listed a w :=
  wpAnyH_ready hr (by simp) (AllReadyH.cons (by rw [← Array.getElem?_toList]; exact ho) h AllReadyH.nil)

theorem one_cell {w X : World} {k1 : Nat} {x1 y1 : Int} (h : Below w.heap.size w X) (b1 : Box w k1 x1 y1) :
    X.cell? ⟨k1, 0, none⟩ = some (.int .i64 x1) ∧ X.cell? ⟨k1, 1, none⟩ = some (.int .i64 y1) :=
  ⟨(b1.below h).1, (b1.below h).2.1⟩
theorem RdP.lift {w w' : World} {B n : Nat} {A : Option Addr} {V : Fr} (h : RdP w B A n V) (hb : Below w.heap.size w w') (hB : B ≤ w.heap.size) : RdP w' B A n V := h.below hb hB

set_option maxRecDepth 40000 in
set_option maxHeartbeats 4000000 in
theorem fnExactAddScaled_walk {w : World} (A1 : Option Addr) (n1 c1 : Nat) (V1 : Fr) (hn1 : n1 ≤ maxLen) (ra : RdP w w.heap.size A1 n1 V1) (_ : ∀ j, j < n1 → (Lit.int .i64 (V1 j).1).wf = true ∧ (Lit.int .i64 (V1 j).2).wf = true)
    (kx ky : Int) (_ : (Lit.int .i64 kx).wf = true) (_ : (Lit.int .i64 ky).wf = true)
    (A2 : Option Addr) (n2 c2 : Nat) (V2 : Fr) (hn2 : n2 ≤ maxLen) (rb : RdP w w.heap.size A2 n2 V2) (_ : ∀ j, j < n2 → (Lit.int .i64 (V2 j).1).wf = true ∧ (Lit.int .i64 (V2 j).2).wf = true) :
    Calls Try.prog 8 #[.slice A1 n1 c1, .agg #[.int .i64 kx, .int .i64 ky], .slice A2 n2 c2] w fun e w' => e = .returned (.bool true) ∧ Below w.heap.size w w' := by
  have m1 : n1 ≤ 9223372036854775807 := by simpa [maxLen] using hn1
  have m2 : n2 ≤ 9223372036854775807 := by simpa [maxLen] using hn2
  clear hn1 hn2
  by_cases hy1 : (0 : Int) ≤ 1048576 - n1
  · have hd1 := decide_eq_false (show ¬ (1048576 - (n1 : Int)) < 0 by omega)
    by_cases hy2 : (0 : Int) ≤ 1048576 - n1 - n2
    · have hd2 := decide_eq_false (show ¬ (1048576 - (n1 : Int) - (n2 : Int)) < 0 by omega)
      have SC := And.intro (fun A1 A2 c1 c2 B w h1 h2 hB => sSc_any A1 A2 n1 n2 c1 c2 B V1 V2 kx ky w h1 h2 hB (by omega) (by omega)) (fun A1 A2 c1 c2 B w h1 h2 hB => iSc_any A1 A2 n1 n2 c1 c2 B V1 V2 kx ky w h1 h2 hB (by omega) (by omega))
      unfold OwnsSc at SC
      generalize Pl.scV V1 kx ky V2 = VS at SC
      obtain ⟨ok, hok⟩ : ∃ ok, ok = Pl.scOk n1 V1 kx ky n2 V2 := ⟨_, rfl⟩
      rw [← hok] at SC
      obtain ⟨mm, hm⟩ : ∃ mm, mm = (if ok then n1 else 0) := ⟨_, rfl⟩
      rw [← hm] at SC
      have hmn : mm ≤ 1048576 := by
        rw [hm]
        split <;> omega
      have SC := Lib.hid SC
      clear hm hok
      go_enter Try.func8, Try.ntmps8
      have H : Below w.heap.size w (w.alloc (.cells #[.int .i64 kx, .int .i64 ky] 39)) := (Below.refl _ _).alloc (Nat.le_refl _) _
      have xk : Box (w.alloc (.cells #[.int .i64 kx, .int .i64 ky] 39)) w.heap.size kx ky := ⟨by simp, by simp, by simp, by simp, by simp⟩
      have s_ra := H.size
      have s_rb := H.size
      have ra := ra.below H (Nat.le_refl _)
      have rb := rb.below H (Nat.le_refl _)
      go_wp2_with fail
      refine (szRatS_yes _ _ _ _ _ hy1 (by omega)).mono ?_
      rintro e w1 ⟨rfl, rfl⟩
      go_wp2_with fail
      refine (szRatS_yes _ _ _ _ _ hy2 (by omega)).mono ?_
      rintro e w2 ⟨rfl, rfl⟩
      generalize w.alloc (.cells #[.int .i64 kx, .int .i64 ky] 39) = w2 at H xk ra rb s_ra s_rb ⊢
      have hdr : Below w2.heap.size w2 w2.drew := (Below.refl _ _).drew
      have ra := ra.below hdr s_ra
      have rb := rb.below hdr s_rb
      have xk := xk.below hdr
      have H : Below w.heap.size w w2.drew := H.trans (hdr.mono H.size)
      clear hdr
      have XK := Lib.hid xk
      go_upto_region 8 with fail
      refine wp_region_noPanic ?_
      refine wp_region_held_drew (S := (fun w' => w'.cell? ⟨w.heap.size, 0, none⟩ = some (.int .i64 kx) ∧ w'.cell? ⟨w.heap.size, 1, none⟩ = some (.int .i64 ky))) (by kernel_rfl) ?_ (fun hHeld => ?_)
      · exact ⟨xk.1, xk.2.1⟩
      refine takeL 0 (v := ?v1_0) rfl (by kernel_rfl) (by kernel_rfl) (by kernel_rfl) (fun _ _ _ h => h) (by rfl) ?hy1_0 (by assumption) ?r1_0
      case hy1_0 => (intro w hSw; (try dsimp only at hSw); first | (go_simp; done) | (go_simp; with_reducible rfl))
      simp only [Act.put, List.setIfInBounds_toArray, List.set_cons_zero, List.set_cons_succ]
      refine takeL 2 (v := ?v1_2) rfl (by kernel_rfl) (by kernel_rfl) (by kernel_rfl) (fun _ _ _ h => h) (by rfl) ?hy1_2 (by assumption) ?r1_2
      case hy1_2 => (intro w hSw; (try dsimp only at hSw); first | (go_simp; done) | (go_simp; with_reducible rfl))
      simp only [Act.put, List.setIfInBounds_toArray, List.set_cons_zero, List.set_cons_succ]
      refine takeL 4 (v := ?v1_4) rfl (by kernel_rfl) (by kernel_rfl) (by kernel_rfl) (fun _ _ _ h => h) (by rfl) ?hy1_4 (by assumption) ?r1_4
      case hy1_4 => (intro w hSw; (try dsimp only at hSw); first | (go_simp; done) | (go_simp; with_reducible rfl))
      simp only [Act.put, List.setIfInBounds_toArray, List.set_cons_zero, List.set_cons_succ]
      refine nextL 1 (by kernel_rfl) rfl (fun K hK => ?_)
      go_simp
      go_at_call 14; refine (toRatS_any _ _ _ _ V1 _ ra s_ra (by omega)).mono ?_; rintro e w1s ⟨XAs, rfl, ow, hb⟩; have ra := ra.below hb s_ra; have s_ra := Nat.le_trans s_ra hb.size; have rb := rb.below hb s_rb; have s_rb := Nat.le_trans s_rb hb.size; have xk := xk.below hb; have H := H.trans (hb.mono H.size); clear hb; have cas := RdP.of_own ow; have s_cas := Nat.le_refl w1s.heap.size; clear ow
      go_wp2_with fail
      refine hK.out _ _ ?_ (fun hHeld => ?_)
      · exact ⟨xk.1, xk.2.1⟩
      clear hK K
      refine nextL 3 (by kernel_rfl) rfl (fun K hK => ?_)
      go_simp
      go_at_call 35; refine (toRat_any _ _ _).mono ?_; rintro e w2s ⟨rfl, hb⟩; have ra := ra.below hb s_ra; have s_ra := Nat.le_trans s_ra hb.size; have rb := rb.below hb s_rb; have s_rb := Nat.le_trans s_rb hb.size; have cas := cas.below hb s_cas; have s_cas := Nat.le_trans s_cas hb.size; have xk := xk.below hb; have H := H.trans (hb.mono H.size); clear hb
      go_wp2_with fail
      refine hK.out _ _ ?_ (fun hHeld => ?_)
      · exact ⟨xk.1, xk.2.1⟩
      clear hK K
      refine nextL 5 (by kernel_rfl) rfl (fun K hK => ?_)
      go_simp
      go_at_call 14; refine (toRatS_any _ _ _ _ V2 _ rb s_rb (by omega)).mono ?_; rintro e w3s ⟨XBs, rfl, ow, hb⟩; have ra := ra.below hb s_ra; have s_ra := Nat.le_trans s_ra hb.size; have rb := rb.below hb s_rb; have s_rb := Nat.le_trans s_rb hb.size; have cas := cas.below hb s_cas; have s_cas := Nat.le_trans s_cas hb.size; have xk := xk.below hb; have H := H.trans (hb.mono H.size); clear hb; have cbs := RdP.of_own ow; have s_cbs := Nat.le_refl w3s.heap.size; clear ow
      go_wp2_with fail
      refine hK.out _ _ ?_ (fun hHeld => ?_)
      · exact ⟨xk.1, xk.2.1⟩
      clear hK K
      refine nextL 6 (by kernel_rfl) rfl (fun K hK => ?_)
      go_simp
      go_at_call 34; refine (SC.out.1 _ _ _ _ _ _ (cas.more s_cas) (cbs.more s_cbs) (Nat.le_refl _)).mono ?_; rintro e w4s ⟨vs, rfl, ow, hb⟩; obtain ⟨Xs, cs, rfl⟩ := own_form ow; have ra := ra.below hb s_ra; have s_ra := Nat.le_trans s_ra hb.size; have rb := rb.below hb s_rb; have s_rb := Nat.le_trans s_rb hb.size; have cas := cas.below hb s_cas; have s_cas := Nat.le_trans s_cas hb.size; have cbs := cbs.below hb s_cbs; have s_cbs := Nat.le_trans s_cbs hb.size; have xk := xk.below hb; have H := H.trans (hb.mono H.size); clear hb; have rw0 := RdP.of_own ow; have s_rw0 := Nat.le_refl w4s.heap.size; clear ow
      go_wp2_with fail
      refine hK.out _ _ ?_ (fun hHeld => ?_)
      · exact ⟨xk.1, xk.2.1⟩
      clear hK K
      refine takeL 7 (v := ?v1_7) rfl (by kernel_rfl) (by kernel_rfl) (by kernel_rfl) (fun _ _ _ h => h) (by rfl) ?hy1_7 (by assumption) ?r1_7
      case hy1_7 => (intro w hSw; (try dsimp only at hSw); first | (go_simp; done) | (go_simp; with_reducible rfl))
      simp only [Act.put, List.setIfInBounds_toArray, List.set_cons_zero, List.set_cons_succ]
      refine takeL 8 (v := ?v1_8) rfl (by kernel_rfl) (by kernel_rfl) (by kernel_rfl) (fun _ _ _ h => h) (by rfl) ?hy1_8 (by assumption) ?r1_8
      case hy1_8 => (intro w hSw; (try dsimp only at hSw); first | (go_simp; done) | (go_simp; with_reducible rfl))
      simp only [Act.put, List.setIfInBounds_toArray, List.set_cons_zero, List.set_cons_succ]
      refine takeL 9 (v := ?v1_9) rfl (by kernel_rfl) (by kernel_rfl) (by kernel_rfl) (fun _ _ _ h => h) (by rfl) ?hy1_9 (by assumption) ?r1_9
      case hy1_9 => (intro w hSw; (try dsimp only at hSw); first | (go_simp; done) | (go_simp; with_reducible rfl))
      simp only [Act.put, List.setIfInBounds_toArray, List.set_cons_zero, List.set_cons_succ]
      refine takeL 10 (v := ?v1_10) rfl (by kernel_rfl) (by kernel_rfl) (by kernel_rfl) (fun _ _ _ h => h) (by rfl) ?hy1_10 (by assumption) ?r1_10
      case hy1_10 => (intro w hSw; (try dsimp only at hSw); first | (go_simp; done) | (go_simp; with_reducible rfl))
      simp only [Act.put, List.setIfInBounds_toArray, List.set_cons_zero, List.set_cons_succ]
      refine takeL 11 (v := ?v1_11) rfl (by kernel_rfl) (by kernel_rfl) (by kernel_rfl) (fun _ _ _ h => h) (by rfl) ?hy1_11 (by assumption) ?r1_11
      case hy1_11 => (intro w hSw; (try dsimp only at hSw); first | (go_simp; done) | (go_simp; with_reducible rfl))
      simp only [Act.put, List.setIfInBounds_toArray, List.set_cons_zero, List.set_cons_succ]
      refine wpAnyH_done (by kernel_rfl) ?_ _
      refine NoPanic.normal ?_
      obtain ⟨w3, rfl⟩ : ∃ w5 : World, w5 = w4s := ⟨_, rfl⟩
      go_wp2_with fail
      refine (toRatS_any _ _ _ _ V1 _ ra s_ra (by omega)).mono ?_
      rintro e w4 ⟨X3, rfl, ow, hb⟩
      have t_ra_ox := s_ra
      have t_rb_ox := s_rb
      have t_rw0_ox := s_rw0
      have t_base_ox := H.size
      have x_ox := xk.2.2.2.2
      have ra := ra.below hb s_ra
      have s_ra := Nat.le_trans s_ra hb.size
      have rb := rb.below hb s_rb
      have s_rb := Nat.le_trans s_rb hb.size
      have rw0 := rw0.below hb s_rw0
      have s_rw0 := Nat.le_trans s_rw0 hb.size
      have H := H.trans (hb.mono H.size)
      have xk := xk.below hb
      clear hb
      have ox := ow
      clear ow
      go_wp2_with fail
      refine (toRatS_any _ _ _ _ V2 _ rb s_rb (by omega)).mono ?_
      rintro e w5 ⟨X4, rfl, ow, hb⟩
      have t_ra_oy := s_ra
      have t_rb_oy := s_rb
      have t_rw0_oy := s_rw0
      have t_base_oy := H.size
      have x_oy := xk.2.2.2.2
      have u_ox_oy := fun g h => (ox.lt g h).2
      have ra := ra.below hb s_ra
      have s_ra := Nat.le_trans s_ra hb.size
      have rb := rb.below hb s_rb
      have s_rb := Nat.le_trans s_rb hb.size
      have rw0 := rw0.below hb s_rw0
      have s_rw0 := Nat.le_trans s_rw0 hb.size
      have ox := own_below ox hb
      have H := H.trans (hb.mono H.size)
      have xk := xk.below hb
      clear hb
      have oy := ow
      clear ow
      obtain ⟨xk0, xk1, _, _, xk4⟩ := id xk
      go_wp2_with fail
      refine (toRat_any _ _ _).mono ?_
      rintro e w6 ⟨rfl, hb⟩
      have ra := ra.below hb s_ra
      have s_ra := Nat.le_trans s_ra hb.size
      have rb := rb.below hb s_rb
      have s_rb := Nat.le_trans s_rb hb.size
      have rw0 := rw0.below hb s_rw0
      have s_rw0 := Nat.le_trans s_rw0 hb.size
      have ox := own_below ox hb
      have oy := own_below oy hb
      have H := H.trans (hb.mono H.size)
      have xk := xk.below hb
      clear hb
      go_wp2_with fail
      refine (SC.out.2 _ _ _ _ _ _ (RdP.of_own ox) ((RdP.of_own oy)) (Nat.le_refl _)).mono ?_
      rintro e w7 ⟨v6, rfl, ow, hb⟩
      obtain ⟨X6, c6, rfl⟩ := own_form ow
      have t_ra_og := s_ra
      have t_rb_og := s_rb
      have t_rw0_og := s_rw0
      have t_base_og := H.size
      have x_og := xk.2.2.2.2
      have u_ox_og := fun g h => (ox.lt g h).2
      have u_oy_og := fun g h => (oy.lt g h).2
      have ra := ra.below hb s_ra
      have s_ra := Nat.le_trans s_ra hb.size
      have rb := rb.below hb s_rb
      have s_rb := Nat.le_trans s_rb hb.size
      have rw0 := rw0.below hb s_rw0
      have s_rw0 := Nat.le_trans s_rw0 hb.size
      have ox := own_below ox hb
      have oy := own_below oy hb
      have H := H.trans (hb.mono H.size)
      have xk := xk.below hb
      clear hb
      have og := ow
      clear ow
      go_wp2_with fail
      refine (eqRatS_same _ _ _ _ _ _ VS _ (RdP.of_own og) (rw0.more s_rw0) (Nat.le_refl _) (by omega)).mono ?_
      rintro e w8 ⟨rfl, hb⟩
      have ra := ra.below hb s_ra
      have s_ra := Nat.le_trans s_ra hb.size
      have rb := rb.below hb s_rb
      have s_rb := Nat.le_trans s_rb hb.size
      have rw0 := rw0.below hb s_rw0
      have s_rw0 := Nat.le_trans s_rw0 hb.size
      have ox := own_below ox hb
      have oy := own_below oy hb
      have og := own_below og hb
      have H := H.trans (hb.mono H.size)
      have xk := xk.below hb
      clear hb
      go_wp2_with fail
      refine (toRatS_any _ _ _ _ V1 _ ra s_ra (by omega)).mono ?_
      rintro e w9 ⟨X8, rfl, ow, hb⟩
      have ra := ra.below hb s_ra
      have s_ra := Nat.le_trans s_ra hb.size
      have rb := rb.below hb s_rb
      have s_rb := Nat.le_trans s_rb hb.size
      have rw0 := rw0.below hb s_rw0
      have s_rw0 := Nat.le_trans s_rw0 hb.size
      have ox := own_below ox hb
      have oy := own_below oy hb
      have og := own_below og hb
      have H := H.trans (hb.mono H.size)
      have xk := xk.below hb
      clear hb
      have r8 := RdP.of_own ow
      have s_r8 := Nat.le_refl w9.heap.size
      clear ow
      go_wp2_with fail
      refine (eqRatS_same _ _ _ _ _ _ V1 _ (RdP.of_own ox) (r8.more s_r8) (Nat.le_refl _) (by omega)).mono ?_
      rintro e w10 ⟨rfl, hb⟩
      have ra := ra.below hb s_ra
      have s_ra := Nat.le_trans s_ra hb.size
      have rb := rb.below hb s_rb
      have s_rb := Nat.le_trans s_rb hb.size
      have rw0 := rw0.below hb s_rw0
      have s_rw0 := Nat.le_trans s_rw0 hb.size
      have r8 := r8.below hb s_r8
      have s_r8 := Nat.le_trans s_r8 hb.size
      have ox := own_below ox hb
      have oy := own_below oy hb
      have og := own_below og hb
      have H := H.trans (hb.mono H.size)
      have xk := xk.below hb
      clear hb
      go_wp2_with fail
      refine (toRatS_any _ _ _ _ V2 _ rb s_rb (by omega)).mono ?_
      rintro e w11 ⟨X10, rfl, ow, hb⟩
      have ra := ra.below hb s_ra
      have s_ra := Nat.le_trans s_ra hb.size
      have rb := rb.below hb s_rb
      have s_rb := Nat.le_trans s_rb hb.size
      have rw0 := rw0.below hb s_rw0
      have s_rw0 := Nat.le_trans s_rw0 hb.size
      have r8 := r8.below hb s_r8
      have s_r8 := Nat.le_trans s_r8 hb.size
      have ox := own_below ox hb
      have oy := own_below oy hb
      have og := own_below og hb
      have H := H.trans (hb.mono H.size)
      have xk := xk.below hb
      clear hb
      have r10 := RdP.of_own ow
      have s_r10 := Nat.le_refl w11.heap.size
      clear ow
      go_wp2_with fail
      refine (eqRatS_same _ _ _ _ _ _ V2 _ (RdP.of_own oy) (r10.more s_r10) (Nat.le_refl _) (by omega)).mono ?_
      rintro e w12 ⟨rfl, hb⟩
      have ra := ra.below hb s_ra
      have s_ra := Nat.le_trans s_ra hb.size
      have rb := rb.below hb s_rb
      have s_rb := Nat.le_trans s_rb hb.size
      have rw0 := rw0.below hb s_rw0
      have s_rw0 := Nat.le_trans s_rw0 hb.size
      have r8 := r8.below hb s_r8
      have s_r8 := Nat.le_trans s_r8 hb.size
      have r10 := r10.below hb s_r10
      have s_r10 := Nat.le_trans s_r10 hb.size
      have ox := own_below ox hb
      have oy := own_below oy hb
      have og := own_below og hb
      have H := H.trans (hb.mono H.size)
      have xk := xk.below hb
      clear hb
      have hl0 := fun g h => ox.lt g h
      have hk0 := x_ox
      go_wp2_with fail
      refine (markRatS_own X3 n1 _ _ 1 _ _ ox (by omega) (by omega) (by omega)).mono ?_
      rintro e w13 ⟨rfl, ox, hg⟩
      have hg0 := hg
      have ra := rdP_grown ra hg s_ra (fun g h => Nat.le_trans t_ra_ox (ox.lt g h).1)
      have s_ra := Nat.le_trans s_ra hg.size
      have rb := rdP_grown rb hg s_rb (fun g h => Nat.le_trans t_rb_ox (ox.lt g h).1)
      have s_rb := Nat.le_trans s_rb hg.size
      have rw0 := rdP_grown rw0 hg s_rw0 (fun g h => Nat.le_trans t_rw0_ox (ox.lt g h).1)
      have s_rw0 := Nat.le_trans s_rw0 hg.size
      have oy := own_grown oy hg (fun g h => u_ox_oy g h)
      have og := own_grown og hg (fun g h => u_ox_og g h)
      have H := H.grown hg H.size (fun g h => Nat.le_trans t_base_ox (ox.lt g h).1)
      have xk : Box w13 w.heap.size kx ky := by
        have e := hg0.block w.heap.size xk.2.2.2.2 (fun e => by have := (hl0 _ e.symm).1; omega)
        exact ⟨(World.cell?_of_block e).trans xk.1, (World.cell?_of_block e).trans xk.2.1, (World.frozen?_of_block e).trans xk.2.2.1, (World.frozen?_of_block e).trans xk.2.2.2.1, Nat.lt_of_lt_of_le xk.2.2.2.2 hg0.size⟩
      clear hg hg0 hl0 hk0
      have hl0 := fun g h => oy.lt g h
      have hk0 := x_oy
      go_wp2_with fail
      refine (markRatS_own X4 n2 _ _ _ _ _ oy (by omega) (by omega) (by omega)).mono ?_
      rintro e w14 ⟨rfl, oy, hg⟩
      have hg0 := hg
      have ra := rdP_grown ra hg s_ra (fun g h => Nat.le_trans t_ra_oy (oy.lt g h).1)
      have s_ra := Nat.le_trans s_ra hg.size
      have rb := rdP_grown rb hg s_rb (fun g h => Nat.le_trans t_rb_oy (oy.lt g h).1)
      have s_rb := Nat.le_trans s_rb hg.size
      have rw0 := rdP_grown rw0 hg s_rw0 (fun g h => Nat.le_trans t_rw0_oy (oy.lt g h).1)
      have s_rw0 := Nat.le_trans s_rw0 hg.size
      have og := own_grown og hg (fun g h => u_oy_og g h)
      have H := H.grown hg H.size (fun g h => Nat.le_trans t_base_oy (oy.lt g h).1)
      have xk : Box w14 w.heap.size kx ky := by
        have e := hg0.block w.heap.size xk.2.2.2.2 (fun e => by have := (hl0 _ e.symm).1; omega)
        exact ⟨(World.cell?_of_block e).trans xk.1, (World.cell?_of_block e).trans xk.2.1, (World.frozen?_of_block e).trans xk.2.2.1, (World.frozen?_of_block e).trans xk.2.2.2.1, Nat.lt_of_lt_of_le xk.2.2.2.2 hg0.size⟩
      clear hg hg0 hl0 hk0
      go_wp2_with fail
      refine (eqRatS_same _ _ _ _ _ _ VS _ (RdP.of_own og) (rw0.more s_rw0) (Nat.le_refl _) (by omega)).mono ?_
      rintro e w15 ⟨rfl, hb⟩
      have ra := ra.below hb s_ra
      have s_ra := Nat.le_trans s_ra hb.size
      have rb := rb.below hb s_rb
      have s_rb := Nat.le_trans s_rb hb.size
      have rw0 := rw0.below hb s_rw0
      have s_rw0 := Nat.le_trans s_rw0 hb.size
      have og := own_below og hb
      have H := H.trans (hb.mono H.size)
      have xk := xk.below hb
      clear hb
      have hl0 := fun g h => og.lt g h
      have hk0 := x_og
      go_wp2_with fail
      refine (markRatS_own X6 mm _ _ 1 _ _ og (by omega) (by omega) (by omega)).mono ?_
      rintro e w16 ⟨rfl, og, hg⟩
      have hg0 := hg
      have ra := rdP_grown ra hg s_ra (fun g h => Nat.le_trans t_ra_og (og.lt g h).1)
      have s_ra := Nat.le_trans s_ra hg.size
      have rb := rdP_grown rb hg s_rb (fun g h => Nat.le_trans t_rb_og (og.lt g h).1)
      have s_rb := Nat.le_trans s_rb hg.size
      have rw0 := rdP_grown rw0 hg s_rw0 (fun g h => Nat.le_trans t_rw0_og (og.lt g h).1)
      have s_rw0 := Nat.le_trans s_rw0 hg.size
      have H := H.grown hg H.size (fun g h => Nat.le_trans t_base_og (og.lt g h).1)
      have xk : Box w16 w.heap.size kx ky := by
        have e := hg0.block w.heap.size xk.2.2.2.2 (fun e => by have := (hl0 _ e.symm).1; omega)
        exact ⟨(World.cell?_of_block e).trans xk.1, (World.cell?_of_block e).trans xk.2.1, (World.frozen?_of_block e).trans xk.2.2.1, (World.frozen?_of_block e).trans xk.2.2.2.1, Nat.lt_of_lt_of_le xk.2.2.2.2 hg0.size⟩
      clear hg hg0 hl0 hk0
      go_wp2_with fail
      refine (heldRatS_any X6 mm _ _ 1 _ (RdP.of_own og) (by omega) (by omega) (by omega)).mono ?_
      rintro e w17 ⟨rfl, rfl⟩
      have hdr : Below w16.heap.size w16 w16.drew := (Below.refl _ _).drew
      have ra := ra.below hdr s_ra
      have rb := rb.below hdr s_rb
      have rw0 := rw0.below hdr s_rw0
      have og := own_below og hdr
      have xk := xk.below hdr
      have H : Below w.heap.size w w16.drew := H.trans (hdr.mono H.size)
      clear hdr
      have XK := Lib.hid xk
      go_upto_region 31 with fail
      refine wp_region_noPanic ?_
      refine wp_region_held_drew (S := (fun w' => w'.cell? ⟨w.heap.size, 0, none⟩ = some (.int .i64 kx) ∧ w'.cell? ⟨w.heap.size, 1, none⟩ = some (.int .i64 ky))) (by kernel_rfl) ?_ (fun hHeld => ?_)
      · exact ⟨xk.1, xk.2.1⟩
      refine takeL 0 (v := ?v2_0) rfl (by kernel_rfl) (by kernel_rfl) (by kernel_rfl) (fun _ _ _ h => h) (by rfl) ?hy2_0 (by assumption) ?r2_0
      case hy2_0 => (intro w hSw; (try dsimp only at hSw); first | (go_simp; done) | (go_simp; with_reducible rfl))
      simp only [Act.put, List.setIfInBounds_toArray, List.set_cons_zero, List.set_cons_succ]
      refine takeL 2 (v := ?v2_2) rfl (by kernel_rfl) (by kernel_rfl) (by kernel_rfl) (fun _ _ _ h => h) (by rfl) ?hy2_2 (by assumption) ?r2_2
      case hy2_2 => (intro w hSw; (try dsimp only at hSw); first | (go_simp; done) | (go_simp; with_reducible rfl))
      simp only [Act.put, List.setIfInBounds_toArray, List.set_cons_zero, List.set_cons_succ]
      refine takeL 4 (v := ?v2_4) rfl (by kernel_rfl) (by kernel_rfl) (by kernel_rfl) (fun _ _ _ h => h) (by rfl) ?hy2_4 (by assumption) ?r2_4
      case hy2_4 => (intro w hSw; (try dsimp only at hSw); first | (go_simp; done) | (go_simp; with_reducible rfl))
      simp only [Act.put, List.setIfInBounds_toArray, List.set_cons_zero, List.set_cons_succ]
      refine nextL 1 (by kernel_rfl) rfl (fun K hK => ?_)
      go_simp
      go_at_call 14; refine (toRatS_any _ _ _ _ V1 _ ra s_ra (by omega)).mono ?_; rintro e w1t ⟨XAt, rfl, ow, hb⟩; have ra := ra.below hb s_ra; have s_ra := Nat.le_trans s_ra hb.size; have rb := rb.below hb s_rb; have s_rb := Nat.le_trans s_rb hb.size; have rw0 := rw0.below hb s_rw0; have s_rw0 := Nat.le_trans s_rw0 hb.size; have og := own_below og hb; have xk := xk.below hb; have H := H.trans (hb.mono H.size); clear hb; have cat := RdP.of_own ow; have s_cat := Nat.le_refl w1t.heap.size; clear ow
      go_wp2_with fail
      refine hK.out _ _ ?_ (fun hHeld => ?_)
      · exact ⟨xk.1, xk.2.1⟩
      clear hK K
      refine nextL 3 (by kernel_rfl) rfl (fun K hK => ?_)
      go_simp
      go_at_call 35; refine (toRat_any _ _ _).mono ?_; rintro e w2t ⟨rfl, hb⟩; have ra := ra.below hb s_ra; have s_ra := Nat.le_trans s_ra hb.size; have rb := rb.below hb s_rb; have s_rb := Nat.le_trans s_rb hb.size; have rw0 := rw0.below hb s_rw0; have s_rw0 := Nat.le_trans s_rw0 hb.size; have cat := cat.below hb s_cat; have s_cat := Nat.le_trans s_cat hb.size; have og := own_below og hb; have xk := xk.below hb; have H := H.trans (hb.mono H.size); clear hb
      go_wp2_with fail
      refine hK.out _ _ ?_ (fun hHeld => ?_)
      · exact ⟨xk.1, xk.2.1⟩
      clear hK K
      refine nextL 5 (by kernel_rfl) rfl (fun K hK => ?_)
      go_simp
      go_at_call 14; refine (toRatS_any _ _ _ _ V2 _ rb s_rb (by omega)).mono ?_; rintro e w3t ⟨XBt, rfl, ow, hb⟩; have ra := ra.below hb s_ra; have s_ra := Nat.le_trans s_ra hb.size; have rb := rb.below hb s_rb; have s_rb := Nat.le_trans s_rb hb.size; have rw0 := rw0.below hb s_rw0; have s_rw0 := Nat.le_trans s_rw0 hb.size; have cat := cat.below hb s_cat; have s_cat := Nat.le_trans s_cat hb.size; have og := own_below og hb; have xk := xk.below hb; have H := H.trans (hb.mono H.size); clear hb; have cbt := RdP.of_own ow; have s_cbt := Nat.le_refl w3t.heap.size; clear ow
      go_wp2_with fail
      refine hK.out _ _ ?_ (fun hHeld => ?_)
      · exact ⟨xk.1, xk.2.1⟩
      clear hK K
      refine nextL 6 (by kernel_rfl) rfl (fun K hK => ?_)
      go_simp
      go_at_call 36; refine (SC.out.2 _ _ _ _ _ _ (cat.more s_cat) (cbt.more s_cbt) (Nat.le_refl _)).mono ?_; rintro e w4t ⟨vt, rfl, ow, hb⟩; obtain ⟨Xt, ct, rfl⟩ := own_form ow; have t_ra_oh := s_ra; have t_rb_oh := s_rb; have t_rw0_oh := s_rw0; have t_cat_oh := s_cat; have t_cbt_oh := s_cbt; have t_base_oh := H.size; have x_oh := xk.2.2.2.2; have u_og_oh := fun g h => (og.lt g h).2; have ra := ra.below hb s_ra; have s_ra := Nat.le_trans s_ra hb.size; have rb := rb.below hb s_rb; have s_rb := Nat.le_trans s_rb hb.size; have rw0 := rw0.below hb s_rw0; have s_rw0 := Nat.le_trans s_rw0 hb.size; have cat := cat.below hb s_cat; have s_cat := Nat.le_trans s_cat hb.size; have cbt := cbt.below hb s_cbt; have s_cbt := Nat.le_trans s_cbt hb.size; have og := own_below og hb; have xk := xk.below hb; have H := H.trans (hb.mono H.size); clear hb; have oh := ow; clear ow
      go_wp2_with fail
      refine hK.out _ _ ?_ (fun hHeld => ?_)
      · exact ⟨xk.1, xk.2.1⟩
      clear hK K
      refine takeL 7 (v := ?v2_7) rfl (by kernel_rfl) (by kernel_rfl) (by kernel_rfl) (fun _ _ _ h => h) (by rfl) ?hy2_7 (by assumption) ?r2_7
      case hy2_7 => (intro w hSw; (try dsimp only at hSw); first | (go_simp; done) | (go_simp; with_reducible rfl))
      simp only [Act.put, List.setIfInBounds_toArray, List.set_cons_zero, List.set_cons_succ]
      refine takeL 8 (v := ?v2_8) rfl (by kernel_rfl) (by kernel_rfl) (by kernel_rfl) (fun _ _ _ h => h) (by rfl) ?hy2_8 (by assumption) ?r2_8
      case hy2_8 => (intro w hSw; (try dsimp only at hSw); first | (go_simp; done) | (go_simp; with_reducible rfl))
      simp only [Act.put, List.setIfInBounds_toArray, List.set_cons_zero, List.set_cons_succ]
      refine takeL 9 (v := ?v2_9) rfl (by kernel_rfl) (by kernel_rfl) (by kernel_rfl) (fun _ _ _ h => h) (by rfl) ?hy2_9 (by assumption) ?r2_9
      case hy2_9 => (intro w hSw; (try dsimp only at hSw); first | (go_simp; done) | (go_simp; with_reducible rfl))
      simp only [Act.put, List.setIfInBounds_toArray, List.set_cons_zero, List.set_cons_succ]
      refine takeL 10 (v := ?v2_10) rfl (by kernel_rfl) (by kernel_rfl) (by kernel_rfl) (fun _ _ _ h => h) (by rfl) ?hy2_10 (by assumption) ?r2_10
      case hy2_10 => (intro w hSw; (try dsimp only at hSw); first | (go_simp; done) | (go_simp; with_reducible rfl))
      simp only [Act.put, List.setIfInBounds_toArray, List.set_cons_zero, List.set_cons_succ]
      refine takeL 11 (v := ?v2_11) rfl (by kernel_rfl) (by kernel_rfl) (by kernel_rfl) (fun _ _ _ h => h) (by rfl) ?hy2_11 (by assumption) ?r2_11
      case hy2_11 => (intro w hSw; (try dsimp only at hSw); first | (go_simp; done) | (go_simp; with_reducible rfl))
      simp only [Act.put, List.setIfInBounds_toArray, List.set_cons_zero, List.set_cons_succ]
      refine wpAnyH_done (by kernel_rfl) ?_ _
      refine NoPanic.normal ?_
      obtain ⟨w17, rfl⟩ : ∃ w5 : World, w5 = w4t := ⟨_, rfl⟩
      go_wp2_with fail
      refine (eqRatS_same _ _ _ _ _ _ VS _ (RdP.of_own oh) (rw0.more s_rw0) (Nat.le_refl _) (by omega)).mono ?_
      rintro e w18 ⟨rfl, hb⟩
      have ra := ra.below hb s_ra
      have s_ra := Nat.le_trans s_ra hb.size
      have rb := rb.below hb s_rb
      have s_rb := Nat.le_trans s_rb hb.size
      have rw0 := rw0.below hb s_rw0
      have s_rw0 := Nat.le_trans s_rw0 hb.size
      have og := own_below og hb
      have oh := own_below oh hb
      have H := H.trans (hb.mono H.size)
      have xk := xk.below hb
      clear hb
      go_wp2_with fail
      refine (heldRatS_any X6 mm _ _ 1 _ (RdP.of_own og) (by omega) (by omega) (by omega)).mono ?_
      rintro e w19 ⟨rfl, rfl⟩
      go_wp2
      go_ret
      exact ⟨rfl, H⟩
    · go_enter Try.func8, Try.ntmps8
      go_wp2_with fail
      refine (szRatS_yes _ _ _ _ _ hy1 (by omega)).mono ?_
      rintro e w1 ⟨rfl, rfl⟩
      go_wp2_with fail
      refine (szRatS_no _ _ _ _ _ (by omega) hy1 (by omega) (by omega)).mono ?_
      rintro e w1 ⟨rfl, rfl⟩
      go_wp2
      go_ret
      exact ⟨rfl, (Below.refl _ _).alloc (Nat.le_refl _) _⟩
  · go_enter Try.func8, Try.ntmps8
    go_wp2_with fail
    refine (szRatS_no _ _ _ _ _ (by omega) (by omega) (by omega) (by omega)).mono ?_
    rintro e w1 ⟨rfl, rfl⟩
    go_wp2
    go_ret
    exact ⟨rfl, (Below.refl _ _).alloc (Nat.le_refl _) _⟩

end Go.Proofs.Ytkhgolblendckaa
