/-
  Contracts of the draws of fractions and of their texts: DrawFormatRat, l1Turned, DrawParseRat.
-/
import Derived.Test.YtkhmepbdjdodmaaDoorDrawRat
import Derived.Test.YtkhmepbdjdodmaaDoorFmtRat
import Derived.Test.YtkhmepbdjdodmaaDoorFmtVec
import Derived.Laws.Concat
namespace Go.Proofs.YtkhmepbdjdodmaaDoor
open Go.RowKit
attribute [local go_sem ↓] Go.wp_at_zero Go.wp_at_succ
attribute [-go_sem] Go.run_string_add_if

theorem takeL {P : Program} {ops : Array Oper} {Q : Exit → Act → World → Prop} {md : Region.Mode} {S : World → Prop} (i : Nat) {oi : Oper} {v : Value} {fuel : Nat} {listed : Array Bool} {a : Act} {w : World} (hi : ops.toList[i]? = some oi)
    (hs : Region.noSelect ops = true) (hf : Region.free md ops listed i = true) (hr : (Region.ready md ops listed).contains i = true)
    (hQ : ∀ c a w, Q (.panic c) (a.put oi.dst v) w → Q (.panic c) a w) (hw : Region.wanted oi (yielded ops a.tmps) = true) (hy : ∀ w, S w → (execOp a.eval oi).run P w = .ok (.value v) w) (hS : S w)
    (h : wpAnyH P md ops Q S fuel (listed.setIfInBounds i true) (a.put oi.dst v) w) : wpAnyH P md ops Q S (fuel + 1) listed a w :=
  wpAnyH_take (by rw [← Array.getElem?_toList]; exact hi) hs hf hr hQ (Or.inl ⟨hw, hy⟩) hS h
theorem skipL {P : Program} {ops : Array Oper} {Q : Exit → Act → World → Prop} {md : Region.Mode} {S : World → Prop} (i : Nat) {oi : Oper} {fuel : Nat} {listed : Array Bool} {a : Act} {w : World} (hi : ops.toList[i]? = some oi)
    (hs : Region.noSelect ops = true) (hf : Region.free md ops listed i = true) (hr : (Region.ready md ops listed).contains i = true)
    (hQ : ∀ c a w, Q (.panic c) (a.put oi.dst undef) w → Q (.panic c) a w) (hw : Region.wanted oi (yielded ops a.tmps) = false) (hS : S w)
    (h : wpAnyH P md ops Q S fuel (listed.setIfInBounds i true) (a.put oi.dst undef) w) : wpAnyH P md ops Q S (fuel + 1) listed a w :=
  wpAnyH_take (by rw [← Array.getElem?_toList]; exact hi) hs hf hr hQ (Or.inr ⟨hw, rfl⟩) hS h
theorem nextL {P : Program} {ops : Array Oper} {Q : Exit → Act → World → Prop} {md : Region.Mode} {S : World → Prop} (i : Nat) {o : Oper} {fuel : Nat} {listed : Array Bool} {a : Act} {w : World} (hr : Region.ready md ops listed = [i]) (ho : ops.toList[i]? = some o)
    (h : ∀ K' : Act → World → Prop, Shut (∀ a w, S w → (S w → wpAnyH P md ops Q S fuel (listed.setIfInBounds i true) a w) → K' a w) → if Region.wanted o (yielded ops a.tmps) = true then Oper.wp P o a w K' Q else K' (a.put o.dst undef) w) : wpAnyH P md ops Q S (fuel + 1) listed a w :=
  wpAnyH_ready hr (by simp) (AllReadyH.cons (by rw [← Array.getElem?_toList]; exact ho) h AllReadyH.nil)

theorem Lst.drew {w : World} {b m : Nat} {P : Value → Prop} (h : Lst w b P m) : Lst w.drew b P m := ⟨h.1, h.2⟩
theorem Lst.stp {W w w' : World} {b m g : Nat} {P : Value → Prop} (h : Lst w b P m) (hs : Stp W g w w') (hb : b ≠ g) : Lst w' b P m :=
  ⟨Nat.lt_of_lt_of_le h.1 hs.2.size, fun j hj => by
    obtain ⟨v, hv, hc⟩ := h.2 j hj
    exact ⟨v, hv, (hs.cell h.1 hb).trans hc⟩⟩

theorem drawFormatRat_any (A : Option Addr) (n c : Nat) (w : World) (hn : (n : Int) ≤ 1048576) (hr : RdB w w.heap.size A n) :
    Calls Tryd.prog 42 #[.slice A n c] w fun e w' => ∃ a b : Int, e = .returned (.agg #[.int .i64 a, .int .i64 b]) ∧ Below w.heap.size w w' := by
  go_enter Tryd.func42, Tryd.ntmps42
  go_wp2_with fail
  refine (l1New_any _ _ _ w _ ((Below.refl _ _).alloc (Nat.le_refl _) _) hn hr).mono ?_
  rintro e w1 ⟨g, rfl, hd, hb, hg⟩
  simp at hg
  have X2 : Box w1 w.heap.size 0 0 := (Box.new w 0 0 _).below hb
  have HD1 := Lib.hid hd
  clear hd hb
  go_wp2_with fail
  refine (l3Draw_any _ _ _ HD1.out).mono ?_
  rintro e w2 ⟨a, b, rfl, hs⟩
  have X2 := X2.stp hs (by omega)
  have HD2 := Lib.hid hs.1.1
  clear hs HD1
  obtain ⟨q0, q1, q2, q3, q4⟩ := id X2
  have bx0 := (Box.store X2 a b).1
  have bx1 := (Box.store X2 a b).2.1
  go_wp2
  refine bodyPost_ret (v := .agg #[.int .i64 a, .int .i64 b]) (by simp [results, Tryd.results42, go_sem, bx0, bx1]) rfl ⟨a, b, rfl, ?_⟩
  exact (HD2.out.setCell (Nat.le_refl _) _).setCell (Nat.le_refl _) _

theorem l1Turned_any (W w : World) (g b m : Nat) (s : ByteArray) (P : ByteArray → Prop) (hP : ∀ z, P z → z.size ≤ 64) (hsz : s.size ≤ 64) (hd : Dr W g w) (hm0 : 1 ≤ m) (hm1 : m ≤ 256) (hne : b ≠ g) (hl : Lst w b (fun v => ∃ z, P z ∧ v = .string z) m) :
    Calls Tryd.prog 78 #[.pointer (some ⟨g, 0, none⟩), .string s, .slice (some ⟨b, 0, none⟩) m m] w fun e w' => ∃ t : ByteArray, t.size ≤ 192 ∧ e = .returned (.string t) ∧ Stp W g w w' := by
  have HD := Lib.hid hd
  have HL := Lib.hid hl
  have HP := Lib.hid hP
  clear hd hl hP
  go_enter Tryd.func78, Tryd.ntmps78
  go_wp2_with fail
  refine (l1Below_any _ _ _ _ (by omega) (by omega) HD.out).mono ?_
  rintro e w1 ⟨x, x0, x1, rfl, hs⟩
  obtain ⟨j, rfl⟩ : ∃ j : Nat, x = j := ⟨x.toNat, by omega⟩
  have j1 : j ≤ s.size := by omega
  have HD1 := Lib.hid hs
  have HL1 := Lib.hid (HL.out.stp hs hne)
  clear hs HL
  go_wp2_with fail
  refine (l1Below_any _ _ _ _ (by decide) (by decide) HD1.out.1).mono ?_
  rintro e w2 ⟨y, y0, y1, rfl, hs⟩
  have HD2 := Lib.hid (HD1.out.trans hs)
  have HL2 := Lib.hid (HL1.out.stp hs hne)
  clear hs HL1 HD1
  by_cases h0 : y = 0
  · subst h0
    go_upto_region 4 with fail
    refine wp_region_noPanic ?_
    refine wp_region_held_drew (S := (fun _ => True)) (by kernel_rfl) ?_ (fun hHeld => ?_)
    · trivial
    refine takeL 0 (v := ?v1_0) rfl (by kernel_rfl) (by kernel_rfl) (by kernel_rfl) (fun _ _ _ h => h) (by rfl) ?hy1_0 (by assumption) ?r1_0
    case hy1_0 => (intro w hSw; (try dsimp only at hSw); first | (go_simp; done) | (go_simp; with_reducible rfl))
    simp only [Act.put, List.setIfInBounds_toArray, List.set_cons_zero, List.set_cons_succ]
    refine takeL 1 (v := ?v1_1) rfl (by kernel_rfl) (by kernel_rfl) (by kernel_rfl) (fun _ _ _ h => h) (by rfl) ?hy1_1 (by assumption) ?r1_1
    case hy1_1 => (intro w hSw; (try dsimp only at hSw); first | (go_simp; done) | (go_simp; with_reducible rfl))
    simp only [Act.put, List.setIfInBounds_toArray, List.set_cons_zero, List.set_cons_succ]
    refine takeL 2 (v := ?v1_2) rfl (by kernel_rfl) (by kernel_rfl) (by kernel_rfl) (fun _ _ _ h => h) (by rfl) ?hy1_2 (by assumption) ?r1_2
    case hy1_2 => (intro w hSw; (try dsimp only at hSw); first | (go_simp; done) | (go_simp; with_reducible rfl))
    simp only [Act.put, List.setIfInBounds_toArray, List.set_cons_zero, List.set_cons_succ]
    refine takeL 3 (v := ?v1_3) rfl (by kernel_rfl) (by kernel_rfl) (by kernel_rfl) (fun _ _ _ h => h) (by rfl) ?hy1_3 (by assumption) ?r1_3
    case hy1_3 => (intro w hSw; (try dsimp only at hSw); first | (go_simp; done) | (go_simp; with_reducible rfl))
    simp only [Act.put, List.setIfInBounds_toArray, List.set_cons_zero, List.set_cons_succ]
    refine takeL 4 (v := ?v1_4) rfl (by kernel_rfl) (by kernel_rfl) (by kernel_rfl) (fun _ _ _ h => h) (by rfl) ?hy1_4 (by assumption) ?r1_4
    case hy1_4 => (intro w hSw; (try dsimp only at hSw); first | (go_simp; done) | (go_simp; with_reducible rfl))
    simp only [Act.put, List.setIfInBounds_toArray, List.set_cons_zero, List.set_cons_succ]
    refine takeL 7 (v := ?v1_7) rfl (by kernel_rfl) (by kernel_rfl) (by kernel_rfl) (fun _ _ _ h => h) (by rfl) ?hy1_7 (by assumption) ?r1_7
    case hy1_7 => (intro w hSw; (try dsimp only at hSw); first | (go_simp; done) | (go_simp; with_reducible rfl))
    simp only [Act.put, List.setIfInBounds_toArray, List.set_cons_zero, List.set_cons_succ]
    refine takeL 8 (v := ?v1_8) rfl (by kernel_rfl) (by kernel_rfl) (by kernel_rfl) (fun _ _ _ h => h) (by rfl) ?hy1_8 (by assumption) ?r1_8
    case hy1_8 => (intro w hSw; (try dsimp only at hSw); first | (go_simp; done) | (go_simp; with_reducible rfl))
    simp only [Act.put, List.setIfInBounds_toArray, List.set_cons_zero, List.set_cons_succ]
    refine takeL 9 (v := ?v1_9) rfl (by kernel_rfl) (by kernel_rfl) (by kernel_rfl) (fun _ _ _ h => h) (by rfl) ?hy1_9 (by assumption) ?r1_9
    case hy1_9 => (intro w hSw; (try dsimp only at hSw); first | (go_simp; done) | (go_simp; with_reducible rfl))
    simp only [Act.put, List.setIfInBounds_toArray, List.set_cons_zero, List.set_cons_succ]
    refine nextL 5 (by kernel_rfl) rfl (fun K hK => ?_)
    go_simp
    go_at_call 62; refine (l1Pick_any W _ g b m P HD2.out.1.drew hm0 hm1 hne (HL2.out.drew)).mono ?_; rintro e wA ⟨z, hz, rfl, hs⟩; have HS3 := Lib.hid ((HD2.out.drew).trans hs); have hzz := HP.out z hz; clear hs hz; have q1 := fun W => run_string_add_sum (P := Tryd.prog) W (s.extract 0 j) z (by rw [ByteArray.size_extract]; omega); have q2 := fun W => run_string_add_sum (P := Tryd.prog) W (s.extract 0 j ++ z) (s.extract j s.size) (by rw [ByteArray.size_append, ByteArray.size_extract, ByteArray.size_extract]; omega)
    go_wp2_with fail
    refine hK.out _ _ ?_ (fun hHeld => ?_)
    · trivial
    clear hK K
    refine takeL 6 (v := ?v1_6) rfl (by kernel_rfl) (by kernel_rfl) (by kernel_rfl) (fun _ _ _ h => h) (by rfl) ?hy1_6 (by assumption) ?r1_6
    case hy1_6 => (intro w hSw; (try dsimp only at hSw); first | (go_simp; done) | (go_simp; with_reducible rfl))
    simp only [Act.put, List.setIfInBounds_toArray, List.set_cons_zero, List.set_cons_succ]
    refine takeL 10 (v := ?v1_10) rfl (by kernel_rfl) (by kernel_rfl) (by kernel_rfl) (fun _ _ _ h => h) (by rfl) ?hy1_10 (by assumption) ?r1_10
    case hy1_10 => (intro w hSw; (try dsimp only at hSw); first | (go_simp; done) | (go_simp; with_reducible rfl))
    simp only [Act.put, List.setIfInBounds_toArray, List.set_cons_zero, List.set_cons_succ]
    refine takeL 11 (v := ?v1_11) rfl (by kernel_rfl) (by kernel_rfl) (by kernel_rfl) (fun _ _ _ h => h) (by rfl) ?hy1_11 (by assumption) ?r1_11
    case hy1_11 => (intro w hSw; (try dsimp only at hSw); first | (go_simp; done) | (go_simp; with_reducible rfl))
    simp only [Act.put, List.setIfInBounds_toArray, List.set_cons_zero, List.set_cons_succ]
    refine wpAnyH_done (by kernel_rfl) ?_ _
    refine NoPanic.normal ?_
    go_wp2
    go_ret
    exact ⟨_, by rw [ByteArray.size_append, ByteArray.size_append, ByteArray.size_extract, ByteArray.size_extract]; omega, rfl, HS3.out⟩
  · have k0 := beq_eq_false_iff_ne.2 h0
    by_cases h1 : y = 1
    · subst h1
      go_wp2
      go_ret
      exact ⟨_, by first | omega | (rw [ByteArray.size_extract]; omega), rfl, HD2.out⟩
    · have k1 := beq_eq_false_iff_ne.2 h1
      go_wp2
      go_ret
      exact ⟨s, by omega, rfl, HD2.out⟩

theorem drawParseRat_any (A : Option Addr) (n c : Nat) (w : World) (hn : (n : Int) ≤ 1048576) (hr : RdB w w.heap.size A n) :
    Calls Tryd.prog 44 #[.slice A n c] w fun e w' => ∃ t : ByteArray, t.size ≤ 192 ∧ e = .returned (.string t) ∧ Below w.heap.size w w' := by
  go_enter Tryd.func44, Tryd.ntmps44
  go_wp2_with fail
  refine (l1New_any _ _ _ w w (Below.refl _ _) hn hr).mono ?_
  rintro e w0 ⟨g, rfl, hd, _, _⟩
  have HD0 := Lib.hid hd
  clear hd
  go_wp2_with fail
  refine (l3Draw_any _ _ _ HD0.out).mono ?_
  rintro e w1 ⟨a, b, rfl, hs⟩
  have HD1 := Lib.hid hs.1
  clear hs
  go_wp2_with fail
  refine (sfmtRat_any _ _ _).mono ?_
  rintro e w2 ⟨rfl, hb⟩
  have HD2 := Lib.hid (HD1.out.below hb)
  have hl := Pl.fmtR_len a b
  obtain ⟨s, hs⟩ : ∃ s : ByteArray, s = ⟨(Pl.fmtR a b).toArray⟩ := ⟨_, rfl⟩
  have hsz : s.size ≤ 64 := by
    rw [hs]
    show (Pl.fmtR a b).toArray.size ≤ 64
    rw [List.size_toArray]
    exact hl
  rw [← hs]
  clear hs hl hb
  have hg2 := HD2.out.lt
  go_wp2_with fail
  refine (l1Turned_any w _ g _ 5 s (fun z => z.size ≤ 64) (fun z h => h) hsz (HD2.out.alloc _) (by decide) (by decide) (by omega) (Lst.new' _ (by first | rfl | (simp; done)) (by intro v hv; simp at hv; rcases hv with rfl | rfl | rfl | rfl | rfl <;> exact ⟨_, by decide, rfl⟩))).mono ?_
  rintro e w3 ⟨t, ht, rfl, hs⟩
  have HS := Lib.hid hs.1.1
  have HTT := Lib.hid ht
  clear hs ht
  go_wp2
  go_ret
  exact ⟨t, HTT.out, rfl, HS.out⟩

end Go.Proofs.YtkhmepbdjdodmaaDoor
