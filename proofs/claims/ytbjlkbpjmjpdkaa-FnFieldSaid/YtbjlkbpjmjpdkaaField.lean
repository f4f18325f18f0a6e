/-
  The law FnField walked: it returns true.
-/
import Derived.Test.YtbjlkbpjmjpdkaaDrawTwo
import Derived.Test.YtbjlkbpjmjpdkaaRat3
import Derived.Test.YtbjlkbpjmjpdkaaFieldPlain
import Derived.Test.YtbjlkbpjmjpdkaaBig
namespace Go.Proofs.Ytbjlkbpjmjpdkaa
open Go.RowKit
attribute [local go_sem ↓] Go.wp_at_zero Go.wp_at_succ

theorem RdB.up {W w : World} {A : Option Addr} {n : Nat} (h : RdB W W.heap.size A n) (hb : Below W.heap.size W w) : RdB w w.heap.size A n := fun hn => by
  obtain ⟨b, off, e, hlt, hc⟩ := h hn
  refine ⟨b, off, e, Nat.lt_of_lt_of_le hlt hb.size, fun j hj => ?_⟩
  obtain ⟨x, x0, x1, hx⟩ := hc j hj
  exact ⟨x, x0, x1, (hb.cell (p := ⟨b, off + j, none⟩) hlt).trans hx⟩
theorem takeL {P : Program} {ops : Array Oper} {Q : Exit → Act → World → Prop} {md : Region.Mode} {S : World → Prop} (i : Nat) {oi : Oper} {v : Value} {fuel : Nat} {listed : Array Bool} {a : Act} {w : World} (hi : ops.toList[i]? = some oi)
    (hs : Region.noSelect ops = true) (hf : Region.free md ops listed i = true) (hr : (Region.ready md ops listed).contains i = true)
    (hQ : ∀ c a w, Q (.panic c) (a.put oi.dst v) w → Q (.panic c) a w) (hw : Region.wanted oi (yielded ops a.tmps) = true) (hy : ∀ w, S w → (execOp a.eval oi).run P w = .ok (.value v) w) (hS : S w)
    (h : wpAnyH P md ops Q S fuel (listed.setIfInBounds i true) (a.put oi.dst v) w) : wpAnyH P md ops Q S (fuel + 1) listed a w :=
  wpAnyH_take (by rw [← Array.getElem?_toList]; exact hi) hs hf hr hQ (Or.inl ⟨hw, hy⟩) hS h
theorem skipL {P : Program} {ops : Array Oper} {Q : Exit → Act → World → Prop} {md : Region.Mode} {S : World → Prop} (i : Nat) {oi : Oper} {fuel : Nat} {listed : Array Bool} {a : Act} {w : World} (hi : ops.toList[i]? = some oi)
    (hs : Region.noSelect ops = true) (hf : Region.free md ops listed i = true) (hr : (Region.ready md ops listed).contains i = true)
    (hQ : ∀ c a w, Q (.panic c) (a.put oi.dst undef) w → Q (.panic c) a w) (hw : Region.wanted oi (yielded ops a.tmps) = false) (hS : S w)
    (h : wpAnyH P md ops Q S fuel (listed.setIfInBounds i true) (a.put oi.dst undef) w) : wpAnyH P md ops Q S (fuel + 1) listed a w :=
  wpAnyH_take (by rw [← Array.getElem?_toList]; exact hi) hs hf hr hQ (Or.inr ⟨hw, rfl⟩) hS h
theorem nextL {P : Program} {ops : Array Oper} {Q : Exit → Act → World → Prop} {md : Region.Mode} {S : World → Prop} (i : Nat) {o : Oper} {fuel : Nat} {listed : Array Bool} {a : Act} {w : World} (hr : Region.ready md ops listed = [i]) (ho : ops.toList[i]? = some o)
    (h : ∀ K' : Act → World → Prop, Shut (∀ a w, S w → (S w → wpAnyH P md ops Q S fuel (listed.setIfInBounds i true) a w) → K' a w) → if Region.wanted o (yielded ops a.tmps) = true then Oper.wp P o a w K' Q else K' (a.put o.dst undef) w) : wpAnyH P md ops Q S (fuel + 1) listed a w :=
  wpAnyH_ready hr (by simp) (AllReadyH.cons (by rw [← Array.getElem?_toList]; exact ho) h AllReadyH.nil)

theorem six_cells {w X : World} {k1 k2 k3 : Nat} {x1 y1 x2 y2 x3 y3 : Int} (h : Below w.heap.size w X) (b1 : Box w k1 x1 y1) (b2 : Box w k2 x2 y2) (b3 : Box w k3 x3 y3) :
    X.cell? ⟨k1, 0, none⟩ = some (.int .i64 x1) ∧ X.cell? ⟨k1, 1, none⟩ = some (.int .i64 y1) ∧ X.cell? ⟨k2, 0, none⟩ = some (.int .i64 x2) ∧ X.cell? ⟨k2, 1, none⟩ = some (.int .i64 y2) ∧ X.cell? ⟨k3, 0, none⟩ = some (.int .i64 x3) ∧ X.cell? ⟨k3, 1, none⟩ = some (.int .i64 y3) :=
  ⟨(b1.below h).1, (b1.below h).2.1, (b2.below h).1, (b2.below h).2.1, (b3.below h).1, (b3.below h).2.1⟩

set_option maxRecDepth 40000 in
set_option maxHeartbeats 4000000 in
theorem fnField_walk {w : World} (A : Option Addr) (n c' : Nat) (_ : n ≤ maxLen) (hr : RdB w w.heap.size A n) :
    Calls Try.prog 9 #[.slice A n c'] w fun e w' => e = .returned (.bool true) ∧ Below w.heap.size w w' := by
  by_cases hbig : (1048576 : Int) < (n : Int)
  · go_enter Try.func9, Try.ntmps9
    go_wp2_with fail
    refine (big_yes _ _ _ _ hbig).mono ?_
    rintro e _ ⟨rfl, rfl⟩
    go_wp2
    go_ret
    exact ⟨rfl, Below.refl _ _⟩
  have DA := Lib.hid (drawAddRat_any A n c' w (by omega) hr)
  have DO := Lib.hid (fun w' (h : Below w.heap.size w w') => drawRatOf_any A n c' w' (by omega) (hr.up h))
  have HBIG := Lib.hid hbig
  clear hr hbig
  go_enter Try.func9, Try.ntmps9
  go_wp2_with fail
  refine (big_no _ _ _ _ (by have := HBIG.out; omega)).mono ?_
  rintro e _ ⟨rfl, rfl⟩
  have H := Below.refl w.heap.size w
  go_wp2_with fail
  refine DA.out.mono ?_
  rintro e w1 ⟨a, b, c, d, rfl, H⟩
  obtain ⟨s1, s2, s3, hS⟩ : ∃ s1 s2 s3, Pl.add a b c d = (s1, s2, s3) := ⟨_, _, _, rfl⟩
  obtain ⟨t1, t2, t3, hT⟩ : ∃ t1 t2 t3, Pl.sub' s1 s2 c d = (t1, t2, t3) := ⟨_, _, _, rfl⟩
  obtain ⟨p1, p2, p3, hP⟩ : ∃ p1 p2 p3, Pl.mul a b c d = (p1, p2, p3) := ⟨_, _, _, rfl⟩
  obtain ⟨q1, q2, q3, hQ⟩ : ∃ q1 q2 q3, Pl.div p1 p2 c d = (q1, q2, q3) := ⟨_, _, _, rfl⟩
  obtain ⟨e1, e2, e3, hE⟩ : ∃ e1 e2 e3, Pl.sub' a b c d = (e1, e2, e3) := ⟨_, _, _, rfl⟩
  obtain ⟨m, hM⟩ : ∃ m, Pl.cmp a b c d = m := ⟨_, rfl⟩
  have IA := fun w => iadd_any a b c d w
  have SA := fun w => sadd_any a b c d w
  have IT := fun w => isub_any s1 s2 c d w
  have IP := fun w => imul_any a b c d w
  have IQ := fun w => idiv_any p1 p2 c d w
  have IM := fun w => icmp_any a b c d w
  have SM := fun w => scmp_any a b c d w
  have IE := fun w => isub_any a b c d w
  simp only [hS] at IA SA
  simp only [hT] at IT
  simp only [hP] at IP
  simp only [hQ] at IQ
  simp only [hM] at IM SM
  simp only [hE] at IE
  have F1 : s3 = true → t3 = true → t1 = a ∧ t2 = b := fun h1 h2 => by
    have h := Pl.add_sub (a := a) (b := b) (c := c) (d := d)
    simp only [hS, hT] at h
    exact h h1 h2
  have F2 : p3 = true → q3 = true → q1 = a ∧ q2 = b := fun h1 h2 => by
    have h := Pl.mul_div (a := a) (b := b) (c := c) (d := d)
    simp only [hP, hQ] at h
    exact h h1 h2
  have F3 : e3 = true → (decide (0 < e1) = decide (0 < m)) := fun h1 => by
    have h := Pl.cmp_sub (a := a) (b := b) (c := c) (d := d)
    simp only [hE, hM] at h
    exact h h1
  have CS := Lib.hid (And.intro IA (And.intro SA (And.intro IT (And.intro IP (And.intro IQ (And.intro IM (And.intro SM IE)))))))
  have FS := Lib.hid (And.intro F1 (And.intro F2 F3))
  clear hS hT hP hQ hE hM IA SA IT IP IQ IM SM IE F1 F2 F3
  go_wp2_with fail
  refine (CS.out.1 _).mono ?_
  rintro e w2 ⟨rfl, hb⟩
  have BA : Box w2 w1.heap.size a b := ((Box.new w1 a b 25).alloc _).below hb
  have BBb : Box w2 (w1.heap.size + 1) c d := by
    have h := (Box.new (w1.alloc (.cells #[.int .i64 a, .int .i64 b] 25)) c d 25).below hb
    simpa using h
  have hz : Below w1.heap.size w1 w2 := (((Below.refl _ _).alloc (Nat.le_refl _) _).alloc (by simp) _).trans (hb.mono (by simp; omega))
  have H := H.trans (hz.mono H.size)
  clear hz hb
  have A0 := BA.1
  have A1 := BA.2.1
  have A4 := BA.2.2.2.2
  have Bb0 := BBb.1
  have Bb1 := BBb.2.1
  have Bb4 := BBb.2.2.2.2
  go_wp2_with fail
  refine (CS.out.2.1 _).mono ?_
  rintro e w3 ⟨rfl, hb⟩
  clear A0 A1 A4
  clear Bb0 Bb1 Bb4
  have BS : Box w3 w2.heap.size s1 s2 := (Box.new w2 s1 s2 25).below hb
  have hz : Below w2.heap.size w2 w3 := ((Below.refl _ _).alloc (Nat.le_refl _) _).trans (hb.mono (by simp))
  have BA := BA.below hz
  have BBb := BBb.below hz
  have H := H.trans (hz.mono H.size)
  clear hz hb
  have A0 := BA.1
  have A1 := BA.2.1
  have A4 := BA.2.2.2.2
  have Bb0 := BBb.1
  have Bb1 := BBb.2.1
  have Bb4 := BBb.2.2.2.2
  have S0 := BS.1
  have S1 := BS.2.1
  have S4 := BS.2.2.2.2
  go_wp2_with fail
  refine (CS.out.2.2.1 _).mono ?_
  rintro e w4 ⟨rfl, hb⟩
  clear A0 A1 A4
  clear Bb0 Bb1 Bb4
  clear S0 S1 S4
  clear BS
  have hz : Below w3.heap.size w3 w4 := ((Below.refl _ _).alloc (Nat.le_refl _) _).trans (hb.mono (by simp))
  have BA := BA.below hz
  have BBb := BBb.below hz
  have H := H.trans (hz.mono H.size)
  clear hz hb
  have A0 := BA.1
  have A1 := BA.2.1
  have A4 := BA.2.2.2.2
  have Bb0 := BBb.1
  have Bb1 := BBb.2.1
  have Bb4 := BBb.2.2.2.2
  go_upto_region 9 with fail
  go_cut [65] (fun sx wx => sx = .bool false ∧ wx = (w4.alloc (.cells #[.int .i64 t1, .int .i64 t2] 25)))
  case first =>
    have h12 := FS.out.1
    cases s3
    · clear h12
      go_wp2_with fail
      go_meet
      exact ⟨rfl, rfl⟩
    · cases t3
      · clear h12
        go_wp2_with fail
        go_meet
        exact ⟨rfl, rfl⟩
      · obtain ⟨rfl, rfl⟩ := h12 rfl rfl
        go_wp2_with fail
        go_meet
        exact ⟨rfl, rfl⟩
  case rest =>
    obtain ⟨rfl, rfl⟩ := hcut
    go_wp2_with fail
    refine (CS.out.2.2.2.1 _).mono ?_
    rintro e w5 ⟨rfl, hb⟩
    clear A0 A1 A4
    clear Bb0 Bb1 Bb4
    have hz : Below w4.heap.size w4 w5 := ((Below.refl _ _).alloc (Nat.le_refl _) _).trans (hb.mono (by simp))
    have BA := BA.below hz
    have BBb := BBb.below hz
    have H := H.trans (hz.mono H.size)
    clear hz hb
    have A0 := BA.1
    have A1 := BA.2.1
    have A4 := BA.2.2.2.2
    have Bb0 := BBb.1
    have Bb1 := BBb.2.1
    have Bb4 := BBb.2.2.2.2
    go_wp2_with fail
    refine (CS.out.2.2.2.2.1 _).mono ?_
    rintro e w6 ⟨rfl, hb⟩
    clear A0 A1 A4
    clear Bb0 Bb1 Bb4
    have hz : Below w5.heap.size w5 w6 := ((Below.refl _ _).alloc (Nat.le_refl _) _).trans (hb.mono (by simp))
    have BA := BA.below hz
    have BBb := BBb.below hz
    have H := H.trans (hz.mono H.size)
    clear hz hb
    have A0 := BA.1
    have A1 := BA.2.1
    have A4 := BA.2.2.2.2
    have Bb0 := BBb.1
    have Bb1 := BBb.2.1
    have Bb4 := BBb.2.2.2.2
    go_upto_region 13 with fail
    go_cut [86] (fun sx wx => sx = .bool false ∧ wx = (w6.alloc (.cells #[.int .i64 q1, .int .i64 q2] 25)))
    case first =>
      have h12 := FS.out.2.1
      cases p3
      · clear h12
        go_wp2_with fail
        go_meet
        exact ⟨rfl, rfl⟩
      · cases q3
        · clear h12
          go_wp2_with fail
          go_meet
          exact ⟨rfl, rfl⟩
        · obtain ⟨rfl, rfl⟩ := h12 rfl rfl
          go_wp2_with fail
          go_meet
          exact ⟨rfl, rfl⟩
    case rest =>
      obtain ⟨rfl, rfl⟩ := hcut
      go_wp2_with fail
      refine (CS.out.2.2.2.2.2.1 _).mono ?_
      rintro e w7 ⟨rfl, hb⟩
      clear A0 A1 A4
      clear Bb0 Bb1 Bb4
      have hz : Below w6.heap.size w6 w7 := ((Below.refl _ _).alloc (Nat.le_refl _) _).trans (hb.mono (by simp))
      have BA := BA.below hz
      have BBb := BBb.below hz
      have H := H.trans (hz.mono H.size)
      clear hz hb
      have A0 := BA.1
      have A1 := BA.2.1
      have A4 := BA.2.2.2.2
      have Bb0 := BBb.1
      have Bb1 := BBb.2.1
      have Bb4 := BBb.2.2.2.2
      go_wp2_with fail
      refine (CS.out.2.2.2.2.2.2.2 _).mono ?_
      rintro e w8 ⟨rfl, hb⟩
      clear A0 A1 A4
      clear Bb0 Bb1 Bb4
      have hz := hb
      have BA := BA.below hz
      have BBb := BBb.below hz
      have H := H.trans (hz.mono H.size)
      clear hz hb
      have A0 := BA.1
      have A1 := BA.2.1
      have A4 := BA.2.2.2.2
      have Bb0 := BBb.1
      have Bb1 := BBb.2.1
      have Bb4 := BBb.2.2.2.2
      go_upto_region 17 with fail
      go_cut [111] (fun sx wx => sx = .bool false ∧ Below (w8.alloc (.cells #[.int .i64 e1, .int .i64 e2] 25)).heap.size (w8.alloc (.cells #[.int .i64 e1, .int .i64 e2] 25)) wx)
      case first =>
        have h3 := FS.out.2.2
        go_wp2_with fail
        refine (CS.out.2.2.2.2.2.2.1 _).mono ?_
        rintro e w9 ⟨rfl, hb⟩
        have BE : Box w9 w8.heap.size e1 e2 := (Box.new w8 e1 e2 25).below hb
        have E0 := BE.1
        have E1 := BE.2.1
        have E4 := BE.2.2.2.2
        have HB := Lib.hid hb
        clear hb
        cases e3
        · clear h3
          go_wp2_with fail
          go_meet
          exact ⟨rfl, HB.out⟩
        · have h4 := h3 rfl
          clear h3
          by_cases hp : 0 < e1
          · have d1 := decide_eq_true hp
            have d2 := h4.symm.trans d1
            go_wp2_with fail
            go_meet
            exact ⟨rfl, HB.out⟩
          · have d1 := decide_eq_false hp
            have d2 := h4.symm.trans d1
            go_wp2_with fail
            go_meet
            exact ⟨rfl, HB.out⟩
      case rest =>
        obtain ⟨rfl, hb⟩ := hcut
        obtain ⟨w9, rfl⟩ : ∃ w9 : World, w9 = wc := ⟨_, rfl⟩
        clear A0 A1 A4
        clear Bb0 Bb1 Bb4
        clear BBb
        have hz : Below w8.heap.size w8 w9 := ((Below.refl _ _).alloc (Nat.le_refl _) _).trans (hb.mono (by simp))
        have BA := BA.below hz
        have H := H.trans (hz.mono H.size)
        clear hz hb
        have A0 := BA.1
        have A1 := BA.2.1
        have A4 := BA.2.2.2.2
        go_wp2_with fail
        refine (DO.out _ H).mono ?_
        rintro e w10 ⟨x, y, rfl, hb⟩
        clear A0 A1 A4
        have hz := hb
        have BA := BA.below hz
        have H := H.trans (hz.mono H.size)
        clear hz hb
        have A0 := BA.1
        have A1 := BA.2.1
        have A4 := BA.2.2.2.2
        obtain ⟨r1, r2, r3, hR⟩ : ∃ r1 r2 r3, Pl.rat x y = (r1, r2, r3) := ⟨_, _, _, rfl⟩
        have IR := fun w => iratOf_any x y w
        have SR := fun w => sratOf_any x y w
        simp only [hR] at IR SR
        have hv : r3 = true → Pl.valid r1 r2 = true := fun h => by
          have h2 := Pl.rat_valid (n := x) (d := y)
          simp only [hR] at h2
          exact h2 h
        have RS := Lib.hid (And.intro IR (And.intro SR hv))
        clear hR IR SR hv CS FS DO DA
        go_wp2_with fail
        refine (RS.out.1 _).mono ?_
        rintro e w11 ⟨rfl, hb⟩
        clear A0 A1 A4
        have hz := hb
        have BA := BA.below hz
        have H := H.trans (hz.mono H.size)
        clear hz hb
        have A0 := BA.1
        have A1 := BA.2.1
        have A4 := BA.2.2.2.2
        go_wp2_with fail
        refine (RS.out.2.1 _).mono ?_
        rintro e w12 ⟨rfl, hb⟩
        clear A0 A1 A4
        have BR : Box w12 w11.heap.size r1 r2 := (Box.new w11 r1 r2 25).below hb
        have hz : Below w11.heap.size w11 w12 := ((Below.refl _ _).alloc (Nat.le_refl _) _).trans (hb.mono (by simp))
        have BA := BA.below hz
        have H := H.trans (hz.mono H.size)
        clear hz hb
        have A0 := BA.1
        have A1 := BA.2.1
        have A4 := BA.2.2.2.2
        have R0 := BR.1
        have R1 := BR.2.1
        have R4 := BR.2.2.2.2
        have hv := RS.out.2.2
        have BA := BA.below (((Below.refl _ _).alloc (Nat.le_refl _) (.cells #[.int .i64 r1, .int .i64 r2] 25)).drew)
        have BR := BR.below (((Below.refl _ _).alloc (Nat.le_refl _) (.cells #[.int .i64 r1, .int .i64 r2] 25)).drew)
        have BU : Box (w12.alloc (.cells #[.int .i64 r1, .int .i64 r2] 25)).drew w12.heap.size r1 r2 := (Box.new w12 r1 r2 25).below (Below.refl _ _).drew
        have HA := Lib.hid BA
        have HR := Lib.hid BR
        have HU := Lib.hid BU
        have HH := Lib.hid (((H.alloc H.size _).drew : Below w.heap.size w (w12.alloc (.cells #[.int .i64 r1, .int .i64 r2] 25)).drew))
        clear BA BR BU A0 A1 A4 R0 R1 R4 H
        obtain ⟨va, hva⟩ : ∃ va, Pl.valid a b = va := ⟨_, rfl⟩
        cases r3
        · clear hv
          go_upto_region 22 with fail
          refine wp_region_noPanic ?_
          refine wp_region_held_drew (S := (fun w' => w'.cell? ⟨w1.heap.size, 0, none⟩ = some (.int .i64 a) ∧ w'.cell? ⟨w1.heap.size, 1, none⟩ = some (.int .i64 b) ∧ w'.cell? ⟨w11.heap.size, 0, none⟩ = some (.int .i64 r1) ∧ w'.cell? ⟨w11.heap.size, 1, none⟩ = some (.int .i64 r2) ∧ w'.cell? ⟨w12.heap.size, 0, none⟩ = some (.int .i64 r1) ∧ w'.cell? ⟨w12.heap.size, 1, none⟩ = some (.int .i64 r2))) (by kernel_rfl) ?_ (fun hHeld => ?_)
          · exact six_cells (by repeat (first | assumption | exact Below.refl _ _ | refine Below.drew ?_ | refine below_drewN ?_ _)) HA.out HR.out HU.out
          refine takeL 0 (v := ?v0) rfl (by kernel_rfl) (by kernel_rfl) (by kernel_rfl) (fun _ _ _ h => h) (by rfl) ?hy0 (by assumption) ?r0
          case hy0 => (intro w hSw; (try dsimp only at hSw); first | (go_simp; done) | (go_simp; with_reducible rfl))
          simp only [Act.put, List.setIfInBounds_toArray, List.set_cons_zero, List.set_cons_succ]
          refine takeL 1 (v := ?v1) rfl (by kernel_rfl) (by kernel_rfl) (by kernel_rfl) (fun _ _ _ h => h) (by rfl) ?hy1 (by assumption) ?r1
          case hy1 => (intro w hSw; (try dsimp only at hSw); first | (go_simp; done) | (go_simp; with_reducible rfl))
          simp only [Act.put, List.setIfInBounds_toArray, List.set_cons_zero, List.set_cons_succ]
          refine takeL 2 (v := ?v2) rfl (by kernel_rfl) (by kernel_rfl) (by kernel_rfl) (fun _ _ _ h => h) (by rfl) ?hy2 (by assumption) ?r2
          case hy2 => (intro w hSw; (try dsimp only at hSw); first | (go_simp; done) | (go_simp; with_reducible rfl))
          simp only [Act.put, List.setIfInBounds_toArray, List.set_cons_zero, List.set_cons_succ]
          refine takeL 3 (v := ?v3) rfl (by kernel_rfl) (by kernel_rfl) (by kernel_rfl) (fun _ _ _ h => h) (by rfl) ?hy3 (by assumption) ?r3
          case hy3 => (intro w hSw; (try dsimp only at hSw); first | (go_simp; done) | (go_simp; with_reducible rfl))
          simp only [Act.put, List.setIfInBounds_toArray, List.set_cons_zero, List.set_cons_succ]
          refine takeL 4 (v := ?v4) rfl (by kernel_rfl) (by kernel_rfl) (by kernel_rfl) (fun _ _ _ h => h) (by rfl) ?hy4 (by assumption) ?r4
          case hy4 => (intro w hSw; (try dsimp only at hSw); first | (go_simp; done) | (go_simp; with_reducible rfl))
          simp only [Act.put, List.setIfInBounds_toArray, List.set_cons_zero, List.set_cons_succ]
          refine takeL 5 (v := ?v5) rfl (by kernel_rfl) (by kernel_rfl) (by kernel_rfl) (fun _ _ _ h => h) (by rfl) ?hy5 (by assumption) ?r5
          case hy5 => (intro w hSw; (try dsimp only at hSw); first | (go_simp; done) | (go_simp; with_reducible rfl))
          simp only [Act.put, List.setIfInBounds_toArray, List.set_cons_zero, List.set_cons_succ]
          refine takeL 6 (v := ?v6) rfl (by kernel_rfl) (by kernel_rfl) (by kernel_rfl) (fun _ _ _ h => h) (by rfl) ?hy6 (by assumption) ?r6
          case hy6 => (intro w hSw; (try dsimp only at hSw); first | (go_simp; done) | (go_simp; with_reducible rfl))
          simp only [Act.put, List.setIfInBounds_toArray, List.set_cons_zero, List.set_cons_succ]
          refine takeL 7 (v := ?v7) rfl (by kernel_rfl) (by kernel_rfl) (by kernel_rfl) (fun _ _ _ h => h) (by rfl) ?hy7 (by assumption) ?r7
          case hy7 => (intro w hSw; (try dsimp only at hSw); first | (go_simp; done) | (go_simp; with_reducible rfl))
          simp only [Act.put, List.setIfInBounds_toArray, List.set_cons_zero, List.set_cons_succ]
          refine takeL 8 (v := ?v8) rfl (by kernel_rfl) (by kernel_rfl) (by kernel_rfl) (fun _ _ _ h => h) (by rfl) ?hy8 (by assumption) ?r8
          case hy8 => (intro w hSw; (try dsimp only at hSw); first | (go_simp; done) | (go_simp; with_reducible rfl))
          simp only [Act.put, List.setIfInBounds_toArray, List.set_cons_zero, List.set_cons_succ]
          refine takeL 9 (v := ?v9) rfl (by kernel_rfl) (by kernel_rfl) (by kernel_rfl) (fun _ _ _ h => h) (by rfl) ?hy9 (by assumption) ?r9
          case hy9 => (intro w hSw; (try dsimp only at hSw); first | (go_simp; done) | (go_simp; with_reducible rfl))
          simp only [Act.put, List.setIfInBounds_toArray, List.set_cons_zero, List.set_cons_succ]
          refine takeL 10 (v := ?v10) rfl (by kernel_rfl) (by kernel_rfl) (by kernel_rfl) (fun _ _ _ h => h) (by rfl) ?hy10 (by assumption) ?r10
          case hy10 => (intro w hSw; (try dsimp only at hSw); first | (go_simp; done) | (go_simp; with_reducible rfl))
          simp only [Act.put, List.setIfInBounds_toArray, List.set_cons_zero, List.set_cons_succ]
          refine takeL 11 (v := ?v11) rfl (by kernel_rfl) (by kernel_rfl) (by kernel_rfl) (fun _ _ _ h => h) (by rfl) ?hy11 (by assumption) ?r11
          case hy11 => (intro w hSw; (try dsimp only at hSw); first | (go_simp; done) | (go_simp; with_reducible rfl))
          simp only [Act.put, List.setIfInBounds_toArray, List.set_cons_zero, List.set_cons_succ]
          refine skipL 12 rfl (by kernel_rfl) (by kernel_rfl) (by kernel_rfl) (fun _ _ _ h => h) (by rfl) (by assumption) ?_
          simp only [Act.put, List.setIfInBounds_toArray, List.set_cons_zero, List.set_cons_succ]
          refine nextL 13 (by kernel_rfl) rfl (fun K hK => ?_)
          go_simp
          refine hK.out _ _ ?_ (fun hHeld => ?_)
          · assumption
          clear hK K
          refine takeL 14 (v := ?v14) rfl (by kernel_rfl) (by kernel_rfl) (by kernel_rfl) (fun _ _ _ h => h) (by rfl) ?hy14 (by assumption) ?r14
          case hy14 => (intro w hSw; (try dsimp only at hSw); first | (go_simp; done) | (go_simp; with_reducible rfl))
          simp only [Act.put, List.setIfInBounds_toArray, List.set_cons_zero, List.set_cons_succ]
          refine takeL 15 (v := ?v15) rfl (by kernel_rfl) (by kernel_rfl) (by kernel_rfl) (fun _ _ _ h => h) (by rfl) ?hy15 (by assumption) ?r15
          case hy15 => (intro w hSw; (try dsimp only at hSw); first | (go_simp; done) | (go_simp; with_reducible rfl))
          simp only [Act.put, List.setIfInBounds_toArray, List.set_cons_zero, List.set_cons_succ]
          refine takeL 16 (v := ?v16) rfl (by kernel_rfl) (by kernel_rfl) (by kernel_rfl) (fun _ _ _ h => h) (by rfl) ?hy16 (by assumption) ?r16
          case hy16 => (intro w hSw; (try dsimp only at hSw); first | (go_simp; done) | (go_simp; with_reducible rfl))
          simp only [Act.put, List.setIfInBounds_toArray, List.set_cons_zero, List.set_cons_succ]
          refine takeL 17 (v := ?v17) rfl (by kernel_rfl) (by kernel_rfl) (by kernel_rfl) (fun _ _ _ h => h) (by rfl) ?hy17 (by assumption) ?r17
          case hy17 => (intro w hSw; (try dsimp only at hSw); first | (go_simp; done) | (go_simp; with_reducible rfl))
          simp only [Act.put, List.setIfInBounds_toArray, List.set_cons_zero, List.set_cons_succ]
          refine takeL 19 (v := ?v19) rfl (by kernel_rfl) (by kernel_rfl) (by kernel_rfl) (fun _ _ _ h => h) (by rfl) ?hy19 (by assumption) ?r19
          case hy19 => (intro w hSw; (try dsimp only at hSw); first | (go_simp; done) | (go_simp; with_reducible rfl))
          simp only [Act.put, List.setIfInBounds_toArray, List.set_cons_zero, List.set_cons_succ]
          refine nextL 18 (by kernel_rfl) rfl (fun K hK => ?_)
          go_simp
          (go_at_call 27; refine (ivalid_any _ _ _).mono ?_; rintro e wA ⟨rfl, hbA⟩; have HBA : Below (w12.alloc (.cells #[.int .i64 r1, .int .i64 r2] 25)).drew.heap.size (w12.alloc (.cells #[.int .i64 r1, .int .i64 r2] 25)).drew wA := Below.trans (by repeat (first | assumption | exact Below.refl _ _ | refine Below.drew ?_ | refine below_drewN ?_ _)) (hbA.mono (by first | exact Nat.le_refl _ | exact Below.size (by repeat (first | assumption | exact Below.refl _ _ | refine Below.drew ?_ | refine below_drewN ?_ _)))); clear hbA)
          go_wp2_with fail
          refine hK.out _ _ ?_ (fun hHeld => ?_)
          · exact six_cells (by repeat (first | assumption | exact Below.refl _ _ | refine Below.drew ?_ | refine below_drewN ?_ _)) HA.out HR.out HU.out
          clear hK K
          refine nextL 20 (by kernel_rfl) rfl (fun K hK => ?_)
          go_simp
          (go_at_call 28; refine (svalid_any _ _ _).mono ?_; rintro e wB ⟨rfl, hbA⟩; have HBB : Below (w12.alloc (.cells #[.int .i64 r1, .int .i64 r2] 25)).drew.heap.size (w12.alloc (.cells #[.int .i64 r1, .int .i64 r2] 25)).drew wB := Below.trans (by repeat (first | assumption | exact Below.refl _ _ | refine Below.drew ?_ | refine below_drewN ?_ _)) (hbA.mono (by first | exact Nat.le_refl _ | exact Below.size (by repeat (first | assumption | exact Below.refl _ _ | refine Below.drew ?_ | refine below_drewN ?_ _)))); clear hbA)
          go_wp2_with fail
          refine hK.out _ _ ?_ (fun hHeld => ?_)
          · exact six_cells (by repeat (first | assumption | exact Below.refl _ _ | refine Below.drew ?_ | refine below_drewN ?_ _)) HA.out HR.out HU.out
          clear hK K
          refine takeL 21 (v := ?v21) rfl (by kernel_rfl) (by kernel_rfl) (by kernel_rfl) (fun _ _ _ h => h) (by rfl) ?hy21 (by assumption) ?r21
          case hy21 => (intro w hSw; (try dsimp only at hSw); first | (go_simp; done) | (go_simp; with_reducible rfl))
          simp only [Act.put, List.setIfInBounds_toArray, List.set_cons_zero, List.set_cons_succ]
          refine takeL 22 (v := ?v22) rfl (by kernel_rfl) (by kernel_rfl) (by kernel_rfl) (fun _ _ _ h => h) (by rfl) ?hy22 (by assumption) ?r22
          case hy22 => (intro w hSw; (try dsimp only at hSw); first | (go_simp; done) | (go_simp; with_reducible rfl))
          simp only [Act.put, List.setIfInBounds_toArray, List.set_cons_zero, List.set_cons_succ]
          refine takeL 23 (v := ?v23) rfl (by kernel_rfl) (by kernel_rfl) (by kernel_rfl) (fun _ _ _ h => h) (by rfl) ?hy23 (by assumption) ?r23
          case hy23 => (intro w hSw; (try dsimp only at hSw); first | (go_simp; done) | (go_simp; with_reducible rfl))
          simp only [Act.put, List.setIfInBounds_toArray, List.set_cons_zero, List.set_cons_succ]
          refine wpAnyH_done (by kernel_rfl) ?_ _
          refine NoPanic.normal ?_
          go_wp2
          go_ret
          exact ⟨by first | rfl | (simp; done), HH.out.trans (HBB.mono (by have := HH.out.size; simpa using this))⟩
        · have hv2 := hv rfl
          clear hv
          go_upto_region 22 with fail
          go_region_held3 (fun w' => w'.cell? ⟨w1.heap.size, 0, none⟩ = some (.int .i64 a) ∧ w'.cell? ⟨w1.heap.size, 1, none⟩ = some (.int .i64 b) ∧ w'.cell? ⟨w11.heap.size, 0, none⟩ = some (.int .i64 r1) ∧ w'.cell? ⟨w11.heap.size, 1, none⟩ = some (.int .i64 r2) ∧ w'.cell? ⟨w12.heap.size, 0, none⟩ = some (.int .i64 r1) ∧ w'.cell? ⟨w12.heap.size, 1, none⟩ = some (.int .i64 r2)) (exact six_cells (by repeat (first | assumption | exact Below.refl _ _ | refine Below.drew ?_ | refine below_drewN ?_ _)) HA.out HR.out HU.out) (first | (go_at_call 27; refine (ivalid_any _ _ _).mono ?_; rintro e wA ⟨rfl, hbA⟩; have HBA : Below (w12.alloc (.cells #[.int .i64 r1, .int .i64 r2] 25)).drew.heap.size (w12.alloc (.cells #[.int .i64 r1, .int .i64 r2] 25)).drew wA := Below.trans (by repeat (first | assumption | exact Below.refl _ _ | refine Below.drew ?_ | refine below_drewN ?_ _)) (hbA.mono (by first | exact Nat.le_refl _ | exact Below.size (by repeat (first | assumption | exact Below.refl _ _ | refine Below.drew ?_ | refine below_drewN ?_ _)))); clear hbA) | (go_at_call 28; refine (svalid_any _ _ _).mono ?_; rintro e wA ⟨rfl, hbA⟩; have HBA : Below (w12.alloc (.cells #[.int .i64 r1, .int .i64 r2] 25)).drew.heap.size (w12.alloc (.cells #[.int .i64 r1, .int .i64 r2] 25)).drew wA := Below.trans (by repeat (first | assumption | exact Below.refl _ _ | refine Below.drew ?_ | refine below_drewN ?_ _)) (hbA.mono (by first | exact Nat.le_refl _ | exact Below.size (by repeat (first | assumption | exact Below.refl _ _ | refine Below.drew ?_ | refine below_drewN ?_ _)))); clear hbA))
          all_goals
            go_wp2
            go_ret
            exact ⟨by first | rfl | (simp; done), HH.out.trans (HBA.mono (by have := HH.out.size; simpa using this))⟩
end Go.Proofs.Ytbjlkbpjmjpdkaa
