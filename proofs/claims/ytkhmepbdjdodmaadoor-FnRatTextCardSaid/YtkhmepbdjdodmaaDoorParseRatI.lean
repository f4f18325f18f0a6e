/-
  ParseRat of the program walked.
-/
import Derived.Test.YtkhmepbdjdodmaaDoorParseRatW
namespace Go.Proofs.YtkhmepbdjdodmaaDoor
open Go.RowKit

theorem iwhole_any (n : Int) (w : World) : Calls Tryd.prog 54 #[.int .i64 n] w fun e w' => e = .returned (.agg #[.int .i64 n, .int .i64 1]) ∧ Below w.heap.size w w' := by
  go_enter Tryd.func54, Tryd.ntmps54
  go_wp2
  refine bodyPost_ret (v := .agg #[.int .i64 n, .int .i64 1]) (by simp [results, Tryd.results54, go_sem]) rfl ⟨rfl, ?_⟩
  first | exact (Below.refl _ _).alloc (Nat.le_refl _) _ | exact below_set2 ((Below.refl _ _).alloc (Nat.le_refl _) _)

set_option maxHeartbeats 4000000 in
theorem iparseR_any (s : ByteArray) (hs : s.size ≤ 1048576) (w : World) (ht : Tab w) :
    Calls Tryd.prog 16 #[.string s] w fun e w' => e = .returned (.tuple #[.agg #[.int .i64 (Pl.parseR s).1, .int .i64 (Pl.parseR s).2.1], .bool (Pl.parseR s).2.2]) ∧ Below w.heap.size w w' := by
  have hzp := Pl.split_pos s 47
  have hsm := Pl.split_small s 47
  have hbad := fun a b => Pl.pR_bad (s := s) (zs := Pl.split s 47) (a := a) (b := b) rfl
  have hgood := fun a b => Pl.pR_good (s := s) (zs := Pl.split s 47) (a := a) (b := b) rfl
  have cs := fun W => isplit_any s 47 W hs
  obtain ⟨zs, hz⟩ : ∃ zs, zs = Pl.split s 47 := ⟨_, rfl⟩
  rw [← hz] at hzp hsm hbad hgood
  unfold OwnsStrs at cs
  rw [← hz] at cs
  clear hz
  obtain ⟨z0, e0'⟩ : ∃ z, z = zs.getD 0 ⟨#[]⟩ := ⟨_, rfl⟩
  obtain ⟨z1, e1'⟩ : ∃ z, z = zs.getD 1 ⟨#[]⟩ := ⟨_, rfl⟩
  have e0 : (zs.map Value.string)[0]? = some (.string z0) := by
    rw [e0', List.getElem?_map, List.getElem?_eq_getElem hzp, List.getD, List.getElem?_eq_getElem hzp]
    rfl
  have e1 : 1 < zs.length → (zs.map Value.string)[1]? = some (.string z1) := fun h => by
    rw [e1', List.getElem?_map, List.getElem?_eq_getElem h, List.getD, List.getElem?_eq_getElem h]
    rfl
  have s0 : z0.size ≤ 4611686018427387904 := by
    have := hsm z0 (by rw [e0', List.getD, List.getElem?_eq_getElem hzp]; exact List.getElem_mem _)
    omega
  have s1 : 1 < zs.length → z1.size ≤ 4611686018427387904 := fun h => by
    have := hsm z1 (by rw [e1', List.getD, List.getElem?_eq_getElem h]; exact List.getElem_mem _)
    omega
  rw [← e0'] at hbad hgood
  rw [← e1'] at hbad hgood
  clear e0' e1' hsm
  obtain ⟨L, hL⟩ : ∃ L, L = zs.length := ⟨_, rfl⟩
  rw [← hL] at hzp hbad hgood cs e1 s1
  have ca := fun W => iparseI_any z0 s0 W
  have ha : ∃ a, a = Pl.parseI z0.toList 12 := ⟨_, rfl⟩
  obtain ⟨a, ha⟩ := ha
  rw [← ha] at hbad hgood ca
  obtain ⟨n, one⟩ := a
  have cb := fun h W => iparseI_any z1 (s1 h) W
  obtain ⟨b2, hb2⟩ : ∃ b, b = Pl.parseI z1.toList 12 := ⟨_, rfl⟩
  rw [← hb2] at hbad hgood cb
  obtain ⟨d2, two⟩ := b2
  clear ha hb2 s0 s1 hL
  simp only at ca cb
  have HBAD := Lib.hid hbad
  have HGOOD := Lib.hid hgood
  have E1 := Lib.hid e1
  have CB := Lib.hid cb
  clear hbad hgood e1 cb
  have hL : L = 1 ∨ L = 2 ∨ 3 ≤ L := by omega
  cases one
  · have HR : Hid (Pl.parseR s = (0, 0, false)) := HBAD.out (n, false) (if 1 < L then (d2, two) else (1, true)) rfl rfl rfl
    go_enter Tryd.func16, Tryd.ntmps16
    go_wp2_with fail
    refine (cs _).mono ?_
    rintro e wl ⟨v, rfl, own, hb⟩
    obtain ⟨A, c, rfl⟩ := own_form own
    have X2 : Box wl w.heap.size 0 0 := Box.below (w := w.alloc _) ⟨by simp, by simp, by simp, by simp, by simp⟩ hb
    have HB : Below w.heap.size w wl := ((Below.refl _ _).alloc (Nat.le_refl _) _).trans (hb.mono (by simp))
    obtain ⟨b, off, rfl, hbw, hc⟩ := (Rd.of_own own).2 (by omega)
    have x0 : wl.cell? ⟨b, off, none⟩ = some (.string z0) := by simpa using hc 0 (.string z0) e0
    clear hb own hc
    go_wp2_with fail
    refine (ca _).mono ?_
    rintro e _ ⟨rfl, rfl⟩
    obtain ⟨wo, hwo⟩ : ∃ wo, wo = wl := ⟨_, rfl⟩
    rw [← hwo] at X2 HB hbw x0 ⊢
    clear hwo wl
    go_wp2_with fail
    refine (iwhole_any _ _).mono ?_
    rintro e wl ⟨rfl, hb⟩
    have X2 := X2.below hb
    have HB := HB.trans (hb.mono HB.size)
    clear hb x0 hbw
    have by0 := fun o => ((Box.store X2 0 0).alloc o).1
    have by1 := fun o => ((Box.store X2 0 0).alloc o).2.1
    have hzz : w.heap.size ≤ wl.heap.size := HB.size
    obtain ⟨q0, q1, q2, q3, q4⟩ := id X2
    go_wp2
    refine bodyPost_ret (v := .tuple #[.agg #[.int .i64 0, .int .i64 0], .bool false]) (by simp [results, Tryd.results16, go_sem, by0, by1]) rfl ⟨Pl.r_rb HR.out rfl rfl rfl, ?_⟩
    repeat (first | assumption | exact Below.refl _ _ | refine Below.drew ?_ | refine below_drewN ?_ _ | refine Below.alloc ?_ (by first | omega | (simp; done) | (simp; omega)) _ | refine Below.setCell ?_ (by first | omega | (simp; done) | (simp; omega)) _)
  · rcases hL with rfl | rfl | hL
    · cases hq : (Pl.fmtR n 1 == s.toList)
      · have HR := Lib.hid (HBAD.out (n, true) (1, true) rfl rfl (by simp only [hq]; rfl))
        have hq' : (Pl.fmtR n 1 != s.toList) = true := by rw [bne, hq]; rfl
        go_enter Tryd.func16, Tryd.ntmps16
        go_wp2_with fail
        refine (cs _).mono ?_
        rintro e wl ⟨v, rfl, own, hb⟩
        obtain ⟨A, c, rfl⟩ := own_form own
        have X2 : Box wl w.heap.size 0 0 := Box.below (w := w.alloc _) ⟨by simp, by simp, by simp, by simp, by simp⟩ hb
        have HB : Below w.heap.size w wl := ((Below.refl _ _).alloc (Nat.le_refl _) _).trans (hb.mono (by simp))
        obtain ⟨b, off, rfl, hbw, hc⟩ := (Rd.of_own own).2 (by omega)
        have x0 : wl.cell? ⟨b, off, none⟩ = some (.string z0) := by simpa using hc 0 (.string z0) e0
        clear hb own hc
        go_wp2_with fail
        refine (ca _).mono ?_
        rintro e _ ⟨rfl, rfl⟩
        obtain ⟨wo, hwo⟩ : ∃ wo, wo = wl := ⟨_, rfl⟩
        rw [← hwo] at X2 HB hbw x0 ⊢
        clear hwo wl
        go_wp2_with fail
        refine (iwhole_any _ _).mono ?_
        rintro e wl ⟨rfl, hb⟩
        have X2 := X2.below hb
        have HB := HB.trans (hb.mono HB.size)
        clear hb x0 hbw
        have hzz : w.heap.size ≤ wl.heap.size := HB.size
        obtain ⟨wo, hwo⟩ : ∃ wo, wo = wl := ⟨_, rfl⟩
        rw [← hwo] at X2 HB hzz ⊢
        clear hwo wl
        obtain ⟨q0, q1, q2, q3, q4⟩ := id X2
        go_wp2_with fail
        refine (ifmtRat_any _ _ _ (ht.below (by repeat (first | assumption | exact Below.refl _ _ | refine Below.drew ?_ | refine below_drewN ?_ _ | refine Below.alloc ?_ (by first | omega | (simp; done) | (simp; omega)) _ | refine Below.setCell ?_ (by first | omega | (simp; done) | (simp; omega)) _)))).mono ?_
        rintro e wl ⟨rfl, hb⟩
        have X9 : Box wl wo.heap.size n (1) := Box.below (w := _) ⟨by simp, by simp, by simp, by simp, by simp⟩ hb
        have X2 : Box wl w.heap.size 0 0 := by
          refine Box.below (Box.below X2 ?_) hb
          repeat (first | assumption | exact Below.refl _ _ | refine Below.drew ?_ | refine below_drewN ?_ _ | refine Below.alloc ?_ (by first | omega | (simp; done) | (simp; omega)) _ | refine Below.setCell ?_ (by first | omega | (simp; done) | (simp; omega)) _)
        have HB : Below w.heap.size w wl := by
          refine Below.trans ?_ (hb.mono (by simp; omega))
          repeat (first | assumption | exact Below.refl _ _ | refine Below.drew ?_ | refine below_drewN ?_ _ | refine Below.alloc ?_ (by first | omega | (simp; done) | (simp; omega)) _ | refine Below.setCell ?_ (by first | omega | (simp; done) | (simp; omega)) _)
        clear hb q0 q1 q2 q3 q4 hzz
        have bx0 := (Box.store X2 0 0).1
        have bx1 := (Box.store X2 0 0).2.1
        have hzz : w.heap.size ≤ wl.heap.size := HB.size
        obtain ⟨q0, q1, q2, q3, q4⟩ := id X2
        go_wp2
        refine bodyPost_ret (v := .tuple #[.agg #[.int .i64 0, .int .i64 0], .bool false]) (by simp [results, Tryd.results16, go_sem, bx0, bx1]) rfl ⟨Pl.r_rb HR.out rfl rfl rfl, ?_⟩
        repeat (first | assumption | exact Below.refl _ _ | refine Below.drew ?_ | refine below_drewN ?_ _ | refine Below.alloc ?_ (by first | omega | (simp; done) | (simp; omega)) _ | refine Below.setCell ?_ (by first | omega | (simp; done) | (simp; omega)) _)
      · have HR := Lib.hid (HGOOD.out (n, true) (1, true) rfl rfl (by simp only [hq]; rfl))
        have hq' : (Pl.fmtR n 1 != s.toList) = false := by rw [bne, hq]; rfl
        go_enter Tryd.func16, Tryd.ntmps16
        go_wp2_with fail
        refine (cs _).mono ?_
        rintro e wl ⟨v, rfl, own, hb⟩
        obtain ⟨A, c, rfl⟩ := own_form own
        have X2 : Box wl w.heap.size 0 0 := Box.below (w := w.alloc _) ⟨by simp, by simp, by simp, by simp, by simp⟩ hb
        have HB : Below w.heap.size w wl := ((Below.refl _ _).alloc (Nat.le_refl _) _).trans (hb.mono (by simp))
        obtain ⟨b, off, rfl, hbw, hc⟩ := (Rd.of_own own).2 (by omega)
        have x0 : wl.cell? ⟨b, off, none⟩ = some (.string z0) := by simpa using hc 0 (.string z0) e0
        clear hb own hc
        go_wp2_with fail
        refine (ca _).mono ?_
        rintro e _ ⟨rfl, rfl⟩
        obtain ⟨wo, hwo⟩ : ∃ wo, wo = wl := ⟨_, rfl⟩
        rw [← hwo] at X2 HB hbw x0 ⊢
        clear hwo wl
        go_wp2_with fail
        refine (iwhole_any _ _).mono ?_
        rintro e wl ⟨rfl, hb⟩
        have X2 := X2.below hb
        have HB := HB.trans (hb.mono HB.size)
        clear hb x0 hbw
        have hzz : w.heap.size ≤ wl.heap.size := HB.size
        obtain ⟨wo, hwo⟩ : ∃ wo, wo = wl := ⟨_, rfl⟩
        rw [← hwo] at X2 HB hzz ⊢
        clear hwo wl
        obtain ⟨q0, q1, q2, q3, q4⟩ := id X2
        go_wp2_with fail
        refine (ifmtRat_any _ _ _ (ht.below (by repeat (first | assumption | exact Below.refl _ _ | refine Below.drew ?_ | refine below_drewN ?_ _ | refine Below.alloc ?_ (by first | omega | (simp; done) | (simp; omega)) _ | refine Below.setCell ?_ (by first | omega | (simp; done) | (simp; omega)) _)))).mono ?_
        rintro e wl ⟨rfl, hb⟩
        have X9 : Box wl wo.heap.size n (1) := Box.below (w := _) ⟨by simp, by simp, by simp, by simp, by simp⟩ hb
        have X2 : Box wl w.heap.size 0 0 := by
          refine Box.below (Box.below X2 ?_) hb
          repeat (first | assumption | exact Below.refl _ _ | refine Below.drew ?_ | refine below_drewN ?_ _ | refine Below.alloc ?_ (by first | omega | (simp; done) | (simp; omega)) _ | refine Below.setCell ?_ (by first | omega | (simp; done) | (simp; omega)) _)
        have HB : Below w.heap.size w wl := by
          refine Below.trans ?_ (hb.mono (by simp; omega))
          repeat (first | assumption | exact Below.refl _ _ | refine Below.drew ?_ | refine below_drewN ?_ _ | refine Below.alloc ?_ (by first | omega | (simp; done) | (simp; omega)) _ | refine Below.setCell ?_ (by first | omega | (simp; done) | (simp; omega)) _)
        clear hb q0 q1 q2 q3 q4 hzz
        have bx0 := (Box.store X2 n (1)).1
        have bx1 := (Box.store X2 n (1)).2.1
        obtain ⟨t0, t1, t2, t3, t4⟩ := X9
        have hzz : w.heap.size ≤ wl.heap.size := HB.size
        obtain ⟨q0, q1, q2, q3, q4⟩ := id X2
        go_wp2
        refine bodyPost_ret (v := .tuple #[.agg #[.int .i64 n, .int .i64 (1)], .bool true]) (by simp [results, Tryd.results16, go_sem, bx0, bx1]) rfl ⟨Pl.r_rb HR.out rfl rfl rfl, ?_⟩
        repeat (first | assumption | exact Below.refl _ _ | refine Below.drew ?_ | refine below_drewN ?_ _ | refine Below.alloc ?_ (by first | omega | (simp; done) | (simp; omega)) _ | refine Below.setCell ?_ (by first | omega | (simp; done) | (simp; omega)) _)
    · have e1 := E1.out (by omega)
      have cb := CB.out (by omega)
      cases two
      · have HR := Lib.hid (HBAD.out (n, true) (d2, false) rfl rfl rfl)
        go_enter Tryd.func16, Tryd.ntmps16
        go_wp2_with fail
        refine (cs _).mono ?_
        rintro e wl ⟨v, rfl, own, hb⟩
        obtain ⟨A, c, rfl⟩ := own_form own
        have X2 : Box wl w.heap.size 0 0 := Box.below (w := w.alloc _) ⟨by simp, by simp, by simp, by simp, by simp⟩ hb
        have HB : Below w.heap.size w wl := ((Below.refl _ _).alloc (Nat.le_refl _) _).trans (hb.mono (by simp))
        obtain ⟨b, off, rfl, hbw, hc⟩ := (Rd.of_own own).2 (by omega)
        have x0 : wl.cell? ⟨b, off, none⟩ = some (.string z0) := by simpa using hc 0 (.string z0) e0
        have x1 : wl.cell? ⟨b, off + 1, none⟩ = some (.string z1) := hc 1 (.string z1) e1
        clear hb own hc
        go_wp2_with fail
        refine (ca _).mono ?_
        rintro e _ ⟨rfl, rfl⟩
        obtain ⟨wo, hwo⟩ : ∃ wo, wo = wl := ⟨_, rfl⟩
        rw [← hwo] at X2 HB hbw x0 x1 ⊢
        clear hwo wl
        go_wp2_with fail
        refine (iwhole_any _ _).mono ?_
        rintro e wl ⟨rfl, hb⟩
        have X2 := X2.below hb
        have HB := HB.trans (hb.mono HB.size)
        have x1 := (hb.cell (p := ⟨b, off + 1, none⟩) hbw).trans x1
        have hbw := Nat.lt_of_lt_of_le hbw hb.size
        clear hb x0
        go_wp2_with fail
        refine (cb _).mono ?_
        rintro e _ ⟨rfl, rfl⟩
        clear x1 hbw
        have by0 := fun o => ((Box.store X2 0 0).alloc o).1
        have by1 := fun o => ((Box.store X2 0 0).alloc o).2.1
        have hzz : w.heap.size ≤ wl.heap.size := HB.size
        obtain ⟨q0, q1, q2, q3, q4⟩ := id X2
        go_wp2
        refine bodyPost_ret (v := .tuple #[.agg #[.int .i64 0, .int .i64 0], .bool false]) (by simp [results, Tryd.results16, go_sem, by0, by1]) rfl ⟨Pl.r_rb HR.out rfl rfl rfl, ?_⟩
        repeat (first | assumption | exact Below.refl _ _ | refine Below.drew ?_ | refine below_drewN ?_ _ | refine Below.alloc ?_ (by first | omega | (simp; done) | (simp; omega)) _ | refine Below.setCell ?_ (by first | omega | (simp; done) | (simp; omega)) _)
      · cases hq : (Pl.fmtR n d2 == s.toList)
        · have HR := Lib.hid (HBAD.out (n, true) (d2, true) rfl rfl (by simp only [hq]; rfl))
          have hq' : (Pl.fmtR n d2 != s.toList) = true := by rw [bne, hq]; rfl
          go_enter Tryd.func16, Tryd.ntmps16
          go_wp2_with fail
          refine (cs _).mono ?_
          rintro e wl ⟨v, rfl, own, hb⟩
          obtain ⟨A, c, rfl⟩ := own_form own
          have X2 : Box wl w.heap.size 0 0 := Box.below (w := w.alloc _) ⟨by simp, by simp, by simp, by simp, by simp⟩ hb
          have HB : Below w.heap.size w wl := ((Below.refl _ _).alloc (Nat.le_refl _) _).trans (hb.mono (by simp))
          obtain ⟨b, off, rfl, hbw, hc⟩ := (Rd.of_own own).2 (by omega)
          have x0 : wl.cell? ⟨b, off, none⟩ = some (.string z0) := by simpa using hc 0 (.string z0) e0
          have x1 : wl.cell? ⟨b, off + 1, none⟩ = some (.string z1) := hc 1 (.string z1) e1
          clear hb own hc
          go_wp2_with fail
          refine (ca _).mono ?_
          rintro e _ ⟨rfl, rfl⟩
          obtain ⟨wo, hwo⟩ : ∃ wo, wo = wl := ⟨_, rfl⟩
          rw [← hwo] at X2 HB hbw x0 x1 ⊢
          clear hwo wl
          go_wp2_with fail
          refine (iwhole_any _ _).mono ?_
          rintro e wl ⟨rfl, hb⟩
          have X2 := X2.below hb
          have HB := HB.trans (hb.mono HB.size)
          have x1 := (hb.cell (p := ⟨b, off + 1, none⟩) hbw).trans x1
          have hbw := Nat.lt_of_lt_of_le hbw hb.size
          clear hb x0
          go_wp2_with fail
          refine (cb _).mono ?_
          rintro e _ ⟨rfl, rfl⟩
          clear x1 hbw
          have hzz : w.heap.size ≤ wl.heap.size := HB.size
          obtain ⟨wo, hwo⟩ : ∃ wo, wo = wl := ⟨_, rfl⟩
          rw [← hwo] at X2 HB hzz ⊢
          clear hwo wl
          obtain ⟨q0, q1, q2, q3, q4⟩ := id X2
          go_wp2_with fail
          refine (ifmtRat_any _ _ _ (ht.below (by repeat (first | assumption | exact Below.refl _ _ | refine Below.drew ?_ | refine below_drewN ?_ _ | refine Below.alloc ?_ (by first | omega | (simp; done) | (simp; omega)) _ | refine Below.setCell ?_ (by first | omega | (simp; done) | (simp; omega)) _)))).mono ?_
          rintro e wl ⟨rfl, hb⟩
          have X9 : Box wl wo.heap.size n (d2) := Box.below (w := _) ⟨by simp, by simp, by simp, by simp, by simp⟩ hb
          have X2 : Box wl w.heap.size 0 0 := by
            refine Box.below (Box.below X2 ?_) hb
            repeat (first | assumption | exact Below.refl _ _ | refine Below.drew ?_ | refine below_drewN ?_ _ | refine Below.alloc ?_ (by first | omega | (simp; done) | (simp; omega)) _ | refine Below.setCell ?_ (by first | omega | (simp; done) | (simp; omega)) _)
          have HB : Below w.heap.size w wl := by
            refine Below.trans ?_ (hb.mono (by simp; omega))
            repeat (first | assumption | exact Below.refl _ _ | refine Below.drew ?_ | refine below_drewN ?_ _ | refine Below.alloc ?_ (by first | omega | (simp; done) | (simp; omega)) _ | refine Below.setCell ?_ (by first | omega | (simp; done) | (simp; omega)) _)
          clear hb q0 q1 q2 q3 q4 hzz
          have bx0 := (Box.store X2 0 0).1
          have bx1 := (Box.store X2 0 0).2.1
          have hzz : w.heap.size ≤ wl.heap.size := HB.size
          obtain ⟨q0, q1, q2, q3, q4⟩ := id X2
          go_wp2
          refine bodyPost_ret (v := .tuple #[.agg #[.int .i64 0, .int .i64 0], .bool false]) (by simp [results, Tryd.results16, go_sem, bx0, bx1]) rfl ⟨Pl.r_rb HR.out rfl rfl rfl, ?_⟩
          repeat (first | assumption | exact Below.refl _ _ | refine Below.drew ?_ | refine below_drewN ?_ _ | refine Below.alloc ?_ (by first | omega | (simp; done) | (simp; omega)) _ | refine Below.setCell ?_ (by first | omega | (simp; done) | (simp; omega)) _)
        · have HR := Lib.hid (HGOOD.out (n, true) (d2, true) rfl rfl (by simp only [hq]; rfl))
          have hq' : (Pl.fmtR n d2 != s.toList) = false := by rw [bne, hq]; rfl
          go_enter Tryd.func16, Tryd.ntmps16
          go_wp2_with fail
          refine (cs _).mono ?_
          rintro e wl ⟨v, rfl, own, hb⟩
          obtain ⟨A, c, rfl⟩ := own_form own
          have X2 : Box wl w.heap.size 0 0 := Box.below (w := w.alloc _) ⟨by simp, by simp, by simp, by simp, by simp⟩ hb
          have HB : Below w.heap.size w wl := ((Below.refl _ _).alloc (Nat.le_refl _) _).trans (hb.mono (by simp))
          obtain ⟨b, off, rfl, hbw, hc⟩ := (Rd.of_own own).2 (by omega)
          have x0 : wl.cell? ⟨b, off, none⟩ = some (.string z0) := by simpa using hc 0 (.string z0) e0
          have x1 : wl.cell? ⟨b, off + 1, none⟩ = some (.string z1) := hc 1 (.string z1) e1
          clear hb own hc
          go_wp2_with fail
          refine (ca _).mono ?_
          rintro e _ ⟨rfl, rfl⟩
          obtain ⟨wo, hwo⟩ : ∃ wo, wo = wl := ⟨_, rfl⟩
          rw [← hwo] at X2 HB hbw x0 x1 ⊢
          clear hwo wl
          go_wp2_with fail
          refine (iwhole_any _ _).mono ?_
          rintro e wl ⟨rfl, hb⟩
          have X2 := X2.below hb
          have HB := HB.trans (hb.mono HB.size)
          have x1 := (hb.cell (p := ⟨b, off + 1, none⟩) hbw).trans x1
          have hbw := Nat.lt_of_lt_of_le hbw hb.size
          clear hb x0
          go_wp2_with fail
          refine (cb _).mono ?_
          rintro e _ ⟨rfl, rfl⟩
          clear x1 hbw
          have hzz : w.heap.size ≤ wl.heap.size := HB.size
          obtain ⟨wo, hwo⟩ : ∃ wo, wo = wl := ⟨_, rfl⟩
          rw [← hwo] at X2 HB hzz ⊢
          clear hwo wl
          obtain ⟨q0, q1, q2, q3, q4⟩ := id X2
          go_wp2_with fail
          refine (ifmtRat_any _ _ _ (ht.below (by repeat (first | assumption | exact Below.refl _ _ | refine Below.drew ?_ | refine below_drewN ?_ _ | refine Below.alloc ?_ (by first | omega | (simp; done) | (simp; omega)) _ | refine Below.setCell ?_ (by first | omega | (simp; done) | (simp; omega)) _)))).mono ?_
          rintro e wl ⟨rfl, hb⟩
          have X9 : Box wl wo.heap.size n (d2) := Box.below (w := _) ⟨by simp, by simp, by simp, by simp, by simp⟩ hb
          have X2 : Box wl w.heap.size 0 0 := by
            refine Box.below (Box.below X2 ?_) hb
            repeat (first | assumption | exact Below.refl _ _ | refine Below.drew ?_ | refine below_drewN ?_ _ | refine Below.alloc ?_ (by first | omega | (simp; done) | (simp; omega)) _ | refine Below.setCell ?_ (by first | omega | (simp; done) | (simp; omega)) _)
          have HB : Below w.heap.size w wl := by
            refine Below.trans ?_ (hb.mono (by simp; omega))
            repeat (first | assumption | exact Below.refl _ _ | refine Below.drew ?_ | refine below_drewN ?_ _ | refine Below.alloc ?_ (by first | omega | (simp; done) | (simp; omega)) _ | refine Below.setCell ?_ (by first | omega | (simp; done) | (simp; omega)) _)
          clear hb q0 q1 q2 q3 q4 hzz
          have bx0 := (Box.store X2 n (d2)).1
          have bx1 := (Box.store X2 n (d2)).2.1
          obtain ⟨t0, t1, t2, t3, t4⟩ := X9
          have hzz : w.heap.size ≤ wl.heap.size := HB.size
          obtain ⟨q0, q1, q2, q3, q4⟩ := id X2
          go_wp2
          refine bodyPost_ret (v := .tuple #[.agg #[.int .i64 n, .int .i64 (d2)], .bool true]) (by simp [results, Tryd.results16, go_sem, bx0, bx1]) rfl ⟨Pl.r_rb HR.out rfl rfl rfl, ?_⟩
          repeat (first | assumption | exact Below.refl _ _ | refine Below.drew ?_ | refine below_drewN ?_ _ | refine Below.alloc ?_ (by first | omega | (simp; done) | (simp; omega)) _ | refine Below.setCell ?_ (by first | omega | (simp; done) | (simp; omega)) _)
    · have hd2 := decide_eq_true (show (2 : Int) < (L : Int) by omega)
      have hd3 := beq_eq_false_iff_ne.2 (show (L : Int) ≠ 2 by omega)
      have HR := Lib.hid (HBAD.out (n, true) (d2, two) rfl (by rw [if_pos (by omega)]) (by rw [decide_eq_false (show ¬ L ≤ 2 by omega)]; simp))
      go_enter Tryd.func16, Tryd.ntmps16
      go_wp2_with fail
      refine (cs _).mono ?_
      rintro e wl ⟨v, rfl, own, hb⟩
      obtain ⟨A, c, rfl⟩ := own_form own
      have X2 : Box wl w.heap.size 0 0 := Box.below (w := w.alloc _) ⟨by simp, by simp, by simp, by simp, by simp⟩ hb
      have HB : Below w.heap.size w wl := ((Below.refl _ _).alloc (Nat.le_refl _) _).trans (hb.mono (by simp))
      obtain ⟨b, off, rfl, hbw, hc⟩ := (Rd.of_own own).2 (by omega)
      have x0 : wl.cell? ⟨b, off, none⟩ = some (.string z0) := by simpa using hc 0 (.string z0) e0
      clear hb own hc
      go_wp2_with fail
      refine (ca _).mono ?_
      rintro e _ ⟨rfl, rfl⟩
      obtain ⟨wo, hwo⟩ : ∃ wo, wo = wl := ⟨_, rfl⟩
      rw [← hwo] at X2 HB hbw x0 ⊢
      clear hwo wl
      go_wp2_with fail
      refine (iwhole_any _ _).mono ?_
      rintro e wl ⟨rfl, hb⟩
      have X2 := X2.below hb
      have HB := HB.trans (hb.mono HB.size)
      clear hb x0 hbw
      have by0 := fun o => ((Box.store X2 0 0).alloc o).1
      have by1 := fun o => ((Box.store X2 0 0).alloc o).2.1
      have hzz : w.heap.size ≤ wl.heap.size := HB.size
      obtain ⟨q0, q1, q2, q3, q4⟩ := id X2
      go_wp2
      refine bodyPost_ret (v := .tuple #[.agg #[.int .i64 0, .int .i64 0], .bool false]) (by simp [results, Tryd.results16, go_sem, by0, by1]) rfl ⟨Pl.r_rb HR.out rfl rfl rfl, ?_⟩
      repeat (first | assumption | exact Below.refl _ _ | refine Below.drew ?_ | refine below_drewN ?_ _ | refine Below.alloc ?_ (by first | omega | (simp; done) | (simp; omega)) _ | refine Below.setCell ?_ (by first | omega | (simp; done) | (simp; omega)) _)

end Go.Proofs.YtkhmepbdjdodmaaDoor
