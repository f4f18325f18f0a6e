/-
  Contracts of the draws of coalitions, of the laws' sameInts and climbs; the law FnCoalitions walked: it returns true.
-/
import Derived.Test.YtojfahgnjfnflaaCoalPlain2
import Derived.Test.YtojfahgnjfnflaaSets
import Derived.Test.YtojfahgnjfnflaaMembersS
import Derived.Test.YtojfahgnjfnflaaDraw
import Derived.Test.YtojfahgnjfnflaaBig
namespace Go.Proofs.Ytojfahgnjfnflaa
open Go.RowKit

theorem Lst.new' {w : World} {b : Nat} {t : TypeId} {P : Value → Prop} (vs : Array Value) (hb : b = w.heap.size) (h : ∀ v ∈ vs, P v) : Lst (w.alloc (.cells vs t)) b P vs.size := by
  subst hb
  exact Lst.new vs h
theorem Dr.lt {W w : World} {g : Nat} (h : Dr W g w) : g < w.heap.size := h.2.2.1
theorem RdB.up {W w : World} {A : Option Addr} {n : Nat} (h : RdB W W.heap.size A n) (hb : Below W.heap.size W w) : RdB w w.heap.size A n := fun hn => by
  obtain ⟨b, off, e, hlt, hc⟩ := h hn
  refine ⟨b, off, e, Nat.lt_of_lt_of_le hlt hb.size, fun j hj => ?_⟩
  obtain ⟨x, x0, x1, hx⟩ := hc j hj
  exact ⟨x, x0, x1, (hb.cell (p := ⟨b, off + j, none⟩) hlt).trans hx⟩
theorem Rd.belowC {w w' : World} {B C n : Nat} {A : Option Addr} {xs : List Value} (h : Rd w B 1 A n xs) (hb : Below C w w') (hC : B ≤ C) : Rd w' B 1 A n xs := h.keep fun _ hp => hb.cell (Nat.lt_of_lt_of_le hp hC)

theorem l2Any_any (W w : World) (g : Nat) (hd : Dr W g w) :
    Calls Try.prog 64 #[.pointer (some ⟨g, 0, none⟩)] w fun e w' => ∃ z : Int, (-1 ≤ z ∧ z ≤ 32) ∧ e = .returned (.int .i64 z) ∧ Stp W g w w' := by
  have HD := Lib.hid hd
  clear hd
  go_enter Try.func64, Try.ntmps64
  go_wp2_with fail
  refine (l1PickInt_any W _ g _ 11 (fun z => -1 ≤ z ∧ z ≤ 32) (HD.out.alloc _) (by decide) (by decide) (by have := HD.out.lt; omega) (Lst.new' _ (by first | rfl | (simp; done)) (by intro v hv; simp at hv; rcases hv with rfl | rfl | rfl | rfl | rfl | rfl | rfl | rfl | rfl | rfl | rfl <;> exact ⟨_, by decide, rfl⟩))).mono ?_
  rintro e w1 ⟨z, hz, rfl, hs⟩
  have HS := Lib.hid (((Stp.refl HD.out).alloc _).trans hs)
  have HZ := Lib.hid hz
  clear hs hz
  go_wp2
  go_ret
  exact ⟨z, HZ.out, rfl, HS.out⟩

theorem drawIsSubset_any (A : Option Addr) (n c : Nat) (w : World) (hn : (n : Int) ≤ 1048576) (hr : RdB w w.heap.size A n) :
    Calls Try.prog 33 #[.slice A n c] w fun e w' => ∃ a b : Int, (-1 ≤ a ∧ a ≤ 32) ∧ (-1 ≤ b ∧ b ≤ 32) ∧ e = .returned (.tuple #[.int .i64 a, .int .i64 b]) ∧ Below w.heap.size w w' := by
  go_enter Try.func33, Try.ntmps33
  go_wp2_with fail
  refine (l1New_any _ _ _ w w (Below.refl _ _) hn hr).mono ?_
  rintro e w0 ⟨g, rfl, hd, _, _⟩
  have HD0 := Lib.hid hd
  clear hd
  go_wp2_with fail
  refine (l2Any_any _ _ _ HD0.out).mono ?_
  rintro e w1 ⟨z1, hz1, rfl, hs⟩
  have HZ1 := Lib.hid hz1
  have HD1 := Lib.hid hs.1
  clear hs hz1
  go_wp2_with fail
  refine (l2Any_any _ _ _ HD1.out).mono ?_
  rintro e w2 ⟨z2, hz2, rfl, hs⟩
  have HZ2 := Lib.hid hz2
  have HD2 := Lib.hid hs.1
  clear hs hz2
  go_wp2
  go_ret2
  exact ⟨z1, z2, HZ1.out, HZ2.out, rfl, HD2.out.1⟩

theorem drawFormatCoal_any (A : Option Addr) (n c : Nat) (w : World) (hn : (n : Int) ≤ 1048576) (hr : RdB w w.heap.size A n) :
    Calls Try.prog 41 #[.slice A n c] w fun e w' => ∃ a : Int, (-1 ≤ a ∧ a ≤ 32) ∧ e = .returned (.int .i64 a) ∧ Below w.heap.size w w' := by
  go_enter Try.func41, Try.ntmps41
  go_wp2_with fail
  refine (l1New_any _ _ _ w w (Below.refl _ _) hn hr).mono ?_
  rintro e w0 ⟨g, rfl, hd, _, _⟩
  have HD0 := Lib.hid hd
  clear hd
  go_wp2_with fail
  refine (l2Any_any _ _ _ HD0.out).mono ?_
  rintro e w1 ⟨z1, hz1, rfl, hs⟩
  have HZ1 := Lib.hid hz1
  have HD1 := Lib.hid hs.1
  clear hs hz1
  go_wp2
  go_ret
  exact ⟨z1, HZ1.out, rfl, HD1.out.1⟩

theorem drawParseCoal_any (A : Option Addr) (n c : Nat) (w : World) (hn : (n : Int) ≤ 1048576) (hr : RdB w w.heap.size A n) :
    Calls Try.prog 43 #[.slice A n c] w fun e w' => ∃ s : ByteArray, s.size ≤ 64 ∧ e = .returned (.string s) ∧ Below w.heap.size w w' := by
  go_enter Try.func43, Try.ntmps43
  go_wp2_with fail
  refine (l1New_any _ _ _ w w (Below.refl _ _) hn hr).mono ?_
  rintro e w0 ⟨g, rfl, hd, _, _⟩
  have HD0 := Lib.hid hd
  clear hd
  go_wp2_with fail
  refine (l1Pick_any w _ g _ 11 (fun s => s.size ≤ 64) (HD0.out.alloc _) (by decide) (by decide) (by have := HD0.out.lt; omega) (Lst.new' _ (by first | rfl | (simp; done)) (by intro v hv; simp at hv; rcases hv with rfl | rfl | rfl | rfl | rfl | rfl | rfl | rfl | rfl | rfl | rfl <;> exact ⟨_, by decide, rfl⟩))).mono ?_
  rintro e w1 ⟨z, hz, rfl, hs⟩
  have HS2 := Lib.hid hs.1.1
  have HZ := Lib.hid hz
  clear hs hz
  go_wp2
  go_ret
  exact ⟨z, HZ.out, rfl, HS2.out⟩

theorem drawHas_any (A : Option Addr) (n c : Nat) (w : World) (hn : (n : Int) ≤ 1048576) (hr : RdB w w.heap.size A n) :
    Calls Try.prog 47 #[.slice A n c] w fun e w' => ∃ a b : Int, (-1 ≤ a ∧ a ≤ 32) ∧ (-1 ≤ b ∧ b ≤ 7) ∧ e = .returned (.tuple #[.int .i64 a, .int .i64 b]) ∧ Below w.heap.size w w' := by
  go_enter Try.func47, Try.ntmps47
  go_wp2_with fail
  refine (l1New_any _ _ _ w w (Below.refl _ _) hn hr).mono ?_
  rintro e w0 ⟨g, rfl, hd, _, _⟩
  have HD0 := Lib.hid hd
  clear hd
  go_wp2_with fail
  refine (l2Any_any _ _ _ HD0.out).mono ?_
  rintro e w1 ⟨z1, hz1, rfl, hs⟩
  have HZ1 := Lib.hid hz1
  have HD1 := Lib.hid hs.1
  clear hs hz1
  go_wp2_with fail
  refine (l1Below_any _ _ _ _ (by decide) (by decide) HD1.out).mono ?_
  rintro e w9 ⟨x, x0, x1, rfl, hs⟩
  have HD9 := Lib.hid hs.1
  clear hs
  go_wp2
  go_ret2
  exact ⟨z1, x - 1, HZ1.out, ⟨by omega, by omega⟩, rfl, HD9.out.1⟩

theorem drawCount_any (A : Option Addr) (n c : Nat) (w : World) (hn : (n : Int) ≤ 1048576) (hr : RdB w w.heap.size A n) :
    Calls Try.prog 48 #[.slice A n c] w fun e w' => ∃ b : Int, (-1 ≤ b ∧ b ≤ 7) ∧ e = .returned (.int .i64 b) ∧ Below w.heap.size w w' := by
  go_enter Try.func48, Try.ntmps48
  go_wp2_with fail
  refine (l1New_any _ _ _ w w (Below.refl _ _) hn hr).mono ?_
  rintro e w0 ⟨g, rfl, hd, _, _⟩
  have HD0 := Lib.hid hd
  clear hd
  go_wp2_with fail
  refine (l1Below_any _ _ _ _ (by decide) (by decide) HD0.out).mono ?_
  rintro e w9 ⟨x, x0, x1, rfl, hs⟩
  have HD9 := Lib.hid hs.1
  clear hs
  go_wp2
  go_ret
  exact ⟨x - 1, ⟨by omega, by omega⟩, rfl, HD9.out.1⟩

theorem sameInts_any (A1 A2 : Option Addr) (c1 c2 B : Nat) (zs : List Int) (w : World) (h1 : Rd w B 1 A1 zs.length (zs.map (Value.int .i64))) (h2 : Rd w B 1 A2 zs.length (zs.map (Value.int .i64))) (hB : B ≤ w.heap.size) (hn : zs.length ≤ 1048576) :
    Calls Try.prog 45 #[.slice A1 zs.length c1, .slice A2 zs.length c2] w fun e w' => e = .returned (.bool true) ∧ Below w.heap.size w w' := by
  obtain ⟨n, en⟩ : ∃ n, n = zs.length := ⟨_, rfl⟩
  rw [← en] at h1 h2 hn ⊢
  have EN := Lib.hid en
  clear en
  go_enter Try.func45, Try.ntmps45
  go_wp2
  go_loopw [5] (fun u wr => ∃ k : Nat, k ≤ n ∧ u = .int .i64 k ∧ Below w.heap.size w wr) (fun u _ => n - (intOf u).toNat)
  case atStart => exact ⟨0, Nat.zero_le _, rfl, Below.refl _ _⟩
  case round =>
    obtain ⟨k, hk, rfl, hb⟩ := hrel
    by_cases hlt : k < n
    · obtain ⟨b1, o1, rfl, hb1, hc1⟩ := h1.2 (by omega)
      obtain ⟨b2, o2, rfl, hb2, hc2⟩ := h2.2 (by omega)
      have x1 := (hb.cell (p := ⟨b1, o1 + k, none⟩) (by exact Nat.lt_of_lt_of_le hb1 hB)).trans (hc1 k (.int .i64 (zs[k]'(EN.out ▸ hlt))) (by simp))
      have x2 := (hb.cell (p := ⟨b2, o2 + k, none⟩) (by exact Nat.lt_of_lt_of_le hb2 hB)).trans (hc2 k (.int .i64 (zs[k]'(EN.out ▸ hlt))) (by simp))
      obtain ⟨x, hx⟩ : ∃ x : Int, x = zs[k]'(EN.out ▸ hlt) := ⟨_, rfl⟩
      rw [← hx] at x1 x2
      clear hx hc1 hc2 h1 h2
      have k0 : (0 : Int) ≤ (k : Int) := by omega
      have k1 : (k : Int) < (n : Int) := by omega
      go_wp2_with fail
      go_quiet (fail)
      go_wp2
      go_roundw
      case rel => exact ⟨k + 1, by omega, by go_num, below_drewD hb _⟩
      case measure => simp [intOf]; omega
    · obtain rfl : k = n := by omega
      go_wp2
      go_ret
      exact ⟨rfl, hb⟩

theorem climbs_any (A : Option Addr) (c B : Nat) (zs : List Int) (w : World) (h1 : Rd w B 1 A zs.length (zs.map (Value.int .i64))) (hc : Pl.climbing zs = true) (hB : B ≤ w.heap.size) (hn : zs.length ≤ 1048576) :
    Calls Try.prog 46 #[.slice A zs.length c] w fun e w' => e = .returned (.bool true) ∧ Below w.heap.size w w' := by
  have HC := Lib.hid (fun i h => Pl.climbing_at hc (i := i) h)
  clear hc
  obtain ⟨n, en⟩ : ∃ n, n = zs.length := ⟨_, rfl⟩
  rw [← en] at h1 hn ⊢
  have EN := Lib.hid en
  clear en
  go_enter Try.func46, Try.ntmps46
  go_wp2
  go_loopw [3] (fun u wr => ∃ k : Nat, 1 ≤ k ∧ k ≤ n + 1 ∧ u = .int .i64 k ∧ Below w.heap.size w wr) (fun u _ => n - (intOf u).toNat)
  case atStart => exact ⟨1, Nat.le_refl _, by omega, rfl, Below.refl _ _⟩
  case round =>
    obtain ⟨k, hk1, hk, rfl, hb⟩ := hrel
    by_cases hlt : k < n
    · obtain ⟨b1, o1, rfl, hb1, hc1⟩ := h1.2 (by omega)
      obtain ⟨i, rfl⟩ : ∃ i, k = i + 1 := ⟨k - 1, by omega⟩
      have e1 : i < zs.length := by rw [← EN.out]; omega
      have e2 : i + 1 < zs.length := by rw [← EN.out]; omega
      have x1 := (hb.cell (p := ⟨b1, o1 + i, none⟩) (by exact Nat.lt_of_lt_of_le hb1 hB)).trans (hc1 i (.int .i64 zs[i]) (by simp))
      have x2 := (hb.cell (p := ⟨b1, o1 + (i + 1), none⟩) (by exact Nat.lt_of_lt_of_le hb1 hB)).trans (hc1 (i + 1) (.int .i64 zs[i + 1]) (by simp))
      have hcl := HC.out i e2
      obtain ⟨x, hx⟩ : ∃ x : Int, x = zs[i] := ⟨_, rfl⟩
      obtain ⟨y, hy⟩ : ∃ y : Int, y = zs[i + 1] := ⟨_, rfl⟩
      rw [← hx] at x1 hcl
      rw [← hy] at x2 hcl
      have hd := decide_eq_false (show ¬ y ≤ x by omega)
      clear hx hy hc1 h1 e1 e2
      go_wp2_with fail
      go_quiet (fail)
      go_wp2
      go_roundw
      case rel => exact ⟨i + 1 + 1, by omega, by omega, by go_num, below_drewD hb _⟩
      case measure => simp [intOf]; omega
    · have hge : ¬ (k : Int) < (n : Int) := by omega
      have hdk := decide_eq_false hge
      go_wp2
      go_ret
      exact ⟨rfl, hb⟩

set_option maxRecDepth 40000 in
set_option maxHeartbeats 4000000 in
theorem fnCoalitions_walk {w : World} (A : Option Addr) (n c : Nat) (_ : n ≤ maxLen) (hr : RdB w w.heap.size A n) :
    Calls Try.prog 10 #[.slice A n c] w fun e w' => e = .returned (.bool true) ∧ Below w.heap.size w w' := by
  by_cases hbig : (1048576 : Int) < (n : Int)
  · go_enter Try.func10, Try.ntmps10
    go_wp2_with fail
    refine (big_yes _ _ _ _ hbig).mono ?_
    rintro e _ ⟨rfl, rfl⟩
    go_wp2
    go_ret
    exact ⟨rfl, Below.refl _ _⟩
  have D1 := Lib.hid (drawIsSubset_any A n c w (by omega) hr)
  have D2 := Lib.hid (fun w' (h : Below w.heap.size w w') => drawFormatCoal_any A n c w' (by omega) (hr.up h))
  have D3 := Lib.hid (fun w' (h : Below w.heap.size w w') => drawParseCoal_any A n c w' (by omega) (hr.up h))
  have D4 := Lib.hid (fun w' (h : Below w.heap.size w w') => drawHas_any A n c w' (by omega) (hr.up h))
  have D5 := Lib.hid (fun w' (h : Below w.heap.size w w') => drawCount_any A n c w' (by omega) (hr.up h))
  have HBIG := Lib.hid hbig
  clear hr hbig
  go_enter Try.func10, Try.ntmps10
  go_wp2_with fail
  refine (big_no _ _ _ _ (by have := HBIG.out; omega)).mono ?_
  rintro e _ ⟨rfl, rfl⟩
  go_wp2_with fail
  refine D1.out.mono ?_
  rintro e w1 ⟨a, b, ⟨a0, a1⟩, ⟨b0, b1⟩, rfl, H⟩
  have IU := fun w => iunion_any a b w
  have IO := fun w => iover_any a b w
  have SU := fun w => sunion_any a b w (by omega) (by omega)
  have SO := fun w => sover_any a b w (by omega) (by omega)
  have IB := fun w => isub_any a b w
  have SB := fun w => ssub_any a b w (by omega) (by omega)
  have F1 := Pl.sub_law (a := a) (b := b)
  have F2 := fun h1 h2 h3 h4 => Pl.sizes (a := a) (b := b) h1 h2 h3 h4
  obtain ⟨u0, u1⟩ := Pl.union_le a b
  obtain ⟨o0, o1⟩ := Pl.over_le a b
  generalize Pl.union a b = U at IU SU F1 F2 u0 u1
  generalize Pl.over a b = O at IO SO F1 F2 o0 o1
  generalize Pl.sub a b = sb at IB SB F1
  have SZ := Lib.hid (And.intro (fun w => isize_any U w (by omega)) (And.intro (fun w => isize_any O w (by omega)) (And.intro (fun w => isize_any a w (by omega)) (fun w => isize_any b w (by omega)))))
  have SL := Lib.hid (And.intro (Pl.sizeTo_le U 5) (And.intro (Pl.sizeTo_le O 5) (And.intro (Pl.sizeTo_le a 5) (Pl.sizeTo_le b 5))))
  generalize Pl.sizeTo U 5 = nu at F2 SZ SL
  generalize Pl.sizeTo O 5 = no at F2 SZ SL
  generalize Pl.sizeTo a 5 = na at F2 SZ SL
  generalize Pl.sizeTo b 5 = nb at F2 SZ SL
  have CS := Lib.hid (And.intro IU (And.intro IO (And.intro SU (And.intro SO (And.intro IB SB)))))
  have F1 := Lib.hid F1
  have F2 := Lib.hid F2
  clear IU IO SU SO IB SB

  go_wp2_with fail
  refine (CS.out.1 _).mono ?_
  rintro e w1 ⟨rfl, rfl⟩
  go_wp2_with fail
  refine (CS.out.2.1 _).mono ?_
  rintro e w1 ⟨rfl, rfl⟩
  go_upto_region 6 with fail
  go_cut [68] (fun sx wx => sx = .bool false ∧ wx = w1)
  case first =>
    go_wp2_with fail
    refine (CS.out.2.2.1 _).mono ?_
    rintro e _ ⟨rfl, rfl⟩
    go_wp2_with fail
    refine (CS.out.2.2.2.1 _).mono ?_
    rintro e _ ⟨rfl, rfl⟩
    go_wp2_with fail
    refine (CS.out.2.2.2.2.1 _).mono ?_
    rintro e _ ⟨rfl, rfl⟩
    go_wp2_with fail
    refine (CS.out.2.2.2.2.2 _).mono ?_
    rintro e _ ⟨rfl, rfl⟩
    go_wp2_with fail
    refine (CS.out.2.2.2.2.1 _).mono ?_
    rintro e _ ⟨rfl, rfl⟩
    cases sb
    · go_wp2_with fail
      go_meet
      exact ⟨rfl, rfl⟩
    · obtain ⟨rfl, rfl⟩ := F1.out rfl
      go_wp2_with fail
      go_meet
      exact ⟨rfl, rfl⟩
  case rest =>
    obtain ⟨rfl, hw⟩ := hcut
    have hw2 := hw.symm
    clear hw
    subst hw2
    go_upto_region 8 with fail
    go_cut [95] (fun sx wx => sx = .bool false ∧ wx = w1)
    case first =>
      by_cases g1 : 0 ≤ a
      · have k1 := decide_eq_true g1
        by_cases g2 : 0 ≤ b
        · have k2 := decide_eq_true g2
          by_cases g3 : a < 32
          · have k3 := decide_eq_true g3
            by_cases g4 : b < 32
            · have k4 := decide_eq_true g4
              have hsz := F2.out g1 (by omega) g2 (by omega)
              obtain ⟨⟨e0, e1⟩, ⟨e2, e3⟩, ⟨e4, e5⟩, ⟨e6, e7⟩⟩ := SL.out
              go_wp2_with fail
              refine (SZ.out.1 _).mono ?_
              rintro e _ ⟨rfl, rfl⟩
              go_wp2_with fail
              refine (SZ.out.2.1 _).mono ?_
              rintro e _ ⟨rfl, rfl⟩
              go_wp2_with fail
              refine (SZ.out.2.2.1 _).mono ?_
              rintro e _ ⟨rfl, rfl⟩
              go_wp2_with fail
              refine (SZ.out.2.2.2 _).mono ?_
              rintro e _ ⟨rfl, rfl⟩
              go_wp2_with fail
              go_meet
              exact ⟨rfl, rfl⟩
            · have k4 := decide_eq_false g4
              go_wp2_with fail
              go_meet
              exact ⟨rfl, rfl⟩
          · have k3 := decide_eq_false g3
            go_wp2_with fail
            go_meet
            exact ⟨rfl, rfl⟩
        · have k2 := decide_eq_false g2
          go_wp2_with fail
          go_meet
          exact ⟨rfl, rfl⟩
      · have k1 := decide_eq_false g1
        go_wp2_with fail
        go_meet
        exact ⟨rfl, rfl⟩
    case rest =>
      obtain ⟨rfl, hw⟩ := hcut
      have hw2 := hw.symm
      clear hw
      subst hw2
      clear CS SZ SL F1 F2
      go_wp2_with fail
      refine (D2.out _ H).mono ?_
      rintro e w2 ⟨s, ⟨s0, s1⟩, rfl, hb⟩
      have H := H.trans (hb.mono H.size)
      clear hb
      obtain ⟨t, ht⟩ : ∃ t : ByteArray, t = ⟨(Pl.fmt s).toArray⟩ := ⟨_, rfl⟩
      have htl : t.toList = Pl.fmt s := by rw [ht, ByteArray.toList_eq]
      obtain ⟨p1, p2⟩ := Pl.parse_fmt s
      have IF := fun w => ifmt_any s w (by omega)
      have SF := fun w => sfmt_any s w (by omega)
      rw [← ht] at IF SF
      rw [← htl] at p1 p2
      have IP := fun w => iparseC_any t w
      obtain ⟨x, ok, hp⟩ : ∃ x ok, Pl.parseC t.toList = (x, ok) := ⟨_, _, rfl⟩
      simp only [hp] at IP p1 p2
      have hlen := Pl.members_len s
      have IM := fun w => imembers_any s w (by omega)
      have SM := fun w => smembers_any s w (by omega)
      have hcl := Pl.members_climb s
      generalize Pl.members s = zs at IM SM hcl hlen
      have FS := Lib.hid (And.intro IF (And.intro SF (And.intro IP (And.intro IM SM))))
      have PS := Lib.hid (And.intro p1 (And.intro p2 hcl))
      have HLEN := Lib.hid hlen
      clear ht htl p1 p2 hp IF SF IP IM SM hcl hlen
      go_wp2_with fail
      refine (FS.out.1 _).mono ?_
      rintro e w3 ⟨rfl, hb⟩
      have H := H.trans (hb.mono H.size)
      clear hb
      go_wp2_with fail
      refine (FS.out.2.2.1 _).mono ?_
      rintro e w4 ⟨rfl, hb⟩
      have H := H.trans (hb.mono H.size)
      clear hb
      go_wp2_with fail
      refine (FS.out.2.2.2.1 _).mono ?_
      rintro e w5 ⟨v, rfl, ow, hb⟩
      obtain ⟨X, cX, rfl⟩ := own_form ow
      have H := H.trans (hb.mono H.size)
      have rm := Rd.of_own ow
      have sm := Nat.le_refl w5.heap.size
      clear hb ow
      go_wp2_with fail
      refine (D3.out _ H).mono ?_
      rintro e w6 ⟨t2, ht2, rfl, hb⟩
      have rm := rm.belowC hb sm
      have sm := Nat.le_trans sm hb.size
      have H := H.trans (hb.mono H.size)
      clear hb
      obtain ⟨y, fine, hp⟩ : ∃ y fine, Pl.parseC t2.toList = (y, fine) := ⟨_, _, rfl⟩
      have IQ := fun w => iparseC_any t2 w
      have SQ := fun w => sparseC_any t2 w
      have py := fun h => Pl.parse_text (t := t2.toList) h
      simp only [hp] at IQ SQ py
      have HY : fine = true → y ≤ 9223372036854775807 := fun h => by
        by_cases hy : y ≤ 31
        · omega
        · have h1 := py h
          rw [Pl.fmt_out (Pl.within_no (Or.inr (by omega)))] at h1
          rw [← h1] at hp
          have := Pl.parse_out
          rw [this] at hp
          injection hp with h2 h3
          omega
      have QS := Lib.hid (And.intro IQ (And.intro SQ (And.intro py HY)))
      clear hp IQ SQ py HY
      go_wp2_with fail
      refine (QS.out.1 _).mono ?_
      rintro e w7 ⟨rfl, hb⟩
      have rm := rm.belowC hb sm
      have sm := Nat.le_trans sm hb.size
      have H := H.trans (hb.mono H.size)
      clear hb
      go_wp2_with fail
      refine (QS.out.2.1 _).mono ?_
      rintro e w8 ⟨rfl, hb⟩
      have rm := rm.belowC hb sm
      have sm := Nat.le_trans sm hb.size
      have H := H.trans (hb.mono H.size)
      clear hb
      have RM := Lib.hid rm
      have SM := Lib.hid sm
      have HH := Lib.hid H
      clear rm sm H
      go_upto_region 17 with fail
      go_cut [162] (fun sx wx => sx = .bool false ∧ Below w8.heap.size w8 wx)
      case first =>
        go_wp2_with fail
        refine (FS.out.2.1 _).mono ?_
        rintro e w8 ⟨rfl, rfl⟩
        have q1 := PS.out.1
        have hz5 : zs.length ≤ 1048576 := by have := HLEN.out; omega
        cases ok
        · have q3 : (t.toList == []) = true := by simpa using q1.symm
          clear q1
          go_wp2_with fail
          refine (FS.out.2.2.2.2 _).mono ?_
          rintro e w10 ⟨v2, rfl, ow, hb10⟩
          obtain ⟨X2, c2, rfl⟩ := own_form ow
          have r2 := Rd.of_own ow
          have rm := (RM.out.belowC hb10 SM.out).more (Nat.le_trans SM.out hb10.size)
          clear ow
          have SI := Lib.hid (sameInts_any _ _ cX c2 _ zs w10 rm r2 (Nat.le_refl _) hz5)
          have HB10 := Lib.hid hb10
          have RM10 := Lib.hid rm
          clear r2 rm hb10
          go_wp2_with fail
          refine SI.out.mono ?_
          rintro e w11 ⟨rfl, hb11⟩
          have CL := Lib.hid (climbs_any _ cX _ zs w11 (RM10.out.belowC hb11 (Nat.le_refl _)) PS.out.2.2 hb11.size hz5)
          have HB11 := Lib.hid (HB10.out.trans (hb11.mono HB10.out.size))
          clear hb11
          go_wp2_with fail
          refine CL.out.mono ?_
          rintro e w12 ⟨rfl, hb12⟩
          have HB12 := Lib.hid (HB11.out.trans (hb12.mono HB11.out.size))
          clear hb12
          cases fine
          · go_wp2_with fail
            go_meet
            exact ⟨rfl, HB12.out⟩
          · have h2 := QS.out.2.2.1 rfl
            have IR := ifmt_any y w12 (QS.out.2.2.2 rfl)
            rw [h2, show (⟨t2.toList.toArray⟩ : ByteArray) = t2 from by rw [ByteArray.toList_eq]] at IR
            have IR := Lib.hid IR
            clear h2
            go_wp2_with fail
            refine IR.out.mono ?_
            rintro e w13 ⟨rfl, hb13⟩
            have HB13 := Lib.hid (HB12.out.trans (hb13.mono HB12.out.size))
            clear hb13 IR
            go_wp2_with fail
            go_meet
            exact ⟨rfl, HB13.out⟩
        · have q2 := PS.out.2.1 rfl
          have q3 : (t.toList == []) = false := by simpa using q1.symm
          subst q2
          clear q1
          go_wp2_with fail
          refine (FS.out.2.2.2.2 _).mono ?_
          rintro e w10 ⟨v2, rfl, ow, hb10⟩
          obtain ⟨X2, c2, rfl⟩ := own_form ow
          have r2 := Rd.of_own ow
          have rm := (RM.out.belowC hb10 SM.out).more (Nat.le_trans SM.out hb10.size)
          clear ow
          have SI := Lib.hid (sameInts_any _ _ cX c2 _ zs w10 rm r2 (Nat.le_refl _) hz5)
          have HB10 := Lib.hid hb10
          have RM10 := Lib.hid rm
          clear r2 rm hb10
          go_wp2_with fail
          refine SI.out.mono ?_
          rintro e w11 ⟨rfl, hb11⟩
          have CL := Lib.hid (climbs_any _ cX _ zs w11 (RM10.out.belowC hb11 (Nat.le_refl _)) PS.out.2.2 hb11.size hz5)
          have HB11 := Lib.hid (HB10.out.trans (hb11.mono HB10.out.size))
          clear hb11
          go_wp2_with fail
          refine CL.out.mono ?_
          rintro e w12 ⟨rfl, hb12⟩
          have HB12 := Lib.hid (HB11.out.trans (hb12.mono HB11.out.size))
          clear hb12
          cases fine
          · go_wp2_with fail
            go_meet
            exact ⟨rfl, HB12.out⟩
          · have h2 := QS.out.2.2.1 rfl
            have IR := ifmt_any y w12 (QS.out.2.2.2 rfl)
            rw [h2, show (⟨t2.toList.toArray⟩ : ByteArray) = t2 from by rw [ByteArray.toList_eq]] at IR
            have IR := Lib.hid IR
            clear h2
            go_wp2_with fail
            refine IR.out.mono ?_
            rintro e w13 ⟨rfl, hb13⟩
            have HB13 := Lib.hid (HB12.out.trans (hb13.mono HB12.out.size))
            clear hb13 IR
            go_wp2_with fail
            go_meet
            exact ⟨rfl, HB13.out⟩
      case rest =>
        obtain ⟨rfl, hb⟩ := hcut
        obtain ⟨w14, rfl⟩ : ∃ w14 : World, w14 = wc := ⟨_, rfl⟩
        have H := HH.out.trans (hb.mono HH.out.size)
        clear hb FS PS QS RM SM
        go_wp2_with fail
        refine (D4.out _ H).mono ?_
        rintro e w15 ⟨p, k, ⟨p0, p1⟩, ⟨k0, k1⟩, rfl, hb⟩
        have H := H.trans (hb.mono H.size)
        clear hb
        go_wp2_with fail
        refine (D5.out _ H).mono ?_
        rintro e w16 ⟨m, ⟨m0, m1⟩, rfl, hb⟩
        have H := H.trans (hb.mono H.size)
        have HH2 := Lib.hid H
        clear hb H
        have LS := Lib.hid (And.intro (fun w => ihas_any p k w (by omega)) (And.intro (fun w => shas_any p k w (by omega)) (And.intro (fun w => icount_any m w) (And.intro (fun w => scount_any m w) (And.intro (fun w => isize_any p w (by omega)) (fun w => ssize_any p w (by omega)))))))
        generalize Pl.has p k = hs at LS
        generalize Pl.count m = cm at LS
        generalize Pl.sizeTo p 5 = sp at LS
        go_wp2_with fail
        refine (LS.out.1 _).mono ?_
        rintro e _ ⟨rfl, rfl⟩
        go_wp2_with fail
        refine (LS.out.2.1 _).mono ?_
        rintro e _ ⟨rfl, rfl⟩
        go_wp2_with fail
        refine (LS.out.2.2.1 _).mono ?_
        rintro e _ ⟨rfl, rfl⟩
        go_wp2_with fail
        refine (LS.out.2.2.2.1 _).mono ?_
        rintro e _ ⟨rfl, rfl⟩
        go_wp2_with fail
        refine (LS.out.2.2.2.2.1 _).mono ?_
        rintro e _ ⟨rfl, rfl⟩
        go_wp2_with fail
        refine (LS.out.2.2.2.2.2 _).mono ?_
        rintro e _ ⟨rfl, rfl⟩
        go_wp2
        go_ret
        exact ⟨by first | rfl | (simp; done), HH2.out⟩
end Go.Proofs.Ytojfahgnjfnflaa
