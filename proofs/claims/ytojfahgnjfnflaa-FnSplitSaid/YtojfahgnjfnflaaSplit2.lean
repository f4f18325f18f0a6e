/-
  Contracts of DrawSplitByte and big; the law FnSplit walked: it returns true.
-/
import Derived.Test.YtojfahgnjfnflaaDraw
import Derived.Test.YtojfahgnjfnflaaBig
import Derived.Test.YtojfahgnjfnflaaJoinI
import Derived.Test.YtojfahgnjfnflaaSplitPlain
namespace Go.Proofs.Ytojfahgnjfnflaa
open Go.RowKit

theorem drawSplitByte_any (A : Option Addr) (n c : Nat) (w : World) (hn : (n : Int) ≤ 1048576) (hr : RdB w w.heap.size A n) :
    Calls Try.prog 32 #[.slice A n c] w fun e w' => ∃ (s : ByteArray) (b : Int), s.size ≤ 6 ∧ 0 ≤ b ∧ b < 256 ∧ e = .returned (.tuple #[.string s, .int .u8 b]) ∧ Below w.heap.size w w' := by
  go_enter Try.func32, Try.ntmps32
  go_wp2_with fail
  refine (l1New_any _ _ _ w w (Below.refl _ _) hn hr).mono ?_
  rintro e w0 ⟨g, rfl, hd, _, _⟩
  have HD0 := Lib.hid hd
  clear hd
  go_wp2_with fail
  refine (l1Pick_any _ _ _ _ 6 (fun s => s.size ≤ 6) (HD0.out.alloc _) (by decide) (by decide) (by have := HD0.out.2.2.1; omega) (Lst.new _ (by intro v hv; simp at hv; rcases hv with rfl | rfl | rfl | rfl | rfl | rfl <;> exact ⟨_, by decide, rfl⟩))).mono ?_
  rintro e w1 ⟨z1, hz1, rfl, hs⟩
  have HD1 := Lib.hid hs.1
  clear hs
  go_wp2_with fail
  refine (l1PickInt_any _ _ _ _ 2 (fun b => 0 ≤ b ∧ b < 256) (HD1.out.alloc _) (by decide) (by decide) (by have := HD1.out.2.2.1; omega) (Lst.new _ (by intro v hv; simp at hv; rcases hv with rfl | rfl <;> exact ⟨_, by decide, rfl⟩))).mono ?_
  rintro e w2 ⟨z2, hz2, rfl, hs⟩
  have HD2 := Lib.hid hs.1
  clear hs
  have hw : IntKind.u8.wrap z2 = z2 := wraps_u8 z2 hz2.1 hz2.2
  obtain ⟨b0, b1⟩ := hz2
  go_wp2
  go_ret2
  exact ⟨z1, z2, hz1, b0, b1, by first | rfl | (simp [hw]; done) | (simp; done), HD2.out.1⟩

theorem own_cap' {w : World} {base size n c : Nat} {e : TypeId} {A : Option Addr} {xs : List Value} (h : w.ownsRow base e size (.slice A n c) n xs) : n ≤ c := by
  rcases h.2 with ⟨_, h0⟩ | ⟨g, cap, cur, hv, _, _, hcap, _⟩
  · omega
  · injection hv with _ _ hc
    subst hc
    first | exact hcap | omega
theorem split_small (s : ByteArray) (b : Int) : ∀ z ∈ Pl.split s b, z.size ≤ s.size := by
  have key : ∀ i, ∀ z ∈ (Pl.parts s b i).1, z.size ≤ s.size := by
    intro i
    induction i with
    | zero => intro z hz; cases hz
    | succ i ih =>
      intro z hz
      rw [Pl.parts] at hz
      split at hz
      · rw [List.mem_append] at hz
        rcases hz with hz | hz
        · exact ih z hz
        · rw [List.mem_singleton] at hz
          subst hz
          rw [ByteArray.size_extract]
          omega
      · exact ih z hz
  intro z hz
  rw [Pl.split, List.mem_append] at hz
  rcases hz with hz | hz
  · exact key _ z hz
  · rw [List.mem_singleton] at hz
    subst hz
    rw [ByteArray.size_extract]
    omega
theorem fnSplit_walk {w : World} (A : Option Addr) (n c : Nat) (_ : n ≤ maxLen) (hr : RdB w w.heap.size A n) :
    Calls Try.prog 9 #[.slice A n c] w fun e w' => e = .returned (.bool true) ∧ Below w.heap.size w w' := by
  by_cases hbig : (1048576 : Int) < (n : Int)
  · go_enter Try.func9, Try.ntmps9
    go_wp2_with fail
    refine (big_yes _ _ _ _ hbig).mono ?_
    rintro e _ ⟨rfl, rfl⟩
    go_wp2
    go_ret
    exact ⟨rfl, Below.refl _ _⟩
  have kb := one_byte (P := Try.prog) 38 5 9 Try.underlying38 Try.underlying5 Try.underlying9
  have DA := Lib.hid (drawSplitByte_any A n c w (by omega) hr)
  clear hr
  have HBIG := Lib.hid hbig
  clear hbig
  go_enter Try.func9, Try.ntmps9
  go_wp2_with fail
  refine (big_no _ _ _ _ (by have := HBIG.out; omega)).mono ?_
  rintro e _ ⟨rfl, rfl⟩
  go_wp2_with fail
  refine DA.out.mono ?_
  rintro e w1 ⟨s, b, hs, b0, b1, rfl, H⟩
  have HSM := Lib.hid (split_small s b)
  have HCL := Lib.hid (Pl.split_clean s b)
  have HJN := Lib.hid (Pl.split_join s b b0 b1)
  have HLE := Lib.hid (Pl.split_le s b)
  have IS := Lib.hid (fun w => isplit_any s b w (by omega))
  have SS := Lib.hid (fun w => ssplit_any s b w (by omega))
  generalize Pl.split s b = zs at HSM HCL HJN HLE IS SS
  go_wp2_with fail
  refine (IS.out _).mono ?_
  rintro e w2 ⟨v, rfl, ow, hb⟩
  obtain ⟨X, cX, rfl⟩ := own_form ow
  have H := H.trans (hb.mono H.size)
  clear hb
  have hJ : (⟨(Lib.join (zs.map ByteArray.toList) (⟨#[UInt8.ofNat b.toNat]⟩ : ByteArray).toList).toArray⟩ : ByteArray) = s := by
    rw [show (⟨#[UInt8.ofNat b.toNat]⟩ : ByteArray).toList = [UInt8.ofNat b.toNat] from by rw [ByteArray.toList_eq], HJN.out, ByteArray.toList_eq]
  have hle := HLE.out
  have IJ := iJoin_any X cX w2.heap.size zs ⟨#[UInt8.ofNat b.toNat]⟩ (w2.alloc (.cells #[.int .u8 b] 5)) ((Rd.of_own ow).below ((Below.refl _ _).alloc (Nat.le_refl _) _)) (by simp) (own_cap' ow) (by omega) (by show 1 ≤ 1048576; decide) (fun z hz => by have := HSM.out z hz; omega)
  rw [hJ] at IJ
  have RA := Lib.hid (Rd.of_own ow)
  have IJ := Lib.hid IJ
  have HH := Lib.hid H
  clear ow H hJ
  go_wp2_with fail
  refine IJ.out.mono ?_
  rintro e w3 ⟨rfl, hb⟩
  have HB3 := Lib.hid (((Below.refl w2.heap.size w2).alloc (Nat.le_refl _) _).trans (hb.mono (by simp)))
  clear hb IJ
  go_wp2_with fail
  refine (SS.out _).mono ?_
  rintro e w4 ⟨v, rfl, ow, hb⟩
  obtain ⟨X4, c4, rfl⟩ := own_form ow
  have hb4 := HB3.out.trans (hb.mono HB3.out.size)
  clear hb ow HB3
  have HLEN := Lib.hid hle
  clear hle
  go_wp2
  go_loopw [6] (fun u wr => ∃ j : Nat, j ≤ zs.length ∧ u = .int .i64 j ∧ Below w2.heap.size w2 wr) (fun u _ => zs.length - (intOf u).toNat)
  case atStart => exact ⟨0, Nat.zero_le _, rfl, hb4⟩
  case round =>
    obtain ⟨j, hj, rfl, hb⟩ := hrel
    have hz7 : zs.length ≤ 7 := by have := HLEN.out; omega
    by_cases hlt : j < zs.length
    · obtain ⟨b', off, rfl, hbb, hc⟩ := RA.out.2 (by omega)
      have x0 := (hb.cell (p := ⟨b', off + j, none⟩) hbb).trans (hc j (.string zs[j]) (by simp))
      have q1 := HSM.out _ (List.getElem_mem hlt)
      have q2 := HCL.out _ (List.getElem_mem hlt)
      obtain ⟨p, hp⟩ : ∃ p : ByteArray, p = zs[j] := ⟨_, rfl⟩
      rw [← hp] at x0 q1 q2
      have HQ := Lib.hid q2
      have HL := Lib.hid hlt
      clear hp hc q2
      go_wp2_with fail
      refine (isplit_any p b _ (by omega)).mono ?_
      rintro e w5 ⟨v, rfl, ow, hb5⟩
      obtain ⟨X5, c5, rfl⟩ := own_form ow
      have hb := hb.trans (hb5.mono hb.size)
      rw [HQ.out]
      clear ow hb5
      go_wp2
      go_roundw
      case rel => exact ⟨j + 1, by omega, by go_num, hb⟩
      case measure => simp [intOf]; omega
    · obtain rfl : j = zs.length := by omega
      go_wp2
      go_ret
      exact ⟨rfl, HH.out.trans (hb.mono HH.out.size)⟩

end Go.Proofs.Ytojfahgnjfnflaa
