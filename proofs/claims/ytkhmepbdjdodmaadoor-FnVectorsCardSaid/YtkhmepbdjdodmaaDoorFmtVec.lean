/-
  Contracts of FormatVector, of the program and of the reference, and the walk of the law FnExactFormatVector.
-/
import Derived.Test.YtkhmepbdjdodmaaDoorFmtRat
import Derived.Test.YtkhmepbdjdodmaaDoorJoinI
import Derived.Test.YtkhmepbdjdodmaaDoorVecEq
namespace Go.Proofs.YtkhmepbdjdodmaaDoor
open Go.RowKit

namespace Pl
def texts (V : Fr) (n : Nat) : List ByteArray := (List.range n).map fun i => ⟨(fmtR (V i).1 (V i).2).toArray⟩
theorem texts_length (V : Fr) (n : Nat) : (texts V n).length = n := by simp [texts]
theorem texts_snoc (V : Fr) (n : Nat) : texts V n ++ [⟨(fmtR (V n).1 (V n).2).toArray⟩] = texts V (n + 1) := by simp [texts, List.range_succ]
theorem itoa_len (n : Int) (h0 : -1000000000 ≤ n) (h1 : n ≤ 1000000000) : (Lib.itoa n).length ≤ 21 := by
  by_cases h : 0 ≤ n
  · obtain ⟨k, rfl⟩ : ∃ k : Nat, n = k := ⟨n.toNat, by omega⟩
    rw [itoa_nat]
    have := decLen k (by omega)
    omega
  · obtain ⟨k, rfl⟩ : ∃ k : Nat, n = -(k : Int) := ⟨n.natAbs, by omega⟩
    rw [itoa_negN k (by omega), List.length_cons]
    have := decLen k (by omega)
    omega
theorem fmtR_len (n d : Int) : (fmtR n d).length ≤ 64 := by
  cases h : valid n d
  · rw [fmtR_bad h]
    exact Nat.zero_le _
  · obtain ⟨b1, b2, b3, b4⟩ := valid_bounds h
    have l1 := itoa_len n b3 b4
    have l2 := itoa_len d (by omega) b2
    by_cases h1 : d = 1
    · rw [fmtR_one h h1]
      omega
    · rw [fmtR_two h h1, List.length_append, List.length_cons]
      omega
theorem texts_small (V : Fr) (n : Nat) : ∀ x ∈ texts V n, x.size ≤ 1048576 := by
  intro x hx
  simp only [texts, List.mem_map] at hx
  obtain ⟨i, _, rfl⟩ := hx
  have h := fmtR_len (V i).1 (V i).2
  show (fmtR (V i).1 (V i).2).toArray.size ≤ 1048576
  rw [List.size_toArray]
  omega
def fmtV (V : Fr) (n : Nat) : List UInt8 := Lib.join ((texts V n).map ByteArray.toList) (⟨#[32]⟩ : ByteArray).toList
end Pl
theorem own_cap {w : World} {base size n c : Nat} {e : TypeId} {A : Option Addr} {xs : List Value} (h : w.ownsRow base e size (.slice A n c) n xs) : n ≤ c := by
  rcases h.2 with ⟨hv, h0⟩ | ⟨g, cap, cur, hv, _, _, hcap, _⟩
  · omega
  · injection hv with _ _ hc
    subst hc
    first | exact hcap | omega

theorem sfmtV_any (A : Option Addr) (n c B : Nat) (V : Fr) (w : World) (hr : RdP w B A n V) (hB : B ≤ w.heap.size) (hn : n ≤ 1048576) :
    Calls Tryd.prog 19 #[.slice A n c] w fun e w' => e = .returned (.string ⟨(Pl.fmtV V n).toArray⟩) ∧ Below w.heap.size w w' := by
  go_enter Tryd.func19, Tryd.ntmps19
  go_wp2
  go_loopw [3, 4] (fun o u wr => ∃ j : Nat, j ≤ n ∧ u = .int .i64 j ∧ wr.ownsRow w.heap.size 9 1 o (Pl.texts V j).length ((Pl.texts V j).map Value.string) ∧ Below w.heap.size w wr) (fun _ u _ => n - (intOf u).toNat)
  case atStart => exact ⟨0, Nat.zero_le _, rfl, World.ownsRow_made w #[] 0 (Nat.le_refl _) (by decide) rfl, (Below.refl _ _).alloc (Nat.le_refl _) _⟩
  case round =>
    obtain ⟨j, hj, rfl, hown, hb⟩ := hrel
    by_cases hlt : j < n
    · obtain ⟨b, off, rfl, hbb, hc⟩ := hr (by omega)
      have x0 := (hb.cell (p := ⟨b, off + j * 2, none⟩) (by exact Nat.lt_of_lt_of_le hbb hB)).trans (hc j hlt).1
      have x1 := (hb.cell (p := ⟨b, off + j * 2 + 1, none⟩) (by exact Nat.lt_of_lt_of_le hbb hB)).trans (hc j hlt).2
      have hsn := Pl.texts_snoc V j
      have hlen := Pl.texts_length V j
      obtain ⟨x, hx⟩ : ∃ x, x = (V j).1 := ⟨_, rfl⟩
      obtain ⟨y, hy⟩ : ∃ y, y = (V j).2 := ⟨_, rfl⟩
      rw [← hx] at x0 hsn
      rw [← hy] at x1 hsn
      obtain ⟨zs, hzs⟩ : ∃ zs, zs = Pl.texts V j := ⟨_, rfl⟩
      rw [← hzs] at hown hsn hlen
      have HSN := Lib.hid hsn
      have HLEN := Lib.hid hlen
      have hbz : b < wr.heap.size := Nat.lt_of_lt_of_le (Nat.lt_of_lt_of_le hbb hB) hb.size
      clear hx hy hsn hzs hc hr hlen
      go_wp2_with fail
      refine (sfmtRat_any _ _ _).mono ?_
      rintro e w2 ⟨rfl, hb2⟩
      have hown := own_below hown hb2
      have hb := hb.trans (hb2.mono hb.size)
      clear hb2
      obtain ⟨t, ht'⟩ : ∃ t : ByteArray, t = ⟨(Pl.fmtR x y).toArray⟩ := ⟨_, rfl⟩
      rw [← ht'] at HSN ⊢
      have HT := Lib.hid ht'
      clear ht'
      have hl2 : zs.length ≤ 1048576 := by rw [HLEN.out]; omega
      go_wp2_with (at_builtin; refine wpList_push _ rfl _ _ 60 rfl w.heap.size 9 (.string ⟨#[]⟩) 1 16 Tryd.underlying60 infoString rfl (by decide) _ _ _ rfl hown [.string t] rfl rfl (by simp [Value.oneCell']) (by decide) (by omega) hb.size ?_)
      intro v' w' hown' hk
      have hb' := hk _ _ (Nat.le_refl _) hb
      clear hk
      have hown' := owns_push hown'
      rw [HSN.out] at hown'
      go_wp2
      go_roundw
      case rel => exact ⟨j + 1, by omega, by go_num, hown', hb'⟩
      case measure => simp [intOf]; omega
    · obtain rfl : j = n := by omega
      obtain ⟨X, cX, rfl⟩ := own_form hown
      have J := sJoin_any X cX _ (Pl.texts V j) ⟨#[32]⟩ _ (Rd.of_own hown) (Nat.le_refl _) (by rw [Pl.texts_length]; exact hn) (by decide) (Pl.texts_small V j)
      have HB := Lib.hid hb
      obtain ⟨R, hR⟩ : ∃ R : ByteArray, R = ⟨(Pl.fmtV V j).toArray⟩ := ⟨_, rfl⟩
      have HJ := Lib.hid J
      have hR' : R = ⟨(Lib.join ((Pl.texts V j).map ByteArray.toList) (⟨#[32]⟩ : ByteArray).toList).toArray⟩ := hR
      rw [← hR'] at HJ
      have HRR := Lib.hid hR
      generalize Pl.texts V j = zs at hown HJ
      clear J hR hR' hb hown
      go_wp2_with fail
      refine HJ.out.mono ?_
      rintro e w2 ⟨rfl, hb2⟩
      have hb := HB.out.trans (hb2.mono HB.out.size)
      clear hb2
      go_wp2
      go_ret
      exact ⟨by rw [HRR.out]; rfl, hb⟩

theorem ifmtV_any (A : Option Addr) (n c B : Nat) (V : Fr) (w : World) (hr : RdP w B A n V) (hB : B ≤ w.heap.size) (hn : n ≤ 1048576) (ht : Tab w) :
    Calls Tryd.prog 21 #[.slice A n c] w fun e w' => e = .returned (.string ⟨(Pl.fmtV V n).toArray⟩) ∧ Below w.heap.size w w' := by
  go_enter Tryd.func21, Tryd.ntmps21
  go_wp2
  go_loopw [3, 5, 9] (fun o v u wr => ∃ j : Nat, j ≤ n ∧ u = .int .i64 j ∧ wr.ownsRow w.heap.size 9 1 o (Pl.texts V j).length ((Pl.texts V j).map Value.string) ∧ Below w.heap.size w wr) (fun _ _ u _ => n - (intOf u).toNat)
  case atStart => exact ⟨0, Nat.zero_le _, rfl, World.ownsRow_made w #[] 0 (Nat.le_refl _) (by decide) rfl, (Below.refl _ _).alloc (Nat.le_refl _) _⟩
  case round =>
    obtain ⟨j, hj, rfl, hown, hb⟩ := hrel
    by_cases hlt : j < n
    · obtain ⟨b, off, rfl, hbb, hc⟩ := hr (by omega)
      have x0 := (hb.cell (p := ⟨b, off + j * 2, none⟩) (by exact Nat.lt_of_lt_of_le hbb hB)).trans (hc j hlt).1
      have x1 := (hb.cell (p := ⟨b, off + j * 2 + 1, none⟩) (by exact Nat.lt_of_lt_of_le hbb hB)).trans (hc j hlt).2
      have hsn := Pl.texts_snoc V j
      have hlen := Pl.texts_length V j
      obtain ⟨x, hx⟩ : ∃ x, x = (V j).1 := ⟨_, rfl⟩
      obtain ⟨y, hy⟩ : ∃ y, y = (V j).2 := ⟨_, rfl⟩
      rw [← hx] at x0 hsn
      rw [← hy] at x1 hsn
      obtain ⟨zs, hzs⟩ : ∃ zs, zs = Pl.texts V j := ⟨_, rfl⟩
      rw [← hzs] at hown hsn hlen
      have HSN := Lib.hid hsn
      have HLEN := Lib.hid hlen
      have hbz : b < wr.heap.size := Nat.lt_of_lt_of_le (Nat.lt_of_lt_of_le hbb hB) hb.size
      clear hx hy hsn hzs hc hr hlen
      go_wp2_with fail
      refine (ifmtRat_any _ _ _ (ht.below (hb.alloc hb.size _))).mono ?_
      rintro e w2 ⟨rfl, hb2⟩
      have hb2 := ((Below.refl wr.heap.size wr).alloc (Nat.le_refl _) _).trans (hb2.mono (by simp))
      have hown := own_below hown hb2
      have hb := hb.trans (hb2.mono hb.size)
      clear hb2
      obtain ⟨t, ht'⟩ : ∃ t : ByteArray, t = ⟨(Pl.fmtR x y).toArray⟩ := ⟨_, rfl⟩
      rw [← ht'] at HSN ⊢
      have HT := Lib.hid ht'
      clear ht'
      have hl2 : zs.length ≤ 1048576 := by rw [HLEN.out]; omega
      go_wp2_with (at_builtin; refine wpList_push _ rfl _ _ 60 rfl w.heap.size 9 (.string ⟨#[]⟩) 1 16 Tryd.underlying60 infoString rfl (by decide) _ _ _ rfl hown [.string t] rfl rfl (by simp [Value.oneCell']) (by decide) (by omega) hb.size ?_)
      intro v' w' hown' hk
      have hb' := hk _ _ (Nat.le_refl _) hb
      clear hk
      have hown' := owns_push hown'
      rw [HSN.out] at hown'
      go_wp2
      go_roundw
      case rel => exact ⟨j + 1, by omega, by go_num, hown', hb'⟩
      case measure => simp [intOf]; omega
    · obtain rfl : j = n := by omega
      obtain ⟨X, cX, rfl⟩ := own_form hown
      have J := iJoin_any X cX _ (Pl.texts V j) ⟨#[32]⟩ _ (Rd.of_own hown) (Nat.le_refl _) (own_cap hown) (by rw [Pl.texts_length]; exact hn) (by decide) (Pl.texts_small V j)
      have HB := Lib.hid hb
      obtain ⟨R, hR⟩ : ∃ R : ByteArray, R = ⟨(Pl.fmtV V j).toArray⟩ := ⟨_, rfl⟩
      have HJ := Lib.hid J
      have hR' : R = ⟨(Lib.join ((Pl.texts V j).map ByteArray.toList) (⟨#[32]⟩ : ByteArray).toList).toArray⟩ := hR
      rw [← hR'] at HJ
      have HRR := Lib.hid hR
      generalize Pl.texts V j = zs at hown HJ
      clear J hR hR' hb hown
      go_wp2_with fail
      refine HJ.out.mono ?_
      rintro e w2 ⟨rfl, hb2⟩
      have hb := HB.out.trans (hb2.mono HB.out.size)
      clear hb2
      go_wp2
      go_ret
      exact ⟨by rw [HRR.out]; rfl, hb⟩

theorem fnExactFormatVector_walk {w : World} (A : Option Addr) (n c : Nat) (V : Fr) (hn : n ≤ maxLen) (ra : RdP w w.heap.size A n V) (_ : ∀ j, j < n → (Lit.int .i64 (V j).1).wf = true ∧ (Lit.int .i64 (V j).2).wf = true) (ht : Tab w) :
    Calls Tryd.prog 6 #[.slice A n c] w fun e w' => e = .returned (.bool true) ∧ Below w.heap.size w w' := by
  have m1 : n ≤ 9223372036854775807 := by simpa [maxLen] using hn
  clear hn
  by_cases hy1 : (0 : Int) ≤ 1048576 - n
  · have hd1 := decide_eq_false (show ¬ (1048576 - (n : Int)) < 0 by omega)
    have FS := Lib.hid (And.intro (fun A c B w h hB => sfmtV_any A n c B V w h hB (by omega)) (fun A c B w h hB ht => ifmtV_any A n c B V w h hB (by omega) ht))
    generalize (⟨(Pl.fmtV V n).toArray⟩ : ByteArray) = R at FS
    go_enter Tryd.func6, Tryd.ntmps6
    have H := Below.refl w.heap.size w
    have s_ra := Nat.le_refl w.heap.size
    go_wp2_with fail
    refine (szRatS_yes _ _ _ _ _ hy1 (by omega)).mono ?_
    rintro e w1 ⟨rfl, rfl⟩
    go_wp2_with fail
    refine (toRatS_any _ _ _ _ V _ ra s_ra (by omega)).mono ?_
    rintro e w2 ⟨X2, rfl, ow, hb⟩
    have ra := ra.below hb s_ra
    have s_ra := Nat.le_trans s_ra hb.size
    have H := H.trans (hb.mono H.size)
    clear hb
    have r1 := RdP.of_own ow
    have s_r1 := Nat.le_refl w2.heap.size
    clear ow
    go_wp2_with fail
    refine (FS.out.1 _ _ _ _ r1 s_r1).mono ?_
    rintro e w3 ⟨rfl, hb⟩
    have ra := ra.below hb s_ra
    have s_ra := Nat.le_trans s_ra hb.size
    have r1 := r1.below hb s_r1
    have s_r1 := Nat.le_trans s_r1 hb.size
    have H := H.trans (hb.mono H.size)
    clear hb
    go_wp2_with fail
    refine (toRatS_any _ _ _ _ V _ ra s_ra (by omega)).mono ?_
    rintro e w4 ⟨X4, rfl, ow, hb⟩
    have ra := ra.below hb s_ra
    have s_ra := Nat.le_trans s_ra hb.size
    have r1 := r1.below hb s_r1
    have s_r1 := Nat.le_trans s_r1 hb.size
    have H := H.trans (hb.mono H.size)
    clear hb
    have r3 := RdP.of_own ow
    have s_r3 := Nat.le_refl w4.heap.size
    clear ow
    go_wp2_with fail
    refine (FS.out.2 _ _ _ _ r3 s_r3 (ht.below H)).mono ?_
    rintro e w5 ⟨rfl, hb⟩
    have ra := ra.below hb s_ra
    have s_ra := Nat.le_trans s_ra hb.size
    have r1 := r1.below hb s_r1
    have s_r1 := Nat.le_trans s_r1 hb.size
    have r3 := r3.below hb s_r3
    have s_r3 := Nat.le_trans s_r3 hb.size
    have H := H.trans (hb.mono H.size)
    clear hb
    go_wp2_with fail
    refine (toRatS_any _ _ _ _ V _ ra s_ra (by omega)).mono ?_
    rintro e w6 ⟨X6, rfl, ow, hb⟩
    have ra := ra.below hb s_ra
    have s_ra := Nat.le_trans s_ra hb.size
    have r1 := r1.below hb s_r1
    have s_r1 := Nat.le_trans s_r1 hb.size
    have r3 := r3.below hb s_r3
    have s_r3 := Nat.le_trans s_r3 hb.size
    have H := H.trans (hb.mono H.size)
    clear hb
    have r5 := RdP.of_own ow
    have s_r5 := Nat.le_refl w6.heap.size
    clear ow
    go_wp2_with fail
    refine (eqRatS_same _ _ _ _ _ _ V _ (r3.more s_r3) (r5.more s_r5) (Nat.le_refl _) (by omega)).mono ?_
    rintro e w7 ⟨rfl, hb⟩
    have ra := ra.below hb s_ra
    have s_ra := Nat.le_trans s_ra hb.size
    have r1 := r1.below hb s_r1
    have s_r1 := Nat.le_trans s_r1 hb.size
    have r3 := r3.below hb s_r3
    have s_r3 := Nat.le_trans s_r3 hb.size
    have r5 := r5.below hb s_r5
    have s_r5 := Nat.le_trans s_r5 hb.size
    have H := H.trans (hb.mono H.size)
    clear hb
    go_wp2
    go_ret
    exact ⟨rfl, H⟩
  · go_enter Tryd.func6, Tryd.ntmps6
    go_wp2_with fail
    refine (szRatS_no _ _ _ _ _ (by omega) (by omega) (by omega) (by omega)).mono ?_
    rintro e w1 ⟨rfl, rfl⟩
    go_wp2
    go_ret
    exact ⟨rfl, Below.refl _ _⟩

end Go.Proofs.YtkhmepbdjdodmaaDoor
