/-
  Contracts of SplitByte, of the program and of the reference, and the walk of the law FnExactSplitByte.
-/
import Derived.Test.YtojfahgnjfnflaaStrS
namespace Go.Proofs.Ytojfahgnjfnflaa
open Go.RowKit

theorem infoString : (Try.prog.info? 9).map (fun i => (i.zero, i.size, i.bytes)) = some (some (.string ⟨#[]⟩), 1, 16) := by kernel_rfl

namespace Pl
def isAt (s : ByteArray) (b : Int) (i : Nat) : Bool := ((s.toList.getD i 0).toNat : Int) == b
/-- the parts that are done after i bytes, and where the next one begins -/
def parts (s : ByteArray) (b : Int) : Nat → List ByteArray × Nat
  | 0 => ([], 0)
  | i + 1 => if isAt s b i then ((parts s b i).1 ++ [s.extract (parts s b i).2 i], i + 1) else parts s b i
def split (s : ByteArray) (b : Int) : List ByteArray := (parts s b s.size).1 ++ [s.extract (parts s b s.size).2 s.size]
theorem parts_yes {s : ByteArray} {b : Int} {i : Nat} (h : isAt s b i = true) : parts s b (i + 1) = ((parts s b i).1 ++ [s.extract (parts s b i).2 i], i + 1) := by rw [parts, if_pos h]
theorem parts_no {s : ByteArray} {b : Int} {i : Nat} (h : isAt s b i = false) : parts s b (i + 1) = parts s b i := by rw [parts, h]; rfl
theorem parts_le (s : ByteArray) (b : Int) (i : Nat) : (parts s b i).1.length ≤ i ∧ (parts s b i).2 ≤ i := by
  induction i with
  | zero => exact ⟨Nat.le_refl _, Nat.le_refl _⟩
  | succ i ih =>
    cases h : isAt s b i
    · rw [parts_no h]
      omega
    · rw [parts_yes h]
      simp
      omega
theorem split_le (s : ByteArray) (b : Int) : (split s b).length ≤ s.size + 1 := by
  have := (parts_le s b s.size).1
  simp [split]
  omega
theorem isAt_in {s : ByteArray} {b : Int} {i : Nat} (h : i < s.size) : isAt s b i = ((s[i].toNat : Int) == b) := by
  rw [isAt, ← get_toList s i h, List.getD, List.getElem?_eq_getElem (by rw [size_toList]; exact h)]
  rfl
end Pl

/-- returns a slice of the call's own that holds these texts -/
def OwnsStrs (w : World) (zs : List ByteArray) (e : Ending) (w' : World) : Prop :=
  ∃ v, e = .returned v ∧ w'.ownsRow w.heap.size 9 1 v zs.length (zs.map Value.string) ∧ Below w.heap.size w w'
theorem owns_push {w' : World} {base : Nat} {v : Value} {zs : List ByteArray} {x : ByteArray} (h : w'.ownsRow base 9 1 v (zs.length + 1) (zs.map Value.string ++ [.string x])) :
    w'.ownsRow base 9 1 v (zs ++ [x]).length ((zs ++ [x]).map Value.string) := by simpa using h

theorem isplit_any (s : ByteArray) (b : Int) (w : World) (hs : s.size ≤ 1048576) : Calls Try.prog 17 #[.string s, .int .u8 b] w (OwnsStrs w (Pl.split s b)) := by
  have HS := Lib.hid (show Pl.split s b = (Pl.parts s b s.size).1 ++ [s.extract (Pl.parts s b s.size).2 s.size] from rfl)
  go_enter Try.func17, Try.ntmps17
  go_wp2
  go_loopw [5, 6, 7] (fun o f u wr => ∃ (i : Nat) (zs : List ByteArray) (from_ : Nat), i ≤ s.size ∧ u = .int .i64 i ∧ f = .int .i64 from_ ∧ Hid (Pl.parts s b i = (zs, from_)) ∧ wr.ownsRow w.heap.size 9 1 o zs.length (zs.map Value.string) ∧ Below w.heap.size w wr) (fun _ _ u _ => s.size - (intOf u).toNat)
  case atStart => exact ⟨0, [], 0, Nat.zero_le _, rfl, rfl, Lib.hid rfl, World.ownsRow_made w #[] 0 (Nat.le_refl _) (by decide) rfl, (Below.refl _ _).alloc (Nat.le_refl _) _⟩
  case round =>
    obtain ⟨i, zs, k, hi, rfl, rfl, hp, hown, hb⟩ := hrel
    have hle := Pl.parts_le s b i
    rw [hp.out] at hle
    obtain ⟨l1, l2⟩ := hle
    simp only at l1 l2
    by_cases hlt : i < s.size
    · have hat := Pl.isAt_in (b := b) hlt
      cases hq : Pl.isAt s b i
      · have HN := Lib.hid (Pl.parts_no hq)
        rw [hat] at hq
        clear hat
        go_wp2
        go_roundw
        case rel => exact ⟨i + 1, zs, k, by omega, by go_num, rfl, Lib.hid (HN.out.trans hp.out), hown, hb⟩
        case measure => simp [intOf]; omega
      · have HN := Lib.hid (Pl.parts_yes hq)
        rw [hp.out] at HN
        rw [hat] at hq
        clear hat
        go_wp2_with (at_builtin; refine wpList_push _ rfl _ _ 27 rfl w.heap.size 9 (.string ⟨#[]⟩) 1 16 Try.underlying27 infoString rfl (by decide) _ _ _ rfl hown [.string (s.extract k i)] rfl rfl (by simp [Value.oneCell']) (by decide) (by omega) hb.size ?_)
        intro v' w' hown' hk
        have hb' := hk _ _ (Nat.le_refl _) hb
        clear hk
        go_wp2
        go_roundw
        case rel => exact ⟨i + 1, _, i + 1, by omega, by go_num, by go_num, HN, owns_push hown', hb'⟩
        case measure => simp [intOf]; omega
    · obtain rfl : i = s.size := by omega
      rw [hp.out] at HS
      go_wp2_with (at_builtin; refine wpList_push _ rfl _ _ 27 rfl w.heap.size 9 (.string ⟨#[]⟩) 1 16 Try.underlying27 infoString rfl (by decide) _ _ _ rfl hown [.string (s.extract k s.size)] rfl rfl (by simp [Value.oneCell']) (by decide) (by omega) hb.size ?_)
      intro v' w' hown' hk
      have hb' := hk _ _ (Nat.le_refl _) hb
      clear hk
      go_wp2
      go_ret
      refine ⟨_, rfl, ?_, hb'⟩
      rw [HS.out]
      exact owns_push hown'

theorem ssplit_any (s : ByteArray) (b : Int) (w : World) (hs : s.size ≤ 1048576) : Calls Try.prog 16 #[.string s, .int .u8 b] w (OwnsStrs w (Pl.split s b)) := by
  have HS := Lib.hid (show Pl.split s b = (Pl.parts s b s.size).1 ++ [s.extract (Pl.parts s b s.size).2 s.size] from rfl)
  go_enter Try.func16, Try.ntmps16
  go_wp2
  go_loopw [5, 6, 7] (fun o f u wr => ∃ (i : Nat) (zs : List ByteArray) (from_ : Nat), i ≤ s.size + 1 ∧ u = .int .i64 i ∧ f = .int .i64 from_ ∧ Hid ((i ≤ s.size ∧ Pl.parts s b i = (zs, from_)) ∨ (i = s.size + 1 ∧ zs = Pl.split s b)) ∧ wr.ownsRow w.heap.size 9 1 o zs.length (zs.map Value.string) ∧ Below w.heap.size w wr) (fun _ _ u _ => s.size + 1 - (intOf u).toNat)
  case atStart => exact ⟨0, [], 0, Nat.zero_le _, rfl, rfl, Lib.hid (Or.inl ⟨Nat.zero_le _, rfl⟩), World.ownsRow_made w #[] 0 (Nat.le_refl _) (by decide) rfl, (Below.refl _ _).alloc (Nat.le_refl _) _⟩
  case round =>
    obtain ⟨i, zs, k, hi, rfl, rfl, hp, hown, hb⟩ := hrel
    rcases hp.out with ⟨hi', hp'⟩ | ⟨rfl, hz⟩
    · clear hp
      have hp := Lib.hid hp'
      clear hp'
      have hle := Pl.parts_le s b i
      rw [hp.out] at hle
      obtain ⟨l1, l2⟩ := hle
      simp only at l1 l2
      by_cases hlt : i < s.size
      · have hat := Pl.isAt_in (b := b) hlt
        have hne := beq_eq_false_iff_ne.2 (show (i : Int) ≠ (s.size : Int) by omega)
        cases hq : Pl.isAt s b i
        · have HN := Lib.hid (Pl.parts_no hq)
          rw [hat] at hq
          clear hat
          go_wp2
          go_roundw
          case rel => exact ⟨i + 1, zs, k, by omega, by go_num, rfl, Lib.hid (Or.inl ⟨hlt, HN.out.trans hp.out⟩), hown, hb⟩
          case measure => simp [intOf]; omega
        · have HN := Lib.hid (Pl.parts_yes hq)
          rw [hp.out] at HN
          rw [hat] at hq
          clear hat
          go_wp2_with (at_builtin; refine wpList_push _ rfl _ _ 27 rfl w.heap.size 9 (.string ⟨#[]⟩) 1 16 Try.underlying27 infoString rfl (by decide) _ _ _ rfl hown [.string (s.extract k i)] rfl rfl (by simp [Value.oneCell']) (by decide) (by omega) hb.size ?_)
          intro v' w' hown' hk
          have hb' := hk _ _ (Nat.le_refl _) hb
          clear hk
          go_wp2
          go_roundw
          case rel => exact ⟨i + 1, _, i + 1, by omega, by go_num, by go_num, Lib.hid (Or.inl ⟨hlt, HN.out⟩), owns_push hown', hb'⟩
          case measure => simp [intOf]; omega
      · obtain rfl : i = s.size := by omega
        rw [hp.out] at HS
        go_wp2_with (at_builtin; refine wpList_push _ rfl _ _ 27 rfl w.heap.size 9 (.string ⟨#[]⟩) 1 16 Try.underlying27 infoString rfl (by decide) _ _ _ rfl hown [.string (s.extract k s.size)] rfl rfl (by simp [Value.oneCell']) (by decide) (by omega) hb.size ?_)
        intro v' w' hown' hk
        have hb' := hk _ _ (Nat.le_refl _) hb
        clear hk
        go_wp2
        go_roundw
        case rel => exact ⟨s.size + 1, _, s.size + 1, Nat.le_refl _, by go_num, by go_num, Lib.hid (Or.inr ⟨rfl, HS.out.symm⟩), owns_push hown', hb'⟩
        case measure => simp [intOf]
    · go_wp2
      go_ret
      refine ⟨_, rfl, ?_, hb⟩
      rw [← hz]
      exact hown

theorem fnExactSplitByte_walk (s : ByteArray) (_ : s.size ≤ maxLen) (b : Int) (_ : (Lit.int .u8 b).wf = true) (w : World) :
    Calls Try.prog 4 #[.string s, .int .u8 b] w fun e w' => e = .returned (.bool true) ∧ Below w.heap.size w w' := by
  by_cases hbig : s.size ≤ 1048576
  · have hd := decide_eq_false (show ¬ (1048576 : Int) < (s.size : Int) by omega)
    have hn := Pl.split_le s b
    obtain ⟨zs, hz⟩ : ∃ zs, zs = Pl.split s b := ⟨_, rfl⟩
    have i1 := fun W => isplit_any s b W hbig
    have s1 := ssplit_any s b w hbig
    rw [← hz] at hn i1 s1
    clear hz
    have hn' : zs.length ≤ 4294967296 := by omega
    have I := Lib.hid i1
    clear i1
    go_enter Try.func4, Try.ntmps4
    go_wp2_with fail
    refine s1.mono ?_
    rintro e w1 ⟨v0, rfl, own0, hb1⟩
    obtain ⟨A0, c0, rfl⟩ := own_form own0
    go_wp2_with fail
    refine (I.out _).mono ?_
    rintro e w2 ⟨v1, rfl, own1, hb2⟩
    obtain ⟨A1, c1, rfl⟩ := own_form own1
    have r0 := ((Rd.of_own own0).below hb2)
    go_wp2_with fail
    refine (eqStringS_same A1 A0 c1 c0 w2.heap.size zs w2 (Rd.of_own own1) (r0.more hb2.size) (Nat.le_refl _) (by omega)).mono ?_
    rintro e w3 ⟨rfl, hb3⟩
    have own1 := own_below own1 hb3
    have r0 := r0.keep (w' := w3) fun p hp => hb3.cell (Nat.lt_of_lt_of_le hp hb2.size)
    go_wp2_with fail
    refine (markStringS_own A1 zs.length c1 _ 1 _ w3 own1 hn' (by omega) (by omega)).mono ?_
    rintro e w4 ⟨rfl, own1, hg4⟩
    have hz3 : w1.heap.size ≤ w3.heap.size := Nat.le_trans hb2.size hb3.size
    have r0 := rd_grown r0 hg4 hz3 (fun g hg => (own1.lt g hg).1)
    go_wp2_with fail
    refine (heldStringS_any A1 zs.length c1 _ 1 w4 (Rd.of_own own1) (Nat.le_refl _) hn' (by omega) (by omega)).mono ?_
    rintro e w5 ⟨rfl, hb5⟩
    have hz4 : w1.heap.size ≤ w4.heap.size := Nat.le_trans hz3 hg4.size
    have r0 := r0.keep (w' := w5) fun p hp => hb5.cell (Nat.lt_of_lt_of_le hp hz4)
    have own1 := own_below own1 hb5
    go_wp2_with fail
    refine (I.out _).mono ?_
    rintro e w6 ⟨v2, rfl, own2, hb6⟩
    obtain ⟨A2, c2, rfl⟩ := own_form own2
    have hz5 : w1.heap.size ≤ w5.heap.size := Nat.le_trans hz4 hb5.size
    have r0 := r0.keep (w' := w6) fun p hp => hb6.cell (Nat.lt_of_lt_of_le hp hz5)
    have own1 := own_below own1 hb6
    go_wp2_with fail
    refine (eqStringS_same A2 A0 c2 c0 w6.heap.size zs w6 (Rd.of_own own2) (r0.more (Nat.le_trans hz5 hb6.size)) (Nat.le_refl _) (by omega)).mono ?_
    rintro e w7 ⟨rfl, hb7⟩
    have own1 := own_below own1 hb7
    go_wp2_with fail
    refine (heldStringS_any A1 zs.length c1 _ 1 w7 (Rd.of_own own1) (Nat.le_refl _) hn' (by omega) (by omega)).mono ?_
    rintro e w8 ⟨rfl, hb8⟩
    go_wp2
    go_ret
    have hq : Below w.heap.size w w3 := (hb1.trans (hb2.mono hb1.size)).trans (hb3.mono (Nat.le_trans hb1.size hb2.size))
    have hq4 := hq.grown hg4 hq.size (fun g hg => Nat.le_trans hb1.size (own1.lt g hg).1)
    have hq5 := hq4.trans (hb5.mono hq4.size)
    have hq6 := hq5.trans (hb6.mono hq5.size)
    have hq7 := hq6.trans (hb7.mono hq6.size)
    exact ⟨rfl, hq7.trans (hb8.mono hq7.size)⟩
  · have hd := decide_eq_true (show (1048576 : Int) < (s.size : Int) by omega)
    go_enter Try.func4, Try.ntmps4
    go_wp2
    go_ret
    exact ⟨rfl, Below.refl _ _⟩

end Go.Proofs.Ytojfahgnjfnflaa
