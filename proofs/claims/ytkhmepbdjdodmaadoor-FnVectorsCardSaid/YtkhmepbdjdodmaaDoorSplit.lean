/-
  Contracts of SplitByte, of the program and of the reference, and the walk of the law FnExactSplitByte.
-/
import Derived.Test.YtkhmepbdjdodmaaDoorNumS
import Derived.Test.YtkhmepbdjdodmaaDoorOwn
namespace Go.Proofs.YtkhmepbdjdodmaaDoor
open Go.RowKit

theorem infoString : (Tryd.prog.info? 9).map (fun i => (i.zero, i.size, i.bytes)) = some (some (.string ⟨#[]⟩), 1, 16) := by kernel_rfl

namespace Pl
def isAt (s : ByteArray) (b : Int) (i : Nat) : Bool := ((s.toList.getD i 0).toNat : Int) == b
/-- the parts that are done after i bytes, and where the next one begins -/
def parts (s : ByteArray) (b : Int) : Nat → List ByteArray × Nat
  | 0 => ([], 0)
  | i + 1 => if isAt s b i then ((parts s b i).1 ++ [s.extract (parts s b i).2 i], i + 1) else parts s b i
def split (s : ByteArray) (b : Int) : List ByteArray := (parts s b s.size).1 ++ [s.extract (parts s b s.size).2 s.size]
theorem parts_yes {s : ByteArray} {b : Int} {i : Nat} (h : isAt s b i = true) : parts s b (i + 1) = ((parts s b i).1 ++ [s.extract (parts s b i).2 i], i + 1) := by rw [parts, if_pos h]
theorem parts_no {s : ByteArray} {b : Int} {i : Nat} (h : isAt s b i = false) : parts s b (i + 1) = parts s b i := by rw [parts, h]; rfl
theorem parts_le (s : ByteArray) (b : Int) (i : Nat) : (parts s b i).1.length ≤ i ∧ (parts s b i).2 ≤ i := by
  induction i with
  | zero => exact ⟨Nat.le_refl _, Nat.le_refl _⟩
  | succ i ih =>
    cases h : isAt s b i
    · rw [parts_no h]
      omega
    · rw [parts_yes h]
      simp
      omega
theorem split_le (s : ByteArray) (b : Int) : (split s b).length ≤ s.size + 1 := by
  have := (parts_le s b s.size).1
  simp [split]
  omega
theorem isAt_in {s : ByteArray} {b : Int} {i : Nat} (h : i < s.size) : isAt s b i = ((s[i].toNat : Int) == b) := by
  rw [isAt, ← get_toList s i h, List.getD, List.getElem?_eq_getElem (by rw [size_toList]; exact h)]
  rfl
end Pl

/-- returns a slice of the call's own that holds these texts -/
def OwnsStrs (w : World) (zs : List ByteArray) (e : Ending) (w' : World) : Prop :=
  ∃ v, e = .returned v ∧ w'.ownsRow w.heap.size 9 1 v zs.length (zs.map Value.string) ∧ Below w.heap.size w w'
theorem owns_push {w' : World} {base : Nat} {v : Value} {zs : List ByteArray} {x : ByteArray} (h : w'.ownsRow base 9 1 v (zs.length + 1) (zs.map Value.string ++ [.string x])) :
    w'.ownsRow base 9 1 v (zs ++ [x]).length ((zs ++ [x]).map Value.string) := by simpa using h

theorem isplit_any (s : ByteArray) (b : Int) (w : World) (hs : s.size ≤ 1048576) : Calls Tryd.prog 53 #[.string s, .int .u8 b] w (OwnsStrs w (Pl.split s b)) := by
  have HS := Lib.hid (show Pl.split s b = (Pl.parts s b s.size).1 ++ [s.extract (Pl.parts s b s.size).2 s.size] from rfl)
  go_enter Tryd.func53, Tryd.ntmps53
  go_wp2
  go_loopw [5, 6, 7] (fun o f u wr => ∃ (i : Nat) (zs : List ByteArray) (from_ : Nat), i ≤ s.size ∧ u = .int .i64 i ∧ f = .int .i64 from_ ∧ Hid (Pl.parts s b i = (zs, from_)) ∧ wr.ownsRow w.heap.size 9 1 o zs.length (zs.map Value.string) ∧ Below w.heap.size w wr) (fun _ _ u _ => s.size - (intOf u).toNat)
  case atStart => exact ⟨0, [], 0, Nat.zero_le _, rfl, rfl, Lib.hid rfl, World.ownsRow_made w #[] 0 (Nat.le_refl _) (by decide) rfl, (Below.refl _ _).alloc (Nat.le_refl _) _⟩
  case round =>
    obtain ⟨i, zs, k, hi, rfl, rfl, hp, hown, hb⟩ := hrel
    have hle := Pl.parts_le s b i
    rw [hp.out] at hle
    obtain ⟨l1, l2⟩ := hle
    simp only at l1 l2
    by_cases hlt : i < s.size
    · have hat := Pl.isAt_in (b := b) hlt
      cases hq : Pl.isAt s b i
      · have HN := Lib.hid (Pl.parts_no hq)
        rw [hat] at hq
        clear hat
        go_wp2
        go_roundw
        case rel => exact ⟨i + 1, zs, k, by omega, by go_num, rfl, Lib.hid (HN.out.trans hp.out), hown, hb⟩
        case measure => simp [intOf]; omega
      · have HN := Lib.hid (Pl.parts_yes hq)
        rw [hp.out] at HN
        rw [hat] at hq
        clear hat
        go_wp2_with (at_builtin; refine wpList_push _ rfl _ _ 60 rfl w.heap.size 9 (.string ⟨#[]⟩) 1 16 Tryd.underlying60 infoString rfl (by decide) _ _ _ rfl hown [.string (s.extract k i)] rfl rfl (by simp [Value.oneCell']) (by decide) (by omega) hb.size ?_)
        intro v' w' hown' hk
        have hb' := hk _ _ (Nat.le_refl _) hb
        clear hk
        go_wp2
        go_roundw
        case rel => exact ⟨i + 1, _, i + 1, by omega, by go_num, by go_num, HN, owns_push hown', hb'⟩
        case measure => simp [intOf]; omega
    · obtain rfl : i = s.size := by omega
      rw [hp.out] at HS
      go_wp2_with (at_builtin; refine wpList_push _ rfl _ _ 60 rfl w.heap.size 9 (.string ⟨#[]⟩) 1 16 Tryd.underlying60 infoString rfl (by decide) _ _ _ rfl hown [.string (s.extract k s.size)] rfl rfl (by simp [Value.oneCell']) (by decide) (by omega) hb.size ?_)
      intro v' w' hown' hk
      have hb' := hk _ _ (Nat.le_refl _) hb
      clear hk
      go_wp2
      go_ret
      refine ⟨_, rfl, ?_, hb'⟩
      rw [HS.out]
      exact owns_push hown'

theorem ssplit_any (s : ByteArray) (b : Int) (w : World) (hs : s.size ≤ 1048576) : Calls Tryd.prog 51 #[.string s, .int .u8 b] w (OwnsStrs w (Pl.split s b)) := by
  have HS := Lib.hid (show Pl.split s b = (Pl.parts s b s.size).1 ++ [s.extract (Pl.parts s b s.size).2 s.size] from rfl)
  go_enter Tryd.func51, Tryd.ntmps51
  go_wp2
  go_loopw [5, 6, 7] (fun o f u wr => ∃ (i : Nat) (zs : List ByteArray) (from_ : Nat), i ≤ s.size + 1 ∧ u = .int .i64 i ∧ f = .int .i64 from_ ∧ Hid ((i ≤ s.size ∧ Pl.parts s b i = (zs, from_)) ∨ (i = s.size + 1 ∧ zs = Pl.split s b)) ∧ wr.ownsRow w.heap.size 9 1 o zs.length (zs.map Value.string) ∧ Below w.heap.size w wr) (fun _ _ u _ => s.size + 1 - (intOf u).toNat)
  case atStart => exact ⟨0, [], 0, Nat.zero_le _, rfl, rfl, Lib.hid (Or.inl ⟨Nat.zero_le _, rfl⟩), World.ownsRow_made w #[] 0 (Nat.le_refl _) (by decide) rfl, (Below.refl _ _).alloc (Nat.le_refl _) _⟩
  case round =>
    obtain ⟨i, zs, k, hi, rfl, rfl, hp, hown, hb⟩ := hrel
    rcases hp.out with ⟨hi', hp'⟩ | ⟨rfl, hz⟩
    · clear hp
      have hp := Lib.hid hp'
      clear hp'
      have hle := Pl.parts_le s b i
      rw [hp.out] at hle
      obtain ⟨l1, l2⟩ := hle
      simp only at l1 l2
      by_cases hlt : i < s.size
      · have hat := Pl.isAt_in (b := b) hlt
        have hne := beq_eq_false_iff_ne.2 (show (i : Int) ≠ (s.size : Int) by omega)
        cases hq : Pl.isAt s b i
        · have HN := Lib.hid (Pl.parts_no hq)
          rw [hat] at hq
          clear hat
          go_wp2
          go_roundw
          case rel => exact ⟨i + 1, zs, k, by omega, by go_num, rfl, Lib.hid (Or.inl ⟨hlt, HN.out.trans hp.out⟩), hown, hb⟩
          case measure => simp [intOf]; omega
        · have HN := Lib.hid (Pl.parts_yes hq)
          rw [hp.out] at HN
          rw [hat] at hq
          clear hat
          go_wp2_with (at_builtin; refine wpList_push _ rfl _ _ 60 rfl w.heap.size 9 (.string ⟨#[]⟩) 1 16 Tryd.underlying60 infoString rfl (by decide) _ _ _ rfl hown [.string (s.extract k i)] rfl rfl (by simp [Value.oneCell']) (by decide) (by omega) hb.size ?_)
          intro v' w' hown' hk
          have hb' := hk _ _ (Nat.le_refl _) hb
          clear hk
          go_wp2
          go_roundw
          case rel => exact ⟨i + 1, _, i + 1, by omega, by go_num, by go_num, Lib.hid (Or.inl ⟨hlt, HN.out⟩), owns_push hown', hb'⟩
          case measure => simp [intOf]; omega
      · obtain rfl : i = s.size := by omega
        rw [hp.out] at HS
        go_wp2_with (at_builtin; refine wpList_push _ rfl _ _ 60 rfl w.heap.size 9 (.string ⟨#[]⟩) 1 16 Tryd.underlying60 infoString rfl (by decide) _ _ _ rfl hown [.string (s.extract k s.size)] rfl rfl (by simp [Value.oneCell']) (by decide) (by omega) hb.size ?_)
        intro v' w' hown' hk
        have hb' := hk _ _ (Nat.le_refl _) hb
        clear hk
        go_wp2
        go_roundw
        case rel => exact ⟨s.size + 1, _, s.size + 1, Nat.le_refl _, by go_num, by go_num, Lib.hid (Or.inr ⟨rfl, HS.out.symm⟩), owns_push hown', hb'⟩
        case measure => simp [intOf]
    · go_wp2
      go_ret
      refine ⟨_, rfl, ?_, hb⟩
      rw [← hz]
      exact hown

end Go.Proofs.YtkhmepbdjdodmaaDoor
