/-
  Contracts of FormatCoalition, of the program and of the reference.
-/
import Derived.Test.YtojfahgnjfnflaaMembers
import Derived.WalkSpells
namespace Go.Proofs.Ytojfahgnjfnflaa
open Go.RowKit

namespace Pl
def letter (k : Nat) : UInt8 := UInt8.ofNat (97 + k)
def fmtTo (s : Int) : Nat → List UInt8
  | 0 => []
  | j + 1 => fmtTo s j ++ if has s j then [letter j] else []
theorem fmtTo_succ (s : Int) (j : Nat) : fmtTo s (j + 1) = fmtTo s j ++ if has s j then [letter j] else [] := rfl
theorem fmtTo_le (s : Int) (j : Nat) : (fmtTo s j).length ≤ j := by
  induction j with
  | zero => simp [fmtTo]
  | succ j ih =>
    rw [fmtTo_succ]
    split <;> simp <;> omega
theorem str_append (l m : List UInt8) : (⟨l.toArray⟩ : ByteArray) ++ ⟨m.toArray⟩ = ⟨(l ++ m).toArray⟩ := by
  apply ByteArray.ext
  simp [ByteArray.data_append]
theorem cut_letters (j : Nat) (h : j < 5) : (⟨#[97, 98, 99, 100, 101]⟩ : ByteArray).extract j (j + 1) = ⟨[letter j].toArray⟩ := by
  rcases (show j = 0 ∨ j = 1 ∨ j = 2 ∨ j = 3 ∨ j = 4 from by omega) with rfl | rfl | rfl | rfl | rfl <;> decide +kernel
theorem ret_string {a b : List UInt8} (h : a = b) : Ending.returned (.string ⟨a.toArray⟩) = .returned (.string ⟨b.toArray⟩) := by rw [h]
/-- 'FormatCoalition' -/
def fmt (s : Int) : List UInt8 := if within s 0 31 then (if (fmtTo s 5).isEmpty then [45] else fmtTo s 5) else []
end Pl

theorem sfmt_any (s : Int) (w : World) (hs : s ≤ 9223372036854775807) : Calls Try.prog 44 #[.int .i64 s] w fun e w' => e = .returned (.string ⟨(Pl.fmt s).toArray⟩) ∧ w = w' := by
  cases hg : Pl.within s 0 31
  · have e : Pl.fmt s = [] := by simp [Pl.fmt, hg]
    rw [e]
    clear e
    go_enter Try.func44, Try.ntmps44
    go_wp2_with (go_at_call 54; refine (good_any' _ _).mono ?_; rintro e w' ⟨rfl, rfl⟩)
    go_ret
    exact ⟨rfl, rfl⟩
  · go_enter Try.func44, Try.ntmps44
    go_wp2_with (go_at_call 54; refine (good_any' _ _).mono ?_; rintro e w' ⟨rfl, rfl⟩)
    go_loop [3, 4] (fun o u => ∃ j : Nat, j ≤ 5 ∧ u = .int .i64 j ∧ o = .string ⟨(Pl.fmtTo s j).toArray⟩) (fun _ u => 5 - (intOf u).toNat)
    case atStart => exact ⟨0, by omega, rfl, rfl⟩
    case round =>
      obtain ⟨j, hj, rfl, rfl⟩ := hrel
      have hle := Pl.fmtTo_le s j
      by_cases hlt : j < 5
      · cases hp : Pl.has s j
        · go_wp2_with (go_at_call 50; refine (shas_any _ _ _ (by assumption)).mono ?_; rintro e w' ⟨rfl, rfl⟩)
          go_round
          case rel => exact ⟨j + 1, by omega, by go_num, by simp [Pl.fmtTo_succ, hp]⟩
          case measure => simp [intOf]; omega
        · go_wp2_with (go_at_call 50; refine (shas_any _ _ _ (by assumption)).mono ?_; rintro e w' ⟨rfl, rfl⟩)
          go_round
          case rel => exact ⟨j + 1, by omega, by go_num, by rw [Pl.cut_letters j hlt, Pl.str_append, Pl.fmtTo_succ, if_pos hp]⟩
          case measure => simp [intOf]; omega
      · obtain rfl : j = 5 := by omega
        go_wp2
        all_goals
          go_ret
          exact ⟨Pl.ret_string (by simp [Pl.fmt, *]), rfl⟩

namespace Pl
theorem memTo_mem (s : Int) (j : Nat) : ∀ x ∈ memTo s j, 0 ≤ x ∧ x < j := by
  induction j with
  | zero => simp [memTo]
  | succ j ih =>
    intro x hx
    rw [memTo_succ, List.mem_append] at hx
    rcases hx with hx | hx
    · have := ih x hx
      omega
    · split at hx
      · simp at hx
        omega
      · simp at hx
theorem fmtTo_map (s : Int) (j : Nat) : (memTo s j).map (fun x => letter x.toNat) = fmtTo s j := by
  induction j with
  | zero => rfl
  | succ j ih =>
    rw [memTo_succ, fmtTo_succ, List.map_append, ih]
    split <;> simp
def lets (zs : List Int) (i : Nat) : List UInt8 := (zs.take i).map fun x => letter x.toNat
theorem lets_le (zs : List Int) (i : Nat) : (lets zs i).length ≤ i := by
  unfold lets
  simp
  omega
theorem lets_all (zs : List Int) : lets zs zs.length = zs.map fun x => letter x.toNat := by simp [lets]
theorem letters_snoc (zs : List Int) (i : Nat) (h : i < zs.length) : lets zs (i + 1) = lets zs i ++ [letter (zs[i]).toNat] := by
  unfold lets
  rw [List.take_succ_eq_append_getElem h, List.map_append]
  rfl
end Pl

theorem ifmt_any (s : Int) (w : World) (hs : s ≤ 9223372036854775807) : Calls Try.prog 42 #[.int .i64 s] w fun e w' => e = .returned (.string ⟨(Pl.fmt s).toArray⟩) ∧ Below w.heap.size w w' := by
  cases hg : Pl.within s 0 31
  · have e : Pl.fmt s = [] := by simp [Pl.fmt, hg]
    rw [e]
    clear e
    go_enter Try.func42, Try.ntmps42
    go_wp2_with (go_at_call 55; refine (within_any _ _ _ _).mono ?_; rintro e w' ⟨rfl, rfl⟩)
    go_ret
    exact ⟨rfl, Below.refl _ _⟩
  · have hm : Pl.members s = Pl.memTo s 5 := by simp [Pl.members, hg]
    have c := imembers_any s w hs
    rw [hm] at c
    have hf := Pl.fmtTo_map s 5
    have hl := Pl.memTo_le s 5
    have hmem := Pl.memTo_mem s 5
    clear hm
    obtain ⟨zs, hz⟩ : ∃ zs, zs = Pl.memTo s 5 := ⟨_, rfl⟩
    rw [← hz] at c hf hl hmem
    clear hz
    have HF := Lib.hid hf
    have HM := Lib.hid hmem
    clear hf hmem
    have kb := one_byte (P := Try.prog) 38 5 9 Try.underlying38 Try.underlying5 Try.underlying9
    obtain ⟨n, hn⟩ : ∃ n, n = zs.length := ⟨_, rfl⟩
    rw [← hn] at hl
    unfold OwnsInts at c
    rw [← hn] at c
    have HN := Lib.hid hn
    clear hn
    go_enter Try.func42, Try.ntmps42
    go_wp2_with (go_at_call 55; refine (within_any _ _ _ _).mono ?_; rintro e w' ⟨rfl, rfl⟩)
    refine c.mono ?_
    rintro e w1 ⟨v, rfl, own, hb1⟩
    obtain ⟨A, cap, rfl⟩ := own_form own
    have hr := Rd.of_own own
    clear own
    go_wp2_with fail
    go_loopw [3, 12] (fun o u wr => ∃ i : Nat, i ≤ n ∧ u = .int .i64 i ∧ o = .string ⟨(Pl.lets zs i).toArray⟩ ∧ Below w1.heap.size w1 wr) (fun _ u _ => n - (intOf u).toNat)
    case atStart => exact ⟨0, Nat.zero_le _, rfl, rfl, Below.refl _ _⟩
    case round =>
      obtain ⟨i, hi, rfl, rfl, hb⟩ := hrel
      by_cases hlt : i < n
      · obtain ⟨b, off, rfl, hbb, hc⟩ := hr.2 (by omega)
        have hlz : i < zs.length := HN.out ▸ hlt
        have x1 := (hb.cell (p := ⟨b, off + i, none⟩) hbb).trans (hc i (.int .i64 zs[i]) (by simp))
        obtain ⟨k0, k1⟩ := HM.out _ (List.getElem_mem hlz)
        have hsn := Pl.letters_snoc zs i hlz
        have hsz := Pl.lets_le zs i
        obtain ⟨k, hk⟩ : ∃ k, k = zs[i] := ⟨_, rfl⟩
        rw [← hk] at x1 k0 k1 hsn
        have HSN := Lib.hid hsn
        clear hk hsn hc hr
        have hkl : UInt8.ofNat (97 + k).toNat = Pl.letter k.toNat := by
          unfold Pl.letter
          congr 1
          omega
        have HKL := Lib.hid hkl
        clear hkl
        go_wp2
        go_roundw
        case rel => exact ⟨i + 1, by omega, by go_num, by rw [HSN.out, HKL.out]; exact congrArg Value.string (Pl.str_append _ _), hb.alloc hb.size _⟩
        case measure => simp [intOf]; omega
      · obtain rfl : i = n := by omega
        have hall := Pl.lets_all zs
        rw [← HN.out, HF.out] at hall
        obtain ⟨l, hl'⟩ : ∃ l, l = Pl.lets zs i := ⟨_, rfl⟩
        rw [← hl'] at hall ⊢
        have HA := Lib.hid hall
        clear hall hl'
        go_wp2
        all_goals
          go_ret
          refine ⟨Pl.ret_string ?_, (hb1.trans (hb.mono hb1.size))⟩
          simp [Pl.fmt, ← HA.out, *]

end Go.Proofs.Ytojfahgnjfnflaa
