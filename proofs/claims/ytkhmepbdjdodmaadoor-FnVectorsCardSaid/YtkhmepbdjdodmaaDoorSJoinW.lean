/-
  Join of the reference walked.
-/
import Derived.Test.YtkhmepbdjdodmaaDoorSJoin
namespace Go.Proofs.YtkhmepbdjdodmaaDoor
open Go.RowKit

theorem infoByte : (Tryd.prog.info? 5).map (fun i => (i.zero, i.size, i.bytes)) = some (some (.int .u8 0), 1, 1) := by kernel_rfl
theorem byteCells_app (l m : List UInt8) : Lib.byteCells l ++ Lib.byteCells m = Lib.byteCells (l ++ m) := (Lib.byteCells_append l m).symm

theorem own_str {P : Program} {w : World} {base : Nat} {t e ts : TypeId} (ht : P.underlying t = some (.slice e)) (he : P.underlying e = some (.int .u8)) (hs : P.underlying ts = some .string) {v : Value} {l : List UInt8} (h : w.ownsRow base e 1 v l.length (Lib.byteCells l)) :
    (convert t ts v).run P w = .ok (.string ⟨l.toArray⟩) w := by
  rcases h.2 with ⟨rfl, h0⟩ | ⟨g, cap, cur, hv, hb, hh, r⟩
  · rw [run_convert_bytes_nil w t e ht he 0 0 ts hs]
    rw [List.eq_nil_of_length_eq_zero h0]
    rfl
  · subst hv
    rw [run_convert_bytes_arg w t e ht he g 0 l.length cap (l.map fun b => (b.toNat : Int)) (by simp) (fun i hi => by
      have h2 := h.cells (g := g) rfl i (.int .u8 l[i].toNat) (by simp [Lib.byteCells, hi])
      rw [Addr.add_lit] at h2
      rw [h2]
      simp [List.getD, hi]) ts hs]
    rw [strOfNums, List.map_map, show ((fun n : Int => UInt8.ofNat n.toNat) ∘ fun b : UInt8 => (b.toNat : Int)) = id from funext fun b => by simp, List.map_id]

theorem own_app {w' : World} {base : Nat} {e : TypeId} {v : Value} {l : List UInt8} {s : ByteArray} (h : w'.ownsRow base e 1 v (l.length + s.size) (Lib.byteCells l ++ Lib.strCells s)) :
    w'.ownsRow base e 1 v (l ++ s.toList).length (Lib.byteCells (l ++ s.toList)) := by
  rw [List.length_append, Pl.size_toList, ← byteCells_app, ByteArray.toList_eq]
  exact h

set_option maxRecDepth 20000 in
theorem sJoin_any (A : Option Addr) (c B : Nat) (xs : List ByteArray) (sep : ByteArray) (w : World) (hr : Rd w B 1 A xs.length (xs.map Value.string)) (hB : B ≤ w.heap.size) (hn : xs.length ≤ 1048576) (hs : sep.size ≤ 1048576) (hx : ∀ x ∈ xs, x.size ≤ 1048576) :
    Calls Tryd.prog 55 #[.slice A xs.length c, .string sep] w fun e w' => e = .returned (.string ⟨(Lib.join (xs.map ByteArray.toList) sep.toList).toArray⟩) ∧ Below w.heap.size w w' := by
  obtain ⟨iB, hi, hz, hsz, hby⟩ := info_parts infoByte
  have hlen := Pl.joinTo_len xs sep 1048576 hs hx
  have HALL := Lib.hid (Pl.joinTo_all xs sep)
  have HLEN := Lib.hid hlen
  have HX := Lib.hid hx
  clear hlen hx
  go_enter Tryd.func55, Tryd.ntmps55
  go_wp2
  go_loopw [5, 6] (fun o u wr => ∃ j : Nat, j ≤ xs.length ∧ u = .int .i64 j ∧ wr.ownsRow w.heap.size 5 1 o (Pl.joinTo xs sep j).length (Lib.byteCells (Pl.joinTo xs sep j)) ∧ Below w.heap.size w wr) (fun _ u _ => xs.length - (intOf u).toNat)
  case atStart => exact ⟨0, Nat.zero_le _, rfl, World.ownsRow_made w #[] 0 (Nat.le_refl _) (by decide) rfl, (Below.refl _ _).alloc (Nat.le_refl _) _⟩
  case round =>
    obtain ⟨j, hj, rfl, hown, hb⟩ := hrel
    have h1 : (Pl.joinTo xs sep j).length ≤ 2199023255552 := by
      have := HLEN.out j hj
      omega
    by_cases hlt : j < xs.length
    · obtain ⟨b, off, rfl, hbb, hc⟩ := hr.2 (by omega)
      have hxj := HX.out _ (List.getElem_mem hlt)
      have x0 := (hb.cell (p := ⟨b, off + j, none⟩) (by exact Nat.lt_of_lt_of_le hbb hB)).trans (hc j (.string xs[j]) (by simp))
      have hst : Pl.joinTo xs sep (j + 1) = Pl.joinTo xs sep j ++ (if 0 < j then sep.toList else []) ++ xs[j].toList := by
        rw [Pl.joinTo, List.getD, List.getElem?_eq_getElem hlt]
        rfl
      have HST := Lib.hid hst
      clear hst
      obtain ⟨x, hxx⟩ : ∃ x, x = xs[j] := ⟨_, rfl⟩
      rw [← hxx] at x0 hxj HST
      obtain ⟨l, hl⟩ : ∃ l, l = Pl.joinTo xs sep j := ⟨_, rfl⟩
      rw [← hl] at hown h1 HST
      have hbz : b < wr.heap.size := Nat.lt_of_lt_of_le (Nat.lt_of_lt_of_le hbb hB) hb.size
      clear hl hxx hc hr
      by_cases h0 : j = 0
      · subst h0
        rw [Nat.add_zero] at x0
        go_wp2_with (at_builtin; refine Lib.wpList_append_own_string _ rfl _ _ 41 9 rfl w.heap.size 5 iB Tryd.underlying41 Tryd.underlying9 hi hz hsz hby _ _ _ rfl hown _ rfl (by simp only [maxLen]; omega) (by omega) hb.size ?_)
        intro v' w' hown' hg _
        have hb' := hb.grown hg hb.size (fun g h => (hown.lt g h).1)
        have hown' := own_app hown'
        rw [show l ++ x.toList = Pl.joinTo xs sep (0 + 1) by rw [HST.out]; simp] at hown'
        clear hg hown
        go_wp2
        go_roundw
        case rel => exact ⟨0 + 1, by omega, by go_num, hown', hb'⟩
        case measure => simp [intOf]; omega
      · have hd := decide_eq_true (show (0 : Int) < (j : Int) by omega)
        go_wp2_with (at_builtin; refine Lib.wpList_append_own_string _ rfl _ _ 41 9 rfl w.heap.size 5 iB Tryd.underlying41 Tryd.underlying9 hi hz hsz hby _ _ _ rfl hown _ rfl (by simp only [maxLen]; omega) (by omega) hb.size ?_)
        intro v' w' hown' hg _
        have hb2 := hb.grown hg hb.size (fun g h => (hown.lt g h).1)
        have x0 := (World.cell?_of_block (a := ⟨b, off + j, none⟩) (hg.block b hbz (fun e => by have := (hown.lt _ e.symm).1; omega))).trans x0
        have hbz : b < w'.heap.size := Nat.lt_of_lt_of_le hbz hg.size
        have h2 : (l ++ sep.toList).length ≤ 2199024304128 := by rw [List.length_append, Pl.size_toList]; omega
        clear hb hown h1
        have hb := hb2
        have hown := own_app hown'
        clear hg hb2 hown'
        obtain ⟨m, hm⟩ : ∃ m, m = l ++ sep.toList := ⟨_, rfl⟩
        rw [← hm] at hown h2
        have HM := Lib.hid hm
        clear hm
        go_wp2_with (at_builtin; refine Lib.wpList_append_own_string _ rfl _ _ 41 9 rfl w.heap.size 5 iB Tryd.underlying41 Tryd.underlying9 hi hz hsz hby _ _ _ rfl hown _ rfl (by simp only [maxLen]; omega) (by omega) hb.size ?_)
        intro v'' w'' hown' hg _
        have hb' := hb.grown hg hb.size (fun g h => (hown.lt g h).1)
        have hown' := own_app hown'
        rw [show m ++ x.toList = Pl.joinTo xs sep (j + 1) by rw [HST.out, HM.out, if_pos (by omega)]] at hown'
        clear hg hown
        go_wp2
        go_roundw
        case rel => exact ⟨j + 1, by omega, by go_num, hown', hb'⟩
        case measure => simp [intOf]; omega
    · obtain rfl : j = xs.length := by omega
      have kb := own_str (P := Tryd.prog) Tryd.underlying41 Tryd.underlying5 Tryd.underlying9 hown
      rw [HALL.out] at kb
      obtain ⟨R, hR⟩ : ∃ R : ByteArray, R = ⟨(Lib.join (xs.map ByteArray.toList) sep.toList).toArray⟩ := ⟨_, rfl⟩
      rw [← hR] at kb
      have HRR := Lib.hid hR
      clear hown h1 hR
      go_wp2
      go_ret
      exact ⟨by rw [← HRR.out]; rfl, hb⟩

end Go.Proofs.YtkhmepbdjdodmaaDoor
