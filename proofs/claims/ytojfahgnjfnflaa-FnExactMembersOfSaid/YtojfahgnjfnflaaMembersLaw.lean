/-
  The law FnExactMembersOf walked: it returns true.
-/
import Derived.Test.YtojfahgnjfnflaaMembersS
import Derived.Test.YtojfahgnjfnflaaIntS
namespace Go.Proofs.Ytojfahgnjfnflaa
open Go.RowKit

theorem fnExactMembersOf_walk (s : Int) (ws : (Lit.int .i64 s).wf = true) (w : World) :
    Calls Try.prog 3 #[.int .i64 s] w fun e w' => e = .returned (.bool true) ∧ Below w.heap.size w w' := by
  have hs := (Pl.bounds ws).2
  clear ws
  have hn : (Pl.members s).length ≤ 1099511627776 := by
    unfold Pl.members
    split
    · have := Pl.memTo_le s 5
      omega
    · simp
  obtain ⟨zs, hz⟩ : ∃ zs, zs = Pl.members s := ⟨_, rfl⟩
  have i1 := fun W => imembers_any s W hs
  have s1 := smembers_any s w hs
  rw [← hz] at hn i1 s1
  clear hz
  have I := Lib.hid i1
  clear i1
  go_enter Try.func3, Try.ntmps3
  go_wp2_with fail
  refine s1.mono ?_
  rintro e w1 ⟨v0, rfl, own0, hb1⟩
  obtain ⟨A0, c0, rfl⟩ := own_form own0
  go_wp2_with fail
  refine (I.out _).mono ?_
  rintro e w2 ⟨v1, rfl, own1, hb2⟩
  obtain ⟨A1, c1, rfl⟩ := own_form own1
  have r0 := ((Rd.of_own own0).below hb2)
  go_wp2_with fail
  refine (eqIntS_same A1 A0 c1 c0 w2.heap.size zs w2 (Rd.of_own own1) (r0.more hb2.size) (Nat.le_refl _) hn).mono ?_
  rintro e w3 ⟨rfl, hb3⟩
  have own1 := own_below own1 hb3
  have r0 := r0.keep (w' := w3) fun p hp => hb3.cell (Nat.lt_of_lt_of_le hp hb2.size)
  go_wp2_with fail
  refine (markIntS_own A1 zs.length c1 _ 1 _ w3 own1 hn (by omega) (by omega)).mono ?_
  rintro e w4 ⟨rfl, own1, hg4⟩
  have hz3 : w1.heap.size ≤ w3.heap.size := Nat.le_trans hb2.size hb3.size
  have r0 := rd_grown r0 hg4 hz3 (fun g hg => (own1.lt g hg).1)
  go_wp2_with fail
  refine (heldIntS_any A1 zs.length c1 _ 1 w4 (Rd.of_own own1) hn (by omega) (by omega)).mono ?_
  rintro e w5 ⟨rfl, rfl⟩
  go_wp2_with fail
  refine (I.out _).mono ?_
  rintro e w6 ⟨v2, rfl, own2, hb6⟩
  obtain ⟨A2, c2, rfl⟩ := own_form own2
  have hz4 : w1.heap.size ≤ w4.heap.size := Nat.le_trans hz3 hg4.size
  have r0 := r0.keep (w' := w6) fun p hp => hb6.cell (Nat.lt_of_lt_of_le hp hz4)
  have own1 := own_below own1 hb6
  go_wp2_with fail
  refine (eqIntS_same A2 A0 c2 c0 w6.heap.size zs w6 (Rd.of_own own2) (r0.more (Nat.le_trans hz4 hb6.size)) (Nat.le_refl _) hn).mono ?_
  rintro e w7 ⟨rfl, hb7⟩
  have own1 := own_below own1 hb7
  go_wp2_with fail
  refine (heldIntS_any A1 zs.length c1 _ 1 w7 (Rd.of_own own1) hn (by omega) (by omega)).mono ?_
  rintro e w8 ⟨rfl, rfl⟩
  go_wp2
  go_ret
  have hq : Below w.heap.size w w3 := (hb1.trans (hb2.mono hb1.size)).trans (hb3.mono (Nat.le_trans hb1.size hb2.size))
  have hq4 := hq.grown hg4 hq.size (fun g hg => Nat.le_trans hb1.size (own1.lt g hg).1)
  exact ⟨rfl, (hq4.trans (hb6.mono hq4.size)).trans (hb7.mono (Nat.le_trans hq4.size hb6.size))⟩

end Go.Proofs.Ytojfahgnjfnflaa
