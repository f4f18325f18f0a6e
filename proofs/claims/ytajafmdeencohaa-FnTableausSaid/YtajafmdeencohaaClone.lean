/-
  Contracts of slices.Clone on rows of fractions and of integers, of l4Copy and minus.
-/
import Derived.Test.YtajafmdeencohaaTab
import Derived.Test.YtajafmdeencohaaNest
import Derived.Laws.AppendOwnNone
import Derived.WalkLawsBesides
namespace Go.Proofs.Ytajafmdeencohaa
open Go.RowKit
attribute [local go_sem ↓] Go.wp_at_zero Go.wp_at_succ

/-- a slice of the call's own that has no block has no capacity -/
theorem own_none {w : World} {base size n c : Nat} {e : TypeId} {A : Option Addr} {xs : List Value} (h : w.ownsRow base e size (.slice A n c) n xs) : A = none → n = 0 ∧ c = 0 := by
  intro hA
  subst hA
  rcases h.2 with h2 | ⟨g, cap, cur, hv, _⟩
  · injection h2.1 with h3 h4 h5
    exact ⟨h4, h5⟩
  · injection hv with h3
    cases h3
theorem RdP.news {w : World} {B n : Nat} {a : Addr} {V : Fr} (h : RdP w B (some a) n V) : ∀ j u, (cellsV V n)[j]? = some u → w.cell? (a.add j) = some u := by
  intro j u hu
  have hj : j < n * 2 := by
    rcases Nat.lt_or_ge j (n * 2) with h1 | h1
    · exact h1
    · rw [List.getElem?_eq_none (by rw [cellsV_length]; exact h1)] at hu
      cases hu
  obtain ⟨b, off, e, _, hc⟩ := h (by omega)
  injection e with e
  subst e
  rw [cellsV_at _ hj] at hu
  injection hu with hu
  subst hu
  rw [Addr.add_lit]
  have hc1 := hc (j / 2) (by omega)
  rcases Nat.mod_two_eq_zero_or_one j with h2 | h2
  · have e1 : j / 2 * 2 = j := by omega
    rw [e1] at hc1
    rw [hc1.1, cellV, h2]
    rfl
  · have e1 : j / 2 * 2 + 1 = j := by omega
    have h3 := hc1.2
    rw [Nat.add_assoc, e1] at h3
    rw [h3, cellV, h2]
    rfl
theorem Rd.news {w : World} {B n : Nat} {a : Addr} {V : Nat → Int} (h : Rd w B 1 (some a) n (cellsI V n)) : ∀ j u, (cellsI V n)[j]? = some u → w.cell? (a.add j) = some u := by
  intro j u hu
  have hj : j < n := by
    rcases Nat.lt_or_ge j n with h1 | h1
    · exact h1
    · rw [List.getElem?_eq_none (by simp [cellsI, listI]; omega)] at hu
      cases hu
  obtain ⟨b, off, e, _, hc⟩ := h.2 (by omega)
  injection e with e
  subst e
  rw [Addr.add_lit]
  exact hc j u hu
theorem cellsV_one (V : Fr) (n : Nat) : ∀ u ∈ cellsV V n, u.oneCell' = true := by
  intro u hu
  simp only [cellsV, List.mem_map] at hu
  obtain ⟨i, _, rfl⟩ := hu
  rfl
theorem cellsI_one (V : Nat → Int) (n : Nat) : ∀ u ∈ cellsI V n, u.oneCell' = true := by
  intro u hu
  simp only [cellsI, List.mem_map] at hu
  obtain ⟨i, _, rfl⟩ := hu
  rfl
/-- a row of fractions of the call's own -/
def OwnsV (V : Fr) (n : Nat) (w : World) (e : Ending) (w' : World) : Prop := ∃ v, e = .returned v ∧ w'.ownsRow w.heap.size 66 2 v n (cellsV V n) ∧ Below w.heap.size w w'
def OwnsI (V : Nat → Int) (n : Nat) (w : World) (e : Ending) (w' : World) : Prop := ∃ v, e = .returned v ∧ w'.ownsRow w.heap.size 3 1 v n (cellsI V n) ∧ Below w.heap.size w w'

theorem clone_any (A : Option Addr) (n c B : Nat) (V : Fr) (w : World) (h1 : RdP w B A n V) (hB : B ≤ w.heap.size) (hn : n ≤ 1048576) (hA : A = none → n = 0 ∧ c = 0) :
    Calls Try.prog 66 #[.slice A n c] w (OwnsV V n w) := by
  obtain ⟨iR, hi, hz, hsz, hby⟩ := info_parts infoRat
  rcases A with _ | a
  · obtain ⟨rfl, rfl⟩ := hA rfl
    clear h1 hA hi hz hsz hby
    have heq : ∀ w', (binOp .eql 36 (.slice none 0 0) (.slice none 0 0)).run Try.prog w' = .ok (.bool true) w' := fun w' => Lib.run_eql_slice_nil w' _ _ none 0 0 0 0 Try.underlying36
    go_enter Try.func66, Try.ntmps66
    go_wp2
    go_ret
    exact ⟨_, rfl, World.ownsRow_nil _ _ _ _, Below.refl _ _⟩
  · have HN := Lib.hid (RdP.news (h1.below ((Below.refl w.heap.size w).alloc (Nat.le_refl _) (.cells #[] 66)) hB))
    have HO := Lib.hid (World.ownsRow_made w #[] 0 (base := w.heap.size) (Nat.le_refl _) (by decide) rfl (e := 66) (size := 2))
    clear h1 hA
    have heq : ∀ w', (binOp .eql 36 (.slice (some a) n c) (.slice none 0 0)).run Try.prog w' = .ok (.bool false) w' := fun w' => Lib.run_eql_slice_nil w' _ _ (some a) n c 0 0 Try.underlying36
    go_enter Try.func66, Try.ntmps66
    go_wp2_with (at_builtin; refine wpList_append_own _ rfl _ _ 36 rfl w.heap.size 66 iR (.agg #[.int .i64 0, .int .i64 0]) 2 16 Try.underlying36 hi hz hsz hby (by decide) (by decide) _ 0 [] rfl HO.out a n c (cellsV V n) rfl (cellsV_length _ _) HN.out (cellsV_one _ _) (by simp only [maxLen]; omega) (by omega) (by simp) ?_)
    intro v' w' hown hg _
    have HB := Lib.hid (((Below.refl w.heap.size w).alloc (Nat.le_refl _) (.cells #[] 66)).grown hg (by simp) (fun k hk => (HO.out.lt k hk).1))
    (try rw [Nat.zero_add] at hown); (try rw [List.nil_append] at hown)
    have HW := Lib.hid hown
    clear hown hg hi hz hsz hby HN HO
    go_wp2
    go_ret
    exact ⟨_, rfl, HW.out, HB.out⟩
theorem copy_any (A : Option Addr) (n c B : Nat) (V : Fr) (w : World) (h1 : RdP w B A n V) (hB : B ≤ w.heap.size) (hn : n ≤ 1048576) (hA : A = none → n = 0 ∧ c = 0) :
    Calls Try.prog 62 #[.slice A n c] w (OwnsV V n w) := by
  obtain ⟨iR, hi, hz, hsz, hby⟩ := info_parts infoRat
  have HO := Lib.hid (World.ownsRow_made w #[] 0 (base := w.heap.size) (Nat.le_refl _) (by decide) rfl (e := 66) (size := 2))
  rcases A with _ | a
  · obtain ⟨rfl, rfl⟩ := hA rfl
    clear h1 hA
    go_enter Try.func62, Try.ntmps62
    go_wp2_with (at_builtin; refine wpList_append_own_none rfl _ _ 36 rfl w.heap.size 66 iR 2 Try.underlying36 hi _ 0 [] rfl HO.out rfl ?_)
    clear hi hz hsz hby
    go_wp2
    go_ret
    exact ⟨_, rfl, HO.out, (Below.refl _ _).alloc (Nat.le_refl _) _⟩
  · have HN := Lib.hid (RdP.news (h1.below ((Below.refl w.heap.size w).alloc (Nat.le_refl _) (.cells #[] 66)) hB))
    clear h1 hA
    go_enter Try.func62, Try.ntmps62
    go_wp2_with (at_builtin; refine wpList_append_own _ rfl _ _ 36 rfl w.heap.size 66 iR (.agg #[.int .i64 0, .int .i64 0]) 2 16 Try.underlying36 hi hz hsz hby (by decide) (by decide) _ 0 [] rfl HO.out a n c (cellsV V n) rfl (cellsV_length _ _) HN.out (cellsV_one _ _) (by simp only [maxLen]; omega) (by omega) (by simp) ?_)
    intro v' w' hown hg _
    have HB := Lib.hid (((Below.refl w.heap.size w).alloc (Nat.le_refl _) (.cells #[] 66)).grown hg (by simp) (fun k hk => (HO.out.lt k hk).1))
    (try rw [Nat.zero_add] at hown); (try rw [List.nil_append] at hown)
    have HW := Lib.hid hown
    clear hown hg hi hz hsz hby HN HO
    go_wp2
    go_ret
    exact ⟨_, rfl, HW.out, HB.out⟩
theorem cloneI_any (A : Option Addr) (n c B : Nat) (V : Nat → Int) (w : World) (h1 : Rd w B 1 A n (cellsI V n)) (hB : B ≤ w.heap.size) (hn : n ≤ 1048576) (hA : A = none → n = 0 ∧ c = 0) :
    Calls Try.prog 106 #[.slice A n c] w (OwnsI V n w) := by
  obtain ⟨iR, hi, hz, hsz, hby⟩ := info_parts infoInt
  rcases A with _ | a
  · obtain ⟨rfl, rfl⟩ := hA rfl
    clear h1 hA hi hz hsz hby
    have heq : ∀ w', (binOp .eql 23 (.slice none 0 0) (.slice none 0 0)).run Try.prog w' = .ok (.bool true) w' := fun w' => Lib.run_eql_slice_nil w' _ _ none 0 0 0 0 Try.underlying23
    go_enter Try.func106, Try.ntmps106
    go_wp2
    go_ret
    exact ⟨_, rfl, World.ownsRow_nil _ _ _ _, Below.refl _ _⟩
  · have HN := Lib.hid (Rd.news (h1.below' ((Below.refl w.heap.size w).alloc (Nat.le_refl _) (.cells #[] 3)) hB))
    have HO := Lib.hid (World.ownsRow_made w #[] 0 (base := w.heap.size) (Nat.le_refl _) (by decide) rfl (e := 3) (size := 1))
    clear h1 hA
    have heq : ∀ w', (binOp .eql 23 (.slice (some a) n c) (.slice none 0 0)).run Try.prog w' = .ok (.bool false) w' := fun w' => Lib.run_eql_slice_nil w' _ _ (some a) n c 0 0 Try.underlying23
    go_enter Try.func106, Try.ntmps106
    go_wp2_with (at_builtin; refine wpList_append_own _ rfl _ _ 23 rfl w.heap.size 3 iR (.int .i64 0) 1 8 Try.underlying23 hi hz hsz hby (by decide) (by decide) _ 0 [] rfl HO.out a n c (cellsI V n) rfl (by simp [cellsI, listI]) HN.out (cellsI_one _ _) (by simp only [maxLen]; omega) (by omega) (by simp) ?_)
    intro v' w' hown hg _
    have HB := Lib.hid (((Below.refl w.heap.size w).alloc (Nat.le_refl _) (.cells #[] 3)).grown hg (by simp) (fun k hk => (HO.out.lt k hk).1))
    (try rw [Nat.zero_add] at hown); (try rw [List.nil_append] at hown)
    have HW := Lib.hid hown
    clear hown hg hi hz hsz hby HN HO
    go_wp2
    go_ret
    exact ⟨_, rfl, HW.out, HB.out⟩
namespace Pl
/-- the number turned round, in 64 bits -/
def ng (x : Int) : Int := IntKind.i64.wrap (-x)
end Pl
theorem minus_any (x y : Int) (w : World) : Calls Try.prog 68 #[.agg #[.int .i64 x, .int .i64 y]] w fun e w' => e = .returned (.agg #[.int .i64 (Pl.ng x), .int .i64 y]) ∧ Below w.heap.size w w' := by
  go_enter Try.func68, Try.ntmps68
  go_wp2
  refine bodyPost_ret (v := .agg #[.int .i64 (Pl.ng x), .int .i64 y]) (by simp [results, Try.results68, go_sem]; exact (show wrap64 (-x) = Pl.ng x from (IntWalk.i64_left _).symm)) rfl ⟨rfl, ?_⟩
  exact ((Below.refl _ _).alloc (Nat.le_refl _) _).alloc (by simp) _
end Go.Proofs.Ytajafmdeencohaa
