/-
  Help for the law FnTableaus: what a pivot's column holds, equal tableaus, equal vectors, the row that a column index reads.
-/
import Derived.Test.YtajafmdeencohaaDrawAll
import Derived.Test.YtajafmdeencohaaUnit
import Derived.Test.YtajafmdeencohaaEqTab
import Derived.Test.YtajafmdeencohaaCost
import Derived.Test.YtajafmdeencohaaSol
import Derived.Test.YtajafmdeencohaaBig
namespace Go.Proofs.Ytajafmdeencohaa
open Go.RowKit

namespace Pl
theorem eqI_refl (V : Nat → Int) : ∀ n : Nat, eqI V V n = true
  | 0 => rfl
  | n + 1 => by simp [eqI, eqI_refl V n]
theorem eqTo_self (V : Fr) : ∀ n : Nat, eqTo V V n = true
  | 0 => rfl
  | n + 1 => by simp [eqTo, eqAt, eqTo_self V n]
theorem eqv_self (n : Nat) (V : Fr) : eqv n V n V = true := by rw [eqv_same, eqTo_self]
theorem eqR_refl (N : Nat → Nat) (R : Nat → Fr) : ∀ n : Nat, eqR N R N R n = true
  | 0 => rfl
  | n + 1 => by rw [eqR, eqR_refl N R n, eqv_self]; rfl
theorem eqTab_self (c : Int) (n : Nat) (N : Nat → Nat) (R : Nat → Fr) (m : Nat) (V : Nat → Int) : eqTab c n N R m V c n N R m V = true := by
  rw [eqTab, eqR_refl, eqI_refl, beq_self_eq_true, beq_self_eq_true, beq_self_eq_true]
  rfl
/-- behind a pivot that fits: the row, the column, and what the column holds -/
theorem unit_at {ok : Bool} {cols row col : Int} {rn bn : Nat} {RN : Nat → Nat} {BV : Nat → Int} {RV SV : Nat → Fr} (hok : ok = pivOk cols rn RN bn BV RV row col) (hSV : SV = if ok = true then pivV RV row.toNat col.toNat else RV) (h : ok = true) :
    ∃ r k : Nat, row = (r : Int) ∧ col = (k : Int) ∧ r < rn ∧ (∀ i, i < rn → k < RN i) ∧ ∀ i, i < rn → SV i k = if i = r then (1, 1) else (0, 1) := by
  subst h
  obtain ⟨m, r, k, rfl, rfl, hr, hk, hl, hu⟩ := piv_unit hok.symm
  refine ⟨r, k, rfl, rfl, hr, fun i hi => by rw [hl i hi]; omega, fun i hi => ?_⟩
  rw [hSV, if_pos rfl, Int.toNat_natCast, Int.toNat_natCast]
  exact hu i hi
end Pl
theorem RdB.up {W w : World} {A : Option Addr} {n : Nat} (h : RdB W W.heap.size A n) (hb : Below W.heap.size W w) : RdB w w.heap.size A n := fun hn => by
  obtain ⟨b, off, e, hlt, hc⟩ := h hn
  refine ⟨b, off, e, Nat.lt_of_lt_of_le hlt hb.size, fun j hj => ?_⟩
  obtain ⟨x, x0, x1, hx⟩ := hc j hj
  exact ⟨x, x0, x1, (hb.cell (p := ⟨b, off + j, none⟩) hlt).trans hx⟩
end Go.Proofs.Ytajafmdeencohaa
