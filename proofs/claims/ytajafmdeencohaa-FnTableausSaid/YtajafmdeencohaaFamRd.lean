/-
  A drawn LP: what can be read of it; it is valid.
-/
import Derived.Test.YtajafmdeencohaaDrawLp
namespace Go.Proofs.Ytajafmdeencohaa
open Go.RowKit

section
variable {w : World} {lo m n ca cb cc : Nat} {A0 B0 C0 : Option Addr} {RA : Nat → Option Addr} {RC : Nat → Nat} {RV : Nat → Nat → Int} {BV : Nat → Int} {CV : Fr}
theorem FamLP.rds (h : FamLP w lo (.slice A0 m ca) (.slice B0 m cb) (.slice C0 n cc) m m m n (fun i => .slice (RA i) n (RC i)) (fun _ => n) RV BV CV) :
    RdI w w.heap.size A0 m RA (fun _ => n) RC RV ∧ Rd w w.heap.size 1 B0 m (cellsI BV m) ∧ RdP w w.heap.size C0 n CV := by
  refine ⟨⟨fun hm => ?_, fun j hj => Rd.of_own (h.ownR hj)⟩, Rd.of_own h.ownB, RdP.of_own h.ownC⟩
  obtain ⟨b, rfl⟩ := own_addr h.ownA hm
  refine ⟨b, 0, rfl, (h.ownA.lt b rfl).2, fun j hj => ?_⟩
  have h2 := h.ownA.cells (g := b) rfl j (.slice (RA j) n (RC j)) (by simp [hj])
  rwa [Addr.add_lit] at h2
end
theorem Pl.valid_drawn {m n : Nat} {RV : Nat → Nat → Int} {BV : Nat → Int} {CV : Fr} (h1 : m ≤ 3) (h2 : n ≤ 6) (h5 : ∀ i, i < m → ∀ j, j < n → -5000 ≤ RV i j ∧ RV i j ≤ 5000) (h6 : ∀ i, i < m → -5000 ≤ BV i ∧ BV i ≤ 5000) (h7 : Pl.okTo CV n = true) : Pl.validLP n m (fun _ => n) RV m BV CV = true := by
  have hall : ∀ (q : Nat → Bool) (k : Nat), (∀ j, j < k → q j = true) → Pl.allB q k = true := by
    intro q k hk
    induction k with
    | zero => rfl
    | succ k ih => rw [Pl.allB, ih (fun j hj => hk j (by omega)), hk k (Nat.lt_succ_self _)]; rfl
  simp only [Pl.validLP, Bool.and_eq_true, decide_eq_true_eq, beq_self_eq_true]
  refine ⟨⟨⟨⟨⟨by omega, by omega⟩, trivial⟩, hall _ _ (fun j hj => Pl.within_iff.2 (h6 j hj))⟩, h7⟩, hall _ _ (fun i hi => ?_)⟩
  rw [Bool.true_and]
  exact hall _ _ (fun j hj => Pl.within_iff.2 (h5 i hi j hj))
end Go.Proofs.Ytajafmdeencohaa
