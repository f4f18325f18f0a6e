/-
  A region that draws its order, with ONE store: the condition on the world is asked until that store has come up. Behind it only operations that look at no memory may come (an extract of a second result).
-/
import Derived.Test.YtajafmdeencohaaReg
namespace Go.Proofs.Ytajafmdeencohaa
open Go.RowKit

/-- Whatever order is picked; S holds behind each operation till number L has come up. -/
def AnyM (P : Program) (md : Region.Mode) (ops : Array Oper) (Q : Exit → Act → World → Prop) (S : World → Prop) (L : Nat) : Nat → Array Bool → Act → World → Prop
  | 0, listed, a, w => Region.ready md ops listed = [] ∧ Q .normal a w
  | fuel + 1, listed, a, w =>
    (Region.ready md ops listed = [] → Q .normal a w) ∧
    ∀ i ∈ Region.ready md ops listed, wpOp P ops Q i (fun a' w' => ((listed.setIfInBounds i true).getD L true = true ∨ S w') ∧ AnyM P md ops Q S L fuel (listed.setIfInBounds i true) a' w') a w
section
variable {P : Program} {ops : Array Oper} {Q : Exit → Act → World → Prop} {md : Region.Mode} {S : World → Prop} {L : Nat}
theorem AnyM.any : ∀ {fuel : Nat} {listed : Array Bool} {a : Act} {w : World}, AnyM P md ops Q S L fuel listed a w → wpAny P md ops Q fuel listed a w
  | 0, _, _, _, h => h
  | _ + 1, _, _, _, h => ⟨h.1, fun i hi => wpOp_mono (fun _ _ k => k.2.any) (h.2 i hi)⟩
theorem AnyM.first {i : Nat} {oi oL : Oper} {v : Value} (hi : ops[i]? = some oi) (hL : ops[L]? = some oL) (hLi : (oL.after.any fun e => Region.binds md e && e.on == i) = true) (hiL : i ≠ L)
    (hsel : ∀ (j : Nat) (o : Oper) cs b, ops[j]? = some o → o.op ≠ .select cs b) (hQ : ∀ c a w, Q (.panic c) (a.put oi.dst v) w → Q (.panic c) a w) :
    ∀ (fuel : Nat) (listed : Array Bool) (a : Act) (w : World), listed.getD L true = false →
      (∀ j oj, ops[j]? = some oj → j ≠ i → listed.getD j true = false → (∀ e ∈ oj.after, Region.binds md e = true → e.on ≠ i) → oi.apart ops oj = true) →
      i ∈ Region.ready md ops listed → YieldsIf P ops S oi v a → S w →
      AnyM P md ops Q S L fuel (listed.setIfInBounds i true) (a.put oi.dst v) w → AnyM P md ops Q S L (fuel + 1) listed a w
  | fuel, listed, a, w, hLu, hfree, hr, hy, hS, H => by
    refine ⟨fun h => (by rw [h] at hr; cases hr), fun j hj => ?_⟩
    by_cases hji : j = i
    · subst hji
      exact hy.wpOp hi hS ⟨Or.inr hS, H⟩
    · have hjr := ready_mono hj hji
      match fuel, H with
      | 0, H =>
        rw [H.1] at hjr
        cases hjr
      | fuel + 1, H =>
        obtain ⟨hjun, oj, hoj, hall⟩ := mem_ready.1 hj
        have hun : ∀ e ∈ oj.after, Region.binds md e = true → e.on ≠ i := by
          intro e he hb heq
          have h1 := hall e he hb
          have h0 := (mem_ready.1 hr).1
          rw [heq] at h1
          rcases Nat.lt_or_ge i listed.size with h' | h'
          · simp [h'] at h0 h1
            rw [h0] at h1
            cases h1
          · simp [Array.getElem?_eq_none h'] at h1
        have hjL : j ≠ L := by
          intro e
          subst e
          rw [hL] at hoj
          injection hoj with hoj
          subst hoj
          rw [Array.any_eq_true] at hLi
          obtain ⟨x, hx, hb⟩ := hLi
          simp only [Bool.and_eq_true, beq_iff_eq] at hb
          exact hun _ (Array.getElem_mem hx) hb.1 hb.2
        have hLu2 : (listed.setIfInBounds j true).getD L true = false := by rw [getD_set_ne true hjL]; exact hLu
        have hLu3 : ((listed.setIfInBounds i true).setIfInBounds j true).getD L true = false := by rw [getD_set_ne true hjL, getD_set_ne true hiL]; exact hLu
        have h2 := wpOp_putIf hoj (hfree j oj hoj hji hjun hun) (fun cs b => hsel i oi cs b hi) (fun cs b => hsel j oj cs b hoj) hQ hy (H.2 j hjr)
        refine wpOp_mono (fun a' w' k => ?_) h2
        have hS' : S w' := k.2.1.resolve_left (by rw [hLu3]; exact Bool.false_ne_true)
        refine ⟨Or.inr hS', AnyM.first hi hL hLi hiL hsel hQ fuel (listed.setIfInBounds j true) a' w' hLu2 (fun q oq hq hqi hqu hqn => ?_) (ready_mono hr (Ne.symm hji)) k.1 hS' ?_⟩
        · refine hfree q oq hq hqi ?_ hqn
          by_cases hjq : j = q
          · subst hjq
            exact hjun
          · rwa [getD_set_ne true hjq] at hqu
        · rw [Array.setIfInBounds_comm _ _ hji]
          exact k.2.2
theorem takeM {oL : Oper} (i : Nat) {oi : Oper} {v : Value} {fuel : Nat} {listed : Array Bool} {a : Act} {w : World} (hi : ops.toList[i]? = some oi) (hL : ops.toList[L]? = some oL)
    (hx : (oL.after.any fun e => Region.binds md e && e.on == i) = true) (hiL : (i == L) = false) (hLu : listed.getD L true = false)
    (hs : Region.noSelect ops = true) (hf : Region.free md ops listed i = true) (hr : (Region.ready md ops listed).contains i = true)
    (hQ : ∀ c a w, Q (.panic c) (a.put oi.dst v) w → Q (.panic c) a w) (hw : Region.wanted oi (yielded ops a.tmps) = true) (hy : ∀ w, S w → (execOp a.eval oi).run P w = .ok (.value v) w) (hS : S w)
    (h : AnyM P md ops Q S L fuel (listed.setIfInBounds i true) (a.put oi.dst v) w) : AnyM P md ops Q S L (fuel + 1) listed a w :=
  AnyM.first (by rw [← Array.getElem?_toList]; exact hi) (by rw [← Array.getElem?_toList]; exact hL) hx (by simpa using hiL) (Region.noSelect_spec hs) hQ fuel listed a w hLu (Region.free_spec (by rw [← Array.getElem?_toList]; exact hi) hf) (by simpa using hr) (Or.inl ⟨hw, hy⟩) hS h
/-- the one operation that may come up, ahead of the store -/
theorem nextM (i : Nat) {o : Oper} {fuel : Nat} {listed : Array Bool} {a : Act} {w : World} (hr : Region.ready md ops listed = [i]) (ho : ops.toList[i]? = some o) (hw : Region.wanted o (yielded ops a.tmps) = true)
    (h : ∀ K' : Act → World → Prop, Shut (∀ a w, S w → (S w → AnyM P md ops Q S L fuel (listed.setIfInBounds i true) a w) → K' a w) → Oper.wp P o a w K' Q) : AnyM P md ops Q S L (fuel + 1) listed a w := by
  refine ⟨fun h0 => (by rw [hr] at h0; cases h0), fun j hj => ?_⟩
  rw [hr, List.mem_singleton] at hj
  subst hj
  exact wpOp_step (by rw [← Array.getElem?_toList]; exact ho) (fun K' hK => by rw [if_pos hw]; exact h K' (fun a w hS hW => hK a w ⟨Or.inr hS, hW hS⟩))
/-- an operation behind the store: nothing is asked of the world any more -/
theorem nextM' (i : Nat) {o : Oper} {fuel : Nat} {listed : Array Bool} {a : Act} {w : World} (hr : Region.ready md ops listed = [i]) (ho : ops.toList[i]? = some o) (hw : Region.wanted o (yielded ops a.tmps) = true) (hLu : (listed.setIfInBounds i true).getD L true = true)
    (h : ∀ K' : Act → World → Prop, Shut (∀ a w, AnyM P md ops Q S L fuel (listed.setIfInBounds i true) a w → K' a w) → Oper.wp P o a w K' Q) : AnyM P md ops Q S L (fuel + 1) listed a w := by
  refine ⟨fun h0 => (by rw [hr] at h0; cases h0), fun j hj => ?_⟩
  rw [hr, List.mem_singleton] at hj
  subst hj
  exact wpOp_step (by rw [← Array.getElem?_toList]; exact ho) (fun K' hK => by rw [if_pos hw]; exact h K' (fun a w hW => hK a w ⟨Or.inl hLu, hW⟩))
/-- two may come up: i, ahead of the store, or the store itself -/
theorem twoM (i : Nat) {oi oL : Oper} {fuel : Nat} {listed : Array Bool} {a : Act} {w : World} (hr : Region.ready md ops listed = [i, L]) (hi : ops.toList[i]? = some oi) (hL : ops.toList[L]? = some oL) (hwi : Region.wanted oi (yielded ops a.tmps) = true) (hwL : Region.wanted oL (yielded ops a.tmps) = true) (hLu : (listed.setIfInBounds L true).getD L true = true)
    (h1 : ∀ K' : Act → World → Prop, Shut (∀ a w, S w → (S w → AnyM P md ops Q S L fuel (listed.setIfInBounds i true) a w) → K' a w) → Oper.wp P oi a w K' Q)
    (h2 : ∀ K' : Act → World → Prop, Shut (∀ a w, AnyM P md ops Q S L fuel (listed.setIfInBounds L true) a w → K' a w) → Oper.wp P oL a w K' Q) : AnyM P md ops Q S L (fuel + 1) listed a w := by
  refine ⟨fun h0 => (by rw [hr] at h0; cases h0), fun j hj => ?_⟩
  rw [hr] at hj
  by_cases e : j = i
  · subst e
    exact wpOp_step (by rw [← Array.getElem?_toList]; exact hi) (fun K' hK => by rw [if_pos hwi]; exact h1 K' (fun a w hS hW => hK a w ⟨Or.inr hS, hW hS⟩))
  · have e2 : j = L := by simpa [e] using hj
    subst e2
    exact wpOp_step (by rw [← Array.getElem?_toList]; exact hL) (fun K' hK => by rw [if_pos hwL]; exact h2 K' (fun a w hW => hK a w ⟨Or.inl hLu, hW⟩))
theorem doneM {listed : Array Bool} {a : Act} {w : World} (hr : Region.ready md ops listed = []) (h : Q .normal a w) : ∀ fuel, AnyM P md ops Q S L fuel listed a w
  | 0 => ⟨hr, h⟩
  | _ + 1 => ⟨fun _ => h, by rw [hr]; simp⟩
theorem regionM {id : Nat} {a : Act} {w : World} (L : Nat) (hm : P.follows .mixedOrders = true) (hS : S w.drew)
    (h : S w.drew → AnyM P .any ops Q S L ops.size (Array.replicate ops.size false) a w.drew) : (Code.region id ops true).wp P Q a w := wp_region_any hm (h hS).any
end
end Go.Proofs.Ytajafmdeencohaa
