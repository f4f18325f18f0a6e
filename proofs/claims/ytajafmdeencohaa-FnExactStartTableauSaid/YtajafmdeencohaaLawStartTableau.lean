/-
  The statement Rows.FnExactStartTableauSaid: for every input the law FnExactStartTableau returns true, and its arguments read afterwards as before. Condition: none.
-/
import Derived.Test.YtajafmdeencohaaRows
import Derived.Test.YtajafmdeencohaaStartW
import Derived.WalkKit
import Derived.ProofKit
import Derived.OpenShut
import Derived.Lib.SmallJoins
namespace Go.Proofs.Ytajafmdeencohaa.fnExactStartTableau
open Go.ChangeShapes Go.WideShapes Go.ChangeAt Go.RowKit Go.Joins

theorem own : ownKnob Try.prog.godebug = none := by kernel_rfl
theorem laidOut : laidOutB Try.prog = true := by kernel_rfl

set_option maxRecDepth 100000 in
theorem lifted (os : Os) (started : os.Started) (H : Type) (enc : TypeId × Value → H) :
    ReturnsInHanded {} Try.checked os 7 .any (Rows.fnExactStartTableauSpec.pre6 enc Try.prog Try.f7 Rows.fnExactStartTableauRow.domain false) (Rows.fnExactStartTableauSpec.post enc Try.prog Try.f7 false true false false) := by
  refine returnsInHanded_of_change (C := Try.checked) own started (by kernel_rfl) Try.func7
    (ChangeSpec.witness6 (enc := enc) (C := Try.checked) false ⟨#[], #[.agg #[.slice none 0 0, .slice none 0 0, .slice none 0 0]], []⟩ 8 (by kernel_rfl) (by kernel_rfl) (by kernel_rfl) (by kernel_rfl)) ?_
  intro W base args ds gs before hval0 hW _ _
  have hval : ∀ (j : Nat) t v, Try.f7.params[j]? = some t → args[j]? = some v → Value.okWide Try.prog W .any base t v := hval0
  have hW' := hW
  obtain ⟨p, q, hA0, hV, rfl, _, _⟩ := hW
  have hA : DataW.TrodAll enc Try.prog W 0 (fun _ => true) true Try.f7.params.toList args.toList ds p := hA0
  rw [Try.params7] at hA hval
  obtain ⟨v0, vs0, d0, ds0, p0, q0, hargs, rfl, rfl, h0, r0⟩ := trodAll_cons hA
  obtain ⟨rfl, rfl, rfl⟩ := trodAll_nil r0
  obtain rfl : args = #[v0] := by cases args; simp_all
  obtain ⟨rfl, rfl⟩ := trodVars_none hV
  have k0 := h0
  have l0 : ∀ x ∈ p0, x.block < W.heap.size := fun x hx => hW'.lt x (by simp [hx])
  obtain ⟨zp0R, zp0Bs, zp0Cs, zp0rn, zp0rc, zp0bn, zp0bc, zp0cn, zp0cc, zp0RA, zp0RN, zp0RC, zp0RV, zp0BV, zp0CV, rfl, hm0, hra0, hrb0, hrc0⟩ := open_lp (hval 0 49 v0 rfl rfl) h0
  clear hA0 hval0
  simp only [List.append_nil] at hW'
  refine (fnExactStartTableau_walk zp0R zp0Bs zp0Cs zp0rn zp0rc zp0bn zp0bc zp0cn zp0cc zp0RA zp0RN zp0RC zp0RV zp0BV zp0CV hm0 hra0 hrb0 hrc0).mono fun e W' ⟨he, hb⟩ => ?_
  subst he
  have hargs' : DataW.TrodAll enc Try.prog W' 0 (fun b => decide (b < W.heap.size)) true Try.f7.params.toList [.agg #[.slice zp0R zp0rn zp0rc, .slice zp0Bs zp0bn zp0bc, .slice zp0Cs zp0cn zp0cc]] [d0] (p0) := by
    rw [Try.params7]
    have h := (trodAll_cons_mk (Below.trod laidOut (by kernel_rfl) (of_decide_eq_true (by kernel_rfl)) k0 hb l0) trodAll_mk0)
    simpa only [List.append_nil] using h
  exact ⟨_, rfl, _, _, _, [], p0, [], hW', trodAll_cons_mk (shut_bool Try.underlying4 _) trodAll_mk0, hargs', rfl, hb.frame _, fun h => by cases h⟩

theorem over : Rows.fnExactStartTableauRow.holds Try.pinned (OpenSpec.ofChange Rows.fnExactStartTableauSpec) :=
  OpenClaim.holds_of_wide 7 Try.f7 rfl rfl rfl rfl rfl rfl rfl ⟨rfl, rfl, rfl, rfl, rfl⟩ rfl rfl rfl rfl rfl (by kernel_rfl) Try.func7 (by kernel_rfl)
    (of_decide_eq_true (by kernel_rfl)) (by unfold Func.isWrapper; first | (rw [if_pos (by decide +kernel)]; kernel_rfl) | (rw [if_neg (by decide +kernel)]; exact ⟨rfl, rfl⟩))
    (fun os started H enc _ => lifted os started H enc)

theorem proved : Rows.FnExactStartTableauSaid :=
  over
#print axioms proved
end Go.Proofs.Ytajafmdeencohaa.fnExactStartTableau
