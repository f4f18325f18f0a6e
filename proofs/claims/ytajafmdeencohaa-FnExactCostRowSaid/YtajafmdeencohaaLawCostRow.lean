/-
  The statement Rows.FnExactCostRowSaid: for every input the law FnExactCostRow returns true, and its arguments read afterwards as before. Condition: none.
-/
import Derived.Test.YtajafmdeencohaaRows
import Derived.Test.YtajafmdeencohaaCostW
import Derived.Test.YtajafmdeencohaaOpenVec
import Derived.WalkKit
import Derived.ProofKit
import Derived.OpenShut
import Derived.Lib.SmallJoins
namespace Go.Proofs.Ytajafmdeencohaa.fnExactCostRow
open Go.ChangeShapes Go.WideShapes Go.ChangeAt Go.RowKit Go.Joins

theorem own : ownKnob Try.prog.godebug = none := by kernel_rfl
theorem laidOut : laidOutB Try.prog = true := by kernel_rfl

set_option maxRecDepth 100000 in
theorem lifted (os : Os) (started : os.Started) (H : Type) (enc : TypeId × Value → H) :
    ReturnsInHanded {} Try.checked os 6 .any (Rows.fnExactCostRowSpec.pre6 enc Try.prog Try.f6 Rows.fnExactCostRowRow.domain false) (Rows.fnExactCostRowSpec.post enc Try.prog Try.f6 false true false false) := by
  refine returnsInHanded_of_change (C := Try.checked) own started (by kernel_rfl) Try.func6
    (ChangeSpec.witness6 (enc := enc) (C := Try.checked) false ⟨#[], #[.agg #[.slice none 0 0, .slice none 0 0, .int .i64 0], .slice none 0 0], []⟩ 8 (by kernel_rfl) (by kernel_rfl) (by kernel_rfl) (by kernel_rfl)) ?_
  intro W base args ds gs before hval0 hW _ _
  have hval : ∀ (j : Nat) t v, Try.f6.params[j]? = some t → args[j]? = some v → Value.okWide Try.prog W .any base t v := hval0
  have hW' := hW
  obtain ⟨p, q, hA0, hV, rfl, _, _⟩ := hW
  have hA : DataW.TrodAll enc Try.prog W 0 (fun _ => true) true Try.f6.params.toList args.toList ds p := hA0
  rw [Try.params6] at hA hval
  obtain ⟨v0, vs0, d0, ds0, p0, q0, hargs, rfl, rfl, h0, r0⟩ := trodAll_cons hA
  obtain ⟨v1, vs1, d1, ds1, p1, q1, rfl, rfl, rfl, h1, r1⟩ := trodAll_cons r0
  obtain ⟨rfl, rfl, rfl⟩ := trodAll_nil r1
  obtain rfl : args = #[v0, v1] := by cases args; simp_all
  obtain ⟨rfl, rfl⟩ := trodVars_none hV
  have k0 := h0
  have l0 : ∀ x ∈ p0, x.block < W.heap.size := fun x hx => hW'.lt x (by simp [hx])
  obtain ⟨zp0R, zp0Bs, zp0rn, zp0rc, zp0bn, zp0bc, zp0cols, zp0RA, zp0RN, zp0RC, zp0RV, zp0BV, rfl, hm0, hra0, hrb0⟩ := open_tab (hval 0 25 v0 rfl rfl) h0
  have k1 := h1
  have l1 : ∀ x ∈ p1, x.block < W.heap.size := fun x hx => hW'.lt x (by simp [hx])
  obtain ⟨A1, n1, c1, V1, rfl, hn1, hr1, hw1⟩ := open_rats (hval 1 33 v1 rfl rfl) h1
  clear hA0 hval0
  simp only [List.append_nil] at hW'
  refine (fnExactCostRow_walk zp0R zp0Bs zp0rn zp0rc zp0bn zp0bc zp0cols zp0RA zp0RN zp0RC zp0RV zp0BV hm0 hra0 hrb0 A1 n1 c1 V1 hn1 hr1 hw1).mono fun e W' ⟨he, hb⟩ => ?_
  subst he
  have hargs' : DataW.TrodAll enc Try.prog W' 0 (fun b => decide (b < W.heap.size)) true Try.f6.params.toList [.agg #[.slice zp0R zp0rn zp0rc, .slice zp0Bs zp0bn zp0bc, .int .i64 zp0cols], .slice A1 n1 c1] [d0, d1] (p0 ++ p1) := by
    rw [Try.params6]
    have h := (trodAll_cons_mk (Below.trod laidOut (by kernel_rfl) (of_decide_eq_true (by kernel_rfl)) k0 hb l0) (trodAll_cons_mk (Below.trod laidOut (by kernel_rfl) (of_decide_eq_true (by kernel_rfl)) k1 hb l1) trodAll_mk0))
    simpa only [List.append_nil] using h
  exact ⟨_, rfl, _, _, _, [], p0 ++ p1, [], hW', trodAll_cons_mk (shut_bool Try.underlying4 _) trodAll_mk0, hargs', rfl, hb.frame _, fun h => by cases h⟩

theorem over : Rows.fnExactCostRowRow.holds Try.pinned (OpenSpec.ofChange Rows.fnExactCostRowSpec) :=
  OpenClaim.holds_of_wide 6 Try.f6 rfl rfl rfl rfl rfl rfl rfl ⟨rfl, rfl, rfl, rfl, rfl⟩ rfl rfl rfl rfl rfl (by kernel_rfl) Try.func6 (by kernel_rfl)
    (of_decide_eq_true (by kernel_rfl)) (by unfold Func.isWrapper; first | (rw [if_pos (by decide +kernel)]; kernel_rfl) | (rw [if_neg (by decide +kernel)]; exact ⟨rfl, rfl⟩))
    (fun os started H enc _ => lifted os started H enc)

theorem proved : Rows.FnExactCostRowSaid :=
  over
#print axioms proved
end Go.Proofs.Ytajafmdeencohaa.fnExactCostRow
