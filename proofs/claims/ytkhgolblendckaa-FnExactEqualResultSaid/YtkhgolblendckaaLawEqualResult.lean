/-
  The statement Rows.FnExactEqualResultSaid: for every input the law FnExactEqualResult returns true, and its arguments read afterwards as before. Condition: none.
-/
import Derived.Test.YtkhgolblendckaaRows
import Derived.Test.YtkhgolblendckaaEqResW
import Derived.WalkKit
import Derived.ProofKit
import Derived.OpenShut
import Derived.Lib.SmallJoins
namespace Go.Proofs.Ytkhgolblendckaa.fnExactEqualResult
open Go.ChangeShapes Go.WideShapes Go.ChangeAt Go.RowKit Go.Joins

theorem own : ownKnob Try.prog.godebug = none := by kernel_rfl
theorem laidOut : laidOutB Try.prog = true := by kernel_rfl

set_option maxRecDepth 100000 in
theorem lifted (os : Os) (started : os.Started) (H : Type) (enc : TypeId × Value → H) :
    ReturnsInHanded {} Try.checked os 6 .any (Rows.fnExactEqualResultSpec.pre6 enc Try.prog Try.f6 Rows.fnExactEqualResultRow.domain false) (Rows.fnExactEqualResultSpec.post enc Try.prog Try.f6 false true false false) := by
  refine returnsInHanded_of_change (C := Try.checked) own started (by kernel_rfl) Try.func6
    (ChangeSpec.witness6 (enc := enc) (C := Try.checked) false ⟨#[], #[.agg #[.int .i64 0, .slice none 0 0, .slice none 0 0, .slice none 0 0, .int .i64 0, .int .i64 0, .int .i64 0], .agg #[.int .i64 0, .slice none 0 0, .slice none 0 0, .slice none 0 0, .int .i64 0, .int .i64 0, .int .i64 0]], []⟩ 8 (by kernel_rfl) (by kernel_rfl) (by kernel_rfl) (by kernel_rfl)) ?_
  intro W base args ds gs before hval0 hW _ _
  have hval : ∀ (j : Nat) t v, Try.f6.params[j]? = some t → args[j]? = some v → Value.okWide Try.prog W .any base t v := hval0
  have hW' := hW
  obtain ⟨p, q, hA0, hV, rfl, _, _⟩ := hW
  have hA : DataW.TrodAll enc Try.prog W 0 (fun _ => true) true Try.f6.params.toList args.toList ds p := hA0
  rw [Try.params6] at hA hval
  obtain ⟨v0, vs0, d0, ds0, p0, q0, hargs, rfl, rfl, h0, r0⟩ := trodAll_cons hA
  obtain ⟨v1, vs1, d1, ds1, p1, q1, rfl, rfl, rfl, h1, r1⟩ := trodAll_cons r0
  obtain ⟨rfl, rfl, rfl⟩ := trodAll_nil r1
  obtain rfl : args = #[v0, v1] := by cases args; simp_all
  obtain ⟨rfl, rfl⟩ := trodVars_none hV
  have k0 := h0
  have l0 : ∀ x ∈ p0, x.block < W.heap.size := fun x hx => hW'.lt x (by simp [hx])
  obtain ⟨zp0st, zp0vn, zp0vd, zp0pv, zp0x1, zp0x2, zp0x3, zp0n1, zp0n2, zp0n3, zp0c1, zp0c2, zp0c3, zp0V1, zp0V2, zp0V3, rfl, hm0, hra0, hrb0, hrc0⟩ := open_lpr (hval 0 41 v0 rfl rfl) h0
  have k1 := h1
  have l1 : ∀ x ∈ p1, x.block < W.heap.size := fun x hx => hW'.lt x (by simp [hx])
  obtain ⟨zp1st, zp1vn, zp1vd, zp1pv, zp1x1, zp1x2, zp1x3, zp1n1, zp1n2, zp1n3, zp1c1, zp1c2, zp1c3, zp1V1, zp1V2, zp1V3, rfl, hm1, hra1, hrb1, hrc1⟩ := open_lpr (hval 1 41 v1 rfl rfl) h1
  clear hA0 hval0
  simp only [List.append_nil] at hW'
  refine (fnExactEqualResult_walk zp0st zp0vn zp0vd zp0pv zp0x1 zp0x2 zp0x3 zp0n1 zp0n2 zp0n3 zp0c1 zp0c2 zp0c3 zp0V1 zp0V2 zp0V3 hm0 hra0 hrb0 hrc0 zp1st zp1vn zp1vd zp1pv zp1x1 zp1x2 zp1x3 zp1n1 zp1n2 zp1n3 zp1c1 zp1c2 zp1c3 zp1V1 zp1V2 zp1V3 hm1 hra1 hrb1 hrc1).mono fun e W' ⟨he, hb⟩ => ?_
  subst he
  have hargs' : DataW.TrodAll enc Try.prog W' 0 (fun b => decide (b < W.heap.size)) true Try.f6.params.toList [.agg #[.int .i64 zp0st, .slice zp0x1 zp0n1 zp0c1, .slice zp0x2 zp0n2 zp0c2, .slice zp0x3 zp0n3 zp0c3, .int .i64 zp0vn, .int .i64 zp0vd, .int .i64 zp0pv], .agg #[.int .i64 zp1st, .slice zp1x1 zp1n1 zp1c1, .slice zp1x2 zp1n2 zp1c2, .slice zp1x3 zp1n3 zp1c3, .int .i64 zp1vn, .int .i64 zp1vd, .int .i64 zp1pv]] [d0, d1] (p0 ++ p1) := by
    rw [Try.params6]
    have h := (trodAll_cons_mk (Below.trod laidOut (by kernel_rfl) (of_decide_eq_true (by kernel_rfl)) k0 hb l0) (trodAll_cons_mk (Below.trod laidOut (by kernel_rfl) (of_decide_eq_true (by kernel_rfl)) k1 hb l1) trodAll_mk0))
    simpa only [List.append_nil] using h
  exact ⟨_, rfl, _, _, _, [], p0 ++ p1, [], hW', trodAll_cons_mk (shut_bool Try.underlying4 _) trodAll_mk0, hargs', rfl, hb.frame _, fun h => by cases h⟩

theorem over : Rows.fnExactEqualResultRow.holds Try.pinned (OpenSpec.ofChange Rows.fnExactEqualResultSpec) :=
  OpenClaim.holds_of_wide 6 Try.f6 rfl rfl rfl rfl rfl rfl rfl ⟨rfl, rfl, rfl, rfl, rfl⟩ rfl rfl rfl rfl rfl (by kernel_rfl) Try.func6 (by kernel_rfl)
    (of_decide_eq_true (by kernel_rfl)) (by unfold Func.isWrapper; first | (rw [if_pos (by decide +kernel)]; kernel_rfl) | (rw [if_neg (by decide +kernel)]; exact ⟨rfl, rfl⟩))
    (fun os started H enc _ => lifted os started H enc)

theorem proved : Rows.FnExactEqualResultSaid :=
  over
#print axioms proved
end Go.Proofs.Ytkhgolblendckaa.fnExactEqualResult
