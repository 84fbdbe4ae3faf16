/-
  SolveHolds: for every input the law returns true, and its arguments read as before. Conditions: none.
-/
import Derived.Test.YtjcdkbalhleeeabSolveHolds
import Derived.Test.YtjcdkbalhleeeabJPost
import Derived.Test.YtjcdkbalhleeeabRows
namespace Go.Proofs.Ytjcdkbalhleeeab
open Go.ChangeShapes Go.WideShapes Go.ChangeAt Go.RowKit

set_option maxRecDepth 100000 in
theorem solveHolds_lifted (os : Os) (started : os.Started) (H : Type) (enc : TypeId × Value → H) :
    ReturnsInHanded {} Try.checked os 6 .any (Rows.solveHoldsSpec.pre6 enc Try.prog Try.f6 Rows.solveHoldsRow.domain false) (Rows.solveHoldsSpec.post enc Try.prog Try.f6 false true false false) := by
  refine returnsInHanded_of_change_sized (C := Try.checked) Try.own started (by kernel_rfl) Try.func6
    (ChangeSpec.witness6 (enc := enc) (C := Try.checked) false ⟨#[], #[.agg #[.slice none 0 0, .slice none 0 0]], []⟩ 8 (by kernel_rfl) (by kernel_rfl) (by kernel_rfl) (by kernel_rfl)) ?_
  intro W base args ds gs before hval0 hW hcnd hsz _
  have hval : ∀ (j : Nat) t v, Try.f6.params[j]? = some t → args[j]? = some v → Value.okWide Try.prog W .any base t v := hval0
  have hW' := hW
  obtain ⟨p, q, hA0, hV, rfl, hfz, hnd⟩ := hW
  have hA : DataW.TrodAll enc Try.prog W 0 (fun _ => true) true Try.f6.params.toList args.toList ds p := hA0
  rw [Try.params6] at hA hval hsz
  obtain ⟨vs⟩ := args
  obtain ⟨v0, r0, d0, e0, p0, q0, h0e, rfl, rfl, h0, k0⟩ := trodAll_cons hA
  simp only at h0e; subst h0e
  obtain ⟨rfl, rfl, rfl⟩ := trodAll_nil k0
  obtain ⟨rfl, rfl⟩ := trodVars_none hV
  obtain ⟨A0, c0, B0, b0, m0, rfl, g0⟩ := op_prog (hval 0 25 v0 rfl rfl) h0 (sized_at hsz (j := 0) rfl rfl)
  refine (solveHolds_walk A0 c0 B0 b0 m0 W g0).mono fun e W' ⟨he, hg⟩ => ?_
  subst he
  exact law_post hW' rfl rfl (by kernel_rfl) (of_decide_eq_true (by kernel_rfl)) hg

theorem solveHolds_holds : Rows.SolveHoldsSaid :=
  OpenClaim.holds_of_wide 6 Try.f6 rfl rfl rfl rfl rfl rfl rfl ⟨rfl, rfl, rfl, rfl, rfl⟩ rfl rfl rfl rfl rfl (by kernel_rfl) Try.func6 (by kernel_rfl)
    (of_decide_eq_true (by kernel_rfl)) (by unfold Func.isWrapper; first | (rw [if_pos (by decide +kernel)]; kernel_rfl) | (rw [if_neg (by decide +kernel)]; exact ⟨rfl, rfl⟩))
    (fun os started H enc _ => solveHolds_lifted os started H enc)
end Go.Proofs.Ytjcdkbalhleeeab
