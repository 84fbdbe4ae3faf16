/-
  SweepHolds: for every input the law returns true, and its arguments read as before. Conditions: none.
-/
import Derived.Test.YtjcdkbalhleeeabG27
import Derived.Test.YtjcdkbalhleeeabG12
import Derived.Test.YtjcdkbalhleeeabRows
namespace Go.Proofs.Ytjcdkbalhleeeab
open Go.ChangeShapes Go.WideShapes Go.ChangeAt Go.RowKit

set_option maxRecDepth 100000 in
theorem sweepHolds_lifted (os : Os) (started : os.Started) (H : Type) (enc : TypeId × Value → H) :
    ReturnsInHanded {} Try.checked os 8 .any (Rows.sweepHoldsSpec.pre6 enc Try.prog Try.f8 Rows.sweepHoldsRow.domain false) (Rows.sweepHoldsSpec.post enc Try.prog Try.f8 false true false false) := by
  refine returnsInHanded_of_change_sized (C := Try.checked) Try.own started (by kernel_rfl) Try.func8
    (ChangeSpec.witness6 (enc := enc) (C := Try.checked) false ⟨#[], #[.agg #[.slice none 0 0, .slice none 0 0], .slice none 0 0, .int .i8 0, .int .u8 0], []⟩ 8 (by kernel_rfl) (by kernel_rfl) (by kernel_rfl) (by kernel_rfl)) ?_
  intro W base args ds gs before hval0 hW hcnd hsz _
  have hval : ∀ (j : Nat) t v, Try.f8.params[j]? = some t → args[j]? = some v → Value.okWide Try.prog W .any base t v := hval0
  have hW' := hW
  obtain ⟨p, q, hA0, hV, rfl, hfz, hnd⟩ := hW
  have hA : DataW.TrodAll enc Try.prog W 0 (fun _ => true) true Try.f8.params.toList args.toList ds p := hA0
  rw [Try.params8] at hA hval hsz
  obtain ⟨vs⟩ := args
  obtain ⟨v0, r0, d0, e0, p0, q0, h0e, rfl, rfl, h0, k0⟩ := trodAll_cons hA
  simp only at h0e; subst h0e
  obtain ⟨v1, r1, d1, e1, p1, q1, h1e, rfl, rfl, h1, k1⟩ := trodAll_cons k0
  subst h1e
  obtain ⟨v2, r2, d2, e2, p2, q2, h2e, rfl, rfl, h2, k2⟩ := trodAll_cons k1
  subst h2e
  obtain ⟨v3, r3, d3, e3, p3, q3, h3e, rfl, rfl, h3, k3⟩ := trodAll_cons k2
  subst h3e
  obtain ⟨rfl, rfl, rfl⟩ := trodAll_nil k3
  obtain ⟨rfl, rfl⟩ := trodVars_none hV
  obtain ⟨A0, c0, B0, b0, m0, rfl, g0⟩ := op_prog (hval 0 25 v0 rfl rfl) h0 (sized_at hsz (j := 0) rfl rfl)
  obtain ⟨A1, c1, l1, rfl, g1, f1⟩ := op_ints Try.underlying22 Try.underlying2 cells_int64 bytes_int64 (hval 1 22 v1 rfl rfl) h1 (sized_at hsz (j := 1) rfl rfl)
  obtain ⟨z2, rfl, rfl, rfl, w2⟩ := open_int Try.underlying67 (hval 2 67 v2 rfl rfl) h2
  have f2 := w2; simp [Lit.wf, IntKind.min, IntKind.max, IntKind.signed, IntKind.bits] at f2
  obtain ⟨z3, rfl, rfl, rfl, w3⟩ := open_int Try.underlying5 (hval 3 5 v3 rfl rfl) h3
  have f3 := w3; simp [Lit.wf, IntKind.min, IntKind.max, IntKind.signed, IntKind.bits] at f3
  refine (sweepHolds_walk A0 c0 B0 b0 m0 A1 l1 c1 z2 z3 W g0 g1 f2 f3).mono fun e W' ⟨he, hg⟩ => ?_
  subst he
  exact law_post hW' rfl rfl (by kernel_rfl) (of_decide_eq_true (by kernel_rfl)) hg

theorem sweepHolds_holds : Rows.SweepHoldsSaid :=
  OpenClaim.holds_of_wide 8 Try.f8 rfl rfl rfl rfl rfl rfl rfl ⟨rfl, rfl, rfl, rfl, rfl⟩ rfl rfl rfl rfl rfl (by kernel_rfl) Try.func8 (by kernel_rfl)
    (of_decide_eq_true (by kernel_rfl)) (by unfold Func.isWrapper; first | (rw [if_pos (by decide +kernel)]; kernel_rfl) | (rw [if_neg (by decide +kernel)]; exact ⟨rfl, rfl⟩))
    (fun os started H enc _ => sweepHolds_lifted os started H enc)
end Go.Proofs.Ytjcdkbalhleeeab
