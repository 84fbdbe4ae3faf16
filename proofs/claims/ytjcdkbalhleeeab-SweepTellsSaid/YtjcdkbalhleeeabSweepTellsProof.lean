/-
  SweepTells: for every input the law returns true, and its arguments read as before. Conditions: none.
-/
import Derived.Test.YtjcdkbalhleeeabG29
import Derived.Test.YtjcdkbalhleeeabG10
import Derived.Test.YtjcdkbalhleeeabRows
namespace Go.Proofs.Ytjcdkbalhleeeab
open Go.ChangeShapes Go.WideShapes Go.ChangeAt Go.RowKit

set_option maxRecDepth 100000 in
theorem sweepTells_lifted (os : Os) (started : os.Started) (H : Type) (enc : TypeId × Value → H) :
    ReturnsInHanded {} Try.checked os 5 .any (Rows.sweepTellsSpec.pre6 enc Try.prog Try.f5 Rows.sweepTellsRow.domain false) (Rows.sweepTellsSpec.post enc Try.prog Try.f5 false true false false) := by
  refine returnsInHanded_of_change_sized (C := Try.checked) Try.own started (by kernel_rfl) Try.func5
    (ChangeSpec.witness6 (enc := enc) (C := Try.checked) false ⟨#[], #[.agg #[.slice none 0 0, .slice none 0 0], .slice none 0 0], []⟩ 8 (by kernel_rfl) (by kernel_rfl) (by kernel_rfl) (by kernel_rfl)) ?_
  intro W base args ds gs before hval0 hW hcnd hsz _
  have hval : ∀ (j : Nat) t v, Try.f5.params[j]? = some t → args[j]? = some v → Value.okWide Try.prog W .any base t v := hval0
  have hW' := hW
  obtain ⟨p, q, hA0, hV, rfl, hfz, hnd⟩ := hW
  have hA : DataW.TrodAll enc Try.prog W 0 (fun _ => true) true Try.f5.params.toList args.toList ds p := hA0
  rw [Try.params5] at hA hval hsz
  obtain ⟨vs⟩ := args
  obtain ⟨v0, r0, d0, e0, p0, q0, h0e, rfl, rfl, h0, k0⟩ := trodAll_cons hA
  simp only at h0e; subst h0e
  obtain ⟨v1, r1, d1, e1, p1, q1, h1e, rfl, rfl, h1, k1⟩ := trodAll_cons k0
  subst h1e
  obtain ⟨rfl, rfl, rfl⟩ := trodAll_nil k1
  obtain ⟨rfl, rfl⟩ := trodVars_none hV
  obtain ⟨A0, c0, B0, b0, m0, rfl, g0⟩ := op_prog (hval 0 25 v0 rfl rfl) h0 (sized_at hsz (j := 0) rfl rfl)
  obtain ⟨A1, c1, l1, rfl, g1, f1⟩ := op_ints Try.underlying22 Try.underlying2 cells_int64 bytes_int64 (hval 1 22 v1 rfl rfl) h1 (sized_at hsz (j := 1) rfl rfl)
  refine (sweepTells_walk A0 c0 B0 b0 m0 A1 l1 c1 W g0 g1).mono fun e W' ⟨he, hg⟩ => ?_
  subst he
  exact law_post hW' rfl rfl (by kernel_rfl) (of_decide_eq_true (by kernel_rfl)) hg

theorem sweepTells_holds : Rows.SweepTellsSaid :=
  OpenClaim.holds_of_wide 5 Try.f5 rfl rfl rfl rfl rfl rfl rfl ⟨rfl, rfl, rfl, rfl, rfl⟩ rfl rfl rfl rfl rfl (by kernel_rfl) Try.func5 (by kernel_rfl)
    (of_decide_eq_true (by kernel_rfl)) (by unfold Func.isWrapper; first | (rw [if_pos (by decide +kernel)]; kernel_rfl) | (rw [if_neg (by decide +kernel)]; exact ⟨rfl, rfl⟩))
    (fun os started H enc _ => sweepTells_lifted os started H enc)
end Go.Proofs.Ytjcdkbalhleeeab
