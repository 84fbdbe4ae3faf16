/-
  FracTells: for every list of numbers, number and two fractions the law returns true, and its arguments read as before. Conditions: none.
-/
import Derived.Test.YtjcdkbalhleeeaaFracTells
import Derived.Test.YtjcdkbalhleeeaaOpen
import Derived.Test.YtjcdkbalhleeeaaRows
namespace Go.Proofs.Ytjcdkbalhleeeaa
open Go.ChangeShapes Go.WideShapes Go.ChangeAt Go.RowKit

set_option maxRecDepth 100000 in
theorem fracTells_lifted (os : Os) (started : os.Started) (H : Type) (enc : TypeId × Value → H) :
    ReturnsInHanded {} Try.checked os 4 .any (Rows.fracTellsSpec.pre6 enc Try.prog Try.f4 Rows.fracTellsRow.domain false) (Rows.fracTellsSpec.post enc Try.prog Try.f4 false true false false) := by
  refine returnsInHanded_of_change_sized (C := Try.checked) Try.own started (by kernel_rfl) Try.func4
    (ChangeSpec.witness6 (enc := enc) (C := Try.checked) false ⟨#[], #[.slice none 0 0, .int .i64 0, .agg #[.int .i64 0, .int .i64 0], .agg #[.int .i64 0, .int .i64 0]], []⟩ 8 (by kernel_rfl) (by kernel_rfl) (by kernel_rfl) (by kernel_rfl)) ?_
  intro W base args ds gs before hval0 hW hcnd hsz _
  have hval : ∀ (j : Nat) t v, Try.f4.params[j]? = some t → args[j]? = some v → Value.okWide Try.prog W .any base t v := hval0
  have hW' := hW
  obtain ⟨p, q, hA0, hV, rfl, hfz, hnd⟩ := hW
  have hA : DataW.TrodAll enc Try.prog W 0 (fun _ => true) true Try.f4.params.toList args.toList ds p := hA0
  rw [Try.params4] at hA hval hsz
  obtain ⟨v0, v1, v2, v3, d0, d1, d2, d3, p0, p1, p2, p3, rfl, rfl, rfl, h0, h1, h2, h3⟩ := trodAll_four hA
  obtain ⟨rfl, rfl⟩ := trodVars_none hV
  obtain ⟨A, c, l, rfl, hr, _⟩ := op_ints Try.underlying29 Try.underlying2 cells_int64 bytes_int64 (hval 0 29 v0 rfl rfl) h0 (sized_at hsz (j := 0) rfl rfl)
  obtain ⟨x, rfl, rfl, rfl, _⟩ := open_int Try.underlying2 (hval 1 2 v1 rfl rfl) h1
  obtain ⟨n1, e1, rfl⟩ := op_frac (hval 2 23 v2 rfl rfl) h2 (sized_at hsz (j := 2) rfl rfl)
  obtain ⟨n2, e2, rfl⟩ := op_frac (hval 3 23 v3 rfl rfl) h3 (sized_at hsz (j := 3) rfl rfl)
  refine (fracTells_walk A l c x n1 e1 n2 e2 W hr).mono fun e W' ⟨he, hg⟩ => ?_
  subst he
  exact law_post hW' rfl rfl (by kernel_rfl) (of_decide_eq_true (by kernel_rfl)) hg

theorem fracTells_holds : Rows.FracTellsSaid :=
  OpenClaim.holds_of_wide 4 Try.f4 rfl rfl rfl rfl rfl rfl rfl ⟨rfl, rfl, rfl, rfl, rfl⟩ rfl rfl rfl rfl rfl (by kernel_rfl) Try.func4 (by kernel_rfl)
    (of_decide_eq_true (by kernel_rfl)) (by unfold Func.isWrapper; first | (rw [if_pos (by decide +kernel)]; kernel_rfl) | (rw [if_neg (by decide +kernel)]; exact ⟨rfl, rfl⟩))
    (fun os started H enc _ => fracTells_lifted os started H enc)
end Go.Proofs.Ytjcdkbalhleeeaa
