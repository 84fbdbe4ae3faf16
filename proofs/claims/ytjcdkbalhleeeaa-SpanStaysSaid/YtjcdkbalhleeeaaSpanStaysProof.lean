/-
  SpanStays: for every input the law returns true, and its arguments read as before. Conditions: none.
-/
import Derived.Test.YtjcdkbalhleeeaaSpanStays
import Derived.Test.YtjcdkbalhleeeaaOpen3
import Derived.Test.YtjcdkbalhleeeaaRows
namespace Go.Proofs.Ytjcdkbalhleeeaa
open Go.ChangeShapes Go.WideShapes Go.ChangeAt Go.RowKit

set_option maxRecDepth 100000 in
theorem spanStays_lifted (os : Os) (started : os.Started) (H : Type) (enc : TypeId × Value → H) :
    ReturnsInHanded {} Try.checked os 11 .any (Rows.spanStaysSpec.pre6 enc Try.prog Try.f11 Rows.spanStaysRow.domain false) (Rows.spanStaysSpec.post enc Try.prog Try.f11 false true false false) := by
  refine returnsInHanded_of_change_sized (C := Try.checked) Try.own started (by kernel_rfl) Try.func11
    (ChangeSpec.witness6 (enc := enc) (C := Try.checked) false ⟨#[], #[.agg #[.slice none 0 0, .slice none 0 0], .slice none 0 0, .slice none 0 0, .int .i8 0, .int .u8 0], []⟩ 8 (by kernel_rfl) (by kernel_rfl) (by kernel_rfl) (by kernel_rfl)) ?_
  intro W base args ds gs before hval0 hW hcnd hsz _
  have hval : ∀ (j : Nat) t v, Try.f11.params[j]? = some t → args[j]? = some v → Value.okWide Try.prog W .any base t v := hval0
  have hW' := hW
  obtain ⟨p, q, hA0, hV, rfl, hfz, hnd⟩ := hW
  have hA : DataW.TrodAll enc Try.prog W 0 (fun _ => true) true Try.f11.params.toList args.toList ds p := hA0
  rw [Try.params11] at hA hval hsz
  obtain ⟨vs⟩ := args
  obtain ⟨v0, r0, d0, e0, p0, q0, h0e, rfl, rfl, h0, k0⟩ := trodAll_cons hA
  simp only at h0e; subst h0e
  obtain ⟨v1, r1, d1, e1, p1, q1, h1e, rfl, rfl, h1, k1⟩ := trodAll_cons k0
  subst h1e
  obtain ⟨v2, r2, d2, e2, p2, q2, h2e, rfl, rfl, h2, k2⟩ := trodAll_cons k1
  subst h2e
  obtain ⟨v3, r3, d3, e3, p3, q3, h3e, rfl, rfl, h3, k3⟩ := trodAll_cons k2
  subst h3e
  obtain ⟨v4, r4, d4, e4, p4, q4, h4e, rfl, rfl, h4, k4⟩ := trodAll_cons k3
  subst h4e
  obtain ⟨rfl, rfl, rfl⟩ := trodAll_nil k4
  obtain ⟨rfl, rfl⟩ := trodVars_none hV
  obtain ⟨A0, c0, B0, b0, m0, rfl, g0⟩ := op_prog (hval 0 40 v0 rfl rfl) h0 (sized_at hsz (j := 0) rfl rfl)
  obtain ⟨A1, c1, l1, rfl, g1, f1⟩ := op_ints Try.underlying45 Try.underlying3 cells_int bytes_int (hval 1 45 v1 rfl rfl) h1 (sized_at hsz (j := 1) rfl rfl)
  obtain ⟨A2, c2, l2, rfl, g2, f2⟩ := op_ints Try.underlying29 Try.underlying2 cells_int64 bytes_int64 (hval 2 29 v2 rfl rfl) h2 (sized_at hsz (j := 2) rfl rfl)
  obtain ⟨z3, rfl, rfl, rfl, w3⟩ := open_int Try.underlying62 (hval 3 62 v3 rfl rfl) h3
  have f3 := w3; simp [Lit.wf, IntKind.min, IntKind.max, IntKind.signed, IntKind.bits] at f3
  obtain ⟨z4, rfl, rfl, rfl, w4⟩ := open_int Try.underlying5 (hval 4 5 v4 rfl rfl) h4
  have f4 := w4; simp [Lit.wf, IntKind.min, IntKind.max, IntKind.signed, IntKind.bits] at f4
  refine (spanStays_walk A0 c0 B0 b0 m0 A1 l1 c1 A2 l2 c2 z3 z4 W g0 g1 g2 f3 f4).mono fun e W' ⟨he, hg⟩ => ?_
  subst he
  exact law_post hW' rfl rfl (by kernel_rfl) (of_decide_eq_true (by kernel_rfl)) hg

theorem spanStays_holds : Rows.SpanStaysSaid :=
  OpenClaim.holds_of_wide 11 Try.f11 rfl rfl rfl rfl rfl rfl rfl ⟨rfl, rfl, rfl, rfl, rfl⟩ rfl rfl rfl rfl rfl (by kernel_rfl) Try.func11 (by kernel_rfl)
    (of_decide_eq_true (by kernel_rfl)) (by unfold Func.isWrapper; first | (rw [if_pos (by decide +kernel)]; kernel_rfl) | (rw [if_neg (by decide +kernel)]; exact ⟨rfl, rfl⟩))
    (fun os started H enc _ => spanStays_lifted os started H enc)
end Go.Proofs.Ytjcdkbalhleeeaa
