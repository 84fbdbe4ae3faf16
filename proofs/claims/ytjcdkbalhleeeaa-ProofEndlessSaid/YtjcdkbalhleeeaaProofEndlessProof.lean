/-
  ProofEndless: for every input the law returns true, and its arguments read as before. Conditions: none.
-/
import Derived.Test.YtjcdkbalhleeeaaProofEndless
import Derived.Test.YtjcdkbalhleeeaaOpen3
import Derived.Test.YtjcdkbalhleeeaaRows
namespace Go.Proofs.Ytjcdkbalhleeeaa
open Go.ChangeShapes Go.WideShapes Go.ChangeAt Go.RowKit

set_option maxRecDepth 100000 in
theorem proofEndless_lifted (os : Os) (started : os.Started) (H : Type) (enc : TypeId × Value → H) :
    ReturnsInHanded {} Try.checked os 10 .any (Rows.proofEndlessSpec.pre6 enc Try.prog Try.f10 Rows.proofEndlessRow.domain false) (Rows.proofEndlessSpec.post enc Try.prog Try.f10 false true false false) := by
  refine returnsInHanded_of_change_sized (C := Try.checked) Try.own started (by kernel_rfl) Try.func10
    (ChangeSpec.witness6 (enc := enc) (C := Try.checked) false ⟨#[], #[.agg #[.slice none 0 0, .slice none 0 0], .agg #[.int .i64 0, .slice none 0 0, .int .i64 0, .slice none 0 0, .int .i64 0, .slice none 0 0, .int .i64 0, .int .i64 0, .int .i64 0], .int .u16 0], []⟩ 8 (by kernel_rfl) (by kernel_rfl) (by kernel_rfl) (by kernel_rfl)) ?_
  intro W base args ds gs before hval0 hW hcnd hsz _
  have hval : ∀ (j : Nat) t v, Try.f10.params[j]? = some t → args[j]? = some v → Value.okWide Try.prog W .any base t v := hval0
  have hW' := hW
  obtain ⟨p, q, hA0, hV, rfl, hfz, hnd⟩ := hW
  have hA : DataW.TrodAll enc Try.prog W 0 (fun _ => true) true Try.f10.params.toList args.toList ds p := hA0
  rw [Try.params10] at hA hval hsz
  obtain ⟨vs⟩ := args
  obtain ⟨v0, r0, d0, e0, p0, q0, h0e, rfl, rfl, h0, k0⟩ := trodAll_cons hA
  simp only at h0e; subst h0e
  obtain ⟨v1, r1, d1, e1, p1, q1, h1e, rfl, rfl, h1, k1⟩ := trodAll_cons k0
  subst h1e
  obtain ⟨v2, r2, d2, e2, p2, q2, h2e, rfl, rfl, h2, k2⟩ := trodAll_cons k1
  subst h2e
  obtain ⟨rfl, rfl, rfl⟩ := trodAll_nil k2
  obtain ⟨rfl, rfl⟩ := trodVars_none hV
  obtain ⟨A0, c0, B0, b0, m0, rfl, g0⟩ := op_prog (hval 0 40 v0 rfl rfl) h0 (sized_at hsz (j := 0) rfl rfl)
  obtain ⟨X1, cX1, Y1, cY1, R1, cR1, a1, rfl, g1⟩ := op_ans (hval 1 57 v1 rfl rfl) h1 (sized_at hsz (j := 1) rfl rfl)
  obtain ⟨z2, rfl, rfl, rfl, w2⟩ := open_int Try.underlying60 (hval 2 60 v2 rfl rfl) h2
  have f2 := w2; simp [Lit.wf, IntKind.min, IntKind.max, IntKind.signed, IntKind.bits] at f2
  refine (proofEndless_walk A0 c0 B0 b0 m0 X1 cX1 Y1 cY1 R1 cR1 a1 z2 W g0 g1 f2).mono fun e W' ⟨he, hg⟩ => ?_
  subst he
  exact law_post hW' rfl rfl (by kernel_rfl) (of_decide_eq_true (by kernel_rfl)) hg

theorem proofEndless_holds : Rows.ProofEndlessSaid :=
  OpenClaim.holds_of_wide 10 Try.f10 rfl rfl rfl rfl rfl rfl rfl ⟨rfl, rfl, rfl, rfl, rfl⟩ rfl rfl rfl rfl rfl (by kernel_rfl) Try.func10 (by kernel_rfl)
    (of_decide_eq_true (by kernel_rfl)) (by unfold Func.isWrapper; first | (rw [if_pos (by decide +kernel)]; kernel_rfl) | (rw [if_neg (by decide +kernel)]; exact ⟨rfl, rfl⟩))
    (fun os started H enc _ => proofEndless_lifted os started H enc)
end Go.Proofs.Ytjcdkbalhleeeaa
