/-
 DriveTells: the law returns true, and its argument reads as before, where what it reads is of bulk at most 1048576; and the card, which ties what the row lists to the program's text. Conditions: those that the card itself bears.
-/
import Derived.Test.YtjcdkbalhleeeaaGreatDoorG45
import Derived.Test.YtjcdkbalhleeeaaGreatDoorG25
import Derived.Test.YtjcdkbalhleeeaaGreatDoorG11
import Derived.Test.YtjcdkbalhleeeaaGreatDoorG36
import Derived.ChangeMaps5
namespace Go.Proofs.YtjcdkbalhleeeaaGreatDoor
open Go.ChangeShapes Go.WideShapes Go.ChangeAt Go.RowKit
theorem driveTells_met (os : Os) (args : Array Value) : laidMetH Tryz.prog Rows.driveTellsUptoRow.laid (((doorW os)).forCall (fun _ _ => 0) ⟨#[], args, []⟩).memory :=
 laidMetH_of_parts3 (fuel := 8) (laidMet_of_run' 8 (by kernel_rfl) (by kernel_rfl)) (by kernel_rfl) (by kernel_rfl)
theorem driveTells_reads (os : Os) {H : Type} (enc : TypeId × Value → H) : ∃ places, DataW.whole enc Tryz.prog ((doorW os).forCall (fun _ _ => 0) ⟨#[], #[.string ByteArray.empty], []⟩).memory Tryz.f3.params.toList Rows.driveTellsSpec.vars false #[(.string ByteArray.empty : Value)].toList 8 = some ([.lit (.string [])], [], places) :=
 ⟨[], by kernel_rfl⟩
set_option maxRecDepth 100000 in
theorem driveTells_lifted (os : Os) (started : os.Started) (H : Type) (enc : TypeId × Value → H) (F : Stop.Interp) :
    ReturnsInHanded {} Tryz.checked os 3 .any ((Rows.OpenSpec.upto Rows.driveTellsSpec).preRow enc Tryz.prog Tryz.f3 Rows.driveTellsUptoRow.domain false Rows.driveTellsUptoRow.laid) (((Rows.OpenSpec.upto Rows.driveTellsSpec).at F).post enc Tryz.prog Tryz.f3 false true false false) := by
 obtain ⟨places, hx⟩ := driveTells_reads os enc
 refine returnsInHanded_of_row (C := Tryz.checked) (s := Rows.OpenSpec.upto Rows.driveTellsSpec) Tryz.own started (by kernel_rfl) Tryz.func3
  (witness_row_atRef (enc := enc) (C := Tryz.checked) false (doorW os) #[.string ByteArray.empty] rfl (by kernel_rfl) (by kernel_rfl) (by kernel_rfl)
   (OpenSpec.preRow_of_cond 8 hx (by kernel_rfl) (fun k hk => by cases hk; kernel_rfl) (by kernel_rfl) (driveTells_met os _))) ?_
 intro W base args ds gs before hval0 hW _ hcond hsz hL hSO _
 have hT := laid_tab (by kernel_rfl) hL
 have hE := laid_errs (by kernel_rfl) hL
 have hM := laid_max hSO
 have hval : ∀ (j : Nat) t v, Tryz.f3.params[j]? = some t → args[j]? = some v → Value.okWide Tryz.prog W .any base t v := hval0
 have hW' := hW
 obtain ⟨p, q, hA0, hV, rfl, hfz, hnd⟩ := hW
 have hA : DataW.TrodAll enc Tryz.prog W 0 (fun _ => true) true Tryz.f3.params.toList args.toList ds p := hA0
 rw [Tryz.params3] at hA hval hsz
 obtain ⟨vs⟩ := args
 obtain ⟨v0, r0, d0, e0, p0, q0, h0e, rfl, rfl, h0, k0⟩ := trodAll_cons hA
 simp only at h0e; subst h0e
 obtain ⟨rfl, rfl, rfl⟩ := trodAll_nil k0
 obtain ⟨rfl, rfl⟩ := trodVars_none hV
 obtain ⟨s0, rfl, rfl, rfl, _⟩ := Go.ChangeMaps.open_string Tryz.underlying9 (hval 0 9 v0 rfl rfl) h0
 have hbk := of_decide_eq_true (hcond _ rfl)
 simp only [Rows.uptoBulkAll, Rows.uptoBulk, List.cons_append, List.nil_append] at hbk
 have hw := driveTells_walk s0.data.toList W (by omega) hT hE hM
 rw [bs_of] at hw
 refine hw.mono fun e W' ⟨he, hg⟩ => ?_
 subst he
 exact law_post hW' rfl rfl (by kernel_rfl) (of_decide_eq_true (by kernel_rfl)) hg
theorem driveTells_said : Rows.DriveTellsUptoSaid :=
 OpenClaim.holds_of_cond 3 Tryz.f3 rfl rfl rfl rfl rfl rfl rfl ⟨rfl, rfl, rfl, rfl, rfl⟩ rfl rfl rfl rfl rfl (by kernel_rfl) Tryz.func3 (by kernel_rfl)
  (of_decide_eq_true (by kernel_rfl)) (by unfold Func.isWrapper; first | (rw [if_pos (by decide +kernel)]; kernel_rfl) | (rw [if_neg (by decide +kernel)]; exact ⟨rfl, rfl⟩))
  (fun os started H enc _ F => by rw [OpenClaim.pre_eq_preRow]; exact driveTells_lifted os started H enc F)
theorem driveTells_plain (f : FuncId) (fn : Func) (hf : Tryz.pinned.checked.prog.funcNamed "cornerwalk/cornerwalkkeep.DriveTells" = some f) (hfn : Tryz.pinned.checked.prog.funcs[f]? = some fn) :
    true = Tryz.pinned.checked.prog.looks [] ∧ ∀ (j : Nat) t, fn.params[j]? = some t → Tryz.pinned.checked.prog.wantsStandIn t = false := by
 obtain rfl : f = 3 := Option.some.inj ((show Tryz.prog.funcNamed "cornerwalk/cornerwalkkeep.DriveTells" = some 3 by kernel_rfl).symm.trans hf) |>.symm
 obtain rfl : fn = Tryz.f3 := (Option.some.inj (Tryz.func3.symm.trans hfn)).symm
 refine ⟨by kernel_rfl, fun j t ht => ?_⟩
 rw [Tryz.params3] at ht
 obtain rfl : t = 9 := by simpa using Array.mem_of_getElem? ht
 exact (show Tryz.prog.wantsStandIn 9 = false by kernel_rfl)
theorem driveTells_card : Rows.DriveTellsUptoCardSaid :=
 Claim7.holds_tied_plain_at .later [] _ _ _ _ driveTells_said (fun _ h => by cases h) (by kernel_rfl) (fun _ h => by cases h) driveTellsUpto_row_tie rfl ⟨rfl, rfl⟩ (by kernel_rfl) rfl driveTells_plain (by kernel_rfl)
end Go.Proofs.YtjcdkbalhleeeaaGreatDoor
