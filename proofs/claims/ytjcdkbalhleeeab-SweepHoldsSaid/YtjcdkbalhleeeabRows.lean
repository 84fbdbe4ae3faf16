/-
  No cell of these rows narrows 'for every input' (looked for: loops, veiled, ifaces, maps, wideKeys, modest, calm, conditions, laid).
  DERIVED. THE GIVEN ROWS OF THIS SEAT. 6 by the template 'for every input the law returns true; each argument reads behind the call as it read before'; 0 by the template 'total and deterministic' (their statements: YtjcdkbalhleeeabTotals.lean).
  GIVEN WITH THE SEED: the statements are not yours to turn. If you find one false, say at which input.
  Laid BY PROGRAM, IN A SANDBOX (cutbox-rows.mjs): the forced cells as the released guide's own fill.sh prints them over the translation 2de9d6b304315b66… (all of the seat's roots in one cut). By AI agents, Wed Nov 11 2026. No macro, syntax, notation, axiom, sorry.
-/
import Derived.Test.YtjcdkbalhleeeabChecked
import GoSem.Claim
import GoSem.ClaimJoined
import GoSem.ClaimMapViews
import Derived.JoinedTies
import Derived.KernelRfl
namespace Go.Proofs.Ytjcdkbalhleeeab
/- THE CELL 'sum', in the pinned program and in every row, IS THE sha256 OF THE DUMP (.gsa) THAT YtjcdkbalhleeeabProg.lean LOADS. Nothing in Lean hashes anything: it is a label: what it is worth is what the hold of that sum in a sandbox is worth. -/
noncomputable def Try.pinned : Pinned := { name := "ytjcdkbalhleeeab", sum := "2de9d6b304315b66f018495bbabfef8144796bd72a1b03259a28016623986b9e", checked := Try.checked }
namespace Rows
def none {H : Type} : Left H := { results := [], args := [] }

/-- 'cornerwalklaw.WalkTells': WHATEVER THE INPUT: true; the input reads as it did. -/
def walkTellsSpec : ChangeSpec := { name := "walkTells", fn := fun _ => fun
  | [d1, d2] => { results := [.lit (.bool true)], args := [d1, d2] }
  | _ => none }
def walkTellsRow : OpenClaim := { program := "ytjcdkbalhleeeab", sum := "2de9d6b304315b66f018495bbabfef8144796bd72a1b03259a28016623986b9e", func := "cornerwalk/cornerwalklaw.WalkTells", spec := "walkTells", unfollowed := true, recurses := true, plainKeys := false, apart := false }
def WalkTellsSaid : Prop := walkTellsRow.holds Try.pinned (OpenSpec.ofChange walkTellsSpec)

/-- ITS FALSE NEIGHBOUR: 'it returns false'. Refute it at one input. -/
def walkTellsWrong : ChangeSpec := { name := "walkTells", fn := fun _ => fun
  | [d1, d2] => { results := [.lit (.bool false)], args := [d1, d2] }
  | _ => none }
def WalkTellsWrongFalsely : Prop := walkTellsRow.holds Try.pinned (OpenSpec.ofChange walkTellsWrong)

/-- 'cornerwalkkeep.WalkRises': WHATEVER THE INPUT: true; the input reads as it did. -/
def walkRisesSpec : ChangeSpec := { name := "walkRises", fn := fun _ => fun
  | [d1, d2] => { results := [.lit (.bool true)], args := [d1, d2] }
  | _ => none }
def walkRisesRow : OpenClaim := { program := "ytjcdkbalhleeeab", sum := "2de9d6b304315b66f018495bbabfef8144796bd72a1b03259a28016623986b9e", func := "cornerwalk/cornerwalkkeep.WalkRises", spec := "walkRises", unfollowed := true, recurses := true, plainKeys := false, apart := false }
def WalkRisesSaid : Prop := walkRisesRow.holds Try.pinned (OpenSpec.ofChange walkRisesSpec)

/-- ITS FALSE NEIGHBOUR: 'it returns false'. Refute it at one input. -/
def walkRisesWrong : ChangeSpec := { name := "walkRises", fn := fun _ => fun
  | [d1, d2] => { results := [.lit (.bool false)], args := [d1, d2] }
  | _ => none }
def WalkRisesWrongFalsely : Prop := walkRisesRow.holds Try.pinned (OpenSpec.ofChange walkRisesWrong)

/-- 'cornerwalklaw.SweepTells': WHATEVER THE INPUT: true; the input reads as it did. -/
def sweepTellsSpec : ChangeSpec := { name := "sweepTells", fn := fun _ => fun
  | [d1, d2] => { results := [.lit (.bool true)], args := [d1, d2] }
  | _ => none }
def sweepTellsRow : OpenClaim := { program := "ytjcdkbalhleeeab", sum := "2de9d6b304315b66f018495bbabfef8144796bd72a1b03259a28016623986b9e", func := "cornerwalk/cornerwalklaw.SweepTells", spec := "sweepTells", unfollowed := true, recurses := true, plainKeys := false, apart := false }
def SweepTellsSaid : Prop := sweepTellsRow.holds Try.pinned (OpenSpec.ofChange sweepTellsSpec)

/-- ITS FALSE NEIGHBOUR: 'it returns false'. Refute it at one input. -/
def sweepTellsWrong : ChangeSpec := { name := "sweepTells", fn := fun _ => fun
  | [d1, d2] => { results := [.lit (.bool false)], args := [d1, d2] }
  | _ => none }
def SweepTellsWrongFalsely : Prop := sweepTellsRow.holds Try.pinned (OpenSpec.ofChange sweepTellsWrong)

/-- 'cornerwalklaw.SolveHolds': WHATEVER THE INPUT: true; the input reads as it did. -/
def solveHoldsSpec : ChangeSpec := { name := "solveHolds", fn := fun _ => fun
  | [d] => { results := [.lit (.bool true)], args := [d] }
  | _ => none }
def solveHoldsRow : OpenClaim := { program := "ytjcdkbalhleeeab", sum := "2de9d6b304315b66f018495bbabfef8144796bd72a1b03259a28016623986b9e", func := "cornerwalk/cornerwalklaw.SolveHolds", spec := "solveHolds", unfollowed := true, recurses := true, plainKeys := false, apart := false }
def SolveHoldsSaid : Prop := solveHoldsRow.holds Try.pinned (OpenSpec.ofChange solveHoldsSpec)

/-- ITS FALSE NEIGHBOUR: 'it returns false'. Refute it at one input. -/
def solveHoldsWrong : ChangeSpec := { name := "solveHolds", fn := fun _ => fun
  | [d] => { results := [.lit (.bool false)], args := [d] }
  | _ => none }
def SolveHoldsWrongFalsely : Prop := solveHoldsRow.holds Try.pinned (OpenSpec.ofChange solveHoldsWrong)

/-- 'cornerwalkkeep.SolveBest': WHATEVER THE INPUT: true; the input reads as it did. -/
def solveBestSpec : ChangeSpec := { name := "solveBest", fn := fun _ => fun
  | [d1, d2] => { results := [.lit (.bool true)], args := [d1, d2] }
  | _ => none }
def solveBestRow : OpenClaim := { program := "ytjcdkbalhleeeab", sum := "2de9d6b304315b66f018495bbabfef8144796bd72a1b03259a28016623986b9e", func := "cornerwalk/cornerwalkkeep.SolveBest", spec := "solveBest", unfollowed := true, recurses := true, plainKeys := false, apart := false }
def SolveBestSaid : Prop := solveBestRow.holds Try.pinned (OpenSpec.ofChange solveBestSpec)

/-- ITS FALSE NEIGHBOUR: 'it returns false'. Refute it at one input. -/
def solveBestWrong : ChangeSpec := { name := "solveBest", fn := fun _ => fun
  | [d1, d2] => { results := [.lit (.bool false)], args := [d1, d2] }
  | _ => none }
def SolveBestWrongFalsely : Prop := solveBestRow.holds Try.pinned (OpenSpec.ofChange solveBestWrong)

/-- 'cornerwalkkeep.SweepHolds': WHATEVER THE INPUT: true; the input reads as it did. -/
def sweepHoldsSpec : ChangeSpec := { name := "sweepHolds", fn := fun _ => fun
  | [d1, d2, d3, d4] => { results := [.lit (.bool true)], args := [d1, d2, d3, d4] }
  | _ => none }
def sweepHoldsRow : OpenClaim := { program := "ytjcdkbalhleeeab", sum := "2de9d6b304315b66f018495bbabfef8144796bd72a1b03259a28016623986b9e", func := "cornerwalk/cornerwalkkeep.SweepHolds", spec := "sweepHolds", unfollowed := true, recurses := true, plainKeys := false, apart := false }
def SweepHoldsSaid : Prop := sweepHoldsRow.holds Try.pinned (OpenSpec.ofChange sweepHoldsSpec)

/-- ITS FALSE NEIGHBOUR: 'it returns false'. Refute it at one input. -/
def sweepHoldsWrong : ChangeSpec := { name := "sweepHolds", fn := fun _ => fun
  | [d1, d2, d3, d4] => { results := [.lit (.bool false)], args := [d1, d2, d3, d4] }
  | _ => none }
def SweepHoldsWrongFalsely : Prop := sweepHoldsRow.holds Try.pinned (OpenSpec.ofChange sweepHoldsWrong)

/- THE SECOND FORM. 'bulk': how many values and letters a reading holds, each counted each time it is reached (what is shared counts as often as it is met; a slice's spare places count too). A statement '..UptoSaid' is the law's where the arguments, and the package variables that the reading takes, are together of bulk at most 1048576: NARROWER than '..Said'. Prove '..Said' where nothing that the law and all that it calls make is longer than what came in: it says more and counts as full. Else prove '..UptoSaid'. A law counts once. -/
mutual
def uptoBulk {H : Type} : DataW H → Nat
  | .lit (.string bytes) => bytes.length + 1
  | .lit _ => 1
  | .nil => 1
  | .ptr d => uptoBulk d + 1
  | .slice elems spare => uptoBulkAll elems + uptoBulkAll spare + 1
  | .agg parts => uptoBulkAll parts + 1
  | .iface _ d => uptoBulk d + 1
  | .map entries => uptoBulkEntries entries + 1
  | .held _ => 1
def uptoBulkAll {H : Type} : List (DataW H) → Nat
  | [] => 0
  | d :: r => uptoBulk d + uptoBulkAll r
def uptoBulkEntries {H : Type} : List (Lit × DataW H) → Nat
  | [] => 0
  | x :: r => uptoBulkEntry x + uptoBulkEntries r
def uptoBulkEntry {H : Type} : Lit × DataW H → Nat
  | (.string bytes, d) => bytes.length + uptoBulk d + 1
  | (_, d) => uptoBulk d + 1
 end
def uptoSmall : (H : Type) → List (DataW H) → Bool := fun _ ds => decide (uptoBulkAll ds ≤ 1048576)
def OpenSpec.upto (s : _root_.Go.ChangeSpec) : _root_.Go.OpenSpec := { _root_.Go.OpenSpec.ofChange s with cond := some uptoSmall }

/-- 'cornerwalklaw.WalkTells', WHERE WHAT IT READS IS OF BULK AT MOST 1048576: true; the input reads as it did. -/
def walkTellsUptoRow : OpenClaim := { program := "ytjcdkbalhleeeab", sum := "2de9d6b304315b66f018495bbabfef8144796bd72a1b03259a28016623986b9e", func := "cornerwalk/cornerwalklaw.WalkTells", spec := "walkTells", unfollowed := true, recurses := true, plainKeys := false, apart := false, narrowed := true }
def WalkTellsUptoSaid : Prop := walkTellsUptoRow.holds Try.pinned (OpenSpec.upto walkTellsSpec)

/-- 'cornerwalkkeep.WalkRises', WHERE WHAT IT READS IS OF BULK AT MOST 1048576: true; the input reads as it did. -/
def walkRisesUptoRow : OpenClaim := { program := "ytjcdkbalhleeeab", sum := "2de9d6b304315b66f018495bbabfef8144796bd72a1b03259a28016623986b9e", func := "cornerwalk/cornerwalkkeep.WalkRises", spec := "walkRises", unfollowed := true, recurses := true, plainKeys := false, apart := false, narrowed := true }
def WalkRisesUptoSaid : Prop := walkRisesUptoRow.holds Try.pinned (OpenSpec.upto walkRisesSpec)

/-- 'cornerwalklaw.SweepTells', WHERE WHAT IT READS IS OF BULK AT MOST 1048576: true; the input reads as it did. -/
def sweepTellsUptoRow : OpenClaim := { program := "ytjcdkbalhleeeab", sum := "2de9d6b304315b66f018495bbabfef8144796bd72a1b03259a28016623986b9e", func := "cornerwalk/cornerwalklaw.SweepTells", spec := "sweepTells", unfollowed := true, recurses := true, plainKeys := false, apart := false, narrowed := true }
def SweepTellsUptoSaid : Prop := sweepTellsUptoRow.holds Try.pinned (OpenSpec.upto sweepTellsSpec)

/-- 'cornerwalklaw.SolveHolds', WHERE WHAT IT READS IS OF BULK AT MOST 1048576: true; the input reads as it did. -/
def solveHoldsUptoRow : OpenClaim := { program := "ytjcdkbalhleeeab", sum := "2de9d6b304315b66f018495bbabfef8144796bd72a1b03259a28016623986b9e", func := "cornerwalk/cornerwalklaw.SolveHolds", spec := "solveHolds", unfollowed := true, recurses := true, plainKeys := false, apart := false, narrowed := true }
def SolveHoldsUptoSaid : Prop := solveHoldsUptoRow.holds Try.pinned (OpenSpec.upto solveHoldsSpec)

/-- 'cornerwalkkeep.SolveBest', WHERE WHAT IT READS IS OF BULK AT MOST 1048576: true; the input reads as it did. -/
def solveBestUptoRow : OpenClaim := { program := "ytjcdkbalhleeeab", sum := "2de9d6b304315b66f018495bbabfef8144796bd72a1b03259a28016623986b9e", func := "cornerwalk/cornerwalkkeep.SolveBest", spec := "solveBest", unfollowed := true, recurses := true, plainKeys := false, apart := false, narrowed := true }
def SolveBestUptoSaid : Prop := solveBestUptoRow.holds Try.pinned (OpenSpec.upto solveBestSpec)

/-- 'cornerwalkkeep.SweepHolds', WHERE WHAT IT READS IS OF BULK AT MOST 1048576: true; the input reads as it did. -/
def sweepHoldsUptoRow : OpenClaim := { program := "ytjcdkbalhleeeab", sum := "2de9d6b304315b66f018495bbabfef8144796bd72a1b03259a28016623986b9e", func := "cornerwalk/cornerwalkkeep.SweepHolds", spec := "sweepHolds", unfollowed := true, recurses := true, plainKeys := false, apart := false, narrowed := true }
def SweepHoldsUptoSaid : Prop := sweepHoldsUptoRow.holds Try.pinned (OpenSpec.upto sweepHoldsSpec)

end Rows
end Go.Proofs.Ytjcdkbalhleeeab
