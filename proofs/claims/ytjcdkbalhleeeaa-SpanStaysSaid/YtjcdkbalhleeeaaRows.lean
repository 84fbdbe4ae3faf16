/-
  No cell of these rows narrows 'for every input' (looked for: loops, veiled, ifaces, maps, wideKeys, modest, calm, conditions, laid).
  DERIVED. THE GIVEN ROWS OF THIS SEAT. 10 by the template 'for every input the law returns true; each argument reads behind the call as it read before'; 0 by the template 'total and deterministic' (their statements: YtjcdkbalhleeeaaTotals.lean).
  GIVEN WITH THE SEED: the statements are not yours to turn. If you find one false, say at which input.
  Laid BY PROGRAM, IN A SANDBOX (cutbox-rows.mjs): the forced cells as the released guide's own fill.sh prints them over the translation 40737d2e6cd10199… (all of the seat's roots in one cut). By AI agents, Wed Nov 11 2026. No macro, syntax, notation, axiom, sorry.
-/
import Derived.Test.YtjcdkbalhleeeaaChecked
import GoSem.Claim
import GoSem.ClaimJoined
import GoSem.ClaimMapViews
import Derived.JoinedTies
import Derived.KernelRfl
namespace Go.Proofs.Ytjcdkbalhleeeaa
/- THE CELL 'sum', in the pinned program and in every row, IS THE sha256 OF THE DUMP (.gsa) THAT YtjcdkbalhleeeaaProg.lean LOADS. Nothing in Lean hashes anything: it is a label: what it is worth is what the hold of that sum in a sandbox is worth. -/
noncomputable def Try.pinned : Pinned := { name := "ytjcdkbalhleeeaa", sum := "40737d2e6cd10199bf409cb67db87b1ff72ed1c157ad0a952e7f8156e0cfed8d", checked := Try.checked }
namespace Rows
def none {H : Type} : Left H := { results := [], args := [] }

/-- 'cornerwalkkeep.FracMakes': WHATEVER THE INPUT: true; the input reads as it did. -/
def fracMakesSpec : ChangeSpec := { name := "fracMakes", fn := fun _ => fun
  | [d1, d2] => { results := [.lit (.bool true)], args := [d1, d2] }
  | _ => none }
def fracMakesRow : OpenClaim := { program := "ytjcdkbalhleeeaa", sum := "40737d2e6cd10199bf409cb67db87b1ff72ed1c157ad0a952e7f8156e0cfed8d", func := "cornerwalk/cornerwalkkeep.FracMakes", spec := "fracMakes", apart := false }
def FracMakesSaid : Prop := fracMakesRow.holds Try.pinned (OpenSpec.ofChange fracMakesSpec)

/-- ITS FALSE NEIGHBOUR: 'it returns false'. Refute it at one input. -/
def fracMakesWrong : ChangeSpec := { name := "fracMakes", fn := fun _ => fun
  | [d1, d2] => { results := [.lit (.bool false)], args := [d1, d2] }
  | _ => none }
def FracMakesWrongFalsely : Prop := fracMakesRow.holds Try.pinned (OpenSpec.ofChange fracMakesWrong)

/-- 'cornerwalklaw.FracTells': WHATEVER THE INPUT: true; the input reads as it did. -/
def fracTellsSpec : ChangeSpec := { name := "fracTells", fn := fun _ => fun
  | [d1, d2, d3, d4] => { results := [.lit (.bool true)], args := [d1, d2, d3, d4] }
  | _ => none }
def fracTellsRow : OpenClaim := { program := "ytjcdkbalhleeeaa", sum := "40737d2e6cd10199bf409cb67db87b1ff72ed1c157ad0a952e7f8156e0cfed8d", func := "cornerwalk/cornerwalklaw.FracTells", spec := "fracTells", recurses := true, apart := false }
def FracTellsSaid : Prop := fracTellsRow.holds Try.pinned (OpenSpec.ofChange fracTellsSpec)

/-- ITS FALSE NEIGHBOUR: 'it returns false'. Refute it at one input. -/
def fracTellsWrong : ChangeSpec := { name := "fracTells", fn := fun _ => fun
  | [d1, d2, d3, d4] => { results := [.lit (.bool false)], args := [d1, d2, d3, d4] }
  | _ => none }
def FracTellsWrongFalsely : Prop := fracTellsRow.holds Try.pinned (OpenSpec.ofChange fracTellsWrong)

/-- 'cornerwalklaw.FormTells': WHATEVER THE INPUT: true; the input reads as it did. -/
def formTellsSpec : ChangeSpec := { name := "formTells", fn := fun _ => fun
  | [d1, d2] => { results := [.lit (.bool true)], args := [d1, d2] }
  | _ => none }
def formTellsRow : OpenClaim := { program := "ytjcdkbalhleeeaa", sum := "40737d2e6cd10199bf409cb67db87b1ff72ed1c157ad0a952e7f8156e0cfed8d", func := "cornerwalk/cornerwalklaw.FormTells", spec := "formTells", recurses := true, apart := false }
def FormTellsSaid : Prop := formTellsRow.holds Try.pinned (OpenSpec.ofChange formTellsSpec)

/-- ITS FALSE NEIGHBOUR: 'it returns false'. Refute it at one input. -/
def formTellsWrong : ChangeSpec := { name := "formTells", fn := fun _ => fun
  | [d1, d2] => { results := [.lit (.bool false)], args := [d1, d2] }
  | _ => none }
def FormTellsWrongFalsely : Prop := formTellsRow.holds Try.pinned (OpenSpec.ofChange formTellsWrong)

/-- 'cornerwalklaw.CornerTells': WHATEVER THE INPUT: true; the input reads as it did. -/
def cornerTellsSpec : ChangeSpec := { name := "cornerTells", fn := fun _ => fun
  | [d1, d2] => { results := [.lit (.bool true)], args := [d1, d2] }
  | _ => none }
def cornerTellsRow : OpenClaim := { program := "ytjcdkbalhleeeaa", sum := "40737d2e6cd10199bf409cb67db87b1ff72ed1c157ad0a952e7f8156e0cfed8d", func := "cornerwalk/cornerwalklaw.CornerTells", spec := "cornerTells", recurses := true, apart := false }
def CornerTellsSaid : Prop := cornerTellsRow.holds Try.pinned (OpenSpec.ofChange cornerTellsSpec)

/-- ITS FALSE NEIGHBOUR: 'it returns false'. Refute it at one input. -/
def cornerTellsWrong : ChangeSpec := { name := "cornerTells", fn := fun _ => fun
  | [d1, d2] => { results := [.lit (.bool false)], args := [d1, d2] }
  | _ => none }
def CornerTellsWrongFalsely : Prop := cornerTellsRow.holds Try.pinned (OpenSpec.ofChange cornerTellsWrong)

/-- 'cornerwalkkeep.CornerComes': WHATEVER THE INPUT: true; the input reads as it did. -/
def cornerComesSpec : ChangeSpec := { name := "cornerComes", fn := fun _ => fun
  | [d1, d2] => { results := [.lit (.bool true)], args := [d1, d2] }
  | _ => none }
def cornerComesRow : OpenClaim := { program := "ytjcdkbalhleeeaa", sum := "40737d2e6cd10199bf409cb67db87b1ff72ed1c157ad0a952e7f8156e0cfed8d", func := "cornerwalk/cornerwalkkeep.CornerComes", spec := "cornerComes", apart := false }
def CornerComesSaid : Prop := cornerComesRow.holds Try.pinned (OpenSpec.ofChange cornerComesSpec)

/-- ITS FALSE NEIGHBOUR: 'it returns false'. Refute it at one input. -/
def cornerComesWrong : ChangeSpec := { name := "cornerComes", fn := fun _ => fun
  | [d1, d2] => { results := [.lit (.bool false)], args := [d1, d2] }
  | _ => none }
def CornerComesWrongFalsely : Prop := cornerComesRow.holds Try.pinned (OpenSpec.ofChange cornerComesWrong)

/-- 'cornerwalklaw.ProofTells': WHATEVER THE INPUT: true; the input reads as it did. -/
def proofTellsSpec : ChangeSpec := { name := "proofTells", fn := fun _ => fun
  | [d1, d2] => { results := [.lit (.bool true)], args := [d1, d2] }
  | _ => none }
def proofTellsRow : OpenClaim := { program := "ytjcdkbalhleeeaa", sum := "40737d2e6cd10199bf409cb67db87b1ff72ed1c157ad0a952e7f8156e0cfed8d", func := "cornerwalk/cornerwalklaw.ProofTells", spec := "proofTells", recurses := true, apart := false }
def ProofTellsSaid : Prop := proofTellsRow.holds Try.pinned (OpenSpec.ofChange proofTellsSpec)

/-- ITS FALSE NEIGHBOUR: 'it returns false'. Refute it at one input. -/
def proofTellsWrong : ChangeSpec := { name := "proofTells", fn := fun _ => fun
  | [d1, d2] => { results := [.lit (.bool false)], args := [d1, d2] }
  | _ => none }
def ProofTellsWrongFalsely : Prop := proofTellsRow.holds Try.pinned (OpenSpec.ofChange proofTellsWrong)

/-- 'cornerwalklaw.ProofBest': WHATEVER THE INPUT: true; the input reads as it did. -/
def proofBestSpec : ChangeSpec := { name := "proofBest", fn := fun _ => fun
  | [d1, d2, d3] => { results := [.lit (.bool true)], args := [d1, d2, d3] }
  | _ => none }
def proofBestRow : OpenClaim := { program := "ytjcdkbalhleeeaa", sum := "40737d2e6cd10199bf409cb67db87b1ff72ed1c157ad0a952e7f8156e0cfed8d", func := "cornerwalk/cornerwalklaw.ProofBest", spec := "proofBest", recurses := true, apart := false }
def ProofBestSaid : Prop := proofBestRow.holds Try.pinned (OpenSpec.ofChange proofBestSpec)

/-- ITS FALSE NEIGHBOUR: 'it returns false'. Refute it at one input. -/
def proofBestWrong : ChangeSpec := { name := "proofBest", fn := fun _ => fun
  | [d1, d2, d3] => { results := [.lit (.bool false)], args := [d1, d2, d3] }
  | _ => none }
def ProofBestWrongFalsely : Prop := proofBestRow.holds Try.pinned (OpenSpec.ofChange proofBestWrong)

/-- 'cornerwalklaw.ProofEndless': WHATEVER THE INPUT: true; the input reads as it did. -/
def proofEndlessSpec : ChangeSpec := { name := "proofEndless", fn := fun _ => fun
  | [d1, d2, d3] => { results := [.lit (.bool true)], args := [d1, d2, d3] }
  | _ => none }
def proofEndlessRow : OpenClaim := { program := "ytjcdkbalhleeeaa", sum := "40737d2e6cd10199bf409cb67db87b1ff72ed1c157ad0a952e7f8156e0cfed8d", func := "cornerwalk/cornerwalklaw.ProofEndless", spec := "proofEndless", apart := false }
def ProofEndlessSaid : Prop := proofEndlessRow.holds Try.pinned (OpenSpec.ofChange proofEndlessSpec)

/-- ITS FALSE NEIGHBOUR: 'it returns false'. Refute it at one input. -/
def proofEndlessWrong : ChangeSpec := { name := "proofEndless", fn := fun _ => fun
  | [d1, d2, d3] => { results := [.lit (.bool false)], args := [d1, d2, d3] }
  | _ => none }
def ProofEndlessWrongFalsely : Prop := proofEndlessRow.holds Try.pinned (OpenSpec.ofChange proofEndlessWrong)

/-- 'cornerwalkkeep.SpanStays': WHATEVER THE INPUT: true; the input reads as it did. -/
def spanStaysSpec : ChangeSpec := { name := "spanStays", fn := fun _ => fun
  | [d1, d2, d3, d4, d5] => { results := [.lit (.bool true)], args := [d1, d2, d3, d4, d5] }
  | _ => none }
def spanStaysRow : OpenClaim := { program := "ytjcdkbalhleeeaa", sum := "40737d2e6cd10199bf409cb67db87b1ff72ed1c157ad0a952e7f8156e0cfed8d", func := "cornerwalk/cornerwalkkeep.SpanStays", spec := "spanStays", recurses := true, apart := false }
def SpanStaysSaid : Prop := spanStaysRow.holds Try.pinned (OpenSpec.ofChange spanStaysSpec)

/-- ITS FALSE NEIGHBOUR: 'it returns false'. Refute it at one input. -/
def spanStaysWrong : ChangeSpec := { name := "spanStays", fn := fun _ => fun
  | [d1, d2, d3, d4, d5] => { results := [.lit (.bool false)], args := [d1, d2, d3, d4, d5] }
  | _ => none }
def SpanStaysWrongFalsely : Prop := spanStaysRow.holds Try.pinned (OpenSpec.ofChange spanStaysWrong)

/-- 'cornerwalklaw.SpanTells': WHATEVER THE INPUT: true; the input reads as it did. -/
def spanTellsSpec : ChangeSpec := { name := "spanTells", fn := fun _ => fun
  | [d1, d2, d3, d4] => { results := [.lit (.bool true)], args := [d1, d2, d3, d4] }
  | _ => none }
def spanTellsRow : OpenClaim := { program := "ytjcdkbalhleeeaa", sum := "40737d2e6cd10199bf409cb67db87b1ff72ed1c157ad0a952e7f8156e0cfed8d", func := "cornerwalk/cornerwalklaw.SpanTells", spec := "spanTells", recurses := true, apart := false }
def SpanTellsSaid : Prop := spanTellsRow.holds Try.pinned (OpenSpec.ofChange spanTellsSpec)

/-- ITS FALSE NEIGHBOUR: 'it returns false'. Refute it at one input. -/
def spanTellsWrong : ChangeSpec := { name := "spanTells", fn := fun _ => fun
  | [d1, d2, d3, d4] => { results := [.lit (.bool false)], args := [d1, d2, d3, d4] }
  | _ => none }
def SpanTellsWrongFalsely : Prop := spanTellsRow.holds Try.pinned (OpenSpec.ofChange spanTellsWrong)

/- THE SECOND FORM. 'bulk': how many values and letters a reading holds, each counted each time it is reached (what is shared counts as often as it is met; a slice's spare places count too). A statement '..UptoSaid' is the law's where the arguments, and the package variables that the reading takes, are together of bulk at most 1048576: NARROWER than '..Said'. Prove '..Said' where nothing that the law and all that it calls make is longer than what came in: it says more and counts as full. Else prove '..UptoSaid'. A law counts once. -/
mutual
def uptoBulk {H : Type} : DataW H → Nat
  | .lit (.string bytes) => bytes.length + 1
  | .lit _ => 1
  | .nil => 1
  | .ptr d => uptoBulk d + 1
  | .slice elems spare => uptoBulkAll elems + uptoBulkAll spare + 1
  | .agg parts => uptoBulkAll parts + 1
  | .iface _ d => uptoBulk d + 1
  | .map entries => uptoBulkEntries entries + 1
  | .held _ => 1
def uptoBulkAll {H : Type} : List (DataW H) → Nat
  | [] => 0
  | d :: r => uptoBulk d + uptoBulkAll r
def uptoBulkEntries {H : Type} : List (Lit × DataW H) → Nat
  | [] => 0
  | x :: r => uptoBulkEntry x + uptoBulkEntries r
def uptoBulkEntry {H : Type} : Lit × DataW H → Nat
  | (.string bytes, d) => bytes.length + uptoBulk d + 1
  | (_, d) => uptoBulk d + 1
 end
def uptoSmall : (H : Type) → List (DataW H) → Bool := fun _ ds => decide (uptoBulkAll ds ≤ 1048576)
def OpenSpec.upto (s : _root_.Go.ChangeSpec) : _root_.Go.OpenSpec := { _root_.Go.OpenSpec.ofChange s with cond := some uptoSmall }

/-- 'cornerwalkkeep.FracMakes', WHERE WHAT IT READS IS OF BULK AT MOST 1048576: true; the input reads as it did. -/
def fracMakesUptoRow : OpenClaim := { program := "ytjcdkbalhleeeaa", sum := "40737d2e6cd10199bf409cb67db87b1ff72ed1c157ad0a952e7f8156e0cfed8d", func := "cornerwalk/cornerwalkkeep.FracMakes", spec := "fracMakes", apart := false, narrowed := true }
def FracMakesUptoSaid : Prop := fracMakesUptoRow.holds Try.pinned (OpenSpec.upto fracMakesSpec)

/-- 'cornerwalklaw.FracTells', WHERE WHAT IT READS IS OF BULK AT MOST 1048576: true; the input reads as it did. -/
def fracTellsUptoRow : OpenClaim := { program := "ytjcdkbalhleeeaa", sum := "40737d2e6cd10199bf409cb67db87b1ff72ed1c157ad0a952e7f8156e0cfed8d", func := "cornerwalk/cornerwalklaw.FracTells", spec := "fracTells", recurses := true, apart := false, narrowed := true }
def FracTellsUptoSaid : Prop := fracTellsUptoRow.holds Try.pinned (OpenSpec.upto fracTellsSpec)

/-- 'cornerwalklaw.FormTells', WHERE WHAT IT READS IS OF BULK AT MOST 1048576: true; the input reads as it did. -/
def formTellsUptoRow : OpenClaim := { program := "ytjcdkbalhleeeaa", sum := "40737d2e6cd10199bf409cb67db87b1ff72ed1c157ad0a952e7f8156e0cfed8d", func := "cornerwalk/cornerwalklaw.FormTells", spec := "formTells", recurses := true, apart := false, narrowed := true }
def FormTellsUptoSaid : Prop := formTellsUptoRow.holds Try.pinned (OpenSpec.upto formTellsSpec)

/-- 'cornerwalklaw.CornerTells', WHERE WHAT IT READS IS OF BULK AT MOST 1048576: true; the input reads as it did. -/
def cornerTellsUptoRow : OpenClaim := { program := "ytjcdkbalhleeeaa", sum := "40737d2e6cd10199bf409cb67db87b1ff72ed1c157ad0a952e7f8156e0cfed8d", func := "cornerwalk/cornerwalklaw.CornerTells", spec := "cornerTells", recurses := true, apart := false, narrowed := true }
def CornerTellsUptoSaid : Prop := cornerTellsUptoRow.holds Try.pinned (OpenSpec.upto cornerTellsSpec)

/-- 'cornerwalkkeep.CornerComes', WHERE WHAT IT READS IS OF BULK AT MOST 1048576: true; the input reads as it did. -/
def cornerComesUptoRow : OpenClaim := { program := "ytjcdkbalhleeeaa", sum := "40737d2e6cd10199bf409cb67db87b1ff72ed1c157ad0a952e7f8156e0cfed8d", func := "cornerwalk/cornerwalkkeep.CornerComes", spec := "cornerComes", apart := false, narrowed := true }
def CornerComesUptoSaid : Prop := cornerComesUptoRow.holds Try.pinned (OpenSpec.upto cornerComesSpec)

/-- 'cornerwalklaw.ProofTells', WHERE WHAT IT READS IS OF BULK AT MOST 1048576: true; the input reads as it did. -/
def proofTellsUptoRow : OpenClaim := { program := "ytjcdkbalhleeeaa", sum := "40737d2e6cd10199bf409cb67db87b1ff72ed1c157ad0a952e7f8156e0cfed8d", func := "cornerwalk/cornerwalklaw.ProofTells", spec := "proofTells", recurses := true, apart := false, narrowed := true }
def ProofTellsUptoSaid : Prop := proofTellsUptoRow.holds Try.pinned (OpenSpec.upto proofTellsSpec)

/-- 'cornerwalklaw.ProofBest', WHERE WHAT IT READS IS OF BULK AT MOST 1048576: true; the input reads as it did. -/
def proofBestUptoRow : OpenClaim := { program := "ytjcdkbalhleeeaa", sum := "40737d2e6cd10199bf409cb67db87b1ff72ed1c157ad0a952e7f8156e0cfed8d", func := "cornerwalk/cornerwalklaw.ProofBest", spec := "proofBest", recurses := true, apart := false, narrowed := true }
def ProofBestUptoSaid : Prop := proofBestUptoRow.holds Try.pinned (OpenSpec.upto proofBestSpec)

/-- 'cornerwalklaw.ProofEndless', WHERE WHAT IT READS IS OF BULK AT MOST 1048576: true; the input reads as it did. -/
def proofEndlessUptoRow : OpenClaim := { program := "ytjcdkbalhleeeaa", sum := "40737d2e6cd10199bf409cb67db87b1ff72ed1c157ad0a952e7f8156e0cfed8d", func := "cornerwalk/cornerwalklaw.ProofEndless", spec := "proofEndless", apart := false, narrowed := true }
def ProofEndlessUptoSaid : Prop := proofEndlessUptoRow.holds Try.pinned (OpenSpec.upto proofEndlessSpec)

/-- 'cornerwalkkeep.SpanStays', WHERE WHAT IT READS IS OF BULK AT MOST 1048576: true; the input reads as it did. -/
def spanStaysUptoRow : OpenClaim := { program := "ytjcdkbalhleeeaa", sum := "40737d2e6cd10199bf409cb67db87b1ff72ed1c157ad0a952e7f8156e0cfed8d", func := "cornerwalk/cornerwalkkeep.SpanStays", spec := "spanStays", recurses := true, apart := false, narrowed := true }
def SpanStaysUptoSaid : Prop := spanStaysUptoRow.holds Try.pinned (OpenSpec.upto spanStaysSpec)

/-- 'cornerwalklaw.SpanTells', WHERE WHAT IT READS IS OF BULK AT MOST 1048576: true; the input reads as it did. -/
def spanTellsUptoRow : OpenClaim := { program := "ytjcdkbalhleeeaa", sum := "40737d2e6cd10199bf409cb67db87b1ff72ed1c157ad0a952e7f8156e0cfed8d", func := "cornerwalk/cornerwalklaw.SpanTells", spec := "spanTells", recurses := true, apart := false, narrowed := true }
def SpanTellsUptoSaid : Prop := spanTellsUptoRow.holds Try.pinned (OpenSpec.upto spanTellsSpec)

end Rows
end Go.Proofs.Ytjcdkbalhleeeaa
