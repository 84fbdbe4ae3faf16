/-
  Contracts of functions and plain laws that later parts of the proof use. The conditions stand in each theorem.
-/
import Derived.Test.YtjcdkbalhleeeaaGreatDoorG06
import Derived.Test.YtjcdkbalhleeeaaGreatDoorG32
import Derived.Test.YtjcdkbalhleeeaaGreatDoorCards
import Derived.Test.YtjcdkbalhleeeaaGreatDoorTie
import Derived.Deep.DeepHandedRow
import Derived.Deep.DeepWitnessRowRef
import Derived.Lib.LaidTab
import Derived.LaidMore
import Derived.OpenShut
import Derived.Stop.LaidErr
namespace Go.Proofs.YtjcdkbalhleeeaaGreatDoor
open Go.RowKit
def laid7 : List (String × DataW Unit) := [("math/bits.deBruijn32tab", Rows.laid_math_bits_deBruijn32tab), ("math/bits.deBruijn64tab", Rows.laid_math_bits_deBruijn64tab), ("internal/strconv.uint64pow10", Rows.laid_internal_strconv_uint64pow10), ("unicode/utf8.acceptRanges", Rows.laid_unicode_utf8_acceptRanges), ("strconv.ErrRange", Rows.laid_strconv_ErrRange), ("strconv.ErrSyntax", Rows.laid_strconv_ErrSyntax), ("unicode/utf8.first", Rows.laid_unicode_utf8_first)]
theorem laid_plain {W : World} (h : laidMetH Tryz.prog laid7 W) : laidMet Tryz.prog laid7 W := by
 rw [MakeChecks.laidMetH_plain _ _ _ (by kernel_rfl)] at h
 exact h
theorem laid_tab {l : List (String × DataW Unit)} (hl : l = laid7) {W : World} (h : laidMetH Tryz.prog l W) : Tab W := by
 subst hl
 exact Lib.tabBelow_of_tabIs (Lib.tabIs_of_head (g := 1) (by kernel_rfl) (by kernel_rfl) Tryz.underlying207 Tryz.underlying178 (by kernel_rfl) (by kernel_rfl) (laid_plain h).tail.tail)
theorem star_err : "*" ++ "errors.errorString" = "*errors.errorString" := by decide
theorem row_err (u : TypeId) (h : Tryz.prog.typeName? 3 u = some "*errors.errorString") : u = 242 :=
 typeName_ptr_named (nm := "errors.errorString") (by rw [star_err]; kernel_rfl) (by kernel_rfl) (by decide) u (by rw [star_err]; exact h)
theorem laid_errs {l : List (String × DataW Unit)} (hl : l = laid7) {W : World} (h : laidMetH Tryz.prog l W) : Errs W := by
 subst hl
 have hp := laid_plain h
 have g1 : Tryz.prog.globalNamed "strconv.ErrRange" = some 5 := by kernel_rfl
 have g2 : Tryz.prog.globalNamed "strconv.ErrSyntax" = some 4 := by kernel_rfl
 obtain ⟨a1, s1, hv1, -, -, -⟩ := laid_sentinel hp.tail.tail.tail.tail g1 (by kernel_rfl) Tryz.underlying107 row_err Tryz.underlying242 Tryz.underlying244 rfl rfl Tryz.underlying9 (by kernel_rfl) (by kernel_rfl)
 obtain ⟨a2, s2, hv2, -, -, -⟩ := laid_sentinel hp.tail.tail.tail.tail.tail g2 (by kernel_rfl) Tryz.underlying107 row_err Tryz.underlying242 Tryz.underlying244 rfl rfl Tryz.underlying9 (by kernel_rfl) (by kernel_rfl)
 have l1 := lc_ (by have := World.var?_cell g1 hv1 0; simpa using this)
 have l2 := lc_ (by have := World.var?_cell g2 hv2 0; simpa using this)
 exact ⟨_, _, _, _, fun w' hb => ⟨var?_below hb g2 l2 hv2, var?_below hb g1 l1 hv1⟩⟩
theorem laid_max {W : World} (h : W.ShapedOpen Tryz.prog) : MaxL W := by
 obtain ⟨m, hm⟩ := Tryz.lays146.s1_3 W h
 exact ⟨m, fun w' hb => (hb.cell (lc_ hm)).trans hm⟩
def litV : DataW Unit → Value
 | .lit (.int k z) => .int k z
 | _ => undef
def aggV : DataW Unit → List Value
 | .agg l => l.map litV
 | _ => []
noncomputable def doorW (os : Os) : World :=
 { World.doorLaid Tryz.prog 72 os with heap := (World.doorLaid Tryz.prog 72 os).heap.modify 2 fun
     | .cells _ t fr => .cells (aggV Rows.laid_unicode_utf8_first).toArray t fr
     | o => o }
end Go.Proofs.YtjcdkbalhleeeaaGreatDoor
