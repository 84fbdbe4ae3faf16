/-
  Contracts of functions and plain laws that later parts of the proof use. The conditions stand in each theorem.
-/
import Derived.Test.YtjcdkbalhleeeaaGreatDoorG27
import Derived.Laws.IdiomStrings
namespace Go.Proofs.YtjcdkbalhleeeaaGreatDoor
open Go.Proofs Go.RowKit
open Go.Lib (itoa join decDigits)

set_option maxRecDepth 100000 in
theorem text_put (bk o c : Nat) (xs : List (List UInt8)) (b : Nat) (lb : List UInt8) (w : World) (hr : Sd w (some ⟨bk, o, none⟩) c xs) (hn : xs ≠ []) (hB : Bld b lb w) (hlen : lb.length + ((join xs [32]).length + 1) ≤ 140737488355328) (hN : xs.length ≤ 1000) :
    Calls Tryz.prog 40 #[.slice (some ⟨bk, o, none⟩) xs.length c, .pointer (some ⟨b, 0, none⟩)] w fun e w' => e = .returned (.tuple #[]) ∧ Bld b (lb ++ (join xs [32] ++ [10])) w' ∧ Below b w w' := by
  have HJ := Lib.hid (strings_Join bk o c xs [32] w hr hn (by omega) (by omega))
  have HA := Lib.hid (fun W => run_add (join xs [32]) [10] (by simp; omega) W)
  have hb := hB.lt
  have HBW := Lib.hid (fun (W : World) (hW : Below w.heap.size w W) => builder_write b lb (join xs [32] ++ [10]) W (hB.below hW) (by simp; omega))
  have ha : ∀ W, (Op.stringOp .add (bs (join xs [32])) { data := #[10] }).run Tryz.prog W = .ok (.string (bs (join xs [32] ++ [10]))) W := HA.out
  generalize join xs [32] ++ [10] = J10 at *
  generalize join xs [32] = J at *
  go_enter Tryz.func40, Tryz.ntmps40
  go_wp2_with (first
    | (go_at_call 42; refine HJ.out.mono ?_; rintro e w1 ⟨rfl, hb1⟩)
    | (go_at_call 41; refine (HBW.out _ hb1).mono ?_; rintro e w2 ⟨rfl, hb2, hb3⟩))
  go_end0
  exact ⟨rfl, hb2, (hb1.mono (Nat.le_of_lt hb)).trans hb3⟩
end Go.Proofs.YtjcdkbalhleeeaaGreatDoor
