/-
  Contracts of functions and plain laws that later parts of the proof use. The conditions stand in each theorem.
-/
import Derived.Below
import Derived.Lib.Hide
namespace Go.Proofs.YtjcdkbalhleeeaaGreatDoor
open Go.RowKit
theorem qR (B : Nat) (w : World) : Below B w w := Below.refl B w
theorem qD {B : Nat} {a w : World} (h : Below B a w) : Below B a w.drew := h.drew
theorem qA {B : Nat} {a w : World} (h : Below B a w) (hB : B ≤ w.heap.size) (o : Obj) : Below B a (w.alloc o) := h.alloc hB o
theorem qS {B : Nat} {a w : World} (h : Below B a w) {p : Addr} (hp : B ≤ p.block) (u : Value) : Below B a (w.setCell p u) := h.setCell hp u
theorem h_ {p : Prop} (h : p) : RowKit.Hid p := Lib.hid h
theorem lc_ {w : World} {a : Addr} {u : Value} (h : w.cell? a = some u) : a.block < w.heap.size := World.block_lt_of_cell? _ _ h
end Go.Proofs.YtjcdkbalhleeeaaGreatDoor
