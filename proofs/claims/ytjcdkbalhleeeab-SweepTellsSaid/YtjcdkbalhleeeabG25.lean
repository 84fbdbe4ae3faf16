/-
  Contracts of functions and plain laws that later parts of the proof use. The conditions stand in each theorem.
-/
import Derived.Test.YtjcdkbalhleeeabG23
import Derived.Test.YtjcdkbalhleeeabG16
namespace Go.Proofs.Ytjcdkbalhleeeab
open Go.RowKit

/-- Behind the statement, where there is no corner. -/
def CutN8 (W : World) (s : Value) (wx : World) : Prop := s = .bool false ∧ Below W.heap.size W wx
/-- A corner and a truth are handed back: the columns and the gains read. -/
theorem step_callC8 {P : Program} {ops : Array Oper} {K : Act → World → Prop} {E' : Prop} {o : Oper} {a : Act} {w : World} {Q : Exit → Act → World → Prop} (hg : o.guard = none) {f : FuncId} {args : Array Value} {c : CO} {b : Bool}
    (hrun : (execOp a.eval o).run P w = .ok (.enter f args) w) (hc : Calls P f args w (RetCb w c b))
    (hK : ∀ X cx Y cy G cg w', Rd w' X cx c.xs → Rd w' G cg c.gs → Below w.heap.size w w' → K (a.put o.dst (.tuple #[.agg #[.slice X c.xs.length cx, .int .i64 c.xd, .slice Y c.ys.length cy, .int .i64 c.yd, .slice G c.gs.length cg, .int .i64 c.gd], .bool b])) w') :
    if Region.wanted o (yielded ops a.tmps) = true then Oper.wp P o a w K Q else E' := by
  rw [if_pos (by simp [Region.wanted, hg])]
  unfold Oper.wp
  rw [hrun, Oper.upon_enter]
  exact hc.mono (by rintro _ _ ⟨X, cx, Y, cy, G, cg, rfl, hX, _, hG, hb⟩; exact hK X cx Y cy G cg _ hX hG hb)
def CutK8 (W : World) (c : CO) (v2 : Value) (s t : Value) (wx : World) : Prop :=
  ∃ b X cx Y cy G cg, s = .pointer (some ⟨b, 0, none⟩) ∧ t = v2 ∧ W.heap.size ≤ b ∧
    Blk wx b 42 #[.slice X c.xs.length cx, .int .i64 c.xd, .slice Y c.ys.length cy, .int .i64 c.yd, .slice G c.gs.length cg, .int .i64 c.gd] ∧ Rd wx X cx c.xs ∧ Rd wx G cg c.gs ∧ Below W.heap.size W wx
theorem cutK8 {W w5 : World} {b : Nat} {c : CO} {v2 : Value} {X Y G : Option Addr} {cx cy cg : Nat} {z0 z1 z2 z3 z4 z5 : Value} (hb : W.heap.size ≤ b) (hblk : Blk w5 b 42 #[z0, z1, z2, z3, z4, z5])
    (hX : Rd w5 X cx c.xs) (hne : ∀ ad, X = some ad → ad.block ≠ b) (hG : Rd w5 G cg c.gs) (hne' : ∀ ad, G = some ad → ad.block ≠ b) (hbel : Below W.heap.size W w5) :
    CutK8 W c v2 (.pointer (some ⟨b, 0, none⟩)) v2 ((((((w5.setCell ⟨b, 0, none⟩ (.slice X c.xs.length cx)).setCell ⟨b, 1, none⟩ (.int .i64 c.xd)).setCell ⟨b, 2, none⟩ (.slice Y c.ys.length cy)).setCell ⟨b, 3, none⟩ (.int .i64 c.yd)).setCell ⟨b, 4, none⟩ (.slice G c.gs.length cg)).setCell ⟨b, 5, none⟩ (.int .i64 c.gd)) :=
  ⟨b, X, cx, Y, cy, G, cg, rfl, rfl, hb, (((((hblk.set0 0 _).set0 1 _).set0 2 _).set0 3 _).set0 4 _).set0 5 _,
    (((((hX.setCell_out _ _ (fun ad e => hne ad e)).setCell_out _ _ (fun ad e => hne ad e)).setCell_out _ _ (fun ad e => hne ad e)).setCell_out _ _ (fun ad e => hne ad e)).setCell_out _ _ (fun ad e => hne ad e)).setCell_out _ _ (fun ad e => hne ad e),
    (((((hG.setCell_out _ _ (fun ad e => hne' ad e)).setCell_out _ _ (fun ad e => hne' ad e)).setCell_out _ _ (fun ad e => hne' ad e)).setCell_out _ _ (fun ad e => hne' ad e)).setCell_out _ _ (fun ad e => hne' ad e)).setCell_out _ _ (fun ad e => hne' ad e),
    (((((hbel.setCell hb _).setCell hb _).setCell hb _).setCell hb _).setCell hb _).setCell hb _⟩
theorem cutK8_after {W w5 : World} {c : CO} {v2 : Value} {X Y G : Option Addr} {cx cy cg : Nat} (hX : Rd w5 X cx c.xs) (hG : Rd w5 G cg c.gs) (hbel : Below W.heap.size W w5) :
    CutK8 W c v2 (.pointer (some ⟨w5.heap.size, 0, none⟩)) v2 (w5.alloc (.cells #[.slice X c.xs.length cx, .int .i64 c.xd, .slice Y c.ys.length cy, .int .i64 c.yd, .slice G c.gs.length cg, .int .i64 c.gd] 42)) :=
  ⟨w5.heap.size, X, cx, Y, cy, G, cg, rfl, rfl, hbel.size, Blk.mk' _ _ _, hX.alloc _, hG.alloc _, hbel.alloc hbel.size _⟩
end Go.Proofs.Ytjcdkbalhleeeab
