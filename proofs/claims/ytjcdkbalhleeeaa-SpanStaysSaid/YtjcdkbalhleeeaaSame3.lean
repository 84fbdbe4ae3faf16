/-
  Walk: the document's Same, of corners, computes what the plain words say.
-/
import Derived.Test.YtjcdkbalhleeeaaLook3
namespace Go.Proofs.Ytjcdkbalhleeeaa
open Go.RowKit

/-- Are two corners one? -/
def sameC (c d : CO) : Bool := sameB c.xs c.xd d.xs d.xd && (sameB c.ys c.yd d.ys d.yd && sameB c.gs c.gd d.gs d.gd)
theorem sameC_refl (c : CO) : sameC c c = true := by simp [sameC, sameB]
/-- A corner's three slices read as it. -/
structure Cn (w : World) (X : Option Addr) (cx : Nat) (Y : Option Addr) (cy : Nat) (G : Option Addr) (cg : Nat) (c : CO) : Prop where
  x : Rd w X cx c.xs
  y : Rd w Y cy c.ys
  g : Rd w G cg c.gs
theorem Cn.below {w w' : World} {X : Option Addr} {cx : Nat} {Y : Option Addr} {cy : Nat} {G : Option Addr} {cg : Nat} {c : CO} (h : Cn w X cx Y cy G cg c) (hb : Below w.heap.size w w') : Cn w' X cx Y cy G cg c := ⟨h.x.below hb, h.y.below hb, h.g.below hb⟩
theorem Cn.nil (w : World) : Cn w none 0 none 0 none 0 ⟨[], 0, [], 0, [], 0⟩ := ⟨Rd.nil _, Rd.nil _, Rd.nil _⟩

set_option maxRecDepth 100000 in
set_option maxHeartbeats 1000000 in
theorem ref3_Same (X : Option Addr) (cx : Nat) (Y : Option Addr) (cy : Nat) (G : Option Addr) (cg : Nat) (a : CO) (X' : Option Addr) (cx' : Nat) (Y' : Option Addr) (cy' : Nat) (G' : Option Addr) (cg' : Nat) (b : CO) (w : World) (ha : Cn w X cx Y cy G cg a) (hb : Cn w X' cx' Y' cy' G' cg' b) :
    Calls Try.prog 30 #[.agg #[.slice X a.xs.length cx, .int .i64 a.xd, .slice Y a.ys.length cy, .int .i64 a.yd, .slice G a.gs.length cg, .int .i64 a.gd], .agg #[.slice X' b.xs.length cx', .int .i64 b.xd, .slice Y' b.ys.length cy', .int .i64 b.yd, .slice G' b.gs.length cg', .int .i64 b.gd]] w
      fun e w' => e = .returned (.bool (sameC a b)) ∧ Below w.heap.size w w' := by
  have HA := Lib.hid ha
  have HB := Lib.hid hb
  clear ha hb
  have HV := Lib.hid (show sameC a b = (sameB a.xs a.xd b.xs b.xd && (sameB a.ys a.yd b.ys b.yd && sameB a.gs a.gd b.gs b.gd)) from rfl)
  have hU := ((by (repeat (any_goals (first | exact Below.refl _ _ | refine below_drewN ?_ _ | refine Below.drew ?_ | refine Below.alloc ?_ ?_ _ | refine Below.setCell ?_ ?_ _))); all_goals (first | omega | (simp; done) | (simp; omega))) : Below w.heap.size w ((w.alloc (.cells #[.slice X a.xs.length cx, .int .i64 a.xd, .slice Y a.ys.length cy, .int .i64 a.yd, .slice G a.gs.length cg, .int .i64 a.gd] 47)).alloc (.cells #[.slice X' b.xs.length cx', .int .i64 b.xd, .slice Y' b.ys.length cy', .int .i64 b.yd, .slice G' b.gs.length cg', .int .i64 b.gd] 47)))
  have Va := Lib.hid (show Blk ((w.alloc (.cells #[.slice X a.xs.length cx, .int .i64 a.xd, .slice Y a.ys.length cy, .int .i64 a.yd, .slice G a.gs.length cg, .int .i64 a.gd] 47)).alloc (.cells #[.slice X' b.xs.length cx', .int .i64 b.xd, .slice Y' b.ys.length cy', .int .i64 b.yd, .slice G' b.gs.length cg', .int .i64 b.gd] 47)) w.heap.size _ _ from (Blk.mk' _ _ _).alloc _)
  have Vb := Lib.hid (Blk.new (w.alloc (.cells #[.slice X a.xs.length cx, .int .i64 a.xd, .slice Y a.ys.length cy, .int .i64 a.yd, .slice G a.gs.length cg, .int .i64 a.gd] 47)) 47 #[.slice X' b.xs.length cx', .int .i64 b.xd, .slice Y' b.ys.length cy', .int .i64 b.yd, .slice G' b.gs.length cg', .int .i64 b.gd] (w.heap.size + 1) (by simp))
  go_enter Try.func30, Try.ntmps30
  go_wp2_with fail
  have HU := Lib.hid hU
  clear hU
  generalize ((w.alloc (.cells #[.slice X a.xs.length cx, .int .i64 a.xd, .slice Y a.ys.length cy, .int .i64 a.yd, .slice G a.gs.length cg, .int .i64 a.gd] 47)).alloc (.cells #[.slice X' b.xs.length cx', .int .i64 b.xd, .slice Y' b.ys.length cy', .int .i64 b.yd, .slice G' b.gs.length cg', .int .i64 b.gd] 47)) = U at *
  refine (ref1_Same _ _ _ _ _ _ _ _ _ (HA.out.x.below HU.out) (HB.out.x.below HU.out)).mono ?_
  rintro e w1 ⟨rfl, hb1⟩
  have H1 := Lib.hid hb1
  clear hb1
  cases h1 : sameB a.xs a.xd b.xs b.xd with
  | false =>
    go_wp2_with fail
    go_ret
    exact ⟨ret_bool (by rw [HV.out, h1]; rfl), HU.out.trans (H1.out.mono HU.out.size)⟩
  | true =>
    have k0 : (w1).cell? ⟨w.heap.size, 0, none⟩ = some (.slice X a.xs.length cx) := (Va.out.next (H1.out)).cell 0
    have k1 : (w1).cell? ⟨w.heap.size, 1, none⟩ = some (.int .i64 a.xd) := (Va.out.next (H1.out)).cell 1
    have k2 : (w1).cell? ⟨w.heap.size, 2, none⟩ = some (.slice Y a.ys.length cy) := (Va.out.next (H1.out)).cell 2
    have k3 : (w1).cell? ⟨w.heap.size, 3, none⟩ = some (.int .i64 a.yd) := (Va.out.next (H1.out)).cell 3
    have k4 : (w1).cell? ⟨w.heap.size, 4, none⟩ = some (.slice G a.gs.length cg) := (Va.out.next (H1.out)).cell 4
    have k5 : (w1).cell? ⟨w.heap.size, 5, none⟩ = some (.int .i64 a.gd) := (Va.out.next (H1.out)).cell 5
    have k6 : (w1).cell? ⟨w.heap.size + 1, 0, none⟩ = some (.slice X' b.xs.length cx') := (Vb.out.next (H1.out)).cell 0
    have k7 : (w1).cell? ⟨w.heap.size + 1, 1, none⟩ = some (.int .i64 b.xd) := (Vb.out.next (H1.out)).cell 1
    have k8 : (w1).cell? ⟨w.heap.size + 1, 2, none⟩ = some (.slice Y' b.ys.length cy') := (Vb.out.next (H1.out)).cell 2
    have k9 : (w1).cell? ⟨w.heap.size + 1, 3, none⟩ = some (.int .i64 b.yd) := (Vb.out.next (H1.out)).cell 3
    have k10 : (w1).cell? ⟨w.heap.size + 1, 4, none⟩ = some (.slice G' b.gs.length cg') := (Vb.out.next (H1.out)).cell 4
    have k11 : (w1).cell? ⟨w.heap.size + 1, 5, none⟩ = some (.int .i64 b.gd) := (Vb.out.next (H1.out)).cell 5
    go_wp2_with fail
    clear k0 k1 k2 k3 k4 k5 k6 k7 k8 k9 k10 k11
    have hU1 := HU.out.trans (H1.out.mono HU.out.size)
    refine (ref1_Same _ _ _ _ _ _ _ _ _ (HA.out.y.below hU1) (HB.out.y.below hU1)).mono ?_
    rintro e w2 ⟨rfl, hb2⟩
    have H2 := Lib.hid (H1.out.trans (hb2.mono H1.out.size))
    clear hb2 hU1
    cases h2 : sameB a.ys a.yd b.ys b.yd with
    | false =>
      go_wp2_with fail
      go_ret
      exact ⟨ret_bool (by rw [HV.out, h1, h2]; rfl), HU.out.trans (H2.out.mono HU.out.size)⟩
    | true =>
      have k0 : (w2).cell? ⟨w.heap.size, 0, none⟩ = some (.slice X a.xs.length cx) := (Va.out.next (H2.out)).cell 0
      have k1 : (w2).cell? ⟨w.heap.size, 1, none⟩ = some (.int .i64 a.xd) := (Va.out.next (H2.out)).cell 1
      have k2 : (w2).cell? ⟨w.heap.size, 2, none⟩ = some (.slice Y a.ys.length cy) := (Va.out.next (H2.out)).cell 2
      have k3 : (w2).cell? ⟨w.heap.size, 3, none⟩ = some (.int .i64 a.yd) := (Va.out.next (H2.out)).cell 3
      have k4 : (w2).cell? ⟨w.heap.size, 4, none⟩ = some (.slice G a.gs.length cg) := (Va.out.next (H2.out)).cell 4
      have k5 : (w2).cell? ⟨w.heap.size, 5, none⟩ = some (.int .i64 a.gd) := (Va.out.next (H2.out)).cell 5
      have k6 : (w2).cell? ⟨w.heap.size + 1, 0, none⟩ = some (.slice X' b.xs.length cx') := (Vb.out.next (H2.out)).cell 0
      have k7 : (w2).cell? ⟨w.heap.size + 1, 1, none⟩ = some (.int .i64 b.xd) := (Vb.out.next (H2.out)).cell 1
      have k8 : (w2).cell? ⟨w.heap.size + 1, 2, none⟩ = some (.slice Y' b.ys.length cy') := (Vb.out.next (H2.out)).cell 2
      have k9 : (w2).cell? ⟨w.heap.size + 1, 3, none⟩ = some (.int .i64 b.yd) := (Vb.out.next (H2.out)).cell 3
      have k10 : (w2).cell? ⟨w.heap.size + 1, 4, none⟩ = some (.slice G' b.gs.length cg') := (Vb.out.next (H2.out)).cell 4
      have k11 : (w2).cell? ⟨w.heap.size + 1, 5, none⟩ = some (.int .i64 b.gd) := (Vb.out.next (H2.out)).cell 5
      go_wp2_with fail
      clear k0 k1 k2 k3 k4 k5 k6 k7 k8 k9 k10 k11
      have hU2 := HU.out.trans (H2.out.mono HU.out.size)
      refine (ref1_Same _ _ _ _ _ _ _ _ _ (HA.out.g.below hU2) (HB.out.g.below hU2)).mono ?_
      rintro e w3 ⟨rfl, hb3⟩
      have H3 := Lib.hid (H2.out.trans (hb3.mono H2.out.size))
      clear hb3 hU2
      go_wp2_with fail
      go_ret
      exact ⟨ret_bool (by rw [HV.out, h1, h2]; rfl), HU.out.trans (H3.out.mono HU.out.size)⟩
end Go.Proofs.Ytjcdkbalhleeeaa
