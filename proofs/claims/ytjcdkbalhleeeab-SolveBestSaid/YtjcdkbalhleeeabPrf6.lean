/-
  Walk: proof.Holds computes what the plain words say.
-/
import Derived.Test.YtjcdkbalhleeeabPrf3
import Derived.Test.YtjcdkbalhleeeabPrf4
import Derived.Test.YtjcdkbalhleeeabPrf5
namespace Go.Proofs.Ytjcdkbalhleeeab
open Go.RowKit

theorem proof_best (A : Option Addr) (c : Nat) (A2 : Option Addr) (c2 : Nat) (p : PG) (X : Option Addr) (cx : Nat) (Y : Option Addr) (cy : Nat) (R : Option Addr) (cr : Nat) (a : AN) (w : World)
    (hp : Pg w A c A2 c2 p) (ha : An w X cx Y cy R cr a) (hm : mayPB p = true) :
    Calls Try.prog 76 #[.agg #[.slice A p.costs.length c, .slice A2 p.rows.length c2],
      .agg #[.int .i64 a.kind, .slice X a.xs.length cx, .int .i64 a.xd, .slice Y a.ys.length cy, .int .i64 a.yd, .slice R a.rs.length cr, .int .i64 a.rd, .int .i64 a.wn, .int .i64 a.wd]] w
      fun e w' => e = .returned (.bool (bestB p a)) ∧ Below w.heap.size w w' := by
  obtain ⟨kd, xs, xd, ys, yd, rs, rd, wn, wd⟩ := a
  exact best_1 _ _ _ _ _ _ _ _ _ _ _ _ _ _ _ _ _ _ _ _ _ hp ha.x ha.y ha.r hm

section
variable (A : Option Addr) (c : Nat) (A2 : Option Addr) (c2 : Nat) (p : PG) (X : Option Addr) (cx : Nat) (Y : Option Addr) (cy : Nat) (R : Option Addr) (cr : Nat) (kd : Int) (xs : List Int) (xd : Int) (ys : List Int) (yd : Int) (rs : List Int) (rd wn wd : Int) (w : World)
set_option maxHeartbeats 1000000 in
theorem holds_1 (hp : Pg w A c A2 c2 p) (ha : An w X cx Y cy R cr ⟨1, xs, xd, ys, yd, rs, rd, wn, wd⟩) (hm : mayPB p = true) :
    Calls Try.prog 27 #[.agg #[.slice A p.costs.length c, .slice A2 p.rows.length c2],
      .agg #[.int .i64 1, .slice X xs.length cx, .int .i64 xd, .slice Y ys.length cy, .int .i64 yd, .slice R rs.length cr, .int .i64 rd, .int .i64 wn, .int .i64 wd]] w
      fun e w' => e = .returned (.bool (bestB p ⟨1, xs, xd, ys, yd, rs, rd, wn, wd⟩)) ∧ Below w.heap.size w w' := by
  have HM := Lib.hid hm
  have HP := Lib.hid hp
  have HA := Lib.hid ha
  obtain ⟨⟨hl, hc, hsm, _⟩, ⟨hl2, hc2, hsm2, _⟩⟩ := hp
  clear ha
  go_enter Try.func27, Try.ntmps27
  go_wp2_with fail
  refine (layout_May _ _ _ _ _ _ (by exact HP.out.below (by (repeat (any_goals (first | exact Below.refl _ _ | refine below_drewN ?_ _ | refine Below.drew ?_ | refine Below.alloc ?_ ?_ _ | refine Below.setCell ?_ ?_ _))); all_goals (first | omega | (simp; done) | (simp; omega))))).mono ?_
  rintro e w1 ⟨rfl, hb1⟩
  rw [hm]
  have Vp0 := Blk.next (Blk.alloc (Blk.mk' _ _ _) _) hb1; (try simp only [World.size_alloc, World.size_drew, World.size_setCell, size_drewN'] at Vp0); have Vp := Lib.hid Vp0; clear Vp0; have lVp := Vp.out.lt; have Va0 := Blk.next (Blk.mk' _ _ _) hb1; (try simp only [World.size_alloc, World.size_drew, World.size_setCell, size_drewN'] at Va0); have Va := Lib.hid Va0; clear Va0; have lVa := Va.out.lt; have HP := Lib.hid (HP.out.hop (by (repeat (any_goals (first | exact Below.refl _ _ | refine below_drewN ?_ _ | refine Below.drew ?_ | refine Below.alloc ?_ ?_ _ | refine Below.setCell ?_ ?_ _))); all_goals (first | omega | (simp; done) | (simp; omega))) hb1); have HA := Lib.hid (HA.out.hop (by (repeat (any_goals (first | exact Below.refl _ _ | refine below_drewN ?_ _ | refine Below.drew ?_ | refine Below.alloc ?_ ?_ _ | refine Below.setCell ?_ ?_ _))); all_goals (first | omega | (simp; done) | (simp; omega))) hb1); have zhb1 := hb1.size; (try simp only [World.size_alloc, World.size_drew, World.size_setCell, size_drewN'] at zhb1); have HB1 := Lib.hid hb1; clear hb1
  have c0w1 : w1.cell? ⟨w.heap.size, 0, none⟩ = some (.slice A p.costs.length c) := Vp.out.cell 0
  have c1w1 : w1.cell? ⟨w.heap.size, 1, none⟩ = some (.slice A2 p.rows.length c2) := Vp.out.cell 1
  have c2w1 : w1.cell? ⟨w.heap.size + 1, 0, none⟩ = some (.int .i64 1) := Va.out.cell 0
  have c3w1 : w1.cell? ⟨w.heap.size + 1, 1, none⟩ = some (.slice X xs.length cx) := Va.out.cell 1
  have c4w1 : w1.cell? ⟨w.heap.size + 1, 2, none⟩ = some (.int .i64 xd) := Va.out.cell 2
  have c5w1 : w1.cell? ⟨w.heap.size + 1, 3, none⟩ = some (.slice Y ys.length cy) := Va.out.cell 3
  have c6w1 : w1.cell? ⟨w.heap.size + 1, 4, none⟩ = some (.int .i64 yd) := Va.out.cell 4
  have c7w1 : w1.cell? ⟨w.heap.size + 1, 5, none⟩ = some (.slice R rs.length cr) := Va.out.cell 5
  have c8w1 : w1.cell? ⟨w.heap.size + 1, 6, none⟩ = some (.int .i64 rd) := Va.out.cell 6
  have c9w1 : w1.cell? ⟨w.heap.size + 1, 7, none⟩ = some (.int .i64 wn) := Va.out.cell 7
  have c10w1 : w1.cell? ⟨w.heap.size + 1, 8, none⟩ = some (.int .i64 wd) := Va.out.cell 8
  clear hm
  go_wp2_with fail
  refine (proof_best _ _ _ _ _ _ _ _ _ _ _ ⟨1, xs, xd, ys, yd, rs, rd, wn, wd⟩ _ (by exact HP.out) (by exact HA.out) HM.out).mono ?_
  rintro e w2 ⟨rfl, hb2⟩
  have HB2 := Lib.hid hb2
  clear hb2
  go_wp2_with fail
  go_ret
  exact ⟨rfl, (by (repeat (any_goals (first | exact Below.refl _ _ | exact HB1.out | exact HB2.out | refine below_drewN ?_ _ | refine Below.drew ?_ | refine Below.alloc ?_ ?_ _ | refine Below.setCell ?_ ?_ _ | refine Below.trans ?_ (Below.mono HB1.out ?_) | refine Below.trans ?_ (Below.mono HB2.out ?_)))); all_goals (first | omega | (simp; done) | (simp; omega) | ((try have z0 := HB1.out.size); (try simp at z0); (try have z1 := HB2.out.size); (try simp at z1); (try simp); omega)))⟩
set_option maxHeartbeats 1000000 in
theorem holds_2 (hp : Pg w A c A2 c2 p) (ha : An w X cx Y cy R cr ⟨2, xs, xd, ys, yd, rs, rd, wn, wd⟩) (hm : mayPB p = true) :
    Calls Try.prog 27 #[.agg #[.slice A p.costs.length c, .slice A2 p.rows.length c2],
      .agg #[.int .i64 2, .slice X xs.length cx, .int .i64 xd, .slice Y ys.length cy, .int .i64 yd, .slice R rs.length cr, .int .i64 rd, .int .i64 wn, .int .i64 wd]] w
      fun e w' => e = .returned (.bool (endlessB p ⟨2, xs, xd, ys, yd, rs, rd, wn, wd⟩)) ∧ Below w.heap.size w w' := by
  have HM := Lib.hid hm
  have HP := Lib.hid hp
  have HA := Lib.hid ha
  obtain ⟨⟨hl, hc, hsm, _⟩, ⟨hl2, hc2, hsm2, _⟩⟩ := hp
  clear ha
  go_enter Try.func27, Try.ntmps27
  go_wp2_with fail
  refine (layout_May _ _ _ _ _ _ (by exact HP.out.below (by (repeat (any_goals (first | exact Below.refl _ _ | refine below_drewN ?_ _ | refine Below.drew ?_ | refine Below.alloc ?_ ?_ _ | refine Below.setCell ?_ ?_ _))); all_goals (first | omega | (simp; done) | (simp; omega))))).mono ?_
  rintro e w1 ⟨rfl, hb1⟩
  rw [hm]
  have Vp0 := Blk.next (Blk.alloc (Blk.mk' _ _ _) _) hb1; (try simp only [World.size_alloc, World.size_drew, World.size_setCell, size_drewN'] at Vp0); have Vp := Lib.hid Vp0; clear Vp0; have lVp := Vp.out.lt; have Va0 := Blk.next (Blk.mk' _ _ _) hb1; (try simp only [World.size_alloc, World.size_drew, World.size_setCell, size_drewN'] at Va0); have Va := Lib.hid Va0; clear Va0; have lVa := Va.out.lt; have HP := Lib.hid (HP.out.hop (by (repeat (any_goals (first | exact Below.refl _ _ | refine below_drewN ?_ _ | refine Below.drew ?_ | refine Below.alloc ?_ ?_ _ | refine Below.setCell ?_ ?_ _))); all_goals (first | omega | (simp; done) | (simp; omega))) hb1); have HA := Lib.hid (HA.out.hop (by (repeat (any_goals (first | exact Below.refl _ _ | refine below_drewN ?_ _ | refine Below.drew ?_ | refine Below.alloc ?_ ?_ _ | refine Below.setCell ?_ ?_ _))); all_goals (first | omega | (simp; done) | (simp; omega))) hb1); have zhb1 := hb1.size; (try simp only [World.size_alloc, World.size_drew, World.size_setCell, size_drewN'] at zhb1); have HB1 := Lib.hid hb1; clear hb1
  have c0w1 : w1.cell? ⟨w.heap.size, 0, none⟩ = some (.slice A p.costs.length c) := Vp.out.cell 0
  have c1w1 : w1.cell? ⟨w.heap.size, 1, none⟩ = some (.slice A2 p.rows.length c2) := Vp.out.cell 1
  have c2w1 : w1.cell? ⟨w.heap.size + 1, 0, none⟩ = some (.int .i64 2) := Va.out.cell 0
  have c3w1 : w1.cell? ⟨w.heap.size + 1, 1, none⟩ = some (.slice X xs.length cx) := Va.out.cell 1
  have c4w1 : w1.cell? ⟨w.heap.size + 1, 2, none⟩ = some (.int .i64 xd) := Va.out.cell 2
  have c5w1 : w1.cell? ⟨w.heap.size + 1, 3, none⟩ = some (.slice Y ys.length cy) := Va.out.cell 3
  have c6w1 : w1.cell? ⟨w.heap.size + 1, 4, none⟩ = some (.int .i64 yd) := Va.out.cell 4
  have c7w1 : w1.cell? ⟨w.heap.size + 1, 5, none⟩ = some (.slice R rs.length cr) := Va.out.cell 5
  have c8w1 : w1.cell? ⟨w.heap.size + 1, 6, none⟩ = some (.int .i64 rd) := Va.out.cell 6
  have c9w1 : w1.cell? ⟨w.heap.size + 1, 7, none⟩ = some (.int .i64 wn) := Va.out.cell 7
  have c10w1 : w1.cell? ⟨w.heap.size + 1, 8, none⟩ = some (.int .i64 wd) := Va.out.cell 8
  clear hm
  go_wp2_with fail
  refine (proof_endless _ _ _ _ _ _ _ _ _ _ _ ⟨2, xs, xd, ys, yd, rs, rd, wn, wd⟩ _ (by exact HP.out) (by exact HA.out) HM.out).mono ?_
  rintro e w2 ⟨rfl, hb2⟩
  have HB2 := Lib.hid hb2
  clear hb2
  go_wp2_with fail
  go_ret
  exact ⟨rfl, (by (repeat (any_goals (first | exact Below.refl _ _ | exact HB1.out | exact HB2.out | refine below_drewN ?_ _ | refine Below.drew ?_ | refine Below.alloc ?_ ?_ _ | refine Below.setCell ?_ ?_ _ | refine Below.trans ?_ (Below.mono HB1.out ?_) | refine Below.trans ?_ (Below.mono HB2.out ?_)))); all_goals (first | omega | (simp; done) | (simp; omega) | ((try have z0 := HB1.out.size); (try simp at z0); (try have z1 := HB2.out.size); (try simp at z1); (try simp); omega)))⟩
set_option maxHeartbeats 1000000 in
theorem holds_3 (hp : Pg w A c A2 c2 p) (ha : An w X cx Y cy R cr ⟨3, xs, xd, ys, yd, rs, rd, wn, wd⟩) (hm : mayPB p = true) :
    Calls Try.prog 27 #[.agg #[.slice A p.costs.length c, .slice A2 p.rows.length c2],
      .agg #[.int .i64 3, .slice X xs.length cx, .int .i64 xd, .slice Y ys.length cy, .int .i64 yd, .slice R rs.length cr, .int .i64 rd, .int .i64 wn, .int .i64 wd]] w
      fun e w' => e = .returned (.bool (nothingB p ⟨3, xs, xd, ys, yd, rs, rd, wn, wd⟩)) ∧ Below w.heap.size w w' := by
  have HM := Lib.hid hm
  have HP := Lib.hid hp
  have HA := Lib.hid ha
  obtain ⟨⟨hl, hc, hsm, _⟩, ⟨hl2, hc2, hsm2, _⟩⟩ := hp
  clear ha
  go_enter Try.func27, Try.ntmps27
  go_wp2_with fail
  refine (layout_May _ _ _ _ _ _ (by exact HP.out.below (by (repeat (any_goals (first | exact Below.refl _ _ | refine below_drewN ?_ _ | refine Below.drew ?_ | refine Below.alloc ?_ ?_ _ | refine Below.setCell ?_ ?_ _))); all_goals (first | omega | (simp; done) | (simp; omega))))).mono ?_
  rintro e w1 ⟨rfl, hb1⟩
  rw [hm]
  have Vp0 := Blk.next (Blk.alloc (Blk.mk' _ _ _) _) hb1; (try simp only [World.size_alloc, World.size_drew, World.size_setCell, size_drewN'] at Vp0); have Vp := Lib.hid Vp0; clear Vp0; have lVp := Vp.out.lt; have Va0 := Blk.next (Blk.mk' _ _ _) hb1; (try simp only [World.size_alloc, World.size_drew, World.size_setCell, size_drewN'] at Va0); have Va := Lib.hid Va0; clear Va0; have lVa := Va.out.lt; have HP := Lib.hid (HP.out.hop (by (repeat (any_goals (first | exact Below.refl _ _ | refine below_drewN ?_ _ | refine Below.drew ?_ | refine Below.alloc ?_ ?_ _ | refine Below.setCell ?_ ?_ _))); all_goals (first | omega | (simp; done) | (simp; omega))) hb1); have HA := Lib.hid (HA.out.hop (by (repeat (any_goals (first | exact Below.refl _ _ | refine below_drewN ?_ _ | refine Below.drew ?_ | refine Below.alloc ?_ ?_ _ | refine Below.setCell ?_ ?_ _))); all_goals (first | omega | (simp; done) | (simp; omega))) hb1); have zhb1 := hb1.size; (try simp only [World.size_alloc, World.size_drew, World.size_setCell, size_drewN'] at zhb1); have HB1 := Lib.hid hb1; clear hb1
  have c0w1 : w1.cell? ⟨w.heap.size, 0, none⟩ = some (.slice A p.costs.length c) := Vp.out.cell 0
  have c1w1 : w1.cell? ⟨w.heap.size, 1, none⟩ = some (.slice A2 p.rows.length c2) := Vp.out.cell 1
  have c2w1 : w1.cell? ⟨w.heap.size + 1, 0, none⟩ = some (.int .i64 3) := Va.out.cell 0
  have c3w1 : w1.cell? ⟨w.heap.size + 1, 1, none⟩ = some (.slice X xs.length cx) := Va.out.cell 1
  have c4w1 : w1.cell? ⟨w.heap.size + 1, 2, none⟩ = some (.int .i64 xd) := Va.out.cell 2
  have c5w1 : w1.cell? ⟨w.heap.size + 1, 3, none⟩ = some (.slice Y ys.length cy) := Va.out.cell 3
  have c6w1 : w1.cell? ⟨w.heap.size + 1, 4, none⟩ = some (.int .i64 yd) := Va.out.cell 4
  have c7w1 : w1.cell? ⟨w.heap.size + 1, 5, none⟩ = some (.slice R rs.length cr) := Va.out.cell 5
  have c8w1 : w1.cell? ⟨w.heap.size + 1, 6, none⟩ = some (.int .i64 rd) := Va.out.cell 6
  have c9w1 : w1.cell? ⟨w.heap.size + 1, 7, none⟩ = some (.int .i64 wn) := Va.out.cell 7
  have c10w1 : w1.cell? ⟨w.heap.size + 1, 8, none⟩ = some (.int .i64 wd) := Va.out.cell 8
  clear hm
  go_wp2_with fail
  refine (proof_nothing _ _ _ _ _ _ _ _ _ _ _ ⟨3, xs, xd, ys, yd, rs, rd, wn, wd⟩ _ (by exact HP.out) (by exact HA.out) HM.out).mono ?_
  rintro e w2 ⟨rfl, hb2⟩
  have HB2 := Lib.hid hb2
  clear hb2
  go_wp2_with fail
  go_ret
  exact ⟨rfl, (by (repeat (any_goals (first | exact Below.refl _ _ | exact HB1.out | exact HB2.out | refine below_drewN ?_ _ | refine Below.drew ?_ | refine Below.alloc ?_ ?_ _ | refine Below.setCell ?_ ?_ _ | refine Below.trans ?_ (Below.mono HB1.out ?_) | refine Below.trans ?_ (Below.mono HB2.out ?_)))); all_goals (first | omega | (simp; done) | (simp; omega) | ((try have z0 := HB1.out.size); (try simp at z0); (try have z1 := HB2.out.size); (try simp at z1); (try simp); omega)))⟩
set_option maxHeartbeats 1000000 in
theorem holds_0 (hp : Pg w A c A2 c2 p) (ha : An w X cx Y cy R cr ⟨kd, xs, xd, ys, yd, rs, rd, wn, wd⟩) (hm : mayPB p = true) (h1 : ¬ kd = 1) (h2 : ¬ kd = 2) (h3 : ¬ kd = 3) :
    Calls Try.prog 27 #[.agg #[.slice A p.costs.length c, .slice A2 p.rows.length c2],
      .agg #[.int .i64 kd, .slice X xs.length cx, .int .i64 xd, .slice Y ys.length cy, .int .i64 yd, .slice R rs.length cr, .int .i64 rd, .int .i64 wn, .int .i64 wd]] w
      fun e w' => e = .returned (.bool (false)) ∧ Below w.heap.size w w' := by
  have z1 : (kd == 1) = false := by simpa using h1
  have z2 : (kd == 2) = false := by simpa using h2
  have z3 : (kd == 3) = false := by simpa using h3
  have HP := Lib.hid hp
  have HA := Lib.hid ha
  obtain ⟨⟨hl, hc, hsm, _⟩, ⟨hl2, hc2, hsm2, _⟩⟩ := hp
  clear ha
  go_enter Try.func27, Try.ntmps27
  go_wp2_with fail
  refine (layout_May _ _ _ _ _ _ (by exact HP.out.below (by (repeat (any_goals (first | exact Below.refl _ _ | refine below_drewN ?_ _ | refine Below.drew ?_ | refine Below.alloc ?_ ?_ _ | refine Below.setCell ?_ ?_ _))); all_goals (first | omega | (simp; done) | (simp; omega))))).mono ?_
  rintro e w1 ⟨rfl, hb1⟩
  rw [hm]
  have Vp0 := Blk.next (Blk.alloc (Blk.mk' _ _ _) _) hb1; (try simp only [World.size_alloc, World.size_drew, World.size_setCell, size_drewN'] at Vp0); have Vp := Lib.hid Vp0; clear Vp0; have lVp := Vp.out.lt; have Va0 := Blk.next (Blk.mk' _ _ _) hb1; (try simp only [World.size_alloc, World.size_drew, World.size_setCell, size_drewN'] at Va0); have Va := Lib.hid Va0; clear Va0; have lVa := Va.out.lt; have HP := Lib.hid (HP.out.hop (by (repeat (any_goals (first | exact Below.refl _ _ | refine below_drewN ?_ _ | refine Below.drew ?_ | refine Below.alloc ?_ ?_ _ | refine Below.setCell ?_ ?_ _))); all_goals (first | omega | (simp; done) | (simp; omega))) hb1); have HA := Lib.hid (HA.out.hop (by (repeat (any_goals (first | exact Below.refl _ _ | refine below_drewN ?_ _ | refine Below.drew ?_ | refine Below.alloc ?_ ?_ _ | refine Below.setCell ?_ ?_ _))); all_goals (first | omega | (simp; done) | (simp; omega))) hb1); have zhb1 := hb1.size; (try simp only [World.size_alloc, World.size_drew, World.size_setCell, size_drewN'] at zhb1); have HB1 := Lib.hid hb1; clear hb1
  have c0w1 : w1.cell? ⟨w.heap.size, 0, none⟩ = some (.slice A p.costs.length c) := Vp.out.cell 0
  have c1w1 : w1.cell? ⟨w.heap.size, 1, none⟩ = some (.slice A2 p.rows.length c2) := Vp.out.cell 1
  have c2w1 : w1.cell? ⟨w.heap.size + 1, 0, none⟩ = some (.int .i64 kd) := Va.out.cell 0
  have c3w1 : w1.cell? ⟨w.heap.size + 1, 1, none⟩ = some (.slice X xs.length cx) := Va.out.cell 1
  have c4w1 : w1.cell? ⟨w.heap.size + 1, 2, none⟩ = some (.int .i64 xd) := Va.out.cell 2
  have c5w1 : w1.cell? ⟨w.heap.size + 1, 3, none⟩ = some (.slice Y ys.length cy) := Va.out.cell 3
  have c6w1 : w1.cell? ⟨w.heap.size + 1, 4, none⟩ = some (.int .i64 yd) := Va.out.cell 4
  have c7w1 : w1.cell? ⟨w.heap.size + 1, 5, none⟩ = some (.slice R rs.length cr) := Va.out.cell 5
  have c8w1 : w1.cell? ⟨w.heap.size + 1, 6, none⟩ = some (.int .i64 rd) := Va.out.cell 6
  have c9w1 : w1.cell? ⟨w.heap.size + 1, 7, none⟩ = some (.int .i64 wn) := Va.out.cell 7
  have c10w1 : w1.cell? ⟨w.heap.size + 1, 8, none⟩ = some (.int .i64 wd) := Va.out.cell 8
  go_wp2_with fail
  go_ret
  exact ⟨rfl, (by (repeat (any_goals (first | exact Below.refl _ _ | exact HB1.out | refine below_drewN ?_ _ | refine Below.drew ?_ | refine Below.alloc ?_ ?_ _ | refine Below.setCell ?_ ?_ _ | refine Below.trans ?_ (Below.mono HB1.out ?_)))); all_goals (first | omega | (simp; done) | (simp; omega) | ((try have z0 := HB1.out.size); (try simp at z0); (try simp); omega)))⟩
set_option maxHeartbeats 1000000 in
theorem holds_no (hp : Pg w A c A2 c2 p) (ha : An w X cx Y cy R cr ⟨kd, xs, xd, ys, yd, rs, rd, wn, wd⟩) (hm : mayPB p = false) :
    Calls Try.prog 27 #[.agg #[.slice A p.costs.length c, .slice A2 p.rows.length c2],
      .agg #[.int .i64 kd, .slice X xs.length cx, .int .i64 xd, .slice Y ys.length cy, .int .i64 yd, .slice R rs.length cr, .int .i64 rd, .int .i64 wn, .int .i64 wd]] w
      fun e w' => e = .returned (.bool (false)) ∧ Below w.heap.size w w' := by
  have HP := Lib.hid hp
  have HA := Lib.hid ha
  obtain ⟨⟨hl, hc, hsm, _⟩, ⟨hl2, hc2, hsm2, _⟩⟩ := hp
  clear ha
  go_enter Try.func27, Try.ntmps27
  go_wp2_with fail
  refine (layout_May _ _ _ _ _ _ (by exact HP.out.below (by (repeat (any_goals (first | exact Below.refl _ _ | refine below_drewN ?_ _ | refine Below.drew ?_ | refine Below.alloc ?_ ?_ _ | refine Below.setCell ?_ ?_ _))); all_goals (first | omega | (simp; done) | (simp; omega))))).mono ?_
  rintro e w1 ⟨rfl, hb1⟩
  rw [hm]
  have Vp0 := Blk.next (Blk.alloc (Blk.mk' _ _ _) _) hb1; (try simp only [World.size_alloc, World.size_drew, World.size_setCell, size_drewN'] at Vp0); have Vp := Lib.hid Vp0; clear Vp0; have lVp := Vp.out.lt; have Va0 := Blk.next (Blk.mk' _ _ _) hb1; (try simp only [World.size_alloc, World.size_drew, World.size_setCell, size_drewN'] at Va0); have Va := Lib.hid Va0; clear Va0; have lVa := Va.out.lt; have HP := Lib.hid (HP.out.hop (by (repeat (any_goals (first | exact Below.refl _ _ | refine below_drewN ?_ _ | refine Below.drew ?_ | refine Below.alloc ?_ ?_ _ | refine Below.setCell ?_ ?_ _))); all_goals (first | omega | (simp; done) | (simp; omega))) hb1); have HA := Lib.hid (HA.out.hop (by (repeat (any_goals (first | exact Below.refl _ _ | refine below_drewN ?_ _ | refine Below.drew ?_ | refine Below.alloc ?_ ?_ _ | refine Below.setCell ?_ ?_ _))); all_goals (first | omega | (simp; done) | (simp; omega))) hb1); have zhb1 := hb1.size; (try simp only [World.size_alloc, World.size_drew, World.size_setCell, size_drewN'] at zhb1); have HB1 := Lib.hid hb1; clear hb1
  have c0w1 : w1.cell? ⟨w.heap.size, 0, none⟩ = some (.slice A p.costs.length c) := Vp.out.cell 0
  have c1w1 : w1.cell? ⟨w.heap.size, 1, none⟩ = some (.slice A2 p.rows.length c2) := Vp.out.cell 1
  have c2w1 : w1.cell? ⟨w.heap.size + 1, 0, none⟩ = some (.int .i64 kd) := Va.out.cell 0
  have c3w1 : w1.cell? ⟨w.heap.size + 1, 1, none⟩ = some (.slice X xs.length cx) := Va.out.cell 1
  have c4w1 : w1.cell? ⟨w.heap.size + 1, 2, none⟩ = some (.int .i64 xd) := Va.out.cell 2
  have c5w1 : w1.cell? ⟨w.heap.size + 1, 3, none⟩ = some (.slice Y ys.length cy) := Va.out.cell 3
  have c6w1 : w1.cell? ⟨w.heap.size + 1, 4, none⟩ = some (.int .i64 yd) := Va.out.cell 4
  have c7w1 : w1.cell? ⟨w.heap.size + 1, 5, none⟩ = some (.slice R rs.length cr) := Va.out.cell 5
  have c8w1 : w1.cell? ⟨w.heap.size + 1, 6, none⟩ = some (.int .i64 rd) := Va.out.cell 6
  have c9w1 : w1.cell? ⟨w.heap.size + 1, 7, none⟩ = some (.int .i64 wn) := Va.out.cell 7
  have c10w1 : w1.cell? ⟨w.heap.size + 1, 8, none⟩ = some (.int .i64 wd) := Va.out.cell 8
  go_wp2_with fail
  go_ret
  exact ⟨rfl, (by (repeat (any_goals (first | exact Below.refl _ _ | exact HB1.out | refine below_drewN ?_ _ | refine Below.drew ?_ | refine Below.alloc ?_ ?_ _ | refine Below.setCell ?_ ?_ _ | refine Below.trans ?_ (Below.mono HB1.out ?_)))); all_goals (first | omega | (simp; done) | (simp; omega) | ((try have z0 := HB1.out.size); (try simp at z0); (try simp); omega)))⟩
end
theorem proof_Holds (A : Option Addr) (c : Nat) (A2 : Option Addr) (c2 : Nat) (p : PG) (X : Option Addr) (cx : Nat) (Y : Option Addr) (cy : Nat) (R : Option Addr) (cr : Nat) (a : AN) (w : World)
    (hp : Pg w A c A2 c2 p) (ha : An w X cx Y cy R cr a) :
    Calls Try.prog 27 #[.agg #[.slice A p.costs.length c, .slice A2 p.rows.length c2],
      .agg #[.int .i64 a.kind, .slice X a.xs.length cx, .int .i64 a.xd, .slice Y a.ys.length cy, .int .i64 a.yd, .slice R a.rs.length cr, .int .i64 a.rd, .int .i64 a.wn, .int .i64 a.wd]] w
      fun e w' => e = .returned (.bool (holdsB p a)) ∧ Below w.heap.size w w' := by
  obtain ⟨kd, xs, xd, ys, yd, rs, rd, wn, wd⟩ := a
  simp only
  cases hm : mayPB p with
  | false => rw [show holdsB p ⟨kd, xs, xd, ys, yd, rs, rd, wn, wd⟩ = false by simp [holdsB, hm]]; exact holds_no _ _ _ _ _ _ _ _ _ _ _ _ _ _ _ _ _ _ _ _ _ hp ha hm
  | true =>
    by_cases h1 : kd = 1
    · subst h1; rw [show holdsB p ⟨1, xs, xd, ys, yd, rs, rd, wn, wd⟩ = bestB p ⟨1, xs, xd, ys, yd, rs, rd, wn, wd⟩ by simp [holdsB, hm]]; exact holds_1 _ _ _ _ _ _ _ _ _ _ _ _ _ _ _ _ _ _ _ _ hp ha hm
    by_cases h2 : kd = 2
    · subst h2; rw [show holdsB p ⟨2, xs, xd, ys, yd, rs, rd, wn, wd⟩ = endlessB p ⟨2, xs, xd, ys, yd, rs, rd, wn, wd⟩ by simp [holdsB, hm]]; exact holds_2 _ _ _ _ _ _ _ _ _ _ _ _ _ _ _ _ _ _ _ _ hp ha hm
    by_cases h3 : kd = 3
    · subst h3; rw [show holdsB p ⟨3, xs, xd, ys, yd, rs, rd, wn, wd⟩ = nothingB p ⟨3, xs, xd, ys, yd, rs, rd, wn, wd⟩ by simp [holdsB, hm]]; exact holds_3 _ _ _ _ _ _ _ _ _ _ _ _ _ _ _ _ _ _ _ _ hp ha hm
    rw [show holdsB p ⟨kd, xs, xd, ys, yd, rs, rd, wn, wd⟩ = false by simp [holdsB, h1, h2, h3]]; exact holds_0 _ _ _ _ _ _ _ _ _ _ _ _ _ _ _ _ _ _ _ _ _ hp ha hm h1 h2 h3
end Go.Proofs.Ytjcdkbalhleeeab
