/-
  Walks: proof.best computes what the plain words say.
-/
import Derived.Test.YtjcdkbalhleeeabPrf3
import Derived.Test.YtjcdkbalhleeeabLay2
namespace Go.Proofs.Ytjcdkbalhleeeab
open Go.RowKit

set_option maxHeartbeats 8000000 in
theorem best_1 (A : Option Addr) (c : Nat) (A2 : Option Addr) (c2 : Nat) (p : PG) (X : Option Addr) (cx : Nat) (Y : Option Addr) (cy : Nat) (R : Option Addr) (cr : Nat) (kd : Int) (xs : List Int) (xd : Int) (ys : List Int) (yd : Int) (rs : List Int) (rd wn wd : Int) (w : World)
    (hp : Pg w A c A2 c2 p) (hx : Rd w X cx xs) (hy : Rd w Y cy ys) (hr : Rd w R cr rs) (hm : mayPB p = true) :
    Calls Try.prog 76 #[.agg #[.slice A p.costs.length c, .slice A2 p.rows.length c2],
      .agg #[.int .i64 kd, .slice X xs.length cx, .int .i64 xd, .slice Y ys.length cy, .int .i64 yd, .slice R rs.length cr, .int .i64 rd, .int .i64 wn, .int .i64 wd]] w
      fun e w' => e = .returned (.bool (bestB p ⟨kd, xs, xd, ys, yd, rs, rd, wn, wd⟩)) ∧ Below w.heap.size w w' := by
  have HP := Lib.hid hp
  have HX := Lib.hid hx
  have HY := Lib.hid hy
  have HR := Lib.hid hr
  have HM := Lib.hid hm
  obtain ⟨⟨hl, hc, hsm, _⟩, ⟨hl2, hc2, hsm2, _⟩⟩ := hp
  have h4 : p.rows.length ≤ 4 := (mayPB_iff.1 hm).2.2.2.1
  have h4' : 1 ≤ p.rows.length := (mayPB_iff.1 hm).2.2.1
  clear hm hx hy hr
  go_enter Try.func76, Try.ntmps76
  go_wp2_with fail
  refine (proof_empty _ _ _ _ _ (by exact HR.out.below (by (repeat (any_goals (first | exact Below.refl _ _ | refine below_drewN ?_ _ | refine Below.drew ?_ | refine Below.alloc ?_ ?_ _ | refine Below.setCell ?_ ?_ _))); all_goals (first | omega | (simp; done) | (simp; omega))))).mono ?_
  rintro e w1 ⟨rfl, hb1⟩
  cases q1 : emptyB rs rd with
  | false =>
    have Vp0 := Blk.next (Blk.alloc (Blk.mk' _ _ _) _) hb1; (try simp only [World.size_alloc, World.size_drew, World.size_setCell, size_drewN'] at Vp0); have Vp := Lib.hid Vp0; clear Vp0; have lVp := Vp.out.lt; have Va0 := Blk.next (Blk.mk' _ _ _) hb1; (try simp only [World.size_alloc, World.size_drew, World.size_setCell, size_drewN'] at Va0); have Va := Lib.hid Va0; clear Va0; have lVa := Va.out.lt; have HP := Lib.hid (HP.out.hop (by (repeat (any_goals (first | exact Below.refl _ _ | refine below_drewN ?_ _ | refine Below.drew ?_ | refine Below.alloc ?_ ?_ _ | refine Below.setCell ?_ ?_ _))); all_goals (first | omega | (simp; done) | (simp; omega))) hb1); have HX := Lib.hid (HX.out.hop (by (repeat (any_goals (first | exact Below.refl _ _ | refine below_drewN ?_ _ | refine Below.drew ?_ | refine Below.alloc ?_ ?_ _ | refine Below.setCell ?_ ?_ _))); all_goals (first | omega | (simp; done) | (simp; omega))) hb1); have HY := Lib.hid (HY.out.hop (by (repeat (any_goals (first | exact Below.refl _ _ | refine below_drewN ?_ _ | refine Below.drew ?_ | refine Below.alloc ?_ ?_ _ | refine Below.setCell ?_ ?_ _))); all_goals (first | omega | (simp; done) | (simp; omega))) hb1); have HR := Lib.hid (HR.out.hop (by (repeat (any_goals (first | exact Below.refl _ _ | refine below_drewN ?_ _ | refine Below.drew ?_ | refine Below.alloc ?_ ?_ _ | refine Below.setCell ?_ ?_ _))); all_goals (first | omega | (simp; done) | (simp; omega))) hb1); have zhb1 := hb1.size; (try simp only [World.size_alloc, World.size_drew, World.size_setCell, size_drewN'] at zhb1); have HB1 := Lib.hid hb1; clear hb1
    have c0w1 : w1.cell? ⟨w.heap.size, 0, none⟩ = some (.slice A p.costs.length c) := Vp.out.cell 0
    have c1w1 : w1.cell? ⟨w.heap.size, 1, none⟩ = some (.slice A2 p.rows.length c2) := Vp.out.cell 1
    have c2w1 : w1.cell? ⟨w.heap.size + 1, 0, none⟩ = some (.int .i64 kd) := Va.out.cell 0
    have c3w1 : w1.cell? ⟨w.heap.size + 1, 1, none⟩ = some (.slice X xs.length cx) := Va.out.cell 1
    have c4w1 : w1.cell? ⟨w.heap.size + 1, 2, none⟩ = some (.int .i64 xd) := Va.out.cell 2
    have c5w1 : w1.cell? ⟨w.heap.size + 1, 3, none⟩ = some (.slice Y ys.length cy) := Va.out.cell 3
    have c6w1 : w1.cell? ⟨w.heap.size + 1, 4, none⟩ = some (.int .i64 yd) := Va.out.cell 4
    have c7w1 : w1.cell? ⟨w.heap.size + 1, 5, none⟩ = some (.slice R rs.length cr) := Va.out.cell 5
    have c8w1 : w1.cell? ⟨w.heap.size + 1, 6, none⟩ = some (.int .i64 rd) := Va.out.cell 6
    have c9w1 : w1.cell? ⟨w.heap.size + 1, 7, none⟩ = some (.int .i64 wn) := Va.out.cell 7
    have c10w1 : w1.cell? ⟨w.heap.size + 1, 8, none⟩ = some (.int .i64 wd) := Va.out.cell 8
    go_wp2_with fail
    go_ret
    exact ⟨ret_bool (by simp [bestB, q1]), (by (repeat (any_goals (first | exact Below.refl _ _ | exact HB1.out | refine below_drewN ?_ _ | refine Below.drew ?_ | refine Below.alloc ?_ ?_ _ | refine Below.setCell ?_ ?_ _ | refine Below.trans ?_ (Below.mono HB1.out ?_)))); all_goals (first | omega | (simp; done) | (simp; omega) | ((try have z0 := HB1.out.size); (try simp at z0); (try simp); omega)))⟩
  | true =>
  have Vp0 := Blk.next (Blk.alloc (Blk.mk' _ _ _) _) hb1; (try simp only [World.size_alloc, World.size_drew, World.size_setCell, size_drewN'] at Vp0); have Vp := Lib.hid Vp0; clear Vp0; have lVp := Vp.out.lt; have Va0 := Blk.next (Blk.mk' _ _ _) hb1; (try simp only [World.size_alloc, World.size_drew, World.size_setCell, size_drewN'] at Va0); have Va := Lib.hid Va0; clear Va0; have lVa := Va.out.lt; have HP := Lib.hid (HP.out.hop (by (repeat (any_goals (first | exact Below.refl _ _ | refine below_drewN ?_ _ | refine Below.drew ?_ | refine Below.alloc ?_ ?_ _ | refine Below.setCell ?_ ?_ _))); all_goals (first | omega | (simp; done) | (simp; omega))) hb1); have HX := Lib.hid (HX.out.hop (by (repeat (any_goals (first | exact Below.refl _ _ | refine below_drewN ?_ _ | refine Below.drew ?_ | refine Below.alloc ?_ ?_ _ | refine Below.setCell ?_ ?_ _))); all_goals (first | omega | (simp; done) | (simp; omega))) hb1); have HY := Lib.hid (HY.out.hop (by (repeat (any_goals (first | exact Below.refl _ _ | refine below_drewN ?_ _ | refine Below.drew ?_ | refine Below.alloc ?_ ?_ _ | refine Below.setCell ?_ ?_ _))); all_goals (first | omega | (simp; done) | (simp; omega))) hb1); have HR := Lib.hid (HR.out.hop (by (repeat (any_goals (first | exact Below.refl _ _ | refine below_drewN ?_ _ | refine Below.drew ?_ | refine Below.alloc ?_ ?_ _ | refine Below.setCell ?_ ?_ _))); all_goals (first | omega | (simp; done) | (simp; omega))) hb1); have zhb1 := hb1.size; (try simp only [World.size_alloc, World.size_drew, World.size_setCell, size_drewN'] at zhb1); have HB1 := Lib.hid hb1; clear hb1
  have c0w1 : w1.cell? ⟨w.heap.size, 0, none⟩ = some (.slice A p.costs.length c) := Vp.out.cell 0
  have c1w1 : w1.cell? ⟨w.heap.size, 1, none⟩ = some (.slice A2 p.rows.length c2) := Vp.out.cell 1
  have c2w1 : w1.cell? ⟨w.heap.size + 1, 0, none⟩ = some (.int .i64 kd) := Va.out.cell 0
  have c3w1 : w1.cell? ⟨w.heap.size + 1, 1, none⟩ = some (.slice X xs.length cx) := Va.out.cell 1
  have c4w1 : w1.cell? ⟨w.heap.size + 1, 2, none⟩ = some (.int .i64 xd) := Va.out.cell 2
  have c5w1 : w1.cell? ⟨w.heap.size + 1, 3, none⟩ = some (.slice Y ys.length cy) := Va.out.cell 3
  have c6w1 : w1.cell? ⟨w.heap.size + 1, 4, none⟩ = some (.int .i64 yd) := Va.out.cell 4
  have c7w1 : w1.cell? ⟨w.heap.size + 1, 5, none⟩ = some (.slice R rs.length cr) := Va.out.cell 5
  have c8w1 : w1.cell? ⟨w.heap.size + 1, 6, none⟩ = some (.int .i64 rd) := Va.out.cell 6
  have c9w1 : w1.cell? ⟨w.heap.size + 1, 7, none⟩ = some (.int .i64 wn) := Va.out.cell 7
  have c10w1 : w1.cell? ⟨w.heap.size + 1, 8, none⟩ = some (.int .i64 wd) := Va.out.cell 8
  go_wp2_with fail
  refine (layout_Goes _ _ _ _ _ _ _ _ _ _ (by exact HP.out) (by exact HX.out)).mono ?_
  rintro e w2 ⟨rfl, hb2⟩
  cases q2 : goesB p xs xd with
  | false =>
    have Vp := Lib.hid (Blk.hop Vp.out (by (repeat (any_goals (first | exact Below.refl _ _ | refine below_drewN ?_ _ | refine Below.drew ?_ | refine Below.alloc ?_ ?_ _ | refine Below.setCell ?_ ?_ _))); all_goals (first | omega | (simp; done) | (simp; omega))) hb2); have lVp := Vp.out.lt; have Va := Lib.hid (Blk.hop Va.out (by (repeat (any_goals (first | exact Below.refl _ _ | refine below_drewN ?_ _ | refine Below.drew ?_ | refine Below.alloc ?_ ?_ _ | refine Below.setCell ?_ ?_ _))); all_goals (first | omega | (simp; done) | (simp; omega))) hb2); have lVa := Va.out.lt; have HP := Lib.hid (HP.out.hop (by (repeat (any_goals (first | exact Below.refl _ _ | refine below_drewN ?_ _ | refine Below.drew ?_ | refine Below.alloc ?_ ?_ _ | refine Below.setCell ?_ ?_ _))); all_goals (first | omega | (simp; done) | (simp; omega))) hb2); have HX := Lib.hid (HX.out.hop (by (repeat (any_goals (first | exact Below.refl _ _ | refine below_drewN ?_ _ | refine Below.drew ?_ | refine Below.alloc ?_ ?_ _ | refine Below.setCell ?_ ?_ _))); all_goals (first | omega | (simp; done) | (simp; omega))) hb2); have HY := Lib.hid (HY.out.hop (by (repeat (any_goals (first | exact Below.refl _ _ | refine below_drewN ?_ _ | refine Below.drew ?_ | refine Below.alloc ?_ ?_ _ | refine Below.setCell ?_ ?_ _))); all_goals (first | omega | (simp; done) | (simp; omega))) hb2); have HR := Lib.hid (HR.out.hop (by (repeat (any_goals (first | exact Below.refl _ _ | refine below_drewN ?_ _ | refine Below.drew ?_ | refine Below.alloc ?_ ?_ _ | refine Below.setCell ?_ ?_ _))); all_goals (first | omega | (simp; done) | (simp; omega))) hb2); have zhb2 := hb2.size; (try simp only [World.size_alloc, World.size_drew, World.size_setCell, size_drewN'] at zhb2); have HB2 := Lib.hid hb2; clear hb2
    have c0w2 : w2.cell? ⟨w.heap.size, 0, none⟩ = some (.slice A p.costs.length c) := Vp.out.cell 0
    have c1w2 : w2.cell? ⟨w.heap.size, 1, none⟩ = some (.slice A2 p.rows.length c2) := Vp.out.cell 1
    have c2w2 : w2.cell? ⟨w.heap.size + 1, 0, none⟩ = some (.int .i64 kd) := Va.out.cell 0
    have c3w2 : w2.cell? ⟨w.heap.size + 1, 1, none⟩ = some (.slice X xs.length cx) := Va.out.cell 1
    have c4w2 : w2.cell? ⟨w.heap.size + 1, 2, none⟩ = some (.int .i64 xd) := Va.out.cell 2
    have c5w2 : w2.cell? ⟨w.heap.size + 1, 3, none⟩ = some (.slice Y ys.length cy) := Va.out.cell 3
    have c6w2 : w2.cell? ⟨w.heap.size + 1, 4, none⟩ = some (.int .i64 yd) := Va.out.cell 4
    have c7w2 : w2.cell? ⟨w.heap.size + 1, 5, none⟩ = some (.slice R rs.length cr) := Va.out.cell 5
    have c8w2 : w2.cell? ⟨w.heap.size + 1, 6, none⟩ = some (.int .i64 rd) := Va.out.cell 6
    have c9w2 : w2.cell? ⟨w.heap.size + 1, 7, none⟩ = some (.int .i64 wn) := Va.out.cell 7
    have c10w2 : w2.cell? ⟨w.heap.size + 1, 8, none⟩ = some (.int .i64 wd) := Va.out.cell 8
    go_wp2_with fail
    go_ret
    exact ⟨ret_bool (by simp [bestB, q2]), (by (repeat (any_goals (first | exact Below.refl _ _ | exact HB1.out | exact HB2.out | refine below_drewN ?_ _ | refine Below.drew ?_ | refine Below.alloc ?_ ?_ _ | refine Below.setCell ?_ ?_ _ | refine Below.trans ?_ (Below.mono HB1.out ?_) | refine Below.trans ?_ (Below.mono HB2.out ?_)))); all_goals (first | omega | (simp; done) | (simp; omega) | ((try have z0 := HB1.out.size); (try simp at z0); (try have z1 := HB2.out.size); (try simp at z1); (try simp); omega)))⟩
  | true =>
  have Vp := Lib.hid (Blk.hop Vp.out (by (repeat (any_goals (first | exact Below.refl _ _ | refine below_drewN ?_ _ | refine Below.drew ?_ | refine Below.alloc ?_ ?_ _ | refine Below.setCell ?_ ?_ _))); all_goals (first | omega | (simp; done) | (simp; omega))) hb2); have lVp := Vp.out.lt; have Va := Lib.hid (Blk.hop Va.out (by (repeat (any_goals (first | exact Below.refl _ _ | refine below_drewN ?_ _ | refine Below.drew ?_ | refine Below.alloc ?_ ?_ _ | refine Below.setCell ?_ ?_ _))); all_goals (first | omega | (simp; done) | (simp; omega))) hb2); have lVa := Va.out.lt; have HP := Lib.hid (HP.out.hop (by (repeat (any_goals (first | exact Below.refl _ _ | refine below_drewN ?_ _ | refine Below.drew ?_ | refine Below.alloc ?_ ?_ _ | refine Below.setCell ?_ ?_ _))); all_goals (first | omega | (simp; done) | (simp; omega))) hb2); have HX := Lib.hid (HX.out.hop (by (repeat (any_goals (first | exact Below.refl _ _ | refine below_drewN ?_ _ | refine Below.drew ?_ | refine Below.alloc ?_ ?_ _ | refine Below.setCell ?_ ?_ _))); all_goals (first | omega | (simp; done) | (simp; omega))) hb2); have HY := Lib.hid (HY.out.hop (by (repeat (any_goals (first | exact Below.refl _ _ | refine below_drewN ?_ _ | refine Below.drew ?_ | refine Below.alloc ?_ ?_ _ | refine Below.setCell ?_ ?_ _))); all_goals (first | omega | (simp; done) | (simp; omega))) hb2); have HR := Lib.hid (HR.out.hop (by (repeat (any_goals (first | exact Below.refl _ _ | refine below_drewN ?_ _ | refine Below.drew ?_ | refine Below.alloc ?_ ?_ _ | refine Below.setCell ?_ ?_ _))); all_goals (first | omega | (simp; done) | (simp; omega))) hb2); have zhb2 := hb2.size; (try simp only [World.size_alloc, World.size_drew, World.size_setCell, size_drewN'] at zhb2); have HB2 := Lib.hid hb2; clear hb2
  have c0w2 : w2.cell? ⟨w.heap.size, 0, none⟩ = some (.slice A p.costs.length c) := Vp.out.cell 0
  have c1w2 : w2.cell? ⟨w.heap.size, 1, none⟩ = some (.slice A2 p.rows.length c2) := Vp.out.cell 1
  have c2w2 : w2.cell? ⟨w.heap.size + 1, 0, none⟩ = some (.int .i64 kd) := Va.out.cell 0
  have c3w2 : w2.cell? ⟨w.heap.size + 1, 1, none⟩ = some (.slice X xs.length cx) := Va.out.cell 1
  have c4w2 : w2.cell? ⟨w.heap.size + 1, 2, none⟩ = some (.int .i64 xd) := Va.out.cell 2
  have c5w2 : w2.cell? ⟨w.heap.size + 1, 3, none⟩ = some (.slice Y ys.length cy) := Va.out.cell 3
  have c6w2 : w2.cell? ⟨w.heap.size + 1, 4, none⟩ = some (.int .i64 yd) := Va.out.cell 4
  have c7w2 : w2.cell? ⟨w.heap.size + 1, 5, none⟩ = some (.slice R rs.length cr) := Va.out.cell 5
  have c8w2 : w2.cell? ⟨w.heap.size + 1, 6, none⟩ = some (.int .i64 rd) := Va.out.cell 6
  have c9w2 : w2.cell? ⟨w.heap.size + 1, 7, none⟩ = some (.int .i64 wn) := Va.out.cell 7
  have c10w2 : w2.cell? ⟨w.heap.size + 1, 8, none⟩ = some (.int .i64 wd) := Va.out.cell 8
  go_wp2_with fail
  refine (proof_above _ _ _ _ _ _ (by exact HY.out) (by omega) (by omega)).mono ?_
  rintro e w3 ⟨rfl, hb3⟩
  cases q3 : aboveB ys yd p.rows.length with
  | false =>
    have Vp := Lib.hid (Blk.hop Vp.out (by (repeat (any_goals (first | exact Below.refl _ _ | refine below_drewN ?_ _ | refine Below.drew ?_ | refine Below.alloc ?_ ?_ _ | refine Below.setCell ?_ ?_ _))); all_goals (first | omega | (simp; done) | (simp; omega))) hb3); have lVp := Vp.out.lt; have Va := Lib.hid (Blk.hop Va.out (by (repeat (any_goals (first | exact Below.refl _ _ | refine below_drewN ?_ _ | refine Below.drew ?_ | refine Below.alloc ?_ ?_ _ | refine Below.setCell ?_ ?_ _))); all_goals (first | omega | (simp; done) | (simp; omega))) hb3); have lVa := Va.out.lt; have HP := Lib.hid (HP.out.hop (by (repeat (any_goals (first | exact Below.refl _ _ | refine below_drewN ?_ _ | refine Below.drew ?_ | refine Below.alloc ?_ ?_ _ | refine Below.setCell ?_ ?_ _))); all_goals (first | omega | (simp; done) | (simp; omega))) hb3); have HX := Lib.hid (HX.out.hop (by (repeat (any_goals (first | exact Below.refl _ _ | refine below_drewN ?_ _ | refine Below.drew ?_ | refine Below.alloc ?_ ?_ _ | refine Below.setCell ?_ ?_ _))); all_goals (first | omega | (simp; done) | (simp; omega))) hb3); have HY := Lib.hid (HY.out.hop (by (repeat (any_goals (first | exact Below.refl _ _ | refine below_drewN ?_ _ | refine Below.drew ?_ | refine Below.alloc ?_ ?_ _ | refine Below.setCell ?_ ?_ _))); all_goals (first | omega | (simp; done) | (simp; omega))) hb3); have HR := Lib.hid (HR.out.hop (by (repeat (any_goals (first | exact Below.refl _ _ | refine below_drewN ?_ _ | refine Below.drew ?_ | refine Below.alloc ?_ ?_ _ | refine Below.setCell ?_ ?_ _))); all_goals (first | omega | (simp; done) | (simp; omega))) hb3); have zhb3 := hb3.size; (try simp only [World.size_alloc, World.size_drew, World.size_setCell, size_drewN'] at zhb3); have HB3 := Lib.hid hb3; clear hb3
    have c0w3 : w3.cell? ⟨w.heap.size, 0, none⟩ = some (.slice A p.costs.length c) := Vp.out.cell 0
    have c1w3 : w3.cell? ⟨w.heap.size, 1, none⟩ = some (.slice A2 p.rows.length c2) := Vp.out.cell 1
    have c2w3 : w3.cell? ⟨w.heap.size + 1, 0, none⟩ = some (.int .i64 kd) := Va.out.cell 0
    have c3w3 : w3.cell? ⟨w.heap.size + 1, 1, none⟩ = some (.slice X xs.length cx) := Va.out.cell 1
    have c4w3 : w3.cell? ⟨w.heap.size + 1, 2, none⟩ = some (.int .i64 xd) := Va.out.cell 2
    have c5w3 : w3.cell? ⟨w.heap.size + 1, 3, none⟩ = some (.slice Y ys.length cy) := Va.out.cell 3
    have c6w3 : w3.cell? ⟨w.heap.size + 1, 4, none⟩ = some (.int .i64 yd) := Va.out.cell 4
    have c7w3 : w3.cell? ⟨w.heap.size + 1, 5, none⟩ = some (.slice R rs.length cr) := Va.out.cell 5
    have c8w3 : w3.cell? ⟨w.heap.size + 1, 6, none⟩ = some (.int .i64 rd) := Va.out.cell 6
    have c9w3 : w3.cell? ⟨w.heap.size + 1, 7, none⟩ = some (.int .i64 wn) := Va.out.cell 7
    have c10w3 : w3.cell? ⟨w.heap.size + 1, 8, none⟩ = some (.int .i64 wd) := Va.out.cell 8
    go_wp2_with fail
    go_ret
    exact ⟨ret_bool (by simp [bestB, q3]), (by (repeat (any_goals (first | exact Below.refl _ _ | exact HB1.out | exact HB2.out | exact HB3.out | refine below_drewN ?_ _ | refine Below.drew ?_ | refine Below.alloc ?_ ?_ _ | refine Below.setCell ?_ ?_ _ | refine Below.trans ?_ (Below.mono HB1.out ?_) | refine Below.trans ?_ (Below.mono HB2.out ?_) | refine Below.trans ?_ (Below.mono HB3.out ?_)))); all_goals (first | omega | (simp; done) | (simp; omega) | ((try have z0 := HB1.out.size); (try simp at z0); (try have z1 := HB2.out.size); (try simp at z1); (try have z2 := HB3.out.size); (try simp at z2); (try simp); omega)))⟩
  | true =>
  obtain ⟨hab1, hab2, hab3⟩ := aboveB_iff.1 q3
  obtain ⟨hd1, hd2, hsY, hl8⟩ := mayB_parts hab1
  have HS := Lib.hid hsY
  have HLN := Lib.hid hab2
  clear hab1 hab2 hab3 hsY
  have Vp := Lib.hid (Blk.hop Vp.out (by (repeat (any_goals (first | exact Below.refl _ _ | refine below_drewN ?_ _ | refine Below.drew ?_ | refine Below.alloc ?_ ?_ _ | refine Below.setCell ?_ ?_ _))); all_goals (first | omega | (simp; done) | (simp; omega))) hb3); have lVp := Vp.out.lt; have Va := Lib.hid (Blk.hop Va.out (by (repeat (any_goals (first | exact Below.refl _ _ | refine below_drewN ?_ _ | refine Below.drew ?_ | refine Below.alloc ?_ ?_ _ | refine Below.setCell ?_ ?_ _))); all_goals (first | omega | (simp; done) | (simp; omega))) hb3); have lVa := Va.out.lt; have HP := Lib.hid (HP.out.hop (by (repeat (any_goals (first | exact Below.refl _ _ | refine below_drewN ?_ _ | refine Below.drew ?_ | refine Below.alloc ?_ ?_ _ | refine Below.setCell ?_ ?_ _))); all_goals (first | omega | (simp; done) | (simp; omega))) hb3); have HX := Lib.hid (HX.out.hop (by (repeat (any_goals (first | exact Below.refl _ _ | refine below_drewN ?_ _ | refine Below.drew ?_ | refine Below.alloc ?_ ?_ _ | refine Below.setCell ?_ ?_ _))); all_goals (first | omega | (simp; done) | (simp; omega))) hb3); have HY := Lib.hid (HY.out.hop (by (repeat (any_goals (first | exact Below.refl _ _ | refine below_drewN ?_ _ | refine Below.drew ?_ | refine Below.alloc ?_ ?_ _ | refine Below.setCell ?_ ?_ _))); all_goals (first | omega | (simp; done) | (simp; omega))) hb3); have HR := Lib.hid (HR.out.hop (by (repeat (any_goals (first | exact Below.refl _ _ | refine below_drewN ?_ _ | refine Below.drew ?_ | refine Below.alloc ?_ ?_ _ | refine Below.setCell ?_ ?_ _))); all_goals (first | omega | (simp; done) | (simp; omega))) hb3); have zhb3 := hb3.size; (try simp only [World.size_alloc, World.size_drew, World.size_setCell, size_drewN'] at zhb3); have HB3 := Lib.hid hb3; clear hb3
  have c0w3 : w3.cell? ⟨w.heap.size, 0, none⟩ = some (.slice A p.costs.length c) := Vp.out.cell 0
  have c1w3 : w3.cell? ⟨w.heap.size, 1, none⟩ = some (.slice A2 p.rows.length c2) := Vp.out.cell 1
  have c2w3 : w3.cell? ⟨w.heap.size + 1, 0, none⟩ = some (.int .i64 kd) := Va.out.cell 0
  have c3w3 : w3.cell? ⟨w.heap.size + 1, 1, none⟩ = some (.slice X xs.length cx) := Va.out.cell 1
  have c4w3 : w3.cell? ⟨w.heap.size + 1, 2, none⟩ = some (.int .i64 xd) := Va.out.cell 2
  have c5w3 : w3.cell? ⟨w.heap.size + 1, 3, none⟩ = some (.slice Y ys.length cy) := Va.out.cell 3
  have c6w3 : w3.cell? ⟨w.heap.size + 1, 4, none⟩ = some (.int .i64 yd) := Va.out.cell 4
  have c7w3 : w3.cell? ⟨w.heap.size + 1, 5, none⟩ = some (.slice R rs.length cr) := Va.out.cell 5
  have c8w3 : w3.cell? ⟨w.heap.size + 1, 6, none⟩ = some (.int .i64 rd) := Va.out.cell 6
  have c9w3 : w3.cell? ⟨w.heap.size + 1, 7, none⟩ = some (.int .i64 wn) := Va.out.cell 7
  have c10w3 : w3.cell? ⟨w.heap.size + 1, 8, none⟩ = some (.int .i64 wd) := Va.out.cell 8
  go_wp2_with fail
  refine (proof_covers _ _ _ _ _ _ _ _ _ _ _ (by exact HP.out) (by exact HY.out) HM.out HS.out HLN.out (by omega) (by omega)).mono ?_
  rintro e w4 ⟨rfl, hb4⟩
  cases q4 : coversB p ys yd with
  | false =>
    have Vp := Lib.hid (Blk.hop Vp.out (by (repeat (any_goals (first | exact Below.refl _ _ | refine below_drewN ?_ _ | refine Below.drew ?_ | refine Below.alloc ?_ ?_ _ | refine Below.setCell ?_ ?_ _))); all_goals (first | omega | (simp; done) | (simp; omega))) hb4); have lVp := Vp.out.lt; have Va := Lib.hid (Blk.hop Va.out (by (repeat (any_goals (first | exact Below.refl _ _ | refine below_drewN ?_ _ | refine Below.drew ?_ | refine Below.alloc ?_ ?_ _ | refine Below.setCell ?_ ?_ _))); all_goals (first | omega | (simp; done) | (simp; omega))) hb4); have lVa := Va.out.lt; have HP := Lib.hid (HP.out.hop (by (repeat (any_goals (first | exact Below.refl _ _ | refine below_drewN ?_ _ | refine Below.drew ?_ | refine Below.alloc ?_ ?_ _ | refine Below.setCell ?_ ?_ _))); all_goals (first | omega | (simp; done) | (simp; omega))) hb4); have HX := Lib.hid (HX.out.hop (by (repeat (any_goals (first | exact Below.refl _ _ | refine below_drewN ?_ _ | refine Below.drew ?_ | refine Below.alloc ?_ ?_ _ | refine Below.setCell ?_ ?_ _))); all_goals (first | omega | (simp; done) | (simp; omega))) hb4); have HY := Lib.hid (HY.out.hop (by (repeat (any_goals (first | exact Below.refl _ _ | refine below_drewN ?_ _ | refine Below.drew ?_ | refine Below.alloc ?_ ?_ _ | refine Below.setCell ?_ ?_ _))); all_goals (first | omega | (simp; done) | (simp; omega))) hb4); have HR := Lib.hid (HR.out.hop (by (repeat (any_goals (first | exact Below.refl _ _ | refine below_drewN ?_ _ | refine Below.drew ?_ | refine Below.alloc ?_ ?_ _ | refine Below.setCell ?_ ?_ _))); all_goals (first | omega | (simp; done) | (simp; omega))) hb4); have zhb4 := hb4.size; (try simp only [World.size_alloc, World.size_drew, World.size_setCell, size_drewN'] at zhb4); have HB4 := Lib.hid hb4; clear hb4
    have c0w4 : w4.cell? ⟨w.heap.size, 0, none⟩ = some (.slice A p.costs.length c) := Vp.out.cell 0
    have c1w4 : w4.cell? ⟨w.heap.size, 1, none⟩ = some (.slice A2 p.rows.length c2) := Vp.out.cell 1
    have c2w4 : w4.cell? ⟨w.heap.size + 1, 0, none⟩ = some (.int .i64 kd) := Va.out.cell 0
    have c3w4 : w4.cell? ⟨w.heap.size + 1, 1, none⟩ = some (.slice X xs.length cx) := Va.out.cell 1
    have c4w4 : w4.cell? ⟨w.heap.size + 1, 2, none⟩ = some (.int .i64 xd) := Va.out.cell 2
    have c5w4 : w4.cell? ⟨w.heap.size + 1, 3, none⟩ = some (.slice Y ys.length cy) := Va.out.cell 3
    have c6w4 : w4.cell? ⟨w.heap.size + 1, 4, none⟩ = some (.int .i64 yd) := Va.out.cell 4
    have c7w4 : w4.cell? ⟨w.heap.size + 1, 5, none⟩ = some (.slice R rs.length cr) := Va.out.cell 5
    have c8w4 : w4.cell? ⟨w.heap.size + 1, 6, none⟩ = some (.int .i64 rd) := Va.out.cell 6
    have c9w4 : w4.cell? ⟨w.heap.size + 1, 7, none⟩ = some (.int .i64 wn) := Va.out.cell 7
    have c10w4 : w4.cell? ⟨w.heap.size + 1, 8, none⟩ = some (.int .i64 wd) := Va.out.cell 8
    go_wp2_with fail
    go_ret
    exact ⟨ret_bool (by simp [bestB, q4]), (by (repeat (any_goals (first | exact Below.refl _ _ | exact HB1.out | exact HB2.out | exact HB3.out | exact HB4.out | refine below_drewN ?_ _ | refine Below.drew ?_ | refine Below.alloc ?_ ?_ _ | refine Below.setCell ?_ ?_ _ | refine Below.trans ?_ (Below.mono HB1.out ?_) | refine Below.trans ?_ (Below.mono HB2.out ?_) | refine Below.trans ?_ (Below.mono HB3.out ?_) | refine Below.trans ?_ (Below.mono HB4.out ?_)))); all_goals (first | omega | (simp; done) | (simp; omega) | ((try have z0 := HB1.out.size); (try simp at z0); (try have z1 := HB2.out.size); (try simp at z1); (try have z2 := HB3.out.size); (try simp at z2); (try have z3 := HB4.out.size); (try simp at z3); (try simp); omega)))⟩
  | true =>
  have Vp := Lib.hid (Blk.hop Vp.out (by (repeat (any_goals (first | exact Below.refl _ _ | refine below_drewN ?_ _ | refine Below.drew ?_ | refine Below.alloc ?_ ?_ _ | refine Below.setCell ?_ ?_ _))); all_goals (first | omega | (simp; done) | (simp; omega))) hb4); have lVp := Vp.out.lt; have Va := Lib.hid (Blk.hop Va.out (by (repeat (any_goals (first | exact Below.refl _ _ | refine below_drewN ?_ _ | refine Below.drew ?_ | refine Below.alloc ?_ ?_ _ | refine Below.setCell ?_ ?_ _))); all_goals (first | omega | (simp; done) | (simp; omega))) hb4); have lVa := Va.out.lt; have HP := Lib.hid (HP.out.hop (by (repeat (any_goals (first | exact Below.refl _ _ | refine below_drewN ?_ _ | refine Below.drew ?_ | refine Below.alloc ?_ ?_ _ | refine Below.setCell ?_ ?_ _))); all_goals (first | omega | (simp; done) | (simp; omega))) hb4); have HX := Lib.hid (HX.out.hop (by (repeat (any_goals (first | exact Below.refl _ _ | refine below_drewN ?_ _ | refine Below.drew ?_ | refine Below.alloc ?_ ?_ _ | refine Below.setCell ?_ ?_ _))); all_goals (first | omega | (simp; done) | (simp; omega))) hb4); have HY := Lib.hid (HY.out.hop (by (repeat (any_goals (first | exact Below.refl _ _ | refine below_drewN ?_ _ | refine Below.drew ?_ | refine Below.alloc ?_ ?_ _ | refine Below.setCell ?_ ?_ _))); all_goals (first | omega | (simp; done) | (simp; omega))) hb4); have HR := Lib.hid (HR.out.hop (by (repeat (any_goals (first | exact Below.refl _ _ | refine below_drewN ?_ _ | refine Below.drew ?_ | refine Below.alloc ?_ ?_ _ | refine Below.setCell ?_ ?_ _))); all_goals (first | omega | (simp; done) | (simp; omega))) hb4); have zhb4 := hb4.size; (try simp only [World.size_alloc, World.size_drew, World.size_setCell, size_drewN'] at zhb4); have HB4 := Lib.hid hb4; clear hb4
  have c0w4 : w4.cell? ⟨w.heap.size, 0, none⟩ = some (.slice A p.costs.length c) := Vp.out.cell 0
  have c1w4 : w4.cell? ⟨w.heap.size, 1, none⟩ = some (.slice A2 p.rows.length c2) := Vp.out.cell 1
  have c2w4 : w4.cell? ⟨w.heap.size + 1, 0, none⟩ = some (.int .i64 kd) := Va.out.cell 0
  have c3w4 : w4.cell? ⟨w.heap.size + 1, 1, none⟩ = some (.slice X xs.length cx) := Va.out.cell 1
  have c4w4 : w4.cell? ⟨w.heap.size + 1, 2, none⟩ = some (.int .i64 xd) := Va.out.cell 2
  have c5w4 : w4.cell? ⟨w.heap.size + 1, 3, none⟩ = some (.slice Y ys.length cy) := Va.out.cell 3
  have c6w4 : w4.cell? ⟨w.heap.size + 1, 4, none⟩ = some (.int .i64 yd) := Va.out.cell 4
  have c7w4 : w4.cell? ⟨w.heap.size + 1, 5, none⟩ = some (.slice R rs.length cr) := Va.out.cell 5
  have c8w4 : w4.cell? ⟨w.heap.size + 1, 6, none⟩ = some (.int .i64 rd) := Va.out.cell 6
  have c9w4 : w4.cell? ⟨w.heap.size + 1, 7, none⟩ = some (.int .i64 wn) := Va.out.cell 7
  have c10w4 : w4.cell? ⟨w.heap.size + 1, 8, none⟩ = some (.int .i64 wd) := Va.out.cell 8
  go_wp2_with fail
  refine (layout_Worth _ _ _ _ _ _ _ _ _ _ (by exact HP.out) (by exact HX.out)).mono ?_
  rintro e w5 ⟨rfl, hb5⟩
  have Vp := Lib.hid (Blk.hop Vp.out (by (repeat (any_goals (first | exact Below.refl _ _ | refine below_drewN ?_ _ | refine Below.drew ?_ | refine Below.alloc ?_ ?_ _ | refine Below.setCell ?_ ?_ _))); all_goals (first | omega | (simp; done) | (simp; omega))) hb5); have lVp := Vp.out.lt; have Va := Lib.hid (Blk.hop Va.out (by (repeat (any_goals (first | exact Below.refl _ _ | refine below_drewN ?_ _ | refine Below.drew ?_ | refine Below.alloc ?_ ?_ _ | refine Below.setCell ?_ ?_ _))); all_goals (first | omega | (simp; done) | (simp; omega))) hb5); have lVa := Va.out.lt; have HP := Lib.hid (HP.out.hop (by (repeat (any_goals (first | exact Below.refl _ _ | refine below_drewN ?_ _ | refine Below.drew ?_ | refine Below.alloc ?_ ?_ _ | refine Below.setCell ?_ ?_ _))); all_goals (first | omega | (simp; done) | (simp; omega))) hb5); have HX := Lib.hid (HX.out.hop (by (repeat (any_goals (first | exact Below.refl _ _ | refine below_drewN ?_ _ | refine Below.drew ?_ | refine Below.alloc ?_ ?_ _ | refine Below.setCell ?_ ?_ _))); all_goals (first | omega | (simp; done) | (simp; omega))) hb5); have HY := Lib.hid (HY.out.hop (by (repeat (any_goals (first | exact Below.refl _ _ | refine below_drewN ?_ _ | refine Below.drew ?_ | refine Below.alloc ?_ ?_ _ | refine Below.setCell ?_ ?_ _))); all_goals (first | omega | (simp; done) | (simp; omega))) hb5); have HR := Lib.hid (HR.out.hop (by (repeat (any_goals (first | exact Below.refl _ _ | refine below_drewN ?_ _ | refine Below.drew ?_ | refine Below.alloc ?_ ?_ _ | refine Below.setCell ?_ ?_ _))); all_goals (first | omega | (simp; done) | (simp; omega))) hb5); have zhb5 := hb5.size; (try simp only [World.size_alloc, World.size_drew, World.size_setCell, size_drewN'] at zhb5); have HB5 := Lib.hid hb5; clear hb5
  go_wp2_with fail
  have Vn := Lib.hid (Blk.new w5 38 #[.int .i64 (worN p xs xd), .int .i64 (worD p xs xd)] _ rfl)
  have hW := ((by (repeat (any_goals (first | exact Below.refl _ _ | refine below_drewN ?_ _ | refine Below.drew ?_ | refine Below.alloc ?_ ?_ _ | refine Below.setCell ?_ ?_ _))); all_goals (first | omega | (simp; done) | (simp; omega))) : Below w5.heap.size w5 (w5.alloc (.cells #[.int .i64 (worN p xs xd), .int .i64 (worD p xs xd)] 38)))
  have Vp' := Lib.hid (Vp.out.next hW)
  have Va' := Lib.hid (Va.out.next hW)
  have HPw := Lib.hid (HP.out.below hW)
  have HYw := Lib.hid (HY.out.below hW)
  have HW := Lib.hid hW
  clear hW Vp Va HP HX HY HR
  generalize (w5.alloc (.cells #[.int .i64 (worN p xs xd), .int .i64 (worD p xs xd)] 38)) = W at *
  have lVp := Vp'.out.lt
  have lVa := Va'.out.lt
  have lVn := Vn.out.lt
  have SK := Lib.hid (show ∀ w', Below W.heap.size W w' → (w'.cell? ⟨w.heap.size, 0, none⟩ = some (.slice A p.costs.length c) ∧ w'.cell? ⟨w.heap.size, 1, none⟩ = some (.slice A2 p.rows.length c2) ∧ w'.cell? ⟨w.heap.size + 1, 3, none⟩ = some (.slice Y ys.length cy) ∧ w'.cell? ⟨w.heap.size + 1, 4, none⟩ = some (.int .i64 yd)) from fun w' h => ⟨(Vp'.out.next h).cell 0, (Vp'.out.next h).cell 1, (Va'.out.next h).cell 3, (Va'.out.next h).cell 4⟩)
  have hT := Below.refl W.heap.size W
  go_region_held3 (fun w' => (w'.cell? ⟨w.heap.size, 0, none⟩ = some (.slice A p.costs.length c) ∧ w'.cell? ⟨w.heap.size, 1, none⟩ = some (.slice A2 p.rows.length c2) ∧ w'.cell? ⟨w.heap.size + 1, 3, none⟩ = some (.slice Y ys.length cy) ∧ w'.cell? ⟨w.heap.size + 1, 4, none⟩ = some (.int .i64 yd)))
    (first | (refine SK.out _ ?_; exact (by (repeat (any_goals (first | exact Below.refl _ _ | exact hT | refine below_drewN ?_ _ | refine Below.drew ?_ | refine Below.alloc ?_ ?_ _ | refine Below.setCell ?_ ?_ _ | refine Below.trans ?_ (Below.mono hT ?_)))); all_goals (first | omega | (simp; done) | (simp; omega) | ((try have z0 := hT.size); (try simp at z0); (try simp); omega)))))
    (first
      | (go_at_call 117; refine (proof_Mosts _ _ _ _ _ _ (HPw.out.below (by (repeat (any_goals (first | exact Below.refl _ _ | exact hT | refine below_drewN ?_ _ | refine Below.drew ?_ | refine Below.alloc ?_ ?_ _ | refine Below.setCell ?_ ?_ _ | refine Below.trans ?_ (Below.mono hT ?_)))); all_goals (first | omega | (simp; done) | (simp; omega) | ((try have z0 := hT.size); (try simp at z0); (try simp); omega)))) (by omega)).mono ?_; rintro e w8 ⟨A8, c8, rfl, hr8, hb8⟩; replace hT : Below W.heap.size W w8 := (by (repeat (any_goals (first | exact Below.refl _ _ | exact hT | exact hb8 | refine below_drewN ?_ _ | refine Below.drew ?_ | refine Below.alloc ?_ ?_ _ | refine Below.setCell ?_ ?_ _ | refine Below.trans ?_ (Below.mono hT ?_) | refine Below.trans ?_ (Below.mono hb8 ?_)))); all_goals (first | omega | (simp; done) | (simp; omega) | ((try have z0 := hT.size); (try simp at z0); (try have z1 := hb8.size); (try simp at z1); (try simp); omega))); have z8 := hT.size; (try (have hQ : Blk w8 W.heap.size 38 #[.int .i64 0, .int .i64 0] := Blk.next (by first | exact Blk.mk' _ _ _ | exact Blk.drewN (Blk.mk' _ _ _) _ | exact Blk.drew (Blk.mk' _ _ _) | exact Blk.drewN (Blk.drew (Blk.mk' _ _ _)) _) hb8; have y0 : w8.cell? ⟨W.heap.size, 0, none⟩ = some (.int .i64 0) := hQ.cell 0; have y1 : w8.cell? ⟨W.heap.size, 1, none⟩ = some (.int .i64 0) := hQ.cell 1; have y2 := hQ.frozen 0; have y3 := hQ.frozen 1)); clear hb8)
      | (go_at_call 80; refine (layout_Dot0 _ _ _ _ _ _ 12 1073741824 _ (hr8.below (by (repeat (any_goals (first | exact Below.refl _ _ | refine below_drewN ?_ _ | refine Below.drew ?_ | refine Below.alloc ?_ ?_ _ | refine Below.setCell ?_ ?_ _))); all_goals (first | omega | (simp; done) | (simp; omega)))) (HYw.out.below (by (repeat (any_goals (first | exact Below.refl _ _ | exact hT | refine below_drewN ?_ _ | refine Below.drew ?_ | refine Below.alloc ?_ ?_ _ | refine Below.setCell ?_ ?_ _ | refine Below.trans ?_ (Below.mono hT ?_)))); all_goals (first | omega | (simp; done) | (simp; omega) | ((try have z0 := hT.size); (try simp at z0); (try simp); omega)))) (by rw [length_mosts]; have := HLN.out; omega) (by omega) (by omega) (mosts_small HM.out) HS.out (by rw [length_mosts]; omega)).mono ?_; rintro e w9 ⟨rfl, rfl⟩)
      | (go_at_call 81; refine (frac_Make _ _ _).mono ?_; rintro e w10 ⟨rfl, hb10⟩; replace hT : Below W.heap.size W w10 := (by (repeat (any_goals (first | exact Below.refl _ _ | exact hT | exact hb10 | refine below_drewN ?_ _ | refine Below.drew ?_ | refine Below.alloc ?_ ?_ _ | refine Below.setCell ?_ ?_ _ | refine Below.trans ?_ (Below.mono hT ?_) | refine Below.trans ?_ (Below.mono hb10 ?_)))); all_goals (first | omega | (simp; done) | (simp; omega) | ((try have z0 := hT.size); (try simp at z0); (try have z1 := hb10.size); (try simp at z1); (try simp); omega))); (try (have hR : Blk w10 W.heap.size 38 #[.int .i64 0, .int .i64 0] := Blk.next (by first | exact hQ | exact Blk.drewN hQ _ | exact Blk.drew hQ | exact Blk.drewN (Blk.drew hQ) _) hb10; have y0 : w10.cell? ⟨W.heap.size, 0, none⟩ = some (.int .i64 0) := hR.cell 0; have y1 : w10.cell? ⟨W.heap.size, 1, none⟩ = some (.int .i64 0) := hR.cell 1; have y2 := hR.frozen 0; have y3 := hR.frozen 1)); (try (have hR : Blk w10 w8.heap.size 38 #[.int .i64 0, .int .i64 0] := Blk.next (by first | exact Blk.mk' _ _ _ | exact Blk.drewN (Blk.mk' _ _ _) _ | exact Blk.drew (Blk.mk' _ _ _) | exact Blk.drewN (Blk.drew (Blk.mk' _ _ _)) _) hb10; have y0 : w10.cell? ⟨w8.heap.size, 0, none⟩ = some (.int .i64 0) := hR.cell 0; have y1 : w10.cell? ⟨w8.heap.size, 1, none⟩ = some (.int .i64 0) := hR.cell 1; have y2 := hR.frozen 0; have y3 := hR.frozen 1)); (try (have hR : Blk w10 w9.heap.size 38 #[.int .i64 0, .int .i64 0] := Blk.next (by first | exact Blk.mk' _ _ _ | exact Blk.drewN (Blk.mk' _ _ _) _ | exact Blk.drew (Blk.mk' _ _ _) | exact Blk.drewN (Blk.drew (Blk.mk' _ _ _)) _) hb10; have y0 : w10.cell? ⟨w9.heap.size, 0, none⟩ = some (.int .i64 0) := hR.cell 0; have y1 : w10.cell? ⟨w9.heap.size, 1, none⟩ = some (.int .i64 0) := hR.cell 1; have y2 := hR.frozen 0; have y3 := hR.frozen 1)); clear hb10))
  all_goals
    have zT := hT.size
    have d0 : w10.cell? ⟨w5.heap.size, 0, none⟩ = some (.int .i64 (worN p xs xd)) := (Vn.out.next hT).cell 0
    have d1 : w10.cell? ⟨w5.heap.size, 1, none⟩ = some (.int .i64 (worD p xs xd)) := (Vn.out.next hT).cell 1
    have d2 : w10.cell? ⟨w.heap.size + 1, 7, none⟩ = some (.int .i64 wn) := (Va'.out.next hT).cell 7
    have d3 : w10.cell? ⟨w.heap.size + 1, 8, none⟩ = some (.int .i64 wd) := (Va'.out.next hT).cell 8
    have d4 : w5.heap.size < w10.heap.size := by omega
    have d5 : w.heap.size + 1 < w10.heap.size := by omega
    have HT := Lib.hid hT
    clear hT
    have hv : bestB p ⟨kd, xs, xd, ys, yd, rs, rd, wn, wd⟩ = (decide (worE p xs xd = 0) && (decide (ptE [dot (mosts p) ys] yd = 0) && ((decide (worN p xs xd = wn) && decide (worD p xs xd = wd)) && (decide (frN (dot (mosts p) ys) yd = worN p xs xd) && decide (ptD [dot (mosts p) ys] yd = worD p xs xd))))) := by
      simp [bestB, q1, q2, q3, q4]
    have HV := Lib.hid hv
    clear hv
    by_cases e1 : worE p xs xd = 0
    rotate_left
    ·
      go_wp2_with fail
      go_ret
      exact ⟨ret_bool (by rw [HV.out]; simp_all), (by (repeat (any_goals (first | exact Below.refl _ _ | exact HB1.out | exact HB2.out | exact HB3.out | exact HB4.out | exact HB5.out | exact HW.out | exact HT.out | refine below_drewN ?_ _ | refine Below.drew ?_ | refine Below.alloc ?_ ?_ _ | refine Below.setCell ?_ ?_ _ | refine Below.trans ?_ (Below.mono HB1.out ?_) | refine Below.trans ?_ (Below.mono HB2.out ?_) | refine Below.trans ?_ (Below.mono HB3.out ?_) | refine Below.trans ?_ (Below.mono HB4.out ?_) | refine Below.trans ?_ (Below.mono HB5.out ?_) | refine Below.trans ?_ (Below.mono HW.out ?_) | refine Below.trans ?_ (Below.mono HT.out ?_)))); all_goals (first | omega | (simp; done) | (simp; omega) | ((try have z0 := HB1.out.size); (try simp at z0); (try have z1 := HB2.out.size); (try simp at z1); (try have z2 := HB3.out.size); (try simp at z2); (try have z3 := HB4.out.size); (try simp at z3); (try have z4 := HB5.out.size); (try simp at z4); (try have z5 := HW.out.size); (try simp at z5); (try have z6 := HT.out.size); (try simp at z6); (try simp); omega)))⟩
    by_cases e2 : ptE [dot (mosts p) ys] yd = 0
    rotate_left
    ·
      go_wp2_with fail
      go_ret
      exact ⟨ret_bool (by rw [HV.out]; simp_all), (by (repeat (any_goals (first | exact Below.refl _ _ | exact HB1.out | exact HB2.out | exact HB3.out | exact HB4.out | exact HB5.out | exact HW.out | exact HT.out | refine below_drewN ?_ _ | refine Below.drew ?_ | refine Below.alloc ?_ ?_ _ | refine Below.setCell ?_ ?_ _ | refine Below.trans ?_ (Below.mono HB1.out ?_) | refine Below.trans ?_ (Below.mono HB2.out ?_) | refine Below.trans ?_ (Below.mono HB3.out ?_) | refine Below.trans ?_ (Below.mono HB4.out ?_) | refine Below.trans ?_ (Below.mono HB5.out ?_) | refine Below.trans ?_ (Below.mono HW.out ?_) | refine Below.trans ?_ (Below.mono HT.out ?_)))); all_goals (first | omega | (simp; done) | (simp; omega) | ((try have z0 := HB1.out.size); (try simp at z0); (try have z1 := HB2.out.size); (try simp at z1); (try have z2 := HB3.out.size); (try simp at z2); (try have z3 := HB4.out.size); (try simp at z3); (try have z4 := HB5.out.size); (try simp at z4); (try have z5 := HW.out.size); (try simp at z5); (try have z6 := HT.out.size); (try simp at z6); (try simp); omega)))⟩
    by_cases e3 : worN p xs xd = wn
    rotate_left
    ·
      go_wp2_with fail
      go_ret
      exact ⟨ret_bool (by rw [HV.out]; simp_all), (by (repeat (any_goals (first | exact Below.refl _ _ | exact HB1.out | exact HB2.out | exact HB3.out | exact HB4.out | exact HB5.out | exact HW.out | exact HT.out | refine below_drewN ?_ _ | refine Below.drew ?_ | refine Below.alloc ?_ ?_ _ | refine Below.setCell ?_ ?_ _ | refine Below.trans ?_ (Below.mono HB1.out ?_) | refine Below.trans ?_ (Below.mono HB2.out ?_) | refine Below.trans ?_ (Below.mono HB3.out ?_) | refine Below.trans ?_ (Below.mono HB4.out ?_) | refine Below.trans ?_ (Below.mono HB5.out ?_) | refine Below.trans ?_ (Below.mono HW.out ?_) | refine Below.trans ?_ (Below.mono HT.out ?_)))); all_goals (first | omega | (simp; done) | (simp; omega) | ((try have z0 := HB1.out.size); (try simp at z0); (try have z1 := HB2.out.size); (try simp at z1); (try have z2 := HB3.out.size); (try simp at z2); (try have z3 := HB4.out.size); (try simp at z3); (try have z4 := HB5.out.size); (try simp at z4); (try have z5 := HW.out.size); (try simp at z5); (try have z6 := HT.out.size); (try simp at z6); (try simp); omega)))⟩
    by_cases e4 : worD p xs xd = wd
    rotate_left
    ·
      go_wp2_with fail
      go_ret
      exact ⟨ret_bool (by rw [HV.out]; simp_all), (by (repeat (any_goals (first | exact Below.refl _ _ | exact HB1.out | exact HB2.out | exact HB3.out | exact HB4.out | exact HB5.out | exact HW.out | exact HT.out | refine below_drewN ?_ _ | refine Below.drew ?_ | refine Below.alloc ?_ ?_ _ | refine Below.setCell ?_ ?_ _ | refine Below.trans ?_ (Below.mono HB1.out ?_) | refine Below.trans ?_ (Below.mono HB2.out ?_) | refine Below.trans ?_ (Below.mono HB3.out ?_) | refine Below.trans ?_ (Below.mono HB4.out ?_) | refine Below.trans ?_ (Below.mono HB5.out ?_) | refine Below.trans ?_ (Below.mono HW.out ?_) | refine Below.trans ?_ (Below.mono HT.out ?_)))); all_goals (first | omega | (simp; done) | (simp; omega) | ((try have z0 := HB1.out.size); (try simp at z0); (try have z1 := HB2.out.size); (try simp at z1); (try have z2 := HB3.out.size); (try simp at z2); (try have z3 := HB4.out.size); (try simp at z3); (try have z4 := HB5.out.size); (try simp at z4); (try have z5 := HW.out.size); (try simp at z5); (try have z6 := HT.out.size); (try simp at z6); (try simp); omega)))⟩
    by_cases e5 : frN (dot (mosts p) ys) yd = worN p xs xd
    rotate_left
    ·
      go_wp2_with fail
      go_ret
      exact ⟨ret_bool (by rw [HV.out]; simp_all), (by (repeat (any_goals (first | exact Below.refl _ _ | exact HB1.out | exact HB2.out | exact HB3.out | exact HB4.out | exact HB5.out | exact HW.out | exact HT.out | refine below_drewN ?_ _ | refine Below.drew ?_ | refine Below.alloc ?_ ?_ _ | refine Below.setCell ?_ ?_ _ | refine Below.trans ?_ (Below.mono HB1.out ?_) | refine Below.trans ?_ (Below.mono HB2.out ?_) | refine Below.trans ?_ (Below.mono HB3.out ?_) | refine Below.trans ?_ (Below.mono HB4.out ?_) | refine Below.trans ?_ (Below.mono HB5.out ?_) | refine Below.trans ?_ (Below.mono HW.out ?_) | refine Below.trans ?_ (Below.mono HT.out ?_)))); all_goals (first | omega | (simp; done) | (simp; omega) | ((try have z0 := HB1.out.size); (try simp at z0); (try have z1 := HB2.out.size); (try simp at z1); (try have z2 := HB3.out.size); (try simp at z2); (try have z3 := HB4.out.size); (try simp at z3); (try have z4 := HB5.out.size); (try simp at z4); (try have z5 := HW.out.size); (try simp at z5); (try have z6 := HT.out.size); (try simp at z6); (try simp); omega)))⟩
    by_cases e6 : ptD [dot (mosts p) ys] yd = worD p xs xd
    rotate_left
    ·
      go_wp2_with fail
      go_ret
      exact ⟨ret_bool (by rw [HV.out]; simp_all), (by (repeat (any_goals (first | exact Below.refl _ _ | exact HB1.out | exact HB2.out | exact HB3.out | exact HB4.out | exact HB5.out | exact HW.out | exact HT.out | refine below_drewN ?_ _ | refine Below.drew ?_ | refine Below.alloc ?_ ?_ _ | refine Below.setCell ?_ ?_ _ | refine Below.trans ?_ (Below.mono HB1.out ?_) | refine Below.trans ?_ (Below.mono HB2.out ?_) | refine Below.trans ?_ (Below.mono HB3.out ?_) | refine Below.trans ?_ (Below.mono HB4.out ?_) | refine Below.trans ?_ (Below.mono HB5.out ?_) | refine Below.trans ?_ (Below.mono HW.out ?_) | refine Below.trans ?_ (Below.mono HT.out ?_)))); all_goals (first | omega | (simp; done) | (simp; omega) | ((try have z0 := HB1.out.size); (try simp at z0); (try have z1 := HB2.out.size); (try simp at z1); (try have z2 := HB3.out.size); (try simp at z2); (try have z3 := HB4.out.size); (try simp at z3); (try have z4 := HB5.out.size); (try simp at z4); (try have z5 := HW.out.size); (try simp at z5); (try have z6 := HT.out.size); (try simp at z6); (try simp); omega)))⟩
    go_wp2_with fail
    go_ret
    exact ⟨ret_bool (by rw [HV.out]; simp_all), (by (repeat (any_goals (first | exact Below.refl _ _ | exact HB1.out | exact HB2.out | exact HB3.out | exact HB4.out | exact HB5.out | exact HW.out | exact HT.out | refine below_drewN ?_ _ | refine Below.drew ?_ | refine Below.alloc ?_ ?_ _ | refine Below.setCell ?_ ?_ _ | refine Below.trans ?_ (Below.mono HB1.out ?_) | refine Below.trans ?_ (Below.mono HB2.out ?_) | refine Below.trans ?_ (Below.mono HB3.out ?_) | refine Below.trans ?_ (Below.mono HB4.out ?_) | refine Below.trans ?_ (Below.mono HB5.out ?_) | refine Below.trans ?_ (Below.mono HW.out ?_) | refine Below.trans ?_ (Below.mono HT.out ?_)))); all_goals (first | omega | (simp; done) | (simp; omega) | ((try have z0 := HB1.out.size); (try simp at z0); (try have z1 := HB2.out.size); (try simp at z1); (try have z2 := HB3.out.size); (try simp at z2); (try have z3 := HB4.out.size); (try simp at z3); (try have z4 := HB5.out.size); (try simp at z4); (try have z5 := HW.out.size); (try simp at z5); (try have z6 := HT.out.size); (try simp at z6); (try simp); omega)))⟩
end Go.Proofs.Ytjcdkbalhleeeab
