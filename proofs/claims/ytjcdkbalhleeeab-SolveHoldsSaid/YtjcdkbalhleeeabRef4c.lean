/-
  Walk: the document's Holds, of Endless.
-/
import Derived.Test.YtjcdkbalhleeeabRef4
import Derived.Test.YtjcdkbalhleeeabJRefA
import Derived.Test.YtjcdkbalhleeeabRef4b
namespace Go.Proofs.Ytjcdkbalhleeeab
open Go.RowKit

section
variable (A : Option Addr) (c : Nat) (A2 : Option Addr) (c2 : Nat) (p : PG) (X : Option Addr) (cx : Nat) (Y : Option Addr) (cy : Nat) (R : Option Addr) (cr : Nat) (kd : Int) (xs : List Int) (xd : Int) (ys : List Int) (yd : Int) (rs : List Int) (rd wn wd : Int) (w : World)

set_option maxRecDepth 100000 in
set_option maxHeartbeats 2000000 in
theorem ref4_E1n (hp : Pg w A c A2 c2 p) (hx : Rd w X cx xs) (hy : Rd w Y cy ys) (hr : Rd w R cr rs) (hm : mayPB p = true) (hz : (wn == 0) = false) (q1 : emptyB ys yd = false) :
    Calls Try.prog 24 #[.agg #[.slice A p.costs.length c, .slice A2 p.rows.length c2],
      .agg #[.int .i64 2, .slice X xs.length cx, .int .i64 xd, .slice Y ys.length cy, .int .i64 yd, .slice R rs.length cr, .int .i64 rd, .int .i64 wn, .int .i64 wd]] w
      fun e w' => e = .returned (.bool (false)) ∧ Below w.heap.size w w' := by
  have HP := Lib.hid hp
  have HX := Lib.hid hx
  have HY := Lib.hid hy
  have HR := Lib.hid hr
  have HM := Lib.hid hm
  obtain ⟨⟨hl, hc, hsm, _⟩, ⟨hl2, hc2, hsm2, _⟩⟩ := hp
  have h4 : p.rows.length ≤ 4 := (mayPB_iff.1 hm).2.2.2.1
  have h4' : p.costs.length ≤ 4 := (mayPB_iff.1 hm).2.1
  have h5' : 1 ≤ p.costs.length := (mayPB_iff.1 hm).1
  clear hm hx hy hr
  go_enter Try.func24, Try.ntmps24
  go_wp2_with fail
  have Vp := Lib.hid (((Blk.new w 25 #[.slice A p.costs.length c, .slice A2 p.rows.length c2] _ rfl).alloc (.cells #[.int .i64 2, .slice X xs.length cx, .int .i64 xd, .slice Y ys.length cy, .int .i64 yd, .slice R rs.length cr, .int .i64 rd, .int .i64 wn, .int .i64 wd] 57)))
  have Va := Lib.hid (Blk.new (w.alloc (.cells #[.slice A p.costs.length c, .slice A2 p.rows.length c2] 25)) 57 #[.int .i64 2, .slice X xs.length cx, .int .i64 xd, .slice Y ys.length cy, .int .i64 yd, .slice R rs.length cr, .int .i64 rd, .int .i64 wn, .int .i64 wd] (w.heap.size + 1) (by simp))
  have hW := ((by (repeat (any_goals (first | exact Below.refl _ _ | refine below_drewN ?_ _ | refine Below.drew ?_ | refine Below.alloc ?_ ?_ _ | refine Below.setCell ?_ ?_ _))); all_goals (first | omega | (simp; done) | (simp; omega))) : Below w.heap.size w ((w.alloc (.cells #[.slice A p.costs.length c, .slice A2 p.rows.length c2] 25)).alloc (.cells #[.int .i64 2, .slice X xs.length cx, .int .i64 xd, .slice Y ys.length cy, .int .i64 yd, .slice R rs.length cr, .int .i64 rd, .int .i64 wn, .int .i64 wd] 57)))
  have HPw := Lib.hid (HP.out.below hW)
  have HXw := Lib.hid (HX.out.below hW)
  have HYw := Lib.hid (HY.out.below hW)
  have HRw := Lib.hid (HR.out.below hW)
  have HW := Lib.hid hW
  clear hW
  generalize ((w.alloc (.cells #[.slice A p.costs.length c, .slice A2 p.rows.length c2] 25)).alloc (.cells #[.int .i64 2, .slice X xs.length cx, .int .i64 xd, .slice Y ys.length cy, .int .i64 yd, .slice R rs.length cr, .int .i64 rd, .int .i64 wn, .int .i64 wd] 57)) = W at *
  have lVp := Vp.out.lt
  have lVa := Va.out.lt
  have s0 : ∀ u : Wk W, u.1.cell? ⟨w.heap.size, 0, none⟩ = some (.slice A p.costs.length c) := fun u => (Vp.out.next u.2).cell 0
  have s1 : ∀ u : Wk W, u.1.cell? ⟨w.heap.size, 1, none⟩ = some (.slice A2 p.rows.length c2) := fun u => (Vp.out.next u.2).cell 1
  have s2 : ∀ u : Wk W, u.1.cell? ⟨w.heap.size + 1, 0, none⟩ = some (.int .i64 2) := fun u => (Va.out.next u.2).cell 0
  have s3 : ∀ u : Wk W, u.1.cell? ⟨w.heap.size + 1, 1, none⟩ = some (.slice X xs.length cx) := fun u => (Va.out.next u.2).cell 1
  have s4 : ∀ u : Wk W, u.1.cell? ⟨w.heap.size + 1, 2, none⟩ = some (.int .i64 xd) := fun u => (Va.out.next u.2).cell 2
  have s5 : ∀ u : Wk W, u.1.cell? ⟨w.heap.size + 1, 3, none⟩ = some (.slice Y ys.length cy) := fun u => (Va.out.next u.2).cell 3
  have s6 : ∀ u : Wk W, u.1.cell? ⟨w.heap.size + 1, 4, none⟩ = some (.int .i64 yd) := fun u => (Va.out.next u.2).cell 4
  have s7 : ∀ u : Wk W, u.1.cell? ⟨w.heap.size + 1, 5, none⟩ = some (.slice R rs.length cr) := fun u => (Va.out.next u.2).cell 5
  have s8 : ∀ u : Wk W, u.1.cell? ⟨w.heap.size + 1, 6, none⟩ = some (.int .i64 rd) := fun u => (Va.out.next u.2).cell 6
  have s9 : ∀ u : Wk W, u.1.cell? ⟨w.heap.size + 1, 7, none⟩ = some (.int .i64 wn) := fun u => (Va.out.next u.2).cell 7
  have s10 : ∀ u : Wk W, u.1.cell? ⟨w.heap.size + 1, 8, none⟩ = some (.int .i64 wd) := fun u => (Va.out.next u.2).cell 8
  refine (show Calls Try.prog 23 #[.agg #[.slice A p.costs.length c, .slice A2 p.rows.length c2]] W fun e w' => e = .returned (.bool true) ∧ Below W.heap.size W w' from by rw [← HM.out]; exact (ref2_May _ _ _ _ _ _ HPw.out)).mono ?_
  rintro e w1 ⟨rfl, hb1⟩
  obtain ⟨u1, rfl⟩ : ∃ u : Wk W, w1 = u.1 := ⟨⟨w1, hb1⟩, rfl⟩
  clear hb1
  go_wp2_with fail
  refine (show Calls Try.prog 69 #[.agg #[.slice Y ys.length cy, .int .i64 yd]] u1.1 fun e w' => e = .returned (.bool (emptyB ys yd)) ∧ Below u1.1.heap.size u1.1 w' from ref4_empty _ _ _ _ _ (HYw.out.below u1.2)).mono ?_
  rw [q1]
  rintro e w1 ⟨rfl, hb1⟩
  obtain ⟨u2, rfl⟩ : ∃ u : Wk W, w1 = u.1 := ⟨⟨w1, u1.2.trans (hb1.mono u1.2.size)⟩, rfl⟩
  clear hb1
  go_wp2_with fail
  go_ret
  exact ⟨rfl, (by have hT := u2.2; exact (by (repeat (any_goals (first | exact Below.refl _ _ | exact HW.out | exact hT | refine below_drewN ?_ _ | refine Below.drew ?_ | refine Below.alloc ?_ ?_ _ | refine Below.setCell ?_ ?_ _ | refine Below.trans ?_ (Below.mono HW.out ?_) | refine Below.trans ?_ (Below.mono hT ?_)))); all_goals (first | omega | (simp; done) | (simp; omega) | ((try have z0 := HW.out.size); (try simp at z0); (try have z1 := hT.size); (try simp at z1); (try simp); omega))))⟩

set_option maxRecDepth 100000 in
set_option maxHeartbeats 2000000 in
theorem ref4_E1z (hp : Pg w A c A2 c2 p) (hx : Rd w X cx xs) (hy : Rd w Y cy ys) (hr : Rd w R cr rs) (hm : mayPB p = true) (q1 : emptyB ys yd = false) :
    Calls Try.prog 24 #[.agg #[.slice A p.costs.length c, .slice A2 p.rows.length c2],
      .agg #[.int .i64 2, .slice X xs.length cx, .int .i64 xd, .slice Y ys.length cy, .int .i64 yd, .slice R rs.length cr, .int .i64 rd, .int .i64 0, .int .i64 wd]] w
      fun e w' => e = .returned (.bool (false)) ∧ Below w.heap.size w w' := by
  have HP := Lib.hid hp
  have HX := Lib.hid hx
  have HY := Lib.hid hy
  have HR := Lib.hid hr
  have HM := Lib.hid hm
  obtain ⟨⟨hl, hc, hsm, _⟩, ⟨hl2, hc2, hsm2, _⟩⟩ := hp
  have h4 : p.rows.length ≤ 4 := (mayPB_iff.1 hm).2.2.2.1
  have h4' : p.costs.length ≤ 4 := (mayPB_iff.1 hm).2.1
  have h5' : 1 ≤ p.costs.length := (mayPB_iff.1 hm).1
  clear hm hx hy hr
  go_enter Try.func24, Try.ntmps24
  go_wp2_with fail
  have Vp := Lib.hid (((Blk.new w 25 #[.slice A p.costs.length c, .slice A2 p.rows.length c2] _ rfl).alloc (.cells #[.int .i64 2, .slice X xs.length cx, .int .i64 xd, .slice Y ys.length cy, .int .i64 yd, .slice R rs.length cr, .int .i64 rd, .int .i64 0, .int .i64 wd] 57)))
  have Va := Lib.hid (Blk.new (w.alloc (.cells #[.slice A p.costs.length c, .slice A2 p.rows.length c2] 25)) 57 #[.int .i64 2, .slice X xs.length cx, .int .i64 xd, .slice Y ys.length cy, .int .i64 yd, .slice R rs.length cr, .int .i64 rd, .int .i64 0, .int .i64 wd] (w.heap.size + 1) (by simp))
  have hW := ((by (repeat (any_goals (first | exact Below.refl _ _ | refine below_drewN ?_ _ | refine Below.drew ?_ | refine Below.alloc ?_ ?_ _ | refine Below.setCell ?_ ?_ _))); all_goals (first | omega | (simp; done) | (simp; omega))) : Below w.heap.size w ((w.alloc (.cells #[.slice A p.costs.length c, .slice A2 p.rows.length c2] 25)).alloc (.cells #[.int .i64 2, .slice X xs.length cx, .int .i64 xd, .slice Y ys.length cy, .int .i64 yd, .slice R rs.length cr, .int .i64 rd, .int .i64 0, .int .i64 wd] 57)))
  have HPw := Lib.hid (HP.out.below hW)
  have HXw := Lib.hid (HX.out.below hW)
  have HYw := Lib.hid (HY.out.below hW)
  have HRw := Lib.hid (HR.out.below hW)
  have HW := Lib.hid hW
  clear hW
  generalize ((w.alloc (.cells #[.slice A p.costs.length c, .slice A2 p.rows.length c2] 25)).alloc (.cells #[.int .i64 2, .slice X xs.length cx, .int .i64 xd, .slice Y ys.length cy, .int .i64 yd, .slice R rs.length cr, .int .i64 rd, .int .i64 0, .int .i64 wd] 57)) = W at *
  have lVp := Vp.out.lt
  have lVa := Va.out.lt
  have s0 : ∀ u : Wk W, u.1.cell? ⟨w.heap.size, 0, none⟩ = some (.slice A p.costs.length c) := fun u => (Vp.out.next u.2).cell 0
  have s1 : ∀ u : Wk W, u.1.cell? ⟨w.heap.size, 1, none⟩ = some (.slice A2 p.rows.length c2) := fun u => (Vp.out.next u.2).cell 1
  have s2 : ∀ u : Wk W, u.1.cell? ⟨w.heap.size + 1, 0, none⟩ = some (.int .i64 2) := fun u => (Va.out.next u.2).cell 0
  have s3 : ∀ u : Wk W, u.1.cell? ⟨w.heap.size + 1, 1, none⟩ = some (.slice X xs.length cx) := fun u => (Va.out.next u.2).cell 1
  have s4 : ∀ u : Wk W, u.1.cell? ⟨w.heap.size + 1, 2, none⟩ = some (.int .i64 xd) := fun u => (Va.out.next u.2).cell 2
  have s5 : ∀ u : Wk W, u.1.cell? ⟨w.heap.size + 1, 3, none⟩ = some (.slice Y ys.length cy) := fun u => (Va.out.next u.2).cell 3
  have s6 : ∀ u : Wk W, u.1.cell? ⟨w.heap.size + 1, 4, none⟩ = some (.int .i64 yd) := fun u => (Va.out.next u.2).cell 4
  have s7 : ∀ u : Wk W, u.1.cell? ⟨w.heap.size + 1, 5, none⟩ = some (.slice R rs.length cr) := fun u => (Va.out.next u.2).cell 5
  have s8 : ∀ u : Wk W, u.1.cell? ⟨w.heap.size + 1, 6, none⟩ = some (.int .i64 rd) := fun u => (Va.out.next u.2).cell 6
  have s9 : ∀ u : Wk W, u.1.cell? ⟨w.heap.size + 1, 7, none⟩ = some (.int .i64 0) := fun u => (Va.out.next u.2).cell 7
  have s10 : ∀ u : Wk W, u.1.cell? ⟨w.heap.size + 1, 8, none⟩ = some (.int .i64 wd) := fun u => (Va.out.next u.2).cell 8
  refine (show Calls Try.prog 23 #[.agg #[.slice A p.costs.length c, .slice A2 p.rows.length c2]] W fun e w' => e = .returned (.bool true) ∧ Below W.heap.size W w' from by rw [← HM.out]; exact (ref2_May _ _ _ _ _ _ HPw.out)).mono ?_
  rintro e w1 ⟨rfl, hb1⟩
  obtain ⟨u1, rfl⟩ : ∃ u : Wk W, w1 = u.1 := ⟨⟨w1, hb1⟩, rfl⟩
  clear hb1
  go_wp2_with fail
  refine (show Calls Try.prog 69 #[.agg #[.slice Y ys.length cy, .int .i64 yd]] u1.1 fun e w' => e = .returned (.bool (emptyB ys yd)) ∧ Below u1.1.heap.size u1.1 w' from ref4_empty _ _ _ _ _ (HYw.out.below u1.2)).mono ?_
  rw [q1]
  rintro e w1 ⟨rfl, hb1⟩
  obtain ⟨u2, rfl⟩ : ∃ u : Wk W, w1 = u.1 := ⟨⟨w1, u1.2.trans (hb1.mono u1.2.size)⟩, rfl⟩
  clear hb1
  go_wp2_with fail
  go_ret
  exact ⟨rfl, (by have hT := u2.2; exact (by (repeat (any_goals (first | exact Below.refl _ _ | exact HW.out | exact hT | refine below_drewN ?_ _ | refine Below.drew ?_ | refine Below.alloc ?_ ?_ _ | refine Below.setCell ?_ ?_ _ | refine Below.trans ?_ (Below.mono HW.out ?_) | refine Below.trans ?_ (Below.mono hT ?_)))); all_goals (first | omega | (simp; done) | (simp; omega) | ((try have z0 := HW.out.size); (try simp at z0); (try have z1 := hT.size); (try simp at z1); (try simp); omega))))⟩

set_option maxRecDepth 100000 in
set_option maxHeartbeats 2000000 in
theorem ref4_E2n (hp : Pg w A c A2 c2 p) (hx : Rd w X cx xs) (hy : Rd w Y cy ys) (hr : Rd w R cr rs) (hm : mayPB p = true) (hz : (wn == 0) = false) (q1 : emptyB ys yd = true) :
    Calls Try.prog 24 #[.agg #[.slice A p.costs.length c, .slice A2 p.rows.length c2],
      .agg #[.int .i64 2, .slice X xs.length cx, .int .i64 xd, .slice Y ys.length cy, .int .i64 yd, .slice R rs.length cr, .int .i64 rd, .int .i64 wn, .int .i64 wd]] w
      fun e w' => e = .returned (.bool (false)) ∧ Below w.heap.size w w' := by
  have HP := Lib.hid hp
  have HX := Lib.hid hx
  have HY := Lib.hid hy
  have HR := Lib.hid hr
  have HM := Lib.hid hm
  obtain ⟨⟨hl, hc, hsm, _⟩, ⟨hl2, hc2, hsm2, _⟩⟩ := hp
  have h4 : p.rows.length ≤ 4 := (mayPB_iff.1 hm).2.2.2.1
  have h4' : p.costs.length ≤ 4 := (mayPB_iff.1 hm).2.1
  have h5' : 1 ≤ p.costs.length := (mayPB_iff.1 hm).1
  clear hm hx hy hr
  go_enter Try.func24, Try.ntmps24
  go_wp2_with fail
  have Vp := Lib.hid (((Blk.new w 25 #[.slice A p.costs.length c, .slice A2 p.rows.length c2] _ rfl).alloc (.cells #[.int .i64 2, .slice X xs.length cx, .int .i64 xd, .slice Y ys.length cy, .int .i64 yd, .slice R rs.length cr, .int .i64 rd, .int .i64 wn, .int .i64 wd] 57)))
  have Va := Lib.hid (Blk.new (w.alloc (.cells #[.slice A p.costs.length c, .slice A2 p.rows.length c2] 25)) 57 #[.int .i64 2, .slice X xs.length cx, .int .i64 xd, .slice Y ys.length cy, .int .i64 yd, .slice R rs.length cr, .int .i64 rd, .int .i64 wn, .int .i64 wd] (w.heap.size + 1) (by simp))
  have hW := ((by (repeat (any_goals (first | exact Below.refl _ _ | refine below_drewN ?_ _ | refine Below.drew ?_ | refine Below.alloc ?_ ?_ _ | refine Below.setCell ?_ ?_ _))); all_goals (first | omega | (simp; done) | (simp; omega))) : Below w.heap.size w ((w.alloc (.cells #[.slice A p.costs.length c, .slice A2 p.rows.length c2] 25)).alloc (.cells #[.int .i64 2, .slice X xs.length cx, .int .i64 xd, .slice Y ys.length cy, .int .i64 yd, .slice R rs.length cr, .int .i64 rd, .int .i64 wn, .int .i64 wd] 57)))
  have HPw := Lib.hid (HP.out.below hW)
  have HXw := Lib.hid (HX.out.below hW)
  have HYw := Lib.hid (HY.out.below hW)
  have HRw := Lib.hid (HR.out.below hW)
  have HW := Lib.hid hW
  clear hW
  generalize ((w.alloc (.cells #[.slice A p.costs.length c, .slice A2 p.rows.length c2] 25)).alloc (.cells #[.int .i64 2, .slice X xs.length cx, .int .i64 xd, .slice Y ys.length cy, .int .i64 yd, .slice R rs.length cr, .int .i64 rd, .int .i64 wn, .int .i64 wd] 57)) = W at *
  have lVp := Vp.out.lt
  have lVa := Va.out.lt
  have s0 : ∀ u : Wk W, u.1.cell? ⟨w.heap.size, 0, none⟩ = some (.slice A p.costs.length c) := fun u => (Vp.out.next u.2).cell 0
  have s1 : ∀ u : Wk W, u.1.cell? ⟨w.heap.size, 1, none⟩ = some (.slice A2 p.rows.length c2) := fun u => (Vp.out.next u.2).cell 1
  have s2 : ∀ u : Wk W, u.1.cell? ⟨w.heap.size + 1, 0, none⟩ = some (.int .i64 2) := fun u => (Va.out.next u.2).cell 0
  have s3 : ∀ u : Wk W, u.1.cell? ⟨w.heap.size + 1, 1, none⟩ = some (.slice X xs.length cx) := fun u => (Va.out.next u.2).cell 1
  have s4 : ∀ u : Wk W, u.1.cell? ⟨w.heap.size + 1, 2, none⟩ = some (.int .i64 xd) := fun u => (Va.out.next u.2).cell 2
  have s5 : ∀ u : Wk W, u.1.cell? ⟨w.heap.size + 1, 3, none⟩ = some (.slice Y ys.length cy) := fun u => (Va.out.next u.2).cell 3
  have s6 : ∀ u : Wk W, u.1.cell? ⟨w.heap.size + 1, 4, none⟩ = some (.int .i64 yd) := fun u => (Va.out.next u.2).cell 4
  have s7 : ∀ u : Wk W, u.1.cell? ⟨w.heap.size + 1, 5, none⟩ = some (.slice R rs.length cr) := fun u => (Va.out.next u.2).cell 5
  have s8 : ∀ u : Wk W, u.1.cell? ⟨w.heap.size + 1, 6, none⟩ = some (.int .i64 rd) := fun u => (Va.out.next u.2).cell 6
  have s9 : ∀ u : Wk W, u.1.cell? ⟨w.heap.size + 1, 7, none⟩ = some (.int .i64 wn) := fun u => (Va.out.next u.2).cell 7
  have s10 : ∀ u : Wk W, u.1.cell? ⟨w.heap.size + 1, 8, none⟩ = some (.int .i64 wd) := fun u => (Va.out.next u.2).cell 8
  refine (show Calls Try.prog 23 #[.agg #[.slice A p.costs.length c, .slice A2 p.rows.length c2]] W fun e w' => e = .returned (.bool true) ∧ Below W.heap.size W w' from by rw [← HM.out]; exact (ref2_May _ _ _ _ _ _ HPw.out)).mono ?_
  rintro e w1 ⟨rfl, hb1⟩
  obtain ⟨u1, rfl⟩ : ∃ u : Wk W, w1 = u.1 := ⟨⟨w1, hb1⟩, rfl⟩
  clear hb1
  go_wp2_with fail
  refine (show Calls Try.prog 69 #[.agg #[.slice Y ys.length cy, .int .i64 yd]] u1.1 fun e w' => e = .returned (.bool (emptyB ys yd)) ∧ Below u1.1.heap.size u1.1 w' from ref4_empty _ _ _ _ _ (HYw.out.below u1.2)).mono ?_
  rw [q1]
  rintro e w1 ⟨rfl, hb1⟩
  obtain ⟨u2, rfl⟩ : ∃ u : Wk W, w1 = u.1 := ⟨⟨w1, u1.2.trans (hb1.mono u1.2.size)⟩, rfl⟩
  clear hb1
  go_wp2_with fail
  go_ret
  exact ⟨rfl, (by have hT := u2.2; exact (by (repeat (any_goals (first | exact Below.refl _ _ | exact HW.out | exact hT | refine below_drewN ?_ _ | refine Below.drew ?_ | refine Below.alloc ?_ ?_ _ | refine Below.setCell ?_ ?_ _ | refine Below.trans ?_ (Below.mono HW.out ?_) | refine Below.trans ?_ (Below.mono hT ?_)))); all_goals (first | omega | (simp; done) | (simp; omega) | ((try have z0 := HW.out.size); (try simp at z0); (try have z1 := hT.size); (try simp at z1); (try simp); omega))))⟩

set_option maxRecDepth 100000 in
set_option maxHeartbeats 2000000 in
theorem ref4_E2z (hp : Pg w A c A2 c2 p) (hx : Rd w X cx xs) (hy : Rd w Y cy ys) (hr : Rd w R cr rs) (hm : mayPB p = true) (hz : (wd == 0) = false) (q1 : emptyB ys yd = true) :
    Calls Try.prog 24 #[.agg #[.slice A p.costs.length c, .slice A2 p.rows.length c2],
      .agg #[.int .i64 2, .slice X xs.length cx, .int .i64 xd, .slice Y ys.length cy, .int .i64 yd, .slice R rs.length cr, .int .i64 rd, .int .i64 0, .int .i64 wd]] w
      fun e w' => e = .returned (.bool (false)) ∧ Below w.heap.size w w' := by
  have HP := Lib.hid hp
  have HX := Lib.hid hx
  have HY := Lib.hid hy
  have HR := Lib.hid hr
  have HM := Lib.hid hm
  obtain ⟨⟨hl, hc, hsm, _⟩, ⟨hl2, hc2, hsm2, _⟩⟩ := hp
  have h4 : p.rows.length ≤ 4 := (mayPB_iff.1 hm).2.2.2.1
  have h4' : p.costs.length ≤ 4 := (mayPB_iff.1 hm).2.1
  have h5' : 1 ≤ p.costs.length := (mayPB_iff.1 hm).1
  clear hm hx hy hr
  go_enter Try.func24, Try.ntmps24
  go_wp2_with fail
  have Vp := Lib.hid (((Blk.new w 25 #[.slice A p.costs.length c, .slice A2 p.rows.length c2] _ rfl).alloc (.cells #[.int .i64 2, .slice X xs.length cx, .int .i64 xd, .slice Y ys.length cy, .int .i64 yd, .slice R rs.length cr, .int .i64 rd, .int .i64 0, .int .i64 wd] 57)))
  have Va := Lib.hid (Blk.new (w.alloc (.cells #[.slice A p.costs.length c, .slice A2 p.rows.length c2] 25)) 57 #[.int .i64 2, .slice X xs.length cx, .int .i64 xd, .slice Y ys.length cy, .int .i64 yd, .slice R rs.length cr, .int .i64 rd, .int .i64 0, .int .i64 wd] (w.heap.size + 1) (by simp))
  have hW := ((by (repeat (any_goals (first | exact Below.refl _ _ | refine below_drewN ?_ _ | refine Below.drew ?_ | refine Below.alloc ?_ ?_ _ | refine Below.setCell ?_ ?_ _))); all_goals (first | omega | (simp; done) | (simp; omega))) : Below w.heap.size w ((w.alloc (.cells #[.slice A p.costs.length c, .slice A2 p.rows.length c2] 25)).alloc (.cells #[.int .i64 2, .slice X xs.length cx, .int .i64 xd, .slice Y ys.length cy, .int .i64 yd, .slice R rs.length cr, .int .i64 rd, .int .i64 0, .int .i64 wd] 57)))
  have HPw := Lib.hid (HP.out.below hW)
  have HXw := Lib.hid (HX.out.below hW)
  have HYw := Lib.hid (HY.out.below hW)
  have HRw := Lib.hid (HR.out.below hW)
  have HW := Lib.hid hW
  clear hW
  generalize ((w.alloc (.cells #[.slice A p.costs.length c, .slice A2 p.rows.length c2] 25)).alloc (.cells #[.int .i64 2, .slice X xs.length cx, .int .i64 xd, .slice Y ys.length cy, .int .i64 yd, .slice R rs.length cr, .int .i64 rd, .int .i64 0, .int .i64 wd] 57)) = W at *
  have lVp := Vp.out.lt
  have lVa := Va.out.lt
  have s0 : ∀ u : Wk W, u.1.cell? ⟨w.heap.size, 0, none⟩ = some (.slice A p.costs.length c) := fun u => (Vp.out.next u.2).cell 0
  have s1 : ∀ u : Wk W, u.1.cell? ⟨w.heap.size, 1, none⟩ = some (.slice A2 p.rows.length c2) := fun u => (Vp.out.next u.2).cell 1
  have s2 : ∀ u : Wk W, u.1.cell? ⟨w.heap.size + 1, 0, none⟩ = some (.int .i64 2) := fun u => (Va.out.next u.2).cell 0
  have s3 : ∀ u : Wk W, u.1.cell? ⟨w.heap.size + 1, 1, none⟩ = some (.slice X xs.length cx) := fun u => (Va.out.next u.2).cell 1
  have s4 : ∀ u : Wk W, u.1.cell? ⟨w.heap.size + 1, 2, none⟩ = some (.int .i64 xd) := fun u => (Va.out.next u.2).cell 2
  have s5 : ∀ u : Wk W, u.1.cell? ⟨w.heap.size + 1, 3, none⟩ = some (.slice Y ys.length cy) := fun u => (Va.out.next u.2).cell 3
  have s6 : ∀ u : Wk W, u.1.cell? ⟨w.heap.size + 1, 4, none⟩ = some (.int .i64 yd) := fun u => (Va.out.next u.2).cell 4
  have s7 : ∀ u : Wk W, u.1.cell? ⟨w.heap.size + 1, 5, none⟩ = some (.slice R rs.length cr) := fun u => (Va.out.next u.2).cell 5
  have s8 : ∀ u : Wk W, u.1.cell? ⟨w.heap.size + 1, 6, none⟩ = some (.int .i64 rd) := fun u => (Va.out.next u.2).cell 6
  have s9 : ∀ u : Wk W, u.1.cell? ⟨w.heap.size + 1, 7, none⟩ = some (.int .i64 0) := fun u => (Va.out.next u.2).cell 7
  have s10 : ∀ u : Wk W, u.1.cell? ⟨w.heap.size + 1, 8, none⟩ = some (.int .i64 wd) := fun u => (Va.out.next u.2).cell 8
  refine (show Calls Try.prog 23 #[.agg #[.slice A p.costs.length c, .slice A2 p.rows.length c2]] W fun e w' => e = .returned (.bool true) ∧ Below W.heap.size W w' from by rw [← HM.out]; exact (ref2_May _ _ _ _ _ _ HPw.out)).mono ?_
  rintro e w1 ⟨rfl, hb1⟩
  obtain ⟨u1, rfl⟩ : ∃ u : Wk W, w1 = u.1 := ⟨⟨w1, hb1⟩, rfl⟩
  clear hb1
  go_wp2_with fail
  refine (show Calls Try.prog 69 #[.agg #[.slice Y ys.length cy, .int .i64 yd]] u1.1 fun e w' => e = .returned (.bool (emptyB ys yd)) ∧ Below u1.1.heap.size u1.1 w' from ref4_empty _ _ _ _ _ (HYw.out.below u1.2)).mono ?_
  rw [q1]
  rintro e w1 ⟨rfl, hb1⟩
  obtain ⟨u2, rfl⟩ : ∃ u : Wk W, w1 = u.1 := ⟨⟨w1, u1.2.trans (hb1.mono u1.2.size)⟩, rfl⟩
  clear hb1
  go_wp2_with fail
  go_ret
  exact ⟨rfl, (by have hT := u2.2; exact (by (repeat (any_goals (first | exact Below.refl _ _ | exact HW.out | exact hT | refine below_drewN ?_ _ | refine Below.drew ?_ | refine Below.alloc ?_ ?_ _ | refine Below.setCell ?_ ?_ _ | refine Below.trans ?_ (Below.mono HW.out ?_) | refine Below.trans ?_ (Below.mono hT ?_)))); all_goals (first | omega | (simp; done) | (simp; omega) | ((try have z0 := HW.out.size); (try simp at z0); (try have z1 := hT.size); (try simp at z1); (try simp); omega))))⟩

set_option maxRecDepth 100000 in
set_option maxHeartbeats 2000000 in
theorem ref4_E3 (hp : Pg w A c A2 c2 p) (hx : Rd w X cx xs) (hy : Rd w Y cy ys) (hr : Rd w R cr rs) (hm : mayPB p = true) (q1 : emptyB ys yd = true) (q2 : goesB p xs xd = false) :
    Calls Try.prog 24 #[.agg #[.slice A p.costs.length c, .slice A2 p.rows.length c2],
      .agg #[.int .i64 2, .slice X xs.length cx, .int .i64 xd, .slice Y ys.length cy, .int .i64 yd, .slice R rs.length cr, .int .i64 rd, .int .i64 0, .int .i64 0]] w
      fun e w' => e = .returned (.bool (false)) ∧ Below w.heap.size w w' := by
  have HP := Lib.hid hp
  have HX := Lib.hid hx
  have HY := Lib.hid hy
  have HR := Lib.hid hr
  have HM := Lib.hid hm
  obtain ⟨⟨hl, hc, hsm, _⟩, ⟨hl2, hc2, hsm2, _⟩⟩ := hp
  have h4 : p.rows.length ≤ 4 := (mayPB_iff.1 hm).2.2.2.1
  have h4' : p.costs.length ≤ 4 := (mayPB_iff.1 hm).2.1
  have h5' : 1 ≤ p.costs.length := (mayPB_iff.1 hm).1
  clear hm hx hy hr
  go_enter Try.func24, Try.ntmps24
  go_wp2_with fail
  have Vp := Lib.hid (((Blk.new w 25 #[.slice A p.costs.length c, .slice A2 p.rows.length c2] _ rfl).alloc (.cells #[.int .i64 2, .slice X xs.length cx, .int .i64 xd, .slice Y ys.length cy, .int .i64 yd, .slice R rs.length cr, .int .i64 rd, .int .i64 0, .int .i64 0] 57)))
  have Va := Lib.hid (Blk.new (w.alloc (.cells #[.slice A p.costs.length c, .slice A2 p.rows.length c2] 25)) 57 #[.int .i64 2, .slice X xs.length cx, .int .i64 xd, .slice Y ys.length cy, .int .i64 yd, .slice R rs.length cr, .int .i64 rd, .int .i64 0, .int .i64 0] (w.heap.size + 1) (by simp))
  have hW := ((by (repeat (any_goals (first | exact Below.refl _ _ | refine below_drewN ?_ _ | refine Below.drew ?_ | refine Below.alloc ?_ ?_ _ | refine Below.setCell ?_ ?_ _))); all_goals (first | omega | (simp; done) | (simp; omega))) : Below w.heap.size w ((w.alloc (.cells #[.slice A p.costs.length c, .slice A2 p.rows.length c2] 25)).alloc (.cells #[.int .i64 2, .slice X xs.length cx, .int .i64 xd, .slice Y ys.length cy, .int .i64 yd, .slice R rs.length cr, .int .i64 rd, .int .i64 0, .int .i64 0] 57)))
  have HPw := Lib.hid (HP.out.below hW)
  have HXw := Lib.hid (HX.out.below hW)
  have HYw := Lib.hid (HY.out.below hW)
  have HRw := Lib.hid (HR.out.below hW)
  have HW := Lib.hid hW
  clear hW
  generalize ((w.alloc (.cells #[.slice A p.costs.length c, .slice A2 p.rows.length c2] 25)).alloc (.cells #[.int .i64 2, .slice X xs.length cx, .int .i64 xd, .slice Y ys.length cy, .int .i64 yd, .slice R rs.length cr, .int .i64 rd, .int .i64 0, .int .i64 0] 57)) = W at *
  have lVp := Vp.out.lt
  have lVa := Va.out.lt
  have s0 : ∀ u : Wk W, u.1.cell? ⟨w.heap.size, 0, none⟩ = some (.slice A p.costs.length c) := fun u => (Vp.out.next u.2).cell 0
  have s1 : ∀ u : Wk W, u.1.cell? ⟨w.heap.size, 1, none⟩ = some (.slice A2 p.rows.length c2) := fun u => (Vp.out.next u.2).cell 1
  have s2 : ∀ u : Wk W, u.1.cell? ⟨w.heap.size + 1, 0, none⟩ = some (.int .i64 2) := fun u => (Va.out.next u.2).cell 0
  have s3 : ∀ u : Wk W, u.1.cell? ⟨w.heap.size + 1, 1, none⟩ = some (.slice X xs.length cx) := fun u => (Va.out.next u.2).cell 1
  have s4 : ∀ u : Wk W, u.1.cell? ⟨w.heap.size + 1, 2, none⟩ = some (.int .i64 xd) := fun u => (Va.out.next u.2).cell 2
  have s5 : ∀ u : Wk W, u.1.cell? ⟨w.heap.size + 1, 3, none⟩ = some (.slice Y ys.length cy) := fun u => (Va.out.next u.2).cell 3
  have s6 : ∀ u : Wk W, u.1.cell? ⟨w.heap.size + 1, 4, none⟩ = some (.int .i64 yd) := fun u => (Va.out.next u.2).cell 4
  have s7 : ∀ u : Wk W, u.1.cell? ⟨w.heap.size + 1, 5, none⟩ = some (.slice R rs.length cr) := fun u => (Va.out.next u.2).cell 5
  have s8 : ∀ u : Wk W, u.1.cell? ⟨w.heap.size + 1, 6, none⟩ = some (.int .i64 rd) := fun u => (Va.out.next u.2).cell 6
  have s9 : ∀ u : Wk W, u.1.cell? ⟨w.heap.size + 1, 7, none⟩ = some (.int .i64 0) := fun u => (Va.out.next u.2).cell 7
  have s10 : ∀ u : Wk W, u.1.cell? ⟨w.heap.size + 1, 8, none⟩ = some (.int .i64 0) := fun u => (Va.out.next u.2).cell 8
  refine (show Calls Try.prog 23 #[.agg #[.slice A p.costs.length c, .slice A2 p.rows.length c2]] W fun e w' => e = .returned (.bool true) ∧ Below W.heap.size W w' from by rw [← HM.out]; exact (ref2_May _ _ _ _ _ _ HPw.out)).mono ?_
  rintro e w1 ⟨rfl, hb1⟩
  obtain ⟨u1, rfl⟩ : ∃ u : Wk W, w1 = u.1 := ⟨⟨w1, hb1⟩, rfl⟩
  clear hb1
  go_wp2_with fail
  refine (show Calls Try.prog 69 #[.agg #[.slice Y ys.length cy, .int .i64 yd]] u1.1 fun e w' => e = .returned (.bool (emptyB ys yd)) ∧ Below u1.1.heap.size u1.1 w' from ref4_empty _ _ _ _ _ (HYw.out.below u1.2)).mono ?_
  rw [q1]
  rintro e w1 ⟨rfl, hb1⟩
  obtain ⟨u2, rfl⟩ : ∃ u : Wk W, w1 = u.1 := ⟨⟨w1, u1.2.trans (hb1.mono u1.2.size)⟩, rfl⟩
  clear hb1
  go_wp2_with fail
  refine (ref2_Goes _ _ _ _ _ _ _ _ _ _ (HPw.out.below u2.2) (HXw.out.below u2.2)).mono ?_
  rw [q2]
  rintro e w1 ⟨rfl, hb1⟩
  obtain ⟨u3, rfl⟩ : ∃ u : Wk W, w1 = u.1 := ⟨⟨w1, u2.2.trans (hb1.mono u2.2.size)⟩, rfl⟩
  clear hb1
  go_wp2_with fail
  go_ret
  exact ⟨rfl, (by have hT := u3.2; exact (by (repeat (any_goals (first | exact Below.refl _ _ | exact HW.out | exact hT | refine below_drewN ?_ _ | refine Below.drew ?_ | refine Below.alloc ?_ ?_ _ | refine Below.setCell ?_ ?_ _ | refine Below.trans ?_ (Below.mono HW.out ?_) | refine Below.trans ?_ (Below.mono hT ?_)))); all_goals (first | omega | (simp; done) | (simp; omega) | ((try have z0 := HW.out.size); (try simp at z0); (try have z1 := hT.size); (try simp at z1); (try simp); omega))))⟩

set_option maxRecDepth 100000 in
set_option maxHeartbeats 2000000 in
theorem ref4_E4 (hp : Pg w A c A2 c2 p) (hx : Rd w X cx xs) (hy : Rd w Y cy ys) (hr : Rd w R cr rs) (hm : mayPB p = true) (q1 : emptyB ys yd = true) (q2 : goesB p xs xd = true) (q4 : aboveB rs rd p.costs.length = false) :
    Calls Try.prog 24 #[.agg #[.slice A p.costs.length c, .slice A2 p.rows.length c2],
      .agg #[.int .i64 2, .slice X xs.length cx, .int .i64 xd, .slice Y ys.length cy, .int .i64 yd, .slice R rs.length cr, .int .i64 rd, .int .i64 0, .int .i64 0]] w
      fun e w' => e = .returned (.bool (false)) ∧ Below w.heap.size w w' := by
  have HP := Lib.hid hp
  have HX := Lib.hid hx
  have HY := Lib.hid hy
  have HR := Lib.hid hr
  have HM := Lib.hid hm
  obtain ⟨⟨hl, hc, hsm, _⟩, ⟨hl2, hc2, hsm2, _⟩⟩ := hp
  have h4 : p.rows.length ≤ 4 := (mayPB_iff.1 hm).2.2.2.1
  have h4' : p.costs.length ≤ 4 := (mayPB_iff.1 hm).2.1
  have h5' : 1 ≤ p.costs.length := (mayPB_iff.1 hm).1
  clear hm hx hy hr
  go_enter Try.func24, Try.ntmps24
  go_wp2_with fail
  have Vp := Lib.hid (((Blk.new w 25 #[.slice A p.costs.length c, .slice A2 p.rows.length c2] _ rfl).alloc (.cells #[.int .i64 2, .slice X xs.length cx, .int .i64 xd, .slice Y ys.length cy, .int .i64 yd, .slice R rs.length cr, .int .i64 rd, .int .i64 0, .int .i64 0] 57)))
  have Va := Lib.hid (Blk.new (w.alloc (.cells #[.slice A p.costs.length c, .slice A2 p.rows.length c2] 25)) 57 #[.int .i64 2, .slice X xs.length cx, .int .i64 xd, .slice Y ys.length cy, .int .i64 yd, .slice R rs.length cr, .int .i64 rd, .int .i64 0, .int .i64 0] (w.heap.size + 1) (by simp))
  have hW := ((by (repeat (any_goals (first | exact Below.refl _ _ | refine below_drewN ?_ _ | refine Below.drew ?_ | refine Below.alloc ?_ ?_ _ | refine Below.setCell ?_ ?_ _))); all_goals (first | omega | (simp; done) | (simp; omega))) : Below w.heap.size w ((w.alloc (.cells #[.slice A p.costs.length c, .slice A2 p.rows.length c2] 25)).alloc (.cells #[.int .i64 2, .slice X xs.length cx, .int .i64 xd, .slice Y ys.length cy, .int .i64 yd, .slice R rs.length cr, .int .i64 rd, .int .i64 0, .int .i64 0] 57)))
  have HPw := Lib.hid (HP.out.below hW)
  have HXw := Lib.hid (HX.out.below hW)
  have HYw := Lib.hid (HY.out.below hW)
  have HRw := Lib.hid (HR.out.below hW)
  have HW := Lib.hid hW
  clear hW
  generalize ((w.alloc (.cells #[.slice A p.costs.length c, .slice A2 p.rows.length c2] 25)).alloc (.cells #[.int .i64 2, .slice X xs.length cx, .int .i64 xd, .slice Y ys.length cy, .int .i64 yd, .slice R rs.length cr, .int .i64 rd, .int .i64 0, .int .i64 0] 57)) = W at *
  have lVp := Vp.out.lt
  have lVa := Va.out.lt
  have s0 : ∀ u : Wk W, u.1.cell? ⟨w.heap.size, 0, none⟩ = some (.slice A p.costs.length c) := fun u => (Vp.out.next u.2).cell 0
  have s1 : ∀ u : Wk W, u.1.cell? ⟨w.heap.size, 1, none⟩ = some (.slice A2 p.rows.length c2) := fun u => (Vp.out.next u.2).cell 1
  have s2 : ∀ u : Wk W, u.1.cell? ⟨w.heap.size + 1, 0, none⟩ = some (.int .i64 2) := fun u => (Va.out.next u.2).cell 0
  have s3 : ∀ u : Wk W, u.1.cell? ⟨w.heap.size + 1, 1, none⟩ = some (.slice X xs.length cx) := fun u => (Va.out.next u.2).cell 1
  have s4 : ∀ u : Wk W, u.1.cell? ⟨w.heap.size + 1, 2, none⟩ = some (.int .i64 xd) := fun u => (Va.out.next u.2).cell 2
  have s5 : ∀ u : Wk W, u.1.cell? ⟨w.heap.size + 1, 3, none⟩ = some (.slice Y ys.length cy) := fun u => (Va.out.next u.2).cell 3
  have s6 : ∀ u : Wk W, u.1.cell? ⟨w.heap.size + 1, 4, none⟩ = some (.int .i64 yd) := fun u => (Va.out.next u.2).cell 4
  have s7 : ∀ u : Wk W, u.1.cell? ⟨w.heap.size + 1, 5, none⟩ = some (.slice R rs.length cr) := fun u => (Va.out.next u.2).cell 5
  have s8 : ∀ u : Wk W, u.1.cell? ⟨w.heap.size + 1, 6, none⟩ = some (.int .i64 rd) := fun u => (Va.out.next u.2).cell 6
  have s9 : ∀ u : Wk W, u.1.cell? ⟨w.heap.size + 1, 7, none⟩ = some (.int .i64 0) := fun u => (Va.out.next u.2).cell 7
  have s10 : ∀ u : Wk W, u.1.cell? ⟨w.heap.size + 1, 8, none⟩ = some (.int .i64 0) := fun u => (Va.out.next u.2).cell 8
  refine (show Calls Try.prog 23 #[.agg #[.slice A p.costs.length c, .slice A2 p.rows.length c2]] W fun e w' => e = .returned (.bool true) ∧ Below W.heap.size W w' from by rw [← HM.out]; exact (ref2_May _ _ _ _ _ _ HPw.out)).mono ?_
  rintro e w1 ⟨rfl, hb1⟩
  obtain ⟨u1, rfl⟩ : ∃ u : Wk W, w1 = u.1 := ⟨⟨w1, hb1⟩, rfl⟩
  clear hb1
  go_wp2_with fail
  refine (show Calls Try.prog 69 #[.agg #[.slice Y ys.length cy, .int .i64 yd]] u1.1 fun e w' => e = .returned (.bool (emptyB ys yd)) ∧ Below u1.1.heap.size u1.1 w' from ref4_empty _ _ _ _ _ (HYw.out.below u1.2)).mono ?_
  rw [q1]
  rintro e w1 ⟨rfl, hb1⟩
  obtain ⟨u2, rfl⟩ : ∃ u : Wk W, w1 = u.1 := ⟨⟨w1, u1.2.trans (hb1.mono u1.2.size)⟩, rfl⟩
  clear hb1
  go_wp2_with fail
  refine (ref2_Goes _ _ _ _ _ _ _ _ _ _ (HPw.out.below u2.2) (HXw.out.below u2.2)).mono ?_
  rw [q2]
  rintro e w1 ⟨rfl, hb1⟩
  obtain ⟨u3, rfl⟩ : ∃ u : Wk W, w1 = u.1 := ⟨⟨w1, u2.2.trans (hb1.mono u2.2.size)⟩, rfl⟩
  clear hb1
  go_wp2_with fail
  refine (ref4_point _ _ _ _ _ _ (HRw.out.below u3.2)).mono ?_
  rw [q4]
  rintro e w1 ⟨rfl, hb1⟩
  obtain ⟨u4, rfl⟩ : ∃ u : Wk W, w1 = u.1 := ⟨⟨w1, u3.2.trans (hb1.mono u3.2.size)⟩, rfl⟩
  clear hb1
  go_wp2_with fail
  go_ret
  exact ⟨rfl, (by have hT := u4.2; exact (by (repeat (any_goals (first | exact Below.refl _ _ | exact HW.out | exact hT | refine below_drewN ?_ _ | refine Below.drew ?_ | refine Below.alloc ?_ ?_ _ | refine Below.setCell ?_ ?_ _ | refine Below.trans ?_ (Below.mono HW.out ?_) | refine Below.trans ?_ (Below.mono hT ?_)))); all_goals (first | omega | (simp; done) | (simp; omega) | ((try have z0 := HW.out.size); (try simp at z0); (try have z1 := hT.size); (try simp at z1); (try simp); omega))))⟩

set_option maxRecDepth 100000 in
set_option maxHeartbeats 2000000 in
theorem ref4_E5 (hp : Pg w A c A2 c2 p) (hx : Rd w X cx xs) (hy : Rd w Y cy ys) (hr : Rd w R cr rs) (hm : mayPB p = true) (hz : (rd == 1) = false) (q1 : emptyB ys yd = true) (q2 : goesB p xs xd = true) (q4 : aboveB rs rd p.costs.length = true) :
    Calls Try.prog 24 #[.agg #[.slice A p.costs.length c, .slice A2 p.rows.length c2],
      .agg #[.int .i64 2, .slice X xs.length cx, .int .i64 xd, .slice Y ys.length cy, .int .i64 yd, .slice R rs.length cr, .int .i64 rd, .int .i64 0, .int .i64 0]] w
      fun e w' => e = .returned (.bool (false)) ∧ Below w.heap.size w w' := by
  have HP := Lib.hid hp
  have HX := Lib.hid hx
  have HY := Lib.hid hy
  have HR := Lib.hid hr
  have HM := Lib.hid hm
  obtain ⟨⟨hl, hc, hsm, _⟩, ⟨hl2, hc2, hsm2, _⟩⟩ := hp
  have h4 : p.rows.length ≤ 4 := (mayPB_iff.1 hm).2.2.2.1
  have h4' : p.costs.length ≤ 4 := (mayPB_iff.1 hm).2.1
  have h5' : 1 ≤ p.costs.length := (mayPB_iff.1 hm).1
  clear hm hx hy hr
  go_enter Try.func24, Try.ntmps24
  go_wp2_with fail
  have Vp := Lib.hid (((Blk.new w 25 #[.slice A p.costs.length c, .slice A2 p.rows.length c2] _ rfl).alloc (.cells #[.int .i64 2, .slice X xs.length cx, .int .i64 xd, .slice Y ys.length cy, .int .i64 yd, .slice R rs.length cr, .int .i64 rd, .int .i64 0, .int .i64 0] 57)))
  have Va := Lib.hid (Blk.new (w.alloc (.cells #[.slice A p.costs.length c, .slice A2 p.rows.length c2] 25)) 57 #[.int .i64 2, .slice X xs.length cx, .int .i64 xd, .slice Y ys.length cy, .int .i64 yd, .slice R rs.length cr, .int .i64 rd, .int .i64 0, .int .i64 0] (w.heap.size + 1) (by simp))
  have hW := ((by (repeat (any_goals (first | exact Below.refl _ _ | refine below_drewN ?_ _ | refine Below.drew ?_ | refine Below.alloc ?_ ?_ _ | refine Below.setCell ?_ ?_ _))); all_goals (first | omega | (simp; done) | (simp; omega))) : Below w.heap.size w ((w.alloc (.cells #[.slice A p.costs.length c, .slice A2 p.rows.length c2] 25)).alloc (.cells #[.int .i64 2, .slice X xs.length cx, .int .i64 xd, .slice Y ys.length cy, .int .i64 yd, .slice R rs.length cr, .int .i64 rd, .int .i64 0, .int .i64 0] 57)))
  have HPw := Lib.hid (HP.out.below hW)
  have HXw := Lib.hid (HX.out.below hW)
  have HYw := Lib.hid (HY.out.below hW)
  have HRw := Lib.hid (HR.out.below hW)
  have HW := Lib.hid hW
  clear hW
  generalize ((w.alloc (.cells #[.slice A p.costs.length c, .slice A2 p.rows.length c2] 25)).alloc (.cells #[.int .i64 2, .slice X xs.length cx, .int .i64 xd, .slice Y ys.length cy, .int .i64 yd, .slice R rs.length cr, .int .i64 rd, .int .i64 0, .int .i64 0] 57)) = W at *
  have lVp := Vp.out.lt
  have lVa := Va.out.lt
  have s0 : ∀ u : Wk W, u.1.cell? ⟨w.heap.size, 0, none⟩ = some (.slice A p.costs.length c) := fun u => (Vp.out.next u.2).cell 0
  have s1 : ∀ u : Wk W, u.1.cell? ⟨w.heap.size, 1, none⟩ = some (.slice A2 p.rows.length c2) := fun u => (Vp.out.next u.2).cell 1
  have s2 : ∀ u : Wk W, u.1.cell? ⟨w.heap.size + 1, 0, none⟩ = some (.int .i64 2) := fun u => (Va.out.next u.2).cell 0
  have s3 : ∀ u : Wk W, u.1.cell? ⟨w.heap.size + 1, 1, none⟩ = some (.slice X xs.length cx) := fun u => (Va.out.next u.2).cell 1
  have s4 : ∀ u : Wk W, u.1.cell? ⟨w.heap.size + 1, 2, none⟩ = some (.int .i64 xd) := fun u => (Va.out.next u.2).cell 2
  have s5 : ∀ u : Wk W, u.1.cell? ⟨w.heap.size + 1, 3, none⟩ = some (.slice Y ys.length cy) := fun u => (Va.out.next u.2).cell 3
  have s6 : ∀ u : Wk W, u.1.cell? ⟨w.heap.size + 1, 4, none⟩ = some (.int .i64 yd) := fun u => (Va.out.next u.2).cell 4
  have s7 : ∀ u : Wk W, u.1.cell? ⟨w.heap.size + 1, 5, none⟩ = some (.slice R rs.length cr) := fun u => (Va.out.next u.2).cell 5
  have s8 : ∀ u : Wk W, u.1.cell? ⟨w.heap.size + 1, 6, none⟩ = some (.int .i64 rd) := fun u => (Va.out.next u.2).cell 6
  have s9 : ∀ u : Wk W, u.1.cell? ⟨w.heap.size + 1, 7, none⟩ = some (.int .i64 0) := fun u => (Va.out.next u.2).cell 7
  have s10 : ∀ u : Wk W, u.1.cell? ⟨w.heap.size + 1, 8, none⟩ = some (.int .i64 0) := fun u => (Va.out.next u.2).cell 8
  refine (show Calls Try.prog 23 #[.agg #[.slice A p.costs.length c, .slice A2 p.rows.length c2]] W fun e w' => e = .returned (.bool true) ∧ Below W.heap.size W w' from by rw [← HM.out]; exact (ref2_May _ _ _ _ _ _ HPw.out)).mono ?_
  rintro e w1 ⟨rfl, hb1⟩
  obtain ⟨u1, rfl⟩ : ∃ u : Wk W, w1 = u.1 := ⟨⟨w1, hb1⟩, rfl⟩
  clear hb1
  go_wp2_with fail
  refine (show Calls Try.prog 69 #[.agg #[.slice Y ys.length cy, .int .i64 yd]] u1.1 fun e w' => e = .returned (.bool (emptyB ys yd)) ∧ Below u1.1.heap.size u1.1 w' from ref4_empty _ _ _ _ _ (HYw.out.below u1.2)).mono ?_
  rw [q1]
  rintro e w1 ⟨rfl, hb1⟩
  obtain ⟨u2, rfl⟩ : ∃ u : Wk W, w1 = u.1 := ⟨⟨w1, u1.2.trans (hb1.mono u1.2.size)⟩, rfl⟩
  clear hb1
  go_wp2_with fail
  refine (ref2_Goes _ _ _ _ _ _ _ _ _ _ (HPw.out.below u2.2) (HXw.out.below u2.2)).mono ?_
  rw [q2]
  rintro e w1 ⟨rfl, hb1⟩
  obtain ⟨u3, rfl⟩ : ∃ u : Wk W, w1 = u.1 := ⟨⟨w1, u2.2.trans (hb1.mono u2.2.size)⟩, rfl⟩
  clear hb1
  go_wp2_with fail
  refine (ref4_point _ _ _ _ _ _ (HRw.out.below u3.2)).mono ?_
  rw [q4]
  rintro e w1 ⟨rfl, hb1⟩
  obtain ⟨u4, rfl⟩ : ∃ u : Wk W, w1 = u.1 := ⟨⟨w1, u3.2.trans (hb1.mono u3.2.size)⟩, rfl⟩
  clear hb1
  go_wp2_with fail
  go_ret
  exact ⟨rfl, (by have hT := u4.2; exact (by (repeat (any_goals (first | exact Below.refl _ _ | exact HW.out | exact hT | refine below_drewN ?_ _ | refine Below.drew ?_ | refine Below.alloc ?_ ?_ _ | refine Below.setCell ?_ ?_ _ | refine Below.trans ?_ (Below.mono HW.out ?_) | refine Below.trans ?_ (Below.mono hT ?_)))); all_goals (first | omega | (simp; done) | (simp; omega) | ((try have z0 := HW.out.size); (try simp at z0); (try have z1 := hT.size); (try simp at z1); (try simp); omega))))⟩

set_option maxRecDepth 100000 in
set_option maxHeartbeats 4000000 in
theorem ref4_E6 (hp : Pg w A c A2 c2 p) (hx : Rd w X cx xs) (hy : Rd w Y cy ys) (hr : Rd w R cr rs) (hm : mayPB p = true) (q1 : emptyB ys yd = true) (q2 : goesB p xs xd = true) (q4 : aboveB rs 1 p.costs.length = true) :
    Calls Try.prog 24 #[.agg #[.slice A p.costs.length c, .slice A2 p.rows.length c2],
      .agg #[.int .i64 2, .slice X xs.length cx, .int .i64 xd, .slice Y ys.length cy, .int .i64 yd, .slice R rs.length cr, .int .i64 1, .int .i64 0, .int .i64 0]] w
      fun e w' => e = .returned (.bool ((p.rows.all (fun r => decide (dot r.1 rs ≤ 0)) && decide (0 < dot p.costs rs)))) ∧ Below w.heap.size w w' := by
  obtain ⟨hab1, hab2, hab3⟩ := aboveB_iff.1 q4
  obtain ⟨hd1, hd2, hsR, hl8⟩ := mayB_parts hab1
  have HS := Lib.hid hsR
  have HLN := Lib.hid hab2
  have HG := Lib.hid (mayPB_iff.1 hm).2.2.2.2.1
  clear hab1 hab2 hab3 hsR
  have HP := Lib.hid hp
  have HX := Lib.hid hx
  have HY := Lib.hid hy
  have HR := Lib.hid hr
  have HM := Lib.hid hm
  obtain ⟨⟨hl, hc, hsm, _⟩, ⟨hl2, hc2, hsm2, _⟩⟩ := hp
  have h4 : p.rows.length ≤ 4 := (mayPB_iff.1 hm).2.2.2.1
  have h4' : p.costs.length ≤ 4 := (mayPB_iff.1 hm).2.1
  have h5' : 1 ≤ p.costs.length := (mayPB_iff.1 hm).1
  clear hm hx hy hr
  go_enter Try.func24, Try.ntmps24
  go_wp2_with fail
  have Vp := Lib.hid (((Blk.new w 25 #[.slice A p.costs.length c, .slice A2 p.rows.length c2] _ rfl).alloc (.cells #[.int .i64 2, .slice X xs.length cx, .int .i64 xd, .slice Y ys.length cy, .int .i64 yd, .slice R rs.length cr, .int .i64 1, .int .i64 0, .int .i64 0] 57)))
  have Va := Lib.hid (Blk.new (w.alloc (.cells #[.slice A p.costs.length c, .slice A2 p.rows.length c2] 25)) 57 #[.int .i64 2, .slice X xs.length cx, .int .i64 xd, .slice Y ys.length cy, .int .i64 yd, .slice R rs.length cr, .int .i64 1, .int .i64 0, .int .i64 0] (w.heap.size + 1) (by simp))
  have hW := ((by (repeat (any_goals (first | exact Below.refl _ _ | refine below_drewN ?_ _ | refine Below.drew ?_ | refine Below.alloc ?_ ?_ _ | refine Below.setCell ?_ ?_ _))); all_goals (first | omega | (simp; done) | (simp; omega))) : Below w.heap.size w ((w.alloc (.cells #[.slice A p.costs.length c, .slice A2 p.rows.length c2] 25)).alloc (.cells #[.int .i64 2, .slice X xs.length cx, .int .i64 xd, .slice Y ys.length cy, .int .i64 yd, .slice R rs.length cr, .int .i64 1, .int .i64 0, .int .i64 0] 57)))
  have HPw := Lib.hid (HP.out.below hW)
  have HXw := Lib.hid (HX.out.below hW)
  have HYw := Lib.hid (HY.out.below hW)
  have HRw := Lib.hid (HR.out.below hW)
  have HW := Lib.hid hW
  clear hW
  generalize ((w.alloc (.cells #[.slice A p.costs.length c, .slice A2 p.rows.length c2] 25)).alloc (.cells #[.int .i64 2, .slice X xs.length cx, .int .i64 xd, .slice Y ys.length cy, .int .i64 yd, .slice R rs.length cr, .int .i64 1, .int .i64 0, .int .i64 0] 57)) = W at *
  have lVp := Vp.out.lt
  have lVa := Va.out.lt
  have s0 : ∀ u : Wk W, u.1.cell? ⟨w.heap.size, 0, none⟩ = some (.slice A p.costs.length c) := fun u => (Vp.out.next u.2).cell 0
  have s1 : ∀ u : Wk W, u.1.cell? ⟨w.heap.size, 1, none⟩ = some (.slice A2 p.rows.length c2) := fun u => (Vp.out.next u.2).cell 1
  have s2 : ∀ u : Wk W, u.1.cell? ⟨w.heap.size + 1, 0, none⟩ = some (.int .i64 2) := fun u => (Va.out.next u.2).cell 0
  have s3 : ∀ u : Wk W, u.1.cell? ⟨w.heap.size + 1, 1, none⟩ = some (.slice X xs.length cx) := fun u => (Va.out.next u.2).cell 1
  have s4 : ∀ u : Wk W, u.1.cell? ⟨w.heap.size + 1, 2, none⟩ = some (.int .i64 xd) := fun u => (Va.out.next u.2).cell 2
  have s5 : ∀ u : Wk W, u.1.cell? ⟨w.heap.size + 1, 3, none⟩ = some (.slice Y ys.length cy) := fun u => (Va.out.next u.2).cell 3
  have s6 : ∀ u : Wk W, u.1.cell? ⟨w.heap.size + 1, 4, none⟩ = some (.int .i64 yd) := fun u => (Va.out.next u.2).cell 4
  have s7 : ∀ u : Wk W, u.1.cell? ⟨w.heap.size + 1, 5, none⟩ = some (.slice R rs.length cr) := fun u => (Va.out.next u.2).cell 5
  have s8 : ∀ u : Wk W, u.1.cell? ⟨w.heap.size + 1, 6, none⟩ = some (.int .i64 1) := fun u => (Va.out.next u.2).cell 6
  have s9 : ∀ u : Wk W, u.1.cell? ⟨w.heap.size + 1, 7, none⟩ = some (.int .i64 0) := fun u => (Va.out.next u.2).cell 7
  have s10 : ∀ u : Wk W, u.1.cell? ⟨w.heap.size + 1, 8, none⟩ = some (.int .i64 0) := fun u => (Va.out.next u.2).cell 8
  refine (show Calls Try.prog 23 #[.agg #[.slice A p.costs.length c, .slice A2 p.rows.length c2]] W fun e w' => e = .returned (.bool true) ∧ Below W.heap.size W w' from by rw [← HM.out]; exact (ref2_May _ _ _ _ _ _ HPw.out)).mono ?_
  rintro e w1 ⟨rfl, hb1⟩
  obtain ⟨u1, rfl⟩ : ∃ u : Wk W, w1 = u.1 := ⟨⟨w1, hb1⟩, rfl⟩
  clear hb1
  go_wp2_with fail
  refine (show Calls Try.prog 69 #[.agg #[.slice Y ys.length cy, .int .i64 yd]] u1.1 fun e w' => e = .returned (.bool (emptyB ys yd)) ∧ Below u1.1.heap.size u1.1 w' from ref4_empty _ _ _ _ _ (HYw.out.below u1.2)).mono ?_
  rw [q1]
  rintro e w1 ⟨rfl, hb1⟩
  obtain ⟨u2, rfl⟩ : ∃ u : Wk W, w1 = u.1 := ⟨⟨w1, u1.2.trans (hb1.mono u1.2.size)⟩, rfl⟩
  clear hb1
  go_wp2_with fail
  refine (ref2_Goes _ _ _ _ _ _ _ _ _ _ (HPw.out.below u2.2) (HXw.out.below u2.2)).mono ?_
  rw [q2]
  rintro e w1 ⟨rfl, hb1⟩
  obtain ⟨u3, rfl⟩ : ∃ u : Wk W, w1 = u.1 := ⟨⟨w1, u2.2.trans (hb1.mono u2.2.size)⟩, rfl⟩
  clear hb1
  go_wp2_with fail
  refine (ref4_point _ _ _ _ _ _ (HRw.out.below u3.2)).mono ?_
  rw [q4]
  rintro e w1 ⟨rfl, hb1⟩
  obtain ⟨u4, rfl⟩ : ∃ u : Wk W, w1 = u.1 := ⟨⟨w1, u3.2.trans (hb1.mono u3.2.size)⟩, rfl⟩
  clear hb1
  go_wp2_with fail
  go_loopw [12] (fun i wr => ∃ (k : Nat) (u : Wk W), k ≤ p.rows.length ∧ i = .int .i64 k ∧ ((p.rows.take k).all fun r => decide (dot r.1 rs ≤ 0)) = true ∧ wr = u.1) (fun i _ => p.rows.length - (intOf i).toNat)
  case atStart => exact ⟨0, u4, by omega, rfl, rfl, rfl⟩
  case round =>
    obtain ⟨k, u, hk, rfl, hall, rfl⟩ := hrel
    have HA := Lib.hid hall
    clear hall
    by_cases hlt : k < p.rows.length
    · obtain ⟨ad, A', c', rfl, hc1, hc2', hr⟩ := HPw.out.rows.at_ hlt
      have hadl := World.block_lt_of_cell? _ _ hc1
      have hcu : ∀ v : Wk W, v.1.cell? (ad.add (k * 2)) = some (.slice A' p.rows[k].1.length c') := fun v => (v.2.cell hadl).trans hc1
      obtain ⟨hq1, _, hq4⟩ := mayPB_row HM.out hlt
      have HR' := Lib.hid hr
      have HT' := Lib.hid (all_take (f := fun r : List Int × Int => decide (dot r.1 rs ≤ 0)) hlt)
      have HF := Lib.hid (all_false (f := fun r : List Int × Int => decide (dot r.1 rs ≤ 0)) hlt)
      have HQ4 := Lib.hid hq4
      have HQ1 := Lib.hid (show p.rows[k].1.length = rs.length by rw [hq1, HLN.out])
      have hle4 : p.rows[k].1.length ≤ 4 := by omega
      have hi2 : (k : Int) < (p.rows.length : Int) := by omega
      generalize hr1 : p.rows[k].1 = r1 at *
      have HR1 := Lib.hid hr1
      have HD := Lib.hid (show ∀ v : Wk W, Calls Try.prog 16 #[.slice A' r1.length c', .slice R rs.length cr] v.1 fun e w' => e = .returned (.int .i64 (dot r1 rs)) ∧ ∃ n, w' = v.1.drewN n from
        fun v => ref2_Dot A' r1 c' R rs cr 12 1073741824 v.1 (HR'.out.below v.2) (HRw.out.below v.2) (by have := HQ1.out; omega) (by omega) (by omega) HQ4.out HS.out (by omega))
      clear hr hr1 hq1 hq4 hc1 hc2'
      by_cases hle : dot r1 rs ≤ 0
      · go_wp2_with fail
        refine wk_region' (by kernel_rfl) (by kernel_rfl) ?_
        repeat (go_big_quiet_step ((go_at_call 16; with_reducible exact wk_quiet (HD.out _))))
        refine wpQuiet_nil ?_
        rintro w5 ⟨u5, rfl⟩
        go_wp2_with fail
        go_roundw
        case rel => exact ⟨k + 1, u5, by omega, by go_num, by rw [HT'.out, HA.out]; simp [HR1.out, hle], rfl⟩
        case measure => simp [intOf]; omega
      · go_wp2_with fail
        refine wk_region' (by kernel_rfl) (by kernel_rfl) ?_
        repeat (go_big_quiet_step ((go_at_call 16; with_reducible exact wk_quiet (HD.out _))))
        refine wpQuiet_nil ?_
        rintro w5 ⟨u5, rfl⟩
        go_wp2_with fail
        go_ret
        exact ⟨ret_bool (by rw [HF.out (by simp [HR1.out]; omega)]; rfl), (by have hT := u5.2; exact (by (repeat (any_goals (first | exact Below.refl _ _ | exact HW.out | exact hT | refine below_drewN ?_ _ | refine Below.drew ?_ | refine Below.alloc ?_ ?_ _ | refine Below.setCell ?_ ?_ _ | refine Below.trans ?_ (Below.mono HW.out ?_) | refine Below.trans ?_ (Below.mono hT ?_)))); all_goals (first | omega | (simp; done) | (simp; omega) | ((try have z0 := HW.out.size); (try simp at z0); (try have z1 := hT.size); (try simp at z1); (try simp); omega))))⟩
    · obtain rfl : k = p.rows.length := by omega
      go_wp2_with fail
      refine (ref2_Dot A p.costs c R rs cr 400 1073741824 u.1 (HPw.out.costs.below u.2) (HRw.out.below u.2) (by have := HLN.out; omega) (by omega) (by omega) HG.out HS.out (by omega)).mono ?_
      rintro e w9 ⟨rfl, n9, rfl⟩
      go_wp2_with fail
      go_ret
      exact ⟨ret_bool (by have := HA.out; rw [List.take_length] at this; rw [this]; simp), (by have hT := u.2; exact (by (repeat (any_goals (first | exact Below.refl _ _ | exact HW.out | exact hT | refine below_drewN ?_ _ | refine Below.drew ?_ | refine Below.alloc ?_ ?_ _ | refine Below.setCell ?_ ?_ _ | refine Below.trans ?_ (Below.mono HW.out ?_) | refine Below.trans ?_ (Below.mono hT ?_)))); all_goals (first | omega | (simp; done) | (simp; omega) | ((try have z0 := HW.out.size); (try simp at z0); (try have z1 := hT.size); (try simp at z1); (try simp); omega))))⟩
end
end Go.Proofs.Ytjcdkbalhleeeab
