/-
  Walks: proof.endless computes what the plain words say.
-/
import Derived.Test.YtjcdkbalhleeeabPrf2
import Derived.Test.YtjcdkbalhleeeabLay2
namespace Go.Proofs.Ytjcdkbalhleeeab
open Go.RowKit

section
variable (A : Option Addr) (c : Nat) (A2 : Option Addr) (c2 : Nat) (p : PG) (X : Option Addr) (cx : Nat) (Y : Option Addr) (cy : Nat) (R : Option Addr) (cr : Nat) (kd : Int) (xs : List Int) (xd : Int) (ys : List Int) (yd : Int) (rs : List Int) (rd wn wd : Int) (w : World)
set_option maxHeartbeats 4000000 in
theorem endless_1 (hp : Pg w A c A2 c2 p) (hx : Rd w X cx xs) (hy : Rd w Y cy ys) (hr : Rd w R cr rs) (hm : mayPB p = true) (q1 : emptyB ys yd = false) :
    Calls Try.prog 77 #[.agg #[.slice A p.costs.length c, .slice A2 p.rows.length c2],
      .agg #[.int .i64 kd, .slice X xs.length cx, .int .i64 xd, .slice Y ys.length cy, .int .i64 yd, .slice R rs.length cr, .int .i64 rd, .int .i64 wn, .int .i64 wd]] w
      fun e w' => e = .returned (.bool false) ∧ Below w.heap.size w w' := by
  have HP := Lib.hid hp
  have HX := Lib.hid hx
  have HY := Lib.hid hy
  have HR := Lib.hid hr
  have HM := Lib.hid hm
  obtain ⟨⟨hl, hc, hsm, _⟩, ⟨hl2, hc2, hsm2, _⟩⟩ := hp
  have h4 : p.rows.length ≤ 4 := (mayPB_iff.1 hm).2.2.2.1
  have h4' : p.costs.length ≤ 4 := (mayPB_iff.1 hm).2.1
  have h5' : 1 ≤ p.costs.length := (mayPB_iff.1 hm).1
  clear hm hx hy hr
  go_enter Try.func77, Try.ntmps77
  go_wp2_with fail
  have Vp := Lib.hid (((Blk.new w 25 #[.slice A p.costs.length c, .slice A2 p.rows.length c2] _ rfl).alloc (.cells #[.int .i64 kd, .slice X xs.length cx, .int .i64 xd, .slice Y ys.length cy, .int .i64 yd, .slice R rs.length cr, .int .i64 rd, .int .i64 wn, .int .i64 wd] 57)))
  have Va := Lib.hid (Blk.new (w.alloc (.cells #[.slice A p.costs.length c, .slice A2 p.rows.length c2] 25)) 57 #[.int .i64 kd, .slice X xs.length cx, .int .i64 xd, .slice Y ys.length cy, .int .i64 yd, .slice R rs.length cr, .int .i64 rd, .int .i64 wn, .int .i64 wd] (w.heap.size + 1) (by simp))
  have hW := ((by (repeat (any_goals (first | exact Below.refl _ _ | refine below_drewN ?_ _ | refine Below.drew ?_ | refine Below.alloc ?_ ?_ _ | refine Below.setCell ?_ ?_ _))); all_goals (first | omega | (simp; done) | (simp; omega))) : Below w.heap.size w ((w.alloc (.cells #[.slice A p.costs.length c, .slice A2 p.rows.length c2] 25)).alloc (.cells #[.int .i64 kd, .slice X xs.length cx, .int .i64 xd, .slice Y ys.length cy, .int .i64 yd, .slice R rs.length cr, .int .i64 rd, .int .i64 wn, .int .i64 wd] 57)))
  have HPw := Lib.hid (HP.out.below hW)
  have HXw := Lib.hid (HX.out.below hW)
  have HYw := Lib.hid (HY.out.below hW)
  have HRw := Lib.hid (HR.out.below hW)
  have HW := Lib.hid hW
  clear hW
  generalize ((w.alloc (.cells #[.slice A p.costs.length c, .slice A2 p.rows.length c2] 25)).alloc (.cells #[.int .i64 kd, .slice X xs.length cx, .int .i64 xd, .slice Y ys.length cy, .int .i64 yd, .slice R rs.length cr, .int .i64 rd, .int .i64 wn, .int .i64 wd] 57)) = W at *
  have lVp := Vp.out.lt
  have lVa := Va.out.lt
  have s0 : ∀ u : Wk W, u.1.cell? ⟨w.heap.size, 0, none⟩ = some (.slice A p.costs.length c) := fun u => (Vp.out.next u.2).cell 0
  have s1 : ∀ u : Wk W, u.1.cell? ⟨w.heap.size, 1, none⟩ = some (.slice A2 p.rows.length c2) := fun u => (Vp.out.next u.2).cell 1
  have s2 : ∀ u : Wk W, u.1.cell? ⟨w.heap.size + 1, 0, none⟩ = some (.int .i64 kd) := fun u => (Va.out.next u.2).cell 0
  have s3 : ∀ u : Wk W, u.1.cell? ⟨w.heap.size + 1, 1, none⟩ = some (.slice X xs.length cx) := fun u => (Va.out.next u.2).cell 1
  have s4 : ∀ u : Wk W, u.1.cell? ⟨w.heap.size + 1, 2, none⟩ = some (.int .i64 xd) := fun u => (Va.out.next u.2).cell 2
  have s5 : ∀ u : Wk W, u.1.cell? ⟨w.heap.size + 1, 3, none⟩ = some (.slice Y ys.length cy) := fun u => (Va.out.next u.2).cell 3
  have s6 : ∀ u : Wk W, u.1.cell? ⟨w.heap.size + 1, 4, none⟩ = some (.int .i64 yd) := fun u => (Va.out.next u.2).cell 4
  have s7 : ∀ u : Wk W, u.1.cell? ⟨w.heap.size + 1, 5, none⟩ = some (.slice R rs.length cr) := fun u => (Va.out.next u.2).cell 5
  have s8 : ∀ u : Wk W, u.1.cell? ⟨w.heap.size + 1, 6, none⟩ = some (.int .i64 rd) := fun u => (Va.out.next u.2).cell 6
  have s9 : ∀ u : Wk W, u.1.cell? ⟨w.heap.size + 1, 7, none⟩ = some (.int .i64 wn) := fun u => (Va.out.next u.2).cell 7
  have s10 : ∀ u : Wk W, u.1.cell? ⟨w.heap.size + 1, 8, none⟩ = some (.int .i64 wd) := fun u => (Va.out.next u.2).cell 8
  have hE1 := Lib.hid (show ∀ u : Wk W, Calls Try.prog 114 #[.agg #[.slice Y ys.length cy, .int .i64 yd]] u.1 fun e w' => e = .returned (.bool false) ∧ Below u.1.heap.size u.1 w' from fun u => by rw [← q1]; exact (proof_empty _ _ _ _ _ (HYw.out.below u.2)))
  refine (hE1.out ⟨W, Below.refl _ _⟩).mono ?_
  rintro e w1 ⟨rfl, hb1⟩
  obtain ⟨u1, rfl⟩ : ∃ u : Wk W, w1 = u.1 := ⟨⟨w1, hb1⟩, rfl⟩
  clear hb1
  go_wp2_with fail
  go_ret
  exact ⟨rfl, (by have hT := u1.2; exact (by (repeat (any_goals (first | exact Below.refl _ _ | exact HW.out | exact hT | refine below_drewN ?_ _ | refine Below.drew ?_ | refine Below.alloc ?_ ?_ _ | refine Below.setCell ?_ ?_ _ | refine Below.trans ?_ (Below.mono HW.out ?_) | refine Below.trans ?_ (Below.mono hT ?_)))); all_goals (first | omega | (simp; done) | (simp; omega) | ((try have z0 := HW.out.size); (try simp at z0); (try have z1 := hT.size); (try simp at z1); (try simp); omega))))⟩
set_option maxHeartbeats 4000000 in
theorem endless_2 (hp : Pg w A c A2 c2 p) (hx : Rd w X cx xs) (hy : Rd w Y cy ys) (hr : Rd w R cr rs) (hm : mayPB p = true) (q1 : emptyB ys yd = true) (q3 : ¬ wn = 0) :
    Calls Try.prog 77 #[.agg #[.slice A p.costs.length c, .slice A2 p.rows.length c2],
      .agg #[.int .i64 kd, .slice X xs.length cx, .int .i64 xd, .slice Y ys.length cy, .int .i64 yd, .slice R rs.length cr, .int .i64 rd, .int .i64 wn, .int .i64 wd]] w
      fun e w' => e = .returned (.bool false) ∧ Below w.heap.size w w' := by
  have HP := Lib.hid hp
  have HX := Lib.hid hx
  have HY := Lib.hid hy
  have HR := Lib.hid hr
  have HM := Lib.hid hm
  obtain ⟨⟨hl, hc, hsm, _⟩, ⟨hl2, hc2, hsm2, _⟩⟩ := hp
  have h4 : p.rows.length ≤ 4 := (mayPB_iff.1 hm).2.2.2.1
  have h4' : p.costs.length ≤ 4 := (mayPB_iff.1 hm).2.1
  have h5' : 1 ≤ p.costs.length := (mayPB_iff.1 hm).1
  clear hm hx hy hr
  go_enter Try.func77, Try.ntmps77
  go_wp2_with fail
  have Vp := Lib.hid (((Blk.new w 25 #[.slice A p.costs.length c, .slice A2 p.rows.length c2] _ rfl).alloc (.cells #[.int .i64 kd, .slice X xs.length cx, .int .i64 xd, .slice Y ys.length cy, .int .i64 yd, .slice R rs.length cr, .int .i64 rd, .int .i64 wn, .int .i64 wd] 57)))
  have Va := Lib.hid (Blk.new (w.alloc (.cells #[.slice A p.costs.length c, .slice A2 p.rows.length c2] 25)) 57 #[.int .i64 kd, .slice X xs.length cx, .int .i64 xd, .slice Y ys.length cy, .int .i64 yd, .slice R rs.length cr, .int .i64 rd, .int .i64 wn, .int .i64 wd] (w.heap.size + 1) (by simp))
  have hW := ((by (repeat (any_goals (first | exact Below.refl _ _ | refine below_drewN ?_ _ | refine Below.drew ?_ | refine Below.alloc ?_ ?_ _ | refine Below.setCell ?_ ?_ _))); all_goals (first | omega | (simp; done) | (simp; omega))) : Below w.heap.size w ((w.alloc (.cells #[.slice A p.costs.length c, .slice A2 p.rows.length c2] 25)).alloc (.cells #[.int .i64 kd, .slice X xs.length cx, .int .i64 xd, .slice Y ys.length cy, .int .i64 yd, .slice R rs.length cr, .int .i64 rd, .int .i64 wn, .int .i64 wd] 57)))
  have HPw := Lib.hid (HP.out.below hW)
  have HXw := Lib.hid (HX.out.below hW)
  have HYw := Lib.hid (HY.out.below hW)
  have HRw := Lib.hid (HR.out.below hW)
  have HW := Lib.hid hW
  clear hW
  generalize ((w.alloc (.cells #[.slice A p.costs.length c, .slice A2 p.rows.length c2] 25)).alloc (.cells #[.int .i64 kd, .slice X xs.length cx, .int .i64 xd, .slice Y ys.length cy, .int .i64 yd, .slice R rs.length cr, .int .i64 rd, .int .i64 wn, .int .i64 wd] 57)) = W at *
  have lVp := Vp.out.lt
  have lVa := Va.out.lt
  have s0 : ∀ u : Wk W, u.1.cell? ⟨w.heap.size, 0, none⟩ = some (.slice A p.costs.length c) := fun u => (Vp.out.next u.2).cell 0
  have s1 : ∀ u : Wk W, u.1.cell? ⟨w.heap.size, 1, none⟩ = some (.slice A2 p.rows.length c2) := fun u => (Vp.out.next u.2).cell 1
  have s2 : ∀ u : Wk W, u.1.cell? ⟨w.heap.size + 1, 0, none⟩ = some (.int .i64 kd) := fun u => (Va.out.next u.2).cell 0
  have s3 : ∀ u : Wk W, u.1.cell? ⟨w.heap.size + 1, 1, none⟩ = some (.slice X xs.length cx) := fun u => (Va.out.next u.2).cell 1
  have s4 : ∀ u : Wk W, u.1.cell? ⟨w.heap.size + 1, 2, none⟩ = some (.int .i64 xd) := fun u => (Va.out.next u.2).cell 2
  have s5 : ∀ u : Wk W, u.1.cell? ⟨w.heap.size + 1, 3, none⟩ = some (.slice Y ys.length cy) := fun u => (Va.out.next u.2).cell 3
  have s6 : ∀ u : Wk W, u.1.cell? ⟨w.heap.size + 1, 4, none⟩ = some (.int .i64 yd) := fun u => (Va.out.next u.2).cell 4
  have s7 : ∀ u : Wk W, u.1.cell? ⟨w.heap.size + 1, 5, none⟩ = some (.slice R rs.length cr) := fun u => (Va.out.next u.2).cell 5
  have s8 : ∀ u : Wk W, u.1.cell? ⟨w.heap.size + 1, 6, none⟩ = some (.int .i64 rd) := fun u => (Va.out.next u.2).cell 6
  have s9 : ∀ u : Wk W, u.1.cell? ⟨w.heap.size + 1, 7, none⟩ = some (.int .i64 wn) := fun u => (Va.out.next u.2).cell 7
  have s10 : ∀ u : Wk W, u.1.cell? ⟨w.heap.size + 1, 8, none⟩ = some (.int .i64 wd) := fun u => (Va.out.next u.2).cell 8
  have hE1 := Lib.hid (show ∀ u : Wk W, Calls Try.prog 114 #[.agg #[.slice Y ys.length cy, .int .i64 yd]] u.1 fun e w' => e = .returned (.bool true) ∧ Below u.1.heap.size u.1 w' from fun u => by rw [← q1]; exact (proof_empty _ _ _ _ _ (HYw.out.below u.2)))
  refine (hE1.out ⟨W, Below.refl _ _⟩).mono ?_
  rintro e w1 ⟨rfl, hb1⟩
  obtain ⟨u1, rfl⟩ : ∃ u : Wk W, w1 = u.1 := ⟨⟨w1, hb1⟩, rfl⟩
  clear hb1
  go_wp2_with fail
  go_ret
  exact ⟨rfl, (by have hT := u1.2; exact (by (repeat (any_goals (first | exact Below.refl _ _ | exact HW.out | exact hT | refine below_drewN ?_ _ | refine Below.drew ?_ | refine Below.alloc ?_ ?_ _ | refine Below.setCell ?_ ?_ _ | refine Below.trans ?_ (Below.mono HW.out ?_) | refine Below.trans ?_ (Below.mono hT ?_)))); all_goals (first | omega | (simp; done) | (simp; omega) | ((try have z0 := HW.out.size); (try simp at z0); (try have z1 := hT.size); (try simp at z1); (try simp); omega))))⟩
set_option maxHeartbeats 4000000 in
theorem endless_3 (hp : Pg w A c A2 c2 p) (hx : Rd w X cx xs) (hy : Rd w Y cy ys) (hr : Rd w R cr rs) (hm : mayPB p = true) (q1 : emptyB ys yd = true) (q3 : ¬ wd = 0) :
    Calls Try.prog 77 #[.agg #[.slice A p.costs.length c, .slice A2 p.rows.length c2],
      .agg #[.int .i64 kd, .slice X xs.length cx, .int .i64 xd, .slice Y ys.length cy, .int .i64 yd, .slice R rs.length cr, .int .i64 rd, .int .i64 0, .int .i64 wd]] w
      fun e w' => e = .returned (.bool false) ∧ Below w.heap.size w w' := by
  have HP := Lib.hid hp
  have HX := Lib.hid hx
  have HY := Lib.hid hy
  have HR := Lib.hid hr
  have HM := Lib.hid hm
  obtain ⟨⟨hl, hc, hsm, _⟩, ⟨hl2, hc2, hsm2, _⟩⟩ := hp
  have h4 : p.rows.length ≤ 4 := (mayPB_iff.1 hm).2.2.2.1
  have h4' : p.costs.length ≤ 4 := (mayPB_iff.1 hm).2.1
  have h5' : 1 ≤ p.costs.length := (mayPB_iff.1 hm).1
  clear hm hx hy hr
  go_enter Try.func77, Try.ntmps77
  go_wp2_with fail
  have Vp := Lib.hid (((Blk.new w 25 #[.slice A p.costs.length c, .slice A2 p.rows.length c2] _ rfl).alloc (.cells #[.int .i64 kd, .slice X xs.length cx, .int .i64 xd, .slice Y ys.length cy, .int .i64 yd, .slice R rs.length cr, .int .i64 rd, .int .i64 0, .int .i64 wd] 57)))
  have Va := Lib.hid (Blk.new (w.alloc (.cells #[.slice A p.costs.length c, .slice A2 p.rows.length c2] 25)) 57 #[.int .i64 kd, .slice X xs.length cx, .int .i64 xd, .slice Y ys.length cy, .int .i64 yd, .slice R rs.length cr, .int .i64 rd, .int .i64 0, .int .i64 wd] (w.heap.size + 1) (by simp))
  have hW := ((by (repeat (any_goals (first | exact Below.refl _ _ | refine below_drewN ?_ _ | refine Below.drew ?_ | refine Below.alloc ?_ ?_ _ | refine Below.setCell ?_ ?_ _))); all_goals (first | omega | (simp; done) | (simp; omega))) : Below w.heap.size w ((w.alloc (.cells #[.slice A p.costs.length c, .slice A2 p.rows.length c2] 25)).alloc (.cells #[.int .i64 kd, .slice X xs.length cx, .int .i64 xd, .slice Y ys.length cy, .int .i64 yd, .slice R rs.length cr, .int .i64 rd, .int .i64 0, .int .i64 wd] 57)))
  have HPw := Lib.hid (HP.out.below hW)
  have HXw := Lib.hid (HX.out.below hW)
  have HYw := Lib.hid (HY.out.below hW)
  have HRw := Lib.hid (HR.out.below hW)
  have HW := Lib.hid hW
  clear hW
  generalize ((w.alloc (.cells #[.slice A p.costs.length c, .slice A2 p.rows.length c2] 25)).alloc (.cells #[.int .i64 kd, .slice X xs.length cx, .int .i64 xd, .slice Y ys.length cy, .int .i64 yd, .slice R rs.length cr, .int .i64 rd, .int .i64 0, .int .i64 wd] 57)) = W at *
  have lVp := Vp.out.lt
  have lVa := Va.out.lt
  have s0 : ∀ u : Wk W, u.1.cell? ⟨w.heap.size, 0, none⟩ = some (.slice A p.costs.length c) := fun u => (Vp.out.next u.2).cell 0
  have s1 : ∀ u : Wk W, u.1.cell? ⟨w.heap.size, 1, none⟩ = some (.slice A2 p.rows.length c2) := fun u => (Vp.out.next u.2).cell 1
  have s2 : ∀ u : Wk W, u.1.cell? ⟨w.heap.size + 1, 0, none⟩ = some (.int .i64 kd) := fun u => (Va.out.next u.2).cell 0
  have s3 : ∀ u : Wk W, u.1.cell? ⟨w.heap.size + 1, 1, none⟩ = some (.slice X xs.length cx) := fun u => (Va.out.next u.2).cell 1
  have s4 : ∀ u : Wk W, u.1.cell? ⟨w.heap.size + 1, 2, none⟩ = some (.int .i64 xd) := fun u => (Va.out.next u.2).cell 2
  have s5 : ∀ u : Wk W, u.1.cell? ⟨w.heap.size + 1, 3, none⟩ = some (.slice Y ys.length cy) := fun u => (Va.out.next u.2).cell 3
  have s6 : ∀ u : Wk W, u.1.cell? ⟨w.heap.size + 1, 4, none⟩ = some (.int .i64 yd) := fun u => (Va.out.next u.2).cell 4
  have s7 : ∀ u : Wk W, u.1.cell? ⟨w.heap.size + 1, 5, none⟩ = some (.slice R rs.length cr) := fun u => (Va.out.next u.2).cell 5
  have s8 : ∀ u : Wk W, u.1.cell? ⟨w.heap.size + 1, 6, none⟩ = some (.int .i64 rd) := fun u => (Va.out.next u.2).cell 6
  have s9 : ∀ u : Wk W, u.1.cell? ⟨w.heap.size + 1, 7, none⟩ = some (.int .i64 0) := fun u => (Va.out.next u.2).cell 7
  have s10 : ∀ u : Wk W, u.1.cell? ⟨w.heap.size + 1, 8, none⟩ = some (.int .i64 wd) := fun u => (Va.out.next u.2).cell 8
  have hE1 := Lib.hid (show ∀ u : Wk W, Calls Try.prog 114 #[.agg #[.slice Y ys.length cy, .int .i64 yd]] u.1 fun e w' => e = .returned (.bool true) ∧ Below u.1.heap.size u.1 w' from fun u => by rw [← q1]; exact (proof_empty _ _ _ _ _ (HYw.out.below u.2)))
  refine (hE1.out ⟨W, Below.refl _ _⟩).mono ?_
  rintro e w1 ⟨rfl, hb1⟩
  obtain ⟨u1, rfl⟩ : ∃ u : Wk W, w1 = u.1 := ⟨⟨w1, hb1⟩, rfl⟩
  clear hb1
  go_wp2_with fail
  go_ret
  exact ⟨rfl, (by have hT := u1.2; exact (by (repeat (any_goals (first | exact Below.refl _ _ | exact HW.out | exact hT | refine below_drewN ?_ _ | refine Below.drew ?_ | refine Below.alloc ?_ ?_ _ | refine Below.setCell ?_ ?_ _ | refine Below.trans ?_ (Below.mono HW.out ?_) | refine Below.trans ?_ (Below.mono hT ?_)))); all_goals (first | omega | (simp; done) | (simp; omega) | ((try have z0 := HW.out.size); (try simp at z0); (try have z1 := hT.size); (try simp at z1); (try simp); omega))))⟩
set_option maxHeartbeats 4000000 in
theorem endless_4 (hp : Pg w A c A2 c2 p) (hx : Rd w X cx xs) (hy : Rd w Y cy ys) (hr : Rd w R cr rs) (hm : mayPB p = true) (q1 : emptyB ys yd = true) (q2 : goesB p xs xd = false) :
    Calls Try.prog 77 #[.agg #[.slice A p.costs.length c, .slice A2 p.rows.length c2],
      .agg #[.int .i64 kd, .slice X xs.length cx, .int .i64 xd, .slice Y ys.length cy, .int .i64 yd, .slice R rs.length cr, .int .i64 rd, .int .i64 0, .int .i64 0]] w
      fun e w' => e = .returned (.bool false) ∧ Below w.heap.size w w' := by
  have HP := Lib.hid hp
  have HX := Lib.hid hx
  have HY := Lib.hid hy
  have HR := Lib.hid hr
  have HM := Lib.hid hm
  obtain ⟨⟨hl, hc, hsm, _⟩, ⟨hl2, hc2, hsm2, _⟩⟩ := hp
  have h4 : p.rows.length ≤ 4 := (mayPB_iff.1 hm).2.2.2.1
  have h4' : p.costs.length ≤ 4 := (mayPB_iff.1 hm).2.1
  have h5' : 1 ≤ p.costs.length := (mayPB_iff.1 hm).1
  clear hm hx hy hr
  go_enter Try.func77, Try.ntmps77
  go_wp2_with fail
  have Vp := Lib.hid (((Blk.new w 25 #[.slice A p.costs.length c, .slice A2 p.rows.length c2] _ rfl).alloc (.cells #[.int .i64 kd, .slice X xs.length cx, .int .i64 xd, .slice Y ys.length cy, .int .i64 yd, .slice R rs.length cr, .int .i64 rd, .int .i64 0, .int .i64 0] 57)))
  have Va := Lib.hid (Blk.new (w.alloc (.cells #[.slice A p.costs.length c, .slice A2 p.rows.length c2] 25)) 57 #[.int .i64 kd, .slice X xs.length cx, .int .i64 xd, .slice Y ys.length cy, .int .i64 yd, .slice R rs.length cr, .int .i64 rd, .int .i64 0, .int .i64 0] (w.heap.size + 1) (by simp))
  have hW := ((by (repeat (any_goals (first | exact Below.refl _ _ | refine below_drewN ?_ _ | refine Below.drew ?_ | refine Below.alloc ?_ ?_ _ | refine Below.setCell ?_ ?_ _))); all_goals (first | omega | (simp; done) | (simp; omega))) : Below w.heap.size w ((w.alloc (.cells #[.slice A p.costs.length c, .slice A2 p.rows.length c2] 25)).alloc (.cells #[.int .i64 kd, .slice X xs.length cx, .int .i64 xd, .slice Y ys.length cy, .int .i64 yd, .slice R rs.length cr, .int .i64 rd, .int .i64 0, .int .i64 0] 57)))
  have HPw := Lib.hid (HP.out.below hW)
  have HXw := Lib.hid (HX.out.below hW)
  have HYw := Lib.hid (HY.out.below hW)
  have HRw := Lib.hid (HR.out.below hW)
  have HW := Lib.hid hW
  clear hW
  generalize ((w.alloc (.cells #[.slice A p.costs.length c, .slice A2 p.rows.length c2] 25)).alloc (.cells #[.int .i64 kd, .slice X xs.length cx, .int .i64 xd, .slice Y ys.length cy, .int .i64 yd, .slice R rs.length cr, .int .i64 rd, .int .i64 0, .int .i64 0] 57)) = W at *
  have lVp := Vp.out.lt
  have lVa := Va.out.lt
  have s0 : ∀ u : Wk W, u.1.cell? ⟨w.heap.size, 0, none⟩ = some (.slice A p.costs.length c) := fun u => (Vp.out.next u.2).cell 0
  have s1 : ∀ u : Wk W, u.1.cell? ⟨w.heap.size, 1, none⟩ = some (.slice A2 p.rows.length c2) := fun u => (Vp.out.next u.2).cell 1
  have s2 : ∀ u : Wk W, u.1.cell? ⟨w.heap.size + 1, 0, none⟩ = some (.int .i64 kd) := fun u => (Va.out.next u.2).cell 0
  have s3 : ∀ u : Wk W, u.1.cell? ⟨w.heap.size + 1, 1, none⟩ = some (.slice X xs.length cx) := fun u => (Va.out.next u.2).cell 1
  have s4 : ∀ u : Wk W, u.1.cell? ⟨w.heap.size + 1, 2, none⟩ = some (.int .i64 xd) := fun u => (Va.out.next u.2).cell 2
  have s5 : ∀ u : Wk W, u.1.cell? ⟨w.heap.size + 1, 3, none⟩ = some (.slice Y ys.length cy) := fun u => (Va.out.next u.2).cell 3
  have s6 : ∀ u : Wk W, u.1.cell? ⟨w.heap.size + 1, 4, none⟩ = some (.int .i64 yd) := fun u => (Va.out.next u.2).cell 4
  have s7 : ∀ u : Wk W, u.1.cell? ⟨w.heap.size + 1, 5, none⟩ = some (.slice R rs.length cr) := fun u => (Va.out.next u.2).cell 5
  have s8 : ∀ u : Wk W, u.1.cell? ⟨w.heap.size + 1, 6, none⟩ = some (.int .i64 rd) := fun u => (Va.out.next u.2).cell 6
  have s9 : ∀ u : Wk W, u.1.cell? ⟨w.heap.size + 1, 7, none⟩ = some (.int .i64 0) := fun u => (Va.out.next u.2).cell 7
  have s10 : ∀ u : Wk W, u.1.cell? ⟨w.heap.size + 1, 8, none⟩ = some (.int .i64 0) := fun u => (Va.out.next u.2).cell 8
  have hE1 := Lib.hid (show ∀ u : Wk W, Calls Try.prog 114 #[.agg #[.slice Y ys.length cy, .int .i64 yd]] u.1 fun e w' => e = .returned (.bool true) ∧ Below u.1.heap.size u.1 w' from fun u => by rw [← q1]; exact (proof_empty _ _ _ _ _ (HYw.out.below u.2)))
  have hE2 := Lib.hid (show ∀ u : Wk W, Calls Try.prog 28 #[.agg #[.slice A p.costs.length c, .slice A2 p.rows.length c2], .agg #[.slice X xs.length cx, .int .i64 xd]] u.1 fun e w' => e = .returned (.bool false) ∧ Below u.1.heap.size u.1 w' from fun u => by rw [← q2]; exact (layout_Goes _ _ _ _ _ _ _ _ _ _ (HPw.out.below u.2) (HXw.out.below u.2)))
  refine (hE1.out ⟨W, Below.refl _ _⟩).mono ?_
  rintro e w1 ⟨rfl, hb1⟩
  obtain ⟨u1, rfl⟩ : ∃ u : Wk W, w1 = u.1 := ⟨⟨w1, hb1⟩, rfl⟩
  clear hb1
  go_wp2_with fail
  refine (hE2.out u1).mono ?_
  rintro e w2 ⟨rfl, hb2⟩
  obtain ⟨u2, rfl⟩ : ∃ u : Wk W, w2 = u.1 := ⟨⟨w2, u1.2.trans (hb2.mono u1.2.size)⟩, rfl⟩
  clear hb2
  go_wp2_with fail
  go_ret
  exact ⟨rfl, (by have hT := u2.2; exact (by (repeat (any_goals (first | exact Below.refl _ _ | exact HW.out | exact hT | refine below_drewN ?_ _ | refine Below.drew ?_ | refine Below.alloc ?_ ?_ _ | refine Below.setCell ?_ ?_ _ | refine Below.trans ?_ (Below.mono HW.out ?_) | refine Below.trans ?_ (Below.mono hT ?_)))); all_goals (first | omega | (simp; done) | (simp; omega) | ((try have z0 := HW.out.size); (try simp at z0); (try have z1 := hT.size); (try simp at z1); (try simp); omega))))⟩
set_option maxHeartbeats 4000000 in
theorem endless_5 (hp : Pg w A c A2 c2 p) (hx : Rd w X cx xs) (hy : Rd w Y cy ys) (hr : Rd w R cr rs) (hm : mayPB p = true) (q1 : emptyB ys yd = true) (q2 : goesB p xs xd = true) (q4 : aboveB rs rd p.costs.length = false) :
    Calls Try.prog 77 #[.agg #[.slice A p.costs.length c, .slice A2 p.rows.length c2],
      .agg #[.int .i64 kd, .slice X xs.length cx, .int .i64 xd, .slice Y ys.length cy, .int .i64 yd, .slice R rs.length cr, .int .i64 rd, .int .i64 0, .int .i64 0]] w
      fun e w' => e = .returned (.bool false) ∧ Below w.heap.size w w' := by
  have HP := Lib.hid hp
  have HX := Lib.hid hx
  have HY := Lib.hid hy
  have HR := Lib.hid hr
  have HM := Lib.hid hm
  obtain ⟨⟨hl, hc, hsm, _⟩, ⟨hl2, hc2, hsm2, _⟩⟩ := hp
  have h4 : p.rows.length ≤ 4 := (mayPB_iff.1 hm).2.2.2.1
  have h4' : p.costs.length ≤ 4 := (mayPB_iff.1 hm).2.1
  have h5' : 1 ≤ p.costs.length := (mayPB_iff.1 hm).1
  clear hm hx hy hr
  go_enter Try.func77, Try.ntmps77
  go_wp2_with fail
  have Vp := Lib.hid (((Blk.new w 25 #[.slice A p.costs.length c, .slice A2 p.rows.length c2] _ rfl).alloc (.cells #[.int .i64 kd, .slice X xs.length cx, .int .i64 xd, .slice Y ys.length cy, .int .i64 yd, .slice R rs.length cr, .int .i64 rd, .int .i64 0, .int .i64 0] 57)))
  have Va := Lib.hid (Blk.new (w.alloc (.cells #[.slice A p.costs.length c, .slice A2 p.rows.length c2] 25)) 57 #[.int .i64 kd, .slice X xs.length cx, .int .i64 xd, .slice Y ys.length cy, .int .i64 yd, .slice R rs.length cr, .int .i64 rd, .int .i64 0, .int .i64 0] (w.heap.size + 1) (by simp))
  have hW := ((by (repeat (any_goals (first | exact Below.refl _ _ | refine below_drewN ?_ _ | refine Below.drew ?_ | refine Below.alloc ?_ ?_ _ | refine Below.setCell ?_ ?_ _))); all_goals (first | omega | (simp; done) | (simp; omega))) : Below w.heap.size w ((w.alloc (.cells #[.slice A p.costs.length c, .slice A2 p.rows.length c2] 25)).alloc (.cells #[.int .i64 kd, .slice X xs.length cx, .int .i64 xd, .slice Y ys.length cy, .int .i64 yd, .slice R rs.length cr, .int .i64 rd, .int .i64 0, .int .i64 0] 57)))
  have HPw := Lib.hid (HP.out.below hW)
  have HXw := Lib.hid (HX.out.below hW)
  have HYw := Lib.hid (HY.out.below hW)
  have HRw := Lib.hid (HR.out.below hW)
  have HW := Lib.hid hW
  clear hW
  generalize ((w.alloc (.cells #[.slice A p.costs.length c, .slice A2 p.rows.length c2] 25)).alloc (.cells #[.int .i64 kd, .slice X xs.length cx, .int .i64 xd, .slice Y ys.length cy, .int .i64 yd, .slice R rs.length cr, .int .i64 rd, .int .i64 0, .int .i64 0] 57)) = W at *
  have lVp := Vp.out.lt
  have lVa := Va.out.lt
  have s0 : ∀ u : Wk W, u.1.cell? ⟨w.heap.size, 0, none⟩ = some (.slice A p.costs.length c) := fun u => (Vp.out.next u.2).cell 0
  have s1 : ∀ u : Wk W, u.1.cell? ⟨w.heap.size, 1, none⟩ = some (.slice A2 p.rows.length c2) := fun u => (Vp.out.next u.2).cell 1
  have s2 : ∀ u : Wk W, u.1.cell? ⟨w.heap.size + 1, 0, none⟩ = some (.int .i64 kd) := fun u => (Va.out.next u.2).cell 0
  have s3 : ∀ u : Wk W, u.1.cell? ⟨w.heap.size + 1, 1, none⟩ = some (.slice X xs.length cx) := fun u => (Va.out.next u.2).cell 1
  have s4 : ∀ u : Wk W, u.1.cell? ⟨w.heap.size + 1, 2, none⟩ = some (.int .i64 xd) := fun u => (Va.out.next u.2).cell 2
  have s5 : ∀ u : Wk W, u.1.cell? ⟨w.heap.size + 1, 3, none⟩ = some (.slice Y ys.length cy) := fun u => (Va.out.next u.2).cell 3
  have s6 : ∀ u : Wk W, u.1.cell? ⟨w.heap.size + 1, 4, none⟩ = some (.int .i64 yd) := fun u => (Va.out.next u.2).cell 4
  have s7 : ∀ u : Wk W, u.1.cell? ⟨w.heap.size + 1, 5, none⟩ = some (.slice R rs.length cr) := fun u => (Va.out.next u.2).cell 5
  have s8 : ∀ u : Wk W, u.1.cell? ⟨w.heap.size + 1, 6, none⟩ = some (.int .i64 rd) := fun u => (Va.out.next u.2).cell 6
  have s9 : ∀ u : Wk W, u.1.cell? ⟨w.heap.size + 1, 7, none⟩ = some (.int .i64 0) := fun u => (Va.out.next u.2).cell 7
  have s10 : ∀ u : Wk W, u.1.cell? ⟨w.heap.size + 1, 8, none⟩ = some (.int .i64 0) := fun u => (Va.out.next u.2).cell 8
  have hE1 := Lib.hid (show ∀ u : Wk W, Calls Try.prog 114 #[.agg #[.slice Y ys.length cy, .int .i64 yd]] u.1 fun e w' => e = .returned (.bool true) ∧ Below u.1.heap.size u.1 w' from fun u => by rw [← q1]; exact (proof_empty _ _ _ _ _ (HYw.out.below u.2)))
  have hE2 := Lib.hid (show ∀ u : Wk W, Calls Try.prog 28 #[.agg #[.slice A p.costs.length c, .slice A2 p.rows.length c2], .agg #[.slice X xs.length cx, .int .i64 xd]] u.1 fun e w' => e = .returned (.bool true) ∧ Below u.1.heap.size u.1 w' from fun u => by rw [← q2]; exact (layout_Goes _ _ _ _ _ _ _ _ _ _ (HPw.out.below u.2) (HXw.out.below u.2)))
  have hE4 := Lib.hid (show ∀ u : Wk W, Calls Try.prog 115 #[.agg #[.slice R rs.length cr, .int .i64 rd], .int .i64 p.costs.length] u.1 fun e w' => e = .returned (.bool false) ∧ Below u.1.heap.size u.1 w' from fun u => by rw [← q4]; exact (proof_above _ _ _ _ _ _ (HRw.out.below u.2) (by omega) (by omega)))
  refine (hE1.out ⟨W, Below.refl _ _⟩).mono ?_
  rintro e w1 ⟨rfl, hb1⟩
  obtain ⟨u1, rfl⟩ : ∃ u : Wk W, w1 = u.1 := ⟨⟨w1, hb1⟩, rfl⟩
  clear hb1
  go_wp2_with fail
  refine (hE2.out u1).mono ?_
  rintro e w2 ⟨rfl, hb2⟩
  obtain ⟨u2, rfl⟩ : ∃ u : Wk W, w2 = u.1 := ⟨⟨w2, u1.2.trans (hb2.mono u1.2.size)⟩, rfl⟩
  clear hb2
  go_wp2_with fail
  refine (hE4.out u2).mono ?_
  rintro e w3 ⟨rfl, hb3⟩
  obtain ⟨u, rfl⟩ : ∃ u : Wk W, w3 = u.1 := ⟨⟨w3, u2.2.trans (hb3.mono u2.2.size)⟩, rfl⟩
  clear hb3
  go_wp2_with fail
  go_ret
  exact ⟨rfl, (by have hT := u.2; exact (by (repeat (any_goals (first | exact Below.refl _ _ | exact HW.out | exact hT | refine below_drewN ?_ _ | refine Below.drew ?_ | refine Below.alloc ?_ ?_ _ | refine Below.setCell ?_ ?_ _ | refine Below.trans ?_ (Below.mono HW.out ?_) | refine Below.trans ?_ (Below.mono hT ?_)))); all_goals (first | omega | (simp; done) | (simp; omega) | ((try have z0 := HW.out.size); (try simp at z0); (try have z1 := hT.size); (try simp at z1); (try simp); omega))))⟩
set_option maxHeartbeats 4000000 in
theorem endless_6 (hp : Pg w A c A2 c2 p) (hx : Rd w X cx xs) (hy : Rd w Y cy ys) (hr : Rd w R cr rs) (hm : mayPB p = true) (q1 : emptyB ys yd = true) (q2 : goesB p xs xd = true) (q4 : aboveB rs rd p.costs.length = true) (q5 : ¬ rd = 1) :
    Calls Try.prog 77 #[.agg #[.slice A p.costs.length c, .slice A2 p.rows.length c2],
      .agg #[.int .i64 kd, .slice X xs.length cx, .int .i64 xd, .slice Y ys.length cy, .int .i64 yd, .slice R rs.length cr, .int .i64 rd, .int .i64 0, .int .i64 0]] w
      fun e w' => e = .returned (.bool false) ∧ Below w.heap.size w w' := by
  have HP := Lib.hid hp
  have HX := Lib.hid hx
  have HY := Lib.hid hy
  have HR := Lib.hid hr
  have HM := Lib.hid hm
  obtain ⟨⟨hl, hc, hsm, _⟩, ⟨hl2, hc2, hsm2, _⟩⟩ := hp
  have h4 : p.rows.length ≤ 4 := (mayPB_iff.1 hm).2.2.2.1
  have h4' : p.costs.length ≤ 4 := (mayPB_iff.1 hm).2.1
  have h5' : 1 ≤ p.costs.length := (mayPB_iff.1 hm).1
  clear hm hx hy hr
  go_enter Try.func77, Try.ntmps77
  go_wp2_with fail
  have Vp := Lib.hid (((Blk.new w 25 #[.slice A p.costs.length c, .slice A2 p.rows.length c2] _ rfl).alloc (.cells #[.int .i64 kd, .slice X xs.length cx, .int .i64 xd, .slice Y ys.length cy, .int .i64 yd, .slice R rs.length cr, .int .i64 rd, .int .i64 0, .int .i64 0] 57)))
  have Va := Lib.hid (Blk.new (w.alloc (.cells #[.slice A p.costs.length c, .slice A2 p.rows.length c2] 25)) 57 #[.int .i64 kd, .slice X xs.length cx, .int .i64 xd, .slice Y ys.length cy, .int .i64 yd, .slice R rs.length cr, .int .i64 rd, .int .i64 0, .int .i64 0] (w.heap.size + 1) (by simp))
  have hW := ((by (repeat (any_goals (first | exact Below.refl _ _ | refine below_drewN ?_ _ | refine Below.drew ?_ | refine Below.alloc ?_ ?_ _ | refine Below.setCell ?_ ?_ _))); all_goals (first | omega | (simp; done) | (simp; omega))) : Below w.heap.size w ((w.alloc (.cells #[.slice A p.costs.length c, .slice A2 p.rows.length c2] 25)).alloc (.cells #[.int .i64 kd, .slice X xs.length cx, .int .i64 xd, .slice Y ys.length cy, .int .i64 yd, .slice R rs.length cr, .int .i64 rd, .int .i64 0, .int .i64 0] 57)))
  have HPw := Lib.hid (HP.out.below hW)
  have HXw := Lib.hid (HX.out.below hW)
  have HYw := Lib.hid (HY.out.below hW)
  have HRw := Lib.hid (HR.out.below hW)
  have HW := Lib.hid hW
  clear hW
  generalize ((w.alloc (.cells #[.slice A p.costs.length c, .slice A2 p.rows.length c2] 25)).alloc (.cells #[.int .i64 kd, .slice X xs.length cx, .int .i64 xd, .slice Y ys.length cy, .int .i64 yd, .slice R rs.length cr, .int .i64 rd, .int .i64 0, .int .i64 0] 57)) = W at *
  have lVp := Vp.out.lt
  have lVa := Va.out.lt
  have s0 : ∀ u : Wk W, u.1.cell? ⟨w.heap.size, 0, none⟩ = some (.slice A p.costs.length c) := fun u => (Vp.out.next u.2).cell 0
  have s1 : ∀ u : Wk W, u.1.cell? ⟨w.heap.size, 1, none⟩ = some (.slice A2 p.rows.length c2) := fun u => (Vp.out.next u.2).cell 1
  have s2 : ∀ u : Wk W, u.1.cell? ⟨w.heap.size + 1, 0, none⟩ = some (.int .i64 kd) := fun u => (Va.out.next u.2).cell 0
  have s3 : ∀ u : Wk W, u.1.cell? ⟨w.heap.size + 1, 1, none⟩ = some (.slice X xs.length cx) := fun u => (Va.out.next u.2).cell 1
  have s4 : ∀ u : Wk W, u.1.cell? ⟨w.heap.size + 1, 2, none⟩ = some (.int .i64 xd) := fun u => (Va.out.next u.2).cell 2
  have s5 : ∀ u : Wk W, u.1.cell? ⟨w.heap.size + 1, 3, none⟩ = some (.slice Y ys.length cy) := fun u => (Va.out.next u.2).cell 3
  have s6 : ∀ u : Wk W, u.1.cell? ⟨w.heap.size + 1, 4, none⟩ = some (.int .i64 yd) := fun u => (Va.out.next u.2).cell 4
  have s7 : ∀ u : Wk W, u.1.cell? ⟨w.heap.size + 1, 5, none⟩ = some (.slice R rs.length cr) := fun u => (Va.out.next u.2).cell 5
  have s8 : ∀ u : Wk W, u.1.cell? ⟨w.heap.size + 1, 6, none⟩ = some (.int .i64 rd) := fun u => (Va.out.next u.2).cell 6
  have s9 : ∀ u : Wk W, u.1.cell? ⟨w.heap.size + 1, 7, none⟩ = some (.int .i64 0) := fun u => (Va.out.next u.2).cell 7
  have s10 : ∀ u : Wk W, u.1.cell? ⟨w.heap.size + 1, 8, none⟩ = some (.int .i64 0) := fun u => (Va.out.next u.2).cell 8
  have hE1 := Lib.hid (show ∀ u : Wk W, Calls Try.prog 114 #[.agg #[.slice Y ys.length cy, .int .i64 yd]] u.1 fun e w' => e = .returned (.bool true) ∧ Below u.1.heap.size u.1 w' from fun u => by rw [← q1]; exact (proof_empty _ _ _ _ _ (HYw.out.below u.2)))
  have hE2 := Lib.hid (show ∀ u : Wk W, Calls Try.prog 28 #[.agg #[.slice A p.costs.length c, .slice A2 p.rows.length c2], .agg #[.slice X xs.length cx, .int .i64 xd]] u.1 fun e w' => e = .returned (.bool true) ∧ Below u.1.heap.size u.1 w' from fun u => by rw [← q2]; exact (layout_Goes _ _ _ _ _ _ _ _ _ _ (HPw.out.below u.2) (HXw.out.below u.2)))
  have hE4 := Lib.hid (show ∀ u : Wk W, Calls Try.prog 115 #[.agg #[.slice R rs.length cr, .int .i64 rd], .int .i64 p.costs.length] u.1 fun e w' => e = .returned (.bool true) ∧ Below u.1.heap.size u.1 w' from fun u => by rw [← q4]; exact (proof_above _ _ _ _ _ _ (HRw.out.below u.2) (by omega) (by omega)))
  refine (hE1.out ⟨W, Below.refl _ _⟩).mono ?_
  rintro e w1 ⟨rfl, hb1⟩
  obtain ⟨u1, rfl⟩ : ∃ u : Wk W, w1 = u.1 := ⟨⟨w1, hb1⟩, rfl⟩
  clear hb1
  go_wp2_with fail
  refine (hE2.out u1).mono ?_
  rintro e w2 ⟨rfl, hb2⟩
  obtain ⟨u2, rfl⟩ : ∃ u : Wk W, w2 = u.1 := ⟨⟨w2, u1.2.trans (hb2.mono u1.2.size)⟩, rfl⟩
  clear hb2
  go_wp2_with fail
  refine (hE4.out u2).mono ?_
  rintro e w3 ⟨rfl, hb3⟩
  obtain ⟨u, rfl⟩ : ∃ u : Wk W, w3 = u.1 := ⟨⟨w3, u2.2.trans (hb3.mono u2.2.size)⟩, rfl⟩
  clear hb3
  go_wp2_with fail
  go_ret
  exact ⟨rfl, (by have hT := u.2; exact (by (repeat (any_goals (first | exact Below.refl _ _ | exact HW.out | exact hT | refine below_drewN ?_ _ | refine Below.drew ?_ | refine Below.alloc ?_ ?_ _ | refine Below.setCell ?_ ?_ _ | refine Below.trans ?_ (Below.mono HW.out ?_) | refine Below.trans ?_ (Below.mono hT ?_)))); all_goals (first | omega | (simp; done) | (simp; omega) | ((try have z0 := HW.out.size); (try simp at z0); (try have z1 := hT.size); (try simp at z1); (try simp); omega))))⟩
set_option maxHeartbeats 8000000 in
theorem endless_7 (hp : Pg w A c A2 c2 p) (hx : Rd w X cx xs) (hy : Rd w Y cy ys) (hr : Rd w R cr rs) (hm : mayPB p = true) (q1 : emptyB ys yd = true) (q2 : goesB p xs xd = true) (q4 : aboveB rs 1 p.costs.length = true) :
    Calls Try.prog 77 #[.agg #[.slice A p.costs.length c, .slice A2 p.rows.length c2],
      .agg #[.int .i64 kd, .slice X xs.length cx, .int .i64 xd, .slice Y ys.length cy, .int .i64 yd, .slice R rs.length cr, .int .i64 1, .int .i64 0, .int .i64 0]] w
      fun e w' => e = .returned (.bool (p.rows.all (fun r => decide (dot r.1 rs ≤ 0)) && decide (0 < dot p.costs rs))) ∧ Below w.heap.size w w' := by
  obtain ⟨hab1, hab2, hab3⟩ := aboveB_iff.1 q4
  obtain ⟨hd1, hd2, hsR, hl8⟩ := mayB_parts hab1
  have HS := Lib.hid hsR
  have HLN := Lib.hid hab2
  have HG := Lib.hid (mayPB_iff.1 hm).2.2.2.2.1
  clear hab1 hab2 hab3 hsR
  have HP := Lib.hid hp
  have HX := Lib.hid hx
  have HY := Lib.hid hy
  have HR := Lib.hid hr
  have HM := Lib.hid hm
  obtain ⟨⟨hl, hc, hsm, _⟩, ⟨hl2, hc2, hsm2, _⟩⟩ := hp
  have h4 : p.rows.length ≤ 4 := (mayPB_iff.1 hm).2.2.2.1
  have h4' : p.costs.length ≤ 4 := (mayPB_iff.1 hm).2.1
  have h5' : 1 ≤ p.costs.length := (mayPB_iff.1 hm).1
  clear hm hx hy hr
  go_enter Try.func77, Try.ntmps77
  go_wp2_with fail
  have Vp := Lib.hid (((Blk.new w 25 #[.slice A p.costs.length c, .slice A2 p.rows.length c2] _ rfl).alloc (.cells #[.int .i64 kd, .slice X xs.length cx, .int .i64 xd, .slice Y ys.length cy, .int .i64 yd, .slice R rs.length cr, .int .i64 1, .int .i64 0, .int .i64 0] 57)))
  have Va := Lib.hid (Blk.new (w.alloc (.cells #[.slice A p.costs.length c, .slice A2 p.rows.length c2] 25)) 57 #[.int .i64 kd, .slice X xs.length cx, .int .i64 xd, .slice Y ys.length cy, .int .i64 yd, .slice R rs.length cr, .int .i64 1, .int .i64 0, .int .i64 0] (w.heap.size + 1) (by simp))
  have hW := ((by (repeat (any_goals (first | exact Below.refl _ _ | refine below_drewN ?_ _ | refine Below.drew ?_ | refine Below.alloc ?_ ?_ _ | refine Below.setCell ?_ ?_ _))); all_goals (first | omega | (simp; done) | (simp; omega))) : Below w.heap.size w ((w.alloc (.cells #[.slice A p.costs.length c, .slice A2 p.rows.length c2] 25)).alloc (.cells #[.int .i64 kd, .slice X xs.length cx, .int .i64 xd, .slice Y ys.length cy, .int .i64 yd, .slice R rs.length cr, .int .i64 1, .int .i64 0, .int .i64 0] 57)))
  have HPw := Lib.hid (HP.out.below hW)
  have HXw := Lib.hid (HX.out.below hW)
  have HYw := Lib.hid (HY.out.below hW)
  have HRw := Lib.hid (HR.out.below hW)
  have HW := Lib.hid hW
  clear hW
  generalize ((w.alloc (.cells #[.slice A p.costs.length c, .slice A2 p.rows.length c2] 25)).alloc (.cells #[.int .i64 kd, .slice X xs.length cx, .int .i64 xd, .slice Y ys.length cy, .int .i64 yd, .slice R rs.length cr, .int .i64 1, .int .i64 0, .int .i64 0] 57)) = W at *
  have lVp := Vp.out.lt
  have lVa := Va.out.lt
  have s0 : ∀ u : Wk W, u.1.cell? ⟨w.heap.size, 0, none⟩ = some (.slice A p.costs.length c) := fun u => (Vp.out.next u.2).cell 0
  have s1 : ∀ u : Wk W, u.1.cell? ⟨w.heap.size, 1, none⟩ = some (.slice A2 p.rows.length c2) := fun u => (Vp.out.next u.2).cell 1
  have s2 : ∀ u : Wk W, u.1.cell? ⟨w.heap.size + 1, 0, none⟩ = some (.int .i64 kd) := fun u => (Va.out.next u.2).cell 0
  have s3 : ∀ u : Wk W, u.1.cell? ⟨w.heap.size + 1, 1, none⟩ = some (.slice X xs.length cx) := fun u => (Va.out.next u.2).cell 1
  have s4 : ∀ u : Wk W, u.1.cell? ⟨w.heap.size + 1, 2, none⟩ = some (.int .i64 xd) := fun u => (Va.out.next u.2).cell 2
  have s5 : ∀ u : Wk W, u.1.cell? ⟨w.heap.size + 1, 3, none⟩ = some (.slice Y ys.length cy) := fun u => (Va.out.next u.2).cell 3
  have s6 : ∀ u : Wk W, u.1.cell? ⟨w.heap.size + 1, 4, none⟩ = some (.int .i64 yd) := fun u => (Va.out.next u.2).cell 4
  have s7 : ∀ u : Wk W, u.1.cell? ⟨w.heap.size + 1, 5, none⟩ = some (.slice R rs.length cr) := fun u => (Va.out.next u.2).cell 5
  have s8 : ∀ u : Wk W, u.1.cell? ⟨w.heap.size + 1, 6, none⟩ = some (.int .i64 1) := fun u => (Va.out.next u.2).cell 6
  have s9 : ∀ u : Wk W, u.1.cell? ⟨w.heap.size + 1, 7, none⟩ = some (.int .i64 0) := fun u => (Va.out.next u.2).cell 7
  have s10 : ∀ u : Wk W, u.1.cell? ⟨w.heap.size + 1, 8, none⟩ = some (.int .i64 0) := fun u => (Va.out.next u.2).cell 8
  have hE1 := Lib.hid (show ∀ u : Wk W, Calls Try.prog 114 #[.agg #[.slice Y ys.length cy, .int .i64 yd]] u.1 fun e w' => e = .returned (.bool true) ∧ Below u.1.heap.size u.1 w' from fun u => by rw [← q1]; exact (proof_empty _ _ _ _ _ (HYw.out.below u.2)))
  have hE2 := Lib.hid (show ∀ u : Wk W, Calls Try.prog 28 #[.agg #[.slice A p.costs.length c, .slice A2 p.rows.length c2], .agg #[.slice X xs.length cx, .int .i64 xd]] u.1 fun e w' => e = .returned (.bool true) ∧ Below u.1.heap.size u.1 w' from fun u => by rw [← q2]; exact (layout_Goes _ _ _ _ _ _ _ _ _ _ (HPw.out.below u.2) (HXw.out.below u.2)))
  have hE4 := Lib.hid (show ∀ u : Wk W, Calls Try.prog 115 #[.agg #[.slice R rs.length cr, .int .i64 1], .int .i64 p.costs.length] u.1 fun e w' => e = .returned (.bool true) ∧ Below u.1.heap.size u.1 w' from fun u => by rw [← q4]; exact (proof_above _ _ _ _ _ _ (HRw.out.below u.2) (by omega) (by omega)))
  refine (hE1.out ⟨W, Below.refl _ _⟩).mono ?_
  rintro e w1 ⟨rfl, hb1⟩
  obtain ⟨u1, rfl⟩ : ∃ u : Wk W, w1 = u.1 := ⟨⟨w1, hb1⟩, rfl⟩
  clear hb1
  go_wp2_with fail
  refine (hE2.out u1).mono ?_
  rintro e w2 ⟨rfl, hb2⟩
  obtain ⟨u2, rfl⟩ : ∃ u : Wk W, w2 = u.1 := ⟨⟨w2, u1.2.trans (hb2.mono u1.2.size)⟩, rfl⟩
  clear hb2
  go_wp2_with fail
  refine (hE4.out u2).mono ?_
  rintro e w3 ⟨rfl, hb3⟩
  obtain ⟨u, rfl⟩ : ∃ u : Wk W, w3 = u.1 := ⟨⟨w3, u2.2.trans (hb3.mono u2.2.size)⟩, rfl⟩
  clear hb3
  go_wp2_with fail
  have HPu := Lib.hid (HPw.out.below u.2)
  have HRu := Lib.hid (HRw.out.below u.2)
  have Vpu := Lib.hid (Vp.out.next u.2)
  have Vau := Lib.hid (Va.out.next u.2)
  have hT := u.2
  have zT := hT.size
  have HT := Lib.hid hT
  clear hT
  generalize u.1 = U at *
  have k1 : U.cell? ⟨w.heap.size, 1, none⟩ = some (.slice A2 p.rows.length c2) := Vpu.out.cell 1
  clear s0 s1 s2 s3 s4 s5 s6 s7 s8 s9 s10
  go_loopw [42] (fun i wr => ∃ k : Nat, k ≤ p.rows.length ∧ i = .int .i64 k ∧ ((p.rows.take k).all fun r => decide (dot r.1 rs ≤ 0)) = true ∧ Below U.heap.size U wr) (fun i _ => p.rows.length - (intOf i).toNat)
  case atStart => exact ⟨0, by omega, rfl, rfl, Below.refl _ _⟩
  case round =>
    obtain ⟨k, hk, rfl, hall, hbel⟩ := hrel
    have HA := Lib.hid hall
    have HPr := Lib.hid (HPu.out.below hbel)
    have HRr := Lib.hid (HRu.out.below hbel)
    have Var := Lib.hid (Vau.out.next hbel)
    have Vpr := Lib.hid (Vpu.out.next hbel)
    have zL := hbel.size
    have HL := Lib.hid hbel
    clear hall hbel
    have kx0 : wr.cell? ⟨w.heap.size + 1, 5, none⟩ = some (.slice R rs.length cr) := Var.out.cell 5
    have kx1 : wr.cell? ⟨w.heap.size, 0, none⟩ = some (.slice A p.costs.length c) := Vpr.out.cell 0
    have kxl := Var.out.lt
    have kxp := Vpr.out.lt
    by_cases hlt' : k < p.rows.length
    · obtain ⟨ad, A', c', rfl, hc1, hc2', hr⟩ := HPr.out.rows.at_ hlt'
      have hadl := World.block_lt_of_cell? _ _ hc1
      obtain ⟨hq1, _, hq4⟩ := mayPB_row HM.out hlt'
      have HR' := Lib.hid hr
      have HT' := Lib.hid (all_take (f := fun r : List Int × Int => decide (dot r.1 rs ≤ 0)) hlt')
      have HF := Lib.hid (all_false (f := fun r : List Int × Int => decide (dot r.1 rs ≤ 0)) hlt')
      have HQ4 := Lib.hid hq4
      have HQ1 := Lib.hid (show p.rows[k].1.length = rs.length by rw [hq1, HLN.out])
      have hle4 : p.rows[k].1.length ≤ 4 := by omega
      generalize hr1 : p.rows[k].1 = r1 at *
      have HR1 := Lib.hid hr1
      have HD := Lib.hid (show ∀ W : World, Rd W A' c' r1 → Rd W R cr rs → Calls Try.prog 80 #[.slice A' r1.length c', .slice R rs.length cr] W fun e w' => e = .returned (.int .i64 (dot r1 rs)) ∧ ∃ n, w' = W.drewN n from
        fun W h1 h2 => layout_Dot A' r1 c' R rs cr 12 1073741824 W h1 h2 (by have := HQ1.out; omega) (by omega) (by omega) HQ4.out HS.out (by omega))
      clear hr hr1 hq1 hq4
      by_cases hle : dot r1 rs ≤ 0
      · go_wp2_with fail
        refine (HD.out _ (by exact HR'.out.alloc _) (by exact HRr.out.alloc _)).mono ?_
        rintro e w9 ⟨rfl, n9, rfl⟩
        go_wp2_with fail
        go_roundw
        case rel => exact ⟨k + 1, by omega, by go_num, by rw [HT'.out, HA.out]; simp [HR1.out, hle], (by (repeat (any_goals (first | exact Below.refl _ _ | exact HL.out | refine below_drewN ?_ _ | refine Below.drew ?_ | refine Below.alloc ?_ ?_ _ | refine Below.setCell ?_ ?_ _ | refine Below.trans ?_ (Below.mono HL.out ?_)))); all_goals (first | omega | (simp; done) | (simp; omega) | ((try have z0 := HL.out.size); (try simp at z0); (try simp); omega)))⟩
        case measure => simp [intOf]; omega
      · go_wp2_with fail
        refine (HD.out _ (by exact HR'.out.alloc _) (by exact HRr.out.alloc _)).mono ?_
        rintro e w9 ⟨rfl, n9, rfl⟩
        go_wp2_with fail
        go_ret
        exact ⟨ret_bool (by rw [HF.out (by simp [HR1.out]; omega)]; rfl), (by (repeat (any_goals (first | exact Below.refl _ _ | exact HW.out | exact HT.out | exact HL.out | refine below_drewN ?_ _ | refine Below.drew ?_ | refine Below.alloc ?_ ?_ _ | refine Below.setCell ?_ ?_ _ | refine Below.trans ?_ (Below.mono HW.out ?_) | refine Below.trans ?_ (Below.mono HT.out ?_) | refine Below.trans ?_ (Below.mono HL.out ?_)))); all_goals (first | omega | (simp; done) | (simp; omega) | ((try have z0 := HW.out.size); (try simp at z0); (try have z1 := HT.out.size); (try simp at z1); (try have z2 := HL.out.size); (try simp at z2); (try simp); omega)))⟩
    · obtain rfl : k = p.rows.length := by omega
      have HD := Lib.hid (show ∀ W : World, Rd W A c p.costs → Rd W R cr rs → Calls Try.prog 80 #[.slice A p.costs.length c, .slice R rs.length cr] W fun e w' => e = .returned (.int .i64 (dot p.costs rs)) ∧ ∃ n, w' = W.drewN n from
        fun W h1 h2 => layout_Dot A p.costs c R rs cr 400 1073741824 W h1 h2 (by have := HLN.out; omega) (by omega) (by omega) HG.out HS.out (by omega))
      go_wp2_with fail
      refine (HD.out _ (by exact HPr.out.costs) (by exact HRr.out)).mono ?_
      rintro e w9 ⟨rfl, n9, rfl⟩
      go_wp2_with fail
      go_ret
      exact ⟨ret_bool (by have := HA.out; rw [List.take_length] at this; rw [this]; simp), (by (repeat (any_goals (first | exact Below.refl _ _ | exact HW.out | exact HT.out | exact HL.out | refine below_drewN ?_ _ | refine Below.drew ?_ | refine Below.alloc ?_ ?_ _ | refine Below.setCell ?_ ?_ _ | refine Below.trans ?_ (Below.mono HW.out ?_) | refine Below.trans ?_ (Below.mono HT.out ?_) | refine Below.trans ?_ (Below.mono HL.out ?_)))); all_goals (first | omega | (simp; done) | (simp; omega) | ((try have z0 := HW.out.size); (try simp at z0); (try have z1 := HT.out.size); (try simp at z1); (try have z2 := HL.out.size); (try simp at z2); (try simp); omega)))⟩
end

theorem proof_endless (A : Option Addr) (c : Nat) (A2 : Option Addr) (c2 : Nat) (p : PG) (X : Option Addr) (cx : Nat) (Y : Option Addr) (cy : Nat) (R : Option Addr) (cr : Nat) (a : AN) (w : World)
    (hp : Pg w A c A2 c2 p) (ha : An w X cx Y cy R cr a) (hm : mayPB p = true) :
    Calls Try.prog 77 #[.agg #[.slice A p.costs.length c, .slice A2 p.rows.length c2],
      .agg #[.int .i64 a.kind, .slice X a.xs.length cx, .int .i64 a.xd, .slice Y a.ys.length cy, .int .i64 a.yd, .slice R a.rs.length cr, .int .i64 a.rd, .int .i64 a.wn, .int .i64 a.wd]] w
      fun e w' => e = .returned (.bool (endlessB p a)) ∧ Below w.heap.size w w' := by
  obtain ⟨kd, xs, xd, ys, yd, rs, rd, wn, wd⟩ := a
  obtain ⟨hx, hy, hr⟩ := ha
  simp only at hx hy hr ⊢
  cases q1 : emptyB ys yd with
  | false =>
    rw [show endlessB p ⟨kd, xs, xd, ys, yd, rs, rd, wn, wd⟩ = false by simp [endlessB, q1]]
    exact endless_1 _ _ _ _ _ _ _ _ _ _ _ _ _ _ _ _ _ _ _ _ _ hp hx hy hr hm q1
  | true =>
  by_cases q3 : wn = 0
  rotate_left
  · rw [show endlessB p ⟨kd, xs, xd, ys, yd, rs, rd, wn, wd⟩ = false by simp [endlessB, q3]]
    exact endless_2 _ _ _ _ _ _ _ _ _ _ _ _ _ _ _ _ _ _ _ _ _ hp hx hy hr hm q1 q3
  subst q3
  by_cases q3 : wd = 0
  rotate_left
  · rw [show endlessB p ⟨kd, xs, xd, ys, yd, rs, rd, 0, wd⟩ = false by simp [endlessB, q3]]
    exact endless_3 _ _ _ _ _ _ _ _ _ _ _ _ _ _ _ _ _ _ _ _ hp hx hy hr hm q1 q3
  subst q3
  cases q2 : goesB p xs xd with
  | false =>
    rw [show endlessB p ⟨kd, xs, xd, ys, yd, rs, rd, 0, 0⟩ = false by simp [endlessB, q2]]
    exact endless_4 _ _ _ _ _ _ _ _ _ _ _ _ _ _ _ _ _ _ _ hp hx hy hr hm q1 q2
  | true =>
  cases q4 : aboveB rs rd p.costs.length with
  | false =>
    rw [show endlessB p ⟨kd, xs, xd, ys, yd, rs, rd, 0, 0⟩ = false by simp [endlessB, q4]]
    exact endless_5 _ _ _ _ _ _ _ _ _ _ _ _ _ _ _ _ _ _ _ hp hx hy hr hm q1 q2 q4
  | true =>
  by_cases q5 : rd = 1
  rotate_left
  · rw [show endlessB p ⟨kd, xs, xd, ys, yd, rs, rd, 0, 0⟩ = false by simp [endlessB, q5]]
    exact endless_6 _ _ _ _ _ _ _ _ _ _ _ _ _ _ _ _ _ _ _ hp hx hy hr hm q1 q2 q4 q5
  subst q5
  rw [show endlessB p ⟨kd, xs, xd, ys, yd, rs, 1, 0, 0⟩ = (p.rows.all (fun r => decide (dot r.1 rs ≤ 0)) && decide (0 < dot p.costs rs)) by simp [endlessB, q1, q2, q4]]
  exact endless_7 _ _ _ _ _ _ _ _ _ _ _ _ _ _ _ _ _ _ hp hx hy hr hm q1 q2 q4
end Go.Proofs.Ytjcdkbalhleeeab
