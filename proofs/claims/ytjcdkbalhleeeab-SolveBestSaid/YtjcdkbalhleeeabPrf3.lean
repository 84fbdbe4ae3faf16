/-
  Walks: proof.nothing computes what the plain words say, case by case.
-/
import Derived.Test.YtjcdkbalhleeeabPrf2
namespace Go.Proofs.Ytjcdkbalhleeeab
open Go.RowKit

set_option maxHeartbeats 4000000 in
theorem nothing_1 (A : Option Addr) (c : Nat) (A2 : Option Addr) (c2 : Nat) (p : PG) (X : Option Addr) (cx : Nat) (Y : Option Addr) (cy : Nat) (R : Option Addr) (cr : Nat) (kd : Int) (xs : List Int) (xd : Int) (ys : List Int) (yd : Int) (rs : List Int) (rd wn wd : Int) (w : World)
    (hp : Pg w A c A2 c2 p) (hx : Rd w X cx xs) (hy : Rd w Y cy ys) (hr : Rd w R cr rs) (hm : mayPB p = true) (q1 : emptyB xs xd = false) :
    Calls Try.prog 78 #[.agg #[.slice A p.costs.length c, .slice A2 p.rows.length c2],
      .agg #[.int .i64 kd, .slice X xs.length cx, .int .i64 xd, .slice Y ys.length cy, .int .i64 yd, .slice R rs.length cr, .int .i64 rd, .int .i64 wn, .int .i64 wd]] w
      fun e w' => e = .returned (.bool false) ∧ Below w.heap.size w w' := by
  have HP := Lib.hid hp
  have HX := Lib.hid hx
  have HY := Lib.hid hy
  have HR := Lib.hid hr
  have HM := Lib.hid hm
  obtain ⟨⟨hl, hc, hsm, _⟩, ⟨hl2, hc2, hsm2, _⟩⟩ := hp
  have h4 : p.rows.length ≤ 4 := (mayPB_iff.1 hm).2.2.2.1
  have h4' : 1 ≤ p.rows.length := (mayPB_iff.1 hm).2.2.1
  clear hm hx hy hr
  go_enter Try.func78, Try.ntmps78
  go_wp2_with fail
  have Vp := Lib.hid (((Blk.new w 25 #[.slice A p.costs.length c, .slice A2 p.rows.length c2] _ rfl).alloc (.cells #[.int .i64 kd, .slice X xs.length cx, .int .i64 xd, .slice Y ys.length cy, .int .i64 yd, .slice R rs.length cr, .int .i64 rd, .int .i64 wn, .int .i64 wd] 57)))
  have Va := Lib.hid (Blk.new (w.alloc (.cells #[.slice A p.costs.length c, .slice A2 p.rows.length c2] 25)) 57 #[.int .i64 kd, .slice X xs.length cx, .int .i64 xd, .slice Y ys.length cy, .int .i64 yd, .slice R rs.length cr, .int .i64 rd, .int .i64 wn, .int .i64 wd] (w.heap.size + 1) (by simp))
  have hW := ((by (repeat (any_goals (first | exact Below.refl _ _ | refine below_drewN ?_ _ | refine Below.drew ?_ | refine Below.alloc ?_ ?_ _ | refine Below.setCell ?_ ?_ _))); all_goals (first | omega | (simp; done) | (simp; omega))) : Below w.heap.size w ((w.alloc (.cells #[.slice A p.costs.length c, .slice A2 p.rows.length c2] 25)).alloc (.cells #[.int .i64 kd, .slice X xs.length cx, .int .i64 xd, .slice Y ys.length cy, .int .i64 yd, .slice R rs.length cr, .int .i64 rd, .int .i64 wn, .int .i64 wd] 57)))
  have HPw := Lib.hid (HP.out.below hW)
  have HXw := Lib.hid (HX.out.below hW)
  have HYw := Lib.hid (HY.out.below hW)
  have HRw := Lib.hid (HR.out.below hW)
  have HW := Lib.hid hW
  clear hW
  generalize ((w.alloc (.cells #[.slice A p.costs.length c, .slice A2 p.rows.length c2] 25)).alloc (.cells #[.int .i64 kd, .slice X xs.length cx, .int .i64 xd, .slice Y ys.length cy, .int .i64 yd, .slice R rs.length cr, .int .i64 rd, .int .i64 wn, .int .i64 wd] 57)) = W at *
  have lVp := Vp.out.lt
  have lVa := Va.out.lt
  have s0 : ∀ u : Wk W, u.1.cell? ⟨w.heap.size, 0, none⟩ = some (.slice A p.costs.length c) := fun u => (Vp.out.next u.2).cell 0
  have s1 : ∀ u : Wk W, u.1.cell? ⟨w.heap.size, 1, none⟩ = some (.slice A2 p.rows.length c2) := fun u => (Vp.out.next u.2).cell 1
  have s2 : ∀ u : Wk W, u.1.cell? ⟨w.heap.size + 1, 0, none⟩ = some (.int .i64 kd) := fun u => (Va.out.next u.2).cell 0
  have s3 : ∀ u : Wk W, u.1.cell? ⟨w.heap.size + 1, 1, none⟩ = some (.slice X xs.length cx) := fun u => (Va.out.next u.2).cell 1
  have s4 : ∀ u : Wk W, u.1.cell? ⟨w.heap.size + 1, 2, none⟩ = some (.int .i64 xd) := fun u => (Va.out.next u.2).cell 2
  have s5 : ∀ u : Wk W, u.1.cell? ⟨w.heap.size + 1, 3, none⟩ = some (.slice Y ys.length cy) := fun u => (Va.out.next u.2).cell 3
  have s6 : ∀ u : Wk W, u.1.cell? ⟨w.heap.size + 1, 4, none⟩ = some (.int .i64 yd) := fun u => (Va.out.next u.2).cell 4
  have s7 : ∀ u : Wk W, u.1.cell? ⟨w.heap.size + 1, 5, none⟩ = some (.slice R rs.length cr) := fun u => (Va.out.next u.2).cell 5
  have s8 : ∀ u : Wk W, u.1.cell? ⟨w.heap.size + 1, 6, none⟩ = some (.int .i64 rd) := fun u => (Va.out.next u.2).cell 6
  have s9 : ∀ u : Wk W, u.1.cell? ⟨w.heap.size + 1, 7, none⟩ = some (.int .i64 wn) := fun u => (Va.out.next u.2).cell 7
  have s10 : ∀ u : Wk W, u.1.cell? ⟨w.heap.size + 1, 8, none⟩ = some (.int .i64 wd) := fun u => (Va.out.next u.2).cell 8
  have hE1 := Lib.hid (show ∀ u : Wk W, Calls Try.prog 114 #[.agg #[.slice X xs.length cx, .int .i64 xd]] u.1 fun e w' => e = .returned (.bool false) ∧ Below u.1.heap.size u.1 w' from fun u => by rw [← q1]; exact (proof_empty _ _ _ _ _ (HXw.out.below u.2)))
  refine wk_region (by kernel_rfl) (by kernel_rfl) ?_
  repeat (go_big_quiet_step ((first | (go_at_call 114; with_reducible exact wk_call (hE1.out _)) | (go_at_call 114; with_reducible exact wk_call (hE2.out _)) | (go_at_call 115; with_reducible exact wk_call (hE4.out _)) | (go_at_call 116; with_reducible exact wk_call (hE6.out _)))))
  refine wpQuiet_nil ?_
  rintro w5 ⟨u, rfl⟩
  have hT := u.2
  go_wp2_with fail
  go_ret
  exact ⟨rfl, (by (repeat (any_goals (first | exact Below.refl _ _ | exact HW.out | exact hT | refine below_drewN ?_ _ | refine Below.drew ?_ | refine Below.alloc ?_ ?_ _ | refine Below.setCell ?_ ?_ _ | refine Below.trans ?_ (Below.mono HW.out ?_) | refine Below.trans ?_ (Below.mono hT ?_)))); all_goals (first | omega | (simp; done) | (simp; omega) | ((try have z0 := HW.out.size); (try simp at z0); (try have z1 := hT.size); (try simp at z1); (try simp); omega)))⟩

set_option maxHeartbeats 4000000 in
theorem nothing_2 (A : Option Addr) (c : Nat) (A2 : Option Addr) (c2 : Nat) (p : PG) (X : Option Addr) (cx : Nat) (Y : Option Addr) (cy : Nat) (R : Option Addr) (cr : Nat) (kd : Int) (xs : List Int) (xd : Int) (ys : List Int) (yd : Int) (rs : List Int) (rd wn wd : Int) (w : World)
    (hp : Pg w A c A2 c2 p) (hx : Rd w X cx xs) (hy : Rd w Y cy ys) (hr : Rd w R cr rs) (hm : mayPB p = true) (q1 : emptyB xs xd = true) (q2 : emptyB rs rd = false) :
    Calls Try.prog 78 #[.agg #[.slice A p.costs.length c, .slice A2 p.rows.length c2],
      .agg #[.int .i64 kd, .slice X xs.length cx, .int .i64 xd, .slice Y ys.length cy, .int .i64 yd, .slice R rs.length cr, .int .i64 rd, .int .i64 wn, .int .i64 wd]] w
      fun e w' => e = .returned (.bool false) ∧ Below w.heap.size w w' := by
  have HP := Lib.hid hp
  have HX := Lib.hid hx
  have HY := Lib.hid hy
  have HR := Lib.hid hr
  have HM := Lib.hid hm
  obtain ⟨⟨hl, hc, hsm, _⟩, ⟨hl2, hc2, hsm2, _⟩⟩ := hp
  have h4 : p.rows.length ≤ 4 := (mayPB_iff.1 hm).2.2.2.1
  have h4' : 1 ≤ p.rows.length := (mayPB_iff.1 hm).2.2.1
  clear hm hx hy hr
  go_enter Try.func78, Try.ntmps78
  go_wp2_with fail
  have Vp := Lib.hid (((Blk.new w 25 #[.slice A p.costs.length c, .slice A2 p.rows.length c2] _ rfl).alloc (.cells #[.int .i64 kd, .slice X xs.length cx, .int .i64 xd, .slice Y ys.length cy, .int .i64 yd, .slice R rs.length cr, .int .i64 rd, .int .i64 wn, .int .i64 wd] 57)))
  have Va := Lib.hid (Blk.new (w.alloc (.cells #[.slice A p.costs.length c, .slice A2 p.rows.length c2] 25)) 57 #[.int .i64 kd, .slice X xs.length cx, .int .i64 xd, .slice Y ys.length cy, .int .i64 yd, .slice R rs.length cr, .int .i64 rd, .int .i64 wn, .int .i64 wd] (w.heap.size + 1) (by simp))
  have hW := ((by (repeat (any_goals (first | exact Below.refl _ _ | refine below_drewN ?_ _ | refine Below.drew ?_ | refine Below.alloc ?_ ?_ _ | refine Below.setCell ?_ ?_ _))); all_goals (first | omega | (simp; done) | (simp; omega))) : Below w.heap.size w ((w.alloc (.cells #[.slice A p.costs.length c, .slice A2 p.rows.length c2] 25)).alloc (.cells #[.int .i64 kd, .slice X xs.length cx, .int .i64 xd, .slice Y ys.length cy, .int .i64 yd, .slice R rs.length cr, .int .i64 rd, .int .i64 wn, .int .i64 wd] 57)))
  have HPw := Lib.hid (HP.out.below hW)
  have HXw := Lib.hid (HX.out.below hW)
  have HYw := Lib.hid (HY.out.below hW)
  have HRw := Lib.hid (HR.out.below hW)
  have HW := Lib.hid hW
  clear hW
  generalize ((w.alloc (.cells #[.slice A p.costs.length c, .slice A2 p.rows.length c2] 25)).alloc (.cells #[.int .i64 kd, .slice X xs.length cx, .int .i64 xd, .slice Y ys.length cy, .int .i64 yd, .slice R rs.length cr, .int .i64 rd, .int .i64 wn, .int .i64 wd] 57)) = W at *
  have lVp := Vp.out.lt
  have lVa := Va.out.lt
  have s0 : ∀ u : Wk W, u.1.cell? ⟨w.heap.size, 0, none⟩ = some (.slice A p.costs.length c) := fun u => (Vp.out.next u.2).cell 0
  have s1 : ∀ u : Wk W, u.1.cell? ⟨w.heap.size, 1, none⟩ = some (.slice A2 p.rows.length c2) := fun u => (Vp.out.next u.2).cell 1
  have s2 : ∀ u : Wk W, u.1.cell? ⟨w.heap.size + 1, 0, none⟩ = some (.int .i64 kd) := fun u => (Va.out.next u.2).cell 0
  have s3 : ∀ u : Wk W, u.1.cell? ⟨w.heap.size + 1, 1, none⟩ = some (.slice X xs.length cx) := fun u => (Va.out.next u.2).cell 1
  have s4 : ∀ u : Wk W, u.1.cell? ⟨w.heap.size + 1, 2, none⟩ = some (.int .i64 xd) := fun u => (Va.out.next u.2).cell 2
  have s5 : ∀ u : Wk W, u.1.cell? ⟨w.heap.size + 1, 3, none⟩ = some (.slice Y ys.length cy) := fun u => (Va.out.next u.2).cell 3
  have s6 : ∀ u : Wk W, u.1.cell? ⟨w.heap.size + 1, 4, none⟩ = some (.int .i64 yd) := fun u => (Va.out.next u.2).cell 4
  have s7 : ∀ u : Wk W, u.1.cell? ⟨w.heap.size + 1, 5, none⟩ = some (.slice R rs.length cr) := fun u => (Va.out.next u.2).cell 5
  have s8 : ∀ u : Wk W, u.1.cell? ⟨w.heap.size + 1, 6, none⟩ = some (.int .i64 rd) := fun u => (Va.out.next u.2).cell 6
  have s9 : ∀ u : Wk W, u.1.cell? ⟨w.heap.size + 1, 7, none⟩ = some (.int .i64 wn) := fun u => (Va.out.next u.2).cell 7
  have s10 : ∀ u : Wk W, u.1.cell? ⟨w.heap.size + 1, 8, none⟩ = some (.int .i64 wd) := fun u => (Va.out.next u.2).cell 8
  have hE1 := Lib.hid (show ∀ u : Wk W, Calls Try.prog 114 #[.agg #[.slice X xs.length cx, .int .i64 xd]] u.1 fun e w' => e = .returned (.bool true) ∧ Below u.1.heap.size u.1 w' from fun u => by rw [← q1]; exact (proof_empty _ _ _ _ _ (HXw.out.below u.2)))
  have hE2 := Lib.hid (show ∀ u : Wk W, Calls Try.prog 114 #[.agg #[.slice R rs.length cr, .int .i64 rd]] u.1 fun e w' => e = .returned (.bool false) ∧ Below u.1.heap.size u.1 w' from fun u => by rw [← q2]; exact (proof_empty _ _ _ _ _ (HRw.out.below u.2)))
  refine wk_region (by kernel_rfl) (by kernel_rfl) ?_
  repeat (go_big_quiet_step ((first | (go_at_call 114; with_reducible exact wk_call (hE1.out _)) | (go_at_call 114; with_reducible exact wk_call (hE2.out _)) | (go_at_call 115; with_reducible exact wk_call (hE4.out _)) | (go_at_call 116; with_reducible exact wk_call (hE6.out _)))))
  refine wpQuiet_nil ?_
  rintro w5 ⟨u, rfl⟩
  have hT := u.2
  go_wp2_with fail
  go_ret
  exact ⟨rfl, (by (repeat (any_goals (first | exact Below.refl _ _ | exact HW.out | exact hT | refine below_drewN ?_ _ | refine Below.drew ?_ | refine Below.alloc ?_ ?_ _ | refine Below.setCell ?_ ?_ _ | refine Below.trans ?_ (Below.mono HW.out ?_) | refine Below.trans ?_ (Below.mono hT ?_)))); all_goals (first | omega | (simp; done) | (simp; omega) | ((try have z0 := HW.out.size); (try simp at z0); (try have z1 := hT.size); (try simp at z1); (try simp); omega)))⟩

set_option maxHeartbeats 4000000 in
theorem nothing_3 (A : Option Addr) (c : Nat) (A2 : Option Addr) (c2 : Nat) (p : PG) (X : Option Addr) (cx : Nat) (Y : Option Addr) (cy : Nat) (R : Option Addr) (cr : Nat) (kd : Int) (xs : List Int) (xd : Int) (ys : List Int) (yd : Int) (rs : List Int) (rd wn wd : Int) (w : World)
    (hp : Pg w A c A2 c2 p) (hx : Rd w X cx xs) (hy : Rd w Y cy ys) (hr : Rd w R cr rs) (hm : mayPB p = true) (q1 : emptyB xs xd = true) (q2 : emptyB rs rd = true) (q3 : ¬ wn = 0) :
    Calls Try.prog 78 #[.agg #[.slice A p.costs.length c, .slice A2 p.rows.length c2],
      .agg #[.int .i64 kd, .slice X xs.length cx, .int .i64 xd, .slice Y ys.length cy, .int .i64 yd, .slice R rs.length cr, .int .i64 rd, .int .i64 wn, .int .i64 wd]] w
      fun e w' => e = .returned (.bool false) ∧ Below w.heap.size w w' := by
  have HP := Lib.hid hp
  have HX := Lib.hid hx
  have HY := Lib.hid hy
  have HR := Lib.hid hr
  have HM := Lib.hid hm
  obtain ⟨⟨hl, hc, hsm, _⟩, ⟨hl2, hc2, hsm2, _⟩⟩ := hp
  have h4 : p.rows.length ≤ 4 := (mayPB_iff.1 hm).2.2.2.1
  have h4' : 1 ≤ p.rows.length := (mayPB_iff.1 hm).2.2.1
  clear hm hx hy hr
  go_enter Try.func78, Try.ntmps78
  go_wp2_with fail
  have Vp := Lib.hid (((Blk.new w 25 #[.slice A p.costs.length c, .slice A2 p.rows.length c2] _ rfl).alloc (.cells #[.int .i64 kd, .slice X xs.length cx, .int .i64 xd, .slice Y ys.length cy, .int .i64 yd, .slice R rs.length cr, .int .i64 rd, .int .i64 wn, .int .i64 wd] 57)))
  have Va := Lib.hid (Blk.new (w.alloc (.cells #[.slice A p.costs.length c, .slice A2 p.rows.length c2] 25)) 57 #[.int .i64 kd, .slice X xs.length cx, .int .i64 xd, .slice Y ys.length cy, .int .i64 yd, .slice R rs.length cr, .int .i64 rd, .int .i64 wn, .int .i64 wd] (w.heap.size + 1) (by simp))
  have hW := ((by (repeat (any_goals (first | exact Below.refl _ _ | refine below_drewN ?_ _ | refine Below.drew ?_ | refine Below.alloc ?_ ?_ _ | refine Below.setCell ?_ ?_ _))); all_goals (first | omega | (simp; done) | (simp; omega))) : Below w.heap.size w ((w.alloc (.cells #[.slice A p.costs.length c, .slice A2 p.rows.length c2] 25)).alloc (.cells #[.int .i64 kd, .slice X xs.length cx, .int .i64 xd, .slice Y ys.length cy, .int .i64 yd, .slice R rs.length cr, .int .i64 rd, .int .i64 wn, .int .i64 wd] 57)))
  have HPw := Lib.hid (HP.out.below hW)
  have HXw := Lib.hid (HX.out.below hW)
  have HYw := Lib.hid (HY.out.below hW)
  have HRw := Lib.hid (HR.out.below hW)
  have HW := Lib.hid hW
  clear hW
  generalize ((w.alloc (.cells #[.slice A p.costs.length c, .slice A2 p.rows.length c2] 25)).alloc (.cells #[.int .i64 kd, .slice X xs.length cx, .int .i64 xd, .slice Y ys.length cy, .int .i64 yd, .slice R rs.length cr, .int .i64 rd, .int .i64 wn, .int .i64 wd] 57)) = W at *
  have lVp := Vp.out.lt
  have lVa := Va.out.lt
  have s0 : ∀ u : Wk W, u.1.cell? ⟨w.heap.size, 0, none⟩ = some (.slice A p.costs.length c) := fun u => (Vp.out.next u.2).cell 0
  have s1 : ∀ u : Wk W, u.1.cell? ⟨w.heap.size, 1, none⟩ = some (.slice A2 p.rows.length c2) := fun u => (Vp.out.next u.2).cell 1
  have s2 : ∀ u : Wk W, u.1.cell? ⟨w.heap.size + 1, 0, none⟩ = some (.int .i64 kd) := fun u => (Va.out.next u.2).cell 0
  have s3 : ∀ u : Wk W, u.1.cell? ⟨w.heap.size + 1, 1, none⟩ = some (.slice X xs.length cx) := fun u => (Va.out.next u.2).cell 1
  have s4 : ∀ u : Wk W, u.1.cell? ⟨w.heap.size + 1, 2, none⟩ = some (.int .i64 xd) := fun u => (Va.out.next u.2).cell 2
  have s5 : ∀ u : Wk W, u.1.cell? ⟨w.heap.size + 1, 3, none⟩ = some (.slice Y ys.length cy) := fun u => (Va.out.next u.2).cell 3
  have s6 : ∀ u : Wk W, u.1.cell? ⟨w.heap.size + 1, 4, none⟩ = some (.int .i64 yd) := fun u => (Va.out.next u.2).cell 4
  have s7 : ∀ u : Wk W, u.1.cell? ⟨w.heap.size + 1, 5, none⟩ = some (.slice R rs.length cr) := fun u => (Va.out.next u.2).cell 5
  have s8 : ∀ u : Wk W, u.1.cell? ⟨w.heap.size + 1, 6, none⟩ = some (.int .i64 rd) := fun u => (Va.out.next u.2).cell 6
  have s9 : ∀ u : Wk W, u.1.cell? ⟨w.heap.size + 1, 7, none⟩ = some (.int .i64 wn) := fun u => (Va.out.next u.2).cell 7
  have s10 : ∀ u : Wk W, u.1.cell? ⟨w.heap.size + 1, 8, none⟩ = some (.int .i64 wd) := fun u => (Va.out.next u.2).cell 8
  have hE1 := Lib.hid (show ∀ u : Wk W, Calls Try.prog 114 #[.agg #[.slice X xs.length cx, .int .i64 xd]] u.1 fun e w' => e = .returned (.bool true) ∧ Below u.1.heap.size u.1 w' from fun u => by rw [← q1]; exact (proof_empty _ _ _ _ _ (HXw.out.below u.2)))
  have hE2 := Lib.hid (show ∀ u : Wk W, Calls Try.prog 114 #[.agg #[.slice R rs.length cr, .int .i64 rd]] u.1 fun e w' => e = .returned (.bool true) ∧ Below u.1.heap.size u.1 w' from fun u => by rw [← q2]; exact (proof_empty _ _ _ _ _ (HRw.out.below u.2)))
  refine wk_region (by kernel_rfl) (by kernel_rfl) ?_
  repeat (go_big_quiet_step ((first | (go_at_call 114; with_reducible exact wk_call (hE1.out _)) | (go_at_call 114; with_reducible exact wk_call (hE2.out _)) | (go_at_call 115; with_reducible exact wk_call (hE4.out _)) | (go_at_call 116; with_reducible exact wk_call (hE6.out _)))))
  refine wpQuiet_nil ?_
  rintro w5 ⟨u, rfl⟩
  have hT := u.2
  go_wp2_with fail
  go_ret
  exact ⟨rfl, (by (repeat (any_goals (first | exact Below.refl _ _ | exact HW.out | exact hT | refine below_drewN ?_ _ | refine Below.drew ?_ | refine Below.alloc ?_ ?_ _ | refine Below.setCell ?_ ?_ _ | refine Below.trans ?_ (Below.mono HW.out ?_) | refine Below.trans ?_ (Below.mono hT ?_)))); all_goals (first | omega | (simp; done) | (simp; omega) | ((try have z0 := HW.out.size); (try simp at z0); (try have z1 := hT.size); (try simp at z1); (try simp); omega)))⟩

set_option maxHeartbeats 4000000 in
theorem nothing_4 (A : Option Addr) (c : Nat) (A2 : Option Addr) (c2 : Nat) (p : PG) (X : Option Addr) (cx : Nat) (Y : Option Addr) (cy : Nat) (R : Option Addr) (cr : Nat) (kd : Int) (xs : List Int) (xd : Int) (ys : List Int) (yd : Int) (rs : List Int) (rd wd : Int) (w : World)
    (hp : Pg w A c A2 c2 p) (hx : Rd w X cx xs) (hy : Rd w Y cy ys) (hr : Rd w R cr rs) (hm : mayPB p = true) (q1 : emptyB xs xd = true) (q2 : emptyB rs rd = true) (q3 : ¬ wd = 0) :
    Calls Try.prog 78 #[.agg #[.slice A p.costs.length c, .slice A2 p.rows.length c2],
      .agg #[.int .i64 kd, .slice X xs.length cx, .int .i64 xd, .slice Y ys.length cy, .int .i64 yd, .slice R rs.length cr, .int .i64 rd, .int .i64 0, .int .i64 wd]] w
      fun e w' => e = .returned (.bool false) ∧ Below w.heap.size w w' := by
  have HP := Lib.hid hp
  have HX := Lib.hid hx
  have HY := Lib.hid hy
  have HR := Lib.hid hr
  have HM := Lib.hid hm
  obtain ⟨⟨hl, hc, hsm, _⟩, ⟨hl2, hc2, hsm2, _⟩⟩ := hp
  have h4 : p.rows.length ≤ 4 := (mayPB_iff.1 hm).2.2.2.1
  have h4' : 1 ≤ p.rows.length := (mayPB_iff.1 hm).2.2.1
  clear hm hx hy hr
  go_enter Try.func78, Try.ntmps78
  go_wp2_with fail
  have Vp := Lib.hid (((Blk.new w 25 #[.slice A p.costs.length c, .slice A2 p.rows.length c2] _ rfl).alloc (.cells #[.int .i64 kd, .slice X xs.length cx, .int .i64 xd, .slice Y ys.length cy, .int .i64 yd, .slice R rs.length cr, .int .i64 rd, .int .i64 0, .int .i64 wd] 57)))
  have Va := Lib.hid (Blk.new (w.alloc (.cells #[.slice A p.costs.length c, .slice A2 p.rows.length c2] 25)) 57 #[.int .i64 kd, .slice X xs.length cx, .int .i64 xd, .slice Y ys.length cy, .int .i64 yd, .slice R rs.length cr, .int .i64 rd, .int .i64 0, .int .i64 wd] (w.heap.size + 1) (by simp))
  have hW := ((by (repeat (any_goals (first | exact Below.refl _ _ | refine below_drewN ?_ _ | refine Below.drew ?_ | refine Below.alloc ?_ ?_ _ | refine Below.setCell ?_ ?_ _))); all_goals (first | omega | (simp; done) | (simp; omega))) : Below w.heap.size w ((w.alloc (.cells #[.slice A p.costs.length c, .slice A2 p.rows.length c2] 25)).alloc (.cells #[.int .i64 kd, .slice X xs.length cx, .int .i64 xd, .slice Y ys.length cy, .int .i64 yd, .slice R rs.length cr, .int .i64 rd, .int .i64 0, .int .i64 wd] 57)))
  have HPw := Lib.hid (HP.out.below hW)
  have HXw := Lib.hid (HX.out.below hW)
  have HYw := Lib.hid (HY.out.below hW)
  have HRw := Lib.hid (HR.out.below hW)
  have HW := Lib.hid hW
  clear hW
  generalize ((w.alloc (.cells #[.slice A p.costs.length c, .slice A2 p.rows.length c2] 25)).alloc (.cells #[.int .i64 kd, .slice X xs.length cx, .int .i64 xd, .slice Y ys.length cy, .int .i64 yd, .slice R rs.length cr, .int .i64 rd, .int .i64 0, .int .i64 wd] 57)) = W at *
  have lVp := Vp.out.lt
  have lVa := Va.out.lt
  have s0 : ∀ u : Wk W, u.1.cell? ⟨w.heap.size, 0, none⟩ = some (.slice A p.costs.length c) := fun u => (Vp.out.next u.2).cell 0
  have s1 : ∀ u : Wk W, u.1.cell? ⟨w.heap.size, 1, none⟩ = some (.slice A2 p.rows.length c2) := fun u => (Vp.out.next u.2).cell 1
  have s2 : ∀ u : Wk W, u.1.cell? ⟨w.heap.size + 1, 0, none⟩ = some (.int .i64 kd) := fun u => (Va.out.next u.2).cell 0
  have s3 : ∀ u : Wk W, u.1.cell? ⟨w.heap.size + 1, 1, none⟩ = some (.slice X xs.length cx) := fun u => (Va.out.next u.2).cell 1
  have s4 : ∀ u : Wk W, u.1.cell? ⟨w.heap.size + 1, 2, none⟩ = some (.int .i64 xd) := fun u => (Va.out.next u.2).cell 2
  have s5 : ∀ u : Wk W, u.1.cell? ⟨w.heap.size + 1, 3, none⟩ = some (.slice Y ys.length cy) := fun u => (Va.out.next u.2).cell 3
  have s6 : ∀ u : Wk W, u.1.cell? ⟨w.heap.size + 1, 4, none⟩ = some (.int .i64 yd) := fun u => (Va.out.next u.2).cell 4
  have s7 : ∀ u : Wk W, u.1.cell? ⟨w.heap.size + 1, 5, none⟩ = some (.slice R rs.length cr) := fun u => (Va.out.next u.2).cell 5
  have s8 : ∀ u : Wk W, u.1.cell? ⟨w.heap.size + 1, 6, none⟩ = some (.int .i64 rd) := fun u => (Va.out.next u.2).cell 6
  have s9 : ∀ u : Wk W, u.1.cell? ⟨w.heap.size + 1, 7, none⟩ = some (.int .i64 0) := fun u => (Va.out.next u.2).cell 7
  have s10 : ∀ u : Wk W, u.1.cell? ⟨w.heap.size + 1, 8, none⟩ = some (.int .i64 wd) := fun u => (Va.out.next u.2).cell 8
  have hE1 := Lib.hid (show ∀ u : Wk W, Calls Try.prog 114 #[.agg #[.slice X xs.length cx, .int .i64 xd]] u.1 fun e w' => e = .returned (.bool true) ∧ Below u.1.heap.size u.1 w' from fun u => by rw [← q1]; exact (proof_empty _ _ _ _ _ (HXw.out.below u.2)))
  have hE2 := Lib.hid (show ∀ u : Wk W, Calls Try.prog 114 #[.agg #[.slice R rs.length cr, .int .i64 rd]] u.1 fun e w' => e = .returned (.bool true) ∧ Below u.1.heap.size u.1 w' from fun u => by rw [← q2]; exact (proof_empty _ _ _ _ _ (HRw.out.below u.2)))
  refine wk_region (by kernel_rfl) (by kernel_rfl) ?_
  repeat (go_big_quiet_step ((first | (go_at_call 114; with_reducible exact wk_call (hE1.out _)) | (go_at_call 114; with_reducible exact wk_call (hE2.out _)) | (go_at_call 115; with_reducible exact wk_call (hE4.out _)) | (go_at_call 116; with_reducible exact wk_call (hE6.out _)))))
  refine wpQuiet_nil ?_
  rintro w5 ⟨u, rfl⟩
  have hT := u.2
  go_wp2_with fail
  go_ret
  exact ⟨rfl, (by (repeat (any_goals (first | exact Below.refl _ _ | exact HW.out | exact hT | refine below_drewN ?_ _ | refine Below.drew ?_ | refine Below.alloc ?_ ?_ _ | refine Below.setCell ?_ ?_ _ | refine Below.trans ?_ (Below.mono HW.out ?_) | refine Below.trans ?_ (Below.mono hT ?_)))); all_goals (first | omega | (simp; done) | (simp; omega) | ((try have z0 := HW.out.size); (try simp at z0); (try have z1 := hT.size); (try simp at z1); (try simp); omega)))⟩

set_option maxHeartbeats 4000000 in
theorem nothing_5 (A : Option Addr) (c : Nat) (A2 : Option Addr) (c2 : Nat) (p : PG) (X : Option Addr) (cx : Nat) (Y : Option Addr) (cy : Nat) (R : Option Addr) (cr : Nat) (kd : Int) (xs : List Int) (xd : Int) (ys : List Int) (yd : Int) (rs : List Int) (rd : Int) (w : World)
    (hp : Pg w A c A2 c2 p) (hx : Rd w X cx xs) (hy : Rd w Y cy ys) (hr : Rd w R cr rs) (hm : mayPB p = true) (q1 : emptyB xs xd = true) (q2 : emptyB rs rd = true) (q4 : aboveB ys yd p.rows.length = false) :
    Calls Try.prog 78 #[.agg #[.slice A p.costs.length c, .slice A2 p.rows.length c2],
      .agg #[.int .i64 kd, .slice X xs.length cx, .int .i64 xd, .slice Y ys.length cy, .int .i64 yd, .slice R rs.length cr, .int .i64 rd, .int .i64 0, .int .i64 0]] w
      fun e w' => e = .returned (.bool false) ∧ Below w.heap.size w w' := by
  have HP := Lib.hid hp
  have HX := Lib.hid hx
  have HY := Lib.hid hy
  have HR := Lib.hid hr
  have HM := Lib.hid hm
  obtain ⟨⟨hl, hc, hsm, _⟩, ⟨hl2, hc2, hsm2, _⟩⟩ := hp
  have h4 : p.rows.length ≤ 4 := (mayPB_iff.1 hm).2.2.2.1
  have h4' : 1 ≤ p.rows.length := (mayPB_iff.1 hm).2.2.1
  clear hm hx hy hr
  go_enter Try.func78, Try.ntmps78
  go_wp2_with fail
  have Vp := Lib.hid (((Blk.new w 25 #[.slice A p.costs.length c, .slice A2 p.rows.length c2] _ rfl).alloc (.cells #[.int .i64 kd, .slice X xs.length cx, .int .i64 xd, .slice Y ys.length cy, .int .i64 yd, .slice R rs.length cr, .int .i64 rd, .int .i64 0, .int .i64 0] 57)))
  have Va := Lib.hid (Blk.new (w.alloc (.cells #[.slice A p.costs.length c, .slice A2 p.rows.length c2] 25)) 57 #[.int .i64 kd, .slice X xs.length cx, .int .i64 xd, .slice Y ys.length cy, .int .i64 yd, .slice R rs.length cr, .int .i64 rd, .int .i64 0, .int .i64 0] (w.heap.size + 1) (by simp))
  have hW := ((by (repeat (any_goals (first | exact Below.refl _ _ | refine below_drewN ?_ _ | refine Below.drew ?_ | refine Below.alloc ?_ ?_ _ | refine Below.setCell ?_ ?_ _))); all_goals (first | omega | (simp; done) | (simp; omega))) : Below w.heap.size w ((w.alloc (.cells #[.slice A p.costs.length c, .slice A2 p.rows.length c2] 25)).alloc (.cells #[.int .i64 kd, .slice X xs.length cx, .int .i64 xd, .slice Y ys.length cy, .int .i64 yd, .slice R rs.length cr, .int .i64 rd, .int .i64 0, .int .i64 0] 57)))
  have HPw := Lib.hid (HP.out.below hW)
  have HXw := Lib.hid (HX.out.below hW)
  have HYw := Lib.hid (HY.out.below hW)
  have HRw := Lib.hid (HR.out.below hW)
  have HW := Lib.hid hW
  clear hW
  generalize ((w.alloc (.cells #[.slice A p.costs.length c, .slice A2 p.rows.length c2] 25)).alloc (.cells #[.int .i64 kd, .slice X xs.length cx, .int .i64 xd, .slice Y ys.length cy, .int .i64 yd, .slice R rs.length cr, .int .i64 rd, .int .i64 0, .int .i64 0] 57)) = W at *
  have lVp := Vp.out.lt
  have lVa := Va.out.lt
  have s0 : ∀ u : Wk W, u.1.cell? ⟨w.heap.size, 0, none⟩ = some (.slice A p.costs.length c) := fun u => (Vp.out.next u.2).cell 0
  have s1 : ∀ u : Wk W, u.1.cell? ⟨w.heap.size, 1, none⟩ = some (.slice A2 p.rows.length c2) := fun u => (Vp.out.next u.2).cell 1
  have s2 : ∀ u : Wk W, u.1.cell? ⟨w.heap.size + 1, 0, none⟩ = some (.int .i64 kd) := fun u => (Va.out.next u.2).cell 0
  have s3 : ∀ u : Wk W, u.1.cell? ⟨w.heap.size + 1, 1, none⟩ = some (.slice X xs.length cx) := fun u => (Va.out.next u.2).cell 1
  have s4 : ∀ u : Wk W, u.1.cell? ⟨w.heap.size + 1, 2, none⟩ = some (.int .i64 xd) := fun u => (Va.out.next u.2).cell 2
  have s5 : ∀ u : Wk W, u.1.cell? ⟨w.heap.size + 1, 3, none⟩ = some (.slice Y ys.length cy) := fun u => (Va.out.next u.2).cell 3
  have s6 : ∀ u : Wk W, u.1.cell? ⟨w.heap.size + 1, 4, none⟩ = some (.int .i64 yd) := fun u => (Va.out.next u.2).cell 4
  have s7 : ∀ u : Wk W, u.1.cell? ⟨w.heap.size + 1, 5, none⟩ = some (.slice R rs.length cr) := fun u => (Va.out.next u.2).cell 5
  have s8 : ∀ u : Wk W, u.1.cell? ⟨w.heap.size + 1, 6, none⟩ = some (.int .i64 rd) := fun u => (Va.out.next u.2).cell 6
  have s9 : ∀ u : Wk W, u.1.cell? ⟨w.heap.size + 1, 7, none⟩ = some (.int .i64 0) := fun u => (Va.out.next u.2).cell 7
  have s10 : ∀ u : Wk W, u.1.cell? ⟨w.heap.size + 1, 8, none⟩ = some (.int .i64 0) := fun u => (Va.out.next u.2).cell 8
  have hE1 := Lib.hid (show ∀ u : Wk W, Calls Try.prog 114 #[.agg #[.slice X xs.length cx, .int .i64 xd]] u.1 fun e w' => e = .returned (.bool true) ∧ Below u.1.heap.size u.1 w' from fun u => by rw [← q1]; exact (proof_empty _ _ _ _ _ (HXw.out.below u.2)))
  have hE2 := Lib.hid (show ∀ u : Wk W, Calls Try.prog 114 #[.agg #[.slice R rs.length cr, .int .i64 rd]] u.1 fun e w' => e = .returned (.bool true) ∧ Below u.1.heap.size u.1 w' from fun u => by rw [← q2]; exact (proof_empty _ _ _ _ _ (HRw.out.below u.2)))
  have hE4 := Lib.hid (show ∀ u : Wk W, Calls Try.prog 115 #[.agg #[.slice Y ys.length cy, .int .i64 yd], .int .i64 p.rows.length] u.1 fun e w' => e = .returned (.bool false) ∧ Below u.1.heap.size u.1 w' from fun u => by rw [← q4]; exact (proof_above _ _ _ _ _ _ (HYw.out.below u.2) (by omega) (by omega)))
  refine wk_region (by kernel_rfl) (by kernel_rfl) ?_
  repeat (go_big_quiet_step ((first | (go_at_call 114; with_reducible exact wk_call (hE1.out _)) | (go_at_call 114; with_reducible exact wk_call (hE2.out _)) | (go_at_call 115; with_reducible exact wk_call (hE4.out _)) | (go_at_call 116; with_reducible exact wk_call (hE6.out _)))))
  refine wpQuiet_nil ?_
  rintro w5 ⟨u, rfl⟩
  have hT := u.2
  go_wp2_with fail
  go_ret
  exact ⟨rfl, (by (repeat (any_goals (first | exact Below.refl _ _ | exact HW.out | exact hT | refine below_drewN ?_ _ | refine Below.drew ?_ | refine Below.alloc ?_ ?_ _ | refine Below.setCell ?_ ?_ _ | refine Below.trans ?_ (Below.mono HW.out ?_) | refine Below.trans ?_ (Below.mono hT ?_)))); all_goals (first | omega | (simp; done) | (simp; omega) | ((try have z0 := HW.out.size); (try simp at z0); (try have z1 := hT.size); (try simp at z1); (try simp); omega)))⟩

set_option maxHeartbeats 4000000 in
theorem nothing_6 (A : Option Addr) (c : Nat) (A2 : Option Addr) (c2 : Nat) (p : PG) (X : Option Addr) (cx : Nat) (Y : Option Addr) (cy : Nat) (R : Option Addr) (cr : Nat) (kd : Int) (xs : List Int) (xd : Int) (ys : List Int) (yd : Int) (rs : List Int) (rd : Int) (w : World)
    (hp : Pg w A c A2 c2 p) (hx : Rd w X cx xs) (hy : Rd w Y cy ys) (hr : Rd w R cr rs) (hm : mayPB p = true) (q1 : emptyB xs xd = true) (q2 : emptyB rs rd = true) (q4 : aboveB ys yd p.rows.length = true) (q5 : ¬ yd = 1) :
    Calls Try.prog 78 #[.agg #[.slice A p.costs.length c, .slice A2 p.rows.length c2],
      .agg #[.int .i64 kd, .slice X xs.length cx, .int .i64 xd, .slice Y ys.length cy, .int .i64 yd, .slice R rs.length cr, .int .i64 rd, .int .i64 0, .int .i64 0]] w
      fun e w' => e = .returned (.bool false) ∧ Below w.heap.size w w' := by
  have HP := Lib.hid hp
  have HX := Lib.hid hx
  have HY := Lib.hid hy
  have HR := Lib.hid hr
  have HM := Lib.hid hm
  obtain ⟨⟨hl, hc, hsm, _⟩, ⟨hl2, hc2, hsm2, _⟩⟩ := hp
  have h4 : p.rows.length ≤ 4 := (mayPB_iff.1 hm).2.2.2.1
  have h4' : 1 ≤ p.rows.length := (mayPB_iff.1 hm).2.2.1
  clear hm hx hy hr
  obtain ⟨hab1, hab2, hab3⟩ := aboveB_iff.1 q4
  obtain ⟨hd1, hd2, hsY, hl8⟩ := mayB_parts hab1
  have HS := Lib.hid hsY
  have HLN := Lib.hid hab2
  have hz2 : (yd == 1) = false := by simpa using q5
  clear hab1 hab2 hab3 hsY
  go_enter Try.func78, Try.ntmps78
  go_wp2_with fail
  have Vp := Lib.hid (((Blk.new w 25 #[.slice A p.costs.length c, .slice A2 p.rows.length c2] _ rfl).alloc (.cells #[.int .i64 kd, .slice X xs.length cx, .int .i64 xd, .slice Y ys.length cy, .int .i64 yd, .slice R rs.length cr, .int .i64 rd, .int .i64 0, .int .i64 0] 57)))
  have Va := Lib.hid (Blk.new (w.alloc (.cells #[.slice A p.costs.length c, .slice A2 p.rows.length c2] 25)) 57 #[.int .i64 kd, .slice X xs.length cx, .int .i64 xd, .slice Y ys.length cy, .int .i64 yd, .slice R rs.length cr, .int .i64 rd, .int .i64 0, .int .i64 0] (w.heap.size + 1) (by simp))
  have hW := ((by (repeat (any_goals (first | exact Below.refl _ _ | refine below_drewN ?_ _ | refine Below.drew ?_ | refine Below.alloc ?_ ?_ _ | refine Below.setCell ?_ ?_ _))); all_goals (first | omega | (simp; done) | (simp; omega))) : Below w.heap.size w ((w.alloc (.cells #[.slice A p.costs.length c, .slice A2 p.rows.length c2] 25)).alloc (.cells #[.int .i64 kd, .slice X xs.length cx, .int .i64 xd, .slice Y ys.length cy, .int .i64 yd, .slice R rs.length cr, .int .i64 rd, .int .i64 0, .int .i64 0] 57)))
  have HPw := Lib.hid (HP.out.below hW)
  have HXw := Lib.hid (HX.out.below hW)
  have HYw := Lib.hid (HY.out.below hW)
  have HRw := Lib.hid (HR.out.below hW)
  have HW := Lib.hid hW
  clear hW
  generalize ((w.alloc (.cells #[.slice A p.costs.length c, .slice A2 p.rows.length c2] 25)).alloc (.cells #[.int .i64 kd, .slice X xs.length cx, .int .i64 xd, .slice Y ys.length cy, .int .i64 yd, .slice R rs.length cr, .int .i64 rd, .int .i64 0, .int .i64 0] 57)) = W at *
  have lVp := Vp.out.lt
  have lVa := Va.out.lt
  have s0 : ∀ u : Wk W, u.1.cell? ⟨w.heap.size, 0, none⟩ = some (.slice A p.costs.length c) := fun u => (Vp.out.next u.2).cell 0
  have s1 : ∀ u : Wk W, u.1.cell? ⟨w.heap.size, 1, none⟩ = some (.slice A2 p.rows.length c2) := fun u => (Vp.out.next u.2).cell 1
  have s2 : ∀ u : Wk W, u.1.cell? ⟨w.heap.size + 1, 0, none⟩ = some (.int .i64 kd) := fun u => (Va.out.next u.2).cell 0
  have s3 : ∀ u : Wk W, u.1.cell? ⟨w.heap.size + 1, 1, none⟩ = some (.slice X xs.length cx) := fun u => (Va.out.next u.2).cell 1
  have s4 : ∀ u : Wk W, u.1.cell? ⟨w.heap.size + 1, 2, none⟩ = some (.int .i64 xd) := fun u => (Va.out.next u.2).cell 2
  have s5 : ∀ u : Wk W, u.1.cell? ⟨w.heap.size + 1, 3, none⟩ = some (.slice Y ys.length cy) := fun u => (Va.out.next u.2).cell 3
  have s6 : ∀ u : Wk W, u.1.cell? ⟨w.heap.size + 1, 4, none⟩ = some (.int .i64 yd) := fun u => (Va.out.next u.2).cell 4
  have s7 : ∀ u : Wk W, u.1.cell? ⟨w.heap.size + 1, 5, none⟩ = some (.slice R rs.length cr) := fun u => (Va.out.next u.2).cell 5
  have s8 : ∀ u : Wk W, u.1.cell? ⟨w.heap.size + 1, 6, none⟩ = some (.int .i64 rd) := fun u => (Va.out.next u.2).cell 6
  have s9 : ∀ u : Wk W, u.1.cell? ⟨w.heap.size + 1, 7, none⟩ = some (.int .i64 0) := fun u => (Va.out.next u.2).cell 7
  have s10 : ∀ u : Wk W, u.1.cell? ⟨w.heap.size + 1, 8, none⟩ = some (.int .i64 0) := fun u => (Va.out.next u.2).cell 8
  have hE1 := Lib.hid (show ∀ u : Wk W, Calls Try.prog 114 #[.agg #[.slice X xs.length cx, .int .i64 xd]] u.1 fun e w' => e = .returned (.bool true) ∧ Below u.1.heap.size u.1 w' from fun u => by rw [← q1]; exact (proof_empty _ _ _ _ _ (HXw.out.below u.2)))
  have hE2 := Lib.hid (show ∀ u : Wk W, Calls Try.prog 114 #[.agg #[.slice R rs.length cr, .int .i64 rd]] u.1 fun e w' => e = .returned (.bool true) ∧ Below u.1.heap.size u.1 w' from fun u => by rw [← q2]; exact (proof_empty _ _ _ _ _ (HRw.out.below u.2)))
  have hE4 := Lib.hid (show ∀ u : Wk W, Calls Try.prog 115 #[.agg #[.slice Y ys.length cy, .int .i64 yd], .int .i64 p.rows.length] u.1 fun e w' => e = .returned (.bool true) ∧ Below u.1.heap.size u.1 w' from fun u => by rw [← q4]; exact (proof_above _ _ _ _ _ _ (HYw.out.below u.2) (by omega) (by omega)))
  refine wk_region (by kernel_rfl) (by kernel_rfl) ?_
  repeat (go_big_quiet_step ((first | (go_at_call 114; with_reducible exact wk_call (hE1.out _)) | (go_at_call 114; with_reducible exact wk_call (hE2.out _)) | (go_at_call 115; with_reducible exact wk_call (hE4.out _)) | (go_at_call 116; with_reducible exact wk_call (hE6.out _)))))
  refine wpQuiet_nil ?_
  rintro w5 ⟨u, rfl⟩
  have hT := u.2
  go_wp2_with fail
  go_ret
  exact ⟨rfl, (by (repeat (any_goals (first | exact Below.refl _ _ | exact HW.out | exact hT | refine below_drewN ?_ _ | refine Below.drew ?_ | refine Below.alloc ?_ ?_ _ | refine Below.setCell ?_ ?_ _ | refine Below.trans ?_ (Below.mono HW.out ?_) | refine Below.trans ?_ (Below.mono hT ?_)))); all_goals (first | omega | (simp; done) | (simp; omega) | ((try have z0 := HW.out.size); (try simp at z0); (try have z1 := hT.size); (try simp at z1); (try simp); omega)))⟩

set_option maxHeartbeats 4000000 in
theorem nothing_7 (A : Option Addr) (c : Nat) (A2 : Option Addr) (c2 : Nat) (p : PG) (X : Option Addr) (cx : Nat) (Y : Option Addr) (cy : Nat) (R : Option Addr) (cr : Nat) (kd : Int) (xs : List Int) (xd : Int) (ys : List Int) (rs : List Int) (rd : Int) (w : World)
    (hp : Pg w A c A2 c2 p) (hx : Rd w X cx xs) (hy : Rd w Y cy ys) (hr : Rd w R cr rs) (hm : mayPB p = true) (q1 : emptyB xs xd = true) (q2 : emptyB rs rd = true) (q4 : aboveB ys 1 p.rows.length = true) (q6 : coversB p ys 0 = false) :
    Calls Try.prog 78 #[.agg #[.slice A p.costs.length c, .slice A2 p.rows.length c2],
      .agg #[.int .i64 kd, .slice X xs.length cx, .int .i64 xd, .slice Y ys.length cy, .int .i64 1, .slice R rs.length cr, .int .i64 rd, .int .i64 0, .int .i64 0]] w
      fun e w' => e = .returned (.bool false) ∧ Below w.heap.size w w' := by
  have HP := Lib.hid hp
  have HX := Lib.hid hx
  have HY := Lib.hid hy
  have HR := Lib.hid hr
  have HM := Lib.hid hm
  obtain ⟨⟨hl, hc, hsm, _⟩, ⟨hl2, hc2, hsm2, _⟩⟩ := hp
  have h4 : p.rows.length ≤ 4 := (mayPB_iff.1 hm).2.2.2.1
  have h4' : 1 ≤ p.rows.length := (mayPB_iff.1 hm).2.2.1
  clear hm hx hy hr
  obtain ⟨hab1, hab2, hab3⟩ := aboveB_iff.1 q4
  obtain ⟨hd1, hd2, hsY, hl8⟩ := mayB_parts hab1
  have HS := Lib.hid hsY
  have HLN := Lib.hid hab2
  clear hab1 hab2 hab3 hsY
  go_enter Try.func78, Try.ntmps78
  go_wp2_with fail
  have Vp := Lib.hid (((Blk.new w 25 #[.slice A p.costs.length c, .slice A2 p.rows.length c2] _ rfl).alloc (.cells #[.int .i64 kd, .slice X xs.length cx, .int .i64 xd, .slice Y ys.length cy, .int .i64 1, .slice R rs.length cr, .int .i64 rd, .int .i64 0, .int .i64 0] 57)))
  have Va := Lib.hid (Blk.new (w.alloc (.cells #[.slice A p.costs.length c, .slice A2 p.rows.length c2] 25)) 57 #[.int .i64 kd, .slice X xs.length cx, .int .i64 xd, .slice Y ys.length cy, .int .i64 1, .slice R rs.length cr, .int .i64 rd, .int .i64 0, .int .i64 0] (w.heap.size + 1) (by simp))
  have hW := ((by (repeat (any_goals (first | exact Below.refl _ _ | refine below_drewN ?_ _ | refine Below.drew ?_ | refine Below.alloc ?_ ?_ _ | refine Below.setCell ?_ ?_ _))); all_goals (first | omega | (simp; done) | (simp; omega))) : Below w.heap.size w ((w.alloc (.cells #[.slice A p.costs.length c, .slice A2 p.rows.length c2] 25)).alloc (.cells #[.int .i64 kd, .slice X xs.length cx, .int .i64 xd, .slice Y ys.length cy, .int .i64 1, .slice R rs.length cr, .int .i64 rd, .int .i64 0, .int .i64 0] 57)))
  have HPw := Lib.hid (HP.out.below hW)
  have HXw := Lib.hid (HX.out.below hW)
  have HYw := Lib.hid (HY.out.below hW)
  have HRw := Lib.hid (HR.out.below hW)
  have HW := Lib.hid hW
  clear hW
  generalize ((w.alloc (.cells #[.slice A p.costs.length c, .slice A2 p.rows.length c2] 25)).alloc (.cells #[.int .i64 kd, .slice X xs.length cx, .int .i64 xd, .slice Y ys.length cy, .int .i64 1, .slice R rs.length cr, .int .i64 rd, .int .i64 0, .int .i64 0] 57)) = W at *
  have lVp := Vp.out.lt
  have lVa := Va.out.lt
  have s0 : ∀ u : Wk W, u.1.cell? ⟨w.heap.size, 0, none⟩ = some (.slice A p.costs.length c) := fun u => (Vp.out.next u.2).cell 0
  have s1 : ∀ u : Wk W, u.1.cell? ⟨w.heap.size, 1, none⟩ = some (.slice A2 p.rows.length c2) := fun u => (Vp.out.next u.2).cell 1
  have s2 : ∀ u : Wk W, u.1.cell? ⟨w.heap.size + 1, 0, none⟩ = some (.int .i64 kd) := fun u => (Va.out.next u.2).cell 0
  have s3 : ∀ u : Wk W, u.1.cell? ⟨w.heap.size + 1, 1, none⟩ = some (.slice X xs.length cx) := fun u => (Va.out.next u.2).cell 1
  have s4 : ∀ u : Wk W, u.1.cell? ⟨w.heap.size + 1, 2, none⟩ = some (.int .i64 xd) := fun u => (Va.out.next u.2).cell 2
  have s5 : ∀ u : Wk W, u.1.cell? ⟨w.heap.size + 1, 3, none⟩ = some (.slice Y ys.length cy) := fun u => (Va.out.next u.2).cell 3
  have s6 : ∀ u : Wk W, u.1.cell? ⟨w.heap.size + 1, 4, none⟩ = some (.int .i64 1) := fun u => (Va.out.next u.2).cell 4
  have s7 : ∀ u : Wk W, u.1.cell? ⟨w.heap.size + 1, 5, none⟩ = some (.slice R rs.length cr) := fun u => (Va.out.next u.2).cell 5
  have s8 : ∀ u : Wk W, u.1.cell? ⟨w.heap.size + 1, 6, none⟩ = some (.int .i64 rd) := fun u => (Va.out.next u.2).cell 6
  have s9 : ∀ u : Wk W, u.1.cell? ⟨w.heap.size + 1, 7, none⟩ = some (.int .i64 0) := fun u => (Va.out.next u.2).cell 7
  have s10 : ∀ u : Wk W, u.1.cell? ⟨w.heap.size + 1, 8, none⟩ = some (.int .i64 0) := fun u => (Va.out.next u.2).cell 8
  have hE1 := Lib.hid (show ∀ u : Wk W, Calls Try.prog 114 #[.agg #[.slice X xs.length cx, .int .i64 xd]] u.1 fun e w' => e = .returned (.bool true) ∧ Below u.1.heap.size u.1 w' from fun u => by rw [← q1]; exact (proof_empty _ _ _ _ _ (HXw.out.below u.2)))
  have hE2 := Lib.hid (show ∀ u : Wk W, Calls Try.prog 114 #[.agg #[.slice R rs.length cr, .int .i64 rd]] u.1 fun e w' => e = .returned (.bool true) ∧ Below u.1.heap.size u.1 w' from fun u => by rw [← q2]; exact (proof_empty _ _ _ _ _ (HRw.out.below u.2)))
  have hE4 := Lib.hid (show ∀ u : Wk W, Calls Try.prog 115 #[.agg #[.slice Y ys.length cy, .int .i64 1], .int .i64 p.rows.length] u.1 fun e w' => e = .returned (.bool true) ∧ Below u.1.heap.size u.1 w' from fun u => by rw [← q4]; exact (proof_above _ _ _ _ _ _ (HYw.out.below u.2) (by omega) (by omega)))
  have hE6 := Lib.hid (show ∀ u : Wk W, Calls Try.prog 116 #[.agg #[.slice A p.costs.length c, .slice A2 p.rows.length c2], .agg #[.slice Y ys.length cy, .int .i64 1], .int .i64 0] u.1 fun e w' => e = .returned (.bool false) ∧ Below u.1.heap.size u.1 w' from fun u => by rw [← q6]; exact (proof_covers _ _ _ _ _ _ _ _ _ _ _ (HPw.out.below u.2) (HYw.out.below u.2) HM.out HS.out HLN.out (by omega) (by omega)))
  refine wk_region (by kernel_rfl) (by kernel_rfl) ?_
  repeat (go_big_quiet_step ((first | (go_at_call 114; with_reducible exact wk_call (hE1.out _)) | (go_at_call 114; with_reducible exact wk_call (hE2.out _)) | (go_at_call 115; with_reducible exact wk_call (hE4.out _)) | (go_at_call 116; with_reducible exact wk_call (hE6.out _)))))
  refine wpQuiet_nil ?_
  rintro w5 ⟨u, rfl⟩
  have hT := u.2
  go_wp2_with fail
  go_ret
  exact ⟨rfl, (by (repeat (any_goals (first | exact Below.refl _ _ | exact HW.out | exact hT | refine below_drewN ?_ _ | refine Below.drew ?_ | refine Below.alloc ?_ ?_ _ | refine Below.setCell ?_ ?_ _ | refine Below.trans ?_ (Below.mono HW.out ?_) | refine Below.trans ?_ (Below.mono hT ?_)))); all_goals (first | omega | (simp; done) | (simp; omega) | ((try have z0 := HW.out.size); (try simp at z0); (try have z1 := hT.size); (try simp at z1); (try simp); omega)))⟩

set_option maxHeartbeats 4000000 in
theorem nothing_8 (A : Option Addr) (c : Nat) (A2 : Option Addr) (c2 : Nat) (p : PG) (X : Option Addr) (cx : Nat) (Y : Option Addr) (cy : Nat) (R : Option Addr) (cr : Nat) (kd : Int) (xs : List Int) (xd : Int) (ys : List Int) (rs : List Int) (rd : Int) (w : World)
    (hp : Pg w A c A2 c2 p) (hx : Rd w X cx xs) (hy : Rd w Y cy ys) (hr : Rd w R cr rs) (hm : mayPB p = true) (q1 : emptyB xs xd = true) (q2 : emptyB rs rd = true) (q4 : aboveB ys 1 p.rows.length = true) (q6 : coversB p ys 0 = true) :
    Calls Try.prog 78 #[.agg #[.slice A p.costs.length c, .slice A2 p.rows.length c2],
      .agg #[.int .i64 kd, .slice X xs.length cx, .int .i64 xd, .slice Y ys.length cy, .int .i64 1, .slice R rs.length cr, .int .i64 rd, .int .i64 0, .int .i64 0]] w
      fun e w' => e = .returned (.bool (decide (dot (mosts p) ys < 0))) ∧ Below w.heap.size w w' := by
  have HP := Lib.hid hp
  have HX := Lib.hid hx
  have HY := Lib.hid hy
  have HR := Lib.hid hr
  have HM := Lib.hid hm
  obtain ⟨⟨hl, hc, hsm, _⟩, ⟨hl2, hc2, hsm2, _⟩⟩ := hp
  have h4 : p.rows.length ≤ 4 := (mayPB_iff.1 hm).2.2.2.1
  have h4' : 1 ≤ p.rows.length := (mayPB_iff.1 hm).2.2.1
  clear hm hx hy hr
  obtain ⟨hab1, hab2, hab3⟩ := aboveB_iff.1 q4
  obtain ⟨hd1, hd2, hsY, hl8⟩ := mayB_parts hab1
  have HS := Lib.hid hsY
  have HLN := Lib.hid hab2
  clear hab1 hab2 hab3 hsY
  go_enter Try.func78, Try.ntmps78
  go_wp2_with fail
  have Vp := Lib.hid (((Blk.new w 25 #[.slice A p.costs.length c, .slice A2 p.rows.length c2] _ rfl).alloc (.cells #[.int .i64 kd, .slice X xs.length cx, .int .i64 xd, .slice Y ys.length cy, .int .i64 1, .slice R rs.length cr, .int .i64 rd, .int .i64 0, .int .i64 0] 57)))
  have Va := Lib.hid (Blk.new (w.alloc (.cells #[.slice A p.costs.length c, .slice A2 p.rows.length c2] 25)) 57 #[.int .i64 kd, .slice X xs.length cx, .int .i64 xd, .slice Y ys.length cy, .int .i64 1, .slice R rs.length cr, .int .i64 rd, .int .i64 0, .int .i64 0] (w.heap.size + 1) (by simp))
  have hW := ((by (repeat (any_goals (first | exact Below.refl _ _ | refine below_drewN ?_ _ | refine Below.drew ?_ | refine Below.alloc ?_ ?_ _ | refine Below.setCell ?_ ?_ _))); all_goals (first | omega | (simp; done) | (simp; omega))) : Below w.heap.size w ((w.alloc (.cells #[.slice A p.costs.length c, .slice A2 p.rows.length c2] 25)).alloc (.cells #[.int .i64 kd, .slice X xs.length cx, .int .i64 xd, .slice Y ys.length cy, .int .i64 1, .slice R rs.length cr, .int .i64 rd, .int .i64 0, .int .i64 0] 57)))
  have HPw := Lib.hid (HP.out.below hW)
  have HXw := Lib.hid (HX.out.below hW)
  have HYw := Lib.hid (HY.out.below hW)
  have HRw := Lib.hid (HR.out.below hW)
  have HW := Lib.hid hW
  clear hW
  generalize ((w.alloc (.cells #[.slice A p.costs.length c, .slice A2 p.rows.length c2] 25)).alloc (.cells #[.int .i64 kd, .slice X xs.length cx, .int .i64 xd, .slice Y ys.length cy, .int .i64 1, .slice R rs.length cr, .int .i64 rd, .int .i64 0, .int .i64 0] 57)) = W at *
  have lVp := Vp.out.lt
  have lVa := Va.out.lt
  have SK := Lib.hid (show ∀ w', Below W.heap.size W w' → (w'.cell? ⟨w.heap.size, 0, none⟩ = some (.slice A p.costs.length c) ∧ w'.cell? ⟨w.heap.size, 1, none⟩ = some (.slice A2 p.rows.length c2) ∧ w'.cell? ⟨w.heap.size + 1, 0, none⟩ = some (.int .i64 kd) ∧ w'.cell? ⟨w.heap.size + 1, 1, none⟩ = some (.slice X xs.length cx) ∧ w'.cell? ⟨w.heap.size + 1, 2, none⟩ = some (.int .i64 xd) ∧ w'.cell? ⟨w.heap.size + 1, 3, none⟩ = some (.slice Y ys.length cy) ∧ w'.cell? ⟨w.heap.size + 1, 4, none⟩ = some (.int .i64 1) ∧ w'.cell? ⟨w.heap.size + 1, 5, none⟩ = some (.slice R rs.length cr) ∧ w'.cell? ⟨w.heap.size + 1, 6, none⟩ = some (.int .i64 rd) ∧ w'.cell? ⟨w.heap.size + 1, 7, none⟩ = some (.int .i64 0) ∧ w'.cell? ⟨w.heap.size + 1, 8, none⟩ = some (.int .i64 0)) from fun w' h => ⟨(Vp.out.next h).cell 0, (Vp.out.next h).cell 1, (Va.out.next h).cell 0, (Va.out.next h).cell 1, (Va.out.next h).cell 2, (Va.out.next h).cell 3, (Va.out.next h).cell 4, (Va.out.next h).cell 5, (Va.out.next h).cell 6, (Va.out.next h).cell 7, (Va.out.next h).cell 8⟩)
  have hT := Below.refl W.heap.size W
  go_region_held3 (fun w' => (w'.cell? ⟨w.heap.size, 0, none⟩ = some (.slice A p.costs.length c) ∧ w'.cell? ⟨w.heap.size, 1, none⟩ = some (.slice A2 p.rows.length c2) ∧ w'.cell? ⟨w.heap.size + 1, 0, none⟩ = some (.int .i64 kd) ∧ w'.cell? ⟨w.heap.size + 1, 1, none⟩ = some (.slice X xs.length cx) ∧ w'.cell? ⟨w.heap.size + 1, 2, none⟩ = some (.int .i64 xd) ∧ w'.cell? ⟨w.heap.size + 1, 3, none⟩ = some (.slice Y ys.length cy) ∧ w'.cell? ⟨w.heap.size + 1, 4, none⟩ = some (.int .i64 1) ∧ w'.cell? ⟨w.heap.size + 1, 5, none⟩ = some (.slice R rs.length cr) ∧ w'.cell? ⟨w.heap.size + 1, 6, none⟩ = some (.int .i64 rd) ∧ w'.cell? ⟨w.heap.size + 1, 7, none⟩ = some (.int .i64 0) ∧ w'.cell? ⟨w.heap.size + 1, 8, none⟩ = some (.int .i64 0)))
    (first | (refine SK.out _ ?_; exact (by (repeat (any_goals (first | exact Below.refl _ _ | exact hT | refine below_drewN ?_ _ | refine Below.drew ?_ | refine Below.alloc ?_ ?_ _ | refine Below.setCell ?_ ?_ _ | refine Below.trans ?_ (Below.mono hT ?_)))); all_goals (first | omega | (simp; done) | (simp; omega) | ((try have z0 := hT.size); (try simp at z0); (try simp); omega)))))
    (first
      | (go_at_call 114; refine (proof_empty _ _ _ _ _ ?_).mono ?_; (first | exact HXw.out.below (by (repeat (any_goals (first | exact Below.refl _ _ | exact hT | refine below_drewN ?_ _ | refine Below.drew ?_ | refine Below.alloc ?_ ?_ _ | refine Below.setCell ?_ ?_ _ | refine Below.trans ?_ (Below.mono hT ?_)))); all_goals (first | omega | (simp; done) | (simp; omega) | ((try have z0 := hT.size); (try simp at z0); (try simp); omega))) | exact HRw.out.below (by (repeat (any_goals (first | exact Below.refl _ _ | exact hT | refine below_drewN ?_ _ | refine Below.drew ?_ | refine Below.alloc ?_ ?_ _ | refine Below.setCell ?_ ?_ _ | refine Below.trans ?_ (Below.mono hT ?_)))); all_goals (first | omega | (simp; done) | (simp; omega) | ((try have z0 := hT.size); (try simp at z0); (try simp); omega)))); rintro e w5 ⟨rfl, hb5⟩; (first | rw [q1] | rw [q2]); replace hT : Below W.heap.size W w5 := (by (repeat (any_goals (first | exact Below.refl _ _ | exact hT | exact hb5 | refine below_drewN ?_ _ | refine Below.drew ?_ | refine Below.alloc ?_ ?_ _ | refine Below.setCell ?_ ?_ _ | refine Below.trans ?_ (Below.mono hT ?_) | refine Below.trans ?_ (Below.mono hb5 ?_)))); all_goals (first | omega | (simp; done) | (simp; omega) | ((try have z0 := hT.size); (try simp at z0); (try have z1 := hb5.size); (try simp at z1); (try simp); omega))); clear hb5)
      | (go_at_call 115; refine (proof_above _ _ _ _ _ _ (HYw.out.below (by (repeat (any_goals (first | exact Below.refl _ _ | exact hT | refine below_drewN ?_ _ | refine Below.drew ?_ | refine Below.alloc ?_ ?_ _ | refine Below.setCell ?_ ?_ _ | refine Below.trans ?_ (Below.mono hT ?_)))); all_goals (first | omega | (simp; done) | (simp; omega) | ((try have z0 := hT.size); (try simp at z0); (try simp); omega)))) (by omega) (by omega)).mono ?_; rintro e w6 ⟨rfl, hb6⟩; rw [q4]; replace hT : Below W.heap.size W w6 := (by (repeat (any_goals (first | exact Below.refl _ _ | exact hT | exact hb6 | refine below_drewN ?_ _ | refine Below.drew ?_ | refine Below.alloc ?_ ?_ _ | refine Below.setCell ?_ ?_ _ | refine Below.trans ?_ (Below.mono hT ?_) | refine Below.trans ?_ (Below.mono hb6 ?_)))); all_goals (first | omega | (simp; done) | (simp; omega) | ((try have z0 := hT.size); (try simp at z0); (try have z1 := hb6.size); (try simp at z1); (try simp); omega))); clear hb6)
      | (go_at_call 116; refine (proof_covers _ _ _ _ _ _ _ _ _ _ _ (HPw.out.below (by (repeat (any_goals (first | exact Below.refl _ _ | exact hT | refine below_drewN ?_ _ | refine Below.drew ?_ | refine Below.alloc ?_ ?_ _ | refine Below.setCell ?_ ?_ _ | refine Below.trans ?_ (Below.mono hT ?_)))); all_goals (first | omega | (simp; done) | (simp; omega) | ((try have z0 := hT.size); (try simp at z0); (try simp); omega)))) (HYw.out.below (by (repeat (any_goals (first | exact Below.refl _ _ | exact hT | refine below_drewN ?_ _ | refine Below.drew ?_ | refine Below.alloc ?_ ?_ _ | refine Below.setCell ?_ ?_ _ | refine Below.trans ?_ (Below.mono hT ?_)))); all_goals (first | omega | (simp; done) | (simp; omega) | ((try have z0 := hT.size); (try simp at z0); (try simp); omega)))) HM.out HS.out HLN.out (by omega) (by omega)).mono ?_; rintro e w7 ⟨rfl, hb7⟩; rw [q6]; replace hT : Below W.heap.size W w7 := (by (repeat (any_goals (first | exact Below.refl _ _ | exact hT | exact hb7 | refine below_drewN ?_ _ | refine Below.drew ?_ | refine Below.alloc ?_ ?_ _ | refine Below.setCell ?_ ?_ _ | refine Below.trans ?_ (Below.mono hT ?_) | refine Below.trans ?_ (Below.mono hb7 ?_)))); all_goals (first | omega | (simp; done) | (simp; omega) | ((try have z0 := hT.size); (try simp at z0); (try have z1 := hb7.size); (try simp at z1); (try simp); omega))); clear hb7)
      | (go_at_call 117; refine (proof_Mosts _ _ _ _ _ _ (HPw.out.below (by (repeat (any_goals (first | exact Below.refl _ _ | exact hT | refine below_drewN ?_ _ | refine Below.drew ?_ | refine Below.alloc ?_ ?_ _ | refine Below.setCell ?_ ?_ _ | refine Below.trans ?_ (Below.mono hT ?_)))); all_goals (first | omega | (simp; done) | (simp; omega) | ((try have z0 := hT.size); (try simp at z0); (try simp); omega)))) (by omega)).mono ?_; rintro e w8 ⟨A8, c8, rfl, hr8, hb8⟩; replace hT : Below W.heap.size W w8 := (by (repeat (any_goals (first | exact Below.refl _ _ | exact hT | exact hb8 | refine below_drewN ?_ _ | refine Below.drew ?_ | refine Below.alloc ?_ ?_ _ | refine Below.setCell ?_ ?_ _ | refine Below.trans ?_ (Below.mono hT ?_) | refine Below.trans ?_ (Below.mono hb8 ?_)))); all_goals (first | omega | (simp; done) | (simp; omega) | ((try have z0 := hT.size); (try simp at z0); (try have z1 := hb8.size); (try simp at z1); (try simp); omega))); clear hb8)
      | (go_at_call 80; refine (layout_Dot0 _ _ _ _ _ _ 12 1073741824 _ hr8 (HYw.out.below (by (repeat (any_goals (first | exact Below.refl _ _ | exact hT | refine below_drewN ?_ _ | refine Below.drew ?_ | refine Below.alloc ?_ ?_ _ | refine Below.setCell ?_ ?_ _ | refine Below.trans ?_ (Below.mono hT ?_)))); all_goals (first | omega | (simp; done) | (simp; omega) | ((try have z0 := hT.size); (try simp at z0); (try simp); omega)))) (by rw [length_mosts]; have := HLN.out; omega) (by omega) (by omega) (mosts_small HM.out) HS.out (by rw [length_mosts]; omega)).mono ?_; rintro e w9 ⟨rfl, rfl⟩))
  go_wp2_with fail
  go_ret
  exact ⟨rfl, (by (repeat (any_goals (first | exact Below.refl _ _ | exact HW.out | exact hT | refine below_drewN ?_ _ | refine Below.drew ?_ | refine Below.alloc ?_ ?_ _ | refine Below.setCell ?_ ?_ _ | refine Below.trans ?_ (Below.mono HW.out ?_) | refine Below.trans ?_ (Below.mono hT ?_)))); all_goals (first | omega | (simp; done) | (simp; omega) | ((try have z0 := HW.out.size); (try simp at z0); (try have z1 := hT.size); (try simp at z1); (try simp); omega)))⟩

theorem proof_nothing (A : Option Addr) (c : Nat) (A2 : Option Addr) (c2 : Nat) (p : PG) (X : Option Addr) (cx : Nat) (Y : Option Addr) (cy : Nat) (R : Option Addr) (cr : Nat) (a : AN) (w : World)
    (hp : Pg w A c A2 c2 p) (ha : An w X cx Y cy R cr a) (hm : mayPB p = true) :
    Calls Try.prog 78 #[.agg #[.slice A p.costs.length c, .slice A2 p.rows.length c2],
      .agg #[.int .i64 a.kind, .slice X a.xs.length cx, .int .i64 a.xd, .slice Y a.ys.length cy, .int .i64 a.yd, .slice R a.rs.length cr, .int .i64 a.rd, .int .i64 a.wn, .int .i64 a.wd]] w
      fun e w' => e = .returned (.bool (nothingB p a)) ∧ Below w.heap.size w w' := by
  obtain ⟨kd, xs, xd, ys, yd, rs, rd, wn, wd⟩ := a
  obtain ⟨hx, hy, hr⟩ := ha
  simp only at hx hy hr ⊢
  cases q1 : emptyB xs xd with
  | false =>
    rw [show nothingB p ⟨kd, xs, xd, ys, yd, rs, rd, wn, wd⟩ = false by simp [nothingB, q1]]
    exact nothing_1 _ _ _ _ _ _ _ _ _ _ _ _ _ _ _ _ _ _ _ _ _ hp hx hy hr hm q1
  | true =>
  cases q2 : emptyB rs rd with
  | false =>
    rw [show nothingB p ⟨kd, xs, xd, ys, yd, rs, rd, wn, wd⟩ = false by simp [nothingB, q2]]
    exact nothing_2 _ _ _ _ _ _ _ _ _ _ _ _ _ _ _ _ _ _ _ _ _ hp hx hy hr hm q1 q2
  | true =>
  by_cases q3 : wn = 0
  rotate_left
  · rw [show nothingB p ⟨kd, xs, xd, ys, yd, rs, rd, wn, wd⟩ = false by simp [nothingB, q3]]
    exact nothing_3 _ _ _ _ _ _ _ _ _ _ _ _ _ _ _ _ _ _ _ _ _ hp hx hy hr hm q1 q2 q3
  subst q3
  by_cases q3 : wd = 0
  rotate_left
  · rw [show nothingB p ⟨kd, xs, xd, ys, yd, rs, rd, 0, wd⟩ = false by simp [nothingB, q3]]
    exact nothing_4 _ _ _ _ _ _ _ _ _ _ _ _ _ _ _ _ _ _ _ _ hp hx hy hr hm q1 q2 q3
  subst q3
  cases q4 : aboveB ys yd p.rows.length with
  | false =>
    rw [show nothingB p ⟨kd, xs, xd, ys, yd, rs, rd, 0, 0⟩ = false by simp [nothingB, q4]]
    exact nothing_5 _ _ _ _ _ _ _ _ _ _ _ _ _ _ _ _ _ _ _ hp hx hy hr hm q1 q2 q4
  | true =>
  by_cases q5 : yd = 1
  rotate_left
  · rw [show nothingB p ⟨kd, xs, xd, ys, yd, rs, rd, 0, 0⟩ = false by simp [nothingB, q5]]
    exact nothing_6 _ _ _ _ _ _ _ _ _ _ _ _ _ _ _ _ _ _ _ hp hx hy hr hm q1 q2 q4 q5
  subst q5
  cases q6 : coversB p ys 0 with
  | false =>
    rw [show nothingB p ⟨kd, xs, xd, ys, 1, rs, rd, 0, 0⟩ = false by simp [nothingB, q6]]
    exact nothing_7 _ _ _ _ _ _ _ _ _ _ _ _ _ _ _ _ _ _ hp hx hy hr hm q1 q2 q4 q6
  | true =>
    rw [show nothingB p ⟨kd, xs, xd, ys, 1, rs, rd, 0, 0⟩ = decide (dot (mosts p) ys < 0) by simp [nothingB, q1, q2, q4, q6]]
    exact nothing_8 _ _ _ _ _ _ _ _ _ _ _ _ _ _ _ _ _ _ hp hx hy hr hm q1 q2 q4 q6
end Go.Proofs.Ytjcdkbalhleeeab
