/-
  The walk of the law CornerTells: it returns true. No condition but that its arguments read as a program and columns.
-/
import Derived.Test.YtjcdkbalhleeeaaLook2
import Derived.Test.YtjcdkbalhleeeaaSame3
import Derived.Test.YtjcdkbalhleeeaaCorn2
namespace Go.Proofs.Ytjcdkbalhleeeaa
open Go.RowKit

/-- The corner that there is not. -/
def noC : CO := ⟨[], 0, [], 0, [], 0⟩
theorem ref3_May (A : Option Addr) (c : Nat) (A2 : Option Addr) (c2 : Nat) (p : PG) (w : World) (hp : Pg w A c A2 c2 p) :
    Calls Try.prog 25 #[.agg #[.slice A p.costs.length c, .slice A2 p.rows.length c2]] w fun e w' => e = .returned (.bool (mayPB p)) ∧ Below w.heap.size w w' := ref2_May A c A2 c2 p w hp
set_option maxHeartbeats 1000000 in
theorem cornerTells_no (A : Option Addr) (c : Nat) (A2 : Option Addr) (c2 : Nat) (p : PG) (L : Option Addr) (l : List Int) (cl : Nat) (w : World) (hp : Pg w A c A2 c2 p) (hr : Rd w L cl l) (hm : mayPB p = false) :
    Calls Try.prog 6 #[.agg #[.slice A p.costs.length c, .slice A2 p.rows.length c2], .slice L l.length cl] w fun e w' => e = .returned (.bool true) ∧ Below w.heap.size w w' := by
  have hE : lookE p l = 2 := by unfold lookE; rw [if_pos hm]
  have hC : lookC p l = noC := lookC_none (by rw [hE]; decide)
  have HP := Lib.hid hp
  have HL := Lib.hid hr
  have HV := Lib.hid (Blk.mk' w 40 #[.slice A p.costs.length c, .slice A2 p.rows.length c2])
  have hbU := ((by (repeat (any_goals (first | exact Below.refl _ _ | refine below_drewN ?_ _ | refine Below.drew ?_ | refine Below.alloc ?_ ?_ _ | refine Below.setCell ?_ ?_ _))); all_goals (first | omega | (simp; done) | (simp; omega))) : Below w.heap.size w (w.alloc (.cells #[.slice A p.costs.length c, .slice A2 p.rows.length c2] 40)))
  have HBU := Lib.hid hbU
  obtain ⟨⟨hl, hc, hsm, _⟩, ⟨hl2, hc2, hsm2, _⟩⟩ := hp
  obtain ⟨hll, hlc, hls, _⟩ := hr
  clear hbU
  go_enter Try.func6, Try.ntmps6
  go_wp2_with fail
  generalize (w.alloc (.cells #[.slice A p.costs.length c, .slice A2 p.rows.length c2] 40)) = U at *
  have SP := Lib.hid (show ∀ w', Below U.heap.size U w' → (w'.cell? ⟨w.heap.size, 0, none⟩ = some (.slice A p.costs.length c) ∧ w'.cell? ⟨w.heap.size, 1, none⟩ = some (.slice A2 p.rows.length c2)) from fun w' h => ⟨(HV.out.next h).cell 0, (HV.out.next h).cell 1⟩)
  refine (corner_Look _ _ _ _ _ _ _ _ _ (HP.out.below HBU.out) (HL.out.below HBU.out)).mono ?_
  rw [hE, hC]
  rintro e w1 ⟨X, cx, Y, cy, G, cg, rfl, hX, hY, hG, hb1⟩
  have HCn := Lib.hid (Cn.mk hX hY hG)
  have H1 := Lib.hid hb1
  have z1 := hb1.size
  clear hX hY hG hb1
  go_wp2_with fail
  have HB2 := Lib.hid (H1.out.alloc z1 (.cells #[.slice X (noC).xs.length cx, .int .i64 (noC).xd, .slice Y (noC).ys.length cy, .int .i64 (noC).yd, .slice G (noC).gs.length cg, .int .i64 (noC).gd] 47))
  have VC := Lib.hid (Blk.mk' w1 47 #[.slice X (noC).xs.length cx, .int .i64 (noC).xd, .slice Y (noC).ys.length cy, .int .i64 (noC).yd, .slice G (noC).gs.length cg, .int .i64 (noC).gd])
  have HC2 := Lib.hid (HCn.out.below ((Below.refl _ w1).alloc (Nat.le_refl _) (.cells #[.slice X (noC).xs.length cx, .int .i64 (noC).xd, .slice Y (noC).ys.length cy, .int .i64 (noC).yd, .slice G (noC).gs.length cg, .int .i64 (noC).gd] 47)))
  generalize (w1.alloc (.cells #[.slice X (noC).xs.length cx, .int .i64 (noC).xd, .slice Y (noC).ys.length cy, .int .i64 (noC).yd, .slice G (noC).gs.length cg, .int .i64 (noC).gd] 47)) = U2 at *
  refine (ref3_Same _ _ _ _ _ _ (noC) none 0 none 0 none 0 noC _ HC2.out (Cn.nil _)).mono ?_
  rintro e w2 ⟨rfl, hb2⟩
  have H2 := Lib.hid (HB2.out.trans (hb2.mono HB2.out.size))
  have H2' := Lib.hid hb2
  obtain ⟨q0, q1⟩ := SP.out _ H2.out
  clear hb2
  go_wp2_with fail
  clear q0 q1
  refine (ref2_May _ _ _ _ _ _ (HP.out.below (HBU.out.trans (H2.out.mono HBU.out.size)))).mono ?_
  rintro e w3 ⟨rfl, hb3⟩
  have H3 := Lib.hid (H2.out.trans (hb3.mono H2.out.size))
  have H3' := Lib.hid (H2'.out.trans (hb3.mono H2'.out.size))
  clear hb3
  rw [hm, sameC_refl]
  go_wp2_with fail
  go_ret
  exact ⟨rfl, HBU.out.trans (H3.out.mono HBU.out.size)⟩
set_option maxHeartbeats 1000000 in
theorem cornerTells_wrong (A : Option Addr) (c : Nat) (A2 : Option Addr) (c2 : Nat) (p : PG) (L : Option Addr) (l : List Int) (cl : Nat) (w : World) (hp : Pg w A c A2 c2 p) (hr : Rd w L cl l) (hm : mayPB p = true) (hri : rightA p l = false) :
    Calls Try.prog 6 #[.agg #[.slice A p.costs.length c, .slice A2 p.rows.length c2], .slice L l.length cl] w fun e w' => e = .returned (.bool true) ∧ Below w.heap.size w w' := by
  have hE : lookE p l = 3 := by unfold lookE; rw [if_neg (by rw [hm]; decide), if_pos hri]
  have hC : lookC p l = noC := lookC_none (by rw [hE]; decide)
  have HP := Lib.hid hp
  have HL := Lib.hid hr
  have HV := Lib.hid (Blk.mk' w 40 #[.slice A p.costs.length c, .slice A2 p.rows.length c2])
  have hbU := ((by (repeat (any_goals (first | exact Below.refl _ _ | refine below_drewN ?_ _ | refine Below.drew ?_ | refine Below.alloc ?_ ?_ _ | refine Below.setCell ?_ ?_ _))); all_goals (first | omega | (simp; done) | (simp; omega))) : Below w.heap.size w (w.alloc (.cells #[.slice A p.costs.length c, .slice A2 p.rows.length c2] 40)))
  have HBU := Lib.hid hbU
  obtain ⟨⟨hl, hc, hsm, _⟩, ⟨hl2, hc2, hsm2, _⟩⟩ := hp
  obtain ⟨hll, hlc, hls, _⟩ := hr
  clear hbU
  go_enter Try.func6, Try.ntmps6
  go_wp2_with fail
  generalize (w.alloc (.cells #[.slice A p.costs.length c, .slice A2 p.rows.length c2] 40)) = U at *
  have SP := Lib.hid (show ∀ w', Below U.heap.size U w' → (w'.cell? ⟨w.heap.size, 0, none⟩ = some (.slice A p.costs.length c) ∧ w'.cell? ⟨w.heap.size, 1, none⟩ = some (.slice A2 p.rows.length c2)) from fun w' h => ⟨(HV.out.next h).cell 0, (HV.out.next h).cell 1⟩)
  refine (corner_Look _ _ _ _ _ _ _ _ _ (HP.out.below HBU.out) (HL.out.below HBU.out)).mono ?_
  rw [hE, hC]
  rintro e w1 ⟨X, cx, Y, cy, G, cg, rfl, hX, hY, hG, hb1⟩
  have HCn := Lib.hid (Cn.mk hX hY hG)
  have H1 := Lib.hid hb1
  have z1 := hb1.size
  clear hX hY hG hb1
  go_wp2_with fail
  have HB2 := Lib.hid (H1.out.alloc z1 (.cells #[.slice X (noC).xs.length cx, .int .i64 (noC).xd, .slice Y (noC).ys.length cy, .int .i64 (noC).yd, .slice G (noC).gs.length cg, .int .i64 (noC).gd] 47))
  have VC := Lib.hid (Blk.mk' w1 47 #[.slice X (noC).xs.length cx, .int .i64 (noC).xd, .slice Y (noC).ys.length cy, .int .i64 (noC).yd, .slice G (noC).gs.length cg, .int .i64 (noC).gd])
  have HC2 := Lib.hid (HCn.out.below ((Below.refl _ w1).alloc (Nat.le_refl _) (.cells #[.slice X (noC).xs.length cx, .int .i64 (noC).xd, .slice Y (noC).ys.length cy, .int .i64 (noC).yd, .slice G (noC).gs.length cg, .int .i64 (noC).gd] 47)))
  generalize (w1.alloc (.cells #[.slice X (noC).xs.length cx, .int .i64 (noC).xd, .slice Y (noC).ys.length cy, .int .i64 (noC).yd, .slice G (noC).gs.length cg, .int .i64 (noC).gd] 47)) = U2 at *
  refine (ref3_Same _ _ _ _ _ _ (noC) none 0 none 0 none 0 noC _ HC2.out (Cn.nil _)).mono ?_
  rintro e w2 ⟨rfl, hb2⟩
  have H2 := Lib.hid (HB2.out.trans (hb2.mono HB2.out.size))
  have H2' := Lib.hid hb2
  obtain ⟨q0, q1⟩ := SP.out _ H2.out
  clear hb2
  go_wp2_with fail
  clear q0 q1
  refine (ref2_May _ _ _ _ _ _ (HP.out.below (HBU.out.trans (H2.out.mono HBU.out.size)))).mono ?_
  rintro e w3 ⟨rfl, hb3⟩
  have H3 := Lib.hid (H2.out.trans (hb3.mono H2.out.size))
  have H3' := Lib.hid (H2'.out.trans (hb3.mono H2'.out.size))
  clear hb3
  rw [hm]
  obtain ⟨q0, q1⟩ := SP.out _ H3.out
  go_wp2_with fail
  clear q0 q1
  refine (ref3_Right _ _ _ _ _ _ _ _ _ (HP.out.below (HBU.out.trans (H3.out.mono HBU.out.size))) (HL.out.below (HBU.out.trans (H3.out.mono HBU.out.size)))).mono ?_
  rintro e w4 ⟨rfl, hb4⟩
  have H4 := Lib.hid (H3.out.trans (hb4.mono H3.out.size))
  have H4' := Lib.hid (H3'.out.trans (hb4.mono H3'.out.size))
  clear hb4
  rw [hri, sameC_refl]
  go_wp2_with fail
  go_ret
  exact ⟨rfl, HBU.out.trans (H4.out.mono HBU.out.size)⟩
set_option maxHeartbeats 1000000 in
theorem cornerTells_none (A : Option Addr) (c : Nat) (A2 : Option Addr) (c2 : Nat) (p : PG) (L : Option Addr) (l : List Int) (cl : Nat) (w : World) (hp : Pg w A c A2 c2 p) (hr : Rd w L cl l) (hm : mayPB p = true) (hri : rightA p l = true) (hE : lookE p l = 4) :
    Calls Try.prog 6 #[.agg #[.slice A p.costs.length c, .slice A2 p.rows.length c2], .slice L l.length cl] w fun e w' => e = .returned (.bool true) ∧ Below w.heap.size w w' := by
  have hC : lookC p l = noC := lookC_none (by rw [hE]; decide)
  have HM := Lib.hid hm
  have HRI := Lib.hid hri
  have HP := Lib.hid hp
  have HL := Lib.hid hr
  have HV := Lib.hid (Blk.mk' w 40 #[.slice A p.costs.length c, .slice A2 p.rows.length c2])
  have hbU := ((by (repeat (any_goals (first | exact Below.refl _ _ | refine below_drewN ?_ _ | refine Below.drew ?_ | refine Below.alloc ?_ ?_ _ | refine Below.setCell ?_ ?_ _))); all_goals (first | omega | (simp; done) | (simp; omega))) : Below w.heap.size w (w.alloc (.cells #[.slice A p.costs.length c, .slice A2 p.rows.length c2] 40)))
  have HBU := Lib.hid hbU
  obtain ⟨⟨hl, hc, hsm, _⟩, ⟨hl2, hc2, hsm2, _⟩⟩ := hp
  obtain ⟨hll, hlc, hls, _⟩ := hr
  clear hbU
  go_enter Try.func6, Try.ntmps6
  go_wp2_with fail
  generalize (w.alloc (.cells #[.slice A p.costs.length c, .slice A2 p.rows.length c2] 40)) = U at *
  have SP := Lib.hid (show ∀ w', Below U.heap.size U w' → (w'.cell? ⟨w.heap.size, 0, none⟩ = some (.slice A p.costs.length c) ∧ w'.cell? ⟨w.heap.size, 1, none⟩ = some (.slice A2 p.rows.length c2)) from fun w' h => ⟨(HV.out.next h).cell 0, (HV.out.next h).cell 1⟩)
  refine (corner_Look _ _ _ _ _ _ _ _ _ (HP.out.below HBU.out) (HL.out.below HBU.out)).mono ?_
  rw [hE, hC]
  rintro e w1 ⟨X, cx, Y, cy, G, cg, rfl, hX, hY, hG, hb1⟩
  have HCn := Lib.hid (Cn.mk hX hY hG)
  have H1 := Lib.hid hb1
  have z1 := hb1.size
  clear hX hY hG hb1
  go_wp2_with fail
  have HB2 := Lib.hid (H1.out.alloc z1 (.cells #[.slice X (noC).xs.length cx, .int .i64 (noC).xd, .slice Y (noC).ys.length cy, .int .i64 (noC).yd, .slice G (noC).gs.length cg, .int .i64 (noC).gd] 47))
  have VC := Lib.hid (Blk.mk' w1 47 #[.slice X (noC).xs.length cx, .int .i64 (noC).xd, .slice Y (noC).ys.length cy, .int .i64 (noC).yd, .slice G (noC).gs.length cg, .int .i64 (noC).gd])
  have HC2 := Lib.hid (HCn.out.below ((Below.refl _ w1).alloc (Nat.le_refl _) (.cells #[.slice X (noC).xs.length cx, .int .i64 (noC).xd, .slice Y (noC).ys.length cy, .int .i64 (noC).yd, .slice G (noC).gs.length cg, .int .i64 (noC).gd] 47)))
  generalize (w1.alloc (.cells #[.slice X (noC).xs.length cx, .int .i64 (noC).xd, .slice Y (noC).ys.length cy, .int .i64 (noC).yd, .slice G (noC).gs.length cg, .int .i64 (noC).gd] 47)) = U2 at *
  refine (ref3_Same _ _ _ _ _ _ (noC) none 0 none 0 none 0 noC _ HC2.out (Cn.nil _)).mono ?_
  rintro e w2 ⟨rfl, hb2⟩
  have H2 := Lib.hid (HB2.out.trans (hb2.mono HB2.out.size))
  have H2' := Lib.hid hb2
  obtain ⟨q0, q1⟩ := SP.out _ H2.out
  clear hb2
  go_wp2_with fail
  clear q0 q1
  refine (ref2_May _ _ _ _ _ _ (HP.out.below (HBU.out.trans (H2.out.mono HBU.out.size)))).mono ?_
  rintro e w3 ⟨rfl, hb3⟩
  have H3 := Lib.hid (H2.out.trans (hb3.mono H2.out.size))
  have H3' := Lib.hid (H2'.out.trans (hb3.mono H2'.out.size))
  clear hb3
  rw [hm]
  obtain ⟨q0, q1⟩ := SP.out _ H3.out
  go_wp2_with fail
  clear q0 q1
  refine (ref3_Right _ _ _ _ _ _ _ _ _ (HP.out.below (HBU.out.trans (H3.out.mono HBU.out.size))) (HL.out.below (HBU.out.trans (H3.out.mono HBU.out.size)))).mono ?_
  rintro e w4 ⟨rfl, hb4⟩
  have H4 := Lib.hid (H3.out.trans (hb4.mono H3.out.size))
  have H4' := Lib.hid (H3'.out.trans (hb4.mono H3'.out.size))
  clear hb4
  rw [hri, sameC_refl]
  obtain ⟨q0, q1⟩ := SP.out _ H4.out
  go_wp2_with fail
  clear q0 q1
  refine (ref3_Look _ _ _ _ _ _ _ _ _ (HP.out.below (HBU.out.trans (H4.out.mono HBU.out.size))) (HL.out.below (HBU.out.trans (H4.out.mono HBU.out.size))) HM.out HRI.out).mono ?_
  rw [hE, hC]
  rintro e w5 ⟨X', cx', Y', cy', G', cg', rfl, hX, hY, hG, hb5⟩
  have H5 := Lib.hid (H4.out.trans (hb5.mono H4.out.size))
  have z5 := H5.out.size
  clear hX hY hG hb5
  go_wp2_with fail
  go_ret
  exact ⟨rfl, HBU.out.trans ((H5.out.alloc z5 _).mono HBU.out.size)⟩
set_option maxHeartbeats 1000000 in
theorem cornerTells_yes (A : Option Addr) (c : Nat) (A2 : Option Addr) (c2 : Nat) (p : PG) (L : Option Addr) (l : List Int) (cl : Nat) (w : World) (hp : Pg w A c A2 c2 p) (hr : Rd w L cl l) (hm : mayPB p = true) (hri : rightA p l = true) (hE : lookE p l = 0) :
    Calls Try.prog 6 #[.agg #[.slice A p.costs.length c, .slice A2 p.rows.length c2], .slice L l.length cl] w fun e w' => e = .returned (.bool true) ∧ Below w.heap.size w w' := by
  obtain ⟨cc, hC⟩ : ∃ cc, lookC p l = cc := ⟨_, rfl⟩
  have HM := Lib.hid hm
  have HRI := Lib.hid hri
  have HP := Lib.hid hp
  have HL := Lib.hid hr
  have HV := Lib.hid (Blk.mk' w 40 #[.slice A p.costs.length c, .slice A2 p.rows.length c2])
  have hbU := ((by (repeat (any_goals (first | exact Below.refl _ _ | refine below_drewN ?_ _ | refine Below.drew ?_ | refine Below.alloc ?_ ?_ _ | refine Below.setCell ?_ ?_ _))); all_goals (first | omega | (simp; done) | (simp; omega))) : Below w.heap.size w (w.alloc (.cells #[.slice A p.costs.length c, .slice A2 p.rows.length c2] 40)))
  have HBU := Lib.hid hbU
  obtain ⟨⟨hl, hc, hsm, _⟩, ⟨hl2, hc2, hsm2, _⟩⟩ := hp
  obtain ⟨hll, hlc, hls, _⟩ := hr
  clear hbU
  go_enter Try.func6, Try.ntmps6
  go_wp2_with fail
  generalize (w.alloc (.cells #[.slice A p.costs.length c, .slice A2 p.rows.length c2] 40)) = U at *
  have SP := Lib.hid (show ∀ w', Below U.heap.size U w' → (w'.cell? ⟨w.heap.size, 0, none⟩ = some (.slice A p.costs.length c) ∧ w'.cell? ⟨w.heap.size, 1, none⟩ = some (.slice A2 p.rows.length c2)) from fun w' h => ⟨(HV.out.next h).cell 0, (HV.out.next h).cell 1⟩)
  refine (corner_Look _ _ _ _ _ _ _ _ _ (HP.out.below HBU.out) (HL.out.below HBU.out)).mono ?_
  rw [hE, hC]
  rintro e w1 ⟨X, cx, Y, cy, G, cg, rfl, hX, hY, hG, hb1⟩
  have HCn := Lib.hid (Cn.mk hX hY hG)
  have H1 := Lib.hid hb1
  have z1 := hb1.size
  clear hX hY hG hb1
  go_wp2_with fail
  have HB2 := Lib.hid (H1.out.alloc z1 (.cells #[.slice X (cc).xs.length cx, .int .i64 (cc).xd, .slice Y (cc).ys.length cy, .int .i64 (cc).yd, .slice G (cc).gs.length cg, .int .i64 (cc).gd] 47))
  have VC := Lib.hid (Blk.mk' w1 47 #[.slice X (cc).xs.length cx, .int .i64 (cc).xd, .slice Y (cc).ys.length cy, .int .i64 (cc).yd, .slice G (cc).gs.length cg, .int .i64 (cc).gd])
  have HC2 := Lib.hid (HCn.out.below ((Below.refl _ w1).alloc (Nat.le_refl _) (.cells #[.slice X (cc).xs.length cx, .int .i64 (cc).xd, .slice Y (cc).ys.length cy, .int .i64 (cc).yd, .slice G (cc).gs.length cg, .int .i64 (cc).gd] 47)))
  generalize (w1.alloc (.cells #[.slice X (cc).xs.length cx, .int .i64 (cc).xd, .slice Y (cc).ys.length cy, .int .i64 (cc).yd, .slice G (cc).gs.length cg, .int .i64 (cc).gd] 47)) = U2 at *
  refine (ref3_Same _ _ _ _ _ _ (cc) none 0 none 0 none 0 noC _ HC2.out (Cn.nil _)).mono ?_
  rintro e w2 ⟨rfl, hb2⟩
  have H2 := Lib.hid (HB2.out.trans (hb2.mono HB2.out.size))
  have H2' := Lib.hid hb2
  obtain ⟨q0, q1⟩ := SP.out _ H2.out
  clear hb2
  go_wp2_with fail
  clear q0 q1
  refine (ref2_May _ _ _ _ _ _ (HP.out.below (HBU.out.trans (H2.out.mono HBU.out.size)))).mono ?_
  rintro e w3 ⟨rfl, hb3⟩
  have H3 := Lib.hid (H2.out.trans (hb3.mono H2.out.size))
  have H3' := Lib.hid (H2'.out.trans (hb3.mono H2'.out.size))
  clear hb3
  rw [hm]
  obtain ⟨q0, q1⟩ := SP.out _ H3.out
  go_wp2_with fail
  clear q0 q1
  refine (ref3_Right _ _ _ _ _ _ _ _ _ (HP.out.below (HBU.out.trans (H3.out.mono HBU.out.size))) (HL.out.below (HBU.out.trans (H3.out.mono HBU.out.size)))).mono ?_
  rintro e w4 ⟨rfl, hb4⟩
  have H4 := Lib.hid (H3.out.trans (hb4.mono H3.out.size))
  have H4' := Lib.hid (H3'.out.trans (hb4.mono H3'.out.size))
  clear hb4
  rw [hri]
  obtain ⟨q0, q1⟩ := SP.out _ H4.out
  go_wp2_with fail
  clear q0 q1
  refine (ref3_Look _ _ _ _ _ _ _ _ _ (HP.out.below (HBU.out.trans (H4.out.mono HBU.out.size))) (HL.out.below (HBU.out.trans (H4.out.mono HBU.out.size))) HM.out HRI.out).mono ?_
  rw [hE, hC]
  rintro e w5 ⟨X', cx', Y', cy', G', cg', rfl, hX, hY, hG, hb5⟩
  have H5 := Lib.hid (H4.out.trans (hb5.mono H4.out.size))
  have H5' := Lib.hid (H4'.out.trans (hb5.mono H4'.out.size))
  have HC5 := Lib.hid (Cn.mk hX hY hG)
  have z5 := H5.out.size
  have z5' := H5'.out.size
  have lv : w1.heap.size < w5.heap.size := by have := VC.out.lt; omega
  have v0 : w5.cell? ⟨w1.heap.size, 0, none⟩ = some (.slice X cc.xs.length cx) := (VC.out.next H5'.out).cell 0
  have v1 : w5.cell? ⟨w1.heap.size, 1, none⟩ = some (.int .i64 cc.xd) := (VC.out.next H5'.out).cell 1
  have v2 : w5.cell? ⟨w1.heap.size, 2, none⟩ = some (.slice Y cc.ys.length cy) := (VC.out.next H5'.out).cell 2
  have v3 : w5.cell? ⟨w1.heap.size, 3, none⟩ = some (.int .i64 cc.yd) := (VC.out.next H5'.out).cell 3
  have v4 : w5.cell? ⟨w1.heap.size, 4, none⟩ = some (.slice G cc.gs.length cg) := (VC.out.next H5'.out).cell 4
  have v5 : w5.cell? ⟨w1.heap.size, 5, none⟩ = some (.int .i64 cc.gd) := (VC.out.next H5'.out).cell 5
  clear hX hY hG hb5 hE
  go_wp2_with fail
  refine (ref3_Same _ _ _ _ _ _ cc _ _ _ _ _ _ cc _ ((HC2.out.below H5'.out).below ((Below.refl _ _).alloc (Nat.le_refl _) _)) (HC5.out.below ((Below.refl _ _).alloc (Nat.le_refl _) _))).mono ?_
  rintro e w6 ⟨rfl, hb6⟩
  rw [sameC_refl]
  have H6 := Lib.hid ((H5.out.alloc z5 _).trans (hb6.mono (by simp; omega)))
  clear hb6
  go_wp2_with fail
  go_ret
  exact ⟨rfl, HBU.out.trans (H6.out.mono HBU.out.size)⟩
theorem lookE_cases {p : PG} {l : List Int} (hm : mayPB p = true) (hri : rightA p l = true) : lookE p l = 0 ∨ lookE p l = 4 := by
  unfold lookE
  rw [if_neg (by rw [hm]; decide), if_neg (by rw [hri]; decide)]
  split <;> simp
theorem cornerTells_walk (A : Option Addr) (c : Nat) (A2 : Option Addr) (c2 : Nat) (p : PG) (L : Option Addr) (l : List Int) (cl : Nat) (w : World) (hp : Pg w A c A2 c2 p) (hr : Rd w L cl l) :
    Calls Try.prog 6 #[.agg #[.slice A p.costs.length c, .slice A2 p.rows.length c2], .slice L l.length cl] w fun e w' => e = .returned (.bool true) ∧ Below w.heap.size w w' := by
  cases hm : mayPB p with
  | false => exact cornerTells_no A c A2 c2 p L l cl w hp hr hm
  | true =>
    cases hri : rightA p l with
    | false => exact cornerTells_wrong A c A2 c2 p L l cl w hp hr hm hri
    | true =>
      rcases lookE_cases hm hri with h | h
      · exact cornerTells_yes A c A2 c2 p L l cl w hp hr hm hri h
      · exact cornerTells_none A c A2 c2 p L l cl w hp hr hm hri h
end Go.Proofs.Ytjcdkbalhleeeaa
