/-
  Contracts of functions and plain laws that later parts of the proof use. The conditions stand in each theorem.
-/
import Derived.Test.YtjcdkbalhleeeaaGreatDoorG20
import Derived.Test.YtjcdkbalhleeeaaGreatDoorG13
import Derived.Test.YtjcdkbalhleeeaaGreatDoorG05
import Derived.Deep.DeepCutAuto
import Derived.Test.YtjcdkbalhleeeaaGreatDoorG16
import Derived.Test.YtjcdkbalhleeeaaGreatDoorG06
import Derived.BigQuiet
import Derived.Test.YtjcdkbalhleeeaaGreatDoorG10
import Derived.Test.YtjcdkbalhleeeaaGreatDoorG19
import Derived.Test.YtjcdkbalhleeeaaGreatDoorG09
import Derived.Test.YtjcdkbalhleeeaaGreatDoorG12
import Derived.OrdersIn
namespace Go.Proofs.YtjcdkbalhleeeaaGreatDoor
open Go.RowKit

/-- What narrows, of costs. -/
def costsN (p : PG) (l : List Int) (b : List Int) : NW := ofZ (fN 1 (lookC p l).gs (lookC (costsOf p b) l).gd) (fN 1 (lookC (costsOf p b) l).gs (lookC p l).gd) (lookC p l).gs.length
def costsE (p : PG) (l : List Int) (b : List Int) : Int := if lookE p l ≠ 0 then lookE p l else if manyB b p.costs.length 400 = false then 1 else endsE (costsN p l b)
def costsF (p : PG) (l : List Int) (b : List Int) : EN := if lookE p l ≠ 0 then zeroE else if manyB b p.costs.length 400 = false then zeroE else endsF (costsN p l b)
def costsT (p : PG) (l : List Int) (b : List Int) : EN := if lookE p l ≠ 0 then zeroE else if manyB b p.costs.length 400 = false then zeroE else endsT (costsN p l b)
theorem manyB_iff {l : List Int} {n : Nat} {m : Int} : manyB l n m = true ↔ smallB m l = true ∧ l.length = n := by unfold manyB; simp only [Bool.and_eq_true, decide_eq_true_eq]

set_option maxRecDepth 100000 in
set_option maxHeartbeats 2000000 in
theorem span_Costs (A : Option Addr) (c : Nat) (A2 : Option Addr) (c2 : Nat) (p : PG) (L : Option Addr) (l : List Int) (cl : Nat) (B : Option Addr) (b : List Int) (cb : Nat) (w : World) (hp : Pg w A c A2 c2 p) (hr : Rd w L cl l) (hb : Rd w B cb b) :
    Calls Tryz.prog 96 #[.agg #[.slice A p.costs.length c, .slice A2 p.rows.length c2], .slice L l.length cl, .slice B b.length cb] w (RetEn w (costsF p l b) (costsT p l b) (costsE p l b)) := by
  by_cases h0 : lookE p l = 0
  · by_cases hm : manyB b p.costs.length 400 = true
    · rw [show costsE p l b = endsE (costsN p l b) by unfold costsE; rw [if_neg (by simp [h0]), if_neg (by simp [hm])], show costsF p l b = endsF (costsN p l b) by unfold costsF; rw [if_neg (by simp [h0]), if_neg (by simp [hm])],
        show costsT p l b = endsT (costsN p l b) by unfold costsT; rw [if_neg (by simp [h0]), if_neg (by simp [hm])]]
      obtain ⟨hms, hml⟩ := manyB_iff.1 hm
      have hE := h0
      have hE2 := costs_E hml hms h0
      obtain ⟨_, _, _, hco⟩ := look_corn h0
      obtain ⟨_, _, _, hcd⟩ := look_corn hE2
      obtain ⟨cc, hC⟩ : ∃ cc, lookC p l = cc := ⟨_, rfl⟩
      obtain ⟨dd, hC2⟩ : ∃ dd, lookC (costsOf p b) l = dd := ⟨_, rfl⟩
      rw [hC] at hco
      rw [hC2] at hcd
      rw [show costsN p l b = ofZ (fN 1 cc.gs dd.gd) (fN 1 dd.gs cc.gd) cc.gs.length by unfold costsN; rw [hC, hC2]]
      have HMB := Lib.hid hm
      have HE2 := Lib.hid hE2
      have HC2 := Lib.hid hC2
      have hle : cc.gs.length = dd.gs.length := by rw [hco.lg, hcd.lg]; show _ = b.length + p.rows.length; omega
      have HOF := Lib.hid (fun (G : Option Addr) (cg : Nat) (G' : Option Addr) (cg' : Nat) (w : World) (hx : Rd w G cg cc.gs) (hy : Rd w G' cg' dd.gs) =>
        span_of G cc.gs cg cc.gd G' dd.gs cg' dd.gd 1 w hx hy hle (mayB_parts hco.mg).2.2.1 (mayB_parts hcd.mg).2.2.1 ⟨(mayB_parts hco.mg).1, (mayB_parts hco.mg).2.1⟩ ⟨(mayB_parts hcd.mg).1, (mayB_parts hcd.mg).2.1⟩ (.inl rfl))
      clear h0 hm hE2 hC2 hco hcd hms hml hle
      have HP := Lib.hid hp
      have HL := Lib.hid hr
      have HD := Lib.hid hb
      obtain ⟨⟨hl, hc, hsm, _⟩, ⟨hl2, hc2, hsm2, _⟩⟩ := hp
      obtain ⟨hll, hlc, hls, _⟩ := hr
      obtain ⟨hbl, hbc, hbs, _⟩ := hb
      go_enter Tryz.func96, Tryz.ntmps96
      go_wp2_with fail
      have BP := Lib.hid (show Blk (((w.alloc (.cells #[.slice A p.costs.length c, .slice A2 p.rows.length c2] 28)).alloc (.cells #[.bool false, .int .i64 0, .int .i64 0] 77)).alloc (.cells #[.bool false, .int .i64 0, .int .i64 0] 77)) w.heap.size 28 #[.slice A p.costs.length c, .slice A2 p.rows.length c2] from ((Blk.mk' _ _ _).alloc _).alloc _)
      have BR := Lib.hid (show Blk (((w.alloc (.cells #[.slice A p.costs.length c, .slice A2 p.rows.length c2] 28)).alloc (.cells #[.bool false, .int .i64 0, .int .i64 0] 77)).alloc (.cells #[.bool false, .int .i64 0, .int .i64 0] 77)) (w.heap.size + 1) 77 #[.bool false, .int .i64 0, .int .i64 0] from (Blk.new _ _ _ _ (by simp)).alloc _)
      have BQ := Lib.hid (show Blk (((w.alloc (.cells #[.slice A p.costs.length c, .slice A2 p.rows.length c2] 28)).alloc (.cells #[.bool false, .int .i64 0, .int .i64 0] 77)).alloc (.cells #[.bool false, .int .i64 0, .int .i64 0] 77)) (w.heap.size + 1 + 1) 77 #[.bool false, .int .i64 0, .int .i64 0] from Blk.new _ _ _ _ (by simp))
      have HVW := Lib.hid ((by (repeat (any_goals (first | exact Below.refl _ _ | refine below_drewN ?_ _ | refine Below.drew ?_ | refine Below.alloc ?_ ?_ _ | refine Below.setCell ?_ ?_ _))); all_goals (first | omega | (simp; done) | (simp; omega))) : Below w.heap.size w (((w.alloc (.cells #[.slice A p.costs.length c, .slice A2 p.rows.length c2] 28)).alloc (.cells #[.bool false, .int .i64 0, .int .i64 0] 77)).alloc (.cells #[.bool false, .int .i64 0, .int .i64 0] 77)))
      generalize (((w.alloc (.cells #[.slice A p.costs.length c, .slice A2 p.rows.length c2] 28)).alloc (.cells #[.bool false, .int .i64 0, .int .i64 0] 77)).alloc (.cells #[.bool false, .int .i64 0, .int .i64 0] 77)) = V at *
      have zV := HVW.out.size
      have zQ := BQ.out.lt
      refine (corner_Look _ _ _ _ _ _ _ _ _ (HP.out.below HVW.out) (HL.out.below HVW.out)).mono ?_
      rw [hE, hC]
      rintro e w1 ⟨X, cx, Y, cy, G, cg, rfl, hX, hY, hG, hb1⟩
      have HCn := Lib.hid (Cn.mk hX hY hG)
      have H1 := Lib.hid hb1
      have z01 := hb1.size
      have lq0 : w.heap.size < w1.heap.size := by omega
      have lq1 : w.heap.size + 1 < w1.heap.size := by omega
      have lq2 : w.heap.size + 1 + 1 < w1.heap.size := by omega
      clear hX hY hG hb1
      go_upto_region 2 with fail
      have BC := Lib.hid (Blk.mk' w1 64 #[.slice X cc.xs.length cx, .int .i64 cc.xd, .slice Y cc.ys.length cy, .int .i64 cc.yd, .slice G cc.gs.length cg, .int .i64 cc.gd])
      have HWL := (Below.refl w1.heap.size w1).alloc (Nat.le_refl _) (.cells #[.slice X cc.xs.length cx, .int .i64 cc.xd, .slice Y cc.ys.length cy, .int .i64 cc.yd, .slice G cc.gs.length cg, .int .i64 cc.gd] 64)
      have HV2 := Lib.hid (H1.out.trans (HWL.mono z01))
      have HCW := Lib.hid (HCn.out.below HWL)
      have HBW := Lib.hid (HVW.out.trans (HV2.out.mono zV))
      clear HWL
      generalize (w1.alloc (.cells #[.slice X cc.xs.length cx, .int .i64 cc.xd, .slice Y cc.ys.length cy, .int .i64 cc.yd, .slice G cc.gs.length cg, .int .i64 cc.gd] 64)) = W at *
      have z0 : (W).cell? ⟨w.heap.size + 1, 0, none⟩ = some (.bool false) := (BR.out.next HV2.out).cell 0
      have z1 : (W).cell? ⟨w.heap.size + 1, 1, none⟩ = some (.int .i64 0) := (BR.out.next HV2.out).cell 1
      have z2 : (W).cell? ⟨w.heap.size + 1, 2, none⟩ = some (.int .i64 0) := (BR.out.next HV2.out).cell 2
      have z3 : (W).cell? ⟨w.heap.size + 1 + 1, 0, none⟩ = some (.bool false) := (BQ.out.next HV2.out).cell 0
      have z4 : (W).cell? ⟨w.heap.size + 1 + 1, 1, none⟩ = some (.int .i64 0) := (BQ.out.next HV2.out).cell 1
      have z5 : (W).cell? ⟨w.heap.size + 1 + 1, 2, none⟩ = some (.int .i64 0) := (BQ.out.next HV2.out).cell 2
      have y0 := (BR.out.next HV2.out).frozen 0
      have y1 := (BR.out.next HV2.out).frozen 1
      have y2 := (BR.out.next HV2.out).frozen 2
      have y3 := (BQ.out.next HV2.out).frozen 0
      have y4 := (BQ.out.next HV2.out).frozen 1
      have y5 := (BQ.out.next HV2.out).frozen 2
      have p0 : W.cell? ⟨w.heap.size, 0, none⟩ = some (.slice A p.costs.length c) := (BP.out.next HV2.out).cell 0
      have p1 : W.cell? ⟨w.heap.size, 1, none⟩ = some (.slice A2 p.rows.length c2) := (BP.out.next HV2.out).cell 1
      go_wp2_with fail
      refine (span_small _ _ _ _ _ _ (by omega) (by omega) (HD.out.below HBW.out)).mono ?_
      rw [HMB.out]
      rintro e w2 ⟨rfl, rfl⟩
      rename World => W
      go_wp2_with fail
      clear p0 p1 z0 z1 z2 z3 z4 z5 y0 y1 y2 y3 y4 y5
      refine (corner_Look _ _ _ _ (costsOf p b) _ _ _ _ ⟨HD.out.below HBW.out, (HP.out.below HBW.out).rows⟩ (HL.out.below HBW.out)).mono ?_
      rw [HE2.out, HC2.out]
      rintro e w3 ⟨X', cx', Y', cy', G', cg', rfl, hX', hY', hG', hb3⟩
      have HG' := Lib.hid hG'
      have H3 := Lib.hid hb3
      have z03 := hb3.size
      clear hX' hY' hG' hb3
      go_upto_region 7 with fail
      have BD := Lib.hid (Blk.mk' w3 64 #[.slice X' dd.xs.length cx', .int .i64 dd.xd, .slice Y' dd.ys.length cy', .int .i64 dd.yd, .slice G' dd.gs.length cg', .int .i64 dd.gd])
      have HWL := (Below.refl w3.heap.size w3).alloc (Nat.le_refl _) (.cells #[.slice X' dd.xs.length cx', .int .i64 dd.xd, .slice Y' dd.ys.length cy', .int .i64 dd.yd, .slice G' dd.gs.length cg', .int .i64 dd.gd] 64)
      have HV3 := Lib.hid (H3.out.trans (HWL.mono z03))
      have HGW := Lib.hid (HG'.out.below HWL)
      clear HWL
      generalize (w3.alloc (.cells #[.slice X' dd.xs.length cx', .int .i64 dd.xd, .slice Y' dd.ys.length cy', .int .i64 dd.yd, .slice G' dd.gs.length cg', .int .i64 dd.gd] 64)) = W3 at *
      have v4 : W3.cell? ⟨w1.heap.size, 4, none⟩ = some (.slice G cc.gs.length cg) := (BC.out.next HV3.out).cell 4
      have v5 : W3.cell? ⟨w1.heap.size, 5, none⟩ = some (.int .i64 cc.gd) := (BC.out.next HV3.out).cell 5
      have u4 : W3.cell? ⟨w3.heap.size, 4, none⟩ = some (.slice G' dd.gs.length cg') := BD.out.cell 4
      have u5 : W3.cell? ⟨w3.heap.size, 5, none⟩ = some (.int .i64 dd.gd) := BD.out.cell 5
      go_wp2_with fail
      refine (HOF.out _ _ _ _ _ (HCW.out.g.below HV3.out) HGW.out).mono ?_
      rintro e w4 ⟨rfl, hb4⟩
      have HB4 := Lib.hid (HV2.out.trans ((HV3.out.trans (hb4.mono HV3.out.size)).mono HV2.out.size))
      have HBW := Lib.hid (HVW.out.trans (HB4.out.mono zV))
      have z0 : (w4).cell? ⟨w.heap.size + 1, 0, none⟩ = some (.bool false) := (BR.out.next HB4.out).cell 0
      have z1 : (w4).cell? ⟨w.heap.size + 1, 1, none⟩ = some (.int .i64 0) := (BR.out.next HB4.out).cell 1
      have z2 : (w4).cell? ⟨w.heap.size + 1, 2, none⟩ = some (.int .i64 0) := (BR.out.next HB4.out).cell 2
      have z3 : (w4).cell? ⟨w.heap.size + 1 + 1, 0, none⟩ = some (.bool false) := (BQ.out.next HB4.out).cell 0
      have z4 : (w4).cell? ⟨w.heap.size + 1 + 1, 1, none⟩ = some (.int .i64 0) := (BQ.out.next HB4.out).cell 1
      have z5 : (w4).cell? ⟨w.heap.size + 1 + 1, 2, none⟩ = some (.int .i64 0) := (BQ.out.next HB4.out).cell 2
      have y0 := (BR.out.next HB4.out).frozen 0
      have y1 := (BR.out.next HB4.out).frozen 1
      have y2 := (BR.out.next HB4.out).frozen 2
      have y3 := (BQ.out.next HB4.out).frozen 0
      have y4 := (BQ.out.next HB4.out).frozen 1
      have y5 := (BQ.out.next HB4.out).frozen 2
      clear hb4 v4 v5 u4 u5
      generalize endsF (ofZ (fN 1 cc.gs dd.gd) (fN 1 dd.gs cc.gd) cc.gs.length) = ef at *
      generalize endsT (ofZ (fN 1 cc.gs dd.gd) (fN 1 dd.gs cc.gd) cc.gs.length) = et at *
      generalize endsE (ofZ (fN 1 cc.gs dd.gd) (fN 1 dd.gs cc.gd) cc.gs.length) = ee at *
      go_wp2_with fail
      refine bodyPost_ret (v := .tuple #[.agg #[.bool ef.op, .int .i64 ef.n, .int .i64 ef.d], .agg #[.bool et.op, .int .i64 et.n, .int .i64 et.d], .int .i64 ee]) ?_ ?_ ?_
      · simp [results, Tryz.results96, go_sem, z0, z1, z2, z3, z4, z5]
      · rfl
      · refine ⟨rfl, ?_⟩
        iterate 6 refine Below.setCell ?_ (by first | (simp; done) | (simp; omega)) _
        exact HBW.out
    · have hm : manyB b p.costs.length 400 = false := by simpa using hm
      rw [show costsE p l b = 1 by unfold costsE; rw [if_neg (by simp [h0]), if_pos hm], show costsF p l b = zeroE by unfold costsF; rw [if_neg (by simp [h0]), if_pos hm], show costsT p l b = zeroE by unfold costsT; rw [if_neg (by simp [h0]), if_pos hm]]
      have hE := h0
      obtain ⟨cc, hC⟩ : ∃ cc, lookC p l = cc := ⟨_, rfl⟩
      have HMB := Lib.hid hm
      clear h0 hm
      have HP := Lib.hid hp
      have HL := Lib.hid hr
      have HD := Lib.hid hb
      obtain ⟨⟨hl, hc, hsm, _⟩, ⟨hl2, hc2, hsm2, _⟩⟩ := hp
      obtain ⟨hll, hlc, hls, _⟩ := hr
      obtain ⟨hbl, hbc, hbs, _⟩ := hb
      go_enter Tryz.func96, Tryz.ntmps96
      go_wp2_with fail
      have BP := Lib.hid (show Blk (((w.alloc (.cells #[.slice A p.costs.length c, .slice A2 p.rows.length c2] 28)).alloc (.cells #[.bool false, .int .i64 0, .int .i64 0] 77)).alloc (.cells #[.bool false, .int .i64 0, .int .i64 0] 77)) w.heap.size 28 #[.slice A p.costs.length c, .slice A2 p.rows.length c2] from ((Blk.mk' _ _ _).alloc _).alloc _)
      have BR := Lib.hid (show Blk (((w.alloc (.cells #[.slice A p.costs.length c, .slice A2 p.rows.length c2] 28)).alloc (.cells #[.bool false, .int .i64 0, .int .i64 0] 77)).alloc (.cells #[.bool false, .int .i64 0, .int .i64 0] 77)) (w.heap.size + 1) 77 #[.bool false, .int .i64 0, .int .i64 0] from (Blk.new _ _ _ _ (by simp)).alloc _)
      have BQ := Lib.hid (show Blk (((w.alloc (.cells #[.slice A p.costs.length c, .slice A2 p.rows.length c2] 28)).alloc (.cells #[.bool false, .int .i64 0, .int .i64 0] 77)).alloc (.cells #[.bool false, .int .i64 0, .int .i64 0] 77)) (w.heap.size + 1 + 1) 77 #[.bool false, .int .i64 0, .int .i64 0] from Blk.new _ _ _ _ (by simp))
      have HVW := Lib.hid ((by (repeat (any_goals (first | exact Below.refl _ _ | refine below_drewN ?_ _ | refine Below.drew ?_ | refine Below.alloc ?_ ?_ _ | refine Below.setCell ?_ ?_ _))); all_goals (first | omega | (simp; done) | (simp; omega))) : Below w.heap.size w (((w.alloc (.cells #[.slice A p.costs.length c, .slice A2 p.rows.length c2] 28)).alloc (.cells #[.bool false, .int .i64 0, .int .i64 0] 77)).alloc (.cells #[.bool false, .int .i64 0, .int .i64 0] 77)))
      generalize (((w.alloc (.cells #[.slice A p.costs.length c, .slice A2 p.rows.length c2] 28)).alloc (.cells #[.bool false, .int .i64 0, .int .i64 0] 77)).alloc (.cells #[.bool false, .int .i64 0, .int .i64 0] 77)) = V at *
      have zV := HVW.out.size
      have zQ := BQ.out.lt
      refine (corner_Look _ _ _ _ _ _ _ _ _ (HP.out.below HVW.out) (HL.out.below HVW.out)).mono ?_
      rw [hE, hC]
      rintro e w1 ⟨X, cx, Y, cy, G, cg, rfl, hX, hY, hG, hb1⟩
      have HCn := Lib.hid (Cn.mk hX hY hG)
      have H1 := Lib.hid hb1
      have z01 := hb1.size
      have lq0 : w.heap.size < w1.heap.size := by omega
      have lq1 : w.heap.size + 1 < w1.heap.size := by omega
      have lq2 : w.heap.size + 1 + 1 < w1.heap.size := by omega
      clear hX hY hG hb1
      go_upto_region 2 with fail
      have BC := Lib.hid (Blk.mk' w1 64 #[.slice X cc.xs.length cx, .int .i64 cc.xd, .slice Y cc.ys.length cy, .int .i64 cc.yd, .slice G cc.gs.length cg, .int .i64 cc.gd])
      have HWL := (Below.refl w1.heap.size w1).alloc (Nat.le_refl _) (.cells #[.slice X cc.xs.length cx, .int .i64 cc.xd, .slice Y cc.ys.length cy, .int .i64 cc.yd, .slice G cc.gs.length cg, .int .i64 cc.gd] 64)
      have HV2 := Lib.hid (H1.out.trans (HWL.mono z01))
      have HCW := Lib.hid (HCn.out.below HWL)
      have HBW := Lib.hid (HVW.out.trans (HV2.out.mono zV))
      clear HWL
      generalize (w1.alloc (.cells #[.slice X cc.xs.length cx, .int .i64 cc.xd, .slice Y cc.ys.length cy, .int .i64 cc.yd, .slice G cc.gs.length cg, .int .i64 cc.gd] 64)) = W at *
      have z0 : (W).cell? ⟨w.heap.size + 1, 0, none⟩ = some (.bool false) := (BR.out.next HV2.out).cell 0
      have z1 : (W).cell? ⟨w.heap.size + 1, 1, none⟩ = some (.int .i64 0) := (BR.out.next HV2.out).cell 1
      have z2 : (W).cell? ⟨w.heap.size + 1, 2, none⟩ = some (.int .i64 0) := (BR.out.next HV2.out).cell 2
      have z3 : (W).cell? ⟨w.heap.size + 1 + 1, 0, none⟩ = some (.bool false) := (BQ.out.next HV2.out).cell 0
      have z4 : (W).cell? ⟨w.heap.size + 1 + 1, 1, none⟩ = some (.int .i64 0) := (BQ.out.next HV2.out).cell 1
      have z5 : (W).cell? ⟨w.heap.size + 1 + 1, 2, none⟩ = some (.int .i64 0) := (BQ.out.next HV2.out).cell 2
      have y0 := (BR.out.next HV2.out).frozen 0
      have y1 := (BR.out.next HV2.out).frozen 1
      have y2 := (BR.out.next HV2.out).frozen 2
      have y3 := (BQ.out.next HV2.out).frozen 0
      have y4 := (BQ.out.next HV2.out).frozen 1
      have y5 := (BQ.out.next HV2.out).frozen 2
      have p0 : W.cell? ⟨w.heap.size, 0, none⟩ = some (.slice A p.costs.length c) := (BP.out.next HV2.out).cell 0
      go_wp2_with fail
      refine (span_small _ _ _ _ _ _ (by omega) (by omega) (HD.out.below HBW.out)).mono ?_
      rw [HMB.out]
      rintro e w2 ⟨rfl, rfl⟩
      go_wp2_with fail
      refine bodyPost_ret (v := .tuple #[.agg #[.bool false, .int .i64 0, .int .i64 0], .agg #[.bool false, .int .i64 0, .int .i64 0], .int .i64 1]) ?_ ?_ ?_
      · simp [results, Tryz.results96, go_sem, z0, z1, z2, z3, z4, z5]
      · rfl
      · refine ⟨rfl, ?_⟩
        iterate 6 refine Below.setCell ?_ (by first | (simp; done) | (simp; omega)) _
        exact HBW.out
  · have hne : (lookE p l != 0) = true := by simpa using h0
    rw [show costsE p l b = lookE p l by unfold costsE; rw [if_pos h0], show costsF p l b = zeroE by unfold costsF; rw [if_pos h0], show costsT p l b = zeroE by unfold costsT; rw [if_pos h0]]
    obtain ⟨cc, hC⟩ : ∃ cc, lookC p l = cc := ⟨_, rfl⟩
    obtain ⟨ee, hE⟩ : ∃ ee, lookE p l = ee := ⟨_, rfl⟩
    rw [hE] at hne ⊢
    clear h0
    have HP := Lib.hid hp
    have HL := Lib.hid hr
    have HD := Lib.hid hb
    obtain ⟨⟨hl, hc, hsm, _⟩, ⟨hl2, hc2, hsm2, _⟩⟩ := hp
    obtain ⟨hll, hlc, hls, _⟩ := hr
    obtain ⟨hbl, hbc, hbs, _⟩ := hb
    go_enter Tryz.func96, Tryz.ntmps96
    go_wp2_with fail
    have BP := Lib.hid (show Blk (((w.alloc (.cells #[.slice A p.costs.length c, .slice A2 p.rows.length c2] 28)).alloc (.cells #[.bool false, .int .i64 0, .int .i64 0] 77)).alloc (.cells #[.bool false, .int .i64 0, .int .i64 0] 77)) w.heap.size 28 #[.slice A p.costs.length c, .slice A2 p.rows.length c2] from ((Blk.mk' _ _ _).alloc _).alloc _)
    have BR := Lib.hid (show Blk (((w.alloc (.cells #[.slice A p.costs.length c, .slice A2 p.rows.length c2] 28)).alloc (.cells #[.bool false, .int .i64 0, .int .i64 0] 77)).alloc (.cells #[.bool false, .int .i64 0, .int .i64 0] 77)) (w.heap.size + 1) 77 #[.bool false, .int .i64 0, .int .i64 0] from (Blk.new _ _ _ _ (by simp)).alloc _)
    have BQ := Lib.hid (show Blk (((w.alloc (.cells #[.slice A p.costs.length c, .slice A2 p.rows.length c2] 28)).alloc (.cells #[.bool false, .int .i64 0, .int .i64 0] 77)).alloc (.cells #[.bool false, .int .i64 0, .int .i64 0] 77)) (w.heap.size + 1 + 1) 77 #[.bool false, .int .i64 0, .int .i64 0] from Blk.new _ _ _ _ (by simp))
    have HVW := Lib.hid ((by (repeat (any_goals (first | exact Below.refl _ _ | refine below_drewN ?_ _ | refine Below.drew ?_ | refine Below.alloc ?_ ?_ _ | refine Below.setCell ?_ ?_ _))); all_goals (first | omega | (simp; done) | (simp; omega))) : Below w.heap.size w (((w.alloc (.cells #[.slice A p.costs.length c, .slice A2 p.rows.length c2] 28)).alloc (.cells #[.bool false, .int .i64 0, .int .i64 0] 77)).alloc (.cells #[.bool false, .int .i64 0, .int .i64 0] 77)))
    generalize (((w.alloc (.cells #[.slice A p.costs.length c, .slice A2 p.rows.length c2] 28)).alloc (.cells #[.bool false, .int .i64 0, .int .i64 0] 77)).alloc (.cells #[.bool false, .int .i64 0, .int .i64 0] 77)) = V at *
    have zV := HVW.out.size
    have zQ := BQ.out.lt
    refine (corner_Look _ _ _ _ _ _ _ _ _ (HP.out.below HVW.out) (HL.out.below HVW.out)).mono ?_
    rw [hE, hC]
    rintro e w1 ⟨X, cx, Y, cy, G, cg, rfl, hX, hY, hG, hb1⟩
    have HCn := Lib.hid (Cn.mk hX hY hG)
    have H1 := Lib.hid hb1
    have z01 := hb1.size
    have lq0 : w.heap.size < w1.heap.size := by omega
    have lq1 : w.heap.size + 1 < w1.heap.size := by omega
    have lq2 : w.heap.size + 1 + 1 < w1.heap.size := by omega
    clear hX hY hG hb1
    go_upto_region 2 with fail
    have BC := Lib.hid (Blk.mk' w1 64 #[.slice X cc.xs.length cx, .int .i64 cc.xd, .slice Y cc.ys.length cy, .int .i64 cc.yd, .slice G cc.gs.length cg, .int .i64 cc.gd])
    have HWL := (Below.refl w1.heap.size w1).alloc (Nat.le_refl _) (.cells #[.slice X cc.xs.length cx, .int .i64 cc.xd, .slice Y cc.ys.length cy, .int .i64 cc.yd, .slice G cc.gs.length cg, .int .i64 cc.gd] 64)
    have HV2 := Lib.hid (H1.out.trans (HWL.mono z01))
    have HCW := Lib.hid (HCn.out.below HWL)
    have HBW := Lib.hid (HVW.out.trans (HV2.out.mono zV))
    clear HWL
    generalize (w1.alloc (.cells #[.slice X cc.xs.length cx, .int .i64 cc.xd, .slice Y cc.ys.length cy, .int .i64 cc.yd, .slice G cc.gs.length cg, .int .i64 cc.gd] 64)) = W at *
    have z0 : (W).cell? ⟨w.heap.size + 1, 0, none⟩ = some (.bool false) := (BR.out.next HV2.out).cell 0
    have z1 : (W).cell? ⟨w.heap.size + 1, 1, none⟩ = some (.int .i64 0) := (BR.out.next HV2.out).cell 1
    have z2 : (W).cell? ⟨w.heap.size + 1, 2, none⟩ = some (.int .i64 0) := (BR.out.next HV2.out).cell 2
    have z3 : (W).cell? ⟨w.heap.size + 1 + 1, 0, none⟩ = some (.bool false) := (BQ.out.next HV2.out).cell 0
    have z4 : (W).cell? ⟨w.heap.size + 1 + 1, 1, none⟩ = some (.int .i64 0) := (BQ.out.next HV2.out).cell 1
    have z5 : (W).cell? ⟨w.heap.size + 1 + 1, 2, none⟩ = some (.int .i64 0) := (BQ.out.next HV2.out).cell 2
    have y0 := (BR.out.next HV2.out).frozen 0
    have y1 := (BR.out.next HV2.out).frozen 1
    have y2 := (BR.out.next HV2.out).frozen 2
    have y3 := (BQ.out.next HV2.out).frozen 0
    have y4 := (BQ.out.next HV2.out).frozen 1
    have y5 := (BQ.out.next HV2.out).frozen 2
    go_wp2_with fail
    refine bodyPost_ret (v := .tuple #[.agg #[.bool false, .int .i64 0, .int .i64 0], .agg #[.bool false, .int .i64 0, .int .i64 0], .int .i64 ee]) ?_ ?_ ?_
    · simp [results, Tryz.results96, go_sem, z0, z1, z2, z3, z4, z5]
    · rfl
    · refine ⟨rfl, ?_⟩
      iterate 6 refine Below.setCell ?_ (by first | (simp; done) | (simp; omega)) _
      exact HBW.out
end Go.Proofs.YtjcdkbalhleeeaaGreatDoor

namespace Go.Proofs.YtjcdkbalhleeeaaGreatDoor
open Go.RowKit

theorem cost_spW {p : PG} {b : List Int} {l : List Nat} (hb : By p b) (h : Bs p l) (h0 : lookE p (ints l) = 0) : costsE p (ints l) b = endsE (spW p b l) ∧ costsF p (ints l) b = endsF (spW p b l) ∧ costsT p (ints l) b = endsT (spW p b l) := by
  have hm : manyB b p.costs.length 400 = true := manyB_iff.2 ⟨hb.small, hb.len⟩
  have e : costsN p (ints l) b = spW p b l := rfl
  refine ⟨?_, ?_, ?_⟩
  · unfold costsE; rw [if_neg (by simp [h0]), if_neg (by simp [hm]), e]
  · unfold costsF; rw [if_neg (by simp [h0]), if_neg (by simp [hm]), e]
  · unfold costsT; rw [if_neg (by simp [h0]), if_neg (by simp [hm]), e]
set_option maxRecDepth 100000 in
theorem walk_Value (A : Option Addr) (c : Nat) (A2 : Option Addr) (c2 : Nat) (p : PG) (X Y G : Option Addr) (cx ny cy ng cg : Nat) (xs : List Int) (xd yd gd : Int) (w : World) (hp : Pg w A c A2 c2 p) (hm : mayPB p = true) (hx : Rd w X cx xs) (h0 : 0 < xs.length) (hn : p.costs.length ≤ xs.length) (hs : smallB 497664 (xs.take p.costs.length) = true) :
    Calls Tryz.prog 97 #[.agg #[.slice A p.costs.length c, .slice A2 p.rows.length c2], .agg #[.slice X xs.length cx, .int .i64 xd, .slice Y ny cy, .int .i64 yd, .slice G ng cg, .int .i64 gd]] w fun e w' =>
      e = .returned (.int .i64 (dot p.costs (xs.take p.costs.length))) ∧ Below w.heap.size w w' := by
  obtain ⟨m1, m2, m3, m4, m5, m6⟩ := mayPB_iff.1 hm
  have HV := Lib.hid (fun u (hu : Below w.heap.size w u) => walk_Variables A c A2 c2 p X Y G cx ny cy ng cg xs xd yd gd u (hp.below hu) (hx.below hu) h0 hn)
  have hlt : (xs.take p.costs.length).length = p.costs.length := by rw [List.length_take]; omega
  have hxt : Rd w X cx (xs.take p.costs.length) := by
    refine ⟨by rw [hlt]; have := hx.le; omega, hx.cap, by rw [hlt]; have := hx.small; omega, fun hl => ?_⟩
    obtain ⟨ad, e, hc⟩ := hx.cells (by simpa using h0)
    refine ⟨ad, e, fun j u hu => hc j u ?_⟩
    rw [List.getElem?_map, List.getElem?_take] at hu
    rw [List.getElem?_map]
    split at hu
    · exact hu
    · simp at hu
  have HD := Lib.hid (fun u (hu : Below w.heap.size w u) => show Calls Tryz.prog 84 #[.slice A p.costs.length c, .slice X p.costs.length cx] u (fun e w' => e = .returned (.int .i64 (dot p.costs (xs.take p.costs.length))) ∧ ∃ n, w' = u.drewN n) from by
    have := layout_Dot A p.costs c X (xs.take p.costs.length) cx 400 497664 u (hp.costs.below hu) (hxt.below hu) (by omega) (by omega) (by omega) m5 hs (by omega)
    rwa [hlt] at this)
  obtain ⟨⟨hl, hc, hsm, _⟩, ⟨hl2, hc2, hsm2, _⟩⟩ := hp
  obtain ⟨hlx, hcx, hsx, _⟩ := hx
  obtain ⟨dv, hdv⟩ : ∃ dv, dot p.costs (xs.take p.costs.length) = dv := ⟨_, rfl⟩
  rw [hdv] at HD ⊢
  clear hdv hm m3 m5 m6 hs hxt hlt
  go_enter Tryz.func97, Tryz.ntmps97
  go_upto_region 1 with fail
  obtain ⟨V1, hV1⟩ : ∃ V1, w.alloc (.cells #[.slice A p.costs.length c, .slice A2 p.rows.length c2] 28) = V1 := ⟨_, rfl⟩
  have b0 : Blk V1 w.heap.size 28 _ := hV1 ▸ Blk.mk' w _ _
  have z1 : V1.heap.size = w.heap.size + 1 := by rw [← hV1]; simp
  have k1 : Below w.heap.size w V1 := by rw [← hV1]; exact (Below.refl _ w).alloc (Nat.le_refl _) _
  rw [hV1]
  clear hV1
  obtain ⟨V, hV⟩ : ∃ V, V1.alloc (.cells #[.slice X xs.length cx, .int .i64 xd, .slice Y ny cy, .int .i64 yd, .slice G ng cg, .int .i64 gd] 64) = V := ⟨_, rfl⟩
  have B0 := Lib.hid (show Blk V w.heap.size 28 _ from hV ▸ b0.alloc _)
  have B1 := Lib.hid (show Blk V (w.heap.size + 1) 64 _ from by rw [← z1]; exact hV ▸ Blk.mk' V1 _ _)
  have HB := Lib.hid (show Below w.heap.size w V by rw [← hV]; exact k1.alloc (by omega) _)
  rw [hV]
  clear hV b0 z1 k1
  clear V1
  have s0 : ∀ u : Wk V, u.1.cell? ⟨w.heap.size, 0, none⟩ = some (.slice A p.costs.length c) := fun u => (B0.out.next u.2).cell 0
  have s1 : ∀ u : Wk V, u.1.cell? ⟨w.heap.size, 1, none⟩ = some (.slice A2 p.rows.length c2) := fun u => (B0.out.next u.2).cell 1
  have c0 : ∀ u : Wk V, u.1.cell? ⟨w.heap.size + 1, 0, none⟩ = some (.slice X xs.length cx) := fun u => (B1.out.next u.2).cell 0
  have c1 : ∀ u : Wk V, u.1.cell? ⟨w.heap.size + 1, 1, none⟩ = some (.int .i64 xd) := fun u => (B1.out.next u.2).cell 1
  have c3 : ∀ u : Wk V, u.1.cell? ⟨w.heap.size + 1, 2, none⟩ = some (.slice Y ny cy) := fun u => (B1.out.next u.2).cell 2
  have c4 : ∀ u : Wk V, u.1.cell? ⟨w.heap.size + 1, 3, none⟩ = some (.int .i64 yd) := fun u => (B1.out.next u.2).cell 3
  have c5 : ∀ u : Wk V, u.1.cell? ⟨w.heap.size + 1, 4, none⟩ = some (.slice G ng cg) := fun u => (B1.out.next u.2).cell 4
  have c6 : ∀ u : Wk V, u.1.cell? ⟨w.heap.size + 1, 5, none⟩ = some (.int .i64 gd) := fun u => (B1.out.next u.2).cell 5
  have HV2 := Lib.hid (fun u : Wk V => HV.out u.1 (HB.out.trans (u.2.mono HB.out.size)))
  have HD2 := Lib.hid (fun u : Wk V => HD.out u.1 (HB.out.trans (u.2.mono HB.out.size)))
  clear HV HD
  refine wk_region (by kernel_rfl) (by kernel_rfl) ?_
  repeat (go_big_quiet_step (first | (go_at_call 35; exact wk_call (HV2.out _)) | (go_at_call 84; exact wk_quiet (HD2.out _))))
  refine wpQuiet_nil ?_
  rintro w2 ⟨u2, rfl⟩
  have HF := Lib.hid (HB.out.trans (u2.2.mono HB.out.size))
  go_wp2_with fail
  go_ret
  exact ⟨rfl, HF.out⟩
end Go.Proofs.YtjcdkbalhleeeaaGreatDoor

namespace Go.Proofs.YtjcdkbalhleeeaaGreatDoor
open Go.RowKit

/-- An end is handed back. -/
def RetE1 (w : World) (a : EN) (e : Ending) (w' : World) : Prop := e = .returned (.agg #[.bool a.op, .int .i64 a.n, .int .i64 a.d]) ∧ Below w.heap.size w w'
theorem und_lem (ao : Bool) (an ad : Int) (co : Bool) (cn cd : Int) (w : World) :
    Calls Tryz.prog 98 #[.agg #[.bool ao, .int .i64 an, .int .i64 ad], .agg #[.bool co, .int .i64 cn, .int .i64 cd]] w (RetE1 w (undP ⟨ao, an, ad⟩ ⟨co, cn, cd⟩)) := by
  obtain ⟨q, hq⟩ : ∃ q, lessB cn cd an ad = q := ⟨_, rfl⟩
  have HLS := Lib.hid (fun w1 => by have := frac_Less cn cd an ad w1; rw [hq] at this; exact this)
  have hu : undP ⟨ao, an, ad⟩ ⟨co, cn, cd⟩ = if co || (!ao && q) then ⟨co, cn, cd⟩ else ⟨ao, an, ad⟩ := by simp [undP, hq]
  obtain ⟨R, hR⟩ : ∃ R, undP ⟨ao, an, ad⟩ ⟨co, cn, cd⟩ = R := ⟨_, rfl⟩
  rw [hR] at hu ⊢
  have HU := Lib.hid hu
  clear hu hq hR
  go_enter Tryz.func98, Tryz.ntmps98
  go_upto_region 1 with fail
  have B0 := Lib.hid (show Blk (((w.alloc (.cells #[.bool ao, .int .i64 an, .int .i64 ad] 77)).alloc (.cells #[.bool co, .int .i64 cn, .int .i64 cd] 77)).alloc (.cells #[.bool false, .int .i64 0, .int .i64 0] 77)) w.heap.size 77 #[.bool ao, .int .i64 an, .int .i64 ad] from ((Blk.mk' _ _ _).alloc _).alloc _)
  have B1 := Lib.hid (show Blk (((w.alloc (.cells #[.bool ao, .int .i64 an, .int .i64 ad] 77)).alloc (.cells #[.bool co, .int .i64 cn, .int .i64 cd] 77)).alloc (.cells #[.bool false, .int .i64 0, .int .i64 0] 77)) (w.heap.size + 1) 77 #[.bool co, .int .i64 cn, .int .i64 cd] from (Blk.new (w.alloc (.cells #[.bool ao, .int .i64 an, .int .i64 ad] 77)) 77 _ _ (by simp)).alloc _)
  have B2 := Lib.hid (show Blk (((w.alloc (.cells #[.bool ao, .int .i64 an, .int .i64 ad] 77)).alloc (.cells #[.bool co, .int .i64 cn, .int .i64 cd] 77)).alloc (.cells #[.bool false, .int .i64 0, .int .i64 0] 77)) (w.heap.size + 2) 77 #[.bool false, .int .i64 0, .int .i64 0] from Blk.new ((w.alloc (.cells #[.bool ao, .int .i64 an, .int .i64 ad] 77)).alloc (.cells #[.bool co, .int .i64 cn, .int .i64 cd] 77)) 77 _ _ (by simp))
  have HB := Lib.hid ((by (repeat (any_goals (first | exact Below.refl _ _ | refine below_drewN ?_ _ | refine Below.drew ?_ | refine Below.alloc ?_ ?_ _ | refine Below.setCell ?_ ?_ _))); all_goals (first | omega | (simp; done) | (simp; omega))) : Below w.heap.size w (((w.alloc (.cells #[.bool ao, .int .i64 an, .int .i64 ad] 77)).alloc (.cells #[.bool co, .int .i64 cn, .int .i64 cd] 77)).alloc (.cells #[.bool false, .int .i64 0, .int .i64 0] 77)))
  generalize (((w.alloc (.cells #[.bool ao, .int .i64 an, .int .i64 ad] 77)).alloc (.cells #[.bool co, .int .i64 cn, .int .i64 cd] 77)).alloc (.cells #[.bool false, .int .i64 0, .int .i64 0] 77)) = V at *
  have a0 : V.cell? ⟨w.heap.size, 0, none⟩ = some (.bool ao) := (B0.out).cell 0
  have a1 : V.cell? ⟨w.heap.size, 1, none⟩ = some (.int .i64 an) := (B0.out).cell 1
  have a2 : V.cell? ⟨w.heap.size, 2, none⟩ = some (.int .i64 ad) := (B0.out).cell 2
  have c0 : V.cell? ⟨w.heap.size + 1, 0, none⟩ = some (.bool co) := (B1.out).cell 0
  have c1 : V.cell? ⟨w.heap.size + 1, 1, none⟩ = some (.int .i64 cn) := (B1.out).cell 1
  have c2 : V.cell? ⟨w.heap.size + 1, 2, none⟩ = some (.int .i64 cd) := (B1.out).cell 2
  have r0 : V.cell? ⟨w.heap.size + 2, 0, none⟩ = some (.bool false) := (B2.out).cell 0
  have r1 : V.cell? ⟨w.heap.size + 2, 1, none⟩ = some (.int .i64 0) := (B2.out).cell 1
  have r2 : V.cell? ⟨w.heap.size + 2, 2, none⟩ = some (.int .i64 0) := (B2.out).cell 2
  have f0 := (B2.out).frozen 0
  have f1 := (B2.out).frozen 1
  have f2 := (B2.out).frozen 2
  cases co
  · cases ao
    · go_wp2_with fail
      refine (HLS.out _).mono ?_
      rintro e w1 ⟨rfl, hb1⟩
      have HB1 := Lib.hid (HB.out.trans (hb1.mono HB.out.size))
      have D0 := Lib.hid (B0.out.next hb1)
      have D1 := Lib.hid (B1.out.next hb1)
      have D2 := Lib.hid (B2.out.next hb1)
      clear hb1 a0 a1 a2 c0 c1 c2 r0 r1 r2 f0 f1 f2
      have a0 : w1.cell? ⟨w.heap.size, 0, none⟩ = some (.bool false) := (D0.out).cell 0
      have a1 : w1.cell? ⟨w.heap.size, 1, none⟩ = some (.int .i64 an) := (D0.out).cell 1
      have a2 : w1.cell? ⟨w.heap.size, 2, none⟩ = some (.int .i64 ad) := (D0.out).cell 2
      have c0 : w1.cell? ⟨w.heap.size + 1, 0, none⟩ = some (.bool false) := (D1.out).cell 0
      have c1 : w1.cell? ⟨w.heap.size + 1, 1, none⟩ = some (.int .i64 cn) := (D1.out).cell 1
      have c2 : w1.cell? ⟨w.heap.size + 1, 2, none⟩ = some (.int .i64 cd) := (D1.out).cell 2
      have r0 : w1.cell? ⟨w.heap.size + 2, 0, none⟩ = some (.bool false) := (D2.out).cell 0
      have r1 : w1.cell? ⟨w.heap.size + 2, 1, none⟩ = some (.int .i64 0) := (D2.out).cell 1
      have r2 : w1.cell? ⟨w.heap.size + 2, 2, none⟩ = some (.int .i64 0) := (D2.out).cell 2
      have f0 := (D2.out).frozen 0
      have f1 := (D2.out).frozen 1
      have f2 := (D2.out).frozen 2
      cases q
      · go_wp2_with fail
        refine bodyPost_ret (v := .agg #[.bool false, .int .i64 an, .int .i64 ad]) ?_ ?_ ?_
        · simp [results, Tryz.results98, go_sem, a0, a1, a2, c0, c1, c2, r0, r1, r2]
        · rfl
        exact ⟨by rw [HU.out]; rfl, (by (repeat (any_goals (first | exact Below.refl _ _ | exact HB1.out | refine below_drewN ?_ _ | refine Below.drew ?_ | refine Below.alloc ?_ ?_ _ | refine Below.setCell ?_ ?_ _ | refine Below.trans ?_ (Below.mono HB1.out ?_)))); all_goals (first | omega | (simp; done) | (simp; omega) | ((try have z0 := HB1.out.size); (try simp at z0); (try simp); omega)))⟩
      · go_wp2_with fail
        refine bodyPost_ret (v := .agg #[.bool false, .int .i64 cn, .int .i64 cd]) ?_ ?_ ?_
        · simp [results, Tryz.results98, go_sem, a0, a1, a2, c0, c1, c2, r0, r1, r2]
        · rfl
        exact ⟨by rw [HU.out]; rfl, (by (repeat (any_goals (first | exact Below.refl _ _ | exact HB1.out | refine below_drewN ?_ _ | refine Below.drew ?_ | refine Below.alloc ?_ ?_ _ | refine Below.setCell ?_ ?_ _ | refine Below.trans ?_ (Below.mono HB1.out ?_)))); all_goals (first | omega | (simp; done) | (simp; omega) | ((try have z0 := HB1.out.size); (try simp at z0); (try simp); omega)))⟩
    · go_wp2_with fail
      refine bodyPost_ret (v := .agg #[.bool true, .int .i64 an, .int .i64 ad]) ?_ ?_ ?_
      · simp [results, Tryz.results98, go_sem, a0, a1, a2, c0, c1, c2, r0, r1, r2]
      · rfl
      exact ⟨by rw [HU.out]; rfl, (by (repeat (any_goals (first | exact Below.refl _ _ | exact HB.out | refine below_drewN ?_ _ | refine Below.drew ?_ | refine Below.alloc ?_ ?_ _ | refine Below.setCell ?_ ?_ _ | refine Below.trans ?_ (Below.mono HB.out ?_)))); all_goals (first | omega | (simp; done) | (simp; omega) | ((try have z0 := HB.out.size); (try simp at z0); (try simp); omega)))⟩
  · go_wp2_with fail
    refine bodyPost_ret (v := .agg #[.bool true, .int .i64 cn, .int .i64 cd]) ?_ ?_ ?_
    · simp [results, Tryz.results98, go_sem, a0, a1, a2, c0, c1, c2, r0, r1, r2]
    · rfl
    exact ⟨by rw [HU.out]; rfl, (by (repeat (any_goals (first | exact Below.refl _ _ | exact HB.out | refine below_drewN ?_ _ | refine Below.drew ?_ | refine Below.alloc ?_ ?_ _ | refine Below.setCell ?_ ?_ _ | refine Below.trans ?_ (Below.mono HB.out ?_)))); all_goals (first | omega | (simp; done) | (simp; omega) | ((try have z0 := HB.out.size); (try simp at z0); (try simp); omega)))⟩
theorem ovr_lem (ao : Bool) (an ad : Int) (co : Bool) (cn cd : Int) (w : World) :
    Calls Tryz.prog 99 #[.agg #[.bool ao, .int .i64 an, .int .i64 ad], .agg #[.bool co, .int .i64 cn, .int .i64 cd]] w (RetE1 w (ovrP ⟨ao, an, ad⟩ ⟨co, cn, cd⟩)) := by
  obtain ⟨q, hq⟩ : ∃ q, lessB an ad cn cd = q := ⟨_, rfl⟩
  have HLS := Lib.hid (fun w1 => by have := frac_Less an ad cn cd w1; rw [hq] at this; exact this)
  have hu : ovrP ⟨ao, an, ad⟩ ⟨co, cn, cd⟩ = if co || (!ao && q) then ⟨co, cn, cd⟩ else ⟨ao, an, ad⟩ := by simp [ovrP, hq]
  obtain ⟨R, hR⟩ : ∃ R, ovrP ⟨ao, an, ad⟩ ⟨co, cn, cd⟩ = R := ⟨_, rfl⟩
  rw [hR] at hu ⊢
  have HU := Lib.hid hu
  clear hu hq hR
  go_enter Tryz.func99, Tryz.ntmps99
  go_upto_region 1 with fail
  have B0 := Lib.hid (show Blk (((w.alloc (.cells #[.bool ao, .int .i64 an, .int .i64 ad] 77)).alloc (.cells #[.bool co, .int .i64 cn, .int .i64 cd] 77)).alloc (.cells #[.bool false, .int .i64 0, .int .i64 0] 77)) w.heap.size 77 #[.bool ao, .int .i64 an, .int .i64 ad] from ((Blk.mk' _ _ _).alloc _).alloc _)
  have B1 := Lib.hid (show Blk (((w.alloc (.cells #[.bool ao, .int .i64 an, .int .i64 ad] 77)).alloc (.cells #[.bool co, .int .i64 cn, .int .i64 cd] 77)).alloc (.cells #[.bool false, .int .i64 0, .int .i64 0] 77)) (w.heap.size + 1) 77 #[.bool co, .int .i64 cn, .int .i64 cd] from (Blk.new (w.alloc (.cells #[.bool ao, .int .i64 an, .int .i64 ad] 77)) 77 _ _ (by simp)).alloc _)
  have B2 := Lib.hid (show Blk (((w.alloc (.cells #[.bool ao, .int .i64 an, .int .i64 ad] 77)).alloc (.cells #[.bool co, .int .i64 cn, .int .i64 cd] 77)).alloc (.cells #[.bool false, .int .i64 0, .int .i64 0] 77)) (w.heap.size + 2) 77 #[.bool false, .int .i64 0, .int .i64 0] from Blk.new ((w.alloc (.cells #[.bool ao, .int .i64 an, .int .i64 ad] 77)).alloc (.cells #[.bool co, .int .i64 cn, .int .i64 cd] 77)) 77 _ _ (by simp))
  have HB := Lib.hid ((by (repeat (any_goals (first | exact Below.refl _ _ | refine below_drewN ?_ _ | refine Below.drew ?_ | refine Below.alloc ?_ ?_ _ | refine Below.setCell ?_ ?_ _))); all_goals (first | omega | (simp; done) | (simp; omega))) : Below w.heap.size w (((w.alloc (.cells #[.bool ao, .int .i64 an, .int .i64 ad] 77)).alloc (.cells #[.bool co, .int .i64 cn, .int .i64 cd] 77)).alloc (.cells #[.bool false, .int .i64 0, .int .i64 0] 77)))
  generalize (((w.alloc (.cells #[.bool ao, .int .i64 an, .int .i64 ad] 77)).alloc (.cells #[.bool co, .int .i64 cn, .int .i64 cd] 77)).alloc (.cells #[.bool false, .int .i64 0, .int .i64 0] 77)) = V at *
  have a0 : V.cell? ⟨w.heap.size, 0, none⟩ = some (.bool ao) := (B0.out).cell 0
  have a1 : V.cell? ⟨w.heap.size, 1, none⟩ = some (.int .i64 an) := (B0.out).cell 1
  have a2 : V.cell? ⟨w.heap.size, 2, none⟩ = some (.int .i64 ad) := (B0.out).cell 2
  have c0 : V.cell? ⟨w.heap.size + 1, 0, none⟩ = some (.bool co) := (B1.out).cell 0
  have c1 : V.cell? ⟨w.heap.size + 1, 1, none⟩ = some (.int .i64 cn) := (B1.out).cell 1
  have c2 : V.cell? ⟨w.heap.size + 1, 2, none⟩ = some (.int .i64 cd) := (B1.out).cell 2
  have r0 : V.cell? ⟨w.heap.size + 2, 0, none⟩ = some (.bool false) := (B2.out).cell 0
  have r1 : V.cell? ⟨w.heap.size + 2, 1, none⟩ = some (.int .i64 0) := (B2.out).cell 1
  have r2 : V.cell? ⟨w.heap.size + 2, 2, none⟩ = some (.int .i64 0) := (B2.out).cell 2
  have f0 := (B2.out).frozen 0
  have f1 := (B2.out).frozen 1
  have f2 := (B2.out).frozen 2
  cases co
  · cases ao
    · go_wp2_with fail
      refine (HLS.out _).mono ?_
      rintro e w1 ⟨rfl, hb1⟩
      have HB1 := Lib.hid (HB.out.trans (hb1.mono HB.out.size))
      have D0 := Lib.hid (B0.out.next hb1)
      have D1 := Lib.hid (B1.out.next hb1)
      have D2 := Lib.hid (B2.out.next hb1)
      clear hb1 a0 a1 a2 c0 c1 c2 r0 r1 r2 f0 f1 f2
      have a0 : w1.cell? ⟨w.heap.size, 0, none⟩ = some (.bool false) := (D0.out).cell 0
      have a1 : w1.cell? ⟨w.heap.size, 1, none⟩ = some (.int .i64 an) := (D0.out).cell 1
      have a2 : w1.cell? ⟨w.heap.size, 2, none⟩ = some (.int .i64 ad) := (D0.out).cell 2
      have c0 : w1.cell? ⟨w.heap.size + 1, 0, none⟩ = some (.bool false) := (D1.out).cell 0
      have c1 : w1.cell? ⟨w.heap.size + 1, 1, none⟩ = some (.int .i64 cn) := (D1.out).cell 1
      have c2 : w1.cell? ⟨w.heap.size + 1, 2, none⟩ = some (.int .i64 cd) := (D1.out).cell 2
      have r0 : w1.cell? ⟨w.heap.size + 2, 0, none⟩ = some (.bool false) := (D2.out).cell 0
      have r1 : w1.cell? ⟨w.heap.size + 2, 1, none⟩ = some (.int .i64 0) := (D2.out).cell 1
      have r2 : w1.cell? ⟨w.heap.size + 2, 2, none⟩ = some (.int .i64 0) := (D2.out).cell 2
      have f0 := (D2.out).frozen 0
      have f1 := (D2.out).frozen 1
      have f2 := (D2.out).frozen 2
      cases q
      · go_wp2_with fail
        refine bodyPost_ret (v := .agg #[.bool false, .int .i64 an, .int .i64 ad]) ?_ ?_ ?_
        · simp [results, Tryz.results99, go_sem, a0, a1, a2, c0, c1, c2, r0, r1, r2]
        · rfl
        exact ⟨by rw [HU.out]; rfl, (by (repeat (any_goals (first | exact Below.refl _ _ | exact HB1.out | refine below_drewN ?_ _ | refine Below.drew ?_ | refine Below.alloc ?_ ?_ _ | refine Below.setCell ?_ ?_ _ | refine Below.trans ?_ (Below.mono HB1.out ?_)))); all_goals (first | omega | (simp; done) | (simp; omega) | ((try have z0 := HB1.out.size); (try simp at z0); (try simp); omega)))⟩
      · go_wp2_with fail
        refine bodyPost_ret (v := .agg #[.bool false, .int .i64 cn, .int .i64 cd]) ?_ ?_ ?_
        · simp [results, Tryz.results99, go_sem, a0, a1, a2, c0, c1, c2, r0, r1, r2]
        · rfl
        exact ⟨by rw [HU.out]; rfl, (by (repeat (any_goals (first | exact Below.refl _ _ | exact HB1.out | refine below_drewN ?_ _ | refine Below.drew ?_ | refine Below.alloc ?_ ?_ _ | refine Below.setCell ?_ ?_ _ | refine Below.trans ?_ (Below.mono HB1.out ?_)))); all_goals (first | omega | (simp; done) | (simp; omega) | ((try have z0 := HB1.out.size); (try simp at z0); (try simp); omega)))⟩
    · go_wp2_with fail
      refine bodyPost_ret (v := .agg #[.bool true, .int .i64 an, .int .i64 ad]) ?_ ?_ ?_
      · simp [results, Tryz.results99, go_sem, a0, a1, a2, c0, c1, c2, r0, r1, r2]
      · rfl
      exact ⟨by rw [HU.out]; rfl, (by (repeat (any_goals (first | exact Below.refl _ _ | exact HB.out | refine below_drewN ?_ _ | refine Below.drew ?_ | refine Below.alloc ?_ ?_ _ | refine Below.setCell ?_ ?_ _ | refine Below.trans ?_ (Below.mono HB.out ?_)))); all_goals (first | omega | (simp; done) | (simp; omega) | ((try have z0 := HB.out.size); (try simp at z0); (try simp); omega)))⟩
  · go_wp2_with fail
    refine bodyPost_ret (v := .agg #[.bool true, .int .i64 cn, .int .i64 cd]) ?_ ?_ ?_
    · simp [results, Tryz.results99, go_sem, a0, a1, a2, c0, c1, c2, r0, r1, r2]
    · rfl
    exact ⟨by rw [HU.out]; rfl, (by (repeat (any_goals (first | exact Below.refl _ _ | exact HB.out | refine below_drewN ?_ _ | refine Below.drew ?_ | refine Below.alloc ?_ ?_ _ | refine Below.setCell ?_ ?_ _ | refine Below.trans ?_ (Below.mono HB.out ?_)))); all_goals (first | omega | (simp; done) | (simp; omega) | ((try have z0 := HB.out.size); (try simp at z0); (try simp); omega)))⟩
end Go.Proofs.YtjcdkbalhleeeaaGreatDoor

namespace Go.Proofs.YtjcdkbalhleeeaaGreatDoor
open Go.RowKit

def noDefer (o : Oper) : Bool := match o.op with | .defer _ => false | _ => true
theorem noDefer_spec {o : Oper} (h : noDefer o = true) : ∀ c, o.op ≠ .defer c := by
  intro c e
  unfold noDefer at h
  rw [e] at h
  cases h
theorem rows_round {P : Program} {row : String} {args : Array Value} {w : World} {R : Value → World → Prop} (l : Nat) (h : Rows P row args w R) : RowsIn (Fence.wide.inRound l) 0 P row args w R := by
  have h' : RowsIn Fence.wide 0 P row args w R := fun c cs _ => let ⟨v, w', r, s⟩ := h c cs; ⟨v, w', r, stepsIn_wide.2 s⟩
  exact h'
theorem op_round {P : Program} {o : Oper} {a : Act} {w : World} {K : Act → World → Prop} {Q : Exit → Act → World → Prop} (l : Nat) (hd : noDefer o = true) (h : o.wp P a w K Q) : o.wpIn (Fence.wide.inRound l) 0 P a w K Q := by
  refine ⟨fun _ _ => trivial, ?_⟩
  rw [show (Fence.wide.inRound l).round = some l from rfl, Oper.semAt_eq _ _ _ (noDefer_spec hd)]
  unfold Oper.wp at h
  generalize (execOp a.eval o).run P w = r at *
  cases r with
  | ok x w' =>
    cases x with
    | value u => exact h
    | skip => exact h
    | defer d => exact h
    | enter f args => exact ⟨fun q => (by cases q), CallsIn.inRound l (callsIn_wide.2 h)⟩
    | row r args => exact ⟨fun q => (by cases q), rows_round l h⟩
    | _ => exact (h : False).elim
  | halt x w' => cases x <;> exact h
section
variable {P : Program} {ops : Array Oper} {md : Region.Mode} {Q : Exit → Act → World → Prop}
theorem any_round (l : Nat) (hd : ops.all noDefer = true) (hlo : ∀ a w, ¬ Q .outgrown a w) : ∀ (f : Nat) (ls : Array Bool) (a : Act) (w : World), wpAny P md ops Q f ls a w → wpAnyIn (Fence.wide.inRound l) 0 P md ops Q f ls a w
  | 0, _, _, _, h => h
  | f + 1, ls, a, w, h => ⟨h.1, fun i hi => by
    have hq := h.2 i hi
    unfold wpOp at hq
    unfold wpOpIn
    cases ho : ops[i]? with
    | none => rw [ho] at hq; exact any_round l hd hlo f _ a w hq
    | some o =>
      rw [ho] at hq
      have hdo : noDefer o = true := Array.all_eq_true_iff_forall_mem.1 hd o (Array.mem_of_getElem? ho)
      dsimp only at hq ⊢
      by_cases hw : Region.wanted o (yielded ops a.tmps) = true
      · rw [if_pos hw] at hq ⊢
        rcases hq with hq | ⟨_, a', w', hq⟩
        · exact op_round l hdo (Oper.wp_mono (fun a w k => any_round l hd hlo f _ a w k) hq)
        · exact absurd hq (hlo a' w')
      · rw [if_neg hw] at hq ⊢
        exact ⟨fun _ _ => trivial, any_round l hd hlo f _ _ w hq⟩⟩
end
/-- One whose last operations store or call. -/
theorem wk_tailR {P : Program} {id l : Nat} {Q : Exit → Act → World → Prop} {a : Act} {W : World} {os : List Oper} (n : Nat) (hm : P.follows .mixedOrders = true) (hB : Region.lexTailB .any os.toArray n = true) (hd : os.toArray.all noDefer = true) (hlo : ∀ a w, ¬ Q .outgrown a w)
    (h : wpQuiet P os.toArray (fun w' => ∃ u : Wk W, w' = u.1) (fun a' => ∀ w', (∃ u : Wk W, w' = u.1) → wpList P os.toArray Q (os.drop n) a' w') (os.take n) a) : (Code.region id os.toArray true).wpIn (Fence.wide.inRound l) 0 P Q a W := by
  have hC : ∃ u : Wk W, W.drew = u.1 := ⟨⟨W.drew, (Below.refl _ _).drew⟩, rfl⟩
  simp only [Region.lexTailB, Bool.and_eq_true, decide_eq_true_eq] at hB
  obtain ⟨⟨⟨⟨hsel, hn⟩, hs⟩, hc⟩, hlex⟩ := hB
  have hn' : n < os.length := by simpa using hn
  have ht : (os.take n).length = n := by rw [List.length_take]; omega
  have hdd : (os.drop n).length = os.toArray.size - n := by simp
  have inv0 : HeadInv .any os.toArray n (Array.replicate os.toArray.size false) :=
    ⟨by simp, fun j oj _ hl => (by rw [getD_replicate_false] at hl; cases hl), fun t _ ht => getD_in (by simpa using ht) (getD_replicate_false _ _)⟩
  have H := hq_lex (md := .any) (k := os.toArray.size - n) hsel hs hc hn (os.take n) 0 _ a (fun j hj => by rw [ht] at hj; simp [hj]) (by omega) inv0 (by rw [ht]; exact hlex) h
  refine wpIn_region_any hm (any_round l hd hlo _ _ _ _ ?_)
  have := hq_any (Q := Q) (k := os.toArray.size - n) (fun ls a' w' hw' hL => by
    have := wpAny_of_seq (md := .any) (Q' := Q) (os.drop n) n ls a' w' (fun j => by simp [List.getElem?_drop]) (by rw [hdd]; exact hL.1) (hL.2 w' hw')
    rwa [hdd] at this) _ _ _ _ hC H
  rw [ht, show n + (os.toArray.size - n) = os.toArray.size by omega] at this
  exact this
end Go.Proofs.YtjcdkbalhleeeaaGreatDoor
