/-
  Walk: span.Costs computes what the plain words say.
-/
import Derived.Test.YtjcdkbalhleeeaaSpan2
import Derived.Test.YtjcdkbalhleeeaaLook2
import Derived.Test.YtjcdkbalhleeeaaSame3
import Derived.Test.YtjcdkbalhleeeaaSpanT
import Derived.Deep.DeepCutAuto
namespace Go.Proofs.Ytjcdkbalhleeeaa
open Go.RowKit

/-- What narrows, of costs. -/
def costsN (p : PG) (l : List Int) (b : List Int) : NW := ofZ (fN 1 (lookC p l).gs (lookC (costsOf p b) l).gd) (fN 1 (lookC (costsOf p b) l).gs (lookC p l).gd) (lookC p l).gs.length
def costsE (p : PG) (l : List Int) (b : List Int) : Int := if lookE p l ≠ 0 then lookE p l else if manyB b p.costs.length 400 = false then 1 else endsE (costsN p l b)
def costsF (p : PG) (l : List Int) (b : List Int) : EN := if lookE p l ≠ 0 then zeroE else if manyB b p.costs.length 400 = false then zeroE else endsF (costsN p l b)
def costsT (p : PG) (l : List Int) (b : List Int) : EN := if lookE p l ≠ 0 then zeroE else if manyB b p.costs.length 400 = false then zeroE else endsT (costsN p l b)
theorem manyB_iff {l : List Int} {n : Nat} {m : Int} : manyB l n m = true ↔ smallB m l = true ∧ l.length = n := by unfold manyB; simp only [Bool.and_eq_true, decide_eq_true_eq]

set_option maxRecDepth 100000 in
set_option maxHeartbeats 2000000 in
theorem span_Costs (A : Option Addr) (c : Nat) (A2 : Option Addr) (c2 : Nat) (p : PG) (L : Option Addr) (l : List Int) (cl : Nat) (B : Option Addr) (b : List Int) (cb : Nat) (w : World) (hp : Pg w A c A2 c2 p) (hr : Rd w L cl l) (hb : Rd w B cb b) :
    Calls Try.prog 35 #[.agg #[.slice A p.costs.length c, .slice A2 p.rows.length c2], .slice L l.length cl, .slice B b.length cb] w (RetEn w (costsF p l b) (costsT p l b) (costsE p l b)) := by
  by_cases h0 : lookE p l = 0
  · by_cases hm : manyB b p.costs.length 400 = true
    · rw [show costsE p l b = endsE (costsN p l b) by unfold costsE; rw [if_neg (by simp [h0]), if_neg (by simp [hm])], show costsF p l b = endsF (costsN p l b) by unfold costsF; rw [if_neg (by simp [h0]), if_neg (by simp [hm])],
        show costsT p l b = endsT (costsN p l b) by unfold costsT; rw [if_neg (by simp [h0]), if_neg (by simp [hm])]]
      obtain ⟨hms, hml⟩ := manyB_iff.1 hm
      have hE := h0
      have hE2 := costs_E hml hms h0
      obtain ⟨_, _, _, hco⟩ := look_corn h0
      obtain ⟨_, _, _, hcd⟩ := look_corn hE2
      obtain ⟨cc, hC⟩ : ∃ cc, lookC p l = cc := ⟨_, rfl⟩
      obtain ⟨dd, hC2⟩ : ∃ dd, lookC (costsOf p b) l = dd := ⟨_, rfl⟩
      rw [hC] at hco
      rw [hC2] at hcd
      rw [show costsN p l b = ofZ (fN 1 cc.gs dd.gd) (fN 1 dd.gs cc.gd) cc.gs.length by unfold costsN; rw [hC, hC2]]
      have HMB := Lib.hid hm
      have HE2 := Lib.hid hE2
      have HC2 := Lib.hid hC2
      have hle : cc.gs.length = dd.gs.length := by rw [hco.lg, hcd.lg]; show _ = b.length + p.rows.length; omega
      have HOF := Lib.hid (fun (G : Option Addr) (cg : Nat) (G' : Option Addr) (cg' : Nat) (w : World) (hx : Rd w G cg cc.gs) (hy : Rd w G' cg' dd.gs) =>
        span_of G cc.gs cg cc.gd G' dd.gs cg' dd.gd 1 w hx hy hle (mayB_parts hco.mg).2.2.1 (mayB_parts hcd.mg).2.2.1 ⟨(mayB_parts hco.mg).1, (mayB_parts hco.mg).2.1⟩ ⟨(mayB_parts hcd.mg).1, (mayB_parts hcd.mg).2.1⟩ (.inl rfl))
      clear h0 hm hE2 hC2 hco hcd hms hml hle
      have HP := Lib.hid hp
      have HL := Lib.hid hr
      have HD := Lib.hid hb
      obtain ⟨⟨hl, hc, hsm, _⟩, ⟨hl2, hc2, hsm2, _⟩⟩ := hp
      obtain ⟨hll, hlc, hls, _⟩ := hr
      obtain ⟨hbl, hbc, hbs, _⟩ := hb
      go_enter Try.func35, Try.ntmps35
      go_wp2_with fail
      have BP := Lib.hid (show Blk (((w.alloc (.cells #[.slice A p.costs.length c, .slice A2 p.rows.length c2] 40)).alloc (.cells #[.bool false, .int .i64 0, .int .i64 0] 64)).alloc (.cells #[.bool false, .int .i64 0, .int .i64 0] 64)) w.heap.size 40 #[.slice A p.costs.length c, .slice A2 p.rows.length c2] from ((Blk.mk' _ _ _).alloc _).alloc _)
      have BR := Lib.hid (show Blk (((w.alloc (.cells #[.slice A p.costs.length c, .slice A2 p.rows.length c2] 40)).alloc (.cells #[.bool false, .int .i64 0, .int .i64 0] 64)).alloc (.cells #[.bool false, .int .i64 0, .int .i64 0] 64)) (w.heap.size + 1) 64 #[.bool false, .int .i64 0, .int .i64 0] from (Blk.new _ _ _ _ (by simp)).alloc _)
      have BQ := Lib.hid (show Blk (((w.alloc (.cells #[.slice A p.costs.length c, .slice A2 p.rows.length c2] 40)).alloc (.cells #[.bool false, .int .i64 0, .int .i64 0] 64)).alloc (.cells #[.bool false, .int .i64 0, .int .i64 0] 64)) (w.heap.size + 1 + 1) 64 #[.bool false, .int .i64 0, .int .i64 0] from Blk.new _ _ _ _ (by simp))
      have HVW := Lib.hid ((by (repeat (any_goals (first | exact Below.refl _ _ | refine below_drewN ?_ _ | refine Below.drew ?_ | refine Below.alloc ?_ ?_ _ | refine Below.setCell ?_ ?_ _))); all_goals (first | omega | (simp; done) | (simp; omega))) : Below w.heap.size w (((w.alloc (.cells #[.slice A p.costs.length c, .slice A2 p.rows.length c2] 40)).alloc (.cells #[.bool false, .int .i64 0, .int .i64 0] 64)).alloc (.cells #[.bool false, .int .i64 0, .int .i64 0] 64)))
      generalize (((w.alloc (.cells #[.slice A p.costs.length c, .slice A2 p.rows.length c2] 40)).alloc (.cells #[.bool false, .int .i64 0, .int .i64 0] 64)).alloc (.cells #[.bool false, .int .i64 0, .int .i64 0] 64)) = V at *
      have zV := HVW.out.size
      have zQ := BQ.out.lt
      refine (corner_Look _ _ _ _ _ _ _ _ _ (HP.out.below HVW.out) (HL.out.below HVW.out)).mono ?_
      rw [hE, hC]
      rintro e w1 ⟨X, cx, Y, cy, G, cg, rfl, hX, hY, hG, hb1⟩
      have HCn := Lib.hid (Cn.mk hX hY hG)
      have H1 := Lib.hid hb1
      have z01 := hb1.size
      have lq0 : w.heap.size < w1.heap.size := by omega
      have lq1 : w.heap.size + 1 < w1.heap.size := by omega
      have lq2 : w.heap.size + 1 + 1 < w1.heap.size := by omega
      clear hX hY hG hb1
      go_upto_region 2 with fail
      have BC := Lib.hid (Blk.mk' w1 47 #[.slice X cc.xs.length cx, .int .i64 cc.xd, .slice Y cc.ys.length cy, .int .i64 cc.yd, .slice G cc.gs.length cg, .int .i64 cc.gd])
      have HWL := (Below.refl w1.heap.size w1).alloc (Nat.le_refl _) (.cells #[.slice X cc.xs.length cx, .int .i64 cc.xd, .slice Y cc.ys.length cy, .int .i64 cc.yd, .slice G cc.gs.length cg, .int .i64 cc.gd] 47)
      have HV2 := Lib.hid (H1.out.trans (HWL.mono z01))
      have HCW := Lib.hid (HCn.out.below HWL)
      have HBW := Lib.hid (HVW.out.trans (HV2.out.mono zV))
      clear HWL
      generalize (w1.alloc (.cells #[.slice X cc.xs.length cx, .int .i64 cc.xd, .slice Y cc.ys.length cy, .int .i64 cc.yd, .slice G cc.gs.length cg, .int .i64 cc.gd] 47)) = W at *
      have z0 : (W).cell? ⟨w.heap.size + 1, 0, none⟩ = some (.bool false) := (BR.out.next HV2.out).cell 0
      have z1 : (W).cell? ⟨w.heap.size + 1, 1, none⟩ = some (.int .i64 0) := (BR.out.next HV2.out).cell 1
      have z2 : (W).cell? ⟨w.heap.size + 1, 2, none⟩ = some (.int .i64 0) := (BR.out.next HV2.out).cell 2
      have z3 : (W).cell? ⟨w.heap.size + 1 + 1, 0, none⟩ = some (.bool false) := (BQ.out.next HV2.out).cell 0
      have z4 : (W).cell? ⟨w.heap.size + 1 + 1, 1, none⟩ = some (.int .i64 0) := (BQ.out.next HV2.out).cell 1
      have z5 : (W).cell? ⟨w.heap.size + 1 + 1, 2, none⟩ = some (.int .i64 0) := (BQ.out.next HV2.out).cell 2
      have y0 := (BR.out.next HV2.out).frozen 0
      have y1 := (BR.out.next HV2.out).frozen 1
      have y2 := (BR.out.next HV2.out).frozen 2
      have y3 := (BQ.out.next HV2.out).frozen 0
      have y4 := (BQ.out.next HV2.out).frozen 1
      have y5 := (BQ.out.next HV2.out).frozen 2
      have p0 : W.cell? ⟨w.heap.size, 0, none⟩ = some (.slice A p.costs.length c) := (BP.out.next HV2.out).cell 0
      have p1 : W.cell? ⟨w.heap.size, 1, none⟩ = some (.slice A2 p.rows.length c2) := (BP.out.next HV2.out).cell 1
      go_wp2_with fail
      refine (span_small _ _ _ _ _ _ (by omega) (by omega) (HD.out.below HBW.out)).mono ?_
      rw [HMB.out]
      rintro e w2 ⟨rfl, rfl⟩
      rename World => W
      go_wp2_with fail
      clear p0 p1 z0 z1 z2 z3 z4 z5 y0 y1 y2 y3 y4 y5
      refine (corner_Look _ _ _ _ (costsOf p b) _ _ _ _ ⟨HD.out.below HBW.out, (HP.out.below HBW.out).rows⟩ (HL.out.below HBW.out)).mono ?_
      rw [HE2.out, HC2.out]
      rintro e w3 ⟨X', cx', Y', cy', G', cg', rfl, hX', hY', hG', hb3⟩
      have HG' := Lib.hid hG'
      have H3 := Lib.hid hb3
      have z03 := hb3.size
      clear hX' hY' hG' hb3
      go_upto_region 7 with fail
      have BD := Lib.hid (Blk.mk' w3 47 #[.slice X' dd.xs.length cx', .int .i64 dd.xd, .slice Y' dd.ys.length cy', .int .i64 dd.yd, .slice G' dd.gs.length cg', .int .i64 dd.gd])
      have HWL := (Below.refl w3.heap.size w3).alloc (Nat.le_refl _) (.cells #[.slice X' dd.xs.length cx', .int .i64 dd.xd, .slice Y' dd.ys.length cy', .int .i64 dd.yd, .slice G' dd.gs.length cg', .int .i64 dd.gd] 47)
      have HV3 := Lib.hid (H3.out.trans (HWL.mono z03))
      have HGW := Lib.hid (HG'.out.below HWL)
      clear HWL
      generalize (w3.alloc (.cells #[.slice X' dd.xs.length cx', .int .i64 dd.xd, .slice Y' dd.ys.length cy', .int .i64 dd.yd, .slice G' dd.gs.length cg', .int .i64 dd.gd] 47)) = W3 at *
      have v4 : W3.cell? ⟨w1.heap.size, 4, none⟩ = some (.slice G cc.gs.length cg) := (BC.out.next HV3.out).cell 4
      have v5 : W3.cell? ⟨w1.heap.size, 5, none⟩ = some (.int .i64 cc.gd) := (BC.out.next HV3.out).cell 5
      have u4 : W3.cell? ⟨w3.heap.size, 4, none⟩ = some (.slice G' dd.gs.length cg') := BD.out.cell 4
      have u5 : W3.cell? ⟨w3.heap.size, 5, none⟩ = some (.int .i64 dd.gd) := BD.out.cell 5
      go_wp2_with fail
      refine (HOF.out _ _ _ _ _ (HCW.out.g.below HV3.out) HGW.out).mono ?_
      rintro e w4 ⟨rfl, hb4⟩
      have HB4 := Lib.hid (HV2.out.trans ((HV3.out.trans (hb4.mono HV3.out.size)).mono HV2.out.size))
      have HBW := Lib.hid (HVW.out.trans (HB4.out.mono zV))
      have z0 : (w4).cell? ⟨w.heap.size + 1, 0, none⟩ = some (.bool false) := (BR.out.next HB4.out).cell 0
      have z1 : (w4).cell? ⟨w.heap.size + 1, 1, none⟩ = some (.int .i64 0) := (BR.out.next HB4.out).cell 1
      have z2 : (w4).cell? ⟨w.heap.size + 1, 2, none⟩ = some (.int .i64 0) := (BR.out.next HB4.out).cell 2
      have z3 : (w4).cell? ⟨w.heap.size + 1 + 1, 0, none⟩ = some (.bool false) := (BQ.out.next HB4.out).cell 0
      have z4 : (w4).cell? ⟨w.heap.size + 1 + 1, 1, none⟩ = some (.int .i64 0) := (BQ.out.next HB4.out).cell 1
      have z5 : (w4).cell? ⟨w.heap.size + 1 + 1, 2, none⟩ = some (.int .i64 0) := (BQ.out.next HB4.out).cell 2
      have y0 := (BR.out.next HB4.out).frozen 0
      have y1 := (BR.out.next HB4.out).frozen 1
      have y2 := (BR.out.next HB4.out).frozen 2
      have y3 := (BQ.out.next HB4.out).frozen 0
      have y4 := (BQ.out.next HB4.out).frozen 1
      have y5 := (BQ.out.next HB4.out).frozen 2
      clear hb4 v4 v5 u4 u5
      generalize endsF (ofZ (fN 1 cc.gs dd.gd) (fN 1 dd.gs cc.gd) cc.gs.length) = ef at *
      generalize endsT (ofZ (fN 1 cc.gs dd.gd) (fN 1 dd.gs cc.gd) cc.gs.length) = et at *
      generalize endsE (ofZ (fN 1 cc.gs dd.gd) (fN 1 dd.gs cc.gd) cc.gs.length) = ee at *
      go_wp2_with fail
      refine bodyPost_ret (v := .tuple #[.agg #[.bool ef.op, .int .i64 ef.n, .int .i64 ef.d], .agg #[.bool et.op, .int .i64 et.n, .int .i64 et.d], .int .i64 ee]) ?_ ?_ ?_
      · simp [results, Try.results35, go_sem, z0, z1, z2, z3, z4, z5]
      · rfl
      · refine ⟨rfl, ?_⟩
        iterate 6 refine Below.setCell ?_ (by first | (simp; done) | (simp; omega)) _
        exact HBW.out
    · have hm : manyB b p.costs.length 400 = false := by simpa using hm
      rw [show costsE p l b = 1 by unfold costsE; rw [if_neg (by simp [h0]), if_pos hm], show costsF p l b = zeroE by unfold costsF; rw [if_neg (by simp [h0]), if_pos hm], show costsT p l b = zeroE by unfold costsT; rw [if_neg (by simp [h0]), if_pos hm]]
      have hE := h0
      obtain ⟨cc, hC⟩ : ∃ cc, lookC p l = cc := ⟨_, rfl⟩
      have HMB := Lib.hid hm
      clear h0 hm
      have HP := Lib.hid hp
      have HL := Lib.hid hr
      have HD := Lib.hid hb
      obtain ⟨⟨hl, hc, hsm, _⟩, ⟨hl2, hc2, hsm2, _⟩⟩ := hp
      obtain ⟨hll, hlc, hls, _⟩ := hr
      obtain ⟨hbl, hbc, hbs, _⟩ := hb
      go_enter Try.func35, Try.ntmps35
      go_wp2_with fail
      have BP := Lib.hid (show Blk (((w.alloc (.cells #[.slice A p.costs.length c, .slice A2 p.rows.length c2] 40)).alloc (.cells #[.bool false, .int .i64 0, .int .i64 0] 64)).alloc (.cells #[.bool false, .int .i64 0, .int .i64 0] 64)) w.heap.size 40 #[.slice A p.costs.length c, .slice A2 p.rows.length c2] from ((Blk.mk' _ _ _).alloc _).alloc _)
      have BR := Lib.hid (show Blk (((w.alloc (.cells #[.slice A p.costs.length c, .slice A2 p.rows.length c2] 40)).alloc (.cells #[.bool false, .int .i64 0, .int .i64 0] 64)).alloc (.cells #[.bool false, .int .i64 0, .int .i64 0] 64)) (w.heap.size + 1) 64 #[.bool false, .int .i64 0, .int .i64 0] from (Blk.new _ _ _ _ (by simp)).alloc _)
      have BQ := Lib.hid (show Blk (((w.alloc (.cells #[.slice A p.costs.length c, .slice A2 p.rows.length c2] 40)).alloc (.cells #[.bool false, .int .i64 0, .int .i64 0] 64)).alloc (.cells #[.bool false, .int .i64 0, .int .i64 0] 64)) (w.heap.size + 1 + 1) 64 #[.bool false, .int .i64 0, .int .i64 0] from Blk.new _ _ _ _ (by simp))
      have HVW := Lib.hid ((by (repeat (any_goals (first | exact Below.refl _ _ | refine below_drewN ?_ _ | refine Below.drew ?_ | refine Below.alloc ?_ ?_ _ | refine Below.setCell ?_ ?_ _))); all_goals (first | omega | (simp; done) | (simp; omega))) : Below w.heap.size w (((w.alloc (.cells #[.slice A p.costs.length c, .slice A2 p.rows.length c2] 40)).alloc (.cells #[.bool false, .int .i64 0, .int .i64 0] 64)).alloc (.cells #[.bool false, .int .i64 0, .int .i64 0] 64)))
      generalize (((w.alloc (.cells #[.slice A p.costs.length c, .slice A2 p.rows.length c2] 40)).alloc (.cells #[.bool false, .int .i64 0, .int .i64 0] 64)).alloc (.cells #[.bool false, .int .i64 0, .int .i64 0] 64)) = V at *
      have zV := HVW.out.size
      have zQ := BQ.out.lt
      refine (corner_Look _ _ _ _ _ _ _ _ _ (HP.out.below HVW.out) (HL.out.below HVW.out)).mono ?_
      rw [hE, hC]
      rintro e w1 ⟨X, cx, Y, cy, G, cg, rfl, hX, hY, hG, hb1⟩
      have HCn := Lib.hid (Cn.mk hX hY hG)
      have H1 := Lib.hid hb1
      have z01 := hb1.size
      have lq0 : w.heap.size < w1.heap.size := by omega
      have lq1 : w.heap.size + 1 < w1.heap.size := by omega
      have lq2 : w.heap.size + 1 + 1 < w1.heap.size := by omega
      clear hX hY hG hb1
      go_upto_region 2 with fail
      have BC := Lib.hid (Blk.mk' w1 47 #[.slice X cc.xs.length cx, .int .i64 cc.xd, .slice Y cc.ys.length cy, .int .i64 cc.yd, .slice G cc.gs.length cg, .int .i64 cc.gd])
      have HWL := (Below.refl w1.heap.size w1).alloc (Nat.le_refl _) (.cells #[.slice X cc.xs.length cx, .int .i64 cc.xd, .slice Y cc.ys.length cy, .int .i64 cc.yd, .slice G cc.gs.length cg, .int .i64 cc.gd] 47)
      have HV2 := Lib.hid (H1.out.trans (HWL.mono z01))
      have HCW := Lib.hid (HCn.out.below HWL)
      have HBW := Lib.hid (HVW.out.trans (HV2.out.mono zV))
      clear HWL
      generalize (w1.alloc (.cells #[.slice X cc.xs.length cx, .int .i64 cc.xd, .slice Y cc.ys.length cy, .int .i64 cc.yd, .slice G cc.gs.length cg, .int .i64 cc.gd] 47)) = W at *
      have z0 : (W).cell? ⟨w.heap.size + 1, 0, none⟩ = some (.bool false) := (BR.out.next HV2.out).cell 0
      have z1 : (W).cell? ⟨w.heap.size + 1, 1, none⟩ = some (.int .i64 0) := (BR.out.next HV2.out).cell 1
      have z2 : (W).cell? ⟨w.heap.size + 1, 2, none⟩ = some (.int .i64 0) := (BR.out.next HV2.out).cell 2
      have z3 : (W).cell? ⟨w.heap.size + 1 + 1, 0, none⟩ = some (.bool false) := (BQ.out.next HV2.out).cell 0
      have z4 : (W).cell? ⟨w.heap.size + 1 + 1, 1, none⟩ = some (.int .i64 0) := (BQ.out.next HV2.out).cell 1
      have z5 : (W).cell? ⟨w.heap.size + 1 + 1, 2, none⟩ = some (.int .i64 0) := (BQ.out.next HV2.out).cell 2
      have y0 := (BR.out.next HV2.out).frozen 0
      have y1 := (BR.out.next HV2.out).frozen 1
      have y2 := (BR.out.next HV2.out).frozen 2
      have y3 := (BQ.out.next HV2.out).frozen 0
      have y4 := (BQ.out.next HV2.out).frozen 1
      have y5 := (BQ.out.next HV2.out).frozen 2
      have p0 : W.cell? ⟨w.heap.size, 0, none⟩ = some (.slice A p.costs.length c) := (BP.out.next HV2.out).cell 0
      go_wp2_with fail
      refine (span_small _ _ _ _ _ _ (by omega) (by omega) (HD.out.below HBW.out)).mono ?_
      rw [HMB.out]
      rintro e w2 ⟨rfl, rfl⟩
      go_wp2_with fail
      refine bodyPost_ret (v := .tuple #[.agg #[.bool false, .int .i64 0, .int .i64 0], .agg #[.bool false, .int .i64 0, .int .i64 0], .int .i64 1]) ?_ ?_ ?_
      · simp [results, Try.results35, go_sem, z0, z1, z2, z3, z4, z5]
      · rfl
      · refine ⟨rfl, ?_⟩
        iterate 6 refine Below.setCell ?_ (by first | (simp; done) | (simp; omega)) _
        exact HBW.out
  · have hne : (lookE p l != 0) = true := by simpa using h0
    rw [show costsE p l b = lookE p l by unfold costsE; rw [if_pos h0], show costsF p l b = zeroE by unfold costsF; rw [if_pos h0], show costsT p l b = zeroE by unfold costsT; rw [if_pos h0]]
    obtain ⟨cc, hC⟩ : ∃ cc, lookC p l = cc := ⟨_, rfl⟩
    obtain ⟨ee, hE⟩ : ∃ ee, lookE p l = ee := ⟨_, rfl⟩
    rw [hE] at hne ⊢
    clear h0
    have HP := Lib.hid hp
    have HL := Lib.hid hr
    have HD := Lib.hid hb
    obtain ⟨⟨hl, hc, hsm, _⟩, ⟨hl2, hc2, hsm2, _⟩⟩ := hp
    obtain ⟨hll, hlc, hls, _⟩ := hr
    obtain ⟨hbl, hbc, hbs, _⟩ := hb
    go_enter Try.func35, Try.ntmps35
    go_wp2_with fail
    have BP := Lib.hid (show Blk (((w.alloc (.cells #[.slice A p.costs.length c, .slice A2 p.rows.length c2] 40)).alloc (.cells #[.bool false, .int .i64 0, .int .i64 0] 64)).alloc (.cells #[.bool false, .int .i64 0, .int .i64 0] 64)) w.heap.size 40 #[.slice A p.costs.length c, .slice A2 p.rows.length c2] from ((Blk.mk' _ _ _).alloc _).alloc _)
    have BR := Lib.hid (show Blk (((w.alloc (.cells #[.slice A p.costs.length c, .slice A2 p.rows.length c2] 40)).alloc (.cells #[.bool false, .int .i64 0, .int .i64 0] 64)).alloc (.cells #[.bool false, .int .i64 0, .int .i64 0] 64)) (w.heap.size + 1) 64 #[.bool false, .int .i64 0, .int .i64 0] from (Blk.new _ _ _ _ (by simp)).alloc _)
    have BQ := Lib.hid (show Blk (((w.alloc (.cells #[.slice A p.costs.length c, .slice A2 p.rows.length c2] 40)).alloc (.cells #[.bool false, .int .i64 0, .int .i64 0] 64)).alloc (.cells #[.bool false, .int .i64 0, .int .i64 0] 64)) (w.heap.size + 1 + 1) 64 #[.bool false, .int .i64 0, .int .i64 0] from Blk.new _ _ _ _ (by simp))
    have HVW := Lib.hid ((by (repeat (any_goals (first | exact Below.refl _ _ | refine below_drewN ?_ _ | refine Below.drew ?_ | refine Below.alloc ?_ ?_ _ | refine Below.setCell ?_ ?_ _))); all_goals (first | omega | (simp; done) | (simp; omega))) : Below w.heap.size w (((w.alloc (.cells #[.slice A p.costs.length c, .slice A2 p.rows.length c2] 40)).alloc (.cells #[.bool false, .int .i64 0, .int .i64 0] 64)).alloc (.cells #[.bool false, .int .i64 0, .int .i64 0] 64)))
    generalize (((w.alloc (.cells #[.slice A p.costs.length c, .slice A2 p.rows.length c2] 40)).alloc (.cells #[.bool false, .int .i64 0, .int .i64 0] 64)).alloc (.cells #[.bool false, .int .i64 0, .int .i64 0] 64)) = V at *
    have zV := HVW.out.size
    have zQ := BQ.out.lt
    refine (corner_Look _ _ _ _ _ _ _ _ _ (HP.out.below HVW.out) (HL.out.below HVW.out)).mono ?_
    rw [hE, hC]
    rintro e w1 ⟨X, cx, Y, cy, G, cg, rfl, hX, hY, hG, hb1⟩
    have HCn := Lib.hid (Cn.mk hX hY hG)
    have H1 := Lib.hid hb1
    have z01 := hb1.size
    have lq0 : w.heap.size < w1.heap.size := by omega
    have lq1 : w.heap.size + 1 < w1.heap.size := by omega
    have lq2 : w.heap.size + 1 + 1 < w1.heap.size := by omega
    clear hX hY hG hb1
    go_upto_region 2 with fail
    have BC := Lib.hid (Blk.mk' w1 47 #[.slice X cc.xs.length cx, .int .i64 cc.xd, .slice Y cc.ys.length cy, .int .i64 cc.yd, .slice G cc.gs.length cg, .int .i64 cc.gd])
    have HWL := (Below.refl w1.heap.size w1).alloc (Nat.le_refl _) (.cells #[.slice X cc.xs.length cx, .int .i64 cc.xd, .slice Y cc.ys.length cy, .int .i64 cc.yd, .slice G cc.gs.length cg, .int .i64 cc.gd] 47)
    have HV2 := Lib.hid (H1.out.trans (HWL.mono z01))
    have HCW := Lib.hid (HCn.out.below HWL)
    have HBW := Lib.hid (HVW.out.trans (HV2.out.mono zV))
    clear HWL
    generalize (w1.alloc (.cells #[.slice X cc.xs.length cx, .int .i64 cc.xd, .slice Y cc.ys.length cy, .int .i64 cc.yd, .slice G cc.gs.length cg, .int .i64 cc.gd] 47)) = W at *
    have z0 : (W).cell? ⟨w.heap.size + 1, 0, none⟩ = some (.bool false) := (BR.out.next HV2.out).cell 0
    have z1 : (W).cell? ⟨w.heap.size + 1, 1, none⟩ = some (.int .i64 0) := (BR.out.next HV2.out).cell 1
    have z2 : (W).cell? ⟨w.heap.size + 1, 2, none⟩ = some (.int .i64 0) := (BR.out.next HV2.out).cell 2
    have z3 : (W).cell? ⟨w.heap.size + 1 + 1, 0, none⟩ = some (.bool false) := (BQ.out.next HV2.out).cell 0
    have z4 : (W).cell? ⟨w.heap.size + 1 + 1, 1, none⟩ = some (.int .i64 0) := (BQ.out.next HV2.out).cell 1
    have z5 : (W).cell? ⟨w.heap.size + 1 + 1, 2, none⟩ = some (.int .i64 0) := (BQ.out.next HV2.out).cell 2
    have y0 := (BR.out.next HV2.out).frozen 0
    have y1 := (BR.out.next HV2.out).frozen 1
    have y2 := (BR.out.next HV2.out).frozen 2
    have y3 := (BQ.out.next HV2.out).frozen 0
    have y4 := (BQ.out.next HV2.out).frozen 1
    have y5 := (BQ.out.next HV2.out).frozen 2
    go_wp2_with fail
    refine bodyPost_ret (v := .tuple #[.agg #[.bool false, .int .i64 0, .int .i64 0], .agg #[.bool false, .int .i64 0, .int .i64 0], .int .i64 ee]) ?_ ?_ ?_
    · simp [results, Try.results35, go_sem, z0, z1, z2, z3, z4, z5]
    · rfl
    · refine ⟨rfl, ?_⟩
      iterate 6 refine Below.setCell ?_ (by first | (simp; done) | (simp; omega)) _
      exact HBW.out
end Go.Proofs.Ytjcdkbalhleeeaa
