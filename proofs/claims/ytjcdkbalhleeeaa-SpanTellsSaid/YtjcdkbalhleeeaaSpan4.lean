/-
  Walk: span.Mosts computes what the plain words say.
-/
import Derived.Test.YtjcdkbalhleeeaaSpan3
import Derived.Test.YtjcdkbalhleeeaaRowA
namespace Go.Proofs.Ytjcdkbalhleeeaa
open Go.RowKit

/-- What narrows, of mosts. -/
def mostsN (p : PG) (l : List Int) (b : List Int) : NW := ofZ (fN (-1) (lookC p l).xs (lookC (mostsOf p b) l).xd) (fN (-1) (lookC (mostsOf p b) l).xs (lookC p l).xd) (lookC p l).xs.length
def mostsE (p : PG) (l : List Int) (b : List Int) : Int := if lookE p l ≠ 0 then lookE p l else if manyB b p.rows.length 12 = false then 1 else endsE (mostsN p l b)
def mostsF (p : PG) (l : List Int) (b : List Int) : EN := if lookE p l ≠ 0 then zeroE else if manyB b p.rows.length 12 = false then zeroE else endsF (mostsN p l b)
def mostsT (p : PG) (l : List Int) (b : List Int) : EN := if lookE p l ≠ 0 then zeroE else if manyB b p.rows.length 12 = false then zeroE else endsT (mostsN p l b)

set_option maxRecDepth 100000 in
set_option maxHeartbeats 2000000 in
theorem span_Mosts (A : Option Addr) (c : Nat) (A2 : Option Addr) (c2 : Nat) (p : PG) (L : Option Addr) (l : List Int) (cl : Nat) (B : Option Addr) (b : List Int) (cb : Nat) (w : World) (hp : Pg w A c A2 c2 p) (hr : Rd w L cl l) (hb : Rd w B cb b) :
    Calls Try.prog 40 #[.agg #[.slice A p.costs.length c, .slice A2 p.rows.length c2], .slice L l.length cl, .slice B b.length cb] w (RetEn w (mostsF p l b) (mostsT p l b) (mostsE p l b)) := by
  by_cases h0 : lookE p l = 0
  · by_cases hm : manyB b p.rows.length 12 = true
    · rw [show mostsE p l b = endsE (mostsN p l b) by unfold mostsE; rw [if_neg (by simp [h0]), if_neg (by simp [hm])], show mostsF p l b = endsF (mostsN p l b) by unfold mostsF; rw [if_neg (by simp [h0]), if_neg (by simp [hm])],
        show mostsT p l b = endsT (mostsN p l b) by unfold mostsT; rw [if_neg (by simp [h0]), if_neg (by simp [hm])]]
      obtain ⟨hms, hml⟩ := manyB_iff.1 hm
      have hE := h0
      have hE2 := mostsOf_E hml hms h0
      obtain ⟨_, _, _, hco⟩ := look_corn h0
      obtain ⟨_, _, _, hcd⟩ := look_corn hE2
      obtain ⟨cc, hC⟩ : ∃ cc, lookC p l = cc := ⟨_, rfl⟩
      obtain ⟨dd, hC2⟩ : ∃ dd, lookC (mostsOf p b) l = dd := ⟨_, rfl⟩
      rw [hC] at hco
      rw [hC2] at hcd
      rw [show mostsN p l b = ofZ (fN (-1) cc.xs dd.xd) (fN (-1) dd.xs cc.xd) cc.xs.length by unfold mostsN; rw [hC, hC2]]
      have HMB := Lib.hid hm
      have HE2 := Lib.hid hE2
      have HC2 := Lib.hid hC2
      have hle : cc.xs.length = dd.xs.length := by rw [hco.lx, hcd.lx, mostsOf_len]; rfl
      have HOF := Lib.hid (fun (G : Option Addr) (cg : Nat) (G' : Option Addr) (cg' : Nat) (w : World) (hx : Rd w G cg cc.xs) (hy : Rd w G' cg' dd.xs) =>
        span_of G cc.xs cg cc.xd G' dd.xs cg' dd.xd (-1) w hx hy hle (mayB_parts hco.mx).2.2.1 (mayB_parts hcd.mx).2.2.1 ⟨(mayB_parts hco.mx).1, (mayB_parts hco.mx).2.1⟩ ⟨(mayB_parts hcd.mx).1, (mayB_parts hcd.mx).2.1⟩ (.inr rfl))
      have h4 := hco.rows4
      have h1 := (mayPB_iff.1 hco.hp).2.2.1
      have HML := Lib.hid hml
      clear h0 hm hE2 hC2 hco hcd hms hml hle
      have HP := Lib.hid hp
      have HL := Lib.hid hr
      have HD := Lib.hid hb
      obtain ⟨⟨hl, hc, hsm, _⟩, ⟨hl2, hc2, hsm2, _⟩⟩ := hp
      obtain ⟨hll, hlc, hls, _⟩ := hr
      obtain ⟨hbl, hbc, hbs, _⟩ := hb
      go_enter Try.func40, Try.ntmps40
      go_wp2_with fail
      have BP := Lib.hid (show Blk (((w.alloc (.cells #[.slice A p.costs.length c, .slice A2 p.rows.length c2] 40)).alloc (.cells #[.bool false, .int .i64 0, .int .i64 0] 64)).alloc (.cells #[.bool false, .int .i64 0, .int .i64 0] 64)) w.heap.size 40 #[.slice A p.costs.length c, .slice A2 p.rows.length c2] from ((Blk.mk' _ _ _).alloc _).alloc _)
      have BR := Lib.hid (show Blk (((w.alloc (.cells #[.slice A p.costs.length c, .slice A2 p.rows.length c2] 40)).alloc (.cells #[.bool false, .int .i64 0, .int .i64 0] 64)).alloc (.cells #[.bool false, .int .i64 0, .int .i64 0] 64)) (w.heap.size + 1) 64 #[.bool false, .int .i64 0, .int .i64 0] from (Blk.new _ _ _ _ (by simp)).alloc _)
      have BQ := Lib.hid (show Blk (((w.alloc (.cells #[.slice A p.costs.length c, .slice A2 p.rows.length c2] 40)).alloc (.cells #[.bool false, .int .i64 0, .int .i64 0] 64)).alloc (.cells #[.bool false, .int .i64 0, .int .i64 0] 64)) (w.heap.size + 1 + 1) 64 #[.bool false, .int .i64 0, .int .i64 0] from Blk.new _ _ _ _ (by simp))
      have HVW := Lib.hid ((by (repeat (any_goals (first | exact Below.refl _ _ | refine below_drewN ?_ _ | refine Below.drew ?_ | refine Below.alloc ?_ ?_ _ | refine Below.setCell ?_ ?_ _))); all_goals (first | omega | (simp; done) | (simp; omega))) : Below w.heap.size w (((w.alloc (.cells #[.slice A p.costs.length c, .slice A2 p.rows.length c2] 40)).alloc (.cells #[.bool false, .int .i64 0, .int .i64 0] 64)).alloc (.cells #[.bool false, .int .i64 0, .int .i64 0] 64)))
      generalize (((w.alloc (.cells #[.slice A p.costs.length c, .slice A2 p.rows.length c2] 40)).alloc (.cells #[.bool false, .int .i64 0, .int .i64 0] 64)).alloc (.cells #[.bool false, .int .i64 0, .int .i64 0] 64)) = V at *
      have zV := HVW.out.size
      have zQ := BQ.out.lt
      refine (corner_Look _ _ _ _ _ _ _ _ _ (HP.out.below HVW.out) (HL.out.below HVW.out)).mono ?_
      rw [hE, hC]
      rintro e w1 ⟨X, cx, Y, cy, G, cg, rfl, hX, hY, hG, hb1⟩
      have HCn := Lib.hid (Cn.mk hX hY hG)
      have H1 := Lib.hid hb1
      have z01 := hb1.size
      have lq0 : w.heap.size < w1.heap.size := by omega
      have lq1 : w.heap.size + 1 < w1.heap.size := by omega
      have lq2 : w.heap.size + 1 + 1 < w1.heap.size := by omega
      clear hX hY hG hb1
      go_upto_region 2 with fail
      have BC := Lib.hid (Blk.mk' w1 47 #[.slice X cc.xs.length cx, .int .i64 cc.xd, .slice Y cc.ys.length cy, .int .i64 cc.yd, .slice G cc.gs.length cg, .int .i64 cc.gd])
      have HWL := (Below.refl w1.heap.size w1).alloc (Nat.le_refl _) (.cells #[.slice X cc.xs.length cx, .int .i64 cc.xd, .slice Y cc.ys.length cy, .int .i64 cc.yd, .slice G cc.gs.length cg, .int .i64 cc.gd] 47)
      have HV2 := Lib.hid (H1.out.trans (HWL.mono z01))
      have HCW := Lib.hid (HCn.out.below HWL)
      have HBW := Lib.hid (HVW.out.trans (HV2.out.mono zV))
      clear HWL
      generalize (w1.alloc (.cells #[.slice X cc.xs.length cx, .int .i64 cc.xd, .slice Y cc.ys.length cy, .int .i64 cc.yd, .slice G cc.gs.length cg, .int .i64 cc.gd] 47)) = W at *
      have z0 : (W).cell? ⟨w.heap.size + 1, 0, none⟩ = some (.bool false) := (BR.out.next HV2.out).cell 0
      have z1 : (W).cell? ⟨w.heap.size + 1, 1, none⟩ = some (.int .i64 0) := (BR.out.next HV2.out).cell 1
      have z2 : (W).cell? ⟨w.heap.size + 1, 2, none⟩ = some (.int .i64 0) := (BR.out.next HV2.out).cell 2
      have z3 : (W).cell? ⟨w.heap.size + 1 + 1, 0, none⟩ = some (.bool false) := (BQ.out.next HV2.out).cell 0
      have z4 : (W).cell? ⟨w.heap.size + 1 + 1, 1, none⟩ = some (.int .i64 0) := (BQ.out.next HV2.out).cell 1
      have z5 : (W).cell? ⟨w.heap.size + 1 + 1, 2, none⟩ = some (.int .i64 0) := (BQ.out.next HV2.out).cell 2
      have y0 := (BR.out.next HV2.out).frozen 0
      have y1 := (BR.out.next HV2.out).frozen 1
      have y2 := (BR.out.next HV2.out).frozen 2
      have y3 := (BQ.out.next HV2.out).frozen 0
      have y4 := (BQ.out.next HV2.out).frozen 1
      have y5 := (BQ.out.next HV2.out).frozen 2
      have p0 : W.cell? ⟨w.heap.size, 0, none⟩ = some (.slice A p.costs.length c) := (BP.out.next HV2.out).cell 0
      have p1 : W.cell? ⟨w.heap.size, 1, none⟩ = some (.slice A2 p.rows.length c2) := (BP.out.next HV2.out).cell 1
      go_wp2_with fail
      refine (span_small _ _ _ _ _ _ (by omega) (by omega) (HD.out.below HBW.out)).mono ?_
      rw [HMB.out]
      rintro e w2 ⟨rfl, rfl⟩
      rename World => W
      have lw := BC.out.lt
      have lw2 : w.heap.size < W.heap.size := by omega
      obtain ⟨ad, As, cs, rfl, hrs⟩ := (HP.out.below HBW.out).rows.all (by omega)
      have HRS := Lib.hid hrs
      have HPW := Lib.hid (HP.out.below HBW.out)
      have HDW := Lib.hid (HD.out.below HBW.out)
      have HLW := Lib.hid (HL.out.below HBW.out)
      clear hrs
      go_wp2_with fail
      clear p0 p1 z0 z1 z2 z3 z4 z5 y0 y1 y2 y3 y4 y5
      go_loopw [42] (fun i wx => ∃ (k : Nat) (v : Value), k ≤ p.rows.length ∧ i = .int .i64 k ∧ Blk wx W.heap.size 40 #[.slice A p.costs.length c, v] ∧ wx.ownsRow (W.heap.size + 1) 55 2 v k (rowCells As cs p b k) ∧ Below W.heap.size W wx) (fun i _ => p.rows.length - (intOf i).toNat)
      case atStart => exact ⟨0, _, by omega, rfl, Blk.mk' _ _ _, World.ownsRow_nil _ _ _ _, (Below.refl _ _).alloc (Nat.le_refl _) _⟩
      case round =>
        obtain ⟨k, v, hk, rfl, hQ, hown, hbel⟩ := hrel
        have HQ := Lib.hid hQ
        have HO := Lib.hid hown
        have HB := Lib.hid hbel
        have zB := hbel.size
        have lQ := hQ.lt
        clear hQ hown hbel
        rename World => U
        by_cases hlt : k < p.rows.length
        · obtain ⟨r1, r2, r3⟩ := HRS.out k hlt
          have r1' := (HB.out.cell (World.block_lt_of_cell? _ _ r1)).trans r1
          have r2' := (HB.out.cell (World.block_lt_of_cell? _ _ r2)).trans r2
          have hral := World.block_lt_of_cell? _ _ r1'
          obtain ⟨ab, rfl, hcb⟩ := (HDW.out.below HB.out).getDk (k := k) (by rw [HML.out]; exact hlt)
          have habl := World.block_lt_of_cell? _ _ hcb
          have HRC := Lib.hid (show rowCells As cs p b (k + 1) = rowCells As cs p b k ++ [.slice (As k) (p.rows.getD k ([], 0)).1.length (cs k), .int .i64 (b.getD k 0)] from rfl)
          have hbl' : (k : Int) < (b.length : Int) := by have := HML.out; omega
          generalize b.getD k 0 = bk at *
          generalize (p.rows.getD k ([], 0)).1.length = rl at *
          generalize (p.rows.getD k ([], 0)).2 = rm at *
          generalize As k = Ak at *
          generalize cs k = ck at *
          have hi0 : (k : Int) < (p.rows.length : Int) := by omega
          clear r1 r2 r3
          go_upto_region 10 with fail
          have HU1 := Lib.hid (Blk.mk' U 55 #[.slice Ak rl ck, .int .i64 rm])
          have HQ1 := Lib.hid (HQ.out.alloc (.cells #[.slice Ak rl ck, .int .i64 rm] 55))
          have HO1 := Lib.hid (HO.out.alloc (.cells #[.slice Ak rl ck, .int .i64 rm] 55))
          have HB1 := Lib.hid (HB.out.alloc zB (.cells #[.slice Ak rl ck, .int .i64 rm] 55))
          have hcb1 := (World.cell?_alloc_lt U (.cells #[.slice Ak rl ck, .int .i64 rm] 55) _ habl).trans hcb
          have hz1 : (U.alloc (.cells #[.slice Ak rl ck, .int .i64 rm] 55)).heap.size = U.heap.size + 1 := by simp
          generalize (U.alloc (.cells #[.slice Ak rl ck, .int .i64 rm] 55)) = U1 at *
          have e0 : U1.cell? ⟨W.heap.size, 1, none⟩ = some v := HQ1.out.cell 1
          have e1 := HQ1.out.frozen 1
          have e2 : U1.cell? ⟨U.heap.size, 0, none⟩ = some (.slice Ak rl ck) := HU1.out.cell 0
          have lQ1 := HQ1.out.lt
          have lU1 := HU1.out.lt
          have habl1 := World.block_lt_of_cell? _ _ hcb1
          have hbq : W.heap.size + 1 ≤ U1.heap.size := by omega
          clear hcb r1' r2'
          go_region_law (refine step_appRow rfl (.tmp 48) (.tmp 56) rfl (W.heap.size + 1) v k _ (.slice Ak rl ck) (.int .i64 bk) (by simp [Act.eval]) ((HO1.out.drew).alloc _) _ 1 (by simp [Act.eval]) (news2 (Blk.mk' _ _ _)) rfl rfl (by omega) (by simp; omega) ?_; intro g cap w5 hown5 hg5 hat5 hlt5; have hB5 := (((HQ1.out.drew).alloc _).grown hg5 (fun q => by have := (HO1.out.lt _ q.symm).1; omega)); have hq0 : w5.cell? ⟨W.heap.size, 1, none⟩ = some v := hB5.cell 1; have hqf := hB5.frozen 1)
          all_goals
            have HB5 := Lib.hid hB5
            have HO5 := Lib.hid hown5
            have HG5 := Lib.hid hg5
            clear hB5 hown5 hg5 hq0 hqf
            go_wp2_with fail
            go_roundw
            case rel =>
              have hb6 : Below W.heap.size W w5 := ((HB1.out.drew).alloc (by simp; omega) _).grown HG5.out (by simp; omega) (fun j e => by have := (HO1.out.lt j e).1; omega)
              refine ⟨k + 1, _, by omega, by go_num, HB5.out.set0 1 _, ?_, hb6.setCell (by simp) _⟩
              rw [HRC.out]
              exact ownsRow_setCell_below HO5.out (by simp) _
            case measure => simp [intOf]; omega
        · obtain rfl : k = p.rows.length := by omega
          have hv : ∃ g cap, v = .slice (some ⟨g, 0, none⟩) p.rows.length cap := by
            rcases HO.out.2 with ⟨_, q⟩ | ⟨g, cap, cur, q, _⟩
            · omega
            · exact ⟨g, cap, q⟩
          obtain ⟨gq, cq, rfl⟩ := hv
          have HRW := Lib.hid (show Pg U A c (some ⟨gq, 0, none⟩) cq (mostsOf p b) from ⟨(HPW.out.below HB.out).costs, rows_read HO.out (by omega) fun i hi => ((HRS.out i hi).2.2).below HB.out⟩)
          have HLK := Lib.hid (show ∀ u : World, Below U.heap.size U u → Calls Try.prog 29 #[.agg #[.slice A p.costs.length c, .slice (some ⟨gq, 0, none⟩) p.rows.length cq], .slice L l.length cl] u (RetCo u dd 0) from fun u hu => by
            have := corner_Look A c (some ⟨gq, 0, none⟩) cq (mostsOf p b) L l cl u (HRW.out.below hu) ((HLW.out.below HB.out).below hu)
            rw [HE2.out, HC2.out, mostsOf_len] at this
            exact this)
          have e0 : U.cell? ⟨W.heap.size, 0, none⟩ = some (.slice A p.costs.length c) := HQ.out.cell 0
          have e1 : U.cell? ⟨W.heap.size, 1, none⟩ = some (.slice (some ⟨gq, 0, none⟩) p.rows.length cq) := HQ.out.cell 1
          go_wp2_with fail
          refine (HLK.out _ (Below.refl _ _)).mono ?_
          rintro e w3 ⟨X', cx', Y', cy', G', cg', rfl, hX', hY', hG', hb3⟩
          have HX' := Lib.hid hX'
          have H3 := Lib.hid (HB.out.trans (hb3.mono zB))
          have z03 := H3.out.size
          clear hX' hY' hG' hb3 e0 e1
          go_upto_region 13 with fail
          have BD := Lib.hid (Blk.mk' w3 47 #[.slice X' dd.xs.length cx', .int .i64 dd.xd, .slice Y' dd.ys.length cy', .int .i64 dd.yd, .slice G' dd.gs.length cg', .int .i64 dd.gd])
          have HWL := (Below.refl w3.heap.size w3).alloc (Nat.le_refl _) (.cells #[.slice X' dd.xs.length cx', .int .i64 dd.xd, .slice Y' dd.ys.length cy', .int .i64 dd.yd, .slice G' dd.gs.length cg', .int .i64 dd.gd] 47)
          have HV3 := Lib.hid (H3.out.trans (HWL.mono z03))
          have HGW := Lib.hid (HX'.out.below HWL)
          clear HWL
          generalize (w3.alloc (.cells #[.slice X' dd.xs.length cx', .int .i64 dd.xd, .slice Y' dd.ys.length cy', .int .i64 dd.yd, .slice G' dd.gs.length cg', .int .i64 dd.gd] 47)) = W3 at *
          have v4 : W3.cell? ⟨w1.heap.size, 0, none⟩ = some (.slice X cc.xs.length cx) := (BC.out.next HV3.out).cell 0
          have v5 : W3.cell? ⟨w1.heap.size, 1, none⟩ = some (.int .i64 cc.xd) := (BC.out.next HV3.out).cell 1
          have u4 : W3.cell? ⟨w3.heap.size, 0, none⟩ = some (.slice X' dd.xs.length cx') := BD.out.cell 0
          have u5 : W3.cell? ⟨w3.heap.size, 1, none⟩ = some (.int .i64 dd.xd) := BD.out.cell 1
          go_wp2_with fail
          refine (HOF.out _ _ _ _ _ (HCW.out.x.below HV3.out) HGW.out).mono ?_
          rintro e w4 ⟨rfl, hb4⟩
          have HB4 := Lib.hid (HV2.out.trans ((HV3.out.trans (hb4.mono HV3.out.size)).mono HV2.out.size))
          have HBW := Lib.hid (HVW.out.trans (HB4.out.mono zV))
          have z0 : (w4).cell? ⟨w.heap.size + 1, 0, none⟩ = some (.bool false) := (BR.out.next HB4.out).cell 0
          have z1 : (w4).cell? ⟨w.heap.size + 1, 1, none⟩ = some (.int .i64 0) := (BR.out.next HB4.out).cell 1
          have z2 : (w4).cell? ⟨w.heap.size + 1, 2, none⟩ = some (.int .i64 0) := (BR.out.next HB4.out).cell 2
          have z3 : (w4).cell? ⟨w.heap.size + 1 + 1, 0, none⟩ = some (.bool false) := (BQ.out.next HB4.out).cell 0
          have z4 : (w4).cell? ⟨w.heap.size + 1 + 1, 1, none⟩ = some (.int .i64 0) := (BQ.out.next HB4.out).cell 1
          have z5 : (w4).cell? ⟨w.heap.size + 1 + 1, 2, none⟩ = some (.int .i64 0) := (BQ.out.next HB4.out).cell 2
          have y0 := (BR.out.next HB4.out).frozen 0
          have y1 := (BR.out.next HB4.out).frozen 1
          have y2 := (BR.out.next HB4.out).frozen 2
          have y3 := (BQ.out.next HB4.out).frozen 0
          have y4 := (BQ.out.next HB4.out).frozen 1
          have y5 := (BQ.out.next HB4.out).frozen 2
          clear hb4 v4 v5 u4 u5
          generalize endsF (ofZ (fN (-1) cc.xs dd.xd) (fN (-1) dd.xs cc.xd) cc.xs.length) = ef at *
          generalize endsT (ofZ (fN (-1) cc.xs dd.xd) (fN (-1) dd.xs cc.xd) cc.xs.length) = et at *
          generalize endsE (ofZ (fN (-1) cc.xs dd.xd) (fN (-1) dd.xs cc.xd) cc.xs.length) = ee at *
          go_wp2_with fail
          refine bodyPost_ret (v := .tuple #[.agg #[.bool ef.op, .int .i64 ef.n, .int .i64 ef.d], .agg #[.bool et.op, .int .i64 et.n, .int .i64 et.d], .int .i64 ee]) ?_ ?_ ?_
          · simp [results, Try.results40, go_sem, z0, z1, z2, z3, z4, z5]
          · rfl
          · refine ⟨rfl, ?_⟩
            iterate 6 refine Below.setCell ?_ (by first | (simp; done) | (simp; omega)) _
            exact HBW.out
    · have hm : manyB b p.rows.length 12 = false := by simpa using hm
      rw [show mostsE p l b = 1 by unfold mostsE; rw [if_neg (by simp [h0]), if_pos hm], show mostsF p l b = zeroE by unfold mostsF; rw [if_neg (by simp [h0]), if_pos hm], show mostsT p l b = zeroE by unfold mostsT; rw [if_neg (by simp [h0]), if_pos hm]]
      have hE := h0
      obtain ⟨cc, hC⟩ : ∃ cc, lookC p l = cc := ⟨_, rfl⟩
      have HMB := Lib.hid hm
      clear h0 hm
      have HP := Lib.hid hp
      have HL := Lib.hid hr
      have HD := Lib.hid hb
      obtain ⟨⟨hl, hc, hsm, _⟩, ⟨hl2, hc2, hsm2, _⟩⟩ := hp
      obtain ⟨hll, hlc, hls, _⟩ := hr
      obtain ⟨hbl, hbc, hbs, _⟩ := hb
      go_enter Try.func40, Try.ntmps40
      go_wp2_with fail
      have BP := Lib.hid (show Blk (((w.alloc (.cells #[.slice A p.costs.length c, .slice A2 p.rows.length c2] 40)).alloc (.cells #[.bool false, .int .i64 0, .int .i64 0] 64)).alloc (.cells #[.bool false, .int .i64 0, .int .i64 0] 64)) w.heap.size 40 #[.slice A p.costs.length c, .slice A2 p.rows.length c2] from ((Blk.mk' _ _ _).alloc _).alloc _)
      have BR := Lib.hid (show Blk (((w.alloc (.cells #[.slice A p.costs.length c, .slice A2 p.rows.length c2] 40)).alloc (.cells #[.bool false, .int .i64 0, .int .i64 0] 64)).alloc (.cells #[.bool false, .int .i64 0, .int .i64 0] 64)) (w.heap.size + 1) 64 #[.bool false, .int .i64 0, .int .i64 0] from (Blk.new _ _ _ _ (by simp)).alloc _)
      have BQ := Lib.hid (show Blk (((w.alloc (.cells #[.slice A p.costs.length c, .slice A2 p.rows.length c2] 40)).alloc (.cells #[.bool false, .int .i64 0, .int .i64 0] 64)).alloc (.cells #[.bool false, .int .i64 0, .int .i64 0] 64)) (w.heap.size + 1 + 1) 64 #[.bool false, .int .i64 0, .int .i64 0] from Blk.new _ _ _ _ (by simp))
      have HVW := Lib.hid ((by (repeat (any_goals (first | exact Below.refl _ _ | refine below_drewN ?_ _ | refine Below.drew ?_ | refine Below.alloc ?_ ?_ _ | refine Below.setCell ?_ ?_ _))); all_goals (first | omega | (simp; done) | (simp; omega))) : Below w.heap.size w (((w.alloc (.cells #[.slice A p.costs.length c, .slice A2 p.rows.length c2] 40)).alloc (.cells #[.bool false, .int .i64 0, .int .i64 0] 64)).alloc (.cells #[.bool false, .int .i64 0, .int .i64 0] 64)))
      generalize (((w.alloc (.cells #[.slice A p.costs.length c, .slice A2 p.rows.length c2] 40)).alloc (.cells #[.bool false, .int .i64 0, .int .i64 0] 64)).alloc (.cells #[.bool false, .int .i64 0, .int .i64 0] 64)) = V at *
      have zV := HVW.out.size
      have zQ := BQ.out.lt
      refine (corner_Look _ _ _ _ _ _ _ _ _ (HP.out.below HVW.out) (HL.out.below HVW.out)).mono ?_
      rw [hE, hC]
      rintro e w1 ⟨X, cx, Y, cy, G, cg, rfl, hX, hY, hG, hb1⟩
      have HCn := Lib.hid (Cn.mk hX hY hG)
      have H1 := Lib.hid hb1
      have z01 := hb1.size
      have lq0 : w.heap.size < w1.heap.size := by omega
      have lq1 : w.heap.size + 1 < w1.heap.size := by omega
      have lq2 : w.heap.size + 1 + 1 < w1.heap.size := by omega
      clear hX hY hG hb1
      go_upto_region 2 with fail
      have BC := Lib.hid (Blk.mk' w1 47 #[.slice X cc.xs.length cx, .int .i64 cc.xd, .slice Y cc.ys.length cy, .int .i64 cc.yd, .slice G cc.gs.length cg, .int .i64 cc.gd])
      have HWL := (Below.refl w1.heap.size w1).alloc (Nat.le_refl _) (.cells #[.slice X cc.xs.length cx, .int .i64 cc.xd, .slice Y cc.ys.length cy, .int .i64 cc.yd, .slice G cc.gs.length cg, .int .i64 cc.gd] 47)
      have HV2 := Lib.hid (H1.out.trans (HWL.mono z01))
      have HCW := Lib.hid (HCn.out.below HWL)
      have HBW := Lib.hid (HVW.out.trans (HV2.out.mono zV))
      clear HWL
      generalize (w1.alloc (.cells #[.slice X cc.xs.length cx, .int .i64 cc.xd, .slice Y cc.ys.length cy, .int .i64 cc.yd, .slice G cc.gs.length cg, .int .i64 cc.gd] 47)) = W at *
      have z0 : (W).cell? ⟨w.heap.size + 1, 0, none⟩ = some (.bool false) := (BR.out.next HV2.out).cell 0
      have z1 : (W).cell? ⟨w.heap.size + 1, 1, none⟩ = some (.int .i64 0) := (BR.out.next HV2.out).cell 1
      have z2 : (W).cell? ⟨w.heap.size + 1, 2, none⟩ = some (.int .i64 0) := (BR.out.next HV2.out).cell 2
      have z3 : (W).cell? ⟨w.heap.size + 1 + 1, 0, none⟩ = some (.bool false) := (BQ.out.next HV2.out).cell 0
      have z4 : (W).cell? ⟨w.heap.size + 1 + 1, 1, none⟩ = some (.int .i64 0) := (BQ.out.next HV2.out).cell 1
      have z5 : (W).cell? ⟨w.heap.size + 1 + 1, 2, none⟩ = some (.int .i64 0) := (BQ.out.next HV2.out).cell 2
      have y0 := (BR.out.next HV2.out).frozen 0
      have y1 := (BR.out.next HV2.out).frozen 1
      have y2 := (BR.out.next HV2.out).frozen 2
      have y3 := (BQ.out.next HV2.out).frozen 0
      have y4 := (BQ.out.next HV2.out).frozen 1
      have y5 := (BQ.out.next HV2.out).frozen 2
      have p1 : W.cell? ⟨w.heap.size, 1, none⟩ = some (.slice A2 p.rows.length c2) := (BP.out.next HV2.out).cell 1
      go_wp2_with fail
      refine (span_small _ _ _ _ _ _ (by omega) (by omega) (HD.out.below HBW.out)).mono ?_
      rw [HMB.out]
      rintro e w2 ⟨rfl, rfl⟩
      go_wp2_with fail
      refine bodyPost_ret (v := .tuple #[.agg #[.bool false, .int .i64 0, .int .i64 0], .agg #[.bool false, .int .i64 0, .int .i64 0], .int .i64 1]) ?_ ?_ ?_
      · simp [results, Try.results40, go_sem, z0, z1, z2, z3, z4, z5]
      · rfl
      · refine ⟨rfl, ?_⟩
        iterate 6 refine Below.setCell ?_ (by first | (simp; done) | (simp; omega)) _
        exact HBW.out
  · have hne : (lookE p l != 0) = true := by simpa using h0
    rw [show mostsE p l b = lookE p l by unfold mostsE; rw [if_pos h0], show mostsF p l b = zeroE by unfold mostsF; rw [if_pos h0], show mostsT p l b = zeroE by unfold mostsT; rw [if_pos h0]]
    obtain ⟨cc, hC⟩ : ∃ cc, lookC p l = cc := ⟨_, rfl⟩
    obtain ⟨ee, hE⟩ : ∃ ee, lookE p l = ee := ⟨_, rfl⟩
    rw [hE] at hne ⊢
    clear h0
    have HP := Lib.hid hp
    have HL := Lib.hid hr
    have HD := Lib.hid hb
    obtain ⟨⟨hl, hc, hsm, _⟩, ⟨hl2, hc2, hsm2, _⟩⟩ := hp
    obtain ⟨hll, hlc, hls, _⟩ := hr
    obtain ⟨hbl, hbc, hbs, _⟩ := hb
    go_enter Try.func40, Try.ntmps40
    go_wp2_with fail
    have BP := Lib.hid (show Blk (((w.alloc (.cells #[.slice A p.costs.length c, .slice A2 p.rows.length c2] 40)).alloc (.cells #[.bool false, .int .i64 0, .int .i64 0] 64)).alloc (.cells #[.bool false, .int .i64 0, .int .i64 0] 64)) w.heap.size 40 #[.slice A p.costs.length c, .slice A2 p.rows.length c2] from ((Blk.mk' _ _ _).alloc _).alloc _)
    have BR := Lib.hid (show Blk (((w.alloc (.cells #[.slice A p.costs.length c, .slice A2 p.rows.length c2] 40)).alloc (.cells #[.bool false, .int .i64 0, .int .i64 0] 64)).alloc (.cells #[.bool false, .int .i64 0, .int .i64 0] 64)) (w.heap.size + 1) 64 #[.bool false, .int .i64 0, .int .i64 0] from (Blk.new _ _ _ _ (by simp)).alloc _)
    have BQ := Lib.hid (show Blk (((w.alloc (.cells #[.slice A p.costs.length c, .slice A2 p.rows.length c2] 40)).alloc (.cells #[.bool false, .int .i64 0, .int .i64 0] 64)).alloc (.cells #[.bool false, .int .i64 0, .int .i64 0] 64)) (w.heap.size + 1 + 1) 64 #[.bool false, .int .i64 0, .int .i64 0] from Blk.new _ _ _ _ (by simp))
    have HVW := Lib.hid ((by (repeat (any_goals (first | exact Below.refl _ _ | refine below_drewN ?_ _ | refine Below.drew ?_ | refine Below.alloc ?_ ?_ _ | refine Below.setCell ?_ ?_ _))); all_goals (first | omega | (simp; done) | (simp; omega))) : Below w.heap.size w (((w.alloc (.cells #[.slice A p.costs.length c, .slice A2 p.rows.length c2] 40)).alloc (.cells #[.bool false, .int .i64 0, .int .i64 0] 64)).alloc (.cells #[.bool false, .int .i64 0, .int .i64 0] 64)))
    generalize (((w.alloc (.cells #[.slice A p.costs.length c, .slice A2 p.rows.length c2] 40)).alloc (.cells #[.bool false, .int .i64 0, .int .i64 0] 64)).alloc (.cells #[.bool false, .int .i64 0, .int .i64 0] 64)) = V at *
    have zV := HVW.out.size
    have zQ := BQ.out.lt
    refine (corner_Look _ _ _ _ _ _ _ _ _ (HP.out.below HVW.out) (HL.out.below HVW.out)).mono ?_
    rw [hE, hC]
    rintro e w1 ⟨X, cx, Y, cy, G, cg, rfl, hX, hY, hG, hb1⟩
    have HCn := Lib.hid (Cn.mk hX hY hG)
    have H1 := Lib.hid hb1
    have z01 := hb1.size
    have lq0 : w.heap.size < w1.heap.size := by omega
    have lq1 : w.heap.size + 1 < w1.heap.size := by omega
    have lq2 : w.heap.size + 1 + 1 < w1.heap.size := by omega
    clear hX hY hG hb1
    go_upto_region 2 with fail
    have BC := Lib.hid (Blk.mk' w1 47 #[.slice X cc.xs.length cx, .int .i64 cc.xd, .slice Y cc.ys.length cy, .int .i64 cc.yd, .slice G cc.gs.length cg, .int .i64 cc.gd])
    have HWL := (Below.refl w1.heap.size w1).alloc (Nat.le_refl _) (.cells #[.slice X cc.xs.length cx, .int .i64 cc.xd, .slice Y cc.ys.length cy, .int .i64 cc.yd, .slice G cc.gs.length cg, .int .i64 cc.gd] 47)
    have HV2 := Lib.hid (H1.out.trans (HWL.mono z01))
    have HCW := Lib.hid (HCn.out.below HWL)
    have HBW := Lib.hid (HVW.out.trans (HV2.out.mono zV))
    clear HWL
    generalize (w1.alloc (.cells #[.slice X cc.xs.length cx, .int .i64 cc.xd, .slice Y cc.ys.length cy, .int .i64 cc.yd, .slice G cc.gs.length cg, .int .i64 cc.gd] 47)) = W at *
    have z0 : (W).cell? ⟨w.heap.size + 1, 0, none⟩ = some (.bool false) := (BR.out.next HV2.out).cell 0
    have z1 : (W).cell? ⟨w.heap.size + 1, 1, none⟩ = some (.int .i64 0) := (BR.out.next HV2.out).cell 1
    have z2 : (W).cell? ⟨w.heap.size + 1, 2, none⟩ = some (.int .i64 0) := (BR.out.next HV2.out).cell 2
    have z3 : (W).cell? ⟨w.heap.size + 1 + 1, 0, none⟩ = some (.bool false) := (BQ.out.next HV2.out).cell 0
    have z4 : (W).cell? ⟨w.heap.size + 1 + 1, 1, none⟩ = some (.int .i64 0) := (BQ.out.next HV2.out).cell 1
    have z5 : (W).cell? ⟨w.heap.size + 1 + 1, 2, none⟩ = some (.int .i64 0) := (BQ.out.next HV2.out).cell 2
    have y0 := (BR.out.next HV2.out).frozen 0
    have y1 := (BR.out.next HV2.out).frozen 1
    have y2 := (BR.out.next HV2.out).frozen 2
    have y3 := (BQ.out.next HV2.out).frozen 0
    have y4 := (BQ.out.next HV2.out).frozen 1
    have y5 := (BQ.out.next HV2.out).frozen 2
    go_wp2_with fail
    refine bodyPost_ret (v := .tuple #[.agg #[.bool false, .int .i64 0, .int .i64 0], .agg #[.bool false, .int .i64 0, .int .i64 0], .int .i64 ee]) ?_ ?_ ?_
    · simp [results, Try.results40, go_sem, z0, z1, z2, z3, z4, z5]
    · rfl
    · refine ⟨rfl, ?_⟩
      iterate 6 refine Below.setCell ?_ (by first | (simp; done) | (simp; omega)) _
      exact HBW.out
end Go.Proofs.Ytjcdkbalhleeeaa
