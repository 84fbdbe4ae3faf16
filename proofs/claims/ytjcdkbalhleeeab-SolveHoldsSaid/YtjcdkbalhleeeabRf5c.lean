/-
  Walk: the document's column and falls compute what the plain words say.
-/
import Derived.Test.YtjcdkbalhleeeabRf5a
import Derived.Test.YtjcdkbalhleeeabLook3
import Derived.Test.YtjcdkbalhleeeabRowA
import Derived.Test.YtjcdkbalhleeeabPlainB
import Derived.Test.YtjcdkbalhleeeabJSol2
import Derived.Test.YtjcdkbalhleeeabJAppN
namespace Go.Proofs.Ytjcdkbalhleeeab
open Go.RowKit

set_option maxRecDepth 100000 in
set_option maxHeartbeats 2000000 in
theorem ref5_column (X Y G : Option Addr) (cx ny cy ng cg : Nat) (xs : List Int) (xd yd gd : Int) (j : Nat) (w : World) (hx : Rd w X cx xs) (hj : j < xs.length) :
    Calls Try.prog 90 #[.agg #[.slice X xs.length cx, .int .i64 xd, .slice Y ny cy, .int .i64 yd, .slice G ng cg, .int .i64 gd], .int .i64 j] w fun e w' =>
      e = .returned (.agg #[.int .i64 (frN (xs.getD j 0) xd), .int .i64 (ptD [xs.getD j 0] xd)]) ∧ Below w.heap.size w w' := by
  have HX := Lib.hid hx
  obtain ⟨ax, rfl, hcx⟩ := hx.getD_at hj
  have hlx := World.block_lt_of_cell? _ _ hcx
  obtain ⟨hl, hc, hs, _⟩ := hx
  have hi : (j : Int) < (xs.length : Int) := by omega
  generalize xs.getD j 0 = xv at *
  generalize xs.length = n at *
  clear HX
  go_enter Try.func90, Try.ntmps90
  go_upto_region 1 with fail
  have BC := Lib.hid (show Blk ((w.alloc (.cells #[.slice (some ax) n cx, .int .i64 xd, .slice Y ny cy, .int .i64 yd, .slice G ng cg, .int .i64 gd] 42)).alloc (.cells #[.int .i64 0, .int .i64 0] 38)) w.heap.size 42 #[.slice (some ax) n cx, .int .i64 xd, .slice Y ny cy, .int .i64 yd, .slice G ng cg, .int .i64 gd] from Blk.alloc (Blk.mk' _ _ _) _)
  have BF := Lib.hid (show Blk ((w.alloc (.cells #[.slice (some ax) n cx, .int .i64 xd, .slice Y ny cy, .int .i64 yd, .slice G ng cg, .int .i64 gd] 42)).alloc (.cells #[.int .i64 0, .int .i64 0] 38)) (w.heap.size + 1) 38 #[.int .i64 0, .int .i64 0] from by
    have := Blk.mk' (w.alloc (.cells #[.slice (some ax) n cx, .int .i64 xd, .slice Y ny cy, .int .i64 yd, .slice G ng cg, .int .i64 gd] 42)) 38 #[.int .i64 0, .int .i64 0]
    simpa using this)
  have HB := Lib.hid ((by (repeat (any_goals (first | exact Below.refl _ _ | refine below_drewN ?_ _ | refine Below.drew ?_ | refine Below.alloc ?_ ?_ _ | refine Below.setCell ?_ ?_ _))); all_goals (first | omega | (simp; done) | (simp; omega))) : Below w.heap.size w ((w.alloc (.cells #[.slice (some ax) n cx, .int .i64 xd, .slice Y ny cy, .int .i64 yd, .slice G ng cg, .int .i64 gd] 42)).alloc (.cells #[.int .i64 0, .int .i64 0] 38)))
  have lW : ((w.alloc (.cells #[.slice (some ax) n cx, .int .i64 xd, .slice Y ny cy, .int .i64 yd, .slice G ng cg, .int .i64 gd] 42)).alloc (.cells #[.int .i64 0, .int .i64 0] 38)).heap.size = w.heap.size + 2 := by simp
  generalize ((w.alloc (.cells #[.slice (some ax) n cx, .int .i64 xd, .slice Y ny cy, .int .i64 yd, .slice G ng cg, .int .i64 gd] 42)).alloc (.cells #[.int .i64 0, .int .i64 0] 38)) = W at *
  have s0 : ∀ u : Wk W, u.1.cell? ⟨w.heap.size, 0, none⟩ = some (.slice (some ax) n cx) := fun u => (BC.out.next u.2).cell 0
  have s1 : ∀ u : Wk W, u.1.cell? ⟨w.heap.size, 1, none⟩ = some (.int .i64 xd) := fun u => (BC.out.next u.2).cell 1
  have s2 : ∀ u : Wk W, u.1.cell? (ax.add j) = some (.int .i64 xv) := fun u => (u.2.cell (by have := (HB.out.size); omega)).trans ((HB.out.cell hlx).trans hcx)
  have s3 : ∀ u : Wk W, u.1.cell? ⟨w.heap.size + 1, 0, none⟩ = some (.int .i64 0) := fun u => (BF.out.next u.2).cell 0
  have s4 : ∀ u : Wk W, u.1.cell? ⟨w.heap.size + 1, 1, none⟩ = some (.int .i64 0) := fun u => (BF.out.next u.2).cell 1
  have s5 : ∀ u : Wk W, u.1.frozen? ⟨w.heap.size + 1, 0, none⟩ = false := fun u => (BF.out.next u.2).frozen 0
  have s6 : ∀ u : Wk W, u.1.frozen? ⟨w.heap.size + 1, 1, none⟩ = false := fun u => (BF.out.next u.2).frozen 1
  refine wk_tail 10 (by kernel_rfl) (by kernel_rfl) ?_
  simp only [List.take_succ_cons, List.take_zero, List.drop_succ_cons, List.drop_zero]
  repeat (go_big_quiet_step ((go_at_call 15; with_reducible exact wk_call (ref1_Of _ _ _))))
  refine wpQuiet_nil ?_
  rintro w7 ⟨u7, rfl⟩
  have BF7 := Lib.hid (BF.out.next u7.2)
  have HB7 := Lib.hid (HB.out.trans (u7.2.mono HB.out.size))
  have BF8 := Lib.hid ((BF7.out.set0 0 (.int .i64 (frN xv xd))).set0 1 (.int .i64 (ptD [xv] xd)))
  have r0 := BF8.out.cell 0
  have r1 := BF8.out.cell 1
  simp at r0 r1
  go_wp2_with fail
  refine bodyPost_ret (v := .agg #[.int .i64 (frN xv xd), .int .i64 (ptD [xv] xd)]) ?_ ?_ ?_
  · simp [results, Try.results90, go_sem, r0, r1]
  · rfl
  exact ⟨rfl, (HB7.out.setCell (by simp) _).setCell (by simp) _⟩

set_option maxRecDepth 100000 in
set_option maxHeartbeats 2000000 in
theorem ref5_falls (A : Option Addr) (c : Nat) (A2 : Option Addr) (c2 : Nat) (p : PG) (L : Option Addr) (l : List Int) (cl r kk : Nat) (w : World) (hp : Pg w A c A2 c2 p) (hr : Rd w L cl l) (h0 : lookE p l = 0) (hj : r < 1000000) (hkk : kk < l.length) :
    Calls Try.prog 89 #[.agg #[.slice A p.costs.length c, .slice A2 p.rows.length c2], .slice L l.length cl, .int .i64 r, .int .i64 kk] w fun e w' =>
      e = .returned (.bool (decide (0 < (lookC (qOf p r) l).xs.getD ((nats l).getD kk 0) 0))) ∧ Below w.heap.size w w' := by
  have hE2 := qOf_E h0 r
  obtain ⟨_, _, _, hco⟩ := look_corn h0
  obtain ⟨_, _, _, hcd⟩ := look_corn hE2
  obtain ⟨dd, hC2⟩ : ∃ dd, lookC (qOf p r) l = dd := ⟨_, rfl⟩
  rw [hC2] at hcd ⊢
  have HM := Lib.hid hco.hp
  have HQM := Lib.hid (look_parts hE2).1
  have HQR := Lib.hid (look_parts hE2).2.1
  have h4 := hco.rows4
  have h1 := (mayPB_iff.1 hco.hp).2.2.1
  have HRT := Lib.hid hco.hr
  have HNE := Lib.hid (look_eq h0)
  have HE2 := Lib.hid hE2
  have HC2 := Lib.hid hC2
  have HCD := Lib.hid hcd
  clear h0 hE2 hC2 hco hcd
  have HP := Lib.hid hp
  have HL := Lib.hid hr
  obtain ⟨⟨hl, hc, hsm, _⟩, ⟨hl2, hc2, hsm2, _⟩⟩ := hp
  obtain ⟨hll, hlc, hls, _⟩ := hr
  go_enter Try.func89, Try.ntmps89
  obtain ⟨ad, As, cs, rfl, hrs⟩ := HP.out.rows.all (by omega)
  have HRS := Lib.hid hrs
  clear hrs
  go_wp2_with fail
  have BP := Lib.hid (show Blk ((w.alloc (.cells #[.slice A p.costs.length c, .slice (some ad) p.rows.length c2] 25)).alloc (.cells #[.slice A p.costs.length c, .slice none 0 0] 25)) w.heap.size 25 #[.slice A p.costs.length c, .slice (some ad) p.rows.length c2] from Blk.alloc (Blk.mk' _ _ _) _)
  have BQ := Lib.hid (show Blk ((w.alloc (.cells #[.slice A p.costs.length c, .slice (some ad) p.rows.length c2] 25)).alloc (.cells #[.slice A p.costs.length c, .slice none 0 0] 25)) (w.heap.size + 1) 25 #[.slice A p.costs.length c, .slice none 0 0] from by
    have := Blk.mk' (w.alloc (.cells #[.slice A p.costs.length c, .slice (some ad) p.rows.length c2] 25)) 25 #[.slice A p.costs.length c, .slice none 0 0]
    simpa using this)
  have HB := Lib.hid ((by (repeat (any_goals (first | exact Below.refl _ _ | refine below_drewN ?_ _ | refine Below.drew ?_ | refine Below.alloc ?_ ?_ _ | refine Below.setCell ?_ ?_ _))); all_goals (first | omega | (simp; done) | (simp; omega))) : Below w.heap.size w ((w.alloc (.cells #[.slice A p.costs.length c, .slice (some ad) p.rows.length c2] 25)).alloc (.cells #[.slice A p.costs.length c, .slice none 0 0] 25)))
  have lW : ((w.alloc (.cells #[.slice A p.costs.length c, .slice (some ad) p.rows.length c2] 25)).alloc (.cells #[.slice A p.costs.length c, .slice none 0 0] 25)).heap.size = w.heap.size + 2 := by simp
  generalize ((w.alloc (.cells #[.slice A p.costs.length c, .slice (some ad) p.rows.length c2] 25)).alloc (.cells #[.slice A p.costs.length c, .slice none 0 0] 25)) = W at *
  go_loopw [10] (fun i wx => ∃ (k : Nat) (v : Value), k ≤ p.rows.length ∧ i = .int .i64 k ∧ Blk wx w.heap.size 25 #[.slice A p.costs.length c, .slice (some ad) p.rows.length c2] ∧ Blk wx (w.heap.size + 1) 25 #[.slice A p.costs.length c, v] ∧ wx.ownsRow (w.heap.size + 2) 36 2 v k (rowCells As cs p (colP p r) k) ∧ Below w.heap.size w wx) (fun i _ => p.rows.length - (intOf i).toNat)
  case atStart => exact ⟨0, _, by omega, rfl, BP.out, BQ.out, World.ownsRow_nil _ _ _ _, HB.out⟩
  case round =>
    obtain ⟨k, v, hk, rfl, hPP, hQ, hown, hbel⟩ := hrel
    have HPP := Lib.hid hPP
    have HQ := Lib.hid hQ
    have HO := Lib.hid hown
    have HB := Lib.hid hbel
    have zB := hbel.size
    have lQ := hQ.lt
    have p0 : wr.cell? ⟨w.heap.size, 0, none⟩ = some (.slice A p.costs.length c) := hPP.cell 0
    have p1 : wr.cell? ⟨w.heap.size, 1, none⟩ = some (.slice (some ad) p.rows.length c2) := hPP.cell 1
    clear hPP hQ hown hbel
    rename World => U
    by_cases hlt : k < p.rows.length
    · obtain ⟨r1, r2, r3⟩ := HRS.out k hlt
      have r1' := (HB.out.cell (World.block_lt_of_cell? _ _ r1)).trans r1
      have hral := World.block_lt_of_cell? _ _ r1'
      have HRC := Lib.hid (show rowCells As cs p (colP p r) (k + 1) = rowCells As cs p (colP p r) k ++ [.slice (As k) (p.rows.getD k ([], 0)).1.length (cs k), .int .i64 (hasZ p k r)] by rw [rowCells, colP_at p r hlt])
      have HCL := Lib.hid (ref3_Has A c (some ad) c2 p k r U (HP.out.below HB.out) HM.out hlt hj)
      generalize hasZ p k r = hv at *
      generalize (p.rows.getD k ([], 0)).1.length = rl at *
      generalize As k = Ak at *
      generalize cs k = ck at *
      have hi0 : (k : Int) < (p.rows.length : Int) := by omega
      clear r1 r2 r3
      go_wp2_with fail
      refine HCL.out.mono ?_
      rintro e U1 ⟨rfl, hb1⟩
      have hz1 := hb1.size
      have HP1 := Lib.hid (HPP.out.next hb1)
      have HQ1 := Lib.hid (HQ.out.next hb1)
      have HO1 := Lib.hid (own_below HO.out hb1)
      have HB1 := Lib.hid (HB.out.trans (hb1.mono zB))
      have e0 : U1.cell? ⟨w.heap.size + 1, 1, none⟩ = some v := HQ1.out.cell 1
      have e1 := HQ1.out.frozen 1
      have e2 : U1.cell? ⟨w.heap.size, 1, none⟩ = some (.slice (some ad) p.rows.length c2) := HP1.out.cell 1
      have e3 : U1.cell? (ad.add (k * 2)) = some (.slice Ak rl ck) := (hb1.cell hral).trans r1'
      have lQ1 := HQ1.out.lt
      have hal1 := World.block_lt_of_cell? _ _ e3
      have hbq : w.heap.size + 2 ≤ U1.heap.size := by omega
      clear r1' p0 p1 hb1
      go_upto_region 6 with fail
      go_region_law (refine step_appRow rfl (.tmp 29) (.tmp 38) rfl (w.heap.size + 2) v k _ (.slice Ak rl ck) (.int .i64 hv) (by simp [Act.eval]) ((HO1.out.drew).alloc _) _ 1 (by simp [Act.eval]) (news2 (Blk.mk' _ _ _)) rfl rfl (by omega) (by simp; omega) ?_; intro g cap w5 hown5 hg5 hat5 hlt5; have hB5 := (((HQ1.out.drew).alloc _).grown hg5 (fun q => by have := (HO1.out.lt _ q.symm).1; omega)); have hP5 := (((HP1.out.drew).alloc _).grown hg5 (fun q => by have := (HO1.out.lt _ q.symm).1; omega)); have hq0 : w5.cell? ⟨w.heap.size + 1, 1, none⟩ = some v := hB5.cell 1; have hqf := hB5.frozen 1)
      all_goals
        have HB5 := Lib.hid hB5
        have HP5 := Lib.hid hP5
        have HO5 := Lib.hid hown5
        have HG5 := Lib.hid hg5
        clear hB5 hP5 hown5 hg5 hq0 hqf
        go_wp2_with fail
        go_roundw
        case rel =>
          have hb6 : Below w.heap.size w w5 := ((HB1.out.drew).alloc (by simp; omega) _).grown HG5.out (by simp; omega) (fun j e => by have := (HO1.out.lt j e).1; omega)
          refine ⟨k + 1, _, by omega, by go_num, HP5.out.far _ (by simp), HB5.out.set0 1 _, ?_, hb6.setCell (by simp) _⟩
          rw [HRC.out]
          exact ownsRow_setCell_below HO5.out (by simp) _
        case measure => simp [intOf]; omega
    · obtain rfl : k = p.rows.length := by omega
      have hv : ∃ g cap, v = .slice (some ⟨g, 0, none⟩) p.rows.length cap := by
        rcases HO.out.2 with ⟨_, q⟩ | ⟨g, cap, cur, q, _⟩
        · omega
        · exact ⟨g, cap, q⟩
      obtain ⟨gq, cq, rfl⟩ := hv
      have HRW := Lib.hid (show Pg U A c (some ⟨gq, 0, none⟩) cq (mostsOf p (colP p r)) from ⟨(HP.out.below HB.out).costs, rows_read HO.out (by omega) fun i hi => ((HRS.out i hi).2.2).below HB.out⟩)
      have HLK := Lib.hid (show ∀ u : World, Below U.heap.size U u → Calls Try.prog 36 #[.agg #[.slice A p.costs.length c, .slice (some ⟨gq, 0, none⟩) p.rows.length cq], .slice L l.length cl] u (RetCb u dd true) from fun u hu => by
        have := ref3_Look A c (some ⟨gq, 0, none⟩) cq (mostsOf p (colP p r)) L l cl u (HRW.out.below hu) ((HL.out.below HB.out).below hu) (by rw [← qOf_mosts]; exact HQM.out) (by rw [← qOf_mosts]; exact HQR.out)
        rw [← qOf_mosts, HE2.out, HC2.out, qOf_len, show decide ((0 : Int) = 0) = true from rfl] at this
        exact this)
      have e0 : U.cell? ⟨w.heap.size + 1, 0, none⟩ = some (.slice A p.costs.length c) := HQ.out.cell 0
      have e1 : U.cell? ⟨w.heap.size + 1, 1, none⟩ = some (.slice (some ⟨gq, 0, none⟩) p.rows.length cq) := HQ.out.cell 1
      go_wp2_with fail
      refine (HLK.out _ (Below.refl _ _)).mono ?_
      rintro e w3 ⟨X', cx', Y', cy', G', cg', rfl, hX', hY', hG', hb3⟩
      have HX' := Lib.hid hX'
      have H3 := Lib.hid (HB.out.trans (hb3.mono zB))
      have z03 := H3.out.size
      clear hX' hY' hG' hb3 e0 e1 p0 p1
      go_upto_region 8 with fail
      have BD := Lib.hid (Blk.mk' w3 42 #[.slice X' dd.xs.length cx', .int .i64 dd.xd, .slice Y' dd.ys.length cy', .int .i64 dd.yd, .slice G' dd.gs.length cg', .int .i64 dd.gd])
      have HW4 := (Below.refl w3.heap.size w3).alloc (Nat.le_refl _) (.cells #[.slice X' dd.xs.length cx', .int .i64 dd.xd, .slice Y' dd.ys.length cy', .int .i64 dd.yd, .slice G' dd.gs.length cg', .int .i64 dd.gd] 42)
      have HX4 := Lib.hid (HX'.out.below HW4)
      have HL4 := Lib.hid ((HL.out.below H3.out).below HW4)
      have H4 := Lib.hid (H3.out.trans (HW4.mono z03))
      clear HW4
      generalize (w3.alloc (.cells #[.slice X' dd.xs.length cx', .int .i64 dd.xd, .slice Y' dd.ys.length cy', .int .i64 dd.yd, .slice G' dd.gs.length cg', .int .i64 dd.gd] 42)) = w4 at *
      obtain ⟨al, rfl, hcl⟩ := HL4.out.natAt HNE.out hkk
      have hjN : (nats l).getD kk 0 < dd.xs.length := by rw [HCD.out.lx, qOf_len]; exact HRT.out.lt _ (mem_getD.2 ⟨kk, by simpa [nats] using hkk, rfl⟩)
      obtain ⟨ax, rfl, hcx⟩ := HX4.out.getD_at hjN
      have v0 : w4.cell? ⟨w3.heap.size, 0, none⟩ = some (.slice (some ax) dd.xs.length cx') := BD.out.cell 0
      have hll' := World.block_lt_of_cell? _ _ hcl
      have hxl' := World.block_lt_of_cell? _ _ hcx
      have hi0 : (kk : Int) < (l.length : Int) := by omega
      have hi1 : (((nats l).getD kk 0 : Nat) : Int) < (dd.xs.length : Int) := by omega
      obtain ⟨xv, hxv⟩ : ∃ xv, dd.xs.getD ((nats l).getD kk 0) 0 = xv := ⟨_, rfl⟩
      rw [hxv] at hcx
      have HXV := Lib.hid hxv
      clear hxv
      obtain ⟨jn, hjn⟩ : ∃ jn, (nats l).getD kk 0 = jn := ⟨_, rfl⟩
      rw [hjn] at hcx hcl hi1 hjN
      have HJN := Lib.hid hjn
      clear hjn
      go_quiet (fail)
      go_wp2_with fail
      go_ret
      exact ⟨by rw [HXV.out]; rfl, by first | exact H4.out | exact below_drewN H4.out _⟩
end Go.Proofs.Ytjcdkbalhleeeab
