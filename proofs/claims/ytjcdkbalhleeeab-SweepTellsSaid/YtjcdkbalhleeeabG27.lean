/-
  Contracts of functions and plain laws that later parts of the proof use. The conditions stand in each theorem.
-/
import Derived.Test.YtjcdkbalhleeeabG17
import Derived.Test.YtjcdkbalhleeeabG10
import Derived.Test.YtjcdkbalhleeeabG26
import Derived.Test.YtjcdkbalhleeeabG06
import Derived.Test.YtjcdkbalhleeeabG16
namespace Go.Proofs.Ytjcdkbalhleeeab

/-- Both narrow alike. -/
theorem costs_up {p : PG} {l : List Int} {b : List Int} (h0 : lookE p l = 0) (hb : b.length = p.costs.length) (hs : smallB 400 b = true) (k : Nat) (hk : k ≤ (lookC p l).gs.length) :
    upZ (fun j => 0 - fN 1 (lookC p l).gs (lookC (costsOf p b) l).gd j) (fun j => 0 - fN 1 (lookC (costsOf p b) l).gs (lookC p l).gd j) k = ofZ (fN 1 (lookC p l).gs (lookC (costsOf p b) l).gd) (fN 1 (lookC (costsOf p b) l).gs (lookC p l).gd) k ∧
      NOk (ofZ (fN 1 (lookC p l).gs (lookC (costsOf p b) l).gd) (fN 1 (lookC (costsOf p b) l).gs (lookC p l).gd) k) := by
  obtain ⟨_, _, _, hc⟩ := look_corn h0
  obtain ⟨_, _, _, hd⟩ := look_corn (costs_E hb hs h0)
  refine of_up (fun _ _ => rfl) (fun _ _ => rfl) fun j hj h => ?_
  have hjn : j < p.costs.length + p.rows.length := by rw [hc.lg] at hk; omega
  have := span_made hb hc hd j hjn (by unfold gZ; intro e; apply h; unfold fN; rw [Int.one_mul]; exact e)
  unfold fN
  rw [Int.one_mul, Int.one_mul]
  exact this


end Go.Proofs.Ytjcdkbalhleeeab

namespace Go.Proofs.Ytjcdkbalhleeeab
open Go.RowKit

theorem lookE_zero' {p : PG} {l : List Int} (h : lookE p l = 0) : mayPB p = true ∧ rightA p l = true := by
  unfold lookE at h
  split at h
  · omega
  split at h
  · omega
  rename_i h1 h2
  exact ⟨by simpa using h1, by simpa using h2⟩
theorem above_call (s : NW) (a b : Int) (r : NW) (hr : r = aboveZ s a b) (w : World) (hs : NOk s) (ha : -4611686018427387904 ≤ a ∧ a ≤ 4611686018427387904) (hm : b ≠ 0 → ptE [0 - a] b = 0) :
    Calls Try.prog 106 #[.agg #[.bool s.fr.op, .int .i64 s.fr.n, .int .i64 s.fr.d, .bool s.to.op, .int .i64 s.to.n, .int .i64 s.to.d, .bool s.no], .int .i64 a, .int .i64 b] w
      fun e w' => e = .returned (.agg #[.bool r.fr.op, .int .i64 r.fr.n, .int .i64 r.fr.d, .bool r.to.op, .int .i64 r.to.n, .int .i64 r.to.d, .bool r.no]) ∧ Below w.heap.size w w' := by
  subst hr; exact ref7_above s a b w hs ha hm
theorem end_call (s : NW) (x : NW) (hx : x = if someZ s = true then s else zeroN) (w : World) (hs : NOk s) :
    Calls Try.prog 107 #[.agg #[.bool s.fr.op, .int .i64 s.fr.n, .int .i64 s.fr.d, .bool s.to.op, .int .i64 s.to.n, .int .i64 s.to.d, .bool s.no]] w
      fun e w' => e = .returned (.tuple #[.agg #[.bool x.fr.op, .int .i64 x.fr.n, .int .i64 x.fr.d, .bool x.to.op, .int .i64 x.to.n, .int .i64 x.to.d, .bool x.no], .bool (someZ s)]) ∧ Below w.heap.size w w' := by
  subst hx; exact ref7_end s w hs
set_option maxRecDepth 100000 in
set_option maxHeartbeats 4000000 in
theorem ref7_Costs (A : Option Addr) (c : Nat) (A2 : Option Addr) (c2 : Nat) (p : PG) (L : Option Addr) (l : List Int) (cl : Nat) (B : Option Addr) (b : List Int) (cb : Nat) (w : World) (hp : Pg w A c A2 c2 p) (hr : Rd w L cl l) (hb : Rd w B cb b)
    (h0 : lookE p l = 0) (hbl : b.length = p.costs.length) (hbs : smallB 400 b = true) :
    Calls Try.prog 60 #[.agg #[.slice A p.costs.length c, .slice A2 p.rows.length c2], .slice L l.length cl, .slice B b.length cb] w (RetSp w (costsN p l b)) := by
  have HP := Lib.hid hp
  have HL := Lib.hid hr
  have HD := Lib.hid hb
  obtain ⟨hm, hri⟩ := lookE_zero' h0
  have h02 := costs_E hbl hbs h0
  obtain ⟨hm2, hri2⟩ := lookE_zero' h02
  have HM := Lib.hid hm
  have HRI := Lib.hid hri
  have HM2 := Lib.hid hm2
  have HRI2 := Lib.hid hri2
  obtain ⟨_, _, _, hco⟩ := look_corn h0
  obtain ⟨_, _, _, hcd⟩ := look_corn h02
  have HUP := Lib.hid (fun k hk => costs_up h0 hbl hbs k hk)
  have HMD := Lib.hid (fun j hj h => span_made hbl hco hcd j hj h)
  obtain ⟨cc, hC⟩ : ∃ cc, lookC p l = cc := ⟨_, rfl⟩
  obtain ⟨dd, hC2⟩ : ∃ dd, lookC (costsOf p b) l = dd := ⟨_, rfl⟩
  have hE0 : (decide (lookE p l = 0)) = true := decide_eq_true h0
  have hE2 : (decide (lookE (costsOf p b) l = 0)) = true := decide_eq_true h02
  rw [show costsN p l b = ofZ (fN 1 cc.gs dd.gd) (fN 1 dd.gs cc.gd) cc.gs.length by unfold costsN; rw [hC, hC2]]
  rw [hC, hC2] at HUP
  rw [hC, hC2] at HMD
  rw [hC] at hco
  rw [hC2] at hcd
  have HC0 := Lib.hid hC
  have HC2 := Lib.hid hC2
  have HE0 := Lib.hid hE0
  have HE2 := Lib.hid hE2
  have hLG := hco.lg
  have hLG2 : dd.gs.length = p.costs.length + p.rows.length := by rw [hcd.lg]; show b.length + p.rows.length = _; omega
  have HSG := Lib.hid (mayB_parts hco.mg).2.2.1
  have HSG2 := Lib.hid (mayB_parts hcd.mg).2.2.1
  obtain ⟨gd1, gd2, _, _⟩ := mayB_parts hco.mg
  obtain ⟨ge1, ge2, _, _⟩ := mayB_parts hcd.mg
  obtain ⟨_, k2', _, k4', _, _⟩ := mayPB_iff.1 hm
  have HLG := Lib.hid hLG
  have HLG2 := Lib.hid hLG2
  obtain ⟨⟨hl, hc, hsm, _⟩, ⟨hl2, hc2, hsm2, _⟩⟩ := hp
  obtain ⟨hll, hlc, hls, _⟩ := hr
  obtain ⟨hbl', hbc, hbs', _⟩ := hb
  clear h0 hm hri h02 hm2 hri2 hco hcd hC hC2 hE0 hE2 hbl hbs hLG hLG2
  go_enter Try.func60, Try.ntmps60
  go_wp2_with fail
  have BP := Lib.hid (show Blk ((w.alloc (.cells #[.slice A p.costs.length c, .slice A2 p.rows.length c2] 25)).alloc (.cells #[.bool false, .int .i64 0, .int .i64 0, .bool false, .int .i64 0, .int .i64 0, .bool false] 112)) w.heap.size 25 #[.slice A p.costs.length c, .slice A2 p.rows.length c2] from (Blk.mk' _ _ _).alloc _)
  have BR := Lib.hid (Blk.new (w.alloc (.cells #[.slice A p.costs.length c, .slice A2 p.rows.length c2] 25)) 112 #[.bool false, .int .i64 0, .int .i64 0, .bool false, .int .i64 0, .int .i64 0, .bool false] (w.heap.size + 1) (by simp))
  have HVW := Lib.hid ((by (repeat (any_goals (first | exact Below.refl _ _ | refine below_drewN ?_ _ | refine Below.drew ?_ | refine Below.alloc ?_ ?_ _ | refine Below.setCell ?_ ?_ _))); all_goals (first | omega | (simp; done) | (simp; omega))) : Below w.heap.size w ((w.alloc (.cells #[.slice A p.costs.length c, .slice A2 p.rows.length c2] 25)).alloc (.cells #[.bool false, .int .i64 0, .int .i64 0, .bool false, .int .i64 0, .int .i64 0, .bool false] 112)))
  generalize ((w.alloc (.cells #[.slice A p.costs.length c, .slice A2 p.rows.length c2] 25)).alloc (.cells #[.bool false, .int .i64 0, .int .i64 0, .bool false, .int .i64 0, .int .i64 0, .bool false] 112)) = V at *
  have zV := HVW.out.size
  have lR := BR.out.lt
  refine (ref3_Look _ _ _ _ _ _ _ _ _ (HP.out.below HVW.out) (HL.out.below HVW.out) HM.out HRI.out).mono ?_
  rw [HE0.out, HC0.out]
  rintro e w1 ⟨X, cx, Y, cy, G, cg, rfl, hX, hY, hG, hb1⟩
  have HCn := Lib.hid (Cn.mk hX hY hG)
  have H1 := Lib.hid hb1
  have z01 := hb1.size
  have lq1 : w.heap.size + 1 < w1.heap.size := by omega
  clear hX hY hG hb1
  go_upto_region 2 with fail
  have BC := Lib.hid (Blk.mk' w1 42 #[.slice X cc.xs.length cx, .int .i64 cc.xd, .slice Y cc.ys.length cy, .int .i64 cc.yd, .slice G cc.gs.length cg, .int .i64 cc.gd])
  have HWL := ((Below.refl _ w1).alloc (Nat.le_refl _) (.cells #[.slice X cc.xs.length cx, .int .i64 cc.xd, .slice Y cc.ys.length cy, .int .i64 cc.yd, .slice G cc.gs.length cg, .int .i64 cc.gd] 42))
  have HV1 := Lib.hid ((H1.out).trans (HWL.mono (H1.out).size))
  have HCW1 := Lib.hid ((HCn.out).below HWL)
  clear HWL
  generalize (w1.alloc (.cells #[.slice X cc.xs.length cx, .int .i64 cc.xd, .slice Y cc.ys.length cy, .int .i64 cc.yd, .slice G cc.gs.length cg, .int .i64 cc.gd] 42)) = W1 at *
  have p1 : W1.cell? ⟨w.heap.size, 1, none⟩ = some (.slice A2 p.rows.length c2) := (BP.out.next HV1.out).cell 1
  have HBW1 := Lib.hid (HVW.out.trans (HV1.out.mono zV))
  have zV1 := HV1.out.size
  go_wp2_with fail
  refine (ref3_Look _ _ _ _ (costsOf p b) _ _ _ _ ⟨HD.out.below HBW1.out, (HP.out.below HBW1.out).rows⟩ (HL.out.below HBW1.out) HM2.out HRI2.out).mono ?_
  rw [HE2.out, HC2.out]
  rintro e w3 ⟨X', cx', Y', cy', G', cg', rfl, hX, hY, hG, hb3⟩
  have HDn := Lib.hid (Cn.mk hX hY hG)
  have H3 := Lib.hid (HV1.out.trans (hb3.mono zV1))
  have H13 := Lib.hid hb3
  have z03 := hb3.size
  clear hX hY hG hb3 p1
  go_upto_region 3 with fail
  have BD := Lib.hid (Blk.mk' w3 42 #[.slice X' dd.xs.length cx', .int .i64 dd.xd, .slice Y' dd.ys.length cy', .int .i64 dd.yd, .slice G' dd.gs.length cg', .int .i64 dd.gd])
  have HWL := ((Below.refl _ w3).alloc (Nat.le_refl _) (.cells #[.slice X' dd.xs.length cx', .int .i64 dd.xd, .slice Y' dd.ys.length cy', .int .i64 dd.yd, .slice G' dd.gs.length cg', .int .i64 dd.gd] 42))
  have HV3 := Lib.hid ((H13.out).trans (HWL.mono (H13.out).size))
  have HDW := Lib.hid ((HDn.out).below HWL)
  clear HWL
  generalize (w3.alloc (.cells #[.slice X' dd.xs.length cx', .int .i64 dd.xd, .slice Y' dd.ys.length cy', .int .i64 dd.yd, .slice G' dd.gs.length cg', .int .i64 dd.gd] 42)) = W3 at *
  have BC3 := Lib.hid (BC.out.next HV3.out)
  have zW3 := HV3.out.size
  go_wp2_with fail
  refine (ref7_whole _).mono ?_
  rintro e w4 ⟨rfl, hb4⟩
  have z34 := hb4.size
  go_upto_region 4 with fail
  have BS := Lib.hid (show Blk (w4.alloc (.cells #[.bool true, .int .i64 0, .int .i64 0, .bool true, .int .i64 0, .int .i64 0, .bool false] 112)) w4.heap.size 112 (nwA (upZ (fun j => 0 - fN 1 cc.gs dd.gd j) (fun j => 0 - fN 1 dd.gs cc.gd j) 0)) from Blk.mk' _ _ _)
  have HG4 := Lib.hid ((HCW1.out.g.below HV3.out).below hb4)
  have HG4' := Lib.hid (HDW.out.g.below hb4)
  have HW45 := Lib.hid ((Below.refl w4.heap.size w4).alloc (Nat.le_refl _) (.cells #[.bool true, .int .i64 0, .int .i64 0, .bool true, .int .i64 0, .int .i64 0, .bool false] 112))
  have HV5 := Lib.hid (hb4.alloc z34 (.cells #[.bool true, .int .i64 0, .int .i64 0, .bool true, .int .i64 0, .int .i64 0, .bool false] 112))
  clear hb4
  generalize (w4.alloc (.cells #[.bool true, .int .i64 0, .int .i64 0, .bool true, .int .i64 0, .int .i64 0, .bool false] 112)) = W5 at *
  have BC5 := Lib.hid (BC3.out.next HV5.out)
  have BD5 := Lib.hid (BD.out.next HV5.out)
  have HW15 := HV3.out.trans (HV5.out.mono zW3)
  have HVV5 := Lib.hid (HV1.out.trans (HW15.mono zV1))
  have BR5 := Lib.hid (BR.out.next HVV5.out)
  have HW5 := Lib.hid (HVW.out.trans (HVV5.out.mono zV))
  have lS := BS.out.lt
  have lc1 := BC3.out.lt
  have lc3 := BD.out.lt
  have zS : w.heap.size + 1 < w4.heap.size := by omega
  rw [HLG.out] at BC5
  rw [HLG2.out] at BD5
  clear HW15
  go_wp2_with fail
  go_loopw [13] (fun i wx => ∃ k : Nat, k ≤ p.costs.length + p.rows.length ∧ i = .int .i64 k ∧ Blk wx w4.heap.size 112 (nwA (upZ (fun j => 0 - fN 1 cc.gs dd.gd j) (fun j => 0 - fN 1 dd.gs cc.gd j) k)) ∧ Turned (· = w4.heap.size) W5 wx) (fun i _ => p.costs.length + p.rows.length - (intOf i).toNat)
  case atStart => exact ⟨0, by omega, rfl, BS.out, Turned.refl _ _⟩
  case round =>
    obtain ⟨k, hk, rfl, hS, hT⟩ := hrel
    have HS := Lib.hid hS
    have HT := Lib.hid hT
    have hTB := hT.below (B := w4.heap.size) (by omega) (fun k e => by omega)
    have HUW := Lib.hid (hTB.mono (Nat.le_refl _))
    have BC6 := Lib.hid (BC5.out.turned hT (by omega))
    have BD6 := Lib.hid (BD5.out.turned hT (by omega))
    clear hS hT hTB
    rename World => U
    by_cases hlt : k < p.costs.length + p.rows.length
    · have HX := Lib.hid (HG4.out.below (HW45.out.trans HUW.out))
      have HY := Lib.hid (HG4'.out.below (HW45.out.trans HUW.out))
      obtain ⟨ag, rfl, hcx⟩ := HX.out.getDk (k := k) (by rw [HLG.out]; exact hlt)
      obtain ⟨ah, rfl, hcy⟩ := HY.out.getDk (k := k) (by rw [HLG2.out]; exact hlt)
      have hagl := World.block_lt_of_cell? _ _ hcx
      have hahl := World.block_lt_of_cell? _ _ hcy
      have hb1 := smallB_atD HSG.out k
      have hb2 := smallB_atD HSG2.out k
      obtain ⟨hup, hok⟩ := HUP.out k (by rw [HLG.out]; omega)
      rw [← hup] at hok
      obtain ⟨sk, hsk⟩ : ∃ sk, sk = upZ (fun j => 0 - fN 1 cc.gs dd.gd j) (fun j => 0 - fN 1 dd.gs cc.gd j) k := ⟨_, rfl⟩
      have HSk := HS.out
      rw [← hsk] at hok HSk
      have hsucc : upZ (fun j => 0 - fN 1 cc.gs dd.gd j) (fun j => 0 - fN 1 dd.gs cc.gd j) (k + 1) = aboveZ sk (-(cc.gs.getD k 0 * dd.gd)) (-(dd.gs.getD k 0 * cc.gd)) := by
        rw [upZ_succ, ← hsk]
        show aboveZ sk (0 - fN 1 cc.gs dd.gd k) (0 - fN 1 dd.gs cc.gd k) = _
        unfold fN
        rw [Int.one_mul, Int.one_mul, Int.zero_sub, Int.zero_sub]
      have HS' := Lib.hid HSk
      have hmd := HMD.out k hlt
      unfold fZ gZ at hmd
      generalize cc.gs.getD k 0 = xv at *
      generalize dd.gs.getD k 0 = yv at *
      obtain ⟨hm1, hm2⟩ := mul_bound xv dd.gd 1073741824 1073741824 hb1.1 hb1.2 (by omega) ge2
      obtain ⟨hm3, hm4⟩ := mul_bound yv cc.gd 1073741824 1073741824 hb2.1 hb2.2 (by omega) gd2
      obtain ⟨r, hr⟩ : ∃ r, r = aboveZ sk (-(xv * dd.gd)) (-(yv * cc.gd)) := ⟨_, rfl⟩
      rw [← hr] at hsucc
      have HC := Lib.hid (show ∀ u : Wk U, Calls Try.prog 106 #[.agg #[.bool sk.fr.op, .int .i64 sk.fr.n, .int .i64 sk.fr.d, .bool sk.to.op, .int .i64 sk.to.n, .int .i64 sk.to.d, .bool sk.no], .int .i64 (-(xv * dd.gd)), .int .i64 (-(yv * cc.gd))] u.1
          fun e w' => e = .returned (.agg #[.bool r.fr.op, .int .i64 r.fr.n, .int .i64 r.fr.d, .bool r.to.op, .int .i64 r.to.n, .int .i64 r.to.d, .bool r.no]) ∧ Below u.1.heap.size u.1 w' from
        fun u => above_call sk _ _ r hr u.1 hok (by omega) (fun h => by
          have hne : yv * cc.gd ≠ 0 := fun e => h (by rw [e]; rfl)
          have := hmd hne
          rw [Int.zero_sub, (ptE_neg hne).1]; exact this))
      have HSC := Lib.hid hsucc
      have hw1 : IntKind.i64.wrap (xv * dd.gd) = xv * dd.gd := IntWalk.i64_in _ (by omega)
      have hw2 : IntKind.i64.wrap (-(xv * dd.gd)) = -(xv * dd.gd) := IntWalk.i64_in _ (by omega)
      have hw3 : IntKind.i64.wrap (yv * cc.gd) = yv * cc.gd := IntWalk.i64_in _ (by omega)
      have hw4 : IntKind.i64.wrap (-(yv * cc.gd)) = -(yv * cc.gd) := IntWalk.i64_in _ (by omega)
      have v4 : U.cell? ⟨w1.heap.size, 4, none⟩ = some (.slice (some ag) (p.costs.length + p.rows.length) cg) := BC6.out.cell 4
      have s0 : ∀ u : Wk U, u.1.cell? ⟨w1.heap.size, 4, none⟩ = some (.slice (some ag) (p.costs.length + p.rows.length) cg) := fun u => (BC6.out.next u.2).cell 4
      have s1 : ∀ u : Wk U, u.1.cell? ⟨w1.heap.size, 5, none⟩ = some (.int .i64 cc.gd) := fun u => (BC6.out.next u.2).cell 5
      have s2 : ∀ u : Wk U, u.1.cell? ⟨w3.heap.size, 4, none⟩ = some (.slice (some ah) (p.costs.length + p.rows.length) cg') := fun u => (BD6.out.next u.2).cell 4
      have s3 : ∀ u : Wk U, u.1.cell? ⟨w3.heap.size, 5, none⟩ = some (.int .i64 dd.gd) := fun u => (BD6.out.next u.2).cell 5
      have s4 : ∀ u : Wk U, u.1.cell? (ag.add k) = some (.int .i64 xv) := fun u => (u.2.cell hagl).trans hcx
      have s5 : ∀ u : Wk U, u.1.cell? (ah.add k) = some (.int .i64 yv) := fun u => (u.2.cell hahl).trans hcy
      have k0 : ∀ u : Wk U, u.1.cell? ⟨w4.heap.size, 0, none⟩ = some (.bool sk.fr.op) := fun u => ((HS'.out).next u.2).cell 0
      have k1 : ∀ u : Wk U, u.1.cell? ⟨w4.heap.size, 1, none⟩ = some (.int .i64 sk.fr.n) := fun u => ((HS'.out).next u.2).cell 1
      have k2 : ∀ u : Wk U, u.1.cell? ⟨w4.heap.size, 2, none⟩ = some (.int .i64 sk.fr.d) := fun u => ((HS'.out).next u.2).cell 2
      have k3 : ∀ u : Wk U, u.1.cell? ⟨w4.heap.size, 3, none⟩ = some (.bool sk.to.op) := fun u => ((HS'.out).next u.2).cell 3
      have k4 : ∀ u : Wk U, u.1.cell? ⟨w4.heap.size, 4, none⟩ = some (.int .i64 sk.to.n) := fun u => ((HS'.out).next u.2).cell 4
      have k5 : ∀ u : Wk U, u.1.cell? ⟨w4.heap.size, 5, none⟩ = some (.int .i64 sk.to.d) := fun u => ((HS'.out).next u.2).cell 5
      have k6 : ∀ u : Wk U, u.1.cell? ⟨w4.heap.size, 6, none⟩ = some (.bool sk.no) := fun u => ((HS'.out).next u.2).cell 6
      have f0 : ∀ u : Wk U, u.1.frozen? ⟨w4.heap.size, 0, none⟩ = false := fun u => ((HS'.out).next u.2).frozen 0
      have f1 : ∀ u : Wk U, u.1.frozen? ⟨w4.heap.size, 1, none⟩ = false := fun u => ((HS'.out).next u.2).frozen 1
      have f2 : ∀ u : Wk U, u.1.frozen? ⟨w4.heap.size, 2, none⟩ = false := fun u => ((HS'.out).next u.2).frozen 2
      have f3 : ∀ u : Wk U, u.1.frozen? ⟨w4.heap.size, 3, none⟩ = false := fun u => ((HS'.out).next u.2).frozen 3
      have f4 : ∀ u : Wk U, u.1.frozen? ⟨w4.heap.size, 4, none⟩ = false := fun u => ((HS'.out).next u.2).frozen 4
      have f5 : ∀ u : Wk U, u.1.frozen? ⟨w4.heap.size, 5, none⟩ = false := fun u => ((HS'.out).next u.2).frozen 5
      have f6 : ∀ u : Wk U, u.1.frozen? ⟨w4.heap.size, 6, none⟩ = false := fun u => ((HS'.out).next u.2).frozen 6
      have hi0 : (k : Int) < (p.costs.length : Int) + (p.rows.length : Int) := by omega
      have hkd : decide ((k : Int) < (p.costs.length : Int) + (p.rows.length : Int)) = true := by simp; omega
      clear hb1 hb2 hm1 hm2 hm3 hm4 hup hok hsucc hmd hr hsk HSk hcx hcy
      go_wp2_with fail
      refine wk_tail 24 (by kernel_rfl) (by kernel_rfl) ?_
      simp only [List.take_succ_cons, List.take_zero, List.drop_succ_cons, List.drop_zero]
      repeat (go_big_quiet_step ((go_at_call 106; with_reducible exact wk_call (HC.out _))))
      refine wpQuiet_nil ?_
      rintro w7 ⟨u7, rfl⟩
      go_wp2_with fail
      go_roundw
      case rel =>
        refine ⟨k + 1, by omega, by go_num, ?_, ?_⟩
        · rw [HSC.out]
          exact (((((((HS'.out.next u7.2).set0 0 (.bool r.fr.op)).set0 1 (.int .i64 r.fr.n)).set0 2 (.int .i64 r.fr.d)).set0 3 (.bool r.to.op)).set0 4 (.int .i64 r.to.n)).set0 5 (.int .i64 r.to.d)).set0 6 (.bool r.no)
        · iterate 7 refine Turned.setCell (S := (· = w4.heap.size)) ?_ rfl _
          exact HT.out.trans (Turned.of_below u7.2)
      case measure => simp [intOf]; omega
    · obtain rfl : k = p.costs.length + p.rows.length := by omega
      obtain ⟨hup, hok⟩ := HUP.out (p.costs.length + p.rows.length) (by rw [HLG.out]; exact Nat.le_refl _)
      have hSk := HS.out
      rw [hup] at hSk
      obtain ⟨sk, hsk⟩ : ∃ sk, sk = ofZ (fN 1 cc.gs dd.gd) (fN 1 dd.gs cc.gd) (p.costs.length + p.rows.length) := ⟨_, rfl⟩
      rw [← hsk] at hSk hok
      have HSE := Lib.hid hsk
      have HS' := Lib.hid hSk
      have HOK := Lib.hid hok
      obtain ⟨x, hx⟩ : ∃ x, x = if someZ sk = true then sk else zeroN := ⟨_, rfl⟩
      have HX := Lib.hid hx
      have v4 : U.cell? ⟨w1.heap.size, 4, none⟩ = some (.slice G (p.costs.length + p.rows.length) cg) := BC6.out.cell 4
      have k0 : U.cell? ⟨w4.heap.size, 0, none⟩ = some (.bool sk.fr.op) := HS'.out.cell 0
      have k1 : U.cell? ⟨w4.heap.size, 1, none⟩ = some (.int .i64 sk.fr.n) := HS'.out.cell 1
      have k2 : U.cell? ⟨w4.heap.size, 2, none⟩ = some (.int .i64 sk.fr.d) := HS'.out.cell 2
      have k3 : U.cell? ⟨w4.heap.size, 3, none⟩ = some (.bool sk.to.op) := HS'.out.cell 3
      have k4 : U.cell? ⟨w4.heap.size, 4, none⟩ = some (.int .i64 sk.to.n) := HS'.out.cell 4
      have k5 : U.cell? ⟨w4.heap.size, 5, none⟩ = some (.int .i64 sk.to.d) := HS'.out.cell 5
      have k6 : U.cell? ⟨w4.heap.size, 6, none⟩ = some (.bool sk.no) := HS'.out.cell 6
      have hkd : decide ((p.costs.length : Int) + (p.rows.length : Int) < (p.costs.length : Int) + (p.rows.length : Int)) = false := by simp
      have BR6 := Lib.hid (BR5.out.turned HT.out (by omega))
      have HWU := Lib.hid (HW5.out.trans (HUW.out.mono (by omega)))
      have zWU := HWU.out.size
      clear hup hSk hok hx hsk
      go_wp2_with fail
      refine (end_call sk x HX.out _ HOK.out).mono ?_
      rintro e w8 ⟨rfl, hb8⟩
      have BR8 := Lib.hid (BR6.out.next hb8)
      have HB8 := Lib.hid (HWU.out.trans (hb8.mono zWU))
      have r0 : (w8).cell? ⟨w.heap.size + 1, 0, none⟩ = some (.bool false) := (BR8.out).cell 0
      have r1 : (w8).cell? ⟨w.heap.size + 1, 1, none⟩ = some (.int .i64 0) := (BR8.out).cell 1
      have r2 : (w8).cell? ⟨w.heap.size + 1, 2, none⟩ = some (.int .i64 0) := (BR8.out).cell 2
      have r3 : (w8).cell? ⟨w.heap.size + 1, 3, none⟩ = some (.bool false) := (BR8.out).cell 3
      have r4 : (w8).cell? ⟨w.heap.size + 1, 4, none⟩ = some (.int .i64 0) := (BR8.out).cell 4
      have r5 : (w8).cell? ⟨w.heap.size + 1, 5, none⟩ = some (.int .i64 0) := (BR8.out).cell 5
      have r6 : (w8).cell? ⟨w.heap.size + 1, 6, none⟩ = some (.bool false) := (BR8.out).cell 6
      have q0 := (BR8.out).frozen 0
      have q1 := (BR8.out).frozen 1
      have q2 := (BR8.out).frozen 2
      have q3 := (BR8.out).frozen 3
      have q4 := (BR8.out).frozen 4
      have q5 := (BR8.out).frozen 5
      have q6 := (BR8.out).frozen 6
      clear hb8
      go_wp2_with fail
      refine bodyPost_ret (v := .tuple #[.agg #[.bool x.fr.op, .int .i64 x.fr.n, .int .i64 x.fr.d, .bool x.to.op, .int .i64 x.to.n, .int .i64 x.to.d, .bool x.no], .bool (someZ sk)]) ?_ ?_ ?_
      · simp [results, Try.results60, go_sem, r0, r1, r2, r3, r4, r5, r6]
      · rfl
      · unfold RetSp
        rw [HLG.out, ← HSE.out, ← HX.out]
        refine ⟨rfl, ?_⟩
        iterate 7 refine Below.setCell ?_ (by first | (simp; done) | (simp; omega)) _
        exact HB8.out
end Go.Proofs.Ytjcdkbalhleeeab
