/-
  The walk of the law CornerComes: it returns true. No condition but that its arguments read as a program and columns.
-/
import Derived.Test.YtjcdkbalhleeeaaLook2
import Derived.Test.YtjcdkbalhleeeaaCorn2
namespace Go.Proofs.Ytjcdkbalhleeeaa
open Go.RowKit

theorem lookE_zero {p : PG} {l : List Int} (h : lookE p l = 0) : mayPB p = true ∧ rightA p l = true := by
  unfold lookE at h
  split at h
  · omega
  split at h
  · omega
  rename_i h1 h2
  exact ⟨by simpa using h1, by simpa using h2⟩
theorem Rd.takeN {w : World} {A : Option Addr} {c : Nat} {l : List Int} (h : Rd w A c l) (n : Nat) (hn : n ≤ l.length) : Rd w A c (l.take n) ∧ (l.take n).length = n := by
  have hl : (l.take n).length = n := by rw [List.length_take]; omega
  refine ⟨⟨by rw [hl]; have := h.le; omega, h.cap, by rw [hl]; have := h.small; omega, fun h0 => ?_⟩, hl⟩
  simp only [List.length_map] at h0
  obtain ⟨ad, e, hc⟩ := h.cells (by simp; omega)
  refine ⟨ad, e, fun j u hu => hc j u ?_⟩
  rw [List.map_take, List.getElem?_take] at hu
  split at hu
  · exact hu
  · simp at hu
/-- The program that the law knows. -/
def onePC : PG := ⟨[5], [([2], 3)]⟩
theorem onePC_xs : (lookC onePC [0]).xs = [3, 0] := by decide +kernel
theorem onePC_xd : (lookC onePC [0]).xd = 2 := by decide +kernel
theorem Rw.one' {w : World} {b b2 : Nat} {n z : Int} (h0 : w.cell? ⟨b, 0, none⟩ = some (.slice (some ⟨b2, 0, none⟩) 1 1)) (h1 : w.cell? ⟨b, 1, none⟩ = some (.int .i64 z)) (hr : Rd w (some ⟨b2, 0, none⟩) 1 [n]) : Rw w (some ⟨b, 0, none⟩) 1 [([n], z)] := by
  refine ⟨by simp, by omega, by simp, fun _ => ⟨_, rfl, fun j hj => ?_⟩⟩
  obtain rfl : j = 0 := by simpa using hj
  exact ⟨_, _, h0, h1, hr⟩
def RetKn (w : World) (e : Ending) (w' : World) : Prop :=
  ∃ X cx Y yl cy yd G gl cg gd er, e = .returned (.tuple #[.agg #[.slice X 2 cx, .int .i64 2, .slice Y yl cy, .int .i64 yd, .slice G gl cg, .int .i64 gd], .int .i64 er]) ∧ Rd w' X cx [3, 0] ∧ Below w.heap.size w w'
theorem known_look (a b r q : Nat) (W : World) (ha : Rd W (some ⟨a, 0, none⟩) 1 [5]) (hb : Rd W (some ⟨b, 0, none⟩) 1 [2]) (hr0 : W.cell? ⟨r, 0, none⟩ = some (.slice (some ⟨b, 0, none⟩) 1 1)) (hr1 : W.cell? ⟨r, 1, none⟩ = some (.int .i64 3)) (hq : Rd W (some ⟨q, 0, none⟩) 1 [0]) :
    Calls Try.prog 29 #[.agg #[.slice (some ⟨a, 0, none⟩) 1 1, .slice (some ⟨r, 0, none⟩) 1 1], .slice (some ⟨q, 0, none⟩) 1 1] W (RetKn W) := by
  refine (corner_Look (some ⟨a, 0, none⟩) 1 (some ⟨r, 0, none⟩) 1 onePC (some ⟨q, 0, none⟩) [0] 1 W ⟨ha, Rw.one' hr0 hr1 hb⟩ hq).mono ?_
  rintro e w' ⟨X, cx, Y, cy, G, cg, rfl, hX, _, _, hb'⟩
  rw [onePC_xs] at hX
  rw [onePC_xs, onePC_xd]
  exact ⟨X, cx, Y, _, cy, _, G, _, cg, _, _, rfl, hX, hb'⟩
set_option maxRecDepth 100000 in
set_option maxHeartbeats 4000000 in
theorem cornerComes_walk (A : Option Addr) (c : Nat) (A2 : Option Addr) (c2 : Nat) (p : PG) (L : Option Addr) (l : List Int) (cl : Nat) (w : World) (hp : Pg w A c A2 c2 p) (hr : Rd w L cl l) :
    Calls Try.prog 7 #[.agg #[.slice A p.costs.length c, .slice A2 p.rows.length c2], .slice L l.length cl] w fun e w' => e = .returned (.bool true) ∧ Below w.heap.size w w' := by
  have HP := Lib.hid hp
  have HL := Lib.hid hr
  have HV := Lib.hid (Blk.mk' w 40 #[.slice A p.costs.length c, .slice A2 p.rows.length c2])
  have hbU := ((by (repeat (any_goals (first | exact Below.refl _ _ | refine below_drewN ?_ _ | refine Below.drew ?_ | refine Below.alloc ?_ ?_ _ | refine Below.setCell ?_ ?_ _))); all_goals (first | omega | (simp; done) | (simp; omega))) : Below w.heap.size w (w.alloc (.cells #[.slice A p.costs.length c, .slice A2 p.rows.length c2] 40)))
  have HBU := Lib.hid hbU
  obtain ⟨⟨hl, hc, hsm, _⟩, ⟨hl2, hc2, hsm2, _⟩⟩ := hp
  obtain ⟨hll, hlc, hls, _⟩ := hr
  clear hbU
  go_enter Try.func7, Try.ntmps7
  go_wp2_with fail
  generalize (w.alloc (.cells #[.slice A p.costs.length c, .slice A2 p.rows.length c2] 40)) = U at *
  refine (corner_Look _ _ _ _ _ _ _ _ _ (HP.out.below HBU.out) (HL.out.below HBU.out)).mono ?_
  obtain ⟨cc, hC⟩ : ∃ cc, lookC p l = cc := ⟨_, rfl⟩
  obtain ⟨ee, hE⟩ : ∃ ee, lookE p l = ee := ⟨_, rfl⟩
  rw [hC, hE]
  rintro e w1 ⟨X, cx, Y, cy, G, cg, rfl, hX, hY, hG, hb1⟩
  have HX := Lib.hid hX
  have HY := Lib.hid hY
  have HG := Lib.hid hG
  have H1 := Lib.hid hb1
  have z1 := hb1.size
  have HCC := Lib.hid hC
  have HEE := Lib.hid hE
  clear hX hY hG hb1 hC hE
  go_wp2_with fail
  have hb6 : Below w1.heap.size w1
    (
      ((((((w1.alloc (.cells #[.slice X cc.xs.length cx, .int .i64 cc.xd, .slice Y cc.ys.length cy, .int .i64 cc.yd, .slice G cc.gs.length cg, .int .i64 cc.gd] 47)).alloc (.cells #[.int .i64 5] 2)).alloc (.cells #[.int .i64 2] 2)).alloc (.cells #[.slice (some ⟨w1.heap.size + 1 + 1, 0, none⟩) 1 1, .int .i64 3] 55)).alloc (.cells #[.slice (some ⟨w1.heap.size + 1, 0, none⟩) 1 1, .slice (some ⟨w1.heap.size + 1 + 1 + 1, 0, none⟩) 1 1] 40)).alloc (.cells #[.int .i64 0] 3))
    ) := (by iterate 6 refine Below.alloc ?_ (by first | (simp; done) | (simp; omega)) _
             exact Below.refl _ _)
  have VC := Lib.hid (show Blk
    (
      ((((((w1.alloc (.cells #[.slice X cc.xs.length cx, .int .i64 cc.xd, .slice Y cc.ys.length cy, .int .i64 cc.yd, .slice G cc.gs.length cg, .int .i64 cc.gd] 47)).alloc (.cells #[.int .i64 5] 2)).alloc (.cells #[.int .i64 2] 2)).alloc (.cells #[.slice (some ⟨w1.heap.size + 1 + 1, 0, none⟩) 1 1, .int .i64 3] 55)).alloc (.cells #[.slice (some ⟨w1.heap.size + 1, 0, none⟩) 1 1, .slice (some ⟨w1.heap.size + 1 + 1 + 1, 0, none⟩) 1 1] 40)).alloc (.cells #[.int .i64 0] 3))
    ) w1.heap.size 47 #[.slice X cc.xs.length cx, .int .i64 cc.xd, .slice Y cc.ys.length cy, .int .i64 cc.yd, .slice G cc.gs.length cg, .int .i64 cc.gd] from (((((Blk.mk' _ _ _).alloc _).alloc _).alloc _).alloc _).alloc _)
  have r5 : Rd
    (
      ((((((w1.alloc (.cells #[.slice X cc.xs.length cx, .int .i64 cc.xd, .slice Y cc.ys.length cy, .int .i64 cc.yd, .slice G cc.gs.length cg, .int .i64 cc.gd] 47)).alloc (.cells #[.int .i64 5] 2)).alloc (.cells #[.int .i64 2] 2)).alloc (.cells #[.slice (some ⟨w1.heap.size + 1 + 1, 0, none⟩) 1 1, .int .i64 3] 55)).alloc (.cells #[.slice (some ⟨w1.heap.size + 1, 0, none⟩) 1 1, .slice (some ⟨w1.heap.size + 1 + 1 + 1, 0, none⟩) 1 1] 40)).alloc (.cells #[.int .i64 0] 3))
    ) (some ⟨w1.heap.size + 1, 0, none⟩) 1 [5] := ((((Rd.new1 _ _ _ _ (by simp)).alloc _).alloc _).alloc _).alloc _
  have r2 : Rd
    (
      ((((((w1.alloc (.cells #[.slice X cc.xs.length cx, .int .i64 cc.xd, .slice Y cc.ys.length cy, .int .i64 cc.yd, .slice G cc.gs.length cg, .int .i64 cc.gd] 47)).alloc (.cells #[.int .i64 5] 2)).alloc (.cells #[.int .i64 2] 2)).alloc (.cells #[.slice (some ⟨w1.heap.size + 1 + 1, 0, none⟩) 1 1, .int .i64 3] 55)).alloc (.cells #[.slice (some ⟨w1.heap.size + 1, 0, none⟩) 1 1, .slice (some ⟨w1.heap.size + 1 + 1 + 1, 0, none⟩) 1 1] 40)).alloc (.cells #[.int .i64 0] 3))
    ) (some ⟨w1.heap.size + 1 + 1, 0, none⟩) 1 [2] := (((Rd.new1 _ _ _ _ (by simp)).alloc _).alloc _).alloc _
  have r0 : Rd
    (
      ((((((w1.alloc (.cells #[.slice X cc.xs.length cx, .int .i64 cc.xd, .slice Y cc.ys.length cy, .int .i64 cc.yd, .slice G cc.gs.length cg, .int .i64 cc.gd] 47)).alloc (.cells #[.int .i64 5] 2)).alloc (.cells #[.int .i64 2] 2)).alloc (.cells #[.slice (some ⟨w1.heap.size + 1 + 1, 0, none⟩) 1 1, .int .i64 3] 55)).alloc (.cells #[.slice (some ⟨w1.heap.size + 1, 0, none⟩) 1 1, .slice (some ⟨w1.heap.size + 1 + 1 + 1, 0, none⟩) 1 1] 40)).alloc (.cells #[.int .i64 0] 3))
    ) (some ⟨w1.heap.size + 1 + 1 + 1 + 1 + 1, 0, none⟩) 1 [0] := Rd.new1 _ _ _ _ (by simp)
  have rB : Blk
    (
      ((((((w1.alloc (.cells #[.slice X cc.xs.length cx, .int .i64 cc.xd, .slice Y cc.ys.length cy, .int .i64 cc.yd, .slice G cc.gs.length cg, .int .i64 cc.gd] 47)).alloc (.cells #[.int .i64 5] 2)).alloc (.cells #[.int .i64 2] 2)).alloc (.cells #[.slice (some ⟨w1.heap.size + 1 + 1, 0, none⟩) 1 1, .int .i64 3] 55)).alloc (.cells #[.slice (some ⟨w1.heap.size + 1, 0, none⟩) 1 1, .slice (some ⟨w1.heap.size + 1 + 1 + 1, 0, none⟩) 1 1] 40)).alloc (.cells #[.int .i64 0] 3))
    ) (w1.heap.size + 1 + 1 + 1) 55 #[.slice (some ⟨w1.heap.size + 1 + 1, 0, none⟩) 1 1, .int .i64 3] := ((Blk.new _ _ _ _ (by simp)).alloc _).alloc _
  generalize
    (
      ((((((w1.alloc (.cells #[.slice X cc.xs.length cx, .int .i64 cc.xd, .slice Y cc.ys.length cy, .int .i64 cc.yd, .slice G cc.gs.length cg, .int .i64 cc.gd] 47)).alloc (.cells #[.int .i64 5] 2)).alloc (.cells #[.int .i64 2] 2)).alloc (.cells #[.slice (some ⟨w1.heap.size + 1 + 1, 0, none⟩) 1 1, .int .i64 3] 55)).alloc (.cells #[.slice (some ⟨w1.heap.size + 1, 0, none⟩) 1 1, .slice (some ⟨w1.heap.size + 1 + 1 + 1, 0, none⟩) 1 1] 40)).alloc (.cells #[.int .i64 0] 3))
    ) = W at *
  refine (known_look _ _ _ _ W r5 r2 (rB.cell 0) (rB.cell 1) r0).mono ?_
  rintro e w2 ⟨KX, kx, KY, ly, ky, yd, KG, lg, kg, gd, er, rfl, hKX, hb2⟩
  obtain ⟨ak, rfl, hk0⟩ := hKX.at_ (k := 0) (by simp)
  simp at hk0
  have hkx := hKX.le
  have hkx2 := hKX.cap
  have hakl := World.block_lt_of_cell? _ _ hk0
  have HWW := Lib.hid (show Below U.heap.size U W from H1.out.trans (hb6.mono z1))
  have zW := HWW.out.size
  have HW2 := Lib.hid (hb2)
  have z2 := hb2.size
  have hk1 : ∀ o, (w2.alloc o).cell? (ak.add 0) = some (.int .i64 3) := fun o => (World.cell?_alloc_lt w2 o _ hakl).trans hk0
  have hk2 : ∀ o, (w2.alloc o).cell? ak = some (.int .i64 3) := fun o => hk1 o
  simp only [List.length_cons, List.length_nil] at hkx
  have H16 := Lib.hid hb6
  clear r5 r2 r0 rB hb2 hKX hb6
  by_cases h0 : ee = 0
  · subst h0
    obtain ⟨hm, hri⟩ := lookE_zero HEE.out
    obtain ⟨gx, gy, gg, hco⟩ := look_corn HEE.out
    rw [HCC.out] at hco
    have HK := Lib.hid hco
    obtain ⟨g1, g2, g3, g4, g5, g6⟩ := mayPB_iff.1 hm
    have HM := Lib.hid hm
    have HRI := Lib.hid hri
    obtain ⟨xd1, xd2, hxs, _⟩ := mayB_parts hco.mx
    obtain ⟨yd1, yd2, hys, _⟩ := mayB_parts hco.my
    have HXS := Lib.hid hxs
    have HYS := Lib.hid hys
    have HLX := Lib.hid hco.lx
    have HLY := Lib.hid hco.ly
    have HLG := Lib.hid hco.lg
    have hN : l.length = p.rows.length := by simp [rightA] at hri; exact hri.1
    have HN := Lib.hid hN
    have HX2 := Lib.hid (HX.out.below (H16.out.trans (HW2.out.mono H16.out.size)))
    have HY2 := Lib.hid (HY.out.below (H16.out.trans (HW2.out.mono H16.out.size)))
    have HG2 := Lib.hid (HG.out.below (H16.out.trans (HW2.out.mono H16.out.size)))
    have hcx := HX.out.le
    have hcx2 := HX.out.cap
    have hcy := HY.out.le
    have hcy2 := HY.out.cap
    have hcg := HG.out.le
    have hcg2 := HG.out.cap
    rw [HLX.out] at hcx
    rw [HLY.out] at hcy
    rw [HLG.out] at hcg
    have HQ := Lib.hid (right_nats hri).2
    have hBW := HWW.out.trans (HW2.out.mono zW)
    have HPz := Lib.hid (HP.out.below (HBU.out.trans (hBW.mono HBU.out.size)))
    have HLz := Lib.hid (HL.out.below (HBU.out.trans (hBW.mono HBU.out.size)))
    have HBW := Lib.hid (HBU.out.trans (hBW.mono HBU.out.size))
    have HV2 := Lib.hid (HV.out.next hBW)
    have lv : w1.heap.size < w2.heap.size := by have := VC.out.lt; omega
    have lb : w.heap.size < w2.heap.size := HV2.out.lt
    have VC2 := Lib.hid (VC.out.next HW2.out)
    rw [HLX.out, HLY.out, HLG.out] at VC2
    clear hm hri hco hxs hys g6 hN hBW VC HV hkx hkx2
    have SC := Lib.hid (show ∀ w', Below w2.heap.size w2 w' → (w'.cell? ⟨w.heap.size, 0, none⟩ = some (.slice A p.costs.length c) ∧ w'.cell? ⟨w.heap.size, 1, none⟩ = some (.slice A2 p.rows.length c2) ∧
      w'.cell? ⟨w1.heap.size, 0, none⟩ = some (.slice X (p.costs.length + p.rows.length) cx) ∧ w'.cell? ⟨w1.heap.size, 1, none⟩ = some (.int .i64 cc.xd) ∧ w'.cell? ⟨w1.heap.size, 2, none⟩ = some (.slice Y p.rows.length cy) ∧ w'.cell? ⟨w1.heap.size, 3, none⟩ = some (.int .i64 cc.yd) ∧
      w'.cell? ⟨w1.heap.size, 4, none⟩ = some (.slice G (p.costs.length + p.rows.length) cg) ∧ w'.cell? ⟨w1.heap.size, 5, none⟩ = some (.int .i64 cc.gd)) from
      fun w' h => ⟨(HV2.out.next h).cell 0, (HV2.out.next h).cell 1, (VC2.out.next h).cell 0, (VC2.out.next h).cell 1, (VC2.out.next h).cell 2, (VC2.out.next h).cell 3, (VC2.out.next h).cell 4, (VC2.out.next h).cell 5⟩)
    obtain ⟨p0, p1, v0, v1, v2, v3, v4, v5⟩ := SC.out w2 (Below.refl _ _)
    have hw0 : IntKind.i64.wrap ((p.costs.length : Int) + (p.rows.length : Int)) = (p.costs.length : Int) + (p.rows.length : Int) := IntWalk.i64_in _ (by omega)
    go_wp2_with fail
    clear p0 p1 v0 v1 v2 v3 v4 v5
    refine (ref2_May _ _ _ _ _ _ (HPz.out.below (by exact (Below.refl _ _).alloc (Nat.le_refl _) _))).mono ?_
    rw [HM.out]
    rintro e w4 ⟨rfl, hb4⟩
    have H4 := Lib.hid (show Below w2.heap.size w2 w4 from ((Below.refl _ w2).alloc (Nat.le_refl _) _).trans (hb4.mono (by simp)))
    obtain ⟨p0, p1, v0, v1, v2, v3, v4, v5⟩ := SC.out w4 H4.out
    clear hb4
    go_wp2_with fail
    clear p0 p1 v0 v1 v2 v3 v4 v5
    refine (ref3_Right _ _ _ _ _ _ _ _ _ (HPz.out.below H4.out) (HLz.out.below H4.out)).mono ?_
    rw [HRI.out]
    rintro e w5 ⟨rfl, hb5⟩
    have H5 := Lib.hid (H4.out.trans (hb5.mono H4.out.size))
    clear hb5
    go_wp2_with fail
    go_loopw [12] (fun i wx => ∃ k : Nat, k ≤ p.rows.length ∧ i = .int .i64 k ∧ Below w2.heap.size w2 wx) (fun i _ => p.rows.length - (intOf i).toNat)
    case atStart => exact ⟨0, by omega, rfl, H5.out⟩
    case round =>
      obtain ⟨k, hk, rfl, hbel⟩ := hrel
      have HB := Lib.hid hbel
      have zB := hbel.size
      rename World => V
      clear hbel
      by_cases hlt : k < p.rows.length
      · have hkd : decide ((k : Int) < (p.rows.length : Int)) = true := by simp; omega
        obtain ⟨ad, A', c', rfl, hc1, hc2', hrr⟩ := HPz.out.rows.at_ hlt
        obtain ⟨hrl, hrb, hrs⟩ := mayPB_row HM.out hlt
        have hadl := World.block_lt_of_cell? _ _ hc1
        have hadl2 := World.block_lt_of_cell? _ _ hc2'
        obtain ⟨ax, rfl, hcx'⟩ := HX2.out.getD_at (k := p.costs.length + k) (by rw [HLX.out]; omega)
        have haxl := World.block_lt_of_cell? _ _ hcx'
        have hro := HK.out.row' hlt
        obtain ⟨htk, htl⟩ := HX2.out.takeN p.costs.length (by rw [HLX.out]; omega)
        have hxb := (smallB_getD (by omega)).1 HXS.out (p.costs.length + k)
        have HTS := Lib.hid (show smallB 1073741824 (cc.xs.take p.costs.length) = true from smallB_iff.2 fun n hn => smallB_mem HXS.out (List.mem_of_mem_take hn))
        have hdb := dot_bound (a := (p.rows[k]).1) (b := cc.xs.take p.costs.length) hrs HTS.out (by omega) (by omega)
        rw [hrl] at hdb
        have HD := Lib.hid (show ∀ u : Wk V, Calls Try.prog 28 #[.slice A' p.costs.length c', .slice (some ax) p.costs.length cx] u.1 fun e w' => e = .returned (.int .i64 (dot (p.rows[k]).1 (cc.xs.take p.costs.length))) ∧ ∃ n, w' = u.1.drewN n from fun u => by
          have := ref2_Dot A' (p.rows[k]).1 c' (some ax) (cc.xs.take p.costs.length) cx 12 1073741824 u.1 (hrr.below (HB.out.trans (u.2.mono zB))) (htk.below (HB.out.trans (u.2.mono zB))) (by rw [hrl, htl]; exact Nat.le_refl _) (by omega) (by omega) hrs HTS.out (by rw [hrl]; omega)
          rw [hrl, htl] at this
          exact this)
        rw [hrl] at hc1
        have s0 : ∀ u : Wk V, u.1.cell? ⟨w.heap.size, 1, none⟩ = some (.slice (some ad) p.rows.length c2) := fun u => (SC.out _ (HB.out.trans (u.2.mono zB))).2.1
        have s1 : ∀ u : Wk V, u.1.cell? ⟨w1.heap.size, 0, none⟩ = some (.slice (some ax) (p.costs.length + p.rows.length) cx) := fun u => (SC.out _ (HB.out.trans (u.2.mono zB))).2.2.1
        have s2 : ∀ u : Wk V, u.1.cell? ⟨w1.heap.size, 1, none⟩ = some (.int .i64 cc.xd) := fun u => (SC.out _ (HB.out.trans (u.2.mono zB))).2.2.2.1
        have s3 : ∀ u : Wk V, u.1.cell? (ad.add (k * 2)) = some (.slice A' p.costs.length c') := fun u => ((HB.out.trans (u.2.mono zB)).cell hadl).trans hc1
        have s4 : ∀ u : Wk V, u.1.cell? ⟨(ad.add (k * 2)).block, (ad.add (k * 2)).off + 1, none⟩ = some (.int .i64 (p.rows[k]).2) := fun u => ((HB.out.trans (u.2.mono zB)).cell hadl2).trans hc2'
        have s5 : ∀ u : Wk V, u.1.cell? (ax.add (p.costs.length + k)) = some (.int .i64 (cc.xs.getD (p.costs.length + k) 0)) := fun u => ((HB.out.trans (u.2.mono zB)).cell haxl).trans hcx'
        have hi0 : (k : Int) < (p.rows.length : Int) := by omega
        have hi1 : IntKind.i64.wrap ((p.costs.length : Int) + (k : Int)) = (p.costs.length : Int) + (k : Int) := IntWalk.i64_in _ (by omega)
        have hi2 : (p.costs.length : Int) + (k : Int) < (p.costs.length : Int) + (p.rows.length : Int) := by omega
        have hi4 : (0 : Int) ≤ (p.costs.length : Int) + (k : Int) := by omega
        have hi5 : ((p.costs.length : Int) + (k : Int)).toNat = p.costs.length + k := by omega
        have hi6 : p.costs.length ≤ cx := by omega
        have hdb2 : -51539607552 ≤ dot (p.rows[k]).1 (cc.xs.take p.costs.length) ∧ dot (p.rows[k]).1 (cc.xs.take p.costs.length) ≤ 51539607552 := by omega
        generalize dot (p.rows[k]).1 (cc.xs.take p.costs.length) = dv at *
        generalize cc.xs.getD (p.costs.length + k) 0 = xv at *
        generalize (p.rows[k]).2 = r2 at *
        obtain ⟨hm1, hm2⟩ := mul_bound r2 cc.xd 12 1073741824 hrb.1 hrb.2 (by omega) xd2
        have hw1 : IntKind.i64.wrap (dv + xv) = dv + xv := IntWalk.i64_in _ (by omega)
        have hw2 : IntKind.i64.wrap (r2 * cc.xd) = r2 * cc.xd := IntWalk.i64_in _ (by omega)
        have hnz : (dv + xv != r2 * cc.xd) = false := by simp [hro]
        clear hdb hdb2 hm1 hm2 hxb hro hcx' hc1 hc2' hrr htk htl hrs hrb hrl
        go_wp2_with fail
        refine wk_region (by kernel_rfl) (by kernel_rfl) ?_
        repeat (go_big_quiet_step ((go_at_call 28; with_reducible exact wk_quiet (HD.out _))))
        refine wpQuiet_nil ?_
        rintro w7 ⟨u7, rfl⟩
        go_wp2_with fail
        go_roundw
        case rel => exact ⟨k + 1, by omega, by go_num, HB.out.trans (u7.2.mono zB)⟩
        case measure => simp [intOf]; omega
      · obtain rfl : k = p.rows.length := by omega
        have hkd : decide ((p.rows.length : Int) < (p.rows.length : Int)) = false := by simp
        obtain ⟨ax, rfl, hcx'⟩ := HX2.out.getD_at (k := 0) (by rw [HLX.out]; omega)
        obtain ⟨htk, htl⟩ := HX2.out.takeN p.costs.length (by rw [HLX.out]; omega)
        have HTS := Lib.hid (show smallB 1073741824 (cc.xs.take p.costs.length) = true from smallB_iff.2 fun n hn => smallB_mem HXS.out (List.mem_of_mem_take hn))
        have HD := Lib.hid (show ∀ u : Wk V, Calls Try.prog 28 #[.slice A p.costs.length c, .slice (some ax) p.costs.length cx] u.1 fun e w' => e = .returned (.int .i64 (dot p.costs (cc.xs.take p.costs.length))) ∧ ∃ n, w' = u.1.drewN n from fun u => by
          have := ref2_Dot A p.costs c (some ax) (cc.xs.take p.costs.length) cx 400 1073741824 u.1 (HPz.out.costs.below (HB.out.trans (u.2.mono zB))) (htk.below (HB.out.trans (u.2.mono zB))) (by rw [htl]; exact Nat.le_refl _) (by omega) (by omega) g5 HTS.out (by omega)
          rw [htl] at this
          exact this)
        have s0 : ∀ u : Wk V, u.1.cell? ⟨w.heap.size, 0, none⟩ = some (.slice A p.costs.length c) := fun u => (SC.out _ (HB.out.trans (u.2.mono zB))).1
        have s1 : ∀ u : Wk V, u.1.cell? ⟨w1.heap.size, 0, none⟩ = some (.slice (some ax) (p.costs.length + p.rows.length) cx) := fun u => (SC.out _ (HB.out.trans (u.2.mono zB))).2.2.1
        have hi6 : p.costs.length ≤ cx := by omega
        have HWO := Lib.hid HK.out.worth
        generalize dot p.costs (cc.xs.take p.costs.length) = wo at *
        have HMS := Lib.hid (mosts_small HM.out)
        clear htk htl hcx' g5
        go_wp2_with fail
        refine wk_region (by kernel_rfl) (by kernel_rfl) ?_
        repeat (go_big_quiet_step ((go_at_call 28; with_reducible exact wk_quiet (HD.out _))))
        refine wpQuiet_nil ?_
        rintro w7 ⟨u7, rfl⟩
        clear s0 s1
        go_wp2_with fail
        go_loopw [14, 15] (fun v i wx => ∃ k : Nat, k ≤ p.rows.length ∧ i = .int .i64 k ∧ v = .int .i64 (dot ((mosts p).take k) cc.ys) ∧ Below w2.heap.size w2 wx) (fun _ i _ => p.rows.length - (intOf i).toNat)
        case atStart => exact ⟨0, by omega, rfl, rfl, HB.out.trans (u7.2.mono zB)⟩
        case round =>
          obtain ⟨k, hk, rfl, rfl, hbel⟩ := hrel
          have HB3 := Lib.hid hbel
          have zB3 := hbel.size
          obtain ⟨p0, p1, v0, v1, v2, v3, v4, v5⟩ := SC.out _ hbel
          rename World => V3
          clear hbel
          by_cases hlt : k < p.rows.length
          · have hkd' : decide ((k : Int) < (p.rows.length : Int)) = true := by simp; omega
            obtain ⟨ad, A', c', rfl, hc1, hc2', hrr⟩ := HPz.out.rows.at_ hlt
            have hml : k < (mosts p).length := by rw [length_mosts]; exact hlt
            have hyl : k < cc.ys.length := by rw [HLY.out]; exact hlt
            obtain ⟨ay, rfl, hcy'⟩ := HY2.out.at_ hyl
            have r1 := (HB3.out.cell (World.block_lt_of_cell? _ _ hc2')).trans hc2'
            have r2 := (HB3.out.cell (World.block_lt_of_cell? _ _ hcy')).trans hcy'
            have HT := Lib.hid (show dot ((mosts p).take (k + 1)) cc.ys = dot ((mosts p).take k) cc.ys + (p.rows[k]).2 * cc.ys[k] by
              rw [dot_take hml hyl]; congr 2; simp [mosts])
            have hb1 := dot_take_bound HMS.out HYS.out (by omega) (by omega) k
            rw [length_mosts] at hb1
            have hb2 := smallB_at HYS.out hyl
            obtain ⟨_, hrb, _⟩ := mayPB_row HM.out hlt
            have hb3 : -51539607552 ≤ dot ((mosts p).take k) cc.ys ∧ dot ((mosts p).take k) cc.ys ≤ 51539607552 := by omega
            generalize dot ((mosts p).take k) cc.ys = dv at *
            generalize cc.ys[k] = yv at *
            generalize (p.rows[k]).2 = rv at *
            obtain ⟨hm1, hm2⟩ := mul_bound rv yv 12 1073741824 hrb.1 hrb.2 hb2.1 hb2.2
            have hw1 : IntKind.i64.wrap (rv * yv) = rv * yv := IntWalk.i64_in _ (by omega)
            have hw2 : IntKind.i64.wrap (dv + rv * yv) = dv + rv * yv := IntWalk.i64_in _ (by omega)
            have hi0 : (k : Int) < (p.rows.length : Int) := by omega
            clear hb1 hb2 hb3 hrb hm1 hm2 hc1 hc2' hrr hcy' hml hyl
            go_wp2_with fail
            go_quiet (fail)
            go_wp2_with fail
            go_roundw
            case rel => exact ⟨k + 1, by omega, by go_num, by rw [HT.out], below_drewN HB3.out _⟩
            case measure => simp [intOf]; omega
          · obtain rfl : k = p.rows.length := by omega
            have hkd' : decide ((p.rows.length : Int) < (p.rows.length : Int)) = false := by simp
            have HTT := Lib.hid (show dot ((mosts p).take p.rows.length) cc.ys = dot (mosts p) cc.ys by rw [List.take_of_length_le (by rw [length_mosts]; exact Nat.le_refl _)])
            rw [HTT.out]
            clear p0 p1 v0 v1 v2 v3 v4 v5
            go_wp2_with fail
            go_loopw [16] (fun i wx => ∃ k : Nat, k ≤ l.length ∧ i = .int .i64 k ∧ Below w2.heap.size w2 wx) (fun i _ => l.length - (intOf i).toNat)
            case atStart => exact ⟨0, by omega, rfl, HB3.out⟩
            case round =>
              obtain ⟨k, hk, rfl, hbel⟩ := hrel
              have HB4 := Lib.hid hbel
              obtain ⟨p0, p1, v0, v1, v2, v3, v4, v5⟩ := SC.out _ hbel
              rename World => V4
              clear hbel
              by_cases hlt : k < l.length
              · have hkd'' : decide ((k : Int) < (l.length : Int)) = true := by simp; omega
                have hkm : k < p.rows.length := by have := HN.out; omega
                obtain ⟨al, rfl, hcl⟩ := HLz.out.natAt HQ.out hlt
                have hgo := HK.out.gain_own hkm
                have hjl := HK.out.hr.at_lt (k := k) (by rw [HK.out.hr.len]; exact hkm)
                obtain ⟨ag, rfl, hcg'⟩ := HG2.out.getD_at (k := (nats l).getD k 0) (by rw [HLG.out]; exact hjl)
                rw [hgo] at hcg'
                have r1 := (HB4.out.cell (World.block_lt_of_cell? _ _ hcl)).trans hcl
                have r2 := (HB4.out.cell (World.block_lt_of_cell? _ _ hcg')).trans hcg'
                generalize (nats l).getD k 0 = j at *
                have hi0 : (k : Int) < (l.length : Int) := by omega
                have hi1 : (j : Int) < (p.costs.length : Int) + (p.rows.length : Int) := by omega
                clear hcl hcg' hgo hjl
                go_wp2_with fail
                go_quiet (fail)
                go_wp2_with fail
                go_roundw
                case rel => exact ⟨k + 1, by omega, by go_num, below_drewN HB4.out _⟩
                case measure => simp [intOf]; omega
              · obtain rfl : k = l.length := by omega
                have hkd'' : decide ((l.length : Int) < (l.length : Int)) = false := by simp
                have hwo := HWO.out
                generalize dot (mosts p) cc.ys = mo at *
                obtain ⟨z, hz⟩ : ∃ z, z = IntKind.i64.wrap (mo * cc.xd) := ⟨_, rfl⟩
                have e1 : IntKind.i64.wrap (wo * cc.yd) = z := by rw [hwo, hz]
                have e2 : IntKind.i64.wrap (mo * cc.xd) = z := hz.symm
                have HBW' := Lib.hid (HBW.out.trans (HB4.out.mono HBW.out.size))
                clear hz hwo
                go_wp2_with fail
                go_ret
                exact ⟨rfl, HBW'.out⟩
  · have hne : (ee != 0) = true := by simpa using h0
    have hcn := HCC.out
    rw [lookC_none (by rw [HEE.out]; exact h0)] at hcn
    subst hcn
    have lv : w1.heap.size < w2.heap.size := by have := VC.out.lt; omega
    have v0 : w2.cell? ⟨w1.heap.size, 0, none⟩ = some (.slice X 0 cx) := (VC.out.next HW2.out).cell 0
    have v2 : w2.cell? ⟨w1.heap.size, 2, none⟩ = some (.slice Y 0 cy) := (VC.out.next HW2.out).cell 2
    have v4 : w2.cell? ⟨w1.heap.size, 4, none⟩ = some (.slice G 0 cg) := (VC.out.next HW2.out).cell 4
    go_wp2_with fail
    go_ret
    exact ⟨rfl, HBU.out.trans (((HWW.out.trans (HW2.out.mono zW)).alloc (by omega) _).mono HBU.out.size)⟩
end Go.Proofs.Ytjcdkbalhleeeaa
