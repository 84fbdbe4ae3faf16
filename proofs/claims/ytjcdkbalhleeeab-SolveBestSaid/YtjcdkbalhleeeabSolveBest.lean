/-
  The walk of the law SolveBest: it returns true. No condition but that its arguments read as a program and a point.
-/
import Derived.Test.YtjcdkbalhleeeabSol6
import Derived.Test.YtjcdkbalhleeeabPrf6
import Derived.Test.YtjcdkbalhleeeabFrac3
import Derived.Test.YtjcdkbalhleeeabPlainA
namespace Go.Proofs.Ytjcdkbalhleeeab
open Go.RowKit

theorem best_less {p : PG} {a : AN} {zs : List Int} {zd : Int} (hb : bestB p a = true) (hg : goesB p zs zd = true) (he : worE p zs zd = 0) : lessB a.wn a.wd (worN p zs zd) (worD p zs zd) = false := by
  have hf := (goesB_iff.1 hg).1
  have he' : ptE [dot p.costs zs] zd = 0 := by unfold worE at he; rwa [if_pos hf] at he
  have := best_law hb hg he'
  rw [show worN p zs zd = frN (dot p.costs zs) zd by unfold worN; rw [if_pos hf], show worD p zs zd = ptD [dot p.costs zs] zd by unfold worD; rw [if_pos hf]]
  unfold lessB
  rw [show decide (a.wn * ptD [dot p.costs zs] zd < frN (dot p.costs zs) zd * a.wd) = false by simp; omega]
  simp
/-- What an answer that holds is. -/
theorem sol_facts {p : PG} (hm : mayPB p = true) (zs : List Int) (zd : Int) : holdsB p (solZ p) = true ∧ ((solZ p).kind = 1 ∨ (solZ p).kind = 2 ∨ (solZ p).kind = 3) ∧ (goesB p zs zd = true → ¬ (solZ p).kind = 3) ∧
    (goesB p zs zd = true → (solZ p).kind = 1 → worE p zs zd = 0 → lessB (solZ p).wn (solZ p).wd (worN p zs zd) (worD p zs zd) = false) := by
  obtain ⟨h1, _, h3⟩ := sol_all hm
  refine ⟨h1, h3, fun hg hk => ?_, fun hg hk he => ?_⟩
  · simp only [holdsB, Bool.and_eq_true, if_neg (show ¬ (solZ p).kind = 1 by omega), if_neg (show ¬ (solZ p).kind = 2 by omega), if_pos hk] at h1
    rw [nothing_law h1.2] at hg
    cases hg
  · refine best_less ?_ hg he
    simp only [holdsB, Bool.and_eq_true, if_pos hk] at h1
    exact h1.2
set_option maxRecDepth 100000 in
set_option maxHeartbeats 1000000 in
theorem solveBest_no (A : Option Addr) (c : Nat) (A2 : Option Addr) (c2 : Nat) (p : PG) (Z : Option Addr) (zs : List Int) (cz : Nat) (zd : Int) (w : World) (hp : Pg w A c A2 c2 p) (hz : Rd w Z cz zs) (hm : mayPB p = false) :
    Calls Try.prog 7 #[.agg #[.slice A p.costs.length c, .slice A2 p.rows.length c2], .agg #[.slice Z zs.length cz, .int .i64 zd]] w fun e w' => e = .returned (.bool true) ∧ Below w.heap.size w w' := by
  have HM := Lib.hid hm
  clear hm
  have HP := Lib.hid hp
  have HZ := Lib.hid hz
  obtain ⟨⟨hl, hc, hsm, _⟩, ⟨hl2, hc2, hsm2, _⟩⟩ := hp
  obtain ⟨hlz, hcz, hsz, _⟩ := hz
  go_enter Try.func7, Try.ntmps7
  go_upto_region 1 with fail
  have BP := Lib.hid (show Blk ((w.alloc (.cells #[.slice A p.costs.length c, .slice A2 p.rows.length c2] 25)).alloc (.cells #[.slice Z zs.length cz, .int .i64 zd] 40)) w.heap.size 25 #[.slice A p.costs.length c, .slice A2 p.rows.length c2] from (Blk.mk' _ _ _).alloc _)
  have BZ := Lib.hid (show Blk ((w.alloc (.cells #[.slice A p.costs.length c, .slice A2 p.rows.length c2] 25)).alloc (.cells #[.slice Z zs.length cz, .int .i64 zd] 40)) (w.heap.size + 1) 40 #[.slice Z zs.length cz, .int .i64 zd] from by
    have := Blk.mk' (w.alloc (.cells #[.slice A p.costs.length c, .slice A2 p.rows.length c2] 25)) 40 #[.slice Z zs.length cz, .int .i64 zd]
    simpa using this)
  have HW := Lib.hid ((by (repeat (any_goals (first | exact Below.refl _ _ | refine below_drewN ?_ _ | refine Below.drew ?_ | refine Below.alloc ?_ ?_ _ | refine Below.setCell ?_ ?_ _))); all_goals (first | omega | (simp; done) | (simp; omega))) : Below w.heap.size w ((w.alloc (.cells #[.slice A p.costs.length c, .slice A2 p.rows.length c2] 25)).alloc (.cells #[.slice Z zs.length cz, .int .i64 zd] 40)))
  generalize ((w.alloc (.cells #[.slice A p.costs.length c, .slice A2 p.rows.length c2] 25)).alloc (.cells #[.slice Z zs.length cz, .int .i64 zd] 40)) = W at *
  have p0 : W.cell? ⟨w.heap.size, 0, none⟩ = some (.slice A p.costs.length c) := BP.out.cell 0
  have p1 : W.cell? ⟨w.heap.size, 1, none⟩ = some (.slice A2 p.rows.length c2) := BP.out.cell 1
  go_wp2_with fail
  refine (solve_Solve A c A2 c2 p W (HP.out.below HW.out)).mono ?_
  rintro e w1 ⟨hb1, X, cx, Y, cy, R, cr, rfl, ha⟩
  have H1 := Lib.hid hb1
  have z1 := hb1.size
  have HB1 := Lib.hid (HW.out.trans (hb1.mono HW.out.size))
  have p0' := (hb1.cell (World.block_lt_of_cell? _ _ p0)).trans p0
  have p1' := (hb1.cell (World.block_lt_of_cell? _ _ p1)).trans p1
  clear p0 p1 hb1
  unfold anV
  rw [show solEr p = 2 by unfold solEr; rw [HM.out]; rfl]
  clear ha
  obtain ⟨an, han⟩ : ∃ an, solA p = an := ⟨_, rfl⟩
  rw [han]
  clear han
  go_upto_region 2 with fail
  have h12 := (Below.refl w1.heap.size w1).alloc (Nat.le_refl _) (.cells #[.int .i64 an.kind, .slice X an.xs.length cx, .int .i64 an.xd, .slice Y an.ys.length cy, .int .i64 an.yd, .slice R an.rs.length cr, .int .i64 an.rd, .int .i64 an.wn, .int .i64 an.wd] 57)
  have HB2 := Lib.hid (HB1.out.trans (h12.mono HB1.out.size))
  have k0 := (h12.cell (World.block_lt_of_cell? _ _ p0')).trans p0'
  have k1 := (h12.cell (World.block_lt_of_cell? _ _ p1')).trans p1'
  clear h12 p0' p1'
  generalize (w1.alloc (.cells #[.int .i64 an.kind, .slice X an.xs.length cx, .int .i64 an.xd, .slice Y an.ys.length cy, .int .i64 an.yd, .slice R an.rs.length cr, .int .i64 an.rd, .int .i64 an.wn, .int .i64 an.wd] 57)) = V at *
  go_wp2_with fail
  refine (layout_May A c A2 c2 p V (HP.out.below HB2.out)).mono ?_
  rintro e w3 ⟨rfl, hb3⟩
  rw [HM.out]
  have H3 := Lib.hid (HB2.out.trans (hb3.mono HB2.out.size))
  clear hb3 k0 k1
  go_wp2_with fail
  go_ret
  exact ⟨rfl, H3.out⟩
set_option maxRecDepth 100000 in
set_option maxHeartbeats 4000000 in
theorem solveBest_yes (A : Option Addr) (c : Nat) (A2 : Option Addr) (c2 : Nat) (p : PG) (Z : Option Addr) (zs : List Int) (cz : Nat) (zd : Int) (w : World) (hp : Pg w A c A2 c2 p) (hz : Rd w Z cz zs) (hm : mayPB p = true) :
    Calls Try.prog 7 #[.agg #[.slice A p.costs.length c, .slice A2 p.rows.length c2], .agg #[.slice Z zs.length cz, .int .i64 zd]] w fun e w' => e = .returned (.bool true) ∧ Below w.heap.size w w' := by
  obtain ⟨f1, f2, f3, f4⟩ := sol_facts hm zs zd
  have HM := Lib.hid hm
  clear hm
  have HP := Lib.hid hp
  have HZ := Lib.hid hz
  obtain ⟨⟨hl, hc, hsm, _⟩, ⟨hl2, hc2, hsm2, _⟩⟩ := hp
  obtain ⟨hlz, hcz, hsz, _⟩ := hz
  go_enter Try.func7, Try.ntmps7
  go_upto_region 1 with fail
  have BP := Lib.hid (show Blk ((w.alloc (.cells #[.slice A p.costs.length c, .slice A2 p.rows.length c2] 25)).alloc (.cells #[.slice Z zs.length cz, .int .i64 zd] 40)) w.heap.size 25 #[.slice A p.costs.length c, .slice A2 p.rows.length c2] from (Blk.mk' _ _ _).alloc _)
  have BZ := Lib.hid (show Blk ((w.alloc (.cells #[.slice A p.costs.length c, .slice A2 p.rows.length c2] 25)).alloc (.cells #[.slice Z zs.length cz, .int .i64 zd] 40)) (w.heap.size + 1) 40 #[.slice Z zs.length cz, .int .i64 zd] from by
    have := Blk.mk' (w.alloc (.cells #[.slice A p.costs.length c, .slice A2 p.rows.length c2] 25)) 40 #[.slice Z zs.length cz, .int .i64 zd]
    simpa using this)
  have HW := Lib.hid ((by (repeat (any_goals (first | exact Below.refl _ _ | refine below_drewN ?_ _ | refine Below.drew ?_ | refine Below.alloc ?_ ?_ _ | refine Below.setCell ?_ ?_ _))); all_goals (first | omega | (simp; done) | (simp; omega))) : Below w.heap.size w ((w.alloc (.cells #[.slice A p.costs.length c, .slice A2 p.rows.length c2] 25)).alloc (.cells #[.slice Z zs.length cz, .int .i64 zd] 40)))
  generalize ((w.alloc (.cells #[.slice A p.costs.length c, .slice A2 p.rows.length c2] 25)).alloc (.cells #[.slice Z zs.length cz, .int .i64 zd] 40)) = W at *
  have p0 : W.cell? ⟨w.heap.size, 0, none⟩ = some (.slice A p.costs.length c) := BP.out.cell 0
  have p1 : W.cell? ⟨w.heap.size, 1, none⟩ = some (.slice A2 p.rows.length c2) := BP.out.cell 1
  go_wp2_with fail
  refine (solve_Solve A c A2 c2 p W (HP.out.below HW.out)).mono ?_
  rintro e w1 ⟨hb1, X, cx, Y, cy, R, cr, rfl, ha⟩
  have H1 := Lib.hid hb1
  have z1 := hb1.size
  have HB1 := Lib.hid (HW.out.trans (hb1.mono HW.out.size))
  have p0' := (hb1.cell (World.block_lt_of_cell? _ _ p0)).trans p0
  have p1' := (hb1.cell (World.block_lt_of_cell? _ _ p1)).trans p1
  clear p0 p1 hb1
  unfold anV
  rw [show solEr p = 0 by unfold solEr; rw [if_pos HM.out]]
  have hsa : solA p = solZ p := by unfold solA; rw [if_pos HM.out]
  rw [hsa] at ha ⊢
  obtain ⟨an, han⟩ : ∃ an, solZ p = an := ⟨_, rfl⟩
  rw [han] at f1 f2 f3 f4 ha ⊢
  clear han hsa
  obtain ⟨kd, xs, xd, ys, yd, rs, rd, wn, wd⟩ := an
  have HA := Lib.hid ha
  have F1 := Lib.hid f1
  simp only at f2 f3 f4 ⊢
  have F4 := Lib.hid f4
  clear ha f1 f4
  go_upto_region 2 with fail
  have BA := Lib.hid (Blk.mk' w1 57 #[.int .i64 kd, .slice X xs.length cx, .int .i64 xd, .slice Y ys.length cy, .int .i64 yd, .slice R rs.length cr, .int .i64 rd, .int .i64 wn, .int .i64 wd])
  have h12 := (Below.refl w1.heap.size w1).alloc (Nat.le_refl _) (.cells #[.int .i64 kd, .slice X xs.length cx, .int .i64 xd, .slice Y ys.length cy, .int .i64 yd, .slice R rs.length cr, .int .i64 rd, .int .i64 wn, .int .i64 wd] 57)
  have HA2 := Lib.hid (HA.out.below h12)
  have H2 := Lib.hid (H1.out.trans (h12.mono z1))
  have HB2 := Lib.hid (HB1.out.trans (h12.mono HB1.out.size))
  clear h12 p0' p1'
  generalize w1.heap.size = g5 at *
  generalize (w1.alloc (.cells #[.int .i64 kd, .slice X xs.length cx, .int .i64 xd, .slice Y ys.length cy, .int .i64 yd, .slice R rs.length cr, .int .i64 rd, .int .i64 wn, .int .i64 wd] 57)) = V at *
  have s0 : ∀ u : Wk V, u.1.cell? ⟨w.heap.size, 0, none⟩ = some (.slice A p.costs.length c) := fun u => ((BP.out.next H2.out).next u.2).cell 0
  have s1 : ∀ u : Wk V, u.1.cell? ⟨w.heap.size, 1, none⟩ = some (.slice A2 p.rows.length c2) := fun u => ((BP.out.next H2.out).next u.2).cell 1
  have t0 : ∀ u : Wk V, u.1.cell? ⟨w.heap.size + 1, 0, none⟩ = some (.slice Z zs.length cz) := fun u => ((BZ.out.next H2.out).next u.2).cell 0
  have t1 : ∀ u : Wk V, u.1.cell? ⟨w.heap.size + 1, 1, none⟩ = some (.int .i64 zd) := fun u => ((BZ.out.next H2.out).next u.2).cell 1
  have a0 : ∀ u : Wk V, u.1.cell? ⟨g5, 0, none⟩ = some (.int .i64 kd) := fun u => (BA.out.next u.2).cell 0
  have a1 : ∀ u : Wk V, u.1.cell? ⟨g5, 1, none⟩ = some (.slice X xs.length cx) := fun u => (BA.out.next u.2).cell 1
  have a2 : ∀ u : Wk V, u.1.cell? ⟨g5, 2, none⟩ = some (.int .i64 xd) := fun u => (BA.out.next u.2).cell 2
  have a3 : ∀ u : Wk V, u.1.cell? ⟨g5, 3, none⟩ = some (.slice Y ys.length cy) := fun u => (BA.out.next u.2).cell 3
  have a4 : ∀ u : Wk V, u.1.cell? ⟨g5, 4, none⟩ = some (.int .i64 yd) := fun u => (BA.out.next u.2).cell 4
  have a5 : ∀ u : Wk V, u.1.cell? ⟨g5, 5, none⟩ = some (.slice R rs.length cr) := fun u => (BA.out.next u.2).cell 5
  have a6 : ∀ u : Wk V, u.1.cell? ⟨g5, 6, none⟩ = some (.int .i64 rd) := fun u => (BA.out.next u.2).cell 6
  have a7 : ∀ u : Wk V, u.1.cell? ⟨g5, 7, none⟩ = some (.int .i64 wn) := fun u => (BA.out.next u.2).cell 7
  have a8 : ∀ u : Wk V, u.1.cell? ⟨g5, 8, none⟩ = some (.int .i64 wd) := fun u => (BA.out.next u.2).cell 8
  obtain ⟨u0, hu0⟩ : ∃ u : Wk V, V = u.1 := ⟨⟨V, Below.refl _ _⟩, rfl⟩
  have HHL := Lib.hid (fun u : Wk V => show Calls Try.prog 27 #[.agg #[.slice A p.costs.length c, .slice A2 p.rows.length c2], .agg #[.int .i64 kd, .slice X xs.length cx, .int .i64 xd, .slice Y ys.length cy, .int .i64 yd, .slice R rs.length cr, .int .i64 rd, .int .i64 wn, .int .i64 wd]] u.1 fun e w' => e = .returned (.bool true) ∧ Below u.1.heap.size u.1 w' from by
    have := proof_Holds A c A2 c2 p X cx Y cy R cr ⟨kd, xs, xd, ys, yd, rs, rd, wn, wd⟩ u.1 ((HP.out.below HB2.out).below u.2) (HA2.out.below u.2)
    rwa [F1.out] at this)
  have HGO := Lib.hid (fun u : Wk V => layout_Goes A c A2 c2 p Z zs cz zd u.1 ((HP.out.below HB2.out).below u.2) ((HZ.out.below HB2.out).below u.2))
  have HWO := Lib.hid (fun u : Wk V => layout_Worth A c A2 c2 p Z zs cz zd u.1 ((HP.out.below HB2.out).below u.2) ((HZ.out.below HB2.out).below u.2))
  rw [hu0]
  clear hu0
  go_wp2_with fail
  refine (HHL.out u0).mono ?_
  rintro e w3 ⟨rfl, hb3⟩
  obtain ⟨u3, rfl⟩ : ∃ u : Wk V, w3 = u.1 := ⟨⟨w3, u0.2.trans (hb3.mono u0.2.size)⟩, rfl⟩
  clear hb3
  go_wp2_with fail
  refine (HGO.out u3).mono ?_
  rintro e w4 ⟨rfl, hb4⟩
  obtain ⟨u4, rfl⟩ : ∃ u : Wk V, w4 = u.1 := ⟨⟨w4, u3.2.trans (hb4.mono u3.2.size)⟩, rfl⟩
  clear hb4
  have HF := Lib.hid (fun u : Wk V => HB2.out.trans (u.2.mono HB2.out.size))
  cases hg : goesB p zs zd with
  | false =>
    have hk : 1 ≤ kd ∧ kd ≤ 3 := by omega
    obtain ⟨hk1, hk2⟩ := hk
    go_wp2_with fail
    go_ret
    exact ⟨rfl, HF.out u4⟩
  | true =>
    have hk3 := f3 hg
    have F5 := Lib.hid (F4.out hg)
    go_wp2_with fail
    refine (HWO.out u4).mono ?_
    rintro e w5 ⟨rfl, hb5⟩
    obtain ⟨u5, rfl⟩ : ∃ u : Wk V, w5 = u.1 := ⟨⟨w5, u4.2.trans (hb5.mono u4.2.size)⟩, rfl⟩
    clear hb5
    obtain ⟨ze, hze⟩ : ∃ ze, worE p zs zd = ze := ⟨_, rfl⟩
    obtain ⟨zn, hzn⟩ : ∃ zn, worN p zs zd = zn := ⟨_, rfl⟩
    obtain ⟨zw, hzw⟩ : ∃ zw, worD p zs zd = zw := ⟨_, rfl⟩
    rw [hze, hzn, hzw] at F5 ⊢
    clear hze hzn hzw
    go_upto_region 9 with fail
    have BF := Lib.hid (Blk.mk' u5.1 38 #[.int .i64 zn, .int .i64 zw])
    have h56 := (Below.refl u5.1.heap.size u5.1).alloc (Nat.le_refl _) (.cells #[.int .i64 zn, .int .i64 zw] 38)
    have q0 : (u5.1.alloc (.cells #[.int .i64 zn, .int .i64 zw] 38)).cell? ⟨g5, 0, none⟩ = some (.int .i64 kd) := (h56.cell (World.block_lt_of_cell? _ _ (a0 u5))).trans (a0 u5)
    have q7 : (u5.1.alloc (.cells #[.int .i64 zn, .int .i64 zw] 38)).cell? ⟨g5, 7, none⟩ = some (.int .i64 wn) := (h56.cell (World.block_lt_of_cell? _ _ (a7 u5))).trans (a7 u5)
    have q8 : (u5.1.alloc (.cells #[.int .i64 zn, .int .i64 zw] 38)).cell? ⟨g5, 8, none⟩ = some (.int .i64 wd) := (h56.cell (World.block_lt_of_cell? _ _ (a8 u5))).trans (a8 u5)
    have H6 := Lib.hid ((HF.out u5).trans (h56.mono (HF.out u5).size))
    clear h56 s0 s1 t0 t1 a0 a1 a2 a3 a4 a5 a6 a7 a8
    generalize u5.1.heap.size = g7 at *
    generalize (u5.1.alloc (.cells #[.int .i64 zn, .int .i64 zw] 38)) = w6 at *
    obtain ⟨x0, x1, _, _⟩ := BF.out.two
    by_cases hk1 : kd = 1
    · subst hk1
      by_cases hz0 : ze = 0
      · subst hz0
        have HLS := Lib.hid (show ∀ u : World, Calls Try.prog 30 #[.agg #[.int .i64 wn, .int .i64 wd], .agg #[.int .i64 zn, .int .i64 zw]] u fun e w' => e = .returned (.bool false) ∧ Below u.heap.size u w' from fun u => by
          have := frac_Less wn wd zn zw u
          rwa [F5.out rfl rfl] at this)
        go_wp2_with fail
        refine (HLS.out w6).mono ?_
        rintro e w7 ⟨rfl, hb7⟩
        have H7 := Lib.hid (H6.out.trans (hb7.mono H6.out.size))
        clear hb7 q0 q7 q8 x0 x1
        go_wp2_with fail
        go_ret
        exact ⟨rfl, H7.out⟩
      · have hzz : (ze == 0) = false := by simpa using hz0
        go_wp2_with fail
        go_ret
        exact ⟨rfl, H6.out⟩
    · obtain rfl : kd = 2 := by omega
      go_wp2_with fail
      go_ret
      exact ⟨rfl, H6.out⟩
theorem solveBest_walk (A : Option Addr) (c : Nat) (A2 : Option Addr) (c2 : Nat) (p : PG) (Z : Option Addr) (zs : List Int) (cz : Nat) (zd : Int) (w : World) (hp : Pg w A c A2 c2 p) (hz : Rd w Z cz zs) :
    Calls Try.prog 7 #[.agg #[.slice A p.costs.length c, .slice A2 p.rows.length c2], .agg #[.slice Z zs.length cz, .int .i64 zd]] w fun e w' => e = .returned (.bool true) ∧ Below w.heap.size w w' := by
  cases hm : mayPB p with
  | false => exact solveBest_no A c A2 c2 p Z zs cz zd w hp hz hm
  | true => exact solveBest_yes A c A2 c2 p Z zs cz zd w hp hz hm
end Go.Proofs.Ytjcdkbalhleeeab
