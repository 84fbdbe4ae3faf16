/-
  The walk of the law SolveHolds: it returns true. No condition but that its argument reads as a program.
-/
import Derived.Test.YtjcdkbalhleeeabSol6
import Derived.Test.YtjcdkbalhleeeabAll3
import Derived.Test.YtjcdkbalhleeeabRef4g
import Derived.Test.YtjcdkbalhleeeabJRefA
namespace Go.Proofs.Ytjcdkbalhleeeab
open Go.RowKit

set_option maxRecDepth 100000 in
set_option maxHeartbeats 2000000 in
theorem solveHolds_no (A : Option Addr) (c : Nat) (A2 : Option Addr) (c2 : Nat) (p : PG) (w : World) (hp : Pg w A c A2 c2 p) (hm : mayPB p = false) :
    Calls Try.prog 6 #[.agg #[.slice A p.costs.length c, .slice A2 p.rows.length c2]] w fun e w' => e = .returned (.bool true) ∧ Below w.heap.size w w' := by
  have HM := Lib.hid hm
  clear hm
  have HP := Lib.hid hp
  obtain ⟨⟨hl, hc, hsm, _⟩, ⟨hl2, hc2, hsm2, _⟩⟩ := hp
  go_enter Try.func6, Try.ntmps6
  go_upto_region 1 with fail
  have BP := Lib.hid (Blk.mk' w 25 #[.slice A p.costs.length c, .slice A2 p.rows.length c2])
  have HW := Lib.hid ((Below.refl w.heap.size w).alloc (Nat.le_refl _) (.cells #[.slice A p.costs.length c, .slice A2 p.rows.length c2] 25))
  generalize (w.alloc (.cells #[.slice A p.costs.length c, .slice A2 p.rows.length c2] 25)) = W at *
  have p0 : W.cell? ⟨w.heap.size, 0, none⟩ = some (.slice A p.costs.length c) := BP.out.cell 0
  have p1 : W.cell? ⟨w.heap.size, 1, none⟩ = some (.slice A2 p.rows.length c2) := BP.out.cell 1
  go_wp2_with fail
  refine (solve_Solve A c A2 c2 p W (HP.out.below HW.out)).mono ?_
  rintro e w1 ⟨hb1, X, cx, Y, cy, R, cr, rfl, ha⟩
  have H1 := Lib.hid hb1
  have z1 := hb1.size
  have HB1 := Lib.hid (HW.out.trans (hb1.mono HW.out.size))
  clear p0 p1 hb1
  unfold anV
  rw [show solEr p = 2 by unfold solEr; rw [HM.out]; rfl]
  have hsa : solA p = ⟨0, [], 0, [], 0, [], 0, 0, 0⟩ := by unfold solA; rw [HM.out]; rfl
  rw [hsa] at ha ⊢
  clear hsa
  have HA := Lib.hid ha
  clear ha
  go_upto_region 2 with fail
  have BA := Lib.hid (Blk.mk' w1 57 #[.int .i64 0, .slice X 0 cx, .int .i64 0, .slice Y 0 cy, .int .i64 0, .slice R 0 cr, .int .i64 0, .int .i64 0, .int .i64 0])
  have BP1 := Lib.hid (BP.out.next H1.out)
  have h12 := (Below.refl w1.heap.size w1).alloc (Nat.le_refl _) (.cells #[.int .i64 0, .slice X 0 cx, .int .i64 0, .slice Y 0 cy, .int .i64 0, .slice R 0 cr, .int .i64 0, .int .i64 0, .int .i64 0] 57)
  have H2 := Lib.hid (HB1.out.trans (h12.mono HB1.out.size))
  have BP2 := Lib.hid (BP1.out.next h12)
  clear h12
  generalize w1.heap.size = g5 at *
  generalize (w1.alloc (.cells #[.int .i64 0, .slice X 0 cx, .int .i64 0, .slice Y 0 cy, .int .i64 0, .slice R 0 cr, .int .i64 0, .int .i64 0, .int .i64 0] 57)) = V at *
  have p0 : V.cell? ⟨w.heap.size, 0, none⟩ = some (.slice A p.costs.length c) := BP2.out.cell 0
  have p1 : V.cell? ⟨w.heap.size, 1, none⟩ = some (.slice A2 p.rows.length c2) := BP2.out.cell 1
  go_wp2_with fail
  refine (ref2_May A c A2 c2 p V (HP.out.below H2.out)).mono ?_
  rintro e w3 ⟨rfl, hb3⟩
  rw [HM.out]
  have HB3 := Lib.hid (H2.out.trans (hb3.mono H2.out.size))
  have BA3 := BA.out.next hb3
  have e0 : w3.cell? ⟨g5, 0, none⟩ = some (.int .i64 0) := BA3.cell 0
  have e1 : w3.cell? ⟨g5, 1, none⟩ = some (.slice X 0 cx) := BA3.cell 1
  have e3 : w3.cell? ⟨g5, 3, none⟩ = some (.slice Y 0 cy) := BA3.cell 3
  have e5 : w3.cell? ⟨g5, 5, none⟩ = some (.slice R 0 cr) := BA3.cell 5
  clear hb3 p0 p1 BA3
  go_wp2_with fail
  go_ret
  exact ⟨rfl, HB3.out⟩
set_option maxRecDepth 100000 in
set_option maxHeartbeats 4000000 in
theorem solveHolds_yes (A : Option Addr) (c : Nat) (A2 : Option Addr) (c2 : Nat) (p : PG) (w : World) (hp : Pg w A c A2 c2 p) (hm : mayPB p = true) :
    Calls Try.prog 6 #[.agg #[.slice A p.costs.length c, .slice A2 p.rows.length c2]] w fun e w' => e = .returned (.bool true) ∧ Below w.heap.size w w' := by
  have f1 := (sol_all hm).1
  have f2 := sol_kind hm
  have HM := Lib.hid hm
  clear hm
  have HP := Lib.hid hp
  obtain ⟨⟨hl, hc, hsm, _⟩, ⟨hl2, hc2, hsm2, _⟩⟩ := hp
  go_enter Try.func6, Try.ntmps6
  go_upto_region 1 with fail
  have BP := Lib.hid (Blk.mk' w 25 #[.slice A p.costs.length c, .slice A2 p.rows.length c2])
  have HW := Lib.hid ((Below.refl w.heap.size w).alloc (Nat.le_refl _) (.cells #[.slice A p.costs.length c, .slice A2 p.rows.length c2] 25))
  generalize (w.alloc (.cells #[.slice A p.costs.length c, .slice A2 p.rows.length c2] 25)) = W at *
  have p0 : W.cell? ⟨w.heap.size, 0, none⟩ = some (.slice A p.costs.length c) := BP.out.cell 0
  have p1 : W.cell? ⟨w.heap.size, 1, none⟩ = some (.slice A2 p.rows.length c2) := BP.out.cell 1
  go_wp2_with fail
  refine (solve_Solve A c A2 c2 p W (HP.out.below HW.out)).mono ?_
  rintro e w1 ⟨hb1, X, cx, Y, cy, R, cr, rfl, ha⟩
  have H1 := Lib.hid hb1
  have z1 := hb1.size
  have HB1 := Lib.hid (HW.out.trans (hb1.mono HW.out.size))
  clear p0 p1 hb1
  unfold anV
  rw [show solEr p = 0 by unfold solEr; rw [if_pos HM.out]]
  have hsa : solA p = solZ p := by unfold solA; rw [if_pos HM.out]
  rw [hsa] at ha ⊢
  obtain ⟨an, han⟩ : ∃ an, solZ p = an := ⟨_, rfl⟩
  rw [han] at f1 f2 ha ⊢
  clear han hsa
  obtain ⟨kd, xs, xd, ys, yd, rs, rd, wn, wd⟩ := an
  have HA := Lib.hid ha
  have F1 := Lib.hid f1
  simp only at f2 ⊢
  have F2 := Lib.hid f2
  clear ha f1 f2
  go_upto_region 2 with fail
  have BA := Lib.hid (Blk.mk' w1 57 #[.int .i64 kd, .slice X xs.length cx, .int .i64 xd, .slice Y ys.length cy, .int .i64 yd, .slice R rs.length cr, .int .i64 rd, .int .i64 wn, .int .i64 wd])
  have h12 := (Below.refl w1.heap.size w1).alloc (Nat.le_refl _) (.cells #[.int .i64 kd, .slice X xs.length cx, .int .i64 xd, .slice Y ys.length cy, .int .i64 yd, .slice R rs.length cr, .int .i64 rd, .int .i64 wn, .int .i64 wd] 57)
  have HA2 := Lib.hid (HA.out.below h12)
  have H2 := Lib.hid (H1.out.trans (h12.mono z1))
  have HB2 := Lib.hid (HB1.out.trans (h12.mono HB1.out.size))
  clear h12
  generalize w1.heap.size = g5 at *
  generalize (w1.alloc (.cells #[.int .i64 kd, .slice X xs.length cx, .int .i64 xd, .slice Y ys.length cy, .int .i64 yd, .slice R rs.length cr, .int .i64 rd, .int .i64 wn, .int .i64 wd] 57)) = V at *
  have s0 : ∀ u : Wk V, u.1.cell? ⟨w.heap.size, 0, none⟩ = some (.slice A p.costs.length c) := fun u => ((BP.out.next H2.out).next u.2).cell 0
  have s1 : ∀ u : Wk V, u.1.cell? ⟨w.heap.size, 1, none⟩ = some (.slice A2 p.rows.length c2) := fun u => ((BP.out.next H2.out).next u.2).cell 1
  have a0 : ∀ u : Wk V, u.1.cell? ⟨g5, 0, none⟩ = some (.int .i64 kd) := fun u => (BA.out.next u.2).cell 0
  have a1 : ∀ u : Wk V, u.1.cell? ⟨g5, 1, none⟩ = some (.slice X xs.length cx) := fun u => (BA.out.next u.2).cell 1
  have a2 : ∀ u : Wk V, u.1.cell? ⟨g5, 2, none⟩ = some (.int .i64 xd) := fun u => (BA.out.next u.2).cell 2
  have a3 : ∀ u : Wk V, u.1.cell? ⟨g5, 3, none⟩ = some (.slice Y ys.length cy) := fun u => (BA.out.next u.2).cell 3
  have a4 : ∀ u : Wk V, u.1.cell? ⟨g5, 4, none⟩ = some (.int .i64 yd) := fun u => (BA.out.next u.2).cell 4
  have a5 : ∀ u : Wk V, u.1.cell? ⟨g5, 5, none⟩ = some (.slice R rs.length cr) := fun u => (BA.out.next u.2).cell 5
  have a6 : ∀ u : Wk V, u.1.cell? ⟨g5, 6, none⟩ = some (.int .i64 rd) := fun u => (BA.out.next u.2).cell 6
  have a7 : ∀ u : Wk V, u.1.cell? ⟨g5, 7, none⟩ = some (.int .i64 wn) := fun u => (BA.out.next u.2).cell 7
  have a8 : ∀ u : Wk V, u.1.cell? ⟨g5, 8, none⟩ = some (.int .i64 wd) := fun u => (BA.out.next u.2).cell 8
  obtain ⟨u0, hu0⟩ : ∃ u : Wk V, V = u.1 := ⟨⟨V, Below.refl _ _⟩, rfl⟩
  have HMY := Lib.hid (fun u : Wk V => ref2_May A c A2 c2 p u.1 ((HP.out.below HB2.out).below u.2))
  have HF := Lib.hid (fun u : Wk V => HB2.out.trans (u.2.mono HB2.out.size))
  rw [hu0]
  clear hu0
  go_wp2_with fail
  refine (HMY.out u0).mono ?_
  rintro e w3 ⟨rfl, hb3⟩
  obtain ⟨u3, rfl⟩ : ∃ u : Wk V, w3 = u.1 := ⟨⟨w3, u0.2.trans (hb3.mono u0.2.size)⟩, rfl⟩
  clear hb3
  have HHL := Lib.hid (fun u : Wk V => show Calls Try.prog 24 #[.agg #[.slice A p.costs.length c, .slice A2 p.rows.length c2], .agg #[.int .i64 kd, .slice X xs.length cx, .int .i64 xd, .slice Y ys.length cy, .int .i64 yd, .slice R rs.length cr, .int .i64 rd, .int .i64 wn, .int .i64 wd]] u.1 fun e w' => e = .returned (.bool true) ∧ Below u.1.heap.size u.1 w' from by
    have := ref4_Holds A c A2 c2 p X cx Y cy R cr ⟨kd, xs, xd, ys, yd, rs, rd, wn, wd⟩ u.1 ((HP.out.below HB2.out).below u.2) (HA2.out.below u.2)
    rw [F1.out] at this
    exact this)
  have HKI := Lib.hid (fun u : Wk V => show Calls Try.prog 25 #[.agg #[.slice A p.costs.length c, .slice A2 p.rows.length c2]] u.1 fun e w' => e = .returned (.int .i64 kd) ∧ Below u.1.heap.size u.1 w' from by
    have := ref3_Kind A c A2 c2 p u.1 ((HP.out.below HB2.out).below u.2) HM.out
    rw [← F2.out] at this
    exact this)
  rw [HM.out]
  have SK := Lib.hid (show ∀ w', Below u3.1.heap.size u3.1 w' → (w'.cell? ⟨w.heap.size, 0, none⟩ = some (.slice A p.costs.length c) ∧ w'.cell? ⟨w.heap.size, 1, none⟩ = some (.slice A2 p.rows.length c2) ∧ w'.cell? ⟨g5, 0, none⟩ = some (.int .i64 kd) ∧ w'.cell? ⟨g5, 1, none⟩ = some (.slice X xs.length cx) ∧ w'.cell? ⟨g5, 2, none⟩ = some (.int .i64 xd) ∧ w'.cell? ⟨g5, 3, none⟩ = some (.slice Y ys.length cy) ∧ w'.cell? ⟨g5, 4, none⟩ = some (.int .i64 yd) ∧ w'.cell? ⟨g5, 5, none⟩ = some (.slice R rs.length cr) ∧ w'.cell? ⟨g5, 6, none⟩ = some (.int .i64 rd) ∧ w'.cell? ⟨g5, 7, none⟩ = some (.int .i64 wn) ∧ w'.cell? ⟨g5, 8, none⟩ = some (.int .i64 wd)) from fun w' h => by
    have hh : Below V.heap.size V w' := u3.2.trans (h.mono u3.2.size)
    exact ⟨s0 ⟨w', hh⟩, s1 ⟨w', hh⟩, a0 ⟨w', hh⟩, a1 ⟨w', hh⟩, a2 ⟨w', hh⟩, a3 ⟨w', hh⟩, a4 ⟨w', hh⟩, a5 ⟨w', hh⟩, a6 ⟨w', hh⟩, a7 ⟨w', hh⟩, a8 ⟨w', hh⟩⟩)
  have HH2 := Lib.hid (fun (w' : World) (h : Below u3.1.heap.size u3.1 w') => show Calls Try.prog 24 #[.agg #[.slice A p.costs.length c, .slice A2 p.rows.length c2], .agg #[.int .i64 kd, .slice X xs.length cx, .int .i64 xd, .slice Y ys.length cy, .int .i64 yd, .slice R rs.length cr, .int .i64 rd, .int .i64 wn, .int .i64 wd]] w' fun e w'' => e = .returned (.bool true) ∧ Below w'.heap.size w' w'' from HHL.out ⟨w', u3.2.trans (h.mono u3.2.size)⟩)
  have HK2 := Lib.hid (fun (w' : World) (h : Below u3.1.heap.size u3.1 w') => show Calls Try.prog 25 #[.agg #[.slice A p.costs.length c, .slice A2 p.rows.length c2]] w' fun e w'' => e = .returned (.int .i64 kd) ∧ Below w'.heap.size w' w'' from HKI.out ⟨w', u3.2.trans (h.mono u3.2.size)⟩)
  have HF3 := Lib.hid (HF.out u3)
  have k := SK.out _ (Below.refl _ _)
  obtain ⟨k0, k1, k2, k3, k4, k5, k6, k7, k8, k9, k10⟩ := k
  clear s0 s1 a0 a1 a2 a3 a4 a5 a6 a7 a8 HHL HKI HF HMY
  generalize u3.1 = U at *
  go_upto_region 4 with fail
  go_region_held3 (fun w' => w'.cell? ⟨w.heap.size, 0, none⟩ = some (.slice A p.costs.length c) ∧ w'.cell? ⟨w.heap.size, 1, none⟩ = some (.slice A2 p.rows.length c2) ∧ w'.cell? ⟨g5, 0, none⟩ = some (.int .i64 kd) ∧ w'.cell? ⟨g5, 1, none⟩ = some (.slice X xs.length cx) ∧ w'.cell? ⟨g5, 2, none⟩ = some (.int .i64 xd) ∧ w'.cell? ⟨g5, 3, none⟩ = some (.slice Y ys.length cy) ∧ w'.cell? ⟨g5, 4, none⟩ = some (.int .i64 yd) ∧ w'.cell? ⟨g5, 5, none⟩ = some (.slice R rs.length cr) ∧ w'.cell? ⟨g5, 6, none⟩ = some (.int .i64 rd) ∧ w'.cell? ⟨g5, 7, none⟩ = some (.int .i64 wn) ∧ w'.cell? ⟨g5, 8, none⟩ = some (.int .i64 wd))
    ((refine SK.out _ ?_; exact (by (repeat (any_goals (first | exact Below.refl _ _ | exact hbH | exact hbK | refine below_drewN ?_ _ | refine Below.drew ?_ | refine Below.alloc ?_ ?_ _ | refine Below.setCell ?_ ?_ _ | refine Below.trans ?_ (Below.mono hbH ?_) | refine Below.trans ?_ (Below.mono hbK ?_)))); all_goals (first | omega | (simp; done) | (simp; omega) | ((try have z0 := hbH.size); (try simp at z0); (try have z1 := hbK.size); (try simp at z1); (try simp); omega)))))
    (first
      | (go_at_call 24; refine (HH2.out _ (by (repeat (any_goals (first | exact Below.refl _ _ | exact hbH | exact hbK | refine below_drewN ?_ _ | refine Below.drew ?_ | refine Below.alloc ?_ ?_ _ | refine Below.setCell ?_ ?_ _ | refine Below.trans ?_ (Below.mono hbH ?_) | refine Below.trans ?_ (Below.mono hbK ?_)))); all_goals (first | omega | (simp; done) | (simp; omega) | ((try have z0 := hbH.size); (try simp at z0); (try have z1 := hbK.size); (try simp at z1); (try simp); omega)))).mono ?_; rintro e wH ⟨rfl, hbH⟩)
      | (go_at_call 25; refine (HK2.out _ (by (repeat (any_goals (first | exact Below.refl _ _ | exact hbH | exact hbK | refine below_drewN ?_ _ | refine Below.drew ?_ | refine Below.alloc ?_ ?_ _ | refine Below.setCell ?_ ?_ _ | refine Below.trans ?_ (Below.mono hbH ?_) | refine Below.trans ?_ (Below.mono hbK ?_)))); all_goals (first | omega | (simp; done) | (simp; omega) | ((try have z0 := hbH.size); (try simp at z0); (try have z1 := hbK.size); (try simp at z1); (try simp); omega)))).mono ?_; rintro e wK ⟨rfl, hbK⟩))
  all_goals go_wp2_with fail
  all_goals go_ret
  all_goals exact ⟨rfl, HF3.out.trans (((by (repeat (any_goals (first | exact Below.refl _ _ | exact hbH | exact hbK | refine below_drewN ?_ _ | refine Below.drew ?_ | refine Below.alloc ?_ ?_ _ | refine Below.setCell ?_ ?_ _ | refine Below.trans ?_ (Below.mono hbH ?_) | refine Below.trans ?_ (Below.mono hbK ?_)))); all_goals (first | omega | (simp; done) | (simp; omega) | ((try have z0 := hbH.size); (try simp at z0); (try have z1 := hbK.size); (try simp at z1); (try simp); omega))) : Below U.heap.size U _).mono HF3.out.size)⟩
theorem solveHolds_walk (A : Option Addr) (c : Nat) (A2 : Option Addr) (c2 : Nat) (p : PG) (w : World) (hp : Pg w A c A2 c2 p) :
    Calls Try.prog 6 #[.agg #[.slice A p.costs.length c, .slice A2 p.rows.length c2]] w fun e w' => e = .returned (.bool true) ∧ Below w.heap.size w w' := by
  cases hm : mayPB p with
  | false => exact solveHolds_no A c A2 c2 p w hp hm
  | true => exact solveHolds_yes A c A2 c2 p w hp hm
end Go.Proofs.Ytjcdkbalhleeeab
