/-
  The walk of the law ProofBest: it returns true. No condition but that its arguments read as a program, an answer and a point.
-/
import Derived.Test.YtjcdkbalhleeeaaPrfK
import Derived.Test.YtjcdkbalhleeeaaRefB
import Derived.Test.YtjcdkbalhleeeaaRef2
import Derived.Test.YtjcdkbalhleeeaaRef4b
import Derived.Deep.DeepCutAuto
namespace Go.Proofs.Ytjcdkbalhleeeaa
open Go.RowKit

set_option maxRecDepth 100000 in
set_option maxHeartbeats 4000000 in
theorem proofBest_1 (A : Option Addr) (c : Nat) (A2 : Option Addr) (c2 : Nat) (p : PG) (X : Option Addr) (cx : Nat) (Y : Option Addr) (cy : Nat) (R : Option Addr) (cr : Nat) (kd : Int) (xs : List Int) (xd : Int) (ys : List Int) (yd : Int) (rs : List Int) (rd wn wd : Int)
    (Z : Option Addr) (zs : List Int) (cz : Nat) (zd : Int) (w : World) (hp : Pg w A c A2 c2 p) (ha : An w X cx Y cy R cr ⟨kd, xs, xd, ys, yd, rs, rd, wn, wd⟩) (hz : Rd w Z cz zs) :
    Calls Try.prog 9 #[.agg #[.slice A p.costs.length c, .slice A2 p.rows.length c2],
      .agg #[.int .i64 kd, .slice X xs.length cx, .int .i64 xd, .slice Y ys.length cy, .int .i64 yd, .slice R rs.length cr, .int .i64 rd, .int .i64 wn, .int .i64 wd],
      .agg #[.slice Z zs.length cz, .int .i64 zd]] w
      fun e w' => e = .returned (.bool true) ∧ Below w.heap.size w w' := by
  have HP := Lib.hid hp
  have HA := Lib.hid ha
  have HZ := Lib.hid hz
  obtain ⟨⟨hl, hc, hsm, _⟩, ⟨hl2, hc2, hsm2, _⟩⟩ := hp
  obtain ⟨hlz, hcz, hsz, _⟩ := hz
  clear ha
  go_enter Try.func9, Try.ntmps9
  go_wp2_with fail
  obtain ⟨W, eW⟩ : ∃ W, W = (((w.alloc (.cells #[.slice A p.costs.length c, .slice A2 p.rows.length c2] 40)).alloc (.cells #[.int .i64 kd, .slice X xs.length cx, .int .i64 xd, .slice Y ys.length cy, .int .i64 yd, .slice R rs.length cr, .int .i64 rd, .int .i64 wn, .int .i64 wd] 57)).alloc (.cells #[.slice Z zs.length cz, .int .i64 zd] 31)) := ⟨_, rfl⟩
  have Vp := Lib.hid (show Blk W w.heap.size 40 #[.slice A p.costs.length c, .slice A2 p.rows.length c2] by rw [eW]; exact ((Blk.mk' _ _ _).alloc _).alloc _)
  have Va := Lib.hid (show Blk W (w.heap.size + 1) 57 #[.int .i64 kd, .slice X xs.length cx, .int .i64 xd, .slice Y ys.length cy, .int .i64 yd, .slice R rs.length cr, .int .i64 rd, .int .i64 wn, .int .i64 wd] by rw [eW]; exact (Blk.new _ _ _ _ (by simp)).alloc _)
  have Vz := Lib.hid (show Blk W (w.heap.size + 2) 31 #[.slice Z zs.length cz, .int .i64 zd] by rw [eW]; exact Blk.new _ _ _ _ (by simp))
  have hW : Below w.heap.size w W := by rw [eW]; exact (by (repeat (any_goals (first | exact Below.refl _ _ | refine below_drewN ?_ _ | refine Below.drew ?_ | refine Below.alloc ?_ ?_ _ | refine Below.setCell ?_ ?_ _))); all_goals (first | omega | (simp; done) | (simp; omega)))
  rw [← eW]
  clear eW
  have HPw := Lib.hid (HP.out.below hW)
  have HAw := Lib.hid (HA.out.below hW)
  have HZw := Lib.hid (HZ.out.below hW)
  have HW := Lib.hid hW
  have lVz := Vz.out.lt
  clear hW
  have s0 : ∀ u : Wk W, u.1.cell? ⟨w.heap.size, 0, none⟩ = some (.slice A p.costs.length c) := fun u => (Vp.out.next u.2).cell 0
  have s1 : ∀ u : Wk W, u.1.cell? ⟨w.heap.size, 1, none⟩ = some (.slice A2 p.rows.length c2) := fun u => (Vp.out.next u.2).cell 1
  have s2 : ∀ u : Wk W, u.1.cell? ⟨w.heap.size + 1, 0, none⟩ = some (.int .i64 kd) := fun u => (Va.out.next u.2).cell 0
  have s9 : ∀ u : Wk W, u.1.cell? ⟨w.heap.size + 1, 7, none⟩ = some (.int .i64 wn) := fun u => (Va.out.next u.2).cell 7
  have s10 : ∀ u : Wk W, u.1.cell? ⟨w.heap.size + 1, 8, none⟩ = some (.int .i64 wd) := fun u => (Va.out.next u.2).cell 8
  have t0 : ∀ u : Wk W, u.1.cell? ⟨w.heap.size + 2, 0, none⟩ = some (.slice Z zs.length cz) := fun u => (Vz.out.next u.2).cell 0
  have t1 : ∀ u : Wk W, u.1.cell? ⟨w.heap.size + 2, 1, none⟩ = some (.int .i64 zd) := fun u => (Vz.out.next u.2).cell 1
  cases q1 : holdsB p ⟨kd, xs, xd, ys, yd, rs, rd, wn, wd⟩ with
  | false =>
    refine (show Calls Try.prog 33 #[.agg #[.slice A p.costs.length c, .slice A2 p.rows.length c2],
          .agg #[.int .i64 kd, .slice X xs.length cx, .int .i64 xd, .slice Y ys.length cy, .int .i64 yd, .slice R rs.length cr, .int .i64 rd, .int .i64 wn, .int .i64 wd]] W
          fun e w' => e = .returned (.bool false) ∧ Below W.heap.size W w' from by rw [← q1]; exact proof_Holds _ _ _ _ _ _ _ _ _ _ _ ⟨kd, xs, xd, ys, yd, rs, rd, wn, wd⟩ _ HPw.out HAw.out).mono ?_
    rintro e w1 ⟨rfl, hb1⟩
    obtain ⟨u1, rfl⟩ : ∃ u : Wk W, w1 = u.1 := ⟨⟨w1, hb1⟩, rfl⟩
    clear hb1
    have z1 := u1.2.size
    go_wp2_with fail
    refine (known_holds u1.1).mono ?_
    rintro e w2 ⟨rfl, hb2⟩
    have HB2 := Lib.hid hb2
    clear hb2
    go_wp2_with fail
    go_ret
    exact ⟨rfl, (by have hT := u1.2; exact (by (repeat (any_goals (first | exact Below.refl _ _ | exact HW.out | exact hT | exact HB2.out | refine below_drewN ?_ _ | refine Below.drew ?_ | refine Below.alloc ?_ ?_ _ | refine Below.setCell ?_ ?_ _ | refine Below.trans ?_ (Below.mono HW.out ?_) | refine Below.trans ?_ (Below.mono hT ?_) | refine Below.trans ?_ (Below.mono HB2.out ?_)))); all_goals (first | omega | (simp; done) | (simp; omega) | ((try have z0 := HW.out.size); (try simp at z0); (try have z1 := hT.size); (try simp at z1); (try have z2 := HB2.out.size); (try simp at z2); (try simp); omega))))⟩
  | true =>
    cases q2 : goesB p zs zd with
    | false =>
      refine (show Calls Try.prog 33 #[.agg #[.slice A p.costs.length c, .slice A2 p.rows.length c2],
            .agg #[.int .i64 kd, .slice X xs.length cx, .int .i64 xd, .slice Y ys.length cy, .int .i64 yd, .slice R rs.length cr, .int .i64 rd, .int .i64 wn, .int .i64 wd]] W
            fun e w' => e = .returned (.bool true) ∧ Below W.heap.size W w' from by rw [← q1]; exact proof_Holds _ _ _ _ _ _ _ _ _ _ _ ⟨kd, xs, xd, ys, yd, rs, rd, wn, wd⟩ _ HPw.out HAw.out).mono ?_
      rintro e w1 ⟨rfl, hb1⟩
      obtain ⟨u1, rfl⟩ : ∃ u : Wk W, w1 = u.1 := ⟨⟨w1, hb1⟩, rfl⟩
      clear hb1
      have z1 := u1.2.size
      go_wp2_with fail
      refine (show Calls Try.prog 26 #[.agg #[.slice A p.costs.length c, .slice A2 p.rows.length c2], .agg #[.slice Z zs.length cz, .int .i64 zd]] u1.1
            fun e w' => e = .returned (.bool false) ∧ Below u1.1.heap.size u1.1 w' from by rw [← q2]; exact ref2_Goes _ _ _ _ _ _ _ _ _ _ (HPw.out.below u1.2) (HZw.out.below u1.2)).mono ?_
      rintro e w1 ⟨rfl, hb1⟩
      obtain ⟨u2, rfl⟩ : ∃ u : Wk W, w1 = u.1 := ⟨⟨w1, u1.2.trans (hb1.mono u1.2.size)⟩, rfl⟩
      clear hb1
      have z2 := u2.2.size
      go_wp2_with fail
      go_ret
      exact ⟨rfl, (by have hT := u2.2; exact (by (repeat (any_goals (first | exact Below.refl _ _ | exact HW.out | exact hT | refine below_drewN ?_ _ | refine Below.drew ?_ | refine Below.alloc ?_ ?_ _ | refine Below.setCell ?_ ?_ _ | refine Below.trans ?_ (Below.mono HW.out ?_) | refine Below.trans ?_ (Below.mono hT ?_)))); all_goals (first | omega | (simp; done) | (simp; omega) | ((try have z0 := HW.out.size); (try simp at z0); (try have z1 := hT.size); (try simp at z1); (try simp); omega))))⟩
    | true =>
      by_cases h2 : kd = 2
      · have k2 : (kd == 2) = true := by simp [h2]
        clear h2
        refine (show Calls Try.prog 33 #[.agg #[.slice A p.costs.length c, .slice A2 p.rows.length c2],
              .agg #[.int .i64 kd, .slice X xs.length cx, .int .i64 xd, .slice Y ys.length cy, .int .i64 yd, .slice R rs.length cr, .int .i64 rd, .int .i64 wn, .int .i64 wd]] W
              fun e w' => e = .returned (.bool true) ∧ Below W.heap.size W w' from by rw [← q1]; exact proof_Holds _ _ _ _ _ _ _ _ _ _ _ ⟨kd, xs, xd, ys, yd, rs, rd, wn, wd⟩ _ HPw.out HAw.out).mono ?_
        rintro e w1 ⟨rfl, hb1⟩
        obtain ⟨u1, rfl⟩ : ∃ u : Wk W, w1 = u.1 := ⟨⟨w1, hb1⟩, rfl⟩
        clear hb1
        have z1 := u1.2.size
        go_wp2_with fail
        refine (show Calls Try.prog 26 #[.agg #[.slice A p.costs.length c, .slice A2 p.rows.length c2], .agg #[.slice Z zs.length cz, .int .i64 zd]] u1.1
              fun e w' => e = .returned (.bool true) ∧ Below u1.1.heap.size u1.1 w' from by rw [← q2]; exact ref2_Goes _ _ _ _ _ _ _ _ _ _ (HPw.out.below u1.2) (HZw.out.below u1.2)).mono ?_
        rintro e w1 ⟨rfl, hb1⟩
        obtain ⟨u2, rfl⟩ : ∃ u : Wk W, w1 = u.1 := ⟨⟨w1, u1.2.trans (hb1.mono u1.2.size)⟩, rfl⟩
        clear hb1
        have z2 := u2.2.size
        go_wp2_with fail
        go_ret
        exact ⟨rfl, (by have hT := u2.2; exact (by (repeat (any_goals (first | exact Below.refl _ _ | exact HW.out | exact hT | refine below_drewN ?_ _ | refine Below.drew ?_ | refine Below.alloc ?_ ?_ _ | refine Below.setCell ?_ ?_ _ | refine Below.trans ?_ (Below.mono HW.out ?_) | refine Below.trans ?_ (Below.mono hT ?_)))); all_goals (first | omega | (simp; done) | (simp; omega) | ((try have z0 := HW.out.size); (try simp at z0); (try have z1 := hT.size); (try simp at z1); (try simp); omega))))⟩
      · have k2 : (kd == 2) = false := by simpa using h2
        by_cases h1 : kd = 1
        rotate_left
        · exfalso
          have : nothingB p ⟨kd, xs, xd, ys, yd, rs, rd, wn, wd⟩ = true := by
            simp only [holdsB, Bool.and_eq_true, if_neg h1, if_neg h2] at q1
            obtain ⟨_, q1⟩ := q1
            split at q1
            · exact q1
            · simp at q1
          rw [nothing_law this] at q2
          simp at q2
        have hbest : bestB p ⟨kd, xs, xd, ys, yd, rs, rd, wn, wd⟩ = true := by
          simp only [holdsB, Bool.and_eq_true, if_pos h1] at q1; exact q1.2
        have k1 : (kd != 1) = false := by simp [h1]
        clear h1 h2
        have HFI := Lib.hid (goesB_iff.1 q2).1
        have HRG := Lib.hid (worth_range (goesB_iff.1 q2).1)
        have HBL := Lib.hid (fun he => best_law hbest q2 he)
        have HBP := Lib.hid (best_parts hbest)
        clear hbest
        obtain ⟨f1, f2, f3⟩ := fitsB_iff.1 HFI.out
        obtain ⟨g1, g2, g3, g4, g5, g6⟩ := mayPB_iff.1 f1
        have HDx := Lib.hid (show ∀ U : World, Rd U A c p.costs → Rd U Z cz zs → Calls Try.prog 28 #[.slice A p.costs.length c, .slice Z zs.length cz] U fun e w' => e = .returned (.int .i64 (dot p.costs zs)) ∧ ∃ n, w' = U.drewN n from
              fun U h1 h2 => ref2_Dot A p.costs c Z zs cz 400 1073741824 U h1 h2 (by omega) (by omega) (by omega) g5 (mayB_parts f2).2.2.1 (by omega))
        clear f1 f2 f3 g1 g2 g3 g4 g5 g6
        refine (show Calls Try.prog 33 #[.agg #[.slice A p.costs.length c, .slice A2 p.rows.length c2],
              .agg #[.int .i64 kd, .slice X xs.length cx, .int .i64 xd, .slice Y ys.length cy, .int .i64 yd, .slice R rs.length cr, .int .i64 rd, .int .i64 wn, .int .i64 wd]] W
              fun e w' => e = .returned (.bool true) ∧ Below W.heap.size W w' from by rw [← q1]; exact proof_Holds _ _ _ _ _ _ _ _ _ _ _ ⟨kd, xs, xd, ys, yd, rs, rd, wn, wd⟩ _ HPw.out HAw.out).mono ?_
        rintro e w1 ⟨rfl, hb1⟩
        obtain ⟨u1, rfl⟩ : ∃ u : Wk W, w1 = u.1 := ⟨⟨w1, hb1⟩, rfl⟩
        clear hb1
        have z1 := u1.2.size
        go_wp2_with fail
        refine (show Calls Try.prog 26 #[.agg #[.slice A p.costs.length c, .slice A2 p.rows.length c2], .agg #[.slice Z zs.length cz, .int .i64 zd]] u1.1
              fun e w' => e = .returned (.bool true) ∧ Below u1.1.heap.size u1.1 w' from by rw [← q2]; exact ref2_Goes _ _ _ _ _ _ _ _ _ _ (HPw.out.below u1.2) (HZw.out.below u1.2)).mono ?_
        rintro e w1 ⟨rfl, hb1⟩
        obtain ⟨u2, rfl⟩ : ∃ u : Wk W, w1 = u.1 := ⟨⟨w1, u1.2.trans (hb1.mono u1.2.size)⟩, rfl⟩
        clear hb1
        have z2 := u2.2.size
        go_upto_region 9 with fail
        have HPu := Lib.hid (HPw.out.below u2.2)
        have HZu := Lib.hid (HZw.out.below u2.2)
        have Vpu := Lib.hid (Vp.out.next u2.2)
        have Vau := Lib.hid (Va.out.next u2.2)
        have Vzu := Lib.hid (Vz.out.next u2.2)
        have HU := Lib.hid u2.2
        clear s0 s1 s2 s9 s10 t0 t1
        generalize u2.1 = U at *
        have SK := Lib.hid (show ∀ w', Below U.heap.size U w' → (w'.cell? ⟨w.heap.size, 0, none⟩ = some (.slice A p.costs.length c) ∧ w'.cell? ⟨w.heap.size + 2, 0, none⟩ = some (.slice Z zs.length cz) ∧ w'.cell? ⟨w.heap.size + 2, 1, none⟩ = some (.int .i64 zd)) from fun w' h => ⟨(Vpu.out.next h).cell 0, (Vzu.out.next h).cell 0, (Vzu.out.next h).cell 1⟩)
        go_cut [9, 10] (fun s8 s9 wx => ∃ g : Nat, s8 = .pointer (some ⟨g, 0, none⟩) ∧ s9 = .int .i64 (ptE [dot p.costs zs] zd) ∧ Blk wx g 23 #[.int .i64 (frN (dot p.costs zs) zd), .int .i64 (ptD [dot p.costs zs] zd)] ∧ Below U.heap.size U wx)
        case first =>
          go_region_held3 (fun w' => (w'.cell? ⟨w.heap.size, 0, none⟩ = some (.slice A p.costs.length c) ∧ w'.cell? ⟨w.heap.size + 2, 0, none⟩ = some (.slice Z zs.length cz) ∧ w'.cell? ⟨w.heap.size + 2, 1, none⟩ = some (.int .i64 zd)))
            (first | (refine SK.out _ ?_; exact (by (repeat (any_goals (first | exact Below.refl _ _ | exact hb8 | refine below_drewN ?_ _ | refine Below.drew ?_ | refine Below.alloc ?_ ?_ _ | refine Below.setCell ?_ ?_ _ | refine Below.trans ?_ (Below.mono hb8 ?_)))); all_goals (first | omega | (simp; done) | (simp; omega) | ((try have z0 := hb8.size); (try simp at z0); (try simp); omega)))))
            (first
              | (go_at_call 28; refine (HDx.out _ (HPu.out.costs.below (by (repeat (any_goals (first | exact Below.refl _ _ | refine below_drewN ?_ _ | refine Below.drew ?_ | refine Below.alloc ?_ ?_ _ | refine Below.setCell ?_ ?_ _))); all_goals (first | omega | (simp; done) | (simp; omega)))) (HZu.out.below (by (repeat (any_goals (first | exact Below.refl _ _ | refine below_drewN ?_ _ | refine Below.drew ?_ | refine Below.alloc ?_ ?_ _ | refine Below.setCell ?_ ?_ _))); all_goals (first | omega | (simp; done) | (simp; omega))))).mono ?_; rintro e w7 ⟨rfl, n7, rfl⟩)
              | (go_at_call 15; refine (ref1_Make _ _ _).mono ?_; rintro e w8 ⟨rfl, hb8⟩; (try (have hQ : Blk w8 U.heap.size 23 #[.int .i64 0, .int .i64 0] := Blk.next (by first | exact Blk.mk' _ _ _ | exact Blk.drewN (Blk.mk' _ _ _) _ | exact Blk.drew (Blk.mk' _ _ _) | exact Blk.drewN (Blk.drew (Blk.mk' _ _ _)) _) hb8; have y0 : w8.cell? ⟨U.heap.size, 0, none⟩ = some (.int .i64 0) := hQ.cell 0; have y1 : w8.cell? ⟨U.heap.size, 1, none⟩ = some (.int .i64 0) := hQ.cell 1; have y2 := hQ.frozen 0; have y3 := hQ.frozen 1))))
          all_goals
            have z8 := hb8.size
            (try simp at z8)
            go_wp2_with fail
            go_meet
            first
              | exact ⟨_, rfl, rfl, Blk.mk' _ _ _, (by (repeat (any_goals (first | exact Below.refl _ _ | exact hb8 | refine below_drewN ?_ _ | refine Below.drew ?_ | refine Below.alloc ?_ ?_ _ | refine Below.setCell ?_ ?_ _ | refine Below.trans ?_ (Below.mono hb8 ?_)))); all_goals (first | omega | (simp; done) | (simp; omega) | ((try have z0 := hb8.size); (try simp at z0); (try simp); omega)))⟩
              | exact ⟨_, rfl, rfl, (hQ.set0 0 _).set0 1 _, (by (repeat (any_goals (first | exact Below.refl _ _ | exact hb8 | refine below_drewN ?_ _ | refine Below.drew ?_ | refine Below.alloc ?_ ?_ _ | refine Below.setCell ?_ ?_ _ | refine Below.trans ?_ (Below.mono hb8 ?_)))); all_goals (first | omega | (simp; done) | (simp; omega) | ((try have z0 := hb8.size); (try simp at z0); (try simp); omega)))⟩
        case rest =>
          obtain ⟨g, rfl, rfl, hG, hUw⟩ := hcut
          have e0 : wc.cell? ⟨g, 0, none⟩ = some (.int .i64 (frN (dot p.costs zs) zd)) := hG.cell 0
          have e1 : wc.cell? ⟨g, 1, none⟩ = some (.int .i64 (ptD [dot p.costs zs] zd)) := hG.cell 1
          have e4 : wc.cell? ⟨w.heap.size + 1, 7, none⟩ = some (.int .i64 wn) := (Vau.out.next hUw).cell 7
          have e5 : wc.cell? ⟨w.heap.size + 1, 8, none⟩ = some (.int .i64 wd) := (Vau.out.next hUw).cell 8
          have HT := Lib.hid hUw
          clear hG hUw
          rcases HRG.out with he | he
          · have hbl := HBL.out he
            have hm1 := mayB_parts (may_frac he)
            have hm2 := mayB_parts (may_frac HBP.out.2.2.2.2.1)
            rw [HBP.out.2.2.2.2.2.1, HBP.out.2.2.2.2.2.2.1] at hm2
            simp only [smallB_one, Bool.and_eq_true, decide_eq_true_eq] at hm1 hm2
            rw [he]
            generalize frN (dot p.costs zs) zd = n1 at *
            generalize ptD [dot p.costs zs] zd = m1 at *
            (try dsimp only at hbl)
            (try dsimp only at hm2)
            have hbl' : n1 * wd - wn * m1 ≤ 0 := by omega
            clear he hbl
            go_wp2_with fail
            refine (ref1_Cmp _ _ _ _ _ (by omega) (by omega) (by omega) (by omega)).mono ?_
            rintro e w9 ⟨rfl, hb9⟩
            have HT9 := Lib.hid hb9
            clear hb9
            go_wp2_with fail
            go_ret
            exact ⟨ret_bool (by first | (simp; done) | (simp; omega)), (by (repeat (any_goals (first | exact Below.refl _ _ | exact HW.out | exact HU.out | exact HT.out | exact HT9.out | refine below_drewN ?_ _ | refine Below.drew ?_ | refine Below.alloc ?_ ?_ _ | refine Below.setCell ?_ ?_ _ | refine Below.trans ?_ (Below.mono HW.out ?_) | refine Below.trans ?_ (Below.mono HU.out ?_) | refine Below.trans ?_ (Below.mono HT.out ?_) | refine Below.trans ?_ (Below.mono HT9.out ?_)))); all_goals (first | omega | (simp; done) | (simp; omega) | ((try have z0 := HW.out.size); (try simp at z0); (try have z1 := HU.out.size); (try simp at z1); (try have z2 := HT.out.size); (try simp at z2); (try have z3 := HT9.out.size); (try simp at z3); (try simp); omega)))⟩
          · rw [he]
            clear he
            go_wp2_with fail
            go_ret
            exact ⟨rfl, (by (repeat (any_goals (first | exact Below.refl _ _ | exact HW.out | exact HU.out | exact HT.out | refine below_drewN ?_ _ | refine Below.drew ?_ | refine Below.alloc ?_ ?_ _ | refine Below.setCell ?_ ?_ _ | refine Below.trans ?_ (Below.mono HW.out ?_) | refine Below.trans ?_ (Below.mono HU.out ?_) | refine Below.trans ?_ (Below.mono HT.out ?_)))); all_goals (first | omega | (simp; done) | (simp; omega) | ((try have z0 := HW.out.size); (try simp at z0); (try have z1 := HU.out.size); (try simp at z1); (try have z2 := HT.out.size); (try simp at z2); (try simp); omega)))⟩
theorem proofBest_walk (A : Option Addr) (c : Nat) (A2 : Option Addr) (c2 : Nat) (p : PG) (X : Option Addr) (cx : Nat) (Y : Option Addr) (cy : Nat) (R : Option Addr) (cr : Nat) (a : AN)
    (Z : Option Addr) (zs : List Int) (cz : Nat) (zd : Int) (w : World) (hp : Pg w A c A2 c2 p) (ha : An w X cx Y cy R cr a) (hz : Rd w Z cz zs) :
    Calls Try.prog 9 #[.agg #[.slice A p.costs.length c, .slice A2 p.rows.length c2],
      .agg #[.int .i64 a.kind, .slice X a.xs.length cx, .int .i64 a.xd, .slice Y a.ys.length cy, .int .i64 a.yd, .slice R a.rs.length cr, .int .i64 a.rd, .int .i64 a.wn, .int .i64 a.wd],
      .agg #[.slice Z zs.length cz, .int .i64 zd]] w
      fun e w' => e = .returned (.bool true) ∧ Below w.heap.size w w' := by
  obtain ⟨kd, xs, xd, ys, yd, rs, rd, wn, wd⟩ := a
  exact proofBest_1 _ _ _ _ _ _ _ _ _ _ _ _ _ _ _ _ _ _ _ _ _ _ _ _ _ hp ha hz
end Go.Proofs.Ytjcdkbalhleeeaa
