/-
  The walk of the law ProofEndless: it returns true. No condition but that its arguments read as a program, an answer and a number.
-/
import Derived.Test.YtjcdkbalhleeeaaPrfK
import Derived.Test.YtjcdkbalhleeeaaRef2
import Derived.Test.YtjcdkbalhleeeaaRef4b
import Derived.Deep.DeepCutAuto
import Derived.StillTailTactics
namespace Go.Proofs.Ytjcdkbalhleeeaa
open Go.RowKit

set_option maxRecDepth 100000 in
set_option maxHeartbeats 1000000 in
theorem proofEndless_1 (A : Option Addr) (c : Nat) (A2 : Option Addr) (c2 : Nat) (p : PG) (X : Option Addr) (cx : Nat) (Y : Option Addr) (cy : Nat) (R : Option Addr) (cr : Nat) (kd : Int) (xs : List Int) (xd : Int) (ys : List Int) (yd : Int) (rs : List Int) (rd wn wd : Int)
    (z : Int) (w : World) (hp : Pg w A c A2 c2 p) (ha : An w X cx Y cy R cr ⟨kd, xs, xd, ys, yd, rs, rd, wn, wd⟩) (hz0 : 0 ≤ z) (hz1 : z ≤ 65535) :
    Calls Try.prog 10 #[.agg #[.slice A p.costs.length c, .slice A2 p.rows.length c2],
      .agg #[.int .i64 kd, .slice X xs.length cx, .int .i64 xd, .slice Y ys.length cy, .int .i64 yd, .slice R rs.length cr, .int .i64 rd, .int .i64 wn, .int .i64 wd],
      .int .u16 z] w
      fun e w' => e = .returned (.bool true) ∧ Below w.heap.size w w' := by
  have HP := Lib.hid hp
  have HA := Lib.hid ha
  obtain ⟨⟨hl, hc, hsm, _⟩, ⟨hl2, hc2, hsm2, _⟩⟩ := hp
  clear ha
  go_enter Try.func10, Try.ntmps10
  go_wp2_with fail
  obtain ⟨W, eW⟩ : ∃ W, W = ((w.alloc (.cells #[.slice A p.costs.length c, .slice A2 p.rows.length c2] 40)).alloc (.cells #[.int .i64 kd, .slice X xs.length cx, .int .i64 xd, .slice Y ys.length cy, .int .i64 yd, .slice R rs.length cr, .int .i64 rd, .int .i64 wn, .int .i64 wd] 57)) := ⟨_, rfl⟩
  have Vp := Lib.hid (show Blk W w.heap.size 40 #[.slice A p.costs.length c, .slice A2 p.rows.length c2] by rw [eW]; exact (Blk.mk' _ _ _).alloc _)
  have Va := Lib.hid (show Blk W (w.heap.size + 1) 57 #[.int .i64 kd, .slice X xs.length cx, .int .i64 xd, .slice Y ys.length cy, .int .i64 yd, .slice R rs.length cr, .int .i64 rd, .int .i64 wn, .int .i64 wd] by rw [eW]; exact Blk.new _ _ _ _ (by simp))
  have hW : Below w.heap.size w W := by rw [eW]; exact (by (repeat (any_goals (first | exact Below.refl _ _ | refine below_drewN ?_ _ | refine Below.drew ?_ | refine Below.alloc ?_ ?_ _ | refine Below.setCell ?_ ?_ _))); all_goals (first | omega | (simp; done) | (simp; omega)))
  rw [← eW]
  clear eW
  have HPw := Lib.hid (HP.out.below hW)
  have HAw := Lib.hid (HA.out.below hW)
  have HW := Lib.hid hW
  have lVa := Va.out.lt
  clear hW
  have s0 : ∀ u : Wk W, u.1.cell? ⟨w.heap.size, 0, none⟩ = some (.slice A p.costs.length c) := fun u => (Vp.out.next u.2).cell 0
  have s1 : ∀ u : Wk W, u.1.cell? ⟨w.heap.size, 1, none⟩ = some (.slice A2 p.rows.length c2) := fun u => (Vp.out.next u.2).cell 1
  have s2 : ∀ u : Wk W, u.1.cell? ⟨w.heap.size + 1, 0, none⟩ = some (.int .i64 kd) := fun u => (Va.out.next u.2).cell 0
  have s3 : ∀ u : Wk W, u.1.cell? ⟨w.heap.size + 1, 1, none⟩ = some (.slice X xs.length cx) := fun u => (Va.out.next u.2).cell 1
  have s4 : ∀ u : Wk W, u.1.cell? ⟨w.heap.size + 1, 2, none⟩ = some (.int .i64 xd) := fun u => (Va.out.next u.2).cell 2
  have s7 : ∀ u : Wk W, u.1.cell? ⟨w.heap.size + 1, 5, none⟩ = some (.slice R rs.length cr) := fun u => (Va.out.next u.2).cell 5
  cases q1 : holdsB p ⟨kd, xs, xd, ys, yd, rs, rd, wn, wd⟩ with
  | false =>
    refine (show Calls Try.prog 33 #[.agg #[.slice A p.costs.length c, .slice A2 p.rows.length c2],
          .agg #[.int .i64 kd, .slice X xs.length cx, .int .i64 xd, .slice Y ys.length cy, .int .i64 yd, .slice R rs.length cr, .int .i64 rd, .int .i64 wn, .int .i64 wd]] W
          fun e w' => e = .returned (.bool false) ∧ Below W.heap.size W w' from by rw [← q1]; exact proof_Holds _ _ _ _ _ _ _ _ _ _ _ ⟨kd, xs, xd, ys, yd, rs, rd, wn, wd⟩ _ HPw.out HAw.out).mono ?_
    rintro e w1 ⟨rfl, hb1⟩
    obtain ⟨u1, rfl⟩ : ∃ u : Wk W, w1 = u.1 := ⟨⟨w1, hb1⟩, rfl⟩
    clear hb1
    have z1 := u1.2.size
    go_wp2_with fail
    refine (known_holds u1.1).mono ?_
    rintro e w2 ⟨rfl, hb2⟩
    have HB2 := Lib.hid hb2
    clear hb2
    go_wp2_with fail
    go_ret
    exact ⟨rfl, (by have hT := u1.2; exact (by (repeat (any_goals (first | exact Below.refl _ _ | exact HW.out | exact hT | exact HB2.out | refine below_drewN ?_ _ | refine Below.drew ?_ | refine Below.alloc ?_ ?_ _ | refine Below.setCell ?_ ?_ _ | refine Below.trans ?_ (Below.mono HW.out ?_) | refine Below.trans ?_ (Below.mono hT ?_) | refine Below.trans ?_ (Below.mono HB2.out ?_)))); all_goals (first | omega | (simp; done) | (simp; omega) | ((try have z0 := HW.out.size); (try simp at z0); (try have z1 := hT.size); (try simp at z1); (try have z2 := HB2.out.size); (try simp at z2); (try simp); omega))))⟩
  | true =>
    by_cases h2 : kd = 2
    rotate_left
    · have k2 : (kd != 2) = true := by simp [h2]
      by_cases h1 : kd = 1
      · have k1 : (kd == 1) = true := by simp [h1]
        clear h1 h2
        refine (show Calls Try.prog 33 #[.agg #[.slice A p.costs.length c, .slice A2 p.rows.length c2],
              .agg #[.int .i64 kd, .slice X xs.length cx, .int .i64 xd, .slice Y ys.length cy, .int .i64 yd, .slice R rs.length cr, .int .i64 rd, .int .i64 wn, .int .i64 wd]] W
              fun e w' => e = .returned (.bool true) ∧ Below W.heap.size W w' from by rw [← q1]; exact proof_Holds _ _ _ _ _ _ _ _ _ _ _ ⟨kd, xs, xd, ys, yd, rs, rd, wn, wd⟩ _ HPw.out HAw.out).mono ?_
        rintro e w1 ⟨rfl, hb1⟩
        obtain ⟨u1, rfl⟩ : ∃ u : Wk W, w1 = u.1 := ⟨⟨w1, hb1⟩, rfl⟩
        clear hb1
        have z1 := u1.2.size
        go_wp2_with fail
        go_ret
        exact ⟨rfl, (by have hT := u1.2; exact (by (repeat (any_goals (first | exact Below.refl _ _ | exact HW.out | exact hT | refine below_drewN ?_ _ | refine Below.drew ?_ | refine Below.alloc ?_ ?_ _ | refine Below.setCell ?_ ?_ _ | refine Below.trans ?_ (Below.mono HW.out ?_) | refine Below.trans ?_ (Below.mono hT ?_)))); all_goals (first | omega | (simp; done) | (simp; omega) | ((try have z0 := HW.out.size); (try simp at z0); (try have z1 := hT.size); (try simp at z1); (try simp); omega))))⟩
      · have h3 : kd = 3 := by
          simp only [holdsB, Bool.and_eq_true, if_neg h1, if_neg h2] at q1
          obtain ⟨_, q1⟩ := q1
          split at q1
          · assumption
          · simp at q1
        have k1 : (kd == 1) = false := by simp [h1]
        have k3 : (kd == 3) = true := by simp [h3]
        clear h1 h2 h3
        refine (show Calls Try.prog 33 #[.agg #[.slice A p.costs.length c, .slice A2 p.rows.length c2],
              .agg #[.int .i64 kd, .slice X xs.length cx, .int .i64 xd, .slice Y ys.length cy, .int .i64 yd, .slice R rs.length cr, .int .i64 rd, .int .i64 wn, .int .i64 wd]] W
              fun e w' => e = .returned (.bool true) ∧ Below W.heap.size W w' from by rw [← q1]; exact proof_Holds _ _ _ _ _ _ _ _ _ _ _ ⟨kd, xs, xd, ys, yd, rs, rd, wn, wd⟩ _ HPw.out HAw.out).mono ?_
        rintro e w1 ⟨rfl, hb1⟩
        obtain ⟨u1, rfl⟩ : ∃ u : Wk W, w1 = u.1 := ⟨⟨w1, hb1⟩, rfl⟩
        clear hb1
        have z1 := u1.2.size
        go_wp2_with fail
        go_ret
        exact ⟨rfl, (by have hT := u1.2; exact (by (repeat (any_goals (first | exact Below.refl _ _ | exact HW.out | exact hT | refine below_drewN ?_ _ | refine Below.drew ?_ | refine Below.alloc ?_ ?_ _ | refine Below.setCell ?_ ?_ _ | refine Below.trans ?_ (Below.mono HW.out ?_) | refine Below.trans ?_ (Below.mono hT ?_)))); all_goals (first | omega | (simp; done) | (simp; omega) | ((try have z0 := HW.out.size); (try simp at z0); (try have z1 := hT.size); (try simp at z1); (try simp); omega))))⟩
    · have k2 : (kd != 2) = false := by simp [h2]
      have hend : endlessB p ⟨kd, xs, xd, ys, yd, rs, rd, wn, wd⟩ = true := by
        simp only [holdsB, Bool.and_eq_true, h2] at q1; exact q1.2
      have hm : mayPB p = true := by simp only [holdsB, Bool.and_eq_true] at q1; exact q1.1
      have HE := Lib.hid hend
      have HM := Lib.hid hm
      obtain ⟨n1, n2, n3, n4, _⟩ := endless_parts hend
      obtain ⟨f1, n5, _⟩ := goesB_iff.1 n1
      obtain ⟨_, f2, f3⟩ := fitsB_iff.1 f1
      obtain ⟨d1, d2, d3, d4⟩ := mayB_parts f2
      obtain ⟨g1, g2, g3, g4, g5, g6⟩ := mayPB_iff.1 hm
      have HN2 := Lib.hid n2
      have HN5 := Lib.hid n5
      have HL3 := Lib.hid f3
      have HR3 := Lib.hid n3
      have HD3 := Lib.hid d3
      have HG5 := Lib.hid g5
      dsimp only at n2 n3 n5 f3 d1 d2 d3 d4
      have j1 : ((xs.length : Int) != (p.costs.length : Int)) = false := by simp; omega
      have j2 : ((rs.length : Int) != (p.costs.length : Int)) = false := by simp; omega
      have fl1 : p.costs.length ≤ xs.length := by omega
      have fl2 : xs.length ≤ p.costs.length := by omega
      have fl3 : p.costs.length ≤ rs.length := by omega
      have fl4 : rs.length ≤ p.costs.length := by omega
      have hkk : 0 ≤ z % 1001 ∧ z % 1001 ≤ 1000 := by omega
      clear hend hm n1 n2 n3 n4 n5 f1 f2 f3 d3 g5 g6 h2
      refine (show Calls Try.prog 33 #[.agg #[.slice A p.costs.length c, .slice A2 p.rows.length c2],
            .agg #[.int .i64 kd, .slice X xs.length cx, .int .i64 xd, .slice Y ys.length cy, .int .i64 yd, .slice R rs.length cr, .int .i64 rd, .int .i64 wn, .int .i64 wd]] W
            fun e w' => e = .returned (.bool true) ∧ Below W.heap.size W w' from by rw [← q1]; exact proof_Holds _ _ _ _ _ _ _ _ _ _ _ ⟨kd, xs, xd, ys, yd, rs, rd, wn, wd⟩ _ HPw.out HAw.out).mono ?_
      rintro e w1 ⟨rfl, hb1⟩
      obtain ⟨u1, rfl⟩ : ∃ u : Wk W, w1 = u.1 := ⟨⟨w1, hb1⟩, rfl⟩
      clear hb1
      have z1 := u1.2.size
      go_wp2_with fail
      refine (show Calls Try.prog 25 #[.agg #[.slice A p.costs.length c, .slice A2 p.rows.length c2]] u1.1 fun e w' => e = .returned (.bool true) ∧ Below u1.1.heap.size u1.1 w' from by rw [← HM.out]; exact (ref2_May _ _ _ _ _ _ (HPw.out.below u1.2))).mono ?_
      rintro e w1 ⟨rfl, hb1⟩
      obtain ⟨u2, rfl⟩ : ∃ u : Wk W, w1 = u.1 := ⟨⟨w1, u1.2.trans (hb1.mono u1.2.size)⟩, rfl⟩
      clear hb1
      have z2 := u2.2.size
      go_wp2_with fail
      have HPu := Lib.hid (HPw.out.below u2.2)
      have HAu := Lib.hid (HAw.out.below u2.2)
      have Vpu := Lib.hid (Vp.out.next u2.2)
      have Vau := Lib.hid (Va.out.next u2.2)
      have HU := Lib.hid u2.2
      clear s0 s1 s2 s3 s4 s7
      generalize u2.1 = U at *
      generalize hK : z % 1001 = kk at *
      have HLA := Lib.hid (length_along xs rs kk xd)
      go_loopw [11, 12] (fun v i wx => ∃ k : Nat, k ≤ p.costs.length ∧ i = .int .i64 k ∧ wx.ownsRow U.heap.size 2 1 v k (((along xs rs kk xd).take k).map (Value.int .i64)) ∧ Below U.heap.size U wx ∧ (0 < k → xd ≤ 1000000) ∧ smallB 1000000 (rs.take k) = true) (fun _ i _ => p.costs.length - (intOf i).toNat)
      case atStart => exact ⟨0, by omega, rfl, World.ownsRow_nil _ _ _ _, Below.refl _ _, fun h => by omega, rfl⟩
      case round =>
        obtain ⟨k, hk, rfl, hown, hbel, hxk, hrk⟩ := hrel
        have HO := Lib.hid hown
        have HL := Lib.hid hbel
        have HRK := Lib.hid hrk
        have HXK := Lib.hid hxk
        have zL := hbel.size
        have Var := Lib.hid (Vau.out.next hbel)
        have Vpr := Lib.hid (Vpu.out.next hbel)
        have HAr := Lib.hid (HAu.out.below hbel)
        have HPr := Lib.hid (HPu.out.below hbel)
        clear hown hbel hrk hxk
        rename World => V
        have lVa' := Var.out.lt
        have t3 : V.cell? ⟨w.heap.size + 1, 1, none⟩ = some (.slice X xs.length cx) := Var.out.cell 1
        have t4 : V.cell? ⟨w.heap.size + 1, 2, none⟩ = some (.int .i64 xd) := Var.out.cell 2
        have t7 : V.cell? ⟨w.heap.size + 1, 5, none⟩ = some (.slice R rs.length cr) := Var.out.cell 5
        by_cases hlt : k < p.costs.length
        · obtain ⟨adx, hX', hcx⟩ := HAu.out.x.at_ (k := k) (by first | omega | (dsimp only; omega))
          obtain ⟨adr, hR', hcr⟩ := HAu.out.r.at_ (k := k) (by first | omega | (dsimp only; omega))
          obtain ⟨ad, hX, hc1⟩ := HAr.out.x.at_ (k := k) (by first | omega | (dsimp only; omega))
          obtain ⟨ad2, hR, hc2'⟩ := HAr.out.r.at_ (k := k) (by first | omega | (dsimp only; omega))
          (try dsimp only at hc1)
          (try dsimp only at hc2')
          subst hX hR
          cases hX'
          cases hR'
          (try dsimp only at hcx)
          (try dsimp only at hcr)
          have HCX := Lib.hid hcx
          have HCR := Lib.hid hcr
          clear hcx hcr
          have hx0 := nonneg_at HN5.out k
          have hr0 := nonneg_at HN2.out k
          have hxb := smallB_at HD3.out (k := k) (by first | omega | (dsimp only; omega))
          have hkx : k < xs.length := by omega
          have hkr : k < rs.length := by omega
          have ex : xs.getD k 0 = xs[k] := by simp [List.getD, List.getElem?_eq_getElem hkx]
          have er : rs.getD k 0 = rs[k] := by simp [List.getD, List.getElem?_eq_getElem hkr]
          have HST := Lib.hid (smallB_take (m := 1000000) hkr)
          have HAT := Lib.hid (along_at (xs := xs) (rs := rs) (k := kk) (d := xd) hkx)
          (try dsimp only at hx0)
          (try dsimp only at hr0)
          (try dsimp only at hxb)
          rw [ex, er] at HAT
          rw [ex] at hx0
          rw [er] at hr0
          have HTK := Lib.hid (show ((along xs rs kk xd).take (k + 1)).map (Value.int .i64) = ((along xs rs kk xd).take k).map (Value.int .i64) ++ [Value.int .i64 ((along xs rs kk xd).getD k 0)] by
            have hkl : k < (along xs rs kk xd).length := by rw [length_along]; exact hkx
            rw [List.take_succ_eq_append_getElem hkl, List.map_append]; simp [List.getD, List.getElem?_eq_getElem hkl])
          generalize (along xs rs kk xd).getD k 0 = al at *
          generalize xs[k] = x at *
          generalize rs[k] = r at *
          have i1 : (k : Int) < (xs.length : Int) := by omega
          have i2 : (k : Int) < (rs.length : Int) := by omega
          clear ex er
          by_cases hx6 : 1000000 < xd
          · go_wp2_with fail
            go_ret
            exact ⟨rfl, (by (repeat (any_goals (first | exact Below.refl _ _ | exact HW.out | exact HU.out | exact HL.out | refine below_drewN ?_ _ | refine Below.drew ?_ | refine Below.alloc ?_ ?_ _ | refine Below.setCell ?_ ?_ _ | refine Below.trans ?_ (Below.mono HW.out ?_) | refine Below.trans ?_ (Below.mono HU.out ?_) | refine Below.trans ?_ (Below.mono HL.out ?_)))); all_goals (first | omega | (simp; done) | (simp; omega) | ((try have z0 := HW.out.size); (try simp at z0); (try have z1 := HU.out.size); (try simp at z1); (try have z2 := HL.out.size); (try simp at z2); (try simp); omega)))⟩
          · by_cases hr6 : 1000000 < r
            · go_wp2_with fail
              go_ret
              exact ⟨rfl, (by (repeat (any_goals (first | exact Below.refl _ _ | exact HW.out | exact HU.out | exact HL.out | refine below_drewN ?_ _ | refine Below.drew ?_ | refine Below.alloc ?_ ?_ _ | refine Below.setCell ?_ ?_ _ | refine Below.trans ?_ (Below.mono HW.out ?_) | refine Below.trans ?_ (Below.mono HU.out ?_) | refine Below.trans ?_ (Below.mono HL.out ?_)))); all_goals (first | omega | (simp; done) | (simp; omega) | ((try have z0 := HW.out.size); (try simp at z0); (try have z1 := HU.out.size); (try simp at z1); (try have z2 := HL.out.size); (try simp at z2); (try simp); omega)))⟩
            · have m1 := mul_bound kk r 1000 1000000 (by omega) (by omega) (by omega) (by omega)
              have m2 := mul_bound (kk * r) xd 1000000000 1000000 (by omega) (by omega) (by omega) (by omega)
              have hw1 : IntKind.i64.wrap (kk * r) = kk * r := IntWalk.i64_in _ (by omega)
              have hw2 : IntKind.i64.wrap (kk * r * xd) = kk * r * xd := IntWalk.i64_in _ (by omega)
              have hw3 : IntKind.i64.wrap (x + kk * r * xd) = x + kk * r * xd := IntWalk.i64_in _ (by omega)
              clear m1 m2
              go_wp2_with fail
              have SK := Lib.hid (show ∀ w', Below U.heap.size U w' → (w'.cell? ⟨w.heap.size + 1, 1, none⟩ = some (.slice (some adx) xs.length cx) ∧ w'.cell? ⟨w.heap.size + 1, 5, none⟩ = some (.slice (some adr) rs.length cr) ∧ w'.cell? ⟨w.heap.size + 1, 2, none⟩ = some (.int .i64 xd) ∧ w'.cell? (adx.add k) = some (.int .i64 x) ∧ w'.cell? (adr.add k) = some (.int .i64 r)) from
                fun w' h => ⟨(Vau.out.next h).cell 1, (Vau.out.next h).cell 5, (Vau.out.next h).cell 2, (h.cell (World.block_lt_of_cell? _ _ HCX.out)).trans HCX.out, (h.cell (World.block_lt_of_cell? _ _ HCR.out)).trans HCR.out⟩)
              go_region_held3 (fun w' => w'.cell? ⟨w.heap.size + 1, 1, none⟩ = some (.slice (some adx) xs.length cx) ∧ w'.cell? ⟨w.heap.size + 1, 5, none⟩ = some (.slice (some adr) rs.length cr) ∧ w'.cell? ⟨w.heap.size + 1, 2, none⟩ = some (.int .i64 xd) ∧ w'.cell? (adx.add k) = some (.int .i64 x) ∧ w'.cell? (adr.add k) = some (.int .i64 r))
                (first | (refine SK.out _ ?_; exact hbw3) | (refine SK.out _ ?_; exact (by (repeat (any_goals (first | exact Below.refl _ _ | exact HL.out | refine below_drewN ?_ _ | refine Below.drew ?_ | refine Below.alloc ?_ ?_ _ | refine Below.setCell ?_ ?_ _ | refine Below.trans ?_ (Below.mono HL.out ?_)))); all_goals (first | omega | (simp; done) | (simp; omega) | ((try have z0 := HL.out.size); (try simp at z0); (try simp); omega)))) | go_keep)
                ((refine step_app1 (by rfl) (.tmp 103) (.tmp 123) _ _ _ 8 und_i64s inf_i64 rfl (by rfl) _ u11 k _ _ (by rfl) (by first | exact (HO.out.alloc _).drew | exact (HO.out.drew).alloc _ | exact HO.out.alloc _) _ 1 (by rfl) (by exact cell_new1 _ _ _) rfl (by unfold maxLen; omega) (by omega) (by simp; omega) ?_; intro g3 cap w3 hown3 hg3 hat hlt3; have hbw3 : Below U.heap.size U w3 := (by first | exact (HL.out.alloc zL _).grown hg3 (by simp; omega) (own_ge HO.out (Nat.le_refl _)) | exact ((HL.out.alloc zL _).drew).grown hg3 (by simp; omega) (own_ge HO.out (Nat.le_refl _)) | exact ((HL.out.drew).alloc zL _).grown hg3 (by simp; omega) (own_ge HO.out (Nat.le_refl _)))))
              all_goals go_wp2_with fail
              have HO3 := Lib.hid hown3
              have HG3 := Lib.hid hg3
              clear hown3 hg3
              go_roundw
              case rel => exact ⟨k + 1, by omega, by go_num, by rw [HTK.out, HAT.out]; exact HO3.out, ((HL.out.drew).alloc (by simp; omega) _).grown HG3.out (by simp; omega) (own_ge HO.out (by omega)), fun _ => by omega, by rw [HST.out, HRK.out]; simp; omega⟩
              case measure => simp [intOf]; omega
        · obtain rfl : k = p.costs.length := by omega
          have htk : (along xs rs kk xd).take p.costs.length = along xs rs kk xd := List.take_of_length_le (by rw [length_along]; omega)
          rw [htk] at HO
          obtain ⟨S', cS, hv, hRd, _⟩ := Rd.of_ownv HO.out (by rw [length_along]; omega) (by rw [length_along]; omega)
          subst hv
          have HS' := Lib.hid hRd
          have hd6 := HXK.out (by omega)
          have hr6 : smallB 1000000 rs = true := by have := HRK.out; rwa [List.take_of_length_le (by omega)] at this
          have hAS : smallB 1001073741824000 (along xs rs kk xd) = true := along_small HD3.out hr6 (by omega) (by omega) (by omega) (by omega)
          have HAS := Lib.hid hAS
          have HRW := Lib.hid (fun i (h : i < p.rows.length) => endless_row HE.out (k := kk) (by omega) h)
          have HMO := Lib.hid (endless_more HE.out (k := kk) (by omega))
          dsimp only at HRW HMO
          have HD1 := Lib.hid (show ∀ v : Wk V, Calls Try.prog 28 #[.slice A p.costs.length c, .slice S' (along xs rs kk xd).length cS] v.1 fun e w' => e = .returned (.int .i64 (dot p.costs (along xs rs kk xd))) ∧ ∃ n, w' = v.1.drewN n from
            fun v => ref2_Dot A p.costs c S' _ cS 400 1001073741824000 v.1 (HPr.out.costs.below v.2) (HS'.out.below v.2) (by rw [length_along]; omega) (by omega) (by omega) HG5.out HAS.out (by omega))
          have HD2 := Lib.hid (show ∀ v : Wk V, Calls Try.prog 28 #[.slice A p.costs.length c, .slice X xs.length cx] v.1 fun e w' => e = .returned (.int .i64 (dot p.costs xs)) ∧ ∃ n, w' = v.1.drewN n from
            fun v => ref2_Dot A p.costs c X xs cx 400 1073741824 v.1 (HPr.out.costs.below v.2) (HAr.out.x.below v.2) (by omega) (by omega) (by omega) HG5.out HD3.out (by omega))
          have hb1 := dot_bound (a := p.costs) (b := along xs rs kk xd) HG5.out hAS (by omega) (by omega)
          have hb2 := dot_bound (a := p.costs) (b := xs) HG5.out HD3.out (by omega) (by omega)
          have hb3 := mul_bound kk xd 1000 1000000 (by omega) (by omega) (by omega) (by omega)
          have HB := Lib.hid (show IntKind.i64.wrap (dot p.costs (along xs rs kk xd) - dot p.costs xs) = dot p.costs (along xs rs kk xd) - dot p.costs xs from IntWalk.i64_in _ (by omega))
          have HB3 := Lib.hid (show IntKind.i64.wrap (kk * xd) = kk * xd from IntWalk.i64_in _ (by omega))
          have s0 : ∀ u : Wk V, u.1.cell? ⟨w.heap.size, 0, none⟩ = some (.slice A p.costs.length c) := fun u => (Vpr.out.next u.2).cell 0
          have s1 : ∀ u : Wk V, u.1.cell? ⟨w.heap.size, 1, none⟩ = some (.slice A2 p.rows.length c2) := fun u => (Vpr.out.next u.2).cell 1
          have s3 : ∀ u : Wk V, u.1.cell? ⟨w.heap.size + 1, 1, none⟩ = some (.slice X xs.length cx) := fun u => (Var.out.next u.2).cell 1
          have s4 : ∀ u : Wk V, u.1.cell? ⟨w.heap.size + 1, 2, none⟩ = some (.int .i64 xd) := fun u => (Var.out.next u.2).cell 2
          have r1 : V.cell? ⟨w.heap.size, 1, none⟩ = some (.slice A2 p.rows.length c2) := Vpr.out.cell 1
          have hLen : smallB 0 [] = true := rfl
          clear hAS hb1 hb2 hb3 htk hRd hr6 t3 t4 t7 hLen
          generalize hAL : along xs rs kk xd = al at *
          generalize hDa : dot p.costs al = da at *
          generalize hDx : dot p.costs xs = dx at *
          clear hAL hDa hDx
          go_wp2_with fail
          go_loopw [13] (fun i wx => ∃ (k : Nat) (u : Wk V), k ≤ p.rows.length ∧ i = .int .i64 k ∧ wx = u.1) (fun i _ => p.rows.length - (intOf i).toNat)
          case atStart => exact ⟨0, ⟨V, Below.refl _ _⟩, by omega, rfl, rfl⟩
          case round =>
            obtain ⟨k, u, hk, rfl, rfl⟩ := hrel
            by_cases hlt : k < p.rows.length
            · obtain ⟨ad, A', c', rfl, hc1, hc2', hr⟩ := HPr.out.rows.at_ hlt
              have hadl := World.block_lt_of_cell? _ _ hc1
              have hcu : ∀ v : Wk V, v.1.cell? (ad.add (k * 2)) = some (.slice A' p.rows[k].1.length c') := fun v => (v.2.cell hadl).trans hc1
              have hcv : ∀ v : Wk V, v.1.cell? ⟨(ad.add (k * 2)).block, (ad.add (k * 2)).off + 1, none⟩ = some (.int .i64 p.rows[k].2) := fun v => (v.2.cell (p := ⟨(ad.add (k * 2)).block, (ad.add (k * 2)).off + 1, none⟩) hadl).trans hc2'
              obtain ⟨hq1, ⟨hq2, hq3⟩, hq4⟩ := mayPB_row HM.out hlt
              have HR' := Lib.hid hr
              have HQ4 := Lib.hid hq4
              have HQ1 := Lib.hid hq1
              have hle := HRW.out k hlt
              have hle4 : p.rows[k].1.length ≤ p.costs.length := by omega
              have hi2 : (k : Int) < (p.rows.length : Int) := by omega
              have hmb := mul_bound p.rows[k].2 xd 12 1073741824 hq2 hq3 (by omega) (by omega)
              generalize p.rows[k].1 = r1 at *
              generalize p.rows[k].2 = r2 at *
              have hw1 : IntKind.i64.wrap (r2 * xd) = r2 * xd := IntWalk.i64_in _ (by omega)
              have HD := Lib.hid (show ∀ v : Wk V, Calls Try.prog 28 #[.slice A' r1.length c', .slice S' al.length cS] v.1 fun e w' => e = .returned (.int .i64 (dot r1 al)) ∧ ∃ n, w' = v.1.drewN n from
                fun v => ref2_Dot A' r1 c' S' al cS 12 1001073741824000 v.1 (HR'.out.below v.2) (HS'.out.below v.2) (by have := HLA.out; omega) (by omega) (by omega) HQ4.out HAS.out (by omega))
              clear hr hq1 hq4 hc1 hc2' hmb
              go_wp2_with fail
              refine wk_region' (by kernel_rfl) (by kernel_rfl) ?_
              repeat (go_big_quiet_step ((go_at_call 28; with_reducible exact wk_quiet (HD.out _))))
              refine wpQuiet_nil ?_
              rintro w5 ⟨u5, rfl⟩
              go_wp2_with fail
              go_roundw
              case rel => exact ⟨k + 1, u5, by omega, by go_num, rfl⟩
              case measure => simp [intOf]; omega
            · obtain rfl : k = p.rows.length := by omega
              have hB := HB.out
              have hB3 := HB3.out
              have hmo := HMO.out
              go_wp2_with fail
              refine wk_region' (by kernel_rfl) (by kernel_rfl) ?_
              repeat (go_big_quiet_step ((first | (go_at_call 28; with_reducible exact wk_quiet (HD1.out _)) | (go_at_call 28; with_reducible exact wk_quiet (HD2.out _)))))
              refine wpQuiet_nil ?_
              rintro w5 ⟨u5, rfl⟩
              go_wp2_with fail
              go_ret
              exact ⟨ret_bool (by first | (simp; done) | (simp; omega)), (by have hT := u5.2; exact (by (repeat (any_goals (first | exact Below.refl _ _ | exact HW.out | exact HU.out | exact HL.out | exact hT | refine below_drewN ?_ _ | refine Below.drew ?_ | refine Below.alloc ?_ ?_ _ | refine Below.setCell ?_ ?_ _ | refine Below.trans ?_ (Below.mono HW.out ?_) | refine Below.trans ?_ (Below.mono HU.out ?_) | refine Below.trans ?_ (Below.mono HL.out ?_) | refine Below.trans ?_ (Below.mono hT ?_)))); all_goals (first | omega | (simp; done) | (simp; omega) | ((try have z0 := HW.out.size); (try simp at z0); (try have z1 := HU.out.size); (try simp at z1); (try have z2 := HL.out.size); (try simp at z2); (try have z3 := hT.size); (try simp at z3); (try simp); omega))))⟩
theorem proofEndless_walk (A : Option Addr) (c : Nat) (A2 : Option Addr) (c2 : Nat) (p : PG) (X : Option Addr) (cx : Nat) (Y : Option Addr) (cy : Nat) (R : Option Addr) (cr : Nat) (a : AN)
    (z : Int) (w : World) (hp : Pg w A c A2 c2 p) (ha : An w X cx Y cy R cr a) (hz : 0 ≤ z ∧ z ≤ 65535) :
    Calls Try.prog 10 #[.agg #[.slice A p.costs.length c, .slice A2 p.rows.length c2],
      .agg #[.int .i64 a.kind, .slice X a.xs.length cx, .int .i64 a.xd, .slice Y a.ys.length cy, .int .i64 a.yd, .slice R a.rs.length cr, .int .i64 a.rd, .int .i64 a.wn, .int .i64 a.wd],
      .int .u16 z] w
      fun e w' => e = .returned (.bool true) ∧ Below w.heap.size w w' := by
  obtain ⟨kd, xs, xd, ys, yd, rs, rd, wn, wd⟩ := a
  exact proofEndless_1 _ _ _ _ _ _ _ _ _ _ _ _ _ _ _ _ _ _ _ _ _ _ hp ha hz.1 hz.2
end Go.Proofs.Ytjcdkbalhleeeaa
