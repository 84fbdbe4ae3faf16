/-
  Walk: the document's Holds, of Best, all the way.
-/
import Derived.Test.YtjcdkbalhleeeabRef4
import Derived.Test.YtjcdkbalhleeeabJRefA
import Derived.Test.YtjcdkbalhleeeabRef4b
import Derived.Test.YtjcdkbalhleeeabRef4d
import Derived.Deep.DeepCutAuto
namespace Go.Proofs.Ytjcdkbalhleeeab
open Go.RowKit

section
variable (A : Option Addr) (c : Nat) (A2 : Option Addr) (c2 : Nat) (p : PG) (X : Option Addr) (cx : Nat) (Y : Option Addr) (cy : Nat) (R : Option Addr) (cr : Nat) (kd : Int) (xs : List Int) (xd : Int) (ys : List Int) (yd : Int) (rs : List Int) (rd wn wd : Int) (w : World)
set_option maxRecDepth 100000 in
set_option maxHeartbeats 16000000 in
theorem ref4_B4n (hp : Pg w A c A2 c2 p) (hx : Rd w X cx xs) (hy : Rd w Y cy ys) (hr : Rd w R cr rs) (hm : mayPB p = true) (hz : (wn == 0) = false) (q1 : emptyB rs rd = true) (q2 : goesB p xs xd = true) (q4 : aboveB ys yd p.rows.length = true) :
    Calls Try.prog 24 #[.agg #[.slice A p.costs.length c, .slice A2 p.rows.length c2],
      .agg #[.int .i64 1, .slice X xs.length cx, .int .i64 xd, .slice Y ys.length cy, .int .i64 yd, .slice R rs.length cr, .int .i64 rd, .int .i64 wn, .int .i64 wd]] w
      fun e w' => e = .returned (.bool (bestB p ⟨1, xs, xd, ys, yd, rs, rd, wn, wd⟩)) ∧ Below w.heap.size w w' := by
  obtain ⟨hab1, hab2, hab3⟩ := aboveB_iff.1 q4
  obtain ⟨hd1, hd2, hsY, hl8⟩ := mayB_parts hab1
  have HS := Lib.hid hsY
  have HLN := Lib.hid hab2
  have HG := Lib.hid (mayPB_iff.1 hm).2.2.2.2.1
  have HFI := Lib.hid (fitsB_iff.1 (goesB_iff.1 q2).1)
  have HFI0 := Lib.hid (goesB_iff.1 q2).1
  clear hab1 hab2 hab3 hsY
  have HP := Lib.hid hp
  have HX := Lib.hid hx
  have HY := Lib.hid hy
  have HR := Lib.hid hr
  have HM := Lib.hid hm
  obtain ⟨⟨hl, hc, hsm, _⟩, ⟨hl2, hc2, hsm2, _⟩⟩ := hp
  have h4 : p.rows.length ≤ 4 := (mayPB_iff.1 hm).2.2.2.1
  have h4' : p.costs.length ≤ 4 := (mayPB_iff.1 hm).2.1
  have h5' : 1 ≤ p.costs.length := (mayPB_iff.1 hm).1
  clear hm hx hy hr
  go_enter Try.func24, Try.ntmps24
  go_wp2_with fail
  have Vp := Lib.hid (((Blk.new w 25 #[.slice A p.costs.length c, .slice A2 p.rows.length c2] _ rfl).alloc (.cells #[.int .i64 1, .slice X xs.length cx, .int .i64 xd, .slice Y ys.length cy, .int .i64 yd, .slice R rs.length cr, .int .i64 rd, .int .i64 wn, .int .i64 wd] 57)))
  have Va := Lib.hid (Blk.new (w.alloc (.cells #[.slice A p.costs.length c, .slice A2 p.rows.length c2] 25)) 57 #[.int .i64 1, .slice X xs.length cx, .int .i64 xd, .slice Y ys.length cy, .int .i64 yd, .slice R rs.length cr, .int .i64 rd, .int .i64 wn, .int .i64 wd] (w.heap.size + 1) (by simp))
  have hW := ((by (repeat (any_goals (first | exact Below.refl _ _ | refine below_drewN ?_ _ | refine Below.drew ?_ | refine Below.alloc ?_ ?_ _ | refine Below.setCell ?_ ?_ _))); all_goals (first | omega | (simp; done) | (simp; omega))) : Below w.heap.size w ((w.alloc (.cells #[.slice A p.costs.length c, .slice A2 p.rows.length c2] 25)).alloc (.cells #[.int .i64 1, .slice X xs.length cx, .int .i64 xd, .slice Y ys.length cy, .int .i64 yd, .slice R rs.length cr, .int .i64 rd, .int .i64 wn, .int .i64 wd] 57)))
  have HPw := Lib.hid (HP.out.below hW)
  have HXw := Lib.hid (HX.out.below hW)
  have HYw := Lib.hid (HY.out.below hW)
  have HRw := Lib.hid (HR.out.below hW)
  have HW := Lib.hid hW
  clear hW
  generalize ((w.alloc (.cells #[.slice A p.costs.length c, .slice A2 p.rows.length c2] 25)).alloc (.cells #[.int .i64 1, .slice X xs.length cx, .int .i64 xd, .slice Y ys.length cy, .int .i64 yd, .slice R rs.length cr, .int .i64 rd, .int .i64 wn, .int .i64 wd] 57)) = W at *
  have lVp := Vp.out.lt
  have lVa := Va.out.lt
  have s0 : ∀ u : Wk W, u.1.cell? ⟨w.heap.size, 0, none⟩ = some (.slice A p.costs.length c) := fun u => (Vp.out.next u.2).cell 0
  have s1 : ∀ u : Wk W, u.1.cell? ⟨w.heap.size, 1, none⟩ = some (.slice A2 p.rows.length c2) := fun u => (Vp.out.next u.2).cell 1
  have s2 : ∀ u : Wk W, u.1.cell? ⟨w.heap.size + 1, 0, none⟩ = some (.int .i64 1) := fun u => (Va.out.next u.2).cell 0
  have s3 : ∀ u : Wk W, u.1.cell? ⟨w.heap.size + 1, 1, none⟩ = some (.slice X xs.length cx) := fun u => (Va.out.next u.2).cell 1
  have s4 : ∀ u : Wk W, u.1.cell? ⟨w.heap.size + 1, 2, none⟩ = some (.int .i64 xd) := fun u => (Va.out.next u.2).cell 2
  have s5 : ∀ u : Wk W, u.1.cell? ⟨w.heap.size + 1, 3, none⟩ = some (.slice Y ys.length cy) := fun u => (Va.out.next u.2).cell 3
  have s6 : ∀ u : Wk W, u.1.cell? ⟨w.heap.size + 1, 4, none⟩ = some (.int .i64 yd) := fun u => (Va.out.next u.2).cell 4
  have s7 : ∀ u : Wk W, u.1.cell? ⟨w.heap.size + 1, 5, none⟩ = some (.slice R rs.length cr) := fun u => (Va.out.next u.2).cell 5
  have s8 : ∀ u : Wk W, u.1.cell? ⟨w.heap.size + 1, 6, none⟩ = some (.int .i64 rd) := fun u => (Va.out.next u.2).cell 6
  have s9 : ∀ u : Wk W, u.1.cell? ⟨w.heap.size + 1, 7, none⟩ = some (.int .i64 wn) := fun u => (Va.out.next u.2).cell 7
  have s10 : ∀ u : Wk W, u.1.cell? ⟨w.heap.size + 1, 8, none⟩ = some (.int .i64 wd) := fun u => (Va.out.next u.2).cell 8
  refine (show Calls Try.prog 23 #[.agg #[.slice A p.costs.length c, .slice A2 p.rows.length c2]] W fun e w' => e = .returned (.bool true) ∧ Below W.heap.size W w' from by rw [← HM.out]; exact (ref2_May _ _ _ _ _ _ HPw.out)).mono ?_
  rintro e w1 ⟨rfl, hb1⟩
  obtain ⟨u1, rfl⟩ : ∃ u : Wk W, w1 = u.1 := ⟨⟨w1, hb1⟩, rfl⟩
  clear hb1
  go_wp2_with fail
  refine (show Calls Try.prog 69 #[.agg #[.slice R rs.length cr, .int .i64 rd]] u1.1 fun e w' => e = .returned (.bool (emptyB rs rd)) ∧ Below u1.1.heap.size u1.1 w' from ref4_empty _ _ _ _ _ (HRw.out.below u1.2)).mono ?_
  rw [q1]
  rintro e w1 ⟨rfl, hb1⟩
  obtain ⟨u2, rfl⟩ : ∃ u : Wk W, w1 = u.1 := ⟨⟨w1, u1.2.trans (hb1.mono u1.2.size)⟩, rfl⟩
  clear hb1
  go_wp2_with fail
  refine (ref2_Goes _ _ _ _ _ _ _ _ _ _ (HPw.out.below u2.2) (HXw.out.below u2.2)).mono ?_
  rw [q2]
  rintro e w1 ⟨rfl, hb1⟩
  obtain ⟨u3, rfl⟩ : ∃ u : Wk W, w1 = u.1 := ⟨⟨w1, u2.2.trans (hb1.mono u2.2.size)⟩, rfl⟩
  clear hb1
  go_wp2_with fail
  refine (ref4_point _ _ _ _ _ _ (HYw.out.below u3.2)).mono ?_
  rw [q4]
  rintro e w1 ⟨rfl, hb1⟩
  obtain ⟨u4, rfl⟩ : ∃ u : Wk W, w1 = u.1 := ⟨⟨w1, u3.2.trans (hb1.mono u3.2.size)⟩, rfl⟩
  clear hb1
  go_wp2_with fail
  go_loopw [7] (fun i wr => ∃ (k : Nat) (u : Wk W), k ≤ p.costs.length ∧ i = .int .i64 k ∧ ((List.range k).all fun j => decide (costZ p j * yd ≤ dot (colZ p j) ys)) = true ∧ wr = u.1) (fun i _ => p.costs.length - (intOf i).toNat)
  case atStart => exact ⟨0, u4, by omega, rfl, rfl, rfl⟩
  case round =>
    obtain ⟨k, u, hk, rfl, hall, rfl⟩ := hrel
    have HA := Lib.hid hall
    clear hall
    by_cases hlt : k < p.costs.length
    · obtain ⟨ad, rfl, hc1⟩ := HPw.out.costs.at_ hlt
      have hcz := costZ_bound HM.out k
      have hce : costZ p k = p.costs[k] := by simp [costZ, hlt, List.getD, List.getElem?_eq_getElem hlt]
      rw [← hce] at hc1
      obtain ⟨hcz1, hcz2⟩ := hcz
      obtain ⟨hm1, hm2⟩ := mul_bound (costZ p k) yd 400 1073741824 (by omega) (by omega) (by omega) (by omega)
      have hw1 : IntKind.i64.wrap (costZ p k * yd) = costZ p k * yd := IntWalk.i64_in _ (by omega)
      have hadl := World.block_lt_of_cell? _ _ hc1
      have hcu : ∀ v : Wk W, v.1.cell? (ad.add k) = some (.int .i64 (costZ p k)) := fun v => (v.2.cell hadl).trans hc1
      have HT := Lib.hid (show ((List.range (k + 1)).all fun j => decide (costZ p j * yd ≤ dot (colZ p j) ys)) = (((List.range k).all fun j => decide (costZ p j * yd ≤ dot (colZ p j) ys)) && decide (costZ p k * yd ≤ dot (colZ p k) ys)) by rw [List.range_succ, List.all_append]; simp)
      have HF := Lib.hid (show decide (costZ p k * yd ≤ dot (colZ p k) ys) = false → coversB p ys yd = false from fun h => by
        unfold coversB; rw [List.all_eq_false]; exact ⟨k, by simpa using hlt, by simpa using h⟩)
      have HD := Lib.hid (show ∀ v : Wk W, Calls Try.prog 72 #[.agg #[.slice (some ad) p.costs.length c, .slice A2 p.rows.length c2], .agg #[.slice Y ys.length cy, .int .i64 yd], .int .i64 k] v.1 fun e w' => e = .returned (.int .i64 (dot (colZ p k) ys)) ∧ Below v.1.heap.size v.1 w' from
        fun v => ref4_priced _ _ _ _ _ _ _ _ _ _ _ (HPw.out.below v.2) (HYw.out.below v.2) HM.out HS.out HLN.out hlt)
      have hi0 : (k : Int) < (p.costs.length : Int) := by omega
      generalize dot (colZ p k) ys = dk at *
      generalize hck : costZ p k = ck at *
      clear hc1 hce hck
      by_cases hle : ck * yd ≤ dk
      · go_wp2_with fail
        refine wk_region' (by kernel_rfl) (by kernel_rfl) ?_
        repeat (go_big_quiet_step ((go_at_call 72; with_reducible exact wk_call (HD.out _))))
        refine wpQuiet_nil ?_
        rintro w5 ⟨u5, rfl⟩
        go_wp2_with fail
        go_roundw
        case rel => exact ⟨k + 1, u5, by omega, by go_num, by rw [HT.out, HA.out]; simp [hle], rfl⟩
        case measure => simp [intOf]; omega
      · go_wp2_with fail
        refine wk_region' (by kernel_rfl) (by kernel_rfl) ?_
        repeat (go_big_quiet_step ((go_at_call 72; with_reducible exact wk_call (HD.out _))))
        refine wpQuiet_nil ?_
        rintro w5 ⟨u5, rfl⟩
        go_wp2_with fail
        go_ret
        exact ⟨ret_bool (by unfold bestB; rw [HF.out (by simp; omega)]; simp), (by have hT := u5.2; exact (by (repeat (any_goals (first | exact Below.refl _ _ | exact HW.out | exact hT | refine below_drewN ?_ _ | refine Below.drew ?_ | refine Below.alloc ?_ ?_ _ | refine Below.setCell ?_ ?_ _ | refine Below.trans ?_ (Below.mono HW.out ?_) | refine Below.trans ?_ (Below.mono hT ?_)))); all_goals (first | omega | (simp; done) | (simp; omega) | ((try have z0 := HW.out.size); (try simp at z0); (try have z1 := hT.size); (try simp at z1); (try simp); omega))))⟩
    · obtain rfl : k = p.costs.length := by omega
      have HC := Lib.hid (show coversB p ys yd = true by have := HA.out; unfold coversB; exact this)
      have HDx := Lib.hid (show ∀ U : World, Rd U A c p.costs → Rd U X cx xs → Calls Try.prog 16 #[.slice A p.costs.length c, .slice X xs.length cx] U fun e w' => e = .returned (.int .i64 (dot p.costs xs)) ∧ ∃ n, w' = U.drewN n from
              fun U h1 h2 => ref2_Dot A p.costs c X xs cx 400 1073741824 U h1 h2 (by have := HFI.out.2.2; omega) (by omega) (by omega) HG.out (mayB_parts HFI.out.2.1).2.2.1 (by omega))
      have HPu := Lib.hid (HPw.out.below u.2)
      have HXu := Lib.hid (HXw.out.below u.2)
      have HYu := Lib.hid (HYw.out.below u.2)
      have Vpu := Lib.hid (Vp.out.next u.2)
      have Vau := Lib.hid (Va.out.next u.2)
      have HU := Lib.hid u.2
      have zU := u.2.size
      generalize u.1 = U at *
      clear s0 s1 s2 s3 s4 s5 s6 s7 s8 s9 s10
      have SK := Lib.hid (show ∀ w', Below U.heap.size U w' → (w'.cell? ⟨w.heap.size, 0, none⟩ = some (.slice A p.costs.length c) ∧ w'.cell? ⟨w.heap.size + 1, 1, none⟩ = some (.slice X xs.length cx) ∧ w'.cell? ⟨w.heap.size + 1, 2, none⟩ = some (.int .i64 xd)) from fun w' h => ⟨(Vpu.out.next h).cell 0, (Vau.out.next h).cell 1, (Vau.out.next h).cell 2⟩)
      go_upto_region 14 with fail
      go_cut [8, 9] (fun s8 s9 wx => ∃ g : Nat, s8 = .pointer (some ⟨g, 0, none⟩) ∧ s9 = .int .i64 (ptE [dot p.costs xs] xd) ∧ Blk wx g 38 #[.int .i64 (frN (dot p.costs xs) xd), .int .i64 (ptD [dot p.costs xs] xd)] ∧ Below U.heap.size U wx)
      case first =>
        go_region_held3 (fun w' => (w'.cell? ⟨w.heap.size, 0, none⟩ = some (.slice A p.costs.length c) ∧ w'.cell? ⟨w.heap.size + 1, 1, none⟩ = some (.slice X xs.length cx) ∧ w'.cell? ⟨w.heap.size + 1, 2, none⟩ = some (.int .i64 xd)))
          (first | (refine SK.out _ ?_; exact (by (repeat (any_goals (first | exact Below.refl _ _ | exact hb8 | refine below_drewN ?_ _ | refine Below.drew ?_ | refine Below.alloc ?_ ?_ _ | refine Below.setCell ?_ ?_ _ | refine Below.trans ?_ (Below.mono hb8 ?_)))); all_goals (first | omega | (simp; done) | (simp; omega) | ((try have z0 := hb8.size); (try simp at z0); (try simp); omega)))))
          (first
            | (go_at_call 16; refine (HDx.out _ (HPu.out.costs.below (by (repeat (any_goals (first | exact Below.refl _ _ | refine below_drewN ?_ _ | refine Below.drew ?_ | refine Below.alloc ?_ ?_ _ | refine Below.setCell ?_ ?_ _))); all_goals (first | omega | (simp; done) | (simp; omega)))) (HXu.out.below (by (repeat (any_goals (first | exact Below.refl _ _ | refine below_drewN ?_ _ | refine Below.drew ?_ | refine Below.alloc ?_ ?_ _ | refine Below.setCell ?_ ?_ _))); all_goals (first | omega | (simp; done) | (simp; omega))))).mono ?_; rintro e w7 ⟨rfl, n7, rfl⟩)
            | (go_at_call 48; refine (ref1_Make _ _ _).mono ?_; rintro e w8 ⟨rfl, hb8⟩; (try (have hQ : Blk w8 U.heap.size 38 #[.int .i64 0, .int .i64 0] := Blk.next (by first | exact Blk.mk' _ _ _ | exact Blk.drewN (Blk.mk' _ _ _) _ | exact Blk.drew (Blk.mk' _ _ _) | exact Blk.drewN (Blk.drew (Blk.mk' _ _ _)) _) hb8; have y0 : w8.cell? ⟨U.heap.size, 0, none⟩ = some (.int .i64 0) := hQ.cell 0; have y1 : w8.cell? ⟨U.heap.size, 1, none⟩ = some (.int .i64 0) := hQ.cell 1; have y2 := hQ.frozen 0; have y3 := hQ.frozen 1))))
        all_goals
          have z8 := hb8.size
          (try simp at z8)
          go_wp2_with fail
          go_meet
          first
            | exact ⟨_, rfl, rfl, Blk.mk' _ _ _, (by (repeat (any_goals (first | exact Below.refl _ _ | exact hb8 | refine below_drewN ?_ _ | refine Below.drew ?_ | refine Below.alloc ?_ ?_ _ | refine Below.setCell ?_ ?_ _ | refine Below.trans ?_ (Below.mono hb8 ?_)))); all_goals (first | omega | (simp; done) | (simp; omega) | ((try have z0 := hb8.size); (try simp at z0); (try simp); omega)))⟩
            | exact ⟨_, rfl, rfl, (hQ.set0 0 _).set0 1 _, (by (repeat (any_goals (first | exact Below.refl _ _ | exact hb8 | refine below_drewN ?_ _ | refine Below.drew ?_ | refine Below.alloc ?_ ?_ _ | refine Below.setCell ?_ ?_ _ | refine Below.trans ?_ (Below.mono hb8 ?_)))); all_goals (first | omega | (simp; done) | (simp; omega) | ((try have z0 := hb8.size); (try simp at z0); (try simp); omega)))⟩
      case rest =>
        obtain ⟨g, rfl, rfl, hG, hUw⟩ := hcut
        rename World => V
        have Vg := Lib.hid hG
        have Vp2 := Lib.hid (Vpu.out.next hUw)
        have Va2 := Lib.hid (Vau.out.next hUw)
        have HP2 := Lib.hid (HPu.out.below hUw)
        have HY2 := Lib.hid (HYu.out.below hUw)
        have zc := hUw.size
        have HUw := Lib.hid hUw
        have lg := hG.lt
        clear hG hUw Vpu Vau
        have SK2 := Lib.hid (show ∀ w', Below V.heap.size V w' → (w'.cell? ⟨w.heap.size, 0, none⟩ = some (.slice A p.costs.length c) ∧ w'.cell? ⟨w.heap.size, 1, none⟩ = some (.slice A2 p.rows.length c2) ∧ w'.cell? ⟨w.heap.size + 1, 3, none⟩ = some (.slice Y ys.length cy) ∧ w'.cell? ⟨w.heap.size + 1, 4, none⟩ = some (.int .i64 yd)) from fun w' h => ⟨(Vp2.out.next h).cell 0, (Vp2.out.next h).cell 1, (Va2.out.next h).cell 3, (Va2.out.next h).cell 4⟩)
        go_upto_region 15 with fail
        go_cut [10, 11] (fun s10 s11 wx => ∃ g : Nat, s10 = .pointer (some ⟨g, 0, none⟩) ∧ s11 = .int .i64 (ptE [dot (mosts p) ys] yd) ∧ Blk wx g 38 #[.int .i64 (frN (dot (mosts p) ys) yd), .int .i64 (ptD [dot (mosts p) ys] yd)] ∧ Below V.heap.size V wx)
        case first =>
          have hT := Below.refl V.heap.size V
          go_region_held3 (fun w' => (w'.cell? ⟨w.heap.size, 0, none⟩ = some (.slice A p.costs.length c) ∧ w'.cell? ⟨w.heap.size, 1, none⟩ = some (.slice A2 p.rows.length c2) ∧ w'.cell? ⟨w.heap.size + 1, 3, none⟩ = some (.slice Y ys.length cy) ∧ w'.cell? ⟨w.heap.size + 1, 4, none⟩ = some (.int .i64 yd)))
            (first | (refine SK2.out _ ?_; exact (by (repeat (any_goals (first | exact Below.refl _ _ | exact hT | refine below_drewN ?_ _ | refine Below.drew ?_ | refine Below.alloc ?_ ?_ _ | refine Below.setCell ?_ ?_ _ | refine Below.trans ?_ (Below.mono hT ?_)))); all_goals (first | omega | (simp; done) | (simp; omega) | ((try have z0 := hT.size); (try simp at z0); (try simp); omega)))))
            (first
              | (go_at_call 73; refine (ref4_most _ _ _ _ _ _ _ _ _ _ (HP2.out.below (by (repeat (any_goals (first | exact Below.refl _ _ | exact hT | refine below_drewN ?_ _ | refine Below.drew ?_ | refine Below.alloc ?_ ?_ _ | refine Below.setCell ?_ ?_ _ | refine Below.trans ?_ (Below.mono hT ?_)))); all_goals (first | omega | (simp; done) | (simp; omega) | ((try have z0 := hT.size); (try simp at z0); (try simp); omega)))) (HY2.out.below (by (repeat (any_goals (first | exact Below.refl _ _ | exact hT | refine below_drewN ?_ _ | refine Below.drew ?_ | refine Below.alloc ?_ ?_ _ | refine Below.setCell ?_ ?_ _ | refine Below.trans ?_ (Below.mono hT ?_)))); all_goals (first | omega | (simp; done) | (simp; omega) | ((try have z0 := hT.size); (try simp at z0); (try simp); omega)))) HM.out HS.out HLN.out).mono ?_; rintro e w8 ⟨rfl, hb8⟩; replace hT : Below V.heap.size V w8 := (by (repeat (any_goals (first | exact Below.refl _ _ | exact hT | exact hb8 | refine below_drewN ?_ _ | refine Below.drew ?_ | refine Below.alloc ?_ ?_ _ | refine Below.setCell ?_ ?_ _ | refine Below.trans ?_ (Below.mono hT ?_) | refine Below.trans ?_ (Below.mono hb8 ?_)))); all_goals (first | omega | (simp; done) | (simp; omega) | ((try have z0 := hT.size); (try simp at z0); (try have z1 := hb8.size); (try simp at z1); (try simp); omega))); have z8 := hT.size; (try (have hQ : Blk w8 V.heap.size 38 #[.int .i64 0, .int .i64 0] := Blk.next (by first | exact Blk.mk' _ _ _ | exact Blk.drewN (Blk.mk' _ _ _) _ | exact Blk.drew (Blk.mk' _ _ _) | exact Blk.drewN (Blk.drew (Blk.mk' _ _ _)) _) hb8)))
              | (go_at_call 48; refine (ref1_Make _ _ _).mono ?_; rintro e w10 ⟨rfl, hb10⟩; replace hT : Below V.heap.size V w10 := (by (repeat (any_goals (first | exact Below.refl _ _ | exact hT | exact hb10 | refine below_drewN ?_ _ | refine Below.drew ?_ | refine Below.alloc ?_ ?_ _ | refine Below.setCell ?_ ?_ _ | refine Below.trans ?_ (Below.mono hT ?_) | refine Below.trans ?_ (Below.mono hb10 ?_)))); all_goals (first | omega | (simp; done) | (simp; omega) | ((try have z0 := hT.size); (try simp at z0); (try have z1 := hb10.size); (try simp at z1); (try simp); omega))); (try (have hR : Blk w10 V.heap.size 38 #[.int .i64 0, .int .i64 0] := Blk.next (by first | exact hQ | exact Blk.drewN hQ _ | exact Blk.drew hQ | exact Blk.drewN (Blk.drew hQ) _) hb10; have y0 : w10.cell? ⟨V.heap.size, 0, none⟩ = some (.int .i64 0) := hR.cell 0; have y1 : w10.cell? ⟨V.heap.size, 1, none⟩ = some (.int .i64 0) := hR.cell 1; have y2 := hR.frozen 0; have y3 := hR.frozen 1)); (try (have hR : Blk w10 w8.heap.size 38 #[.int .i64 0, .int .i64 0] := Blk.next (by first | exact Blk.mk' _ _ _ | exact Blk.drewN (Blk.mk' _ _ _) _ | exact Blk.drew (Blk.mk' _ _ _) | exact Blk.drewN (Blk.drew (Blk.mk' _ _ _)) _) hb10; have y0 : w10.cell? ⟨w8.heap.size, 0, none⟩ = some (.int .i64 0) := hR.cell 0; have y1 : w10.cell? ⟨w8.heap.size, 1, none⟩ = some (.int .i64 0) := hR.cell 1; have y2 := hR.frozen 0; have y3 := hR.frozen 1))))
          all_goals
            have zT := hT.size
            go_wp2_with fail
            go_meet
            first
              | exact ⟨_, rfl, rfl, Blk.mk' _ _ _, (by (repeat (any_goals (first | exact Below.refl _ _ | exact hT | refine below_drewN ?_ _ | refine Below.drew ?_ | refine Below.alloc ?_ ?_ _ | refine Below.setCell ?_ ?_ _ | refine Below.trans ?_ (Below.mono hT ?_)))); all_goals (first | omega | (simp; done) | (simp; omega) | ((try have z0 := hT.size); (try simp at z0); (try simp); omega)))⟩
              | exact ⟨_, rfl, rfl, (hR.set0 0 _).set0 1 _, (by (repeat (any_goals (first | exact Below.refl _ _ | exact hT | refine below_drewN ?_ _ | refine Below.drew ?_ | refine Below.alloc ?_ ?_ _ | refine Below.setCell ?_ ?_ _ | refine Below.trans ?_ (Below.mono hT ?_)))); all_goals (first | omega | (simp; done) | (simp; omega) | ((try have z0 := hT.size); (try simp at z0); (try simp); omega)))⟩
        case rest =>
          obtain ⟨g2, rfl, rfl, hG2, hUw2⟩ := hcut
          have e0 : wc.cell? ⟨g2, 0, none⟩ = some (.int .i64 (frN (dot (mosts p) ys) yd)) := hG2.cell 0
          have e1 : wc.cell? ⟨g2, 1, none⟩ = some (.int .i64 (ptD [dot (mosts p) ys] yd)) := hG2.cell 1
          have e2 : wc.cell? ⟨g, 0, none⟩ = some (.int .i64 (frN (dot p.costs xs) xd)) := (Vg.out.next hUw2).cell 0
          have e3 : wc.cell? ⟨g, 1, none⟩ = some (.int .i64 (ptD [dot p.costs xs] xd)) := (Vg.out.next hUw2).cell 1
          have e4 : wc.cell? ⟨w.heap.size + 1, 7, none⟩ = some (.int .i64 wn) := (Va2.out.next hUw2).cell 7
          have e5 : wc.cell? ⟨w.heap.size + 1, 8, none⟩ = some (.int .i64 wd) := (Va2.out.next hUw2).cell 8
          have HT := Lib.hid hUw2
          clear hG2 hUw2
          have hv : bestB p ⟨1, xs, xd, ys, yd, rs, rd, wn, wd⟩ = (decide (ptE [dot p.costs xs] xd = 0) && (decide (ptE [dot (mosts p) ys] yd = 0) && ((decide (frN (dot p.costs xs) xd = wn) && decide (ptD [dot p.costs xs] xd = wd)) && (decide (frN (dot (mosts p) ys) yd = frN (dot p.costs xs) xd) && decide (ptD [dot (mosts p) ys] yd = ptD [dot p.costs xs] xd))))) := by
            simp [bestB, q1, q2, q4, HC.out, worE, worN, worD, HFI0.out]
          have HV := Lib.hid hv
          clear hv
          generalize frN (dot p.costs xs) xd = n1 at *
          generalize ptD [dot p.costs xs] xd = m1 at *
          generalize ptE [dot p.costs xs] xd = r1 at *
          generalize frN (dot (mosts p) ys) yd = n2 at *
          generalize ptD [dot (mosts p) ys] yd = m2 at *
          generalize ptE [dot (mosts p) ys] yd = r2 at *
          by_cases f1 : r1 = 0
          rotate_left
          ·
            go_wp2_with fail
            go_ret
            exact ⟨ret_bool (by rw [HV.out]; simp_all), (by (repeat (any_goals (first | exact Below.refl _ _ | exact HW.out | exact HU.out | exact HUw.out | exact HT.out | refine below_drewN ?_ _ | refine Below.drew ?_ | refine Below.alloc ?_ ?_ _ | refine Below.setCell ?_ ?_ _ | refine Below.trans ?_ (Below.mono HW.out ?_) | refine Below.trans ?_ (Below.mono HU.out ?_) | refine Below.trans ?_ (Below.mono HUw.out ?_) | refine Below.trans ?_ (Below.mono HT.out ?_)))); all_goals (first | omega | (simp; done) | (simp; omega) | ((try have z0 := HW.out.size); (try simp at z0); (try have z1 := HU.out.size); (try simp at z1); (try have z2 := HUw.out.size); (try simp at z2); (try have z3 := HT.out.size); (try simp at z3); (try simp); omega)))⟩
          by_cases f2 : r2 = 0
          rotate_left
          ·
            go_wp2_with fail
            go_ret
            exact ⟨ret_bool (by rw [HV.out]; simp_all), (by (repeat (any_goals (first | exact Below.refl _ _ | exact HW.out | exact HU.out | exact HUw.out | exact HT.out | refine below_drewN ?_ _ | refine Below.drew ?_ | refine Below.alloc ?_ ?_ _ | refine Below.setCell ?_ ?_ _ | refine Below.trans ?_ (Below.mono HW.out ?_) | refine Below.trans ?_ (Below.mono HU.out ?_) | refine Below.trans ?_ (Below.mono HUw.out ?_) | refine Below.trans ?_ (Below.mono HT.out ?_)))); all_goals (first | omega | (simp; done) | (simp; omega) | ((try have z0 := HW.out.size); (try simp at z0); (try have z1 := HU.out.size); (try simp at z1); (try have z2 := HUw.out.size); (try simp at z2); (try have z3 := HT.out.size); (try simp at z3); (try simp); omega)))⟩
          by_cases f3 : n2 = n1
          rotate_left
          · have f3' : ¬ n1 = n2 := fun h => f3 h.symm
            go_wp2_with fail
            go_ret
            exact ⟨ret_bool (by rw [HV.out]; simp_all), (by (repeat (any_goals (first | exact Below.refl _ _ | exact HW.out | exact HU.out | exact HUw.out | exact HT.out | refine below_drewN ?_ _ | refine Below.drew ?_ | refine Below.alloc ?_ ?_ _ | refine Below.setCell ?_ ?_ _ | refine Below.trans ?_ (Below.mono HW.out ?_) | refine Below.trans ?_ (Below.mono HU.out ?_) | refine Below.trans ?_ (Below.mono HUw.out ?_) | refine Below.trans ?_ (Below.mono HT.out ?_)))); all_goals (first | omega | (simp; done) | (simp; omega) | ((try have z0 := HW.out.size); (try simp at z0); (try have z1 := HU.out.size); (try simp at z1); (try have z2 := HUw.out.size); (try simp at z2); (try have z3 := HT.out.size); (try simp at z3); (try simp); omega)))⟩
          subst f3
          by_cases f4 : m2 = m1
          rotate_left
          · have f4' : ¬ m1 = m2 := fun h => f4 h.symm
            go_wp2_with fail
            go_ret
            exact ⟨ret_bool (by rw [HV.out]; simp_all), (by (repeat (any_goals (first | exact Below.refl _ _ | exact HW.out | exact HU.out | exact HUw.out | exact HT.out | refine below_drewN ?_ _ | refine Below.drew ?_ | refine Below.alloc ?_ ?_ _ | refine Below.setCell ?_ ?_ _ | refine Below.trans ?_ (Below.mono HW.out ?_) | refine Below.trans ?_ (Below.mono HU.out ?_) | refine Below.trans ?_ (Below.mono HUw.out ?_) | refine Below.trans ?_ (Below.mono HT.out ?_)))); all_goals (first | omega | (simp; done) | (simp; omega) | ((try have z0 := HW.out.size); (try simp at z0); (try have z1 := HU.out.size); (try simp at z1); (try have z2 := HUw.out.size); (try simp at z2); (try have z3 := HT.out.size); (try simp at z3); (try simp); omega)))⟩
          subst f4
          by_cases f5 : n2 = wn
          rotate_left
          ·
            go_wp2_with fail
            go_ret
            exact ⟨ret_bool (by rw [HV.out]; simp_all), (by (repeat (any_goals (first | exact Below.refl _ _ | exact HW.out | exact HU.out | exact HUw.out | exact HT.out | refine below_drewN ?_ _ | refine Below.drew ?_ | refine Below.alloc ?_ ?_ _ | refine Below.setCell ?_ ?_ _ | refine Below.trans ?_ (Below.mono HW.out ?_) | refine Below.trans ?_ (Below.mono HU.out ?_) | refine Below.trans ?_ (Below.mono HUw.out ?_) | refine Below.trans ?_ (Below.mono HT.out ?_)))); all_goals (first | omega | (simp; done) | (simp; omega) | ((try have z0 := HW.out.size); (try simp at z0); (try have z1 := HU.out.size); (try simp at z1); (try have z2 := HUw.out.size); (try simp at z2); (try have z3 := HT.out.size); (try simp at z3); (try simp); omega)))⟩
          by_cases f6 : m2 = wd
          rotate_left
          ·
            go_wp2_with fail
            go_ret
            exact ⟨ret_bool (by rw [HV.out]; simp_all), (by (repeat (any_goals (first | exact Below.refl _ _ | exact HW.out | exact HU.out | exact HUw.out | exact HT.out | refine below_drewN ?_ _ | refine Below.drew ?_ | refine Below.alloc ?_ ?_ _ | refine Below.setCell ?_ ?_ _ | refine Below.trans ?_ (Below.mono HW.out ?_) | refine Below.trans ?_ (Below.mono HU.out ?_) | refine Below.trans ?_ (Below.mono HUw.out ?_) | refine Below.trans ?_ (Below.mono HT.out ?_)))); all_goals (first | omega | (simp; done) | (simp; omega) | ((try have z0 := HW.out.size); (try simp at z0); (try have z1 := HU.out.size); (try simp at z1); (try have z2 := HUw.out.size); (try simp at z2); (try have z3 := HT.out.size); (try simp at z3); (try simp); omega)))⟩
          go_wp2_with fail
          go_ret
          exact ⟨ret_bool (by rw [HV.out]; simp_all), (by (repeat (any_goals (first | exact Below.refl _ _ | exact HW.out | exact HU.out | exact HUw.out | exact HT.out | refine below_drewN ?_ _ | refine Below.drew ?_ | refine Below.alloc ?_ ?_ _ | refine Below.setCell ?_ ?_ _ | refine Below.trans ?_ (Below.mono HW.out ?_) | refine Below.trans ?_ (Below.mono HU.out ?_) | refine Below.trans ?_ (Below.mono HUw.out ?_) | refine Below.trans ?_ (Below.mono HT.out ?_)))); all_goals (first | omega | (simp; done) | (simp; omega) | ((try have z0 := HW.out.size); (try simp at z0); (try have z1 := HU.out.size); (try simp at z1); (try have z2 := HUw.out.size); (try simp at z2); (try have z3 := HT.out.size); (try simp at z3); (try simp); omega)))⟩
end
end Go.Proofs.Ytjcdkbalhleeeab
