/-
  Contracts of functions and plain laws that later parts of the proof use. The conditions stand in each theorem.
-/
import Derived.Test.YtjcdkbalhleeeabG23
import Derived.Test.YtjcdkbalhleeeabG26
import Derived.Test.YtjcdkbalhleeeabG09
import Derived.Test.YtjcdkbalhleeeabG08
import Derived.ChangeSame
import Derived.ProofKit
import Derived.Lib.SmallJoins
import Derived.SizedLaws
import Derived.Carry
import Derived.Deep.Slices
namespace Go.Proofs.Ytjcdkbalhleeeab
open Go.RowKit

theorem wrap_mod (a : Int) : wrap64 a % 18446744073709551616 = a % 18446744073709551616 := by unfold wrap64; omega
theorem wrap_of {a b : Int} (h : a % 18446744073709551616 = b % 18446744073709551616) : wrap64 a = wrap64 b := by unfold wrap64; omega
theorem wrap_mul (a b : Int) : wrap64 (wrap64 a * b) = wrap64 (a * b) :=
  wrap_of (by rw [Int.mul_emod, wrap_mod, ← Int.mul_emod])
theorem wrap_add (a b : Int) : wrap64 (wrap64 a + wrap64 b) = wrap64 (a + b) :=
  wrap_of (by rw [Int.add_emod, wrap_mod, wrap_mod, ← Int.add_emod])
theorem two_sides {wn wd n d bn bd sn sd : Int} (h : wn * bd * sd = (d * bn * sd + n * sn * bd) * wd) :
    wrap64 (wrap64 (wn * bd) * sd) = wrap64 (wrap64 (wrap64 (wrap64 (d * bn) * sd) + wrap64 (wrap64 (n * sn) * bd)) * wd) := by
  rw [wrap_mul (wn * bd) sd, wrap_mul (d * bn) sd, wrap_mul (n * sn) bd, wrap_add, wrap_mul _ wd, h]
def onePS : PG := ⟨[1], [([1], 3)]⟩
theorem onePS_two : (swpL onePS [1]).length = 2 := by decide +kernel
theorem Rw.one2 {w : World} {b b2 : Nat} {n z : Int} (h0 : w.cell? ⟨b, 0, none⟩ = some (.slice (some ⟨b2, 0, none⟩) 1 1)) (h1 : w.cell? ⟨b, 1, none⟩ = some (.int .i64 z)) (hr : Rd w (some ⟨b2, 0, none⟩) 1 [n]) : Rw w (some ⟨b, 0, none⟩) 1 [([n], z)] := by
  refine ⟨by simp, by omega, by simp, fun _ => ⟨_, rfl, fun j hj => ?_⟩⟩
  obtain rfl : j = 0 := by simpa using hj
  exact ⟨_, _, h0, h1, hr⟩
def RetKs (w : World) (e : Ending) (w' : World) : Prop :=
  ∃ g cap er, e = .returned (.tuple #[.slice (some ⟨g, 0, none⟩) 2 cap, .int .i64 er]) ∧ Below w.heap.size w w'
theorem known_sweep (a b r s : Nat) (W : World) (ha : Rd W (some ⟨a, 0, none⟩) 1 [1]) (hb : Rd W (some ⟨b, 0, none⟩) 1 [1]) (hr0 : W.cell? ⟨r, 0, none⟩ = some (.slice (some ⟨b, 0, none⟩) 1 1)) (hr1 : W.cell? ⟨r, 1, none⟩ = some (.int .i64 3)) (hs : Rd W (some ⟨s, 0, none⟩) 1 [1]) :
    Calls Try.prog 18 #[.agg #[.slice (some ⟨a, 0, none⟩) 1 1, .slice (some ⟨r, 0, none⟩) 1 1], .slice (some ⟨s, 0, none⟩) 1 1] W (RetKs W) := by
  refine (sweep_Sweep (some ⟨a, 0, none⟩) 1 (some ⟨r, 0, none⟩) 1 onePS (some ⟨s, 0, none⟩) [1] 1 W ⟨ha, Rw.one2 hr0 hr1 hb⟩ hs).mono ?_
  rintro e w' ⟨v, rfl, hv, hb'⟩
  rcases hv with ⟨h, _⟩ | ⟨_, g, cap, rfl, _⟩
  · have := onePS_two
    rw [h] at this
    cases this
  · exact ⟨g, cap, _, by rw [onePS_two], hb'⟩
theorem tmod_u (y : Int) (h : 0 ≤ y ∧ y ≤ 255) : 0 ≤ y.tmod 16 ∧ y.tmod 16 ≤ 15 := by
  rw [Int.tmod_eq_emod_of_nonneg h.1]; omega
theorem tmod_s (z : Int) : -16 ≤ z.tmod 17 ∧ z.tmod 17 ≤ 16 := by
  have h1 := Int.natAbs_tmod z 17
  have h2 : (z.tmod 17).natAbs < 17 := by rw [h1]; exact Nat.mod_lt _ (by decide)
  omega
set_option maxRecDepth 100000 in
set_option maxHeartbeats 4000000 in
theorem sweepHolds_walk (A : Option Addr) (c : Nat) (A2 : Option Addr) (c2 : Nat) (p : PG) (B : Option Addr) (b : List Int) (cb : Nat) (z y : Int) (w : World) (hp : Pg w A c A2 c2 p) (hb : Rd w B cb b) (hz : -128 ≤ z ∧ z ≤ 127) (hy : 0 ≤ y ∧ y ≤ 255) :
    Calls Try.prog 8 #[.agg #[.slice A p.costs.length c, .slice A2 p.rows.length c2], .slice B b.length cb, .int .i8 z, .int .u8 y] w fun e w' => e = .returned (.bool true) ∧ Below w.heap.size w w' := by
  have HP := Lib.hid hp
  have HD := Lib.hid hb
  obtain ⟨⟨hl, hc, hsm, _⟩, ⟨hl2, hc2, hsm2, _⟩⟩ := hp
  obtain ⟨hbl, hbc, hbs, _⟩ := hb
  obtain ⟨hz1, hz2⟩ := hz
  obtain ⟨hy1, hy2⟩ := hy
  go_enter Try.func8, Try.ntmps8
  go_wp2_with fail
  have BP := Lib.hid (Blk.mk' w 25 #[.slice A p.costs.length c, .slice A2 p.rows.length c2])
  have HBU := Lib.hid ((Below.refl w.heap.size w).alloc (Nat.le_refl _) (.cells #[.slice A p.costs.length c, .slice A2 p.rows.length c2] 25))
  generalize (w.alloc (.cells #[.slice A p.costs.length c, .slice A2 p.rows.length c2] 25)) = U at *
  refine (sweep_Sweep _ _ _ _ _ _ _ _ _ (HP.out.below HBU.out) (HD.out.below HBU.out)).mono ?_
  rintro e W1 ⟨v, rfl, hpc, hb1⟩
  have HV1 := Lib.hid hb1
  have zU := HBU.out.size
  have zV1 := hb1.size
  have HPC := Lib.hid (hpc.mono zU)
  have HBW1 := Lib.hid (HBU.out.trans (hb1.mono zU))
  obtain ⟨er, her⟩ : ∃ er, swpE p b = er := ⟨_, rfl⟩
  have HER := Lib.hid her
  obtain ⟨L, hL⟩ : ∃ L, swpL p b = L := ⟨_, rfl⟩
  have HLL := Lib.hid hL
  obtain ⟨lv, hlv⟩ : ∃ lv, L.length = lv := ⟨_, rfl⟩
  have HLV := Lib.hid hlv
  have hvs : ∃ Av cv, v = .slice Av lv cv := by
    rw [hL] at hpc
    rcases hpc with ⟨h, A', c', e⟩ | ⟨_, g, cap, e, _⟩
    · exact ⟨A', c', by rw [← hlv, h]; exact e⟩
    · exact ⟨_, _, by rw [← hlv]; exact e⟩
  obtain ⟨Av, cv, rfl⟩ := hvs
  rw [hL] at HPC
  rw [her]
  clear hpc hb1 hL her hlv
  go_wp2_with fail
  have hb6 : Below W1.heap.size W1
    (
      (((((W1.alloc (.cells #[.int .i64 1] 2)).alloc (.cells #[.int .i64 1] 2)).alloc (.cells #[.slice (some ⟨W1.heap.size + 1, 0, none⟩) 1 1, .int .i64 3] 36)).alloc (.cells #[.slice (some ⟨W1.heap.size, 0, none⟩) 1 1, .slice (some ⟨W1.heap.size + 1 + 1, 0, none⟩) 1 1] 25)).alloc (.cells #[.int .i64 1] 2))
    ) := (by iterate 5 refine Below.alloc ?_ (by first | (simp; done) | (simp; omega)) _
             exact Below.refl _ _)
  have r1 : Rd
    (
      (((((W1.alloc (.cells #[.int .i64 1] 2)).alloc (.cells #[.int .i64 1] 2)).alloc (.cells #[.slice (some ⟨W1.heap.size + 1, 0, none⟩) 1 1, .int .i64 3] 36)).alloc (.cells #[.slice (some ⟨W1.heap.size, 0, none⟩) 1 1, .slice (some ⟨W1.heap.size + 1 + 1, 0, none⟩) 1 1] 25)).alloc (.cells #[.int .i64 1] 2))
    ) (some ⟨W1.heap.size, 0, none⟩) 1 [1] := ((((Rd.new1 _ _ _ _ (by simp)).alloc _).alloc _).alloc _).alloc _
  have r2 : Rd
    (
      (((((W1.alloc (.cells #[.int .i64 1] 2)).alloc (.cells #[.int .i64 1] 2)).alloc (.cells #[.slice (some ⟨W1.heap.size + 1, 0, none⟩) 1 1, .int .i64 3] 36)).alloc (.cells #[.slice (some ⟨W1.heap.size, 0, none⟩) 1 1, .slice (some ⟨W1.heap.size + 1 + 1, 0, none⟩) 1 1] 25)).alloc (.cells #[.int .i64 1] 2))
    ) (some ⟨W1.heap.size + 1, 0, none⟩) 1 [1] := (((Rd.new1 _ _ _ _ (by simp)).alloc _).alloc _).alloc _
  have r3 : Rd
    (
      (((((W1.alloc (.cells #[.int .i64 1] 2)).alloc (.cells #[.int .i64 1] 2)).alloc (.cells #[.slice (some ⟨W1.heap.size + 1, 0, none⟩) 1 1, .int .i64 3] 36)).alloc (.cells #[.slice (some ⟨W1.heap.size, 0, none⟩) 1 1, .slice (some ⟨W1.heap.size + 1 + 1, 0, none⟩) 1 1] 25)).alloc (.cells #[.int .i64 1] 2))
    ) (some ⟨W1.heap.size + 1 + 1 + 1 + 1, 0, none⟩) 1 [1] := Rd.new1 _ _ _ _ (by simp)
  have rB : Blk
    (
      (((((W1.alloc (.cells #[.int .i64 1] 2)).alloc (.cells #[.int .i64 1] 2)).alloc (.cells #[.slice (some ⟨W1.heap.size + 1, 0, none⟩) 1 1, .int .i64 3] 36)).alloc (.cells #[.slice (some ⟨W1.heap.size, 0, none⟩) 1 1, .slice (some ⟨W1.heap.size + 1 + 1, 0, none⟩) 1 1] 25)).alloc (.cells #[.int .i64 1] 2))
    ) (W1.heap.size + 1 + 1) 36 #[.slice (some ⟨W1.heap.size + 1, 0, none⟩) 1 1, .int .i64 3] := ((Blk.new _ _ _ _ (by simp)).alloc _).alloc _
  generalize
    (
      (((((W1.alloc (.cells #[.int .i64 1] 2)).alloc (.cells #[.int .i64 1] 2)).alloc (.cells #[.slice (some ⟨W1.heap.size + 1, 0, none⟩) 1 1, .int .i64 3] 36)).alloc (.cells #[.slice (some ⟨W1.heap.size, 0, none⟩) 1 1, .slice (some ⟨W1.heap.size + 1 + 1, 0, none⟩) 1 1] 25)).alloc (.cells #[.int .i64 1] 2))
    ) = WK at *
  refine (known_sweep _ _ _ _ WK r1 r2 (rB.cell 0) (rB.cell 1) r3).mono ?_
  rintro e w2 ⟨kg, kc, ker, rfl, hb2⟩
  have H12 := Lib.hid (hb6.trans (hb2.mono hb6.size))
  have z12 := H12.out.size
  have HB2 := Lib.hid (HBW1.out.trans (H12.out.mono HBW1.out.size))
  clear r1 r2 r3 rB hb2 hb6
  by_cases h0 : er = 0
  · subst h0
    have hm : mayPB p = true ∧ manyB b p.costs.length 400 = true ∧ ((cornersZ p).any fun l => nonneg (lookN p l).xs) = true := by
      have := HER.out
      unfold swpE at this
      cases h1 : mayPB p <;> cases h2 : manyB b p.costs.length 400 <;> cases h3 : ((cornersZ p).any fun l => nonneg (lookN p l).xs) <;> simp [h1, h2, h3] at this ⊢
    obtain ⟨m1, m2, m3⟩ := hm
    obtain ⟨l0, ho0⟩ := ok_of_any m3
    have HM := Lib.hid m1
    have HO0 := Lib.hid ho0
    have hle : b.length = p.costs.length := (manyB_iff.1 m2).2
    have HG := Lib.hid (show By p b from ⟨(manyB_iff.1 m2).2, (manyB_iff.1 m2).1⟩)
    have HLA := Lib.hid (show L = ansP (grpF undP ovrP p b (cornersZ p)) by rw [← HLL.out]; unfold swpL; rw [if_pos HER.out])
    have h4 : p.costs.length ≤ 4 := (mayPB_iff.1 m1).2.1
    have HLE := Lib.hid hle
    have hlz : ((b.length : Int) != (p.costs.length : Int)) = false := by simp; omega
    obtain ⟨hd1, hd2⟩ := tmod_u y ⟨hy1, hy2⟩
    obtain ⟨hn1, hn2⟩ := tmod_s z
    have hw1 : IntKind.i64.wrap (y.tmod 16) = y.tmod 16 := IntWalk.i64_in _ (by omega)
    have hw2 : IntKind.i64.wrap (y.tmod 16 + 1) = y.tmod 16 + 1 := IntWalk.i64_in _ (by omega)
    have hw3 : IntKind.i64.wrap (z.tmod 17) = z.tmod 17 := IntWalk.i64_in _ (by omega)
    have hw4 : IntKind.i64.wrap y = y := IntWalk.i64_in _ (by omega)
    have hw5 : IntKind.i64.wrap z = z := IntWalk.i64_in _ (by omega)
    have BP2 := Lib.hid (BP.out.next (HV1.out.trans (H12.out.mono zV1)))
    have p0 : w2.cell? ⟨w.heap.size, 0, none⟩ = some (.slice A p.costs.length c) := BP2.out.cell 0
    have p1 : w2.cell? ⟨w.heap.size, 1, none⟩ = some (.slice A2 p.rows.length c2) := BP2.out.cell 1
    have lp : w.heap.size < w2.heap.size := BP2.out.lt
    clear m1 m2 m3 ho0 hle
    go_upto_region 12 with fail
    have hD : 1 ≤ y % 16 + 1 ∧ y % 16 + 1 ≤ 16 := by omega
    clear hw1 hw2 hw3 hw4 hw5 hd1 hd2
    generalize y % 16 + 1 = dv at *
    generalize z.tmod 17 = nv at *
    obtain ⟨hd1, hd2⟩ := hD
    have HPW := Lib.hid (HP.out.below HB2.out)
    have HDW := Lib.hid (HD.out.below HB2.out)
    go_wp2_with fail
    go_loop [16] (fun i => ∃ k : Nat, k ≤ p.costs.length ∧ i = .int .i64 k ∧ Hid (smallB 12 (p.costs.take k) = true ∧ smallB 12 (b.take k) = true)) (fun i => p.costs.length - (intOf i).toNat)
    case atStart => exact ⟨0, by omega, rfl, Lib.hid (by simp [smallB])⟩
    case round =>
      obtain ⟨k, hk, rfl, hs⟩ := hrel
      by_cases hlt : k < p.costs.length
      · have hkd : decide ((k : Int) < (p.costs.length : Int)) = true := by simp; omega
        have hltb : k < b.length := by have := HLE.out; omega
        obtain ⟨aa, rfl, hca⟩ := HPW.out.costs.at_ hlt
        obtain ⟨ab, rfl, hcb⟩ := HDW.out.at_ hltb
        have HT := Lib.hid (smallB_take (m := 12) hlt)
        have HTB := Lib.hid (smallB_take (m := 12) hltb)
        have hi0 : (k : Int) < (p.costs.length : Int) := by omega
        have hi1 : (k : Int) < (b.length : Int) := by omega
        obtain ⟨xv, hxv⟩ : ∃ xv, p.costs[k] = xv := ⟨_, rfl⟩
        obtain ⟨yv, hyv⟩ : ∃ yv, b[k] = yv := ⟨_, rfl⟩
        rw [hxv] at hca HT
        rw [hyv] at hcb HTB
        clear hxv hyv
        by_cases g1 : 12 < xv
        · go_wp2_with fail
          go_ret
          exact ⟨rfl, HB2.out⟩
        · by_cases g2 : xv < -12
          · go_wp2_with fail
            go_ret
            exact ⟨rfl, HB2.out⟩
          · by_cases g3 : 12 < yv
            · go_wp2_with fail
              go_ret
              exact ⟨rfl, HB2.out⟩
            · by_cases g4 : yv < -12
              · go_wp2_with fail
                go_ret
                exact ⟨rfl, HB2.out⟩
              · go_wp2_with fail
                go_round
                case rel => exact ⟨k + 1, by omega, by go_num, Lib.hid ⟨by rw [HT.out, hs.out.1]; simp; omega, by rw [HTB.out, hs.out.2]; simp; omega⟩⟩
                case measure => simp [intOf]; omega
      · obtain rfl : k = p.costs.length := by omega
        have hkd : decide ((p.costs.length : Int) < (p.costs.length : Int)) = false := by simp
        have HSC := Lib.hid (show smallB 12 p.costs = true by have := hs.out.1; rwa [List.take_length] at this)
        have HSB := Lib.hid (show smallB 12 b = true by have := hs.out.2; rwa [← HLE.out, List.take_length] at this)
        clear hs
        go_wp2_with fail
        refine (keep_at _ _ _ _ p _ b _ nv dv _ HPW.out HDW.out HLE.out h4 HSC.out HSB.out ⟨hn1, hn2⟩ ⟨hd1, hd2⟩).mono ?_
        rintro e w3 ⟨E, ce, rfl, hEr, hb3⟩
        have H3 := Lib.hid hb3
        have HB3 := Lib.hid (HB2.out.trans (hb3.mono HB2.out.size))
        have HEr := Lib.hid hEr
        clear hEr hb3 p0 p1 hlz hkd
        obtain ⟨an, han⟩ : ∃ an, solZ (costsOf p (lineM p b nv dv)) = an := ⟨_, rfl⟩
        obtain ⟨q1, q2, q3, q4⟩ := sweep_asks HM.out HG.out HSC.out HSB.out ⟨hn1, hn2⟩ ⟨hd1, hd2⟩ (grp_prog HG.out) HO0.out han
        rw [← HLA.out] at q1 q4
        have hsa : solA (costsOf p (lineM p b nv dv)) = an := by unfold solA; rw [if_pos q3, han]
        have hse : solEr (costsOf p (lineM p b nv dv)) = 0 := by unfold solEr; rw [if_pos q3]
        have HQ1 := Lib.hid q1
        have HQ4 := Lib.hid q4
        have HMT := Lib.hid (show mayB [frN nv dv] (ptD [nv] dv) = true from may_end (pt_ok (by omega) (by omega) (by rw [smallB_one]; simp; omega) (by simp)))
        clear q1 q3 q4 han
        go_wp2_with fail
        refine (solve_Solve E ce A2 c2 (costsOf p (lineM p b nv dv)) w3 ⟨HEr.out, (HPW.out.below H3.out).rows⟩).mono ?_
        rintro e w4 ⟨hb4, X, cx, Y, cy, R, cr, rfl, _⟩
        rw [hsa, hse]
        have H4 := Lib.hid (H3.out.trans (hb4.mono H3.out.size))
        clear hsa hse hb4
        obtain ⟨kd, xs, xd, ys, yd, rs, rd, wn, wd⟩ := an
        simp only at q2 HQ1 HQ4 ⊢
        unfold anV
        have z24 := H4.out.size
        go_upto_region 18 with fail
        have BA := Lib.hid (Blk.mk' w4 57 #[.int .i64 kd, .slice X xs.length cx, .int .i64 xd, .slice Y ys.length cy, .int .i64 yd, .slice R rs.length cr, .int .i64 rd, .int .i64 wn, .int .i64 wd])
        have h45 := (Below.refl w4.heap.size w4).alloc (Nat.le_refl _) (.cells #[.int .i64 kd, .slice X xs.length cx, .int .i64 xd, .slice Y ys.length cy, .int .i64 yd, .slice R rs.length cr, .int .i64 rd, .int .i64 wn, .int .i64 wd] 57)
        have H5 := Lib.hid (H4.out.trans (h45.mono z24))
        clear h45 H4 H3
        generalize w4.heap.size = g5 at *
        generalize (w4.alloc (.cells #[.int .i64 kd, .slice X xs.length cx, .int .i64 xd, .slice Y ys.length cy, .int .i64 yd, .slice R rs.length cr, .int .i64 rd, .int .i64 wn, .int .i64 wd] 57)) = W5 at *
        go_wp2_with fail
        refine (ref1_Of nv dv _).mono ?_
        rintro e w6 ⟨rfl, hb6⟩
        obtain ⟨tn, htn⟩ : ∃ tn, frN nv dv = tn := ⟨_, rfl⟩
        obtain ⟨td, htd⟩ : ∃ td, ptD [nv] dv = td := ⟨_, rfl⟩
        rw [htn, htd] at HQ1 HQ4 HMT ⊢
        clear htn htd
        have z56 := hb6.size
        go_upto_region 21 with fail
        have BT := Lib.hid (Blk.mk' w6 38 #[.int .i64 tn, .int .i64 td])
        have h67 := hb6.alloc z56 (.cells #[.int .i64 tn, .int .i64 td] 38)
        have BA7 := Lib.hid (BA.out.next h67)
        have H7 := Lib.hid (H5.out.trans (h67.mono H5.out.size))
        clear h67 hb6 z56 BA H5
        generalize w6.heap.size = g6 at *
        generalize (w6.alloc (.cells #[.int .i64 tn, .int .i64 td] 38)) = W7 at *
        have lT := BT.out.lt
        have HB7 := Lib.hid (HB2.out.trans (H7.out.mono HB2.out.size))
        have HPC7 := Lib.hid (HPC.out.below (H12.out.trans (H7.out.mono z12)))
        have HLV7 := HLV.out
        go_wp2_with fail
        go_loopw [20, 21] (fun sw si wx => ∃ k : Nat, k ≤ lv ∧ si = .int .i64 k ∧ sw = .bool ((L.take k).any fun x => inP x tn td) ∧ Below W7.heap.size W7 wx) (fun _ si _ => lv - (intOf si).toNat)
        case atStart => exact ⟨0, by omega, rfl, rfl, Below.refl _ _⟩
        case round =>
          obtain ⟨k, hk, rfl, rfl, hbe⟩ := hrel
          rename World => Z
          have HZ := Lib.hid hbe
          have HBZ := Lib.hid (HB7.out.trans (hbe.mono HB7.out.size))
          have HPZ := Lib.hid (HPC7.out.below hbe)
          have BAZ := Lib.hid (BA7.out.next hbe)
          have BTZ := Lib.hid (BT.out.next hbe)
          have zZ := hbe.size
          clear hbe
          obtain ⟨sw, hsw⟩ : ∃ sw, ((L.take k).any fun x => inP x tn td) = sw := ⟨_, rfl⟩
          have HSW := Lib.hid hsw
          rw [hsw]
          clear hsw
          by_cases hkl : k < lv
          · have hkL : k < L.length := by omega
            rcases HPZ.out with ⟨e, _⟩ | ⟨_, g, cap, e, hge, hgl, hcp, hcp2, hat⟩
            · rw [e] at hkL; exact absurd hkL (Nat.not_lt_zero _)
            · injection e with e1 e2 e3
              subst e1 e3
              have hat := hat k hkL
              obtain ⟨x, hx⟩ : ∃ x, L[k] = x := ⟨_, rfl⟩
              rw [hx] at hat
              have HQX := Lib.hid (HQ4.out x (by rw [← hx]; exact List.getElem_mem hkL))
              have HSU := Lib.hid (show ((L.take (k + 1)).any fun x => inP x tn td) = (sw || inP x tn td) by rw [List.take_succ_eq_append_getElem hkL, List.any_append, HSW.out, hx]; simp)
              have HAT := Lib.hid (fun u : Wk Z => hat.below u.2)
              obtain ⟨ip, hip⟩ : ∃ ip, inP x tn td = ip := ⟨_, rfl⟩
              have HIP := Lib.hid hip
              rw [hip] at HSU
              have HIN := Lib.hid (fun u => show Calls Try.prog 32 #[.agg #[.bool x.fr.op, .int .i64 x.fr.n, .int .i64 x.fr.d, .bool x.to.op, .int .i64 x.to.n, .int .i64 x.to.d, .int .i64 x.bn, .int .i64 x.bd, .int .i64 x.sn, .int .i64 x.sd], .agg #[.int .i64 tn, .int .i64 td]] u (fun e w' => e = .returned (.bool ip) ∧ Below u.heap.size u w') from by
                have := ref8_InP x tn td u (fine_ok HQX.out.1) (fine_ok HQX.out.2.1) HMT.out
                rw [hip] at this
                exact this)
              have hk0 : (k : Int) < (lv : Int) := by omega
              have hcp' : lv ≤ cv := by omega
              clear hat hx hip e2 hkL
              have d0 : ∀ u : Wk Z, u.1.cell? ⟨g, k * 10, none⟩ = some (.bool x.fr.op) := fun u => (HAT.out u).c0
              have d1 : ∀ u : Wk Z, u.1.cell? ⟨g, k * 10 + 1, none⟩ = some (.int .i64 x.fr.n) := fun u => (HAT.out u).c1
              have d2 : ∀ u : Wk Z, u.1.cell? ⟨g, k * 10 + 2, none⟩ = some (.int .i64 x.fr.d) := fun u => (HAT.out u).c2
              have d3 : ∀ u : Wk Z, u.1.cell? ⟨g, k * 10 + 3, none⟩ = some (.bool x.to.op) := fun u => (HAT.out u).c3
              have d4 : ∀ u : Wk Z, u.1.cell? ⟨g, k * 10 + 4, none⟩ = some (.int .i64 x.to.n) := fun u => (HAT.out u).c4
              have d5 : ∀ u : Wk Z, u.1.cell? ⟨g, k * 10 + 5, none⟩ = some (.int .i64 x.to.d) := fun u => (HAT.out u).c5
              have d6 : ∀ u : Wk Z, u.1.cell? ⟨g, k * 10 + 6, none⟩ = some (.int .i64 x.bn) := fun u => (HAT.out u).c6
              have d7 : ∀ u : Wk Z, u.1.cell? ⟨g, k * 10 + 7, none⟩ = some (.int .i64 x.bd) := fun u => (HAT.out u).c7
              have d8 : ∀ u : Wk Z, u.1.cell? ⟨g, k * 10 + 8, none⟩ = some (.int .i64 x.sn) := fun u => (HAT.out u).c8
              have d9 : ∀ u : Wk Z, u.1.cell? ⟨g, k * 10 + 9, none⟩ = some (.int .i64 x.sd) := fun u => (HAT.out u).c9
              have t0 : ∀ u : Wk Z, u.1.cell? ⟨g6, 0, none⟩ = some (.int .i64 tn) := fun u => (BTZ.out.next u.2).cell 0
              have t1 : ∀ u : Wk Z, u.1.cell? ⟨g6, 1, none⟩ = some (.int .i64 td) := fun u => (BTZ.out.next u.2).cell 1
              go_wp2_with fail
              refine wk_region (by kernel_rfl) (by kernel_rfl) ?_
              repeat (go_big_quiet_step ((go_at_call 32; with_reducible exact wk_call (HIN.out _))))
              refine wpQuiet_nil ?_
              rintro w7 ⟨u7, rfl⟩
              have z7 := u7.2.size
              cases ip with
              | false =>
                go_wp2_with fail
                go_roundw
                case rel => exact ⟨k + 1, by omega, by go_num, by rw [HSU.out, Bool.or_false], HZ.out.trans (u7.2.mono zZ)⟩
                case measure => simp [intOf]; omega
              | true =>
                have HE := Lib.hid (fun h => HQX.out.2.2 HIP.out h)
                clear t0 t1 d0 d1 d2 d3 d4 d5
                go_upto_region 28 with fail
                have b8 := Blk.mk' u7.1 38 #[.int .i64 x.bn, .int .i64 x.bd]
                have h8 := u7.2.alloc z7 (.cells #[.int .i64 x.bn, .int .i64 x.bd] 38)
                obtain ⟨V8, hV8⟩ : ∃ V8, u7.1.alloc (.cells #[.int .i64 x.bn, .int .i64 x.bd] 38) = V8 := ⟨_, rfl⟩
                obtain ⟨bb, hbb⟩ : ∃ bb, u7.1.heap.size = bb := ⟨_, rfl⟩
                rw [hV8] at b8 h8 ⊢
                rw [hbb] at b8 ⊢
                clear hV8 hbb z7
                obtain ⟨u8, rfl⟩ : ∃ u8 : Wk Z, V8 = u8.1 := ⟨⟨V8, h8⟩, rfl⟩
                have B8 := Lib.hid b8
                have z8 := u8.2.size
                clear h8 b8
                go_upto_region 29 with fail
                have b9 := Blk.mk' u8.1 38 #[.int .i64 x.sn, .int .i64 x.sd]
                have b8 := B8.out.alloc (.cells #[.int .i64 x.sn, .int .i64 x.sd] 38)
                have h9 := u8.2.alloc z8 (.cells #[.int .i64 x.sn, .int .i64 x.sd] 38)
                obtain ⟨V9, hV9⟩ : ∃ V9, u8.1.alloc (.cells #[.int .i64 x.sn, .int .i64 x.sd] 38) = V9 := ⟨_, rfl⟩
                obtain ⟨bc, hbc⟩ : ∃ bc, u8.1.heap.size = bc := ⟨_, rfl⟩
                rw [hV9] at b9 b8 h9 ⊢
                rw [hbc] at b9 ⊢
                clear hV9 hbc z8 d6 d7 d8 d9
                have e0 : V9.cell? ⟨bb, 0, none⟩ = some (.int .i64 x.bn) := b8.cell 0
                have e1 : V9.cell? ⟨bb, 1, none⟩ = some (.int .i64 x.bd) := b8.cell 1
                have e2 : V9.cell? ⟨bc, 0, none⟩ = some (.int .i64 x.sn) := b9.cell 0
                have e3 : V9.cell? ⟨bc, 1, none⟩ = some (.int .i64 x.sd) := b9.cell 1
                have a0 : V9.cell? ⟨g5, 0, none⟩ = some (.int .i64 kd) := (BAZ.out.next h9).cell 0
                have a7 : V9.cell? ⟨g5, 7, none⟩ = some (.int .i64 wn) := (BAZ.out.next h9).cell 7
                have a8 : V9.cell? ⟨g5, 8, none⟩ = some (.int .i64 wd) := (BAZ.out.next h9).cell 8
                have H9 := Lib.hid (HZ.out.trans (h9.mono zZ))
                clear b8 b9 h9
                obtain ⟨lf, hlf⟩ : ∃ lf, wrap64 (wrap64 (wn * x.bd) * x.sd) = lf := ⟨_, rfl⟩
                rcases q2 with rfl | rfl
                · have hrt : wrap64 (wrap64 (wrap64 (wrap64 (dv * x.bn) * x.sd) + wrap64 (wrap64 (nv * x.sn) * x.bd)) * wd) = lf := by
                    rw [← hlf]; exact (two_sides (HE.out rfl)).symm
                  by_cases hb1 : x.bd ≤ 20000
                  · by_cases hb2 : x.sd ≤ 20000
                    · go_wp2_with fail
                      go_roundw
                      case rel => exact ⟨k + 1, by omega, by go_num, by rw [HSU.out, Bool.or_true], H9.out⟩
                      case measure => simp [intOf]; omega
                    · go_wp2_with fail
                      go_roundw
                      case rel => exact ⟨k + 1, by omega, by go_num, by rw [HSU.out, Bool.or_true], H9.out⟩
                      case measure => simp [intOf]; omega
                  · go_wp2_with fail
                    go_roundw
                    case rel => exact ⟨k + 1, by omega, by go_num, by rw [HSU.out, Bool.or_true], H9.out⟩
                    case measure => simp [intOf]; omega
                · go_wp2_with fail
                  go_roundw
                  case rel => exact ⟨k + 1, by omega, by go_num, by rw [HSU.out, Bool.or_true], H9.out⟩
                  case measure => simp [intOf]; omega
          · obtain rfl : k = lv := by omega
            have hany : sw = decide (kd = 1) := by rw [← HSW.out, ← HQ1.out, List.take_of_length_le (by omega)]
            have a0 : Z.cell? ⟨g5, 0, none⟩ = some (.int .i64 kd) := BAZ.out.cell 0
            rcases q2 with rfl | rfl
            · obtain rfl : sw = true := by rw [hany]; rfl
              clear hany
              go_wp2_with fail
              go_ret
              exact ⟨ret_bool (by first | rfl | simp), HBZ.out⟩
            · obtain rfl : sw = false := by rw [hany]; rfl
              clear hany
              go_wp2_with fail
              go_ret
              exact ⟨ret_bool (by first | rfl | simp), HBZ.out⟩
  · have hL0 : L = [] := by rw [← HLL.out]; unfold swpL; rw [if_neg (by rw [HER.out]; exact h0)]
    have hlv0 : lv = 0 := by rw [← HLV.out, hL0]; rfl
    subst hlv0
    have hz0 : (er != 0) = true := by simpa using h0
    clear hL0
    go_wp2_with fail
    go_ret
    exact ⟨rfl, HB2.out⟩
end Go.Proofs.Ytjcdkbalhleeeab

namespace Go.Proofs.Ytjcdkbalhleeeab
open Go.RowKit Go.WideShapes Go.ChangeShapes
section
variable {H : Type} {enc : TypeId × Value → H} {P : Program}
theorem post_of_below {f : Func} {s : ChangeSpec} {apart fresh handsOn again : Bool} {W W' : World} {args : Array Value} {v : Value} {ds gs : List (DataW H)} {before pa pv : List MemPlace}
    (hW : DataW.Whole enc P f.params.toList s.vars apart W args.toList ds gs before)
    (hres : ∀ (b : Nat) (sp : Nat → Bool) (hd : Bool), DataW.TrodAll enc P W' b sp hd f.resultTypes.toList (v.resultList f.resultTypes.size) (s.fn H (ds ++ gs)).results [])
    (hargs : ∀ sp : Nat → Bool, (∀ p ∈ before, sp p.block = true) → DataW.TrodAll enc P W' 0 sp true f.params.toList args.toList (s.fn H (ds ++ gs)).args pa)
    (hvars : ∀ sp : Nat → Bool, (∀ p ∈ before, sp p.block = true) → DataW.TrodVars enc P W' sp s.vars (s.fn H (ds ++ gs)).vars pv)
    (hps : before = pa ++ pv) (hb : Below W.heap.size W W')
    (hok : ∀ (j : Nat) (t : TypeId) (r : Value), f.resultTypes[j]? = some t → (v.resultList f.resultTypes.size)[j]? = some r → Value.okWide P W' .any 0 t r) :
    s.post enc P f apart fresh handsOn again W args v W' := by
  have hlt : ∀ p ∈ before, p.block < W.heap.size := fun p hp => hW.lt p hp
  have hold : ∀ p ∈ before, (fun b => decide (b < W.heap.size)) p.block = true := fun p hp => by simpa using hlt p hp
  refine ⟨ds, gs, before, [], pa, pv, hW, hres _ _ _, hargs _ hold, hvars _ hold, World.keptBut_mono (fun p hp => ⟨hp, ?_⟩) (hb.frame (· ∈ before)), fun _ => ?_⟩
  · rw [hps, List.mem_append] at hp
    exact Or.inr hp
  · obtain ⟨_, _, _, _, _, hz, hn⟩ := hW
    refine ⟨hok, _, _, ([] ++ pa) ++ pv, ⟨[] ++ pa, pv, trodAll_append (hargs _ (fun _ _ => rfl)) (hres _ _ _), hvars _ (fun _ _ => rfl), rfl, ?_, ?_⟩, ?_⟩
    · intro b off hp
      have hin : MemPlace.cell b off ∈ before := by rw [hps]; simpa using hp
      rw [hb.frozen (hlt _ hin)]
      exact hz b off hin
    · intro ha
      have := hn ha
      rw [hps] at this
      simpa using this
    · intro p hp _
      rw [hps]
      simpa using hp
end
theorem Try.own : ownKnob Try.prog.godebug = none := by kernel_rfl
end Go.Proofs.Ytjcdkbalhleeeab

namespace Go.Proofs.Ytjcdkbalhleeeab
open Go.RowKit Go.WideShapes Go.ChangeShapes Go.Deep

theorem Try.laidOut : laidOutB Try.prog = true := by kernel_rfl

/-- The reach, of one datum. -/
def Sized {H : Type} (P : Program) (t : TypeId) (d : DataW H) : Prop := ∀ n ∈ d.weights P t, n ≤ reachBytes

section
variable {H : Type} {enc : TypeId × Value → H} {w : World} {n : Nat}

theorem sized_at {P : Program} {ts : List TypeId} {ds : List (DataW H)} (h : (DataW.weightsEach P ts ds).all (· ≤ reachBytes) = true) {j : Nat} {t : TypeId} {d : DataW H} (ht : ts[j]? = some t) (hd : ds[j]? = some d) : Sized P t d := fun m hm => by
  have := List.all_eq_true.1 h _ (DataW.weights_mem_each ht hd m hm)
  simpa using this

/-- An integer, off its cells. -/
theorem rd_int {t : TypeId} {k : IntKind} {cs : List Value} {x : DataW H × List MemPlace} (ht : Try.prog.underlying t = some (.int k)) (h : DataW.trod enc Try.prog w 0 (fun _ => true) true n t cs = some x) :
    ∃ z, cs = [.int k z] ∧ x = (.lit (.int k z), []) ∧ (Lit.int k z).wf = true := by
  obtain ⟨z, h1, h2, h3⟩ := DataW.trod_int ht h
  exact ⟨z, h1, h2, h3⟩

set_option maxRecDepth 100000 in
/-- A slice of 64-bit numbers, off its cells. -/
theorem rd_ints {t e : TypeId} {cs : List Value} {x : DataW H × List MemPlace} (ht : Try.prog.underlying t = some (.slice e)) (he : Try.prog.underlying e = some (.int .i64)) (hc : Try.prog.cellsOf e = 1) (hy : Try.prog.bytesOf e = 8)
    (h : DataW.trod enc Try.prog w 0 (fun _ => true) true n t cs = some x) (hs : Sized Try.prog t x.1) :
    ∃ A c l, cs = [.slice A l.length c] ∧ Rd w A c l ∧ (∀ z ∈ l, -9223372036854775808 ≤ z ∧ z ≤ 9223372036854775807) := by
  rcases open_ints ht he hc h with ⟨rfl, rfl⟩ | ⟨a, len, cap, zs, rfl, hb, hl, hm, hz, rfl, hcell, hwf⟩
  · exact ⟨none, 0, [], rfl, Rd.nil w, by simp⟩
  · simp only [if_true] at hz
    have hlen : (zs.take len).length = len := by rw [List.length_take]; omega
    have hsz : cap * 8 ≤ reachBytes := by
      have := hs ((lits (H := H) .i64 (zs.take len)).length * Try.prog.bytesOf e + (lits (H := H) .i64 (zs.drop len)).length * Try.prog.bytesOf e) (by simp [DataW.weights, ht, Nat.add_mul])
      simp only [lits, List.length_map, List.length_take, List.length_drop, hy] at this
      have e1 : min len zs.length = len := by omega
      rw [e1] at this
      have e2 : zs.length - len = cap - len := by omega
      rw [e2] at this
      rw [← Nat.add_mul] at this
      rwa [show len + (cap - len) = cap from by omega] at this
    have hr : reachBytes ≤ 140737488351232 := by decide
    refine ⟨some a, cap, zs.take len, by rw [hlen], ⟨by omega, by unfold maxLen at hm; omega, by omega, fun _ => ⟨a, rfl, fun j u hu => ?_⟩⟩, fun z hz => ?_⟩
    · rw [List.getElem?_map, List.getElem?_take] at hu
      by_cases hj : j < len
      · rw [if_pos hj] at hu
        have hj2 : j < zs.length := by omega
        rw [List.getElem?_eq_getElem hj2] at hu
        simp at hu
        rw [hcell j hj2, ← hu]
        simp [hj2]
      · rw [if_neg hj] at hu; simp at hu
    · have := hwf z (List.mem_of_mem_take hz)
      simp [Lit.wf, IntKind.min, IntKind.max, IntKind.signed, IntKind.bits] at this
      omega

theorem sized_part {P : Program} {t : TypeId} {fs : Array Field} {parts : List (DataW H)} (ht : P.underlying t = some (.struct fs)) (h : Sized P t (.agg parts)) {j : Nat} {f : Field} {d : DataW H} (hf : fs[j]? = some f) (hd : parts[j]? = some d) : Sized P f.type d := fun m hm =>
  h m (by
    simp only [DataW.weights, ht]
    exact DataW.weights_mem_each (j := j) (by simp [hf]) hd m hm)

set_option maxRecDepth 100000 in
/-- A struct of two fields, off its cells: the first of k cells. -/
theorem rd_two {t : TypeId} {f0 f1 : Field} {cs : List Value} {x : DataW H × List MemPlace} (ht : Try.prog.underlying t = some (.struct #[f0, f1])) (h : DataW.trod enc Try.prog w 0 (fun _ => true) true n t cs = some x) (hs : Sized Try.prog t x.1) :
    ∃ (y0 y1 : DataW H × List MemPlace) (m : Nat), cs.length = Try.prog.cellsOf t ∧ DataW.trod enc Try.prog w 0 (fun _ => true) true m f0.type ((cs.drop f0.offset).take (Try.prog.cellsOf f0.type)) = some y0 ∧
      DataW.trod enc Try.prog w 0 (fun _ => true) true m f1.type ((cs.drop f1.offset).take (Try.prog.cellsOf f1.type)) = some y1 ∧ Sized Try.prog f0.type y0.1 ∧ Sized Try.prog f1.type y1.1 := by
  obtain ⟨xs, m, _, rfl, hl, hx, hi⟩ := DataW.trod_struct ht h
  match xs, hx with
  | [y0, y1], _ =>
    exact ⟨y0, y1, m, hl, hi 0 f0 rfl, hi 1 f1 rfl, sized_part ht hs (j := 0) rfl rfl, sized_part ht hs (j := 1) rfl rfl⟩

theorem cells_ints : Try.prog.cellsOf 22 = 1 := by kernel_rfl
theorem cells_int64 : Try.prog.cellsOf 2 = 1 := by kernel_rfl
theorem bytes_int64 : Try.prog.bytesOf 2 = 8 := by kernel_rfl

theorem list2 {α : Type} {l : List α} (h : l.length = 2) : ∃ a b, l = [a, b] := by
  match l, h with
  | [a, b], _ => exact ⟨a, b, rfl⟩

/-! By value, as parameters come. -/
set_option maxRecDepth 100000 in
theorem op_ints {r : Reach} {b0 : Nat} {t e : TypeId} {v : Value} {d : DataW H} {p : List MemPlace} (ht : Try.prog.underlying t = some (.slice e)) (he : Try.prog.underlying e = some (.int .i64)) (hc : Try.prog.cellsOf e = 1) (hy : Try.prog.bytesOf e = 8)
    (hv : Value.okWide Try.prog w r b0 t v) (h : DataW.Trod enc Try.prog w 0 (fun _ => true) true t v d p) (hs : Sized Try.prog t d) :
    ∃ A c l, v = .slice A l.length c ∧ Rd w A c l ∧ (∀ z ∈ l, -9223372036854775808 ≤ z ∧ z ≤ 9223372036854775807) := by
  obtain ⟨a, m, c, rfl⟩ := okWide_slice ht hv
  obtain ⟨fuel, hf⟩ := h
  obtain ⟨A, c', l, hcs, hr, hw⟩ := rd_ints ht he hc hy hf hs
  simp [Value.cells] at hcs
  exact ⟨A, c', l, by rw [hcs.1, hcs.2.1, hcs.2.2], hr, hw⟩
/-- All arguments read as they did. -/
theorem trodAll_stays {P : Program} {W W' : World} (hl : laidOutB P = true) (hb : Below W.heap.size W W') (sp : Nat → Bool) : ∀ (ts : List TypeId) (vs : List Value) (ds : List (DataW H)) (ps : List MemPlace),
    (∀ t ∈ ts, P.readableRec t = true ∧ t < P.types.size) → DataW.TrodAll enc P W 0 (fun _ => true) true ts vs ds ps → (∀ x ∈ ps, x.block < W.heap.size) → (∀ x ∈ ps, sp x.block = true) →
    DataW.TrodAll enc P W' 0 sp true ts vs ds ps
  | [], vs, ds, ps, _, h, _, _ => by cases vs <;> cases ds <;> simp_all [DataW.TrodAll]
  | t :: ts, vs, ds, ps, hr, h, hlt, hs => by
    obtain ⟨v, vs', d, ds', p, q, rfl, rfl, rfl, h1, h2⟩ := trodAll_cons h
    obtain ⟨hr1, hr2⟩ := hr t (by simp)
    refine ⟨p, q, WideElems.Trod_stays hl hr1 hr2 h1 (fun x hx => hb.same (hlt x (by simp [hx]))) (fun x hx => hs x (by simp [hx])),
      trodAll_stays hl hb sp ts vs' ds' q (fun t ht => hr t (by simp [ht])) h2 (fun x hx => hlt x (by simp [hx])) (fun x hx => hs x (by simp [hx])), rfl⟩

set_option maxRecDepth 100000 in
/-- The law's last step: it has returned true, and made new memory alone. -/
theorem law_post {f : Func} {s : ChangeSpec} {W W' : World} {args : Array Value} {ds gs : List (DataW H)} {before : List MemPlace}
    (hW : DataW.Whole enc Try.prog f.params.toList s.vars false W args.toList ds gs before) (hv : s.vars = [])
    (hf : s.fn H (ds ++ gs) = { results := [.lit (.bool true)], args := ds }) (hR : f.resultTypes = #[4]) (hr : ∀ t ∈ f.params.toList, Try.prog.readableRec t = true ∧ t < Try.prog.types.size)
    (hb : Below W.heap.size W W') : ∃ v, Ending.returned (.bool true) = .returned v ∧ s.post enc Try.prog f false true false false W args v W' := by
  refine ⟨_, rfl, ?_⟩
  have hW' := hW
  obtain ⟨p, q, hA, hV, rfl, hfz, hnd⟩ := hW
  rw [hv] at hV
  obtain ⟨rfl, rfl⟩ := trodVars_none hV
  refine post_of_below (pa := p) (pv := []) hW' ?_ ?_ ?_ rfl hb ?_
  · intro _ _ _
    rw [hf, hR]
    exact trodAll_mk1 (shut_bool Try.underlying4 _)
  · intro sp hsp
    rw [hf]
    exact trodAll_stays Try.laidOut hb sp _ _ _ _ hr hA (fun x hx => hW'.lt x (by simpa using hx)) (fun x hx => hsp x (by simpa using hx))
  · intro sp _
    rw [hf, hv]
    rfl
  · exact ok_one hR rfl (okWide_bool_mk Try.underlying4 _)
end
end Go.Proofs.Ytjcdkbalhleeeab

namespace Go.Proofs.Ytjcdkbalhleeeab
open Go.RowKit Go.WideShapes Go.ChangeShapes Go.Deep

theorem weights_all {H : Type} {P : Program} {e : TypeId} {l : List (DataW H)} {d : DataW H} (h : d ∈ l) : ∀ n ∈ d.weights P e, n ∈ DataW.weightsAll P e l := by
  induction l with
  | nil => simp at h
  | cons x l ih =>
    intro n hn
    simp only [DataW.weightsAll, List.mem_append]
    rcases List.mem_cons.1 h with rfl | h
    · exact Or.inl hn
    · exact Or.inr (ih h n hn)
theorem sized_elem {H : Type} {P : Program} {t e : TypeId} {l s : List (DataW H)} (ht : P.underlying t = some (.slice e)) (h : Sized P t (.slice l s)) {d : DataW H} (hd : d ∈ l) : Sized P e d := fun n hn =>
  h n (by simp only [DataW.weights, ht, List.mem_cons, List.mem_append]; exact Or.inr (Or.inl (weights_all hd n hn)))

theorem cells_row : Try.prog.cellsOf 36 = 2 := by kernel_rfl
theorem bytes_row : Try.prog.bytesOf 36 = 32 := by kernel_rfl
theorem cells_rows : Try.prog.cellsOf 23 = 1 := by kernel_rfl
theorem cells_prog : Try.prog.cellsOf 25 = 2 := by kernel_rfl

section
variable {H : Type} {enc : TypeId × Value → H} {w : World} {n : Nat}

theorem add_one (a : Addr) : a.add 1 = ⟨a.block, a.off + 1, none⟩ := rfl
theorem add_zero' (a : Addr) : a.add 0 = a := rfl

set_option maxRecDepth 100000 in
/-- A slice of rows, off its cells. -/
theorem rd_rows {cs : List Value} {x : DataW H × List MemPlace} (h : DataW.trod enc Try.prog w 0 (fun _ => true) true n 23 cs = some x) (hs : Sized Try.prog 23 x.1) :
    ∃ A c rs, cs = [.slice A rs.length c] ∧ Rw w A c rs := by
  rcases open_slice Try.underlying23 h with ⟨rfl, rfl⟩ | ⟨a, len, cap, m, fuel, D, Pl, rfl, hb, hl, hm, hmm, rfl, hi⟩
  · exact ⟨none, 0, [], rfl, ⟨by simp, by omega, by simp, fun h => by simp at h⟩⟩
  · simp only [if_true] at hmm
    subst hmm
    have hsz : (m * 32 : Nat) ≤ reachBytes := by
      have := hs ((len + (m - len)) * Try.prog.bytesOf 36) (by simp [DataW.weights, Try.underlying23])
      rw [bytes_row] at this
      rwa [show len + (m - len) = m from by omega] at this
    have hr : reachBytes ≤ 140737488351232 := by decide
    have hrow : ∀ i, i < len → ∃ r : List Int × Int, ∃ A' c', w.cell? (a.add (i * 2)) = some (.slice A' r.1.length c') ∧ w.cell? ⟨(a.add (i * 2)).block, (a.add (i * 2)).off + 1, none⟩ = some (.int .i64 r.2) ∧ Rd w A' c' r.1 := by
      intro i hil
      obtain ⟨cs', hc, ht⟩ := hi i (by omega)
      rw [cells_row] at hc
      have hsi : Sized Try.prog 36 (D i) := sized_elem Try.underlying23 hs (List.mem_map_of_mem (by simpa using hil))
      obtain ⟨y0, y1, k, hk, h0, h1, s0, _⟩ := rd_two Try.underlying36 ht hsi
      obtain ⟨u, v, rfl⟩ := list2 (hk.trans cells_row)
      simp only [cells_int64, cells_ints] at h0 h1
      obtain ⟨A', c', l, ha, hr, _⟩ := rd_ints Try.underlying22 Try.underlying2 cells_int64 bytes_int64 h0 s0
      obtain ⟨z, hz, _⟩ := rd_int Try.underlying2 h1
      simp at ha hz
      subst ha hz
      obtain ⟨_, _, hat⟩ := World.cells?_some hc
      exact ⟨(l, z), A', c', by have := hat 0 (by omega); rw [add_zero'] at this; simpa using this, by simpa [add_one] using hat 1 (by omega), hr⟩
    obtain ⟨f, hf⟩ := choose_lt hrow
    refine ⟨some a, m, (List.range len).map f, by simp, ⟨by simpa using hl, by unfold maxLen at hm; omega, by simp; omega, fun _ => ⟨a, rfl, fun j hj => ?_⟩⟩⟩
    have hj' : j < len := by simpa using hj
    simpa using hf j hj'

set_option maxRecDepth 100000 in
/-- A program, off its cells. -/
theorem rd_prog {cs : List Value} {x : DataW H × List MemPlace} (h : DataW.trod enc Try.prog w 0 (fun _ => true) true n 25 cs = some x) (hs : Sized Try.prog 25 x.1) :
    ∃ A c A2 c2 p, cs = [.slice A p.costs.length c, .slice A2 p.rows.length c2] ∧ Pg w A c A2 c2 p := by
  obtain ⟨y0, y1, m, hl, h0, h1, s0, s1⟩ := rd_two Try.underlying25 h hs
  obtain ⟨u, v, rfl⟩ := list2 (hl.trans cells_prog)
  simp only [cells_rows, cells_ints] at h0 h1
  obtain ⟨A, c, l, ha, hr, _⟩ := rd_ints Try.underlying22 Try.underlying2 cells_int64 bytes_int64 h0 s0
  obtain ⟨A2, c2, rs, hb, hrs⟩ := rd_rows h1 s1
  simp at ha hb
  exact ⟨A, c, A2, c2, ⟨l, rs⟩, by rw [ha, hb], ⟨hr, hrs⟩⟩

set_option maxRecDepth 100000 in
theorem op_prog {r : Reach} {b0 : Nat} {v : Value} {d : DataW H} {p : List MemPlace} (hv : Value.okWide Try.prog w r b0 25 v) (h : DataW.Trod enc Try.prog w 0 (fun _ => true) true 25 v d p) (hs : Sized Try.prog 25 d) :
    ∃ A c A2 c2 q, v = .agg #[.slice A q.costs.length c, .slice A2 q.rows.length c2] ∧ Pg w A c A2 c2 q := by
  obtain ⟨⟨cs⟩, rfl, hl⟩ := okWide_struct Try.underlying25 hv
  obtain ⟨fuel, hf⟩ := h
  obtain ⟨A, c, A2, c2, q, hcs, hq⟩ := rd_prog hf hs
  simp [Value.cells] at hcs
  exact ⟨A, c, A2, c2, q, by rw [hcs], hq⟩
end
end Go.Proofs.Ytjcdkbalhleeeab
