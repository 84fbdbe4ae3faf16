/-
  The walk of the law SpanStays: it returns true. No condition but that its arguments read as a program, columns and numbers.
-/
import Derived.Test.YtjcdkbalhleeeaaStayL
namespace Go.Proofs.Ytjcdkbalhleeeaa
open Go.RowKit

def onePS : PG := ⟨[1], [([1], 3)]⟩
theorem onePS_op : (costsF onePS [0] [1]).op = false := by decide +kernel
theorem onePS_n : (costsF onePS [0] [1]).n = -1 := by decide +kernel
theorem Rw.one2 {w : World} {b b2 : Nat} {n z : Int} (h0 : w.cell? ⟨b, 0, none⟩ = some (.slice (some ⟨b2, 0, none⟩) 1 1)) (h1 : w.cell? ⟨b, 1, none⟩ = some (.int .i64 z)) (hr : Rd w (some ⟨b2, 0, none⟩) 1 [n]) : Rw w (some ⟨b, 0, none⟩) 1 [([n], z)] := by
  refine ⟨by simp, by omega, by simp, fun _ => ⟨_, rfl, fun j hj => ?_⟩⟩
  obtain rfl : j = 0 := by simpa using hj
  exact ⟨_, _, h0, h1, hr⟩
def RetKc (w : World) (e : Ending) (w' : World) : Prop :=
  ∃ d b er, e = .returned (.tuple #[.agg #[.bool false, .int .i64 (-1), .int .i64 d], .agg #[.bool (EN.op b), .int .i64 (EN.n b), .int .i64 (EN.d b)], .int .i64 er]) ∧ Below w.heap.size w w'
theorem known_costs (a b r q s : Nat) (W : World) (ha : Rd W (some ⟨a, 0, none⟩) 1 [1]) (hb : Rd W (some ⟨b, 0, none⟩) 1 [1]) (hr0 : W.cell? ⟨r, 0, none⟩ = some (.slice (some ⟨b, 0, none⟩) 1 1)) (hr1 : W.cell? ⟨r, 1, none⟩ = some (.int .i64 3)) (hq : Rd W (some ⟨q, 0, none⟩) 1 [0]) (hs : Rd W (some ⟨s, 0, none⟩) 1 [1]) :
    Calls Try.prog 35 #[.agg #[.slice (some ⟨a, 0, none⟩) 1 1, .slice (some ⟨r, 0, none⟩) 1 1], .slice (some ⟨q, 0, none⟩) 1 1, .slice (some ⟨s, 0, none⟩) 1 1] W (RetKc W) := by
  refine (span_Costs (some ⟨a, 0, none⟩) 1 (some ⟨r, 0, none⟩) 1 onePS (some ⟨q, 0, none⟩) [0] 1 (some ⟨s, 0, none⟩) [1] 1 W ⟨ha, Rw.one2 hr0 hr1 hb⟩ hq hs).mono ?_
  rintro e w' ⟨rfl, hb'⟩
  rw [onePS_op, onePS_n]
  exact ⟨_, _, _, rfl, hb'⟩
theorem tmod_u (y : Int) (h : 0 ≤ y ∧ y ≤ 255) : 0 ≤ y.tmod 16 ∧ y.tmod 16 ≤ 15 := by
  rw [Int.tmod_eq_emod_of_nonneg h.1]; omega
theorem tmod_s (z : Int) : -16 ≤ z.tmod 17 ∧ z.tmod 17 ≤ 16 := by
  have h1 := Int.natAbs_tmod z 17
  have h2 : (z.tmod 17).natAbs < 17 := by rw [h1]; exact Nat.mod_lt _ (by decide)
  omega
set_option maxRecDepth 100000 in
set_option maxHeartbeats 2000000 in
theorem spanStays_walk (A : Option Addr) (c : Nat) (A2 : Option Addr) (c2 : Nat) (p : PG) (L : Option Addr) (l : List Int) (cl : Nat) (B : Option Addr) (b : List Int) (cb : Nat) (z y : Int) (w : World) (hp : Pg w A c A2 c2 p) (hr : Rd w L cl l) (hb : Rd w B cb b) (hz : -128 ≤ z ∧ z ≤ 127) (hy : 0 ≤ y ∧ y ≤ 255) :
    Calls Try.prog 11 #[.agg #[.slice A p.costs.length c, .slice A2 p.rows.length c2], .slice L l.length cl, .slice B b.length cb, .int .i8 z, .int .u8 y] w fun e w' => e = .returned (.bool true) ∧ Below w.heap.size w w' := by
  have HP := Lib.hid hp
  have HL := Lib.hid hr
  have HD := Lib.hid hb
  obtain ⟨⟨hl, hc, hsm, _⟩, ⟨hl2, hc2, hsm2, _⟩⟩ := hp
  obtain ⟨hll, hlc, hls, _⟩ := hr
  obtain ⟨hbl, hbc, hbs, _⟩ := hb
  obtain ⟨hz1, hz2⟩ := hz
  obtain ⟨hy1, hy2⟩ := hy
  obtain ⟨ef, hef⟩ : ∃ e, e = costsF p l b := ⟨_, rfl⟩
  obtain ⟨et, het⟩ : ∃ e, e = costsT p l b := ⟨_, rfl⟩
  obtain ⟨ee, hee⟩ : ∃ e, e = costsE p l b := ⟨_, rfl⟩
  have HEF := Lib.hid hef
  have HET := Lib.hid het
  have HEE := Lib.hid hee
  clear hef het hee
  go_enter Try.func11, Try.ntmps11
  go_wp2_with fail
  have BP := Lib.hid (Blk.mk' w 40 #[.slice A p.costs.length c, .slice A2 p.rows.length c2])
  have HBU := Lib.hid ((Below.refl w.heap.size w).alloc (Nat.le_refl _) (.cells #[.slice A p.costs.length c, .slice A2 p.rows.length c2] 40))
  generalize (w.alloc (.cells #[.slice A p.costs.length c, .slice A2 p.rows.length c2] 40)) = U at *
  refine (span_Costs _ _ _ _ _ _ _ _ _ _ _ _ (HP.out.below HBU.out) (HL.out.below HBU.out) (HD.out.below HBU.out)).mono ?_
  rw [← HEF.out, ← HET.out, ← HEE.out]
  rintro e w1 ⟨rfl, hb1⟩
  have z01 := hb1.size
  have zU := HBU.out.size
  have lU := BP.out.lt
  have lw1 : w.heap.size < w1.heap.size := by omega
  go_upto_region 2 with fail
  have BF := Lib.hid (show Blk ((w1.alloc (.cells #[.bool ef.op, .int .i64 ef.n, .int .i64 ef.d] 64)).alloc (.cells #[.bool et.op, .int .i64 et.n, .int .i64 et.d] 64)) w1.heap.size 64 #[.bool ef.op, .int .i64 ef.n, .int .i64 ef.d] from (Blk.mk' _ _ _).alloc _)
  have BT := Lib.hid (Blk.new (w1.alloc (.cells #[.bool ef.op, .int .i64 ef.n, .int .i64 ef.d] 64)) 64 #[.bool et.op, .int .i64 et.n, .int .i64 et.d] (w1.heap.size + 1) (by simp))
  have HV1 := Lib.hid ((hb1.alloc z01 (.cells #[.bool ef.op, .int .i64 ef.n, .int .i64 ef.d] 64)).alloc (by simp; omega) (.cells #[.bool et.op, .int .i64 et.n, .int .i64 et.d] 64))
  clear hb1
  generalize ((w1.alloc (.cells #[.bool ef.op, .int .i64 ef.n, .int .i64 ef.d] 64)).alloc (.cells #[.bool et.op, .int .i64 et.n, .int .i64 et.d] 64)) = W1 at *
  have HBW1 := Lib.hid (HBU.out.trans (HV1.out.mono zU))
  have zV1 := HV1.out.size
  have lT := BT.out.lt
  go_wp2_with fail
  have hb6 : Below W1.heap.size W1
    (
      ((((((W1.alloc (.cells #[.int .i64 1] 2)).alloc (.cells #[.int .i64 1] 2)).alloc (.cells #[.slice (some ⟨W1.heap.size + 1, 0, none⟩) 1 1, .int .i64 3] 55)).alloc (.cells #[.slice (some ⟨W1.heap.size, 0, none⟩) 1 1, .slice (some ⟨W1.heap.size + 1 + 1, 0, none⟩) 1 1] 40)).alloc (.cells #[.int .i64 0] 3)).alloc (.cells #[.int .i64 1] 2))
    ) := (by iterate 6 refine Below.alloc ?_ (by first | (simp; done) | (simp; omega)) _
             exact Below.refl _ _)
  have r1 : Rd
    (
      ((((((W1.alloc (.cells #[.int .i64 1] 2)).alloc (.cells #[.int .i64 1] 2)).alloc (.cells #[.slice (some ⟨W1.heap.size + 1, 0, none⟩) 1 1, .int .i64 3] 55)).alloc (.cells #[.slice (some ⟨W1.heap.size, 0, none⟩) 1 1, .slice (some ⟨W1.heap.size + 1 + 1, 0, none⟩) 1 1] 40)).alloc (.cells #[.int .i64 0] 3)).alloc (.cells #[.int .i64 1] 2))
    ) (some ⟨W1.heap.size, 0, none⟩) 1 [1] := (((((Rd.new1 _ _ _ _ (by simp)).alloc _).alloc _).alloc _).alloc _).alloc _
  have r2 : Rd
    (
      ((((((W1.alloc (.cells #[.int .i64 1] 2)).alloc (.cells #[.int .i64 1] 2)).alloc (.cells #[.slice (some ⟨W1.heap.size + 1, 0, none⟩) 1 1, .int .i64 3] 55)).alloc (.cells #[.slice (some ⟨W1.heap.size, 0, none⟩) 1 1, .slice (some ⟨W1.heap.size + 1 + 1, 0, none⟩) 1 1] 40)).alloc (.cells #[.int .i64 0] 3)).alloc (.cells #[.int .i64 1] 2))
    ) (some ⟨W1.heap.size + 1, 0, none⟩) 1 [1] := ((((Rd.new1 _ _ _ _ (by simp)).alloc _).alloc _).alloc _).alloc _
  have r0 : Rd
    (
      ((((((W1.alloc (.cells #[.int .i64 1] 2)).alloc (.cells #[.int .i64 1] 2)).alloc (.cells #[.slice (some ⟨W1.heap.size + 1, 0, none⟩) 1 1, .int .i64 3] 55)).alloc (.cells #[.slice (some ⟨W1.heap.size, 0, none⟩) 1 1, .slice (some ⟨W1.heap.size + 1 + 1, 0, none⟩) 1 1] 40)).alloc (.cells #[.int .i64 0] 3)).alloc (.cells #[.int .i64 1] 2))
    ) (some ⟨W1.heap.size + 1 + 1 + 1 + 1, 0, none⟩) 1 [0] := (Rd.new1 _ _ _ _ (by simp)).alloc _
  have r3 : Rd
    (
      ((((((W1.alloc (.cells #[.int .i64 1] 2)).alloc (.cells #[.int .i64 1] 2)).alloc (.cells #[.slice (some ⟨W1.heap.size + 1, 0, none⟩) 1 1, .int .i64 3] 55)).alloc (.cells #[.slice (some ⟨W1.heap.size, 0, none⟩) 1 1, .slice (some ⟨W1.heap.size + 1 + 1, 0, none⟩) 1 1] 40)).alloc (.cells #[.int .i64 0] 3)).alloc (.cells #[.int .i64 1] 2))
    ) (some ⟨W1.heap.size + 1 + 1 + 1 + 1 + 1, 0, none⟩) 1 [1] := Rd.new1 _ _ _ _ (by simp)
  have rB : Blk
    (
      ((((((W1.alloc (.cells #[.int .i64 1] 2)).alloc (.cells #[.int .i64 1] 2)).alloc (.cells #[.slice (some ⟨W1.heap.size + 1, 0, none⟩) 1 1, .int .i64 3] 55)).alloc (.cells #[.slice (some ⟨W1.heap.size, 0, none⟩) 1 1, .slice (some ⟨W1.heap.size + 1 + 1, 0, none⟩) 1 1] 40)).alloc (.cells #[.int .i64 0] 3)).alloc (.cells #[.int .i64 1] 2))
    ) (W1.heap.size + 1 + 1) 55 #[.slice (some ⟨W1.heap.size + 1, 0, none⟩) 1 1, .int .i64 3] := (((Blk.new _ _ _ _ (by simp)).alloc _).alloc _).alloc _
  generalize
    (
      ((((((W1.alloc (.cells #[.int .i64 1] 2)).alloc (.cells #[.int .i64 1] 2)).alloc (.cells #[.slice (some ⟨W1.heap.size + 1, 0, none⟩) 1 1, .int .i64 3] 55)).alloc (.cells #[.slice (some ⟨W1.heap.size, 0, none⟩) 1 1, .slice (some ⟨W1.heap.size + 1 + 1, 0, none⟩) 1 1] 40)).alloc (.cells #[.int .i64 0] 3)).alloc (.cells #[.int .i64 1] 2))
    ) = WK at *
  refine (known_costs _ _ _ _ _ WK r1 r2 (rB.cell 0) (rB.cell 1) r0 r3).mono ?_
  rintro e w2 ⟨kd, kb, er, rfl, hb2⟩
  have H12 := Lib.hid (hb6.trans (hb2.mono hb6.size))
  have z12 := H12.out.size
  clear r1 r2 r0 r3 rB hb2 hb6
  go_upto_region 4 with fail
  have BL := Lib.hid (show Blk ((w2.alloc (.cells #[.bool false, .int .i64 (-1), .int .i64 kd] 64)).alloc (.cells #[.bool kb.op, .int .i64 kb.n, .int .i64 kb.d] 64)) w2.heap.size 64 #[.bool false, .int .i64 (-1), .int .i64 kd] from (Blk.mk' _ _ _).alloc _)
  have HV2 := Lib.hid ((H12.out.alloc z12 (.cells #[.bool false, .int .i64 (-1), .int .i64 kd] 64)).alloc (by simp; omega) (.cells #[.bool kb.op, .int .i64 kb.n, .int .i64 kb.d] 64))
  generalize ((w2.alloc (.cells #[.bool false, .int .i64 (-1), .int .i64 kd] 64)).alloc (.cells #[.bool kb.op, .int .i64 kb.n, .int .i64 kb.d] 64)) = W2 at *
  have v0 : W2.cell? ⟨w2.heap.size, 0, none⟩ = some (.bool false) := BL.out.cell 0
  have v1 : W2.cell? ⟨w2.heap.size, 1, none⟩ = some (.int .i64 (-1)) := BL.out.cell 1
  obtain ⟨hd1, hd2⟩ := tmod_u y ⟨hy1, hy2⟩
  obtain ⟨hn1, hn2⟩ := tmod_s z
  have hw1 : IntKind.i64.wrap (y.tmod 16) = y.tmod 16 := IntWalk.i64_in _ (by omega)
  have hw2 : IntKind.i64.wrap (y.tmod 16 + 1) = y.tmod 16 + 1 := IntWalk.i64_in _ (by omega)
  have hw3 : IntKind.i64.wrap (z.tmod 17) = z.tmod 17 := IntWalk.i64_in _ (by omega)
  have hw4 : IntKind.i64.wrap y = y := IntWalk.i64_in _ (by omega)
  have hw5 : IntKind.i64.wrap z = z := IntWalk.i64_in _ (by omega)
  go_upto_region 8 with fail
  have hD : 1 ≤ y % 16 + 1 ∧ y % 16 + 1 ≤ 16 := by omega
  clear hw1 hw2 hw3 hw4 hw5 v0 v1 hd1 hd2
  generalize y % 16 + 1 = dv at *
  generalize z.tmod 17 = nv at *
  obtain ⟨hd1, hd2⟩ := hD
  have HV12 := Lib.hid (HV1.out.trans (HV2.out.mono zV1))
  have HBW := Lib.hid (HBU.out.trans (HV12.out.mono zU))
  have zW2 := HBW.out.size
  have BP2 := Lib.hid (BP.out.next HV12.out)
  have BF2 := Lib.hid (BF.out.next HV2.out)
  have BT2 := Lib.hid (BT.out.next HV2.out)
  have HPW := Lib.hid (HP.out.below HBW.out)
  have HLW := Lib.hid (HL.out.below HBW.out)
  have HDW := Lib.hid (HD.out.below HBW.out)
  have p0 : W2.cell? ⟨w.heap.size, 0, none⟩ = some (.slice A p.costs.length c) := BP2.out.cell 0
  have lp : w.heap.size < W2.heap.size := BP2.out.lt
  go_wp2_with fail
  go_loop [20] (fun i => ∃ k : Nat, k ≤ p.costs.length ∧ i = .int .i64 k ∧ smallB 12 (p.costs.take k) = true) (fun i => p.costs.length - (intOf i).toNat)
  case atStart => exact ⟨0, by omega, rfl, by simp [smallB]⟩
  case round =>
    obtain ⟨k, hk, rfl, hs⟩ := hrel
    have HS := Lib.hid hs
    clear hs
    by_cases hlt : k < p.costs.length
    · have hkd : decide ((k : Int) < (p.costs.length : Int)) = true := by simp; omega
      obtain ⟨aa, rfl, hca⟩ := HPW.out.costs.at_ hlt
      have HT := Lib.hid (smallB_take (m := 12) hlt)
      have hi0 : (k : Int) < (p.costs.length : Int) := by omega
      by_cases h1 : 12 < p.costs[k]
      · go_wp2_with fail
        go_ret
        exact ⟨rfl, HBW.out⟩
      · by_cases h2 : p.costs[k] < -12
        · go_wp2_with fail
          go_ret
          exact ⟨rfl, HBW.out⟩
        · go_wp2_with fail
          go_round
          case rel => exact ⟨k + 1, by omega, by go_num, by rw [HT.out, HS.out]; simp; omega⟩
          case measure => simp [intOf]; omega
    · obtain rfl : k = p.costs.length := by omega
      have hkd : decide ((p.costs.length : Int) < (p.costs.length : Int)) = false := by simp
      have HSC := Lib.hid (show smallB 12 p.costs = true by have := HS.out; rwa [List.take_length] at this)
      go_wp2_with fail
      go_loop [21] (fun i => ∃ k : Nat, k ≤ b.length ∧ i = .int .i64 k ∧ smallB 12 (b.take k) = true) (fun i => b.length - (intOf i).toNat)
      case atStart => exact ⟨0, by omega, rfl, by simp [smallB]⟩
      case round =>
        obtain ⟨k, hk, rfl, hs⟩ := hrel
        have HSb := Lib.hid hs
        clear hs
        by_cases hlt : k < b.length
        · have hkd' : decide ((k : Int) < (b.length : Int)) = true := by simp; omega
          obtain ⟨ab, rfl, hcb⟩ := HDW.out.at_ hlt
          have HT := Lib.hid (smallB_take (m := 12) hlt)
          have hi0 : (k : Int) < (b.length : Int) := by omega
          by_cases h1 : 12 < b[k]
          · go_wp2_with fail
            go_ret
            exact ⟨rfl, HBW.out⟩
          · by_cases h2 : b[k] < -12
            · go_wp2_with fail
              go_ret
              exact ⟨rfl, HBW.out⟩
            · go_wp2_with fail
              go_round
              case rel => exact ⟨k + 1, by omega, by go_num, by rw [HT.out, HSb.out]; simp; omega⟩
              case measure => simp [intOf]; omega
        · obtain rfl : k = b.length := by omega
          have hkd' : decide ((b.length : Int) < (b.length : Int)) = false := by simp
          have HSB := Lib.hid (show smallB 12 b = true by have := HSb.out; rwa [List.take_length] at this)
          have p1 : W2.cell? ⟨w.heap.size, 1, none⟩ = some (.slice A2 p.rows.length c2) := BP2.out.cell 1
          go_wp2_with fail
          refine (corner_Look _ _ _ _ _ _ _ _ _ HPW.out HLW.out).mono ?_
          obtain ⟨cc, hcc⟩ : ∃ cc, lookC p l = cc := ⟨_, rfl⟩
          obtain ⟨fe, hfe⟩ : ∃ fe, lookE p l = fe := ⟨_, rfl⟩
          rw [hcc, hfe]
          rintro e w3 ⟨X, cx, Y, cy, G, cg, rfl, _, _, _, hb3⟩
          have z23 := hb3.size
          go_upto_region 19 with fail
          have H3 := Lib.hid (hb3.alloc z23 (.cells #[.slice X cc.xs.length cx, .int .i64 cc.xd, .slice Y cc.ys.length cy, .int .i64 cc.yd, .slice G cc.gs.length cg, .int .i64 cc.gd] 47))
          clear hb3 p0 p1
          generalize (w3.alloc (.cells #[.slice X cc.xs.length cx, .int .i64 cc.xd, .slice Y cc.ys.length cy, .int .i64 cc.yd, .slice G cc.gs.length cg, .int .i64 cc.gd] 47)) = W3 at *
          have p0 : W3.cell? ⟨w.heap.size, 0, none⟩ = some (.slice A p.costs.length c) := (BP2.out.next H3.out).cell 0
          have p1 : W3.cell? ⟨w.heap.size, 1, none⟩ = some (.slice A2 p.rows.length c2) := (BP2.out.next H3.out).cell 1
          have a0 : W3.cell? ⟨w1.heap.size, 0, none⟩ = some (.bool ef.op) := (BF2.out.next H3.out).cell 0
          have a1 : W3.cell? ⟨w1.heap.size, 1, none⟩ = some (.int .i64 ef.n) := (BF2.out.next H3.out).cell 1
          have a2 : W3.cell? ⟨w1.heap.size, 2, none⟩ = some (.int .i64 ef.d) := (BF2.out.next H3.out).cell 2
          have b0 : W3.cell? ⟨w1.heap.size + 1, 0, none⟩ = some (.bool et.op) := (BT2.out.next H3.out).cell 0
          have b1 : W3.cell? ⟨w1.heap.size + 1, 1, none⟩ = some (.int .i64 et.n) := (BT2.out.next H3.out).cell 1
          have b2 : W3.cell? ⟨w1.heap.size + 1, 2, none⟩ = some (.int .i64 et.d) := (BT2.out.next H3.out).cell 2
          have HB3 := Lib.hid (HBW.out.trans (H3.out.mono zW2))
          by_cases h0 : fe = 0
          · subst h0
            have hz0 : ((0 : Int) != 0) = false := rfl
            by_cases hle : b.length = p.costs.length
            · have hlz : ((b.length : Int) != (p.costs.length : Int)) = false := by simp; omega
              have hE := hfe
              have hst := stays hE hle HSC.out HSB.out (n := nv) (d := dv) ⟨hn1, hn2⟩ ⟨hd1, hd2⟩
              have hE2 := costs_E (lineL_len p b nv dv p.costs.length) (lineL_small HSC.out HSB.out (n := nv) (d := dv) ⟨hn1, hn2⟩ ⟨hd1, hd2⟩) hE
              have hbs4 : smallB 400 b = true := smallB_iff.2 fun x hx => by have := smallB_mem HSB.out hx; omega
              have hmb : manyB b p.costs.length 400 = true := manyB_iff.2 ⟨hbs4, hle⟩
              have hok := (costs_up hE hle hbs4 _ (Nat.le_refl _)).2
              have hF : ef = endsF (costsN p l b) := by rw [HEF.out]; unfold costsF; rw [if_neg (by simp [hE]), if_neg (by simp [hmb])]
              have hT : et = endsT (costsN p l b) := by rw [HET.out]; unfold costsT; rw [if_neg (by simp [hE]), if_neg (by simp [hmb])]
              have hEe : ee = endsE (costsN p l b) := by rw [HEE.out]; unfold costsE; rw [if_neg (by simp [hE]), if_neg (by simp [hmb])]
              have HOKF := Lib.hid (show ee = 0 → EOk ef ∧ EOk et from fun h => by
                rw [hEe] at h
                rw [hF, hT]
                unfold endsF endsT
                rw [if_pos h, if_pos h]
                exact hok)
              rw [← HEE.out, ← HEF.out, ← HET.out] at hst
              obtain ⟨kk, hkk⟩ : ∃ kk, lookC (costsOf p (lineL p b nv dv p.costs.length)) l = kk := ⟨_, rfl⟩
              rw [hkk] at hst
              have HST := Lib.hid hst
              have HKK := Lib.hid hkk
              have HE2 := Lib.hid hE2
              have h4 : p.costs.length ≤ 4 := (mayPB_iff.1 (look_corn hE).choose_spec.choose_spec.choose_spec.hp).2.1
              have HLE := Lib.hid hle
              have HMT := Lib.hid (show mayB [frN nv dv] (ptD [nv] dv) = true from may_end (pt_ok (by omega) (by omega) (by rw [smallB_one]; simp; omega) (by simp)))
              clear hst hE hE2 hbs4 hmb hok hF hT hEe hkk hfe hcc hle
              go_wp2_with fail
              clear p0 p1 a0 a1 a2 b0 b1 b2
              refine (keep_at _ _ _ _ p _ b _ nv dv _ (HPW.out.below H3.out) (HDW.out.below H3.out) HLE.out h4 HSC.out HSB.out ⟨hn1, hn2⟩ ⟨hd1, hd2⟩).mono ?_
              rintro e w4 ⟨E, ce, rfl, hEr, hb4⟩
              have H4 := Lib.hid (H3.out.trans (hb4.mono H3.out.size))
              have HER := Lib.hid hEr
              clear hEr hb4 hlz
              go_wp2_with fail
              refine (corner_Look E ce A2 c2 (costsOf p (lineL p b nv dv p.costs.length)) _ l _ _ ⟨HER.out, (HPW.out.below H4.out).rows⟩ (HLW.out.below H4.out)).mono ?_
              rw [HE2.out, HKK.out]
              rintro e w5 ⟨X', cx', Y', cy', G', cg', rfl, _, _, hG5, hb5⟩
              have z45 := hb5.size
              go_upto_region 22 with fail
              have BK := Lib.hid (Blk.mk' w5 47 #[.slice X' kk.xs.length cx', .int .i64 kk.xd, .slice Y' kk.ys.length cy', .int .i64 kk.yd, .slice G' kk.gs.length cg', .int .i64 kk.gd])
              have HWL := ((Below.refl w5.heap.size w5).alloc (Nat.le_refl _) (.cells #[.slice X' kk.xs.length cx', .int .i64 kk.xd, .slice Y' kk.ys.length cy', .int .i64 kk.yd, .slice G' kk.gs.length cg', .int .i64 kk.gd] 47))
              have HGR := Lib.hid (hG5.below HWL)
              have H5 := Lib.hid (H4.out.trans ((hb5.trans (HWL.mono z45)).mono H4.out.size))
              clear hG5 hb5 HWL
              generalize (w5.alloc (.cells #[.slice X' kk.xs.length cx', .int .i64 kk.xd, .slice Y' kk.ys.length cy', .int .i64 kk.yd, .slice G' kk.gs.length cg', .int .i64 kk.gd] 47)) = W5 at *
              go_wp2_with fail
              refine (ref1_Of _ _ _).mono ?_
              rintro e w6 ⟨rfl, hb6⟩
              have z56 := hb6.size
              go_upto_region 23 with fail
              have BTT := Lib.hid (Blk.mk' w6 23 #[.int .i64 (frN nv dv), .int .i64 (ptD [nv] dv)])
              have HWL := hb6.trans (((Below.refl w6.heap.size w6).alloc (Nat.le_refl _) (.cells #[.int .i64 (frN nv dv), .int .i64 (ptD [nv] dv)] 23)).mono z56)
              have BK7 := Lib.hid (BK.out.next HWL)
              have HGR7 := Lib.hid (HGR.out.below HWL)
              have H7 := Lib.hid (H5.out.trans (HWL.mono H5.out.size))
              clear hb6 HWL
              generalize (w6.alloc (.cells #[.int .i64 (frN nv dv), .int .i64 (ptD [nv] dv)] 23)) = W7 at *
              have HB7 := Lib.hid (HBW.out.trans (H7.out.mono zW2))
              have k4 : W7.cell? ⟨w5.heap.size, 4, none⟩ = some (.slice G' kk.gs.length cg') := BK7.out.cell 4
              have k5 : W7.cell? ⟨w5.heap.size, 5, none⟩ = some (.int .i64 kk.gd) := BK7.out.cell 5
              by_cases he : ee = 0
              · have HOK := HOKF.out he
                have hin : inB ef et (frN nv dv) (ptD [nv] dv) = nonpos kk.gs := by have := HST.out; rwa [decide_eq_true he, Bool.true_and] at this
                have HIN := Lib.hid hin
                have a0 : W7.cell? ⟨w1.heap.size, 0, none⟩ = some (.bool ef.op) := (BF2.out.next H7.out).cell 0
                have a1 : W7.cell? ⟨w1.heap.size, 1, none⟩ = some (.int .i64 ef.n) := (BF2.out.next H7.out).cell 1
                have a2 : W7.cell? ⟨w1.heap.size, 2, none⟩ = some (.int .i64 ef.d) := (BF2.out.next H7.out).cell 2
                have b0 : W7.cell? ⟨w1.heap.size + 1, 0, none⟩ = some (.bool et.op) := (BT2.out.next H7.out).cell 0
                have b1 : W7.cell? ⟨w1.heap.size + 1, 1, none⟩ = some (.int .i64 et.n) := (BT2.out.next H7.out).cell 1
                have b2 : W7.cell? ⟨w1.heap.size + 1, 2, none⟩ = some (.int .i64 et.d) := (BT2.out.next H7.out).cell 2
                have t0 : W7.cell? ⟨w6.heap.size, 0, none⟩ = some (.int .i64 (frN nv dv)) := BTT.out.cell 0
                have t1 : W7.cell? ⟨w6.heap.size, 1, none⟩ = some (.int .i64 (ptD [nv] dv)) := BTT.out.cell 1
                have hez : (ee == 0) = true := by simpa using he
                clear hin he
                go_wp2_with fail
                refine (ref8_In ef et _ _ _ HOK.1 HOK.2 HMT.out).mono ?_
                rw [HIN.out]
                rintro e w8 ⟨rfl, hb8⟩
                have BK8 := Lib.hid (BK7.out.next hb8)
                have HGR8 := Lib.hid (HGR7.out.below hb8)
                have HB8 := Lib.hid (HB7.out.trans (hb8.mono HB7.out.size))
                clear k4 k5 a0 a1 a2 b0 b1 b2 t0 t1 hb8
                have k4 : w8.cell? ⟨w5.heap.size, 4, none⟩ = some (.slice G' kk.gs.length cg') := BK8.out.cell 4
                have k5 : w8.cell? ⟨w5.heap.size, 5, none⟩ = some (.int .i64 kk.gd) := BK8.out.cell 5
                go_wp2_with fail
                refine (ref3_Below _ _ _ _ _ HGR8.out).mono ?_
                rintro e w9 ⟨rfl, hb9⟩
                have HB9 := Lib.hid (HB8.out.trans (hb9.mono HB8.out.size))
                clear hb9
                generalize nonpos kk.gs = bb at *
                have hbb : (bb == bb) = true := by simp
                go_wp2_with fail
                go_ret
                exact ⟨ret_bool (by first | rfl | simp), HB9.out⟩
              · have hbl0 : nonpos kk.gs = false := by have := HST.out; rw [decide_eq_false he, Bool.false_and] at this; exact this.symm
                have HBL0 := Lib.hid hbl0
                have hez : (ee == 0) = false := by simpa using he
                clear hbl0 he
                go_wp2_with fail
                refine (ref3_Below _ _ _ _ _ HGR7.out).mono ?_
                rw [HBL0.out]
                rintro e w9 ⟨rfl, hb9⟩
                have HB9 := Lib.hid (HB7.out.trans (hb9.mono HB7.out.size))
                clear hb9
                go_wp2_with fail
                go_ret
                exact ⟨rfl, HB9.out⟩
            · have hlz : ((b.length : Int) != (p.costs.length : Int)) = true := by simp; omega
              have hm : manyB b p.costs.length 400 = false := by
                cases h : manyB b p.costs.length 400 with
                | false => rfl
                | true => exact absurd (manyB_iff.1 h).2 hle
              have e1 : ee = 1 := by rw [HEE.out]; unfold costsE; rw [if_neg (by simp [hfe]), if_pos hm]
              have e2 : ef = zeroE := by rw [HEF.out]; unfold costsF; rw [if_neg (by simp [hfe]), if_pos hm]
              have e3 : et = zeroE := by rw [HET.out]; unfold costsT; rw [if_neg (by simp [hfe]), if_pos hm]
              obtain ⟨x1, x2, x3, x4, x5, x6⟩ : ef.op = false ∧ ef.n = 0 ∧ ef.d = 0 ∧ et.op = false ∧ et.n = 0 ∧ et.d = 0 := by rw [e2, e3]; simp [zeroE]
              clear e2 e3 hle hm hfe hcc
              go_wp2_with fail
              go_ret
              exact ⟨rfl, HB3.out⟩
          · have hz0 : (fe != 0) = true := by simpa using h0
            have e1 : ee = fe := by rw [HEE.out]; unfold costsE; rw [if_pos (by rw [hfe]; exact h0), hfe]
            have e2 : ef = zeroE := by rw [HEF.out]; unfold costsF; rw [if_pos (by rw [hfe]; exact h0)]
            have e3 : et = zeroE := by rw [HET.out]; unfold costsT; rw [if_pos (by rw [hfe]; exact h0)]
            obtain ⟨x1, x2, x3, x4, x5, x6⟩ : ef.op = false ∧ ef.n = 0 ∧ ef.d = 0 ∧ et.op = false ∧ et.n = 0 ∧ et.d = 0 := by rw [e2, e3]; simp [zeroE]
            clear e2 e3 hfe hcc
            go_wp2_with fail
            go_ret
            exact ⟨rfl, HB3.out⟩
end Go.Proofs.Ytjcdkbalhleeeaa
