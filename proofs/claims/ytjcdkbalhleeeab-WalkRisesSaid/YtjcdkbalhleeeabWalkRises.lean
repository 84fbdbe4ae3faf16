/-
  The walk of the law WalkRises: it returns true. No condition but that its arguments read as a program and columns.
-/
import Derived.Test.YtjcdkbalhleeeabWlk1
import Derived.Test.YtjcdkbalhleeeabRf5b
import Derived.Test.YtjcdkbalhleeeabRefB
import Derived.Test.YtjcdkbalhleeeabRef2
import Derived.Test.YtjcdkbalhleeeabRef4
import Derived.Test.YtjcdkbalhleeeabQTail
import Derived.Test.YtjcdkbalhleeeabLkA
import Derived.Deep.DeepCutAuto
namespace Go.Proofs.Ytjcdkbalhleeeab
open Go.RowKit


def onePW : PG := ⟨[5], [([2], 3)]⟩
theorem onePW_E : nextE onePW [1] = 0 := by decide +kernel
theorem onePW_end : EndAt onePW (nats [1]) 1 [0] := ⟨by decide +kernel, by decide +kernel⟩
theorem ints_len' (a : List Nat) : (ints a).length = a.length := by simp [ints]
theorem Rw.oneW {w : World} {b b2 : Nat} {n z : Int} (h0 : w.cell? ⟨b, 0, none⟩ = some (.slice (some ⟨b2, 0, none⟩) 1 1)) (h1 : w.cell? ⟨b, 1, none⟩ = some (.int .i64 z)) (hr : Rd w (some ⟨b2, 0, none⟩) 1 [n]) : Rw w (some ⟨b, 0, none⟩) 1 [([n], z)] := by
  refine ⟨by simp, by omega, by simp, fun _ => ⟨_, rfl, fun j hj => ?_⟩⟩
  obtain rfl : j = 0 := by simpa using hj
  exact ⟨_, _, h0, h1, hr⟩
theorem known_walk (a b r q : Nat) (W : World) (ha : Rd W (some ⟨a, 0, none⟩) 1 [5]) (hb : Rd W (some ⟨b, 0, none⟩) 1 [2]) (hr0 : W.cell? ⟨r, 0, none⟩ = some (.slice (some ⟨b, 0, none⟩) 1 1)) (hr1 : W.cell? ⟨r, 1, none⟩ = some (.int .i64 3)) (hq : Rd W (some ⟨q, 0, none⟩) 1 [1]) :
    Calls Try.prog 9 #[.agg #[.slice (some ⟨a, 0, none⟩) 1 1, .slice (some ⟨r, 0, none⟩) 1 1], .slice (some ⟨q, 0, none⟩) 1 1] W fun e w' => ∃ A c kd er, e = .returned (.tuple #[.slice A 2 c, .int .i64 kd, .int .i64 er]) ∧ Below W.heap.size W w' := by
  refine (walk_Walk (some ⟨a, 0, none⟩) 1 (some ⟨r, 0, none⟩) 1 onePW (some ⟨q, 0, none⟩) [1] 1 W ⟨ha, Rw.oneW hr0 hr1 hb⟩ hq).mono ?_
  intro e w' h
  obtain ⟨A, n, c, kd, er, rfl, hb', he, _, h2⟩ := h.any
  obtain ⟨k, lk, rfl, hE, _⟩ := h2 (he.trans onePW_E)
  obtain ⟨rfl, _⟩ := hE.uniq onePW_end
  exact ⟨A, c, kd, er, rfl, hb'⟩
set_option maxRecDepth 100000 in
set_option maxHeartbeats 2000000 in
theorem walkRises_walk (A : Option Addr) (c : Nat) (A2 : Option Addr) (c2 : Nat) (p : PG) (L : Option Addr) (l : List Int) (cl : Nat) (w : World) (hp : Pg w A c A2 c2 p) (hr : Rd w L cl l) :
    Calls Try.prog 4 #[.agg #[.slice A p.costs.length c, .slice A2 p.rows.length c2], .slice L l.length cl] w fun e w' => e = .returned (.bool true) ∧ Below w.heap.size w w' := by
  have HP := Lib.hid hp
  have HL := Lib.hid hr
  obtain ⟨⟨hl, hc, hsm, _⟩, ⟨hl2, hc2, hsm2, _⟩⟩ := hp
  obtain ⟨hll, hlc, hls, _⟩ := hr
  go_enter Try.func4, Try.ntmps4
  go_wp2_with fail
  have BP := Lib.hid (Blk.mk' w 25 #[.slice A p.costs.length c, .slice A2 p.rows.length c2])
  have HBU := Lib.hid ((Below.refl w.heap.size w).alloc (Nat.le_refl _) (.cells #[.slice A p.costs.length c, .slice A2 p.rows.length c2] 25))
  generalize (w.alloc (.cells #[.slice A p.costs.length c, .slice A2 p.rows.length c2] 25)) = U at *
  have zU := HBU.out.size
  have lU := BP.out.lt
  refine (walk_Walk _ _ _ _ _ _ _ _ _ (HP.out.below HBU.out) (HL.out.below HBU.out)).mono ?_
  intro e w1 hw
  obtain ⟨AL, nL, cL, kd, er, rfl, hb1, he, hbad, hgood⟩ := hw.any
  have HE := Lib.hid he
  have HBAD := Lib.hid hbad
  have HGOOD := Lib.hid hgood
  have H1 := Lib.hid hb1
  have z01 := hb1.size
  clear hw he hbad hgood hb1
  go_wp2_with fail
  have hb6 : Below w1.heap.size w1
    (
      (((((w1.alloc (.cells #[.int .i64 5] 2)).alloc (.cells #[.int .i64 2] 2)).alloc (.cells #[.slice (some ⟨w1.heap.size + 1, 0, none⟩) 1 1, .int .i64 3] 36)).alloc (.cells #[.slice (some ⟨w1.heap.size, 0, none⟩) 1 1, .slice (some ⟨w1.heap.size + 1 + 1, 0, none⟩) 1 1] 25)).alloc (.cells #[.int .i64 1] 3))
    ) := (by iterate 5 refine Below.alloc ?_ (by first | (simp; done) | (simp; omega)) _
             exact Below.refl _ _)
  have r1 : Rd
    (
      (((((w1.alloc (.cells #[.int .i64 5] 2)).alloc (.cells #[.int .i64 2] 2)).alloc (.cells #[.slice (some ⟨w1.heap.size + 1, 0, none⟩) 1 1, .int .i64 3] 36)).alloc (.cells #[.slice (some ⟨w1.heap.size, 0, none⟩) 1 1, .slice (some ⟨w1.heap.size + 1 + 1, 0, none⟩) 1 1] 25)).alloc (.cells #[.int .i64 1] 3))
    ) (some ⟨w1.heap.size, 0, none⟩) 1 [5] := ((((Rd.new1 _ _ _ _ (by simp)).alloc _).alloc _).alloc _).alloc _
  have r2 : Rd
    (
      (((((w1.alloc (.cells #[.int .i64 5] 2)).alloc (.cells #[.int .i64 2] 2)).alloc (.cells #[.slice (some ⟨w1.heap.size + 1, 0, none⟩) 1 1, .int .i64 3] 36)).alloc (.cells #[.slice (some ⟨w1.heap.size, 0, none⟩) 1 1, .slice (some ⟨w1.heap.size + 1 + 1, 0, none⟩) 1 1] 25)).alloc (.cells #[.int .i64 1] 3))
    ) (some ⟨w1.heap.size + 1, 0, none⟩) 1 [2] := (((Rd.new1 _ _ _ _ (by simp)).alloc _).alloc _).alloc _
  have r0 : Rd
    (
      (((((w1.alloc (.cells #[.int .i64 5] 2)).alloc (.cells #[.int .i64 2] 2)).alloc (.cells #[.slice (some ⟨w1.heap.size + 1, 0, none⟩) 1 1, .int .i64 3] 36)).alloc (.cells #[.slice (some ⟨w1.heap.size, 0, none⟩) 1 1, .slice (some ⟨w1.heap.size + 1 + 1, 0, none⟩) 1 1] 25)).alloc (.cells #[.int .i64 1] 3))
    ) (some ⟨w1.heap.size + 1 + 1 + 1 + 1, 0, none⟩) 1 [1] := Rd.new1 _ _ _ _ (by simp)
  have rB : Blk
    (
      (((((w1.alloc (.cells #[.int .i64 5] 2)).alloc (.cells #[.int .i64 2] 2)).alloc (.cells #[.slice (some ⟨w1.heap.size + 1, 0, none⟩) 1 1, .int .i64 3] 36)).alloc (.cells #[.slice (some ⟨w1.heap.size, 0, none⟩) 1 1, .slice (some ⟨w1.heap.size + 1 + 1, 0, none⟩) 1 1] 25)).alloc (.cells #[.int .i64 1] 3))
    ) (w1.heap.size + 1 + 1) 36 #[.slice (some ⟨w1.heap.size + 1, 0, none⟩) 1 1, .int .i64 3] := ((Blk.new _ _ _ _ (by simp)).alloc _).alloc _
  generalize
    (
      (((((w1.alloc (.cells #[.int .i64 5] 2)).alloc (.cells #[.int .i64 2] 2)).alloc (.cells #[.slice (some ⟨w1.heap.size + 1, 0, none⟩) 1 1, .int .i64 3] 36)).alloc (.cells #[.slice (some ⟨w1.heap.size, 0, none⟩) 1 1, .slice (some ⟨w1.heap.size + 1 + 1, 0, none⟩) 1 1] 25)).alloc (.cells #[.int .i64 1] 3))
    ) = WK at *
  refine (known_walk _ _ _ _ WK r1 r2 (rB.cell 0) (rB.cell 1) r0).mono ?_
  rintro e w2 ⟨kA, kc, kk, ke, rfl, hb2⟩
  have H12 := Lib.hid (hb6.trans (hb2.mono hb6.size))
  have HB2 := Lib.hid (HBU.out.trans ((H1.out.trans (H12.out.mono z01)).mono zU))
  have z12 := H12.out.size
  clear r1 r2 r0 rB hb2 hb6
  by_cases h0 : er = 0
  · obtain ⟨k, lk, rfl, hEnd, hkd, hLs⟩ := HGOOD.out h0
    subst h0
    have HEND := Lib.hid hEnd
    have HKD := Lib.hid hkd
    have HLs := Lib.hid (hLs.below (H12.out))
    have HOK := Lib.hid (nextE_ok HE.out.symm)
    have hk256 := wk_fewer HOK.out hEnd.at_
    have hlsc : k + 1 ≤ cL := by have := hLs.le; rw [wkL_len] at this; exact this
    have hlcc := hLs.cap
    clear hEnd hkd hLs HBAD HGOOD
    go_wp2_with fail
    have BF := Lib.hid (Blk.mk' w2 38 #[.int .i64 0, .int .i64 0])
    have HV := Lib.hid ((Below.refl w2.heap.size w2).alloc (Nat.le_refl _) (.cells #[.int .i64 0, .int .i64 0] 38))
    generalize (w2.alloc (.cells #[.int .i64 0, .int .i64 0] 38)) = V at *
    go_loopw [13] (fun i wx => ∃ (j : Nat) (ln ld : Int), j ≤ k + 1 ∧ i = .int .i64 j ∧ Blk wx w2.heap.size 38 #[.int .i64 ln, .int .i64 ld] ∧
      Hid (∀ q lq, j = q + 1 → wk p (nats l) q = some lq → ln = frN (valN p lq) (lookN p lq).xd ∧ ld = ptD [valN p lq] (lookN p lq).xd) ∧ Below w2.heap.size w2 wx) (fun i _ => k + 1 - (intOf i).toNat)
    case atStart => exact ⟨0, 0, 0, by omega, rfl, BF.out, Lib.hid fun q lq e => by omega, HV.out⟩
    case round =>
      obtain ⟨j, ln, ld, hj, rfl, hbk, hlast, hbel⟩ := hrel
      rename World => U1
      have BF1 := Lib.hid hbk
      have HU1 := Lib.hid hbel
      have zU1 := hbel.size
      have HBW := Lib.hid (HB2.out.trans (hbel.mono HB2.out.size))
      clear hbk hbel
      by_cases hlt : j < k + 1
      · obtain ⟨lj, hlj⟩ := wk_some (p := p) (l := nats l) (n := k) (by rw [HEND.out.at_]; simp) (i := j) (by omega)
        have HLJ := Lib.hid hlj
        have HOJ := Lib.hid (wk_ok HOK.out hlj)
        have hcl := (HLs.out.below HU1.out).at_ (k := j) (by rw [wkL_len]; exact hlt)
        rw [wkL_at _ _ hlt, hlj, Option.getD_some, ints_len'] at hcl
        obtain ⟨ad, A', c', rfl, hcell, hRd⟩ := hcl
        have hal := World.block_lt_of_cell? _ _ hcell
        have HRd := Lib.hid hRd
        have hi0 : (j : Int) < ((k + 1 : Nat) : Int) := by omega
        have hi1 : (j : Int) < (k : Int) + 1 := by omega
        have HCE := Lib.hid (ok_look HOJ.out)
        obtain ⟨_, _, _, hcc⟩ := corn_of HOJ.out.hp HOJ.out.hr HOJ.out.hd
        obtain ⟨cc, hC⟩ : ∃ cc, lookN p lj = cc := ⟨_, rfl⟩
        rw [hC] at hcc
        have HC := Lib.hid hC
        have HCC := Lib.hid hcc
        have b0 : U1.cell? ⟨w.heap.size, 0, none⟩ = some (.slice A p.costs.length c) := (BP.out.next (H1.out.trans ((H12.out.trans (HU1.out.mono z12)).mono z01))).cell 0
        have b1 : U1.cell? ⟨w.heap.size, 1, none⟩ = some (.slice A2 p.rows.length c2) := (BP.out.next (H1.out.trans ((H12.out.trans (HU1.out.mono z12)).mono z01))).cell 1
        have a0 : ∀ o, (U1.alloc o).cell? ⟨w.heap.size, 0, none⟩ = some (.slice A p.costs.length c) := fun o => (((Below.refl U1.heap.size U1).alloc (Nat.le_refl _) o).cell (World.block_lt_of_cell? _ _ b0)).trans b0
        have a1 : ∀ o, (U1.alloc o).cell? ⟨w.heap.size, 1, none⟩ = some (.slice A2 p.rows.length c2) := fun o => (((Below.refl U1.heap.size U1).alloc (Nat.le_refl _) o).cell (World.block_lt_of_cell? _ _ b1)).trans b1
        have a2 : ∀ o, (U1.alloc o).cell? (ad.add j) = some (.slice A' lj.length c') := fun o => (((Below.refl U1.heap.size U1).alloc (Nat.le_refl _) o).cell hal).trans hcell
        clear hlj hRd hC hcc
        have HLK := Lib.hid (show ∀ u : World, Below U1.heap.size U1 u → Calls Try.prog 13 #[.agg #[.slice A p.costs.length c, .slice A2 p.rows.length c2], .slice A' lj.length c'] u (RetCv u cc (.int .i64 0)) from fun u hu => by
          have := corner_Look A c A2 c2 p A' (ints lj) c' u ((HP.out.below HBW.out).below hu) (HRd.out.below hu)
          rw [HCE.out, ints_len', show lookC p (ints lj) = cc from HC.out] at this
          exact this)
        have hx2 : 2 ≤ cc.xs.length := by rw [HCC.out.lx]; have := mayPB_iff.1 HCC.out.hp; omega
        have HX2 := Lib.hid hx2
        clear hx2
        go_upto_region 12 with fail
        go_cut [14, 15] (fun s14 s15 wx => CutC U1 cc (.int .i64 0) s14 s15 wx)
        case first =>
          go_region_law (refine step_callCv (f := 13) rfl (by go_simp; done) (HLK.out _ (by first | exact (Below.refl _ _).drew | exact (Below.refl _ _).drew.alloc (Nat.le_refl _) _)) ?_; intro X cx Y cy G cg w5 hX5 hb5; try (have Bq : Blk w5 (U1).heap.size 42 #[.slice none 0 0, .int .i64 0, .slice none 0 0, .int .i64 0, .slice none 0 0, .int .i64 0] := (by first | exact Blk.next (Blk.mk' _ _ _) hb5 | exact Blk.next ((Blk.mk' _ _ _).drew) hb5); have e0 : (w5).cell? ⟨(U1).heap.size, 0, none⟩ = some (Value.slice none 0 0) := Bq.cell 0; have f0 : (w5).frozen? ⟨(U1).heap.size, 0, none⟩ = false := Bq.frozen 0; have e1 : (w5).cell? ⟨(U1).heap.size, 1, none⟩ = some (Value.int .i64 0) := Bq.cell 1; have f1 : (w5).frozen? ⟨(U1).heap.size, 1, none⟩ = false := Bq.frozen 1; have e2 : (w5).cell? ⟨(U1).heap.size, 2, none⟩ = some (Value.slice none 0 0) := Bq.cell 2; have f2 : (w5).frozen? ⟨(U1).heap.size, 2, none⟩ = false := Bq.frozen 2; have e3 : (w5).cell? ⟨(U1).heap.size, 3, none⟩ = some (Value.int .i64 0) := Bq.cell 3; have f3 : (w5).frozen? ⟨(U1).heap.size, 3, none⟩ = false := Bq.frozen 3; have e4 : (w5).cell? ⟨(U1).heap.size, 4, none⟩ = some (Value.slice none 0 0) := Bq.cell 4; have f4 : (w5).frozen? ⟨(U1).heap.size, 4, none⟩ = false := Bq.frozen 4; have e5 : (w5).cell? ⟨(U1).heap.size, 5, none⟩ = some (Value.int .i64 0) := Bq.cell 5; have f5 : (w5).frozen? ⟨(U1).heap.size, 5, none⟩ = false := Bq.frozen 5))
          all_goals go_wp2_with fail
          all_goals go_meet
          all_goals first
            | have hq := Bq; exact cutC (Nat.le_refl _) hq hX5 (hX5.not_box HX2.out Bq) (Below.trans (B := U1.heap.size) (by first | exact (Below.refl _ _).drew.alloc (Nat.le_refl _) _) (hb5.mono (by simp)))
            | exact cutC_after hX5 HX2.out (Below.trans (B := U1.heap.size) (Below.refl _ _).drew hb5)
        case rest =>
          obtain ⟨bq, X, cx, Y, cy, G, cg, rfl, rfl, hbq, hBq, hXq, hbelq⟩ := hcut
          rename World => U2
          have HBQ := Lib.hid hBq
          have HXQ := Lib.hid hXq
          have HQ := Lib.hid hbelq
          have zQ := hbelq.size
          have lbq := hBq.lt
          have HP2 := Lib.hid (HP.out.below (HBW.out.trans (hbelq.mono HBW.out.size)))
          have HBP2 := Lib.hid ((BP.out.next (H1.out.trans ((H12.out.trans (HU1.out.mono z12)).mono z01))).next hbelq)
          have HB2' := Lib.hid (HBW.out.trans (hbelq.mono HBW.out.size))
          have lb12 := BF1.out.lt
          have HF2 := Lib.hid (BF1.out.next hbelq)
          clear hBq hXq hbelq b0 b1 a0 a1 a2 hcell hal
          have v0 : U2.cell? ⟨bq, 0, none⟩ = some (.slice X cc.xs.length cx) := HBQ.out.cell 0
          have v1 : U2.cell? ⟨bq, 1, none⟩ = some (.int .i64 cc.xd) := HBQ.out.cell 1
          have p0 : U2.cell? ⟨w.heap.size, 0, none⟩ = some (.slice A p.costs.length c) := HBP2.out.cell 0
          have HAB := Lib.hid (show nonneg cc.xs = true by have := HOJ.out.hx; rw [HC.out] at this; exact this)
          have hlx : cc.xs.length = p.costs.length + p.rows.length := HCC.out.lx
          have HLX := Lib.hid hlx
          clear hlx
          go_wp2_with fail
          refine (ref3_Above _ _ _ _ _ HXQ.out).mono ?_
          rintro e w3 ⟨rfl, hb3⟩
          rw [HAB.out]
          have H3 := Lib.hid hb3
          have z03 := hb3.size
          have w3v0 : w3.cell? ⟨bq, 0, none⟩ = some (.slice X cc.xs.length cx) := (HBQ.out.next hb3).cell 0
          have w3v1 : w3.cell? ⟨bq, 1, none⟩ = some (.int .i64 cc.xd) := (HBQ.out.next hb3).cell 1
          have w3p0 : w3.cell? ⟨w.heap.size, 0, none⟩ = some (.slice A p.costs.length c) := (HBP2.out.next hb3).cell 0
          rw [HLX.out] at w3v0
          clear v0 v1 p0 hb3
          have hnl : ¬ ((p.costs.length : Int) + (p.rows.length : Int) < (p.costs.length : Int)) := by omega
          have hX3 := HXQ.out.below H3.out
          obtain ⟨ax, rfl, _⟩ := hX3.getD_at (k := 0) (by rw [HLX.out]; have := mayPB_iff.1 HCC.out.hp; omega)
          obtain ⟨htk, htl⟩ := hX3.takeW p.costs.length (by rw [HLX.out]; omega)
          have HXS := Lib.hid (mayB_parts HCC.out.mx).2.2.1
          have hTS : smallB 1073741824 (cc.xs.take p.costs.length) = true := smallB_iff.2 fun n hn => smallB_mem HXS.out (List.mem_of_mem_take hn)
          have g5 := (mayPB_iff.1 HCC.out.hp).2.2.2.2.1
          have hn4 := (mayPB_iff.1 HCC.out.hp).2.1
          have HPC := Lib.hid (HP2.out.costs.below H3.out)
          have HD := Lib.hid (show ∀ u : World, Below w3.heap.size w3 u → Calls Try.prog 16 #[.slice A p.costs.length c, .slice (some ax) p.costs.length cx] u fun e w' => e = .returned (.int .i64 (dot p.costs (cc.xs.take p.costs.length))) ∧ Below u.heap.size u w' from fun u hu => by
            have := ref2_Dot A p.costs c (some ax) (cc.xs.take p.costs.length) cx 400 1073741824 u (HPC.out.below hu) (htk.below hu) (by rw [htl]; exact Nat.le_refl _) (by omega) (by omega) g5 hTS (by omega)
            rw [htl] at this
            exact this.mono fun e w' ⟨h1, n, h2⟩ => ⟨h1, by rw [h2]; exact below_drewN (Below.refl _ _) n⟩)
          have HVN := Lib.hid (show dot p.costs (cc.xs.take p.costs.length) = valN p lj by unfold valN; rw [HC.out])
          have hi6 : p.costs.length ≤ cx := by have := htk.le; rw [htl] at this; exact this
          have hxc := htk.cap
          clear htk htl hTS g5 hX3
          generalize dot p.costs (cc.xs.take p.costs.length) = dv at *
          have SK := Lib.hid (show ∀ w', Below w3.heap.size w3 w' → (w'.cell? ⟨bq, 0, none⟩ = some (.slice (some ax) (p.costs.length + p.rows.length) cx) ∧ w'.cell? ⟨bq, 1, none⟩ = some (.int .i64 cc.xd) ∧ w'.cell? ⟨w.heap.size, 0, none⟩ = some (.slice A p.costs.length c)) from
            fun w' h => ⟨(h.cell (World.block_lt_of_cell? _ _ w3v0)).trans w3v0, (h.cell (World.block_lt_of_cell? _ _ w3v1)).trans w3v1, (h.cell (World.block_lt_of_cell? _ _ w3p0)).trans w3p0⟩)
          go_upto_region 15 with fail
          go_cut [16] (fun s16 wx => CutF w3 (frN dv cc.xd) (ptD [dv] cc.xd) s16 wx)
          case first =>
            go_region_held3 (fun w' => w'.cell? ⟨bq, 0, none⟩ = some (.slice (some ax) (p.costs.length + p.rows.length) cx) ∧ w'.cell? ⟨bq, 1, none⟩ = some (.int .i64 cc.xd) ∧ w'.cell? ⟨w.heap.size, 0, none⟩ = some (.slice A p.costs.length c))
              ((refine SK.out _ ?_; exact (by (repeat (any_goals (first | exact Below.refl _ _ | exact hbD | exact hbF | refine below_drewN ?_ _ | refine Below.drew ?_ | refine Below.alloc ?_ ?_ _ | refine Below.setCell ?_ ?_ _ | refine Below.trans ?_ (Below.mono hbD ?_) | refine Below.trans ?_ (Below.mono hbF ?_)))); all_goals (first | omega | (simp; done) | (simp; omega) | ((try have z0 := hbD.size); (try simp at z0); (try have z1 := hbF.size); (try simp at z1); (try simp); omega)))))
              (first
                | (go_at_call 16; refine (HD.out _ (by (repeat (any_goals (first | exact Below.refl _ _ | exact hbD | exact hbF | refine below_drewN ?_ _ | refine Below.drew ?_ | refine Below.alloc ?_ ?_ _ | refine Below.setCell ?_ ?_ _ | refine Below.trans ?_ (Below.mono hbD ?_) | refine Below.trans ?_ (Below.mono hbF ?_)))); all_goals (first | omega | (simp; done) | (simp; omega) | ((try have z0 := hbD.size); (try simp at z0); (try have z1 := hbF.size); (try simp at z1); (try simp); omega)))).mono ?_; rintro e wD ⟨rfl, hbD⟩; have BqD : Blk wD w3.heap.size 38 #[.int .i64 0, .int .i64 0] := Blk.next ((Blk.mk' _ _ _).drew) hbD)
                | (go_at_call 16; refine (HD.out _ (by (repeat (any_goals (first | exact Below.refl _ _ | exact hbD | exact hbF | refine below_drewN ?_ _ | refine Below.drew ?_ | refine Below.alloc ?_ ?_ _ | refine Below.setCell ?_ ?_ _ | refine Below.trans ?_ (Below.mono hbD ?_) | refine Below.trans ?_ (Below.mono hbF ?_)))); all_goals (first | omega | (simp; done) | (simp; omega) | ((try have z0 := hbD.size); (try simp at z0); (try have z1 := hbF.size); (try simp at z1); (try simp); omega)))).mono ?_; rintro e wD ⟨rfl, hbD⟩)
                | (go_at_call 15; refine (ref1_Of _ _ _).mono ?_; rintro e wF ⟨rfl, hbF⟩; have m1 : Blk wF wD.heap.size 38 #[.int .i64 0, .int .i64 0] := Blk.next (Blk.mk' _ _ _) hbF; have m2 := m1.two)
                | (go_at_call 15; refine (ref1_Of _ _ _).mono ?_; rintro e wF ⟨rfl, hbF⟩; have m1 : Blk wF w3.heap.size 38 #[.int .i64 0, .int .i64 0] := Blk.next BqD hbF; have m2 := m1.two)
                | (go_at_call 15; refine (ref1_Of _ _ _).mono ?_; rintro e wF ⟨rfl, hbF⟩))
            all_goals go_wp2_with fail
            all_goals go_meet
            · exact cutF_after (((Below.refl w3.heap.size w3).drew.trans hbD).trans (hbF.mono hbD.size))
            · exact cutF hbD.size m1 ((((Below.refl w3.heap.size w3).drew.trans hbD).alloc hbD.size _).trans (hbF.mono (by have := hbD.size; simp at this ⊢; omega)))
            · exact cutF (Nat.le_refl _) m1 (((((Below.refl w3.heap.size w3).alloc (Nat.le_refl _) _).drew).trans (hbD.mono (by simp))).trans (hbF.mono (by have := hbD.size; simp at this; omega)))
          case rest =>
            obtain ⟨b16, rfl, hb16, hblk16, hbel16⟩ := hcut
            rename World => U4
            have HF16 := Lib.hid hblk16
            have l16 := hblk16.lt
            have H4 := Lib.hid (HU1.out.trans ((HQ.out.trans ((H3.out.trans (hbel16.mono z03)).mono zQ)).mono zU1))
            have HF4 := Lib.hid ((HF2.out.next H3.out).next hbel16)
            have z24 := H4.out.size
            have h16 : w2.heap.size < b16 := by omega
            clear hblk16 hbel16 SK w3v0 w3v1 w3p0 HD hnl
            have HN16 := Lib.hid (show frN dv cc.xd = frN (valN p lj) (lookN p lj).xd ∧ ptD [dv] cc.xd = ptD [valN p lj] (lookN p lj).xd by rw [HVN.out, HC.out]; exact ⟨rfl, rfl⟩)
            obtain ⟨⟨hs1, hs2⟩, hs3, hs4⟩ := fr_small dv cc.xd
            have HLAST := Lib.hid hlast.out
            clear hlast
            have e160 : U4.cell? ⟨b16, 0, none⟩ = some (.int .i64 (frN dv cc.xd)) := HF16.out.cell 0
            have e161 : U4.cell? ⟨b16, 1, none⟩ = some (.int .i64 (ptD [dv] cc.xd)) := HF16.out.cell 1
            have e120 : U4.cell? ⟨w2.heap.size, 0, none⟩ = some (.int .i64 ln) := HF4.out.cell 0
            have e121 : U4.cell? ⟨w2.heap.size, 1, none⟩ = some (.int .i64 ld) := HF4.out.cell 1
            have f120 : U4.frozen? ⟨w2.heap.size, 0, none⟩ = false := HF4.out.frozen 0
            have f121 : U4.frozen? ⟨w2.heap.size, 1, none⟩ = false := HF4.out.frozen 1
            have HCMP := Lib.hid (show ∀ q, j = q + 1 → ¬ (frN dv cc.xd * ld - ln * ptD [dv] cc.xd < 0) ∧ ((-1073741824 ≤ ln ∧ ln ≤ 1073741824) ∧ (-1073741824 ≤ ld ∧ ld ≤ 1073741824)) from fun q hq => by
              obtain ⟨lq, hlq⟩ := wk_some (p := p) (l := nats l) (n := k) (by rw [HEND.out.at_]; simp) (i := q) (by omega)
              obtain ⟨e1, e2⟩ := HLAST.out q lq hq hlq
              have hnx : nxtZ p lq = some lj := by
                have := HLJ.out
                rw [hq, wk, hlq] at this
                exact this
              have := cmp_wk (wk_ok HOK.out hlq) hnx
              rw [← HN16.out.1, ← HN16.out.2, ← e1, ← e2] at this
              refine ⟨by unfold cmpZ at this; omega, ?_⟩
              rw [e1, e2]
              exact fr_small _ _)
            generalize frN dv cc.xd = fn at *
            generalize ptD [dv] cc.xd = fd at *
            rcases Nat.eq_zero_or_pos j with hj0 | hj0
            · have hd0 : decide ((0 : Int) < (j : Int)) = false := by simp; omega
              go_wp2_with fail
              go_loopw [17] (fun i wx => ∃ (q : Nat), q ≤ j ∧ i = .int .i64 q ∧ Blk wx w2.heap.size 38 #[.int .i64 fn, .int .i64 fd] ∧ Below w2.heap.size w2 wx) (fun i _ => j - (intOf i).toNat)
              case atStart => exact ⟨0, by omega, rfl, ((HF4.out.set0 0 _).set0 1 _), ((H4.out.setCell (Nat.le_refl _) _).setCell (Nat.le_refl _) _)⟩
              case round =>
                obtain ⟨q, hq, rfl, hbk5, hbel5⟩ := hrel
                rename World => U5
                have BF5 := Lib.hid hbk5
                have HB5 := Lib.hid hbel5
                clear hbk5 hbel5
                by_cases hqj : q < j
                · exfalso; omega
                · obtain rfl : q = j := by omega
                  have hk3 : decide ((q : Int) < (q : Int)) = false := by simp
                  clear hi0 hi1
                  go_wp2_with fail
                  go_roundw
                  case rel =>
                    refine ⟨q + 1, fn, fd, by omega, by go_num, BF5.out, Lib.hid fun a la ea ha => ?_, HB5.out⟩
                    obtain rfl : q = a := by omega
                    obtain rfl : lj = la := by have := HLJ.out; rw [ha] at this; injection this with this; exact this.symm
                    exact HN16.out
                  case measure => simp [intOf]; omega
            · have hd0 : decide ((0 : Int) < (j : Int)) = true := by simp; omega
              obtain ⟨hcn, hb1', hb2'⟩ := HCMP.out (j - 1) (by omega)
              have hcd : decide (fn * ld - ln * fd < 0) = false := by simpa using hcn
              go_wp2_with (go_at_call 17; refine (ref1_Cmp fn fd ln ld _ ⟨hs1, hs2⟩ ⟨hs3, hs4⟩ hb1' hb2').mono ?_; rintro e w8 ⟨rfl, hb8⟩; have HF8 := Lib.hid (HF4.out.next hb8); have HF16' := Lib.hid (HF16.out.next hb8); have H8 := Lib.hid (H4.out.trans (hb8.mono z24)); have e160' : w8.cell? ⟨b16, 0, none⟩ = some (.int .i64 fn) := HF16'.out.cell 0; have e161' : w8.cell? ⟨b16, 1, none⟩ = some (.int .i64 fd) := HF16'.out.cell 1; have f120' : w8.frozen? ⟨w2.heap.size, 0, none⟩ = false := HF8.out.frozen 0; have f121' : w8.frozen? ⟨w2.heap.size, 1, none⟩ = false := HF8.out.frozen 1; have e120' : w8.cell? ⟨w2.heap.size, 0, none⟩ = some (.int .i64 ln) := HF8.out.cell 0; have e121' : w8.cell? ⟨w2.heap.size, 1, none⟩ = some (.int .i64 ld) := HF8.out.cell 1; clear hb8)
              go_loopw [17] (fun i wx => ∃ (q : Nat), q ≤ j ∧ i = .int .i64 q ∧ Blk wx w2.heap.size 38 #[.int .i64 fn, .int .i64 fd] ∧ Below w2.heap.size w2 wx) (fun i _ => j - (intOf i).toNat)
              case atStart => exact ⟨0, by omega, rfl, ((HF8.out.set0 0 _).set0 1 _), ((H8.out.setCell (Nat.le_refl _) _).setCell (Nat.le_refl _) _)⟩
              case round =>
                obtain ⟨q, hq, rfl, hbk5, hbel5⟩ := hrel
                rename World => U5
                have BF5 := Lib.hid hbk5
                have HB5 := Lib.hid hbel5
                clear hbk5 hbel5
                by_cases hqj : q < j
                · obtain ⟨lq, hlq⟩ := wk_some (p := p) (l := nats l) (n := k) (by rw [HEND.out.at_]; simp) (i := q) (by omega)
                  have hne : decide (ints lq = ints lj) = false := by
                    have h1 := wk_once HOK.out hqj hlq HLJ.out
                    simp only [decide_eq_false_iff_not]
                    intro e
                    apply h1
                    rw [← nats_ints lq, e, nats_ints]
                  have hclq := (HLs.out.below HB5.out).at_ (k := q) (by rw [wkL_len]; omega)
                  have hclj := (HLs.out.below HB5.out).at_ (k := j) (by rw [wkL_len]; omega)
                  rw [wkL_at _ _ (by omega), hlq, Option.getD_some, ints_len'] at hclq
                  rw [wkL_at _ _ (by omega), HLJ.out, Option.getD_some, ints_len'] at hclj
                  obtain ⟨ad2, A5, c5, e5, hcell5, hRd5⟩ := hclq
                  injection e5 with e5
                  subst e5
                  obtain ⟨ad3, A6, c6, e6, hcell6, hRd6⟩ := hclj
                  injection e6 with e6
                  subst e6
                  have HR5 := Lib.hid hRd5
                  have HR6 := Lib.hid hRd6
                  have HNE := Lib.hid hne
                  have s5 : ∀ u : Wk U5, u.1.cell? (ad.add q) = some (.slice A5 lq.length c5) := fun u => (u.2.cell (World.block_lt_of_cell? _ _ hcell5)).trans hcell5
                  have s6 : ∀ u : Wk U5, u.1.cell? (ad.add j) = some (.slice A6 lj.length c6) := fun u => (u.2.cell (World.block_lt_of_cell? _ _ hcell6)).trans hcell6
                  have HIN := Lib.hid (show ∀ u : Wk U5, Calls Try.prog 12 #[.slice A5 lq.length c5, .slice A6 lj.length c6] u.1 fun e w' => e = .returned (.bool false) ∧ ∃ n, w' = u.1.drewN n from fun u => by
                    have := ref5_Ints A5 (ints lq) c5 A6 (ints lj) c6 u.1 (HR5.out.below u.2) (HR6.out.below u.2)
                    rw [HNE.out, ints_len', ints_len'] at this
                    exact this)
                  have hk0 : (q : Int) < ((k + 1 : Nat) : Int) := by omega
                  have hk1 : (q : Int) < (k : Int) + 1 := by omega
                  have hk2 : (q : Int) < (j : Int) := by omega
                  have hz5 := HB5.out.size
                  clear hcell5 hcell6 hRd5 hRd6 hne hlq
                  go_wp2_with fail
                  refine wk_region (by kernel_rfl) (by kernel_rfl) ?_
                  repeat (go_big_quiet_step ((go_at_call 12; with_reducible exact wk_quiet (HIN.out _))))
                  refine wpQuiet_nil ?_
                  rintro w7 ⟨u7, rfl⟩
                  clear s5 s6
                  go_wp2_with fail
                  go_roundw
                  case rel => exact ⟨q + 1, by omega, by go_num, BF5.out.next u7.2, HB5.out.trans (u7.2.mono hz5)⟩
                  case measure => simp [intOf]; omega
                · obtain rfl : q = j := by omega
                  have hk3 : decide ((q : Int) < (q : Int)) = false := by simp
                  clear hi0 hi1
                  go_wp2_with fail
                  go_roundw
                  case rel =>
                    refine ⟨q + 1, fn, fd, by omega, by go_num, BF5.out, Lib.hid fun a la ea ha => ?_, HB5.out⟩
                    obtain rfl : q = a := by omega
                    obtain rfl : lj = la := by have := HLJ.out; rw [ha] at this; injection this with this; exact this.symm
                    exact HN16.out
                  case measure => simp [intOf]; omega
      · obtain rfl : j = k + 1 := by omega
        have hz0 : decide (((k + 1 : Nat) : Int) < ((k + 1 : Nat) : Int)) = false := by simp
        have hz1 : decide ((k : Int) + 1 < (k : Int) + 1) = false := by simp
        have hz2 : (0 : Int) < (k : Int) + 1 := by omega
        have hz3 : (0 : Int) < ((k + 1 : Nat) : Int) := by omega
        rcases kind_end HEND.out.no with hk | hk
        · obtain rfl : kd = 1 := HKD.out.trans hk
          go_wp2_with fail
          go_ret
          exact ⟨rfl, HBW.out⟩
        · obtain rfl : kd = 2 := HKD.out.trans hk
          go_wp2_with fail
          go_ret
          exact ⟨rfl, HBW.out⟩
  · obtain ⟨rfl, rfl⟩ := HBAD.out h0
    have hz : (er != 0) = true := by simpa using h0
    clear h0
    go_wp2_with fail
    go_ret
    exact ⟨rfl, HB2.out⟩
end Go.Proofs.Ytjcdkbalhleeeab
