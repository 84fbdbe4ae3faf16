/-
  The walk of the law WalkTells: it returns true. No condition but that its arguments read as a program and columns.
-/
import Derived.Test.YtjcdkbalhleeeabRf5e
import Derived.Test.YtjcdkbalhleeeabRf5b
import Derived.Test.YtjcdkbalhleeeabWlk1
namespace Go.Proofs.Ytjcdkbalhleeeab
open Go.RowKit

set_option maxRecDepth 100000 in
set_option maxHeartbeats 2000000 in
theorem walkTells_bad (A : Option Addr) (c : Nat) (A2 : Option Addr) (c2 : Nat) (p : PG) (L : Option Addr) (l : List Int) (cl : Nat) (w : World) (hp : Pg w A c A2 c2 p) (hr : Rd w L cl l) (he : nextE p l ≠ 0) :
    Calls Try.prog 3 #[.agg #[.slice A p.costs.length c, .slice A2 p.rows.length c2], .slice L l.length cl] w fun e w' => e = .returned (.bool true) ∧ Below w.heap.size w w' := by
  have HE := Lib.hid he
  clear he
  have HP := Lib.hid hp
  have HL := Lib.hid hr
  obtain ⟨⟨hl, hc, hsm, _⟩, ⟨hl2, hc2, hsm2, _⟩⟩ := hp
  obtain ⟨hll, hlc, hls, _⟩ := hr
  go_enter Try.func3, Try.ntmps3
  go_upto_region 1 with fail
  have BP := Lib.hid (Blk.mk' w 25 #[.slice A p.costs.length c, .slice A2 p.rows.length c2])
  have HBU := Lib.hid ((Below.refl w.heap.size w).alloc (Nat.le_refl _) (.cells #[.slice A p.costs.length c, .slice A2 p.rows.length c2] 25))
  generalize (w.alloc (.cells #[.slice A p.costs.length c, .slice A2 p.rows.length c2] 25)) = U at *
  have p0 : U.cell? ⟨w.heap.size, 0, none⟩ = some (.slice A p.costs.length c) := BP.out.cell 0
  have p1 : U.cell? ⟨w.heap.size, 1, none⟩ = some (.slice A2 p.rows.length c2) := BP.out.cell 1
  go_upto_region 1 with fail
  go_wp2_with fail
  refine (walk_Walk A c A2 c2 p L l cl U (HP.out.below HBU.out) (HL.out.below HBU.out)).mono ?_
  rintro e w1 hw1
  have HW1 := Lib.hid hw1
  have H1 := Lib.hid (HBU.out.trans (hw1.1.mono HBU.out.size))
  have a0 := (hw1.1.cell (World.block_lt_of_cell? _ _ p0)).trans p0
  have a1 := (hw1.1.cell (World.block_lt_of_cell? _ _ p1)).trans p1
  clear hw1 p0 p1
  obtain rfl := HW1.out.2.1 HE.out
  go_wp2_with fail
  refine (ref5_Walk A c A2 c2 p L l cl w1 (HP.out.below H1.out) (HL.out.below H1.out)).mono ?_
  rintro e w2 hw2
  obtain rfl := hw2.2.1 HE.out
  have H2 := Lib.hid (H1.out.trans (hw2.1.mono H1.out.size))
  have b0 := (hw2.1.cell (World.block_lt_of_cell? _ _ a0)).trans a0
  have b1 := (hw2.1.cell (World.block_lt_of_cell? _ _ a1)).trans a1
  clear hw2 a0 a1
  go_wp2_with fail
  refine (walk_Next A c A2 c2 p L l cl w2 (HP.out.below H2.out) (HL.out.below H2.out)).mono ?_
  rintro e w3 hw3
  obtain rfl := hw3.2.1 HE.out
  have H3 := Lib.hid (H2.out.trans (hw3.1.mono H2.out.size))
  clear hw3 b0 b1
  have h0 := HE.out
  obtain ⟨er, her⟩ : ∃ er, nextE p l = er := ⟨_, rfl⟩
  rw [her] at h0 ⊢
  clear her HW1
  have hz : (er != 0) = true := by simpa using h0
  go_wp2_with fail
  go_loopw [14] (fun s14 wx => s14 = .int .i64 0 ∧ wx = w3) (fun _ _ => 0)
  case atStart => exact ⟨rfl, rfl⟩
  case round =>
    obtain ⟨rfl, rfl⟩ := hrel
    go_wp2_with fail
    go_ret
    exact ⟨rfl, H3.out⟩
set_option maxRecDepth 100000 in
set_option maxHeartbeats 2000000 in
theorem walkTells_good (A : Option Addr) (c : Nat) (A2 : Option Addr) (c2 : Nat) (p : PG) (L : Option Addr) (l : List Int) (cl : Nat) (w : World) (hp : Pg w A c A2 c2 p) (hr : Rd w L cl l) (he : nextE p l = 0) :
    Calls Try.prog 3 #[.agg #[.slice A p.costs.length c, .slice A2 p.rows.length c2], .slice L l.length cl] w fun e w' => e = .returned (.bool true) ∧ Below w.heap.size w w' := by
  have HE := Lib.hid he
  clear he
  have HP := Lib.hid hp
  have HL := Lib.hid hr
  obtain ⟨⟨hl, hc, hsm, _⟩, ⟨hl2, hc2, hsm2, _⟩⟩ := hp
  obtain ⟨hll, hlc, hls, _⟩ := hr
  go_enter Try.func3, Try.ntmps3
  go_upto_region 1 with fail
  have BP := Lib.hid (Blk.mk' w 25 #[.slice A p.costs.length c, .slice A2 p.rows.length c2])
  have HBU := Lib.hid ((Below.refl w.heap.size w).alloc (Nat.le_refl _) (.cells #[.slice A p.costs.length c, .slice A2 p.rows.length c2] 25))
  generalize (w.alloc (.cells #[.slice A p.costs.length c, .slice A2 p.rows.length c2] 25)) = U at *
  have p0 : U.cell? ⟨w.heap.size, 0, none⟩ = some (.slice A p.costs.length c) := BP.out.cell 0
  have p1 : U.cell? ⟨w.heap.size, 1, none⟩ = some (.slice A2 p.rows.length c2) := BP.out.cell 1
  go_upto_region 1 with fail
  go_wp2_with fail
  refine (walk_Walk A c A2 c2 p L l cl U (HP.out.below HBU.out) (HL.out.below HBU.out)).mono ?_
  rintro e w1 hw1
  have HW1 := Lib.hid hw1
  have H1 := Lib.hid (HBU.out.trans (hw1.1.mono HBU.out.size))
  have a0 := (hw1.1.cell (World.block_lt_of_cell? _ _ p0)).trans p0
  have a1 := (hw1.1.cell (World.block_lt_of_cell? _ _ p1)).trans p1
  clear hw1 p0 p1
  obtain ⟨k, lk, A1, c1, hE1, rfl, hl1⟩ := HW1.out.2.2 HE.out
  have HEND := Lib.hid hE1
  have HLA := Lib.hid hl1
  clear HW1 hE1 hl1
  have hlen : (wkL p (nats l) (k + 1)).length = k + 1 := wkL_len _ _ _
  have hac := HLA.out.le
  have hacc := HLA.out.cap
  have hks := HLA.out.small
  rw [hlen] at hac hks
  obtain ⟨kd, hkd⟩ : ∃ kd, kindZ p lk = kd := ⟨_, rfl⟩
  rw [hkd]
  go_wp2_with fail
  refine (ref5_Walk A c A2 c2 p L l cl w1 (HP.out.below H1.out) (HL.out.below H1.out)).mono ?_
  rintro e w2 hw2
  obtain ⟨k2, lk2, A3, c3, hE2, rfl, hl2'⟩ := hw2.2.2 HE.out
  obtain ⟨rfl, rfl⟩ := HEND.out.uniq hE2
  rw [hkd]
  have HKD := Lib.hid hkd
  have HLC := Lib.hid hl2'
  have hbc := HLC.out.le
  have hbcc := HLC.out.cap
  rw [hlen] at hbc
  have H12 := Lib.hid hw2.1
  have H2 := Lib.hid (H1.out.trans (hw2.1.mono H1.out.size))
  have b0 := (hw2.1.cell (World.block_lt_of_cell? _ _ a0)).trans a0
  have b1 := (hw2.1.cell (World.block_lt_of_cell? _ _ a1)).trans a1
  clear hw2 a0 a1 hE2 hl2' hkd
  go_wp2_with fail
  refine (walk_Next A c A2 c2 p L l cl w2 (HP.out.below H2.out) (HL.out.below H2.out)).mono ?_
  rintro e w3 hw3
  have H23 := Lib.hid hw3.1
  have H3 := Lib.hid (H2.out.trans (hw3.1.mono H2.out.size))
  have HN3 := Lib.hid (hw3.2.2 HE.out)
  have HLA3 := Lib.hid ((HLA.out.below H12.out).below H23.out)
  have HLC3 := Lib.hid (HLC.out.below H23.out)
  obtain ⟨ada, _, _, rfl, _, _⟩ := HLA3.out.at_ (k := 0) (by rw [hlen]; omega)
  obtain ⟨adc, _, _, rfl, _, _⟩ := HLC3.out.at_ (k := 0) (by rw [hlen]; omega)
  clear hw3 b0 b1 HLA HLC
  by_cases hk : k = 0
  · have hlk : lk = nats l := by have := HEND.out.at_; rw [hk] at this; simp [wk] at this; exact this.symm
    obtain rfl := HN3.out.1 (hlk ▸ HEND.out.no)
    rw [← hlk, HKD.out]
    clear hlk
    go_wp2_with fail
    go_loopw [14] (fun s14 wx => ∃ i : Nat, i ≤ k + 1 ∧ s14 = .int .i64 i ∧ Below w3.heap.size w3 wx) (fun s14 _ => k + 1 - (intOf s14).toNat)
    case atStart => exact ⟨0, by omega, rfl, Below.refl _ _⟩
    case round =>
      obtain ⟨i, hi, rfl, hbel⟩ := hrel
      rename World => U5
      have HB5 := Lib.hid hbel
      have z5 := hbel.size
      clear hbel
      by_cases hlt : i < k + 1
      · have hcA := (HLA3.out.below HB5.out).at_ (k := i) (by rw [hlen]; exact hlt)
        have hcC := (HLC3.out.below HB5.out).at_ (k := i) (by rw [hlen]; exact hlt)
        obtain ⟨_, A5, c5, e5, hcell5, hRd5⟩ := hcA
        injection e5 with e5
        subst e5
        obtain ⟨_, A6, c6, e6, hcell6, hRd6⟩ := hcC
        injection e6 with e6
        subst e6
        have HR5 := Lib.hid hRd5
        have HR6 := Lib.hid hRd6
        obtain ⟨li, hli⟩ : ∃ li, (wkL p (nats l) (k + 1)).getD i [] = li := ⟨_, rfl⟩
        rw [hli] at hcell5 hcell6 HR5 HR6
        have s5 : ∀ u : Wk U5, u.1.cell? (ada.add i) = some (.slice A5 li.length c5) := fun u => (u.2.cell (World.block_lt_of_cell? _ _ hcell5)).trans hcell5
        have s6 : ∀ u : Wk U5, u.1.cell? (adc.add i) = some (.slice A6 li.length c6) := fun u => (u.2.cell (World.block_lt_of_cell? _ _ hcell6)).trans hcell6
        have HIN := Lib.hid (show ∀ u : Wk U5, Calls Try.prog 12 #[.slice A5 li.length c5, .slice A6 li.length c6] u.1 fun e w' => e = .returned (.bool true) ∧ ∃ n, w' = u.1.drewN n from fun u => by
          have := ref5_Ints A5 li c5 A6 li c6 u.1 (HR5.out.below u.2) (HR6.out.below u.2)
          rw [show decide (li = li) = true from by simp] at this
          exact this)
        have hk0 : (i : Int) < ((k + 1 : Nat) : Int) := by omega
        have hk1 : (i : Int) < (k : Int) + 1 := by omega
        clear hcell5 hcell6 hRd5 hRd6 hli
        go_wp2_with fail
        refine wk_region (by kernel_rfl) (by kernel_rfl) ?_
        repeat (go_big_quiet_step ((go_at_call 12; with_reducible exact wk_quiet (HIN.out _))))
        refine wpQuiet_nil ?_
        rintro w7 ⟨u7, rfl⟩
        clear s5 s6
        go_wp2_with fail
        go_roundw
        case rel => exact ⟨i + 1, by omega, by go_num, HB5.out.trans (u7.2.mono z5)⟩
        case measure => simp [intOf]; omega
      · obtain rfl : i = k + 1 := by omega
        have hk3 : ((k : Int) + 1 == 1) = true := by simp; omega
        have hk4 : (((k + 1 : Nat) : Int) == 1) = true := by simp; omega
        go_wp2_with fail
        go_ret
        exact ⟨rfl, H3.out.trans (HB5.out.mono H3.out.size)⟩
  · obtain ⟨l1, hl1⟩ := wk_some (p := p) (l := nats l) (n := k) (by rw [HEND.out.at_]; simp) (i := 1) (by omega)
    obtain ⟨g, cap, rfl, hown⟩ := HN3.out.2 l1 (by simpa [wk] using hl1)
    have HL1 := Lib.hid hl1
    have HOWN := Lib.hid hown
    clear hl1 hown
    go_wp2_with fail
    go_loopw [14] (fun s14 wx => ∃ i : Nat, i ≤ k + 1 ∧ s14 = .int .i64 i ∧ Below w3.heap.size w3 wx) (fun s14 _ => k + 1 - (intOf s14).toNat)
    case atStart => exact ⟨0, by omega, rfl, Below.refl _ _⟩
    case round =>
      obtain ⟨i, hi, rfl, hbel⟩ := hrel
      rename World => U5
      have HB5 := Lib.hid hbel
      have z5 := hbel.size
      clear hbel
      by_cases hlt : i < k + 1
      · have hcA := (HLA3.out.below HB5.out).at_ (k := i) (by rw [hlen]; exact hlt)
        have hcC := (HLC3.out.below HB5.out).at_ (k := i) (by rw [hlen]; exact hlt)
        obtain ⟨_, A5, c5, e5, hcell5, hRd5⟩ := hcA
        injection e5 with e5
        subst e5
        obtain ⟨_, A6, c6, e6, hcell6, hRd6⟩ := hcC
        injection e6 with e6
        subst e6
        have HR5 := Lib.hid hRd5
        have HR6 := Lib.hid hRd6
        obtain ⟨li, hli⟩ : ∃ li, (wkL p (nats l) (k + 1)).getD i [] = li := ⟨_, rfl⟩
        rw [hli] at hcell5 hcell6 HR5 HR6
        have s5 : ∀ u : Wk U5, u.1.cell? (ada.add i) = some (.slice A5 li.length c5) := fun u => (u.2.cell (World.block_lt_of_cell? _ _ hcell5)).trans hcell5
        have s6 : ∀ u : Wk U5, u.1.cell? (adc.add i) = some (.slice A6 li.length c6) := fun u => (u.2.cell (World.block_lt_of_cell? _ _ hcell6)).trans hcell6
        have HIN := Lib.hid (show ∀ u : Wk U5, Calls Try.prog 12 #[.slice A5 li.length c5, .slice A6 li.length c6] u.1 fun e w' => e = .returned (.bool true) ∧ ∃ n, w' = u.1.drewN n from fun u => by
          have := ref5_Ints A5 li c5 A6 li c6 u.1 (HR5.out.below u.2) (HR6.out.below u.2)
          rw [show decide (li = li) = true from by simp] at this
          exact this)
        have hk0 : (i : Int) < ((k + 1 : Nat) : Int) := by omega
        have hk1 : (i : Int) < (k : Int) + 1 := by omega
        clear hcell5 hcell6 hRd5 hRd6 hli
        go_wp2_with fail
        refine wk_region (by kernel_rfl) (by kernel_rfl) ?_
        repeat (go_big_quiet_step ((go_at_call 12; with_reducible exact wk_quiet (HIN.out _))))
        refine wpQuiet_nil ?_
        rintro w7 ⟨u7, rfl⟩
        clear s5 s6
        go_wp2_with fail
        go_roundw
        case rel => exact ⟨i + 1, by omega, by go_num, HB5.out.trans (u7.2.mono z5)⟩
        case measure => simp [intOf]; omega
      · obtain rfl : i = k + 1 := by omega
        have hcC := (HLC3.out.below HB5.out).at_ (k := 1) (by rw [hlen]; omega)
        obtain ⟨_, A6, c6, e6, hcell6, hRd6⟩ := hcC
        injection e6 with e6
        subst e6
        rw [wkL_at _ _ (by omega), HL1.out, Option.getD_some, ints_len] at hcell6
        rw [wkL_at _ _ (by omega), HL1.out, Option.getD_some] at hRd6
        have HR6 := Lib.hid hRd6
        have hl6 : l1.length ≤ 17592186044416 := by have := hRd6.small; rw [ints_len] at this; omega
        have HRN := Lib.hid (show Rd U5 (some ⟨g, 0, none⟩) cap (ints l1) from (Rd.of_own (base := w2.heap.size) (e := 3) (by rw [ints_len]; exact HOWN.out) (by rw [ints_len]; omega)).below HB5.out)
        have HIN := Lib.hid (show ∀ u : World, Below U5.heap.size U5 u → Calls Try.prog 12 #[.slice (some ⟨g, 0, none⟩) l1.length cap, .slice A6 l1.length c6] u fun e w' => e = .returned (.bool true) ∧ ∃ n, w' = u.drewN n from fun u hu => by
          have := ref5_Ints (some ⟨g, 0, none⟩) (ints l1) cap A6 (ints l1) c6 u (HRN.out.below hu) (HR6.out.below hu)
          rw [show decide (ints l1 = ints l1) = true from by simp, ints_len] at this
          exact this)
        have hk1 : (1 : Int) < ((k + 1 : Nat) : Int) := by omega
        have hk2 : (1 : Int) < (k : Int) + 1 := by omega
        have hk3 : ((k : Int) + 1 == 1) = false := by simp; omega
        have hk4 : (((k + 1 : Nat) : Int) == 1) = false := by simp; omega
        have hcell7 : U5.cell? ⟨adc.block, adc.off + 1, none⟩ = some (.slice A6 l1.length c6) := hcell6
        clear hRd6 hcell6
        go_wp2_with (go_at_call 12; refine (HIN.out _ (Below.refl _ _)).mono ?_; rintro e w7 ⟨rfl, n7, rfl⟩)
        go_ret
        exact ⟨rfl, below_drewN (H3.out.trans (HB5.out.mono H3.out.size)) _⟩
theorem walkTells_walk (A : Option Addr) (c : Nat) (A2 : Option Addr) (c2 : Nat) (p : PG) (L : Option Addr) (l : List Int) (cl : Nat) (w : World) (hp : Pg w A c A2 c2 p) (hr : Rd w L cl l) :
    Calls Try.prog 3 #[.agg #[.slice A p.costs.length c, .slice A2 p.rows.length c2], .slice L l.length cl] w fun e w' => e = .returned (.bool true) ∧ Below w.heap.size w w' := by
  by_cases he : nextE p l = 0
  · exact walkTells_good A c A2 c2 p L l cl w hp hr he
  · exact walkTells_bad A c A2 c2 p L l cl w hp hr he
end Go.Proofs.Ytjcdkbalhleeeab
