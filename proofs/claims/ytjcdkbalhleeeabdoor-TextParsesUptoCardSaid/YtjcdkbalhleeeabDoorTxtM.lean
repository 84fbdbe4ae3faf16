/-
  Walked: the document's nums and Same, at numbers and programs that are the same. No condition.
-/
import Derived.Test.YtjcdkbalhleeeabDoorMemP
import Derived.Lib.Hide
import Derived.RegionTactic
import Derived.BigRegion
import Derived.BigQuiet
import Derived.Deep.QuietTactic
import Derived.Deep.DeepCutAuto
namespace Go.Proofs.YtjcdkbalhleeeabDoor
open Go.RowKit

set_option maxRecDepth 100000 in
theorem ref9_nums (A : Option Addr) (a : List Int) (ca : Nat) (B : Option Addr) (cb : Nat) (w : World) (ha : Rd w A ca a) (hb : Rd w B cb a) :
    Calls Tryd.prog 26 #[.slice A a.length ca, .slice B a.length cb] w fun e w' => e = .returned (.bool true) ∧ ∃ n, w' = w.drewN n := by
  have HA := Lib.hid ha
  have HB := Lib.hid hb
  obtain ⟨hal, hac, hns, _⟩ := ha
  obtain ⟨hbl, hbc, _, _⟩ := hb
  go_enter Tryd.func26, Tryd.ntmps26
  go_wp2_with fail
  go_loopw [5] (fun i wx => ∃ k m : Nat, k ≤ a.length ∧ i = .int .i64 k ∧ wx = w.drewN m) (fun i _ => a.length - (intOf i).toNat)
  case atStart => exact ⟨0, 0, by omega, rfl, rfl⟩
  case round =>
    obtain ⟨k, m, hk, rfl, rfl⟩ := hrel
    by_cases hlt : k < a.length
    · obtain ⟨aa, rfl, hca⟩ := HA.out.at_ hlt
      obtain ⟨ab, rfl, hcb⟩ := HB.out.at_ hlt
      have hi0 : (k : Int) < (a.length : Int) := by omega
      generalize a[k] = x at *
      go_wp2_with fail
      go_quiet (fail)
      go_wp2_with fail
      go_roundw
      case rel => exact ⟨k + 1, _, by omega, by go_num, by first | rfl | (rw [World.drewN_drewN])⟩
      case measure => simp [intOf]; omega
    · obtain rfl : k = a.length := by omega
      have hi0 : decide ((a.length : Int) < (a.length : Int)) = false := by simp
      go_wp2_with fail
      go_ret
      exact ⟨rfl, m, rfl⟩

set_option maxRecDepth 100000 in
set_option maxHeartbeats 2000000 in
theorem ref9_Same (A : Option Addr) (c : Nat) (A2 : Option Addr) (c2 : Nat) (B : Option Addr) (d : Nat) (B2 : Option Addr) (d2 : Nat) (p : PG) (w : World) (hp : Pg w A c A2 c2 p) (hq : Pg w B d B2 d2 p) :
    Calls Tryd.prog 12 #[.agg #[.slice A p.costs.length c, .slice A2 p.rows.length c2], .agg #[.slice B p.costs.length d, .slice B2 p.rows.length d2]] w fun e w' => e = .returned (.bool true) ∧ Below w.heap.size w w' := by
  have HP := Lib.hid hp
  have HQ := Lib.hid hq
  obtain ⟨⟨hl, hc, hsm, _⟩, ⟨hl2, hc2, hsm2, _⟩⟩ := hp
  obtain ⟨⟨hl', hc', _, _⟩, ⟨hl2', hc2', _, _⟩⟩ := hq
  go_enter Tryd.func12, Tryd.ntmps12
  have B1 := Lib.hid ((Blk.mk' w 25 #[.slice A p.costs.length c, .slice A2 p.rows.length c2]).alloc (.cells #[.slice B p.costs.length d, .slice B2 p.rows.length d2] 25))
  have B2' := Lib.hid (Blk.new (w.alloc (.cells #[.slice A p.costs.length c, .slice A2 p.rows.length c2] 25)) 25 #[.slice B p.costs.length d, .slice B2 p.rows.length d2] (w.heap.size + 1) (by simp))
  have HU := Lib.hid (((Below.refl w.heap.size w).alloc (Nat.le_refl _) (.cells #[.slice A p.costs.length c, .slice A2 p.rows.length c2] 25)).alloc (by simp) (.cells #[.slice B p.costs.length d, .slice B2 p.rows.length d2] 25))
  go_upto_region 1 with fail
  generalize ((w.alloc (.cells #[.slice A p.costs.length c, .slice A2 p.rows.length c2] 25)).alloc (.cells #[.slice B p.costs.length d, .slice B2 p.rows.length d2] 25)) = U at *
  have zU := HU.out.size
  have b0 := B1.out.cell 0
  have b1 := B1.out.cell 1
  have d0 := B2'.out.cell 0
  have d1 := B2'.out.cell 1
  simp at b0 b1 d0 d1
  have HN := Lib.hid (ref9_nums A p.costs c B d U (HP.out.costs.below HU.out) (HQ.out.costs.below HU.out))
  go_wp2_with (go_at_call 26; refine HN.out.mono ?_; rintro e w1 ⟨rfl, n1, rfl⟩)
  go_loopw [5] (fun i wx => ∃ (k : Nat), k ≤ p.rows.length ∧ i = .int .i64 k ∧ Below U.heap.size U wx) (fun i _ => p.rows.length - (intOf i).toNat)
  case atStart => exact ⟨0, by omega, rfl, below_drewN (Below.refl _ _) _⟩
  case round =>
    obtain ⟨k, hk, rfl, hbel⟩ := hrel
    rename World => W
    have HB := Lib.hid hbel
    have zW := hbel.size
    clear hbel b0 b1 d0 d1
    have b1 : ∀ u : Wk W, u.1.cell? ⟨w.heap.size, 1, none⟩ = some (.slice A2 p.rows.length c2) := fun u => ((B1.out.next HB.out).next u.2).cell 1
    have d1 : ∀ u : Wk W, u.1.cell? ⟨w.heap.size + 1, 1, none⟩ = some (.slice B2 p.rows.length d2) := fun u => ((B2'.out.next HB.out).next u.2).cell 1
    have b1' : W.cell? ⟨w.heap.size, 1, none⟩ = some (.slice A2 p.rows.length c2) := (B1.out.next HB.out).cell 1
    by_cases hlt : k < p.rows.length
    · obtain ⟨ad, A5, c5, rfl, q1, q2, q3⟩ := ((HP.out.rows.below HU.out).below HB.out).at_ hlt
      obtain ⟨ae, A6, c6, rfl, r1, r2, r3⟩ := ((HQ.out.rows.below HU.out).below HB.out).at_ hlt
      have hi0 : (k : Int) < (p.rows.length : Int) := by omega
      have HN5 := Lib.hid (fun u : Wk W => ref9_nums A5 (p.rows[k]).1 c5 A6 c6 u.1 (q3.below u.2) (r3.below u.2))
      have s1 : ∀ u : Wk W, u.1.cell? (ad.add (k * 2)) = some (.slice A5 (p.rows[k]).1.length c5) := fun u => (u.2.cell (World.block_lt_of_cell? _ _ q1)).trans q1
      have s2 : ∀ u : Wk W, u.1.cell? ⟨(ad.add (k * 2)).block, (ad.add (k * 2)).off + 1, none⟩ = some (.int .i64 (p.rows[k]).2) := fun u => (u.2.cell (World.block_lt_of_cell? _ _ q2)).trans q2
      have t1 : ∀ u : Wk W, u.1.cell? (ae.add (k * 2)) = some (.slice A6 (p.rows[k]).1.length c6) := fun u => (u.2.cell (World.block_lt_of_cell? _ _ r1)).trans r1
      have t2 : ∀ u : Wk W, u.1.cell? ⟨(ae.add (k * 2)).block, (ae.add (k * 2)).off + 1, none⟩ = some (.int .i64 (p.rows[k]).2) := fun u => (u.2.cell (World.block_lt_of_cell? _ _ r2)).trans r2
      clear q1 q2 q3 r1 r2 r3
      generalize (p.rows[k]).1.length = rl at *
      generalize (p.rows[k]).2 = rm at *
      go_wp2_with fail
      refine wk_region (by kernel_rfl) (by kernel_rfl) ?_
      repeat (go_big_quiet_step ((go_at_call 26; with_reducible exact wk_quiet (HN5.out _))))
      refine wpQuiet_nil ?_
      rintro w7 ⟨u7, rfl⟩
      clear s1 s2 t1 t2 b1 d1
      go_wp2_with fail
      go_roundw
      case rel => exact ⟨k + 1, by omega, by go_num, HB.out.trans (u7.2.mono zW)⟩
      case measure => simp [intOf]; omega
    · obtain rfl : k = p.rows.length := by omega
      have hi0 : decide ((p.rows.length : Int) < (p.rows.length : Int)) = false := by simp
      go_wp2_with fail
      go_ret
      exact ⟨rfl, HU.out.trans (HB.out.mono zU)⟩
end Go.Proofs.YtjcdkbalhleeeabDoor
