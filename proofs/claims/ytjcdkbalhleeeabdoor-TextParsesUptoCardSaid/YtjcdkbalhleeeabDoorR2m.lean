/-
  The reference's May of chapter 2, walked, where the seat has no more of that chapter. No condition.
-/
import Derived.Test.YtjcdkbalhleeeabDoorLay1
namespace Go.Proofs.YtjcdkbalhleeeabDoor
open Go.RowKit

set_option maxHeartbeats 2000000 in
theorem ref2_MayD (A : Option Addr) (c : Nat) (A2 : Option Addr) (c2 : Nat) (p : PG) (w : World) (hp : Pg w A c A2 c2 p) :
    Calls Tryd.prog 8 #[.agg #[.slice A p.costs.length c, .slice A2 p.rows.length c2]] w fun e w' => e = .returned (.bool (mayPB p)) ∧ Below w.heap.size w w' := by
  have HP := Lib.hid hp
  obtain ⟨⟨hl, hc, hsm, _⟩, ⟨hl2, hc2, hsm2, _⟩⟩ := hp
  by_cases hn1 : p.costs.length < 1
  · have hv : mayPB p = false := by
      rw [Bool.eq_false_iff]; intro h; have := mayPB_iff.1 h; omega
    rw [hv]
    clear hv
    go_enter Tryd.func8, Tryd.ntmps8
    go_wp2_with fail
    go_ret
    exact ⟨rfl, (by (repeat (any_goals (first | exact Below.refl _ _ | refine below_drewN ?_ _ | refine Below.drew ?_ | refine Below.alloc ?_ ?_ _ | refine Below.setCell ?_ ?_ _))); all_goals (first | omega | (simp; done) | (simp; omega)))⟩
  by_cases hn2 : 4 < p.costs.length
  · have hv : mayPB p = false := by
      rw [Bool.eq_false_iff]; intro h; have := mayPB_iff.1 h; omega
    rw [hv]
    clear hv
    go_enter Tryd.func8, Tryd.ntmps8
    go_wp2_with fail
    go_ret
    exact ⟨rfl, (by (repeat (any_goals (first | exact Below.refl _ _ | refine below_drewN ?_ _ | refine Below.drew ?_ | refine Below.alloc ?_ ?_ _ | refine Below.setCell ?_ ?_ _))); all_goals (first | omega | (simp; done) | (simp; omega)))⟩
  by_cases hm1 : p.rows.length < 1
  · have hv : mayPB p = false := by
      rw [Bool.eq_false_iff]; intro h; have := mayPB_iff.1 h; omega
    rw [hv]
    clear hv
    go_enter Tryd.func8, Tryd.ntmps8
    go_wp2_with fail
    go_ret
    exact ⟨rfl, (by (repeat (any_goals (first | exact Below.refl _ _ | refine below_drewN ?_ _ | refine Below.drew ?_ | refine Below.alloc ?_ ?_ _ | refine Below.setCell ?_ ?_ _))); all_goals (first | omega | (simp; done) | (simp; omega)))⟩
  by_cases hm2 : 4 < p.rows.length
  · have hv : mayPB p = false := by
      rw [Bool.eq_false_iff]; intro h; have := mayPB_iff.1 h; omega
    rw [hv]
    clear hv
    go_enter Tryd.func8, Tryd.ntmps8
    go_wp2_with fail
    go_ret
    exact ⟨rfl, (by (repeat (any_goals (first | exact Below.refl _ _ | refine below_drewN ?_ _ | refine Below.drew ?_ | refine Below.alloc ?_ ?_ _ | refine Below.setCell ?_ ?_ _))); all_goals (first | omega | (simp; done) | (simp; omega)))⟩
  have hv : mayPB p = (smallB 400 p.costs && p.rows.all (rowB p.costs.length)) := by
    rw [Bool.eq_iff_iff, mayPB_iff, Bool.and_eq_true]; constructor
    · intro h; exact ⟨h.2.2.2.2.1, h.2.2.2.2.2⟩
    · intro h; exact ⟨by omega, by omega, by omega, by omega, h.1, h.2⟩
  have HV := Lib.hid hv
  clear hv
  go_enter Tryd.func8, Tryd.ntmps8
  go_wp2_with fail
  go_loop [4] (fun i => ∃ k : Nat, k ≤ p.costs.length ∧ i = .int .i64 k ∧ smallB 400 (p.costs.take k) = true) (fun i => p.costs.length - (intOf i).toNat)
  case atStart => exact ⟨0, by omega, rfl, rfl⟩
  case round =>
    obtain ⟨k, hk, rfl, hs⟩ := hrel
    have HS := Lib.hid hs
    clear hs
    by_cases hlt : k < p.costs.length
    · obtain ⟨ad, rfl, hc1⟩ := HP.out.costs.at_ hlt
      have hadl := World.block_lt_of_cell? _ _ hc1
      have HT := Lib.hid (smallB_take (m := 400) hlt)
      have HF := Lib.hid (smallB_false (m := 400) hlt)
      have hi0 : (k : Int) < (p.costs.length : Int) := by omega
      by_cases h1 : p.costs[k] < -400
      · go_wp2_with fail
        go_ret
        exact ⟨ret_bool (by rw [HV.out, HF.out (by simp; omega)]; rfl), (by (repeat (any_goals (first | exact Below.refl _ _ | refine below_drewN ?_ _ | refine Below.drew ?_ | refine Below.alloc ?_ ?_ _ | refine Below.setCell ?_ ?_ _))); all_goals (first | omega | (simp; done) | (simp; omega)))⟩
      · by_cases h2 : 400 < p.costs[k]
        · go_wp2_with fail
          go_ret
          exact ⟨ret_bool (by rw [HV.out, HF.out (by simp; omega)]; rfl), (by (repeat (any_goals (first | exact Below.refl _ _ | refine below_drewN ?_ _ | refine Below.drew ?_ | refine Below.alloc ?_ ?_ _ | refine Below.setCell ?_ ?_ _))); all_goals (first | omega | (simp; done) | (simp; omega)))⟩
        · go_wp2_with fail
          go_round
          case rel => exact ⟨k + 1, by omega, by go_num, by rw [HT.out, HS.out]; simp; omega⟩
          case measure => simp [intOf]; omega
    · obtain rfl : k = p.costs.length := by omega
      have HC := Lib.hid (show smallB 400 p.costs = true by have := HS.out; rwa [List.take_length] at this)
      clear HS
      go_wp2_with fail
      go_loopw [5] (fun i wr => ∃ k : Nat, k ≤ p.rows.length ∧ i = .int .i64 k ∧ (p.rows.take k).all (rowB p.costs.length) = true ∧ Below w.heap.size w wr ∧ Blk wr w.heap.size 25 #[.slice A p.costs.length c, .slice A2 p.rows.length c2]) (fun i _ => p.rows.length - (intOf i).toNat)
      case atStart => exact ⟨0, by omega, rfl, by simp, (by (repeat (any_goals (first | exact Below.refl _ _ | refine below_drewN ?_ _ | refine Below.drew ?_ | refine Below.alloc ?_ ?_ _ | refine Below.setCell ?_ ?_ _))); all_goals (first | omega | (simp; done) | (simp; omega))), Blk.new _ _ _ _ rfl⟩
      case round =>
        obtain ⟨k, hk, rfl, hall, hbel, hbox⟩ := hrel
        have HA := Lib.hid hall
        have HL := Lib.hid hbel
        have HPr := Lib.hid (HP.out.below hbel)
        have HBx := Lib.hid hbox
        have kb : wr.cell? ⟨w.heap.size, 1, none⟩ = some (.slice A2 p.rows.length c2) := hbox.cell 1
        have kbl := hbox.lt
        have zL := hbel.size
        clear hall hbel hbox hlt
        by_cases hlt : k < p.rows.length
        · obtain ⟨ad, A', c', rfl, hc1, hc2', hr⟩ := HPr.out.rows.at_ hlt
          have hadl := World.block_lt_of_cell? _ _ hc1
          have HR := Lib.hid hr
          obtain ⟨hrl, hrc, _, _⟩ := hr
          have HT := Lib.hid (all_take (f := rowB p.costs.length) hlt)
          have HF := Lib.hid (all_false (f := rowB p.costs.length) hlt)
          have HRB := Lib.hid (show rowB p.costs.length p.rows[k] = (decide (p.rows[k].1.length = p.costs.length) && ((decide (-12 ≤ p.rows[k].2) && decide (p.rows[k].2 ≤ 12)) && smallB 12 p.rows[k].1)) by unfold rowB; rw [smallB_one])
          have hi2 : (k : Int) < (p.rows.length : Int) := by omega
          generalize hr1 : p.rows[k].1 = r1 at *
          generalize hr2 : p.rows[k].2 = r2 at *
          clear hr1 hr2
          by_cases h1 : r1.length = p.costs.length
          · have h1z : ((r1.length : Int) != (p.costs.length : Int)) = false := by simp [h1]
            have H1 := Lib.hid h1
            clear h1
            by_cases h2 : r2 < -12
            · go_wp2_with fail
              go_ret
              exact ⟨ret_bool (by rw [HV.out, HF.out (by rw [HRB.out]; simp; omega)]; simp), (by (repeat (any_goals (first | exact Below.refl _ _ | exact HL.out | refine below_drewN ?_ _ | refine Below.drew ?_ | refine Below.alloc ?_ ?_ _ | refine Below.setCell ?_ ?_ _ | refine Below.trans ?_ (Below.mono HL.out ?_)))); all_goals (first | omega | (simp; done) | (simp; omega) | ((try have z0 := HL.out.size); (try simp at z0); (try simp); omega)))⟩
            · by_cases h3 : 12 < r2
              · go_wp2_with fail
                go_ret
                exact ⟨ret_bool (by rw [HV.out, HF.out (by rw [HRB.out]; simp; omega)]; simp), (by (repeat (any_goals (first | exact Below.refl _ _ | exact HL.out | refine below_drewN ?_ _ | refine Below.drew ?_ | refine Below.alloc ?_ ?_ _ | refine Below.setCell ?_ ?_ _ | refine Below.trans ?_ (Below.mono HL.out ?_)))); all_goals (first | omega | (simp; done) | (simp; omega) | ((try have z0 := HL.out.size); (try simp at z0); (try simp); omega)))⟩
              · go_wp2_with fail
                obtain ⟨wo, hwo⟩ : ∃ wo : World, wo = wr.alloc (.cells #[.slice A' r1.length c', .int .i64 r2] 50) := ⟨_, rfl⟩
                have HRo := Lib.hid (show Rd wo A' c' r1 by rw [hwo]; exact HR.out.alloc _)
                have kr0 : wo.cell? ⟨wr.heap.size, 0, none⟩ = some (.slice A' r1.length c') := by rw [hwo]; exact (Blk.mk' _ _ _).cell 0
                have HLo := Lib.hid (show Below wr.heap.size wr wo by rw [hwo]; exact (by (repeat (any_goals (first | exact Below.refl _ _ | refine below_drewN ?_ _ | refine Below.drew ?_ | refine Below.alloc ?_ ?_ _ | refine Below.setCell ?_ ?_ _))); all_goals (first | omega | (simp; done) | (simp; omega))))
                rw [← hwo]
                clear hwo
                go_loop [7] (fun i => ∃ j : Nat, j ≤ p.costs.length ∧ i = .int .i64 j ∧ smallB 12 (r1.take j) = true) (fun i => p.costs.length - (intOf i).toNat)
                case atStart => exact ⟨0, by omega, rfl, rfl⟩
                case round =>
                  obtain ⟨j, hj, rfl, hsj⟩ := hrel
                  have HSJ := Lib.hid hsj
                  clear hsj
                  by_cases hjlt : j < p.costs.length
                  · have hjl : j < r1.length := by have := H1.out; omega
                    obtain ⟨ad', rfl, hd1⟩ := HRo.out.at_ hjl
                    have hi3 : (j : Int) < (r1.length : Int) := by omega
                    have HT2 := Lib.hid (smallB_take (m := 12) hjl)
                    have HF2 := Lib.hid (smallB_false (m := 12) hjl)
                    by_cases h4 : r1[j] < -12
                    · go_wp2_with fail
                      go_ret
                      exact ⟨ret_bool (by rw [HV.out, HF.out (by rw [HRB.out, HF2.out (by simp; omega)]; simp)]; simp), (by (repeat (any_goals (first | exact Below.refl _ _ | exact HL.out | exact HLo.out | refine below_drewN ?_ _ | refine Below.drew ?_ | refine Below.alloc ?_ ?_ _ | refine Below.setCell ?_ ?_ _ | refine Below.trans ?_ (Below.mono HL.out ?_) | refine Below.trans ?_ (Below.mono HLo.out ?_)))); all_goals (first | omega | (simp; done) | (simp; omega) | ((try have z0 := HL.out.size); (try simp at z0); (try have z1 := HLo.out.size); (try simp at z1); (try simp); omega)))⟩
                    · by_cases h5 : 12 < r1[j]
                      · go_wp2_with fail
                        go_ret
                        exact ⟨ret_bool (by rw [HV.out, HF.out (by rw [HRB.out, HF2.out (by simp; omega)]; simp)]; simp), (by (repeat (any_goals (first | exact Below.refl _ _ | exact HL.out | exact HLo.out | refine below_drewN ?_ _ | refine Below.drew ?_ | refine Below.alloc ?_ ?_ _ | refine Below.setCell ?_ ?_ _ | refine Below.trans ?_ (Below.mono HL.out ?_) | refine Below.trans ?_ (Below.mono HLo.out ?_)))); all_goals (first | omega | (simp; done) | (simp; omega) | ((try have z0 := HL.out.size); (try simp at z0); (try have z1 := HLo.out.size); (try simp at z1); (try simp); omega)))⟩
                      · go_wp2_with fail
                        go_round
                        case rel => exact ⟨j + 1, by omega, by go_num, by rw [HT2.out, HSJ.out]; simp; omega⟩
                        case measure => simp [intOf]; omega
                  · obtain rfl : j = p.costs.length := by omega
                    have hS12 := Lib.hid (show smallB 12 r1 = true by have := HSJ.out; rwa [← H1.out, List.take_length] at this)
                    go_wp2_with fail
                    go_roundw
                    case rel => exact ⟨k + 1, by omega, by go_num, by rw [HT.out, HA.out, HRB.out, hS12.out]; simp [H1.out]; omega, (by (repeat (any_goals (first | exact Below.refl _ _ | exact HL.out | exact HLo.out | refine below_drewN ?_ _ | refine Below.drew ?_ | refine Below.alloc ?_ ?_ _ | refine Below.setCell ?_ ?_ _ | refine Below.trans ?_ (Below.mono HL.out ?_) | refine Below.trans ?_ (Below.mono HLo.out ?_)))); all_goals (first | omega | (simp; done) | (simp; omega) | ((try have z0 := HL.out.size); (try simp at z0); (try have z1 := HLo.out.size); (try simp at z1); (try simp); omega))), HBx.out.next HLo.out⟩
                    case measure => simp [intOf]; omega
          · have h1z : ((r1.length : Int) != (p.costs.length : Int)) = true := by simp; omega
            go_wp2_with fail
            go_ret
            exact ⟨ret_bool (by rw [HV.out, HF.out (by rw [HRB.out]; simp [h1])]; simp), (by (repeat (any_goals (first | exact Below.refl _ _ | exact HL.out | refine below_drewN ?_ _ | refine Below.drew ?_ | refine Below.alloc ?_ ?_ _ | refine Below.setCell ?_ ?_ _ | refine Below.trans ?_ (Below.mono HL.out ?_)))); all_goals (first | omega | (simp; done) | (simp; omega) | ((try have z0 := HL.out.size); (try simp at z0); (try simp); omega)))⟩
        · obtain rfl : k = p.rows.length := by omega
          go_wp2_with fail
          go_ret
          exact ⟨ret_bool (by rw [HV.out, HC.out]; have := HA.out; rw [List.take_length] at this; rw [this]; rfl), (by (repeat (any_goals (first | exact Below.refl _ _ | exact HL.out | refine below_drewN ?_ _ | refine Below.drew ?_ | refine Below.alloc ?_ ?_ _ | refine Below.setCell ?_ ?_ _ | refine Below.trans ?_ (Below.mono HL.out ?_)))); all_goals (first | omega | (simp; done) | (simp; omega) | ((try have z0 := HL.out.size); (try simp at z0); (try simp); omega)))⟩
end Go.Proofs.YtjcdkbalhleeeabDoor
