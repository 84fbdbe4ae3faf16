/-
  Walk: the document's Right computes what the plain words say.
-/
import Derived.Test.YtjcdkbalhleeeabCorn1
namespace Go.Proofs.Ytjcdkbalhleeeab
open Go.RowKit

set_option maxHeartbeats 600000 in
theorem ref3_Right (A : Option Addr) (c : Nat) (A2 : Option Addr) (c2 : Nat) (p : PG) (L : Option Addr) (l : List Int) (cl : Nat) (w : World) (hp : Pg w A c A2 c2 p) (hr : Rd w L cl l) :
    Calls Try.prog 35 #[.agg #[.slice A p.costs.length c, .slice A2 p.rows.length c2], .slice L l.length cl] w fun e w' => e = .returned (.bool (rightA p l)) ∧ Below w.heap.size w w' := by
  have HR := Lib.hid hr
  obtain ⟨⟨hl, hc, hsm, _⟩, ⟨hl2, hc2, hsm2, _⟩⟩ := hp
  obtain ⟨hll, hlc, hls, _⟩ := hr
  by_cases h0 : l.length = p.rows.length
  · have hz : ((l.length : Int) != (p.rows.length : Int)) = false := by simp; omega
    have HV := Lib.hid (show rightA p l = risingB (-1) (p.costs.length + p.rows.length) l by simp [rightA, h0])
    have H0 := Lib.hid h0
    clear h0
    generalize hN : p.costs.length + p.rows.length = N at *
    have hN1 : (p.costs.length : Int) + (p.rows.length : Int) = N := by omega
    have hN2 : IntKind.i64.wrap ((p.costs.length : Int) + (p.rows.length : Int)) = N := by rw [hN1]; exact IntWalk.i64_in _ (by omega)
    have HN1 := Lib.hid hN1
    clear hN1
    go_enter Try.func35, Try.ntmps35
    go_wp2_with fail
    have hW := ((by (repeat (any_goals (first | exact Below.refl _ _ | refine below_drewN ?_ _ | refine Below.drew ?_ | refine Below.alloc ?_ ?_ _ | refine Below.setCell ?_ ?_ _))); all_goals (first | omega | (simp; done) | (simp; omega))) : Below w.heap.size w (w.alloc (.cells #[.slice A p.costs.length c, .slice A2 p.rows.length c2] 25)))
    have HRw := Lib.hid (HR.out.below hW)
    have Vp := Lib.hid (Blk.mk' w 25 #[.slice A p.costs.length c, .slice A2 p.rows.length c2])
    have HW := Lib.hid hW
    clear hW
    generalize (w.alloc (.cells #[.slice A p.costs.length c, .slice A2 p.rows.length c2] 25)) = W at *
    go_loopw [5] (fun i wr => ∃ k n : Nat, k ≤ l.length ∧ i = .int .i64 k ∧ risingB (-1) N (l.take k) = true ∧ wr = W.drewN n) (fun i _ => l.length - (intOf i).toNat)
    case atStart => exact ⟨0, 0, by omega, rfl, rfl, rfl⟩
    case round =>
      obtain ⟨k, n, hk, rfl, hs, rfl⟩ := hrel
      have HS := Lib.hid hs
      clear hs
      have c0 : W.cell? ⟨w.heap.size, 0, none⟩ = some (.slice A p.costs.length c) := Vp.out.cell 0
      have c1 : W.cell? ⟨w.heap.size, 1, none⟩ = some (.slice A2 p.rows.length c2) := Vp.out.cell 1
      by_cases hlt : k < l.length
      · obtain ⟨ad, rfl, hc1⟩ := HRw.out.at_ hlt
        have HT := Lib.hid (rising_take (last := -1) (n := N) hlt)
        have HP := Lib.hid (rising_pre (last := -1) (n := N) (l := l) (k + 1))
        have hi0 : (k : Int) < (l.length : Int) := by omega
        by_cases h1 : l[k] < 0
        · have HQ := Lib.hid (show -1 ≤ lastZ (-1) l k by
            unfold lastZ
            by_cases e : k = 0
            · rw [if_pos e]; omega
            · rw [if_neg e]
              have := (rising_parts HS.out).1 (l.getD (k - 1) 0) (by
                have hk1 : k - 1 < (l.take k).length := by rw [List.length_take]; omega
                have e2 : l.getD (k - 1) 0 = (l.take k)[k - 1] := by simp [List.getD, List.getElem?_eq_getElem (show k - 1 < l.length by omega)]
                rw [e2]; exact List.getElem_mem hk1)
              omega)
          go_wp2_with fail
          go_quiet (fail)
          go_wp2_with fail
          go_ret
          exact ⟨ret_bool (by rw [HV.out, HP.out (by rw [HT.out]; have := HQ.out; simp; omega)]), (by (repeat (any_goals (first | exact Below.refl _ _ | exact HW.out | refine below_drewN ?_ _ | refine Below.drew ?_ | refine Below.alloc ?_ ?_ _ | refine Below.setCell ?_ ?_ _ | refine Below.trans ?_ (Below.mono HW.out ?_)))); all_goals (first | omega | (simp; done) | (simp; omega) | ((try have z0 := HW.out.size); (try simp at z0); (try simp); omega)))⟩
        · have hd1 : decide (l[k] < 0) = false := by simp; omega
          by_cases h2 : (N : Int) ≤ l[k]
          · have hd2 : decide ((N : Int) ≤ l[k]) = true := by simp; omega
            go_wp2_with fail
            go_quiet (fail)
            go_wp2_with fail
            go_ret
            exact ⟨ret_bool (by rw [HV.out, HP.out (by rw [HT.out]; simp; omega)]), (by (repeat (any_goals (first | exact Below.refl _ _ | exact HW.out | refine below_drewN ?_ _ | refine Below.drew ?_ | refine Below.alloc ?_ ?_ _ | refine Below.setCell ?_ ?_ _ | refine Below.trans ?_ (Below.mono HW.out ?_)))); all_goals (first | omega | (simp; done) | (simp; omega) | ((try have z0 := HW.out.size); (try simp at z0); (try simp); omega)))⟩
          · have hd2 : decide ((N : Int) ≤ l[k]) = false := by simp; omega
            by_cases hk0 : k = 0
            · have hz0 : decide (0 < k) = false := by simp; omega
              have HK := Lib.hid hk0
              clear hk0
              go_wp2_with fail
              go_quiet (fail)
              go_wp2_with fail
              go_roundw
              case rel => exact ⟨k + 1, _, by omega, by go_num, by rw [HT.out, HS.out, show lastZ (-1) l k = -1 by unfold lastZ; rw [if_pos HK.out]]; simp; omega, rfl⟩
              case measure => simp [intOf]; omega
            · obtain ⟨ad', he, hc2⟩ := HRw.out.at_ (k := k - 1) (by omega)
              cases he
              have HQ := Lib.hid (show lastZ (-1) l k = l[k - 1] by unfold lastZ; rw [if_neg hk0]; simp [List.getD, List.getElem?_eq_getElem (show k - 1 < l.length by omega)])
              have hz0 : decide (0 < k) = true := by simp; omega
              have hi2 : (k : Int) - 1 < (l.length : Int) := by omega
              have hi4 : (0 : Int) ≤ (k : Int) - 1 := by omega
              have hi5 : ((k : Int) - 1).toNat = k - 1 := by omega
              have hi1 : IntKind.i64.wrap ((k : Int) - 1) = (k : Int) - 1 := IntWalk.i64_in _ (by omega)
              generalize hlk : l[k - 1] = lk at *
              clear hlk hk0
              by_cases h3 : l[k] ≤ lk
              · have hd3 : decide (l[k] ≤ lk) = true := by simp; omega
                go_wp2_with fail
                go_quiet (fail)
                go_wp2_with fail
                go_ret
                exact ⟨ret_bool (by rw [HV.out, HP.out (by rw [HT.out, HQ.out]; simp; omega)]), (by (repeat (any_goals (first | exact Below.refl _ _ | exact HW.out | refine below_drewN ?_ _ | refine Below.drew ?_ | refine Below.alloc ?_ ?_ _ | refine Below.setCell ?_ ?_ _ | refine Below.trans ?_ (Below.mono HW.out ?_)))); all_goals (first | omega | (simp; done) | (simp; omega) | ((try have z0 := HW.out.size); (try simp at z0); (try simp); omega)))⟩
              · have hd3 : decide (l[k] ≤ lk) = false := by simp; omega
                go_wp2_with fail
                go_quiet (fail)
                clear hi1
                go_wp2_with fail
                go_roundw
                case rel => exact ⟨k + 1, _, by omega, by go_num, by rw [HT.out, HS.out, HQ.out]; simp; omega, rfl⟩
                case measure => simp [intOf]; omega
      · obtain rfl : k = l.length := by omega
        go_wp2_with fail
        go_ret
        exact ⟨ret_bool (by rw [HV.out]; have := HS.out; rw [List.take_length] at this; rw [this]), (by (repeat (any_goals (first | exact Below.refl _ _ | exact HW.out | refine below_drewN ?_ _ | refine Below.drew ?_ | refine Below.alloc ?_ ?_ _ | refine Below.setCell ?_ ?_ _ | refine Below.trans ?_ (Below.mono HW.out ?_)))); all_goals (first | omega | (simp; done) | (simp; omega) | ((try have z0 := HW.out.size); (try simp at z0); (try simp); omega)))⟩
  · have hz : ((l.length : Int) != (p.rows.length : Int)) = true := by simp; omega
    have HV := Lib.hid (show rightA p l = false by simp [rightA, h0])
    clear h0
    go_enter Try.func35, Try.ntmps35
    go_wp2_with fail
    go_ret
    exact ⟨ret_bool (by rw [HV.out]), (by (repeat (any_goals (first | exact Below.refl _ _ | refine below_drewN ?_ _ | refine Below.drew ?_ | refine Below.alloc ?_ ?_ _ | refine Below.setCell ?_ ?_ _))); all_goals (first | omega | (simp; done) | (simp; omega)))⟩
end Go.Proofs.Ytjcdkbalhleeeab
