/-
  Walks of the reference of chapter 2: May, Dot, Fits, Goes compute what the plain words say.
-/
import Derived.Test.YtjcdkbalhleeeabLay2
import Derived.Test.YtjcdkbalhleeeabRefB
namespace Go.Proofs.Ytjcdkbalhleeeab
open Go.RowKit

theorem ref2_Dot (A : Option Addr) (a : List Int) (c : Nat) (B : Option Addr) (b : List Int) (c' : Nat) (X Y : Int) (w : World) (hr : Rd w A c a) (hr' : Rd w B c' b) (hlen : a.length ≤ b.length)
    (hX : 0 ≤ X) (hY : 0 ≤ Y) (ha : smallB X a = true) (hb : smallB Y b = true) (h8 : a.length * (X * Y) ≤ 4611686018427387904) :
    Calls Try.prog 16 #[.slice A a.length c, .slice B b.length c'] w fun e w' => e = .returned (.int .i64 (dot a b)) ∧ ∃ n, w' = w.drewN n := by
  have HR := Lib.hid hr
  have HR' := Lib.hid hr'
  obtain ⟨hl, hc, hsm, _⟩ := hr
  obtain ⟨hl', hc', hsm', _⟩ := hr'
  have HA := Lib.hid ha
  have HB := Lib.hid hb
  have HD := Lib.hid (dot_take_bound ha hb hX hY)
  clear ha hb
  go_enter Try.func16, Try.ntmps16
  go_wp2_with fail
  go_loopw [5, 6] (fun s i wr => ∃ k n : Nat, k ≤ a.length ∧ s = .int .i64 (dot (a.take k) b) ∧ i = .int .i64 k ∧ wr = w.drewN n) (fun _ i _ => a.length - (intOf i).toNat)
  case atStart => exact ⟨0, 0, by omega, rfl, rfl, rfl⟩
  case round =>
    obtain ⟨k, n, hk, rfl, rfl, rfl⟩ := hrel
    by_cases hlt : k < a.length
    · have hlt' : k < b.length := by omega
      obtain ⟨ad, rfl, hc1⟩ := HR.out.at_ hlt
      obtain ⟨ad', rfl, hc2⟩ := HR'.out.at_ hlt'
      have hi0 : (k : Int) < (b.length : Int) := by omega
      have hi1 : (k : Int) < (a.length : Int) := by omega
      have h1 := HD.out k
      have h2 := HD.out (k + 1)
      have HT := Lib.hid (dot_take hlt hlt')
      rw [HT.out] at h2
      have hx := smallB_at HA.out hlt
      have hy := smallB_at HB.out hlt'
      have h3 := mul_bound _ _ X Y hx.1 hx.2 hy.1 hy.2
      have h4 : X * Y ≤ a.length * (X * Y) := by
        have h0 : (1 : Int) * (X * Y) ≤ a.length * (X * Y) := Int.mul_le_mul_of_nonneg_right (by omega) (Int.mul_nonneg hX hY)
        omega
      obtain ⟨h3a, h3b⟩ := h3
      obtain ⟨h2a, h2b⟩ := h2
      have g1 : IntKind.i64.wrap (a[k] * b[k]) = a[k] * b[k] := IntWalk.i64_in _ (by omega)
      have g3 : IntKind.i64.wrap (dot (a.take k) b + a[k] * b[k]) = dot (a.take k) b + a[k] * b[k] := IntWalk.i64_in _ (by omega)
      clear h3a h3b h1 h2a h2b h4 h8 hx hy
      go_wp2_with fail
      go_quiet (fail)
      clear g1 g3
      go_wp2_with fail
      go_roundw
      case rel => exact ⟨k + 1, _, by omega, by rw [HT.out], by go_num, rfl⟩
      case measure => simp [intOf]; omega
    · obtain rfl : k = a.length := by omega
      go_wp2_with fail
      go_ret
      exact ⟨ret_int (by simp), _, rfl⟩

set_option maxHeartbeats 2000000 in
theorem ref2_May (A : Option Addr) (c : Nat) (A2 : Option Addr) (c2 : Nat) (p : PG) (w : World) (hp : Pg w A c A2 c2 p) :
    Calls Try.prog 23 #[.agg #[.slice A p.costs.length c, .slice A2 p.rows.length c2]] w fun e w' => e = .returned (.bool (mayPB p)) ∧ Below w.heap.size w w' := by
  have HP := Lib.hid hp
  obtain ⟨⟨hl, hc, hsm, _⟩, ⟨hl2, hc2, hsm2, _⟩⟩ := hp
  by_cases hn1 : p.costs.length < 1
  · have hv : mayPB p = false := by
      rw [Bool.eq_false_iff]; intro h; have := mayPB_iff.1 h; omega
    rw [hv]
    clear hv
    go_enter Try.func23, Try.ntmps23
    go_wp2_with fail
    go_ret
    exact ⟨rfl, (by (repeat (any_goals (first | exact Below.refl _ _ | refine below_drewN ?_ _ | refine Below.drew ?_ | refine Below.alloc ?_ ?_ _ | refine Below.setCell ?_ ?_ _))); all_goals (first | omega | (simp; done) | (simp; omega)))⟩
  by_cases hn2 : 4 < p.costs.length
  · have hv : mayPB p = false := by
      rw [Bool.eq_false_iff]; intro h; have := mayPB_iff.1 h; omega
    rw [hv]
    clear hv
    go_enter Try.func23, Try.ntmps23
    go_wp2_with fail
    go_ret
    exact ⟨rfl, (by (repeat (any_goals (first | exact Below.refl _ _ | refine below_drewN ?_ _ | refine Below.drew ?_ | refine Below.alloc ?_ ?_ _ | refine Below.setCell ?_ ?_ _))); all_goals (first | omega | (simp; done) | (simp; omega)))⟩
  by_cases hm1 : p.rows.length < 1
  · have hv : mayPB p = false := by
      rw [Bool.eq_false_iff]; intro h; have := mayPB_iff.1 h; omega
    rw [hv]
    clear hv
    go_enter Try.func23, Try.ntmps23
    go_wp2_with fail
    go_ret
    exact ⟨rfl, (by (repeat (any_goals (first | exact Below.refl _ _ | refine below_drewN ?_ _ | refine Below.drew ?_ | refine Below.alloc ?_ ?_ _ | refine Below.setCell ?_ ?_ _))); all_goals (first | omega | (simp; done) | (simp; omega)))⟩
  by_cases hm2 : 4 < p.rows.length
  · have hv : mayPB p = false := by
      rw [Bool.eq_false_iff]; intro h; have := mayPB_iff.1 h; omega
    rw [hv]
    clear hv
    go_enter Try.func23, Try.ntmps23
    go_wp2_with fail
    go_ret
    exact ⟨rfl, (by (repeat (any_goals (first | exact Below.refl _ _ | refine below_drewN ?_ _ | refine Below.drew ?_ | refine Below.alloc ?_ ?_ _ | refine Below.setCell ?_ ?_ _))); all_goals (first | omega | (simp; done) | (simp; omega)))⟩
  have hv : mayPB p = (smallB 400 p.costs && p.rows.all (rowB p.costs.length)) := by
    rw [Bool.eq_iff_iff, mayPB_iff, Bool.and_eq_true]; constructor
    · intro h; exact ⟨h.2.2.2.2.1, h.2.2.2.2.2⟩
    · intro h; exact ⟨by omega, by omega, by omega, by omega, h.1, h.2⟩
  have HV := Lib.hid hv
  clear hv
  go_enter Try.func23, Try.ntmps23
  go_wp2_with fail
  go_loop [4] (fun i => ∃ k : Nat, k ≤ p.costs.length ∧ i = .int .i64 k ∧ smallB 400 (p.costs.take k) = true) (fun i => p.costs.length - (intOf i).toNat)
  case atStart => exact ⟨0, by omega, rfl, rfl⟩
  case round =>
    obtain ⟨k, hk, rfl, hs⟩ := hrel
    have HS := Lib.hid hs
    clear hs
    by_cases hlt : k < p.costs.length
    · obtain ⟨ad, rfl, hc1⟩ := HP.out.costs.at_ hlt
      have hadl := World.block_lt_of_cell? _ _ hc1
      have HT := Lib.hid (smallB_take (m := 400) hlt)
      have HF := Lib.hid (smallB_false (m := 400) hlt)
      have hi0 : (k : Int) < (p.costs.length : Int) := by omega
      by_cases h1 : p.costs[k] < -400
      · go_wp2_with fail
        go_ret
        exact ⟨ret_bool (by rw [HV.out, HF.out (by simp; omega)]; rfl), (by (repeat (any_goals (first | exact Below.refl _ _ | refine below_drewN ?_ _ | refine Below.drew ?_ | refine Below.alloc ?_ ?_ _ | refine Below.setCell ?_ ?_ _))); all_goals (first | omega | (simp; done) | (simp; omega)))⟩
      · by_cases h2 : 400 < p.costs[k]
        · go_wp2_with fail
          go_ret
          exact ⟨ret_bool (by rw [HV.out, HF.out (by simp; omega)]; rfl), (by (repeat (any_goals (first | exact Below.refl _ _ | refine below_drewN ?_ _ | refine Below.drew ?_ | refine Below.alloc ?_ ?_ _ | refine Below.setCell ?_ ?_ _))); all_goals (first | omega | (simp; done) | (simp; omega)))⟩
        · go_wp2_with fail
          go_round
          case rel => exact ⟨k + 1, by omega, by go_num, by rw [HT.out, HS.out]; simp; omega⟩
          case measure => simp [intOf]; omega
    · obtain rfl : k = p.costs.length := by omega
      have HC := Lib.hid (show smallB 400 p.costs = true by have := HS.out; rwa [List.take_length] at this)
      clear HS
      go_wp2_with fail
      go_loopw [5] (fun i wr => ∃ k : Nat, k ≤ p.rows.length ∧ i = .int .i64 k ∧ (p.rows.take k).all (rowB p.costs.length) = true ∧ Below w.heap.size w wr ∧ Blk wr w.heap.size 25 #[.slice A p.costs.length c, .slice A2 p.rows.length c2]) (fun i _ => p.rows.length - (intOf i).toNat)
      case atStart => exact ⟨0, by omega, rfl, by simp, (by (repeat (any_goals (first | exact Below.refl _ _ | refine below_drewN ?_ _ | refine Below.drew ?_ | refine Below.alloc ?_ ?_ _ | refine Below.setCell ?_ ?_ _))); all_goals (first | omega | (simp; done) | (simp; omega))), Blk.new _ _ _ _ rfl⟩
      case round =>
        obtain ⟨k, hk, rfl, hall, hbel, hbox⟩ := hrel
        have HA := Lib.hid hall
        have HL := Lib.hid hbel
        have HPr := Lib.hid (HP.out.below hbel)
        have HBx := Lib.hid hbox
        have kb : wr.cell? ⟨w.heap.size, 1, none⟩ = some (.slice A2 p.rows.length c2) := hbox.cell 1
        have kbl := hbox.lt
        have zL := hbel.size
        clear hall hbel hbox hlt
        by_cases hlt : k < p.rows.length
        · obtain ⟨ad, A', c', rfl, hc1, hc2', hr⟩ := HPr.out.rows.at_ hlt
          have hadl := World.block_lt_of_cell? _ _ hc1
          have HR := Lib.hid hr
          obtain ⟨hrl, hrc, _, _⟩ := hr
          have HT := Lib.hid (all_take (f := rowB p.costs.length) hlt)
          have HF := Lib.hid (all_false (f := rowB p.costs.length) hlt)
          have HRB := Lib.hid (show rowB p.costs.length p.rows[k] = (decide (p.rows[k].1.length = p.costs.length) && ((decide (-12 ≤ p.rows[k].2) && decide (p.rows[k].2 ≤ 12)) && smallB 12 p.rows[k].1)) by unfold rowB; rw [smallB_one])
          have hi2 : (k : Int) < (p.rows.length : Int) := by omega
          generalize hr1 : p.rows[k].1 = r1 at *
          generalize hr2 : p.rows[k].2 = r2 at *
          clear hr1 hr2
          by_cases h1 : r1.length = p.costs.length
          · have h1z : ((r1.length : Int) != (p.costs.length : Int)) = false := by simp [h1]
            have H1 := Lib.hid h1
            clear h1
            by_cases h2 : r2 < -12
            · go_wp2_with fail
              go_ret
              exact ⟨ret_bool (by rw [HV.out, HF.out (by rw [HRB.out]; simp; omega)]; simp), (by (repeat (any_goals (first | exact Below.refl _ _ | exact HL.out | refine below_drewN ?_ _ | refine Below.drew ?_ | refine Below.alloc ?_ ?_ _ | refine Below.setCell ?_ ?_ _ | refine Below.trans ?_ (Below.mono HL.out ?_)))); all_goals (first | omega | (simp; done) | (simp; omega) | ((try have z0 := HL.out.size); (try simp at z0); (try simp); omega)))⟩
            · by_cases h3 : 12 < r2
              · go_wp2_with fail
                go_ret
                exact ⟨ret_bool (by rw [HV.out, HF.out (by rw [HRB.out]; simp; omega)]; simp), (by (repeat (any_goals (first | exact Below.refl _ _ | exact HL.out | refine below_drewN ?_ _ | refine Below.drew ?_ | refine Below.alloc ?_ ?_ _ | refine Below.setCell ?_ ?_ _ | refine Below.trans ?_ (Below.mono HL.out ?_)))); all_goals (first | omega | (simp; done) | (simp; omega) | ((try have z0 := HL.out.size); (try simp at z0); (try simp); omega)))⟩
              · go_wp2_with fail
                obtain ⟨wo, hwo⟩ : ∃ wo : World, wo = wr.alloc (.cells #[.slice A' r1.length c', .int .i64 r2] 36) := ⟨_, rfl⟩
                have HRo := Lib.hid (show Rd wo A' c' r1 by rw [hwo]; exact HR.out.alloc _)
                have kr0 : wo.cell? ⟨wr.heap.size, 0, none⟩ = some (.slice A' r1.length c') := by rw [hwo]; exact (Blk.mk' _ _ _).cell 0
                have HLo := Lib.hid (show Below wr.heap.size wr wo by rw [hwo]; exact (by (repeat (any_goals (first | exact Below.refl _ _ | refine below_drewN ?_ _ | refine Below.drew ?_ | refine Below.alloc ?_ ?_ _ | refine Below.setCell ?_ ?_ _))); all_goals (first | omega | (simp; done) | (simp; omega))))
                rw [← hwo]
                clear hwo
                go_loop [7] (fun i => ∃ j : Nat, j ≤ p.costs.length ∧ i = .int .i64 j ∧ smallB 12 (r1.take j) = true) (fun i => p.costs.length - (intOf i).toNat)
                case atStart => exact ⟨0, by omega, rfl, rfl⟩
                case round =>
                  obtain ⟨j, hj, rfl, hsj⟩ := hrel
                  have HSJ := Lib.hid hsj
                  clear hsj
                  by_cases hjlt : j < p.costs.length
                  · have hjl : j < r1.length := by have := H1.out; omega
                    obtain ⟨ad', rfl, hd1⟩ := HRo.out.at_ hjl
                    have hi3 : (j : Int) < (r1.length : Int) := by omega
                    have HT2 := Lib.hid (smallB_take (m := 12) hjl)
                    have HF2 := Lib.hid (smallB_false (m := 12) hjl)
                    by_cases h4 : r1[j] < -12
                    · go_wp2_with fail
                      go_ret
                      exact ⟨ret_bool (by rw [HV.out, HF.out (by rw [HRB.out, HF2.out (by simp; omega)]; simp)]; simp), (by (repeat (any_goals (first | exact Below.refl _ _ | exact HL.out | exact HLo.out | refine below_drewN ?_ _ | refine Below.drew ?_ | refine Below.alloc ?_ ?_ _ | refine Below.setCell ?_ ?_ _ | refine Below.trans ?_ (Below.mono HL.out ?_) | refine Below.trans ?_ (Below.mono HLo.out ?_)))); all_goals (first | omega | (simp; done) | (simp; omega) | ((try have z0 := HL.out.size); (try simp at z0); (try have z1 := HLo.out.size); (try simp at z1); (try simp); omega)))⟩
                    · by_cases h5 : 12 < r1[j]
                      · go_wp2_with fail
                        go_ret
                        exact ⟨ret_bool (by rw [HV.out, HF.out (by rw [HRB.out, HF2.out (by simp; omega)]; simp)]; simp), (by (repeat (any_goals (first | exact Below.refl _ _ | exact HL.out | exact HLo.out | refine below_drewN ?_ _ | refine Below.drew ?_ | refine Below.alloc ?_ ?_ _ | refine Below.setCell ?_ ?_ _ | refine Below.trans ?_ (Below.mono HL.out ?_) | refine Below.trans ?_ (Below.mono HLo.out ?_)))); all_goals (first | omega | (simp; done) | (simp; omega) | ((try have z0 := HL.out.size); (try simp at z0); (try have z1 := HLo.out.size); (try simp at z1); (try simp); omega)))⟩
                      · go_wp2_with fail
                        go_round
                        case rel => exact ⟨j + 1, by omega, by go_num, by rw [HT2.out, HSJ.out]; simp; omega⟩
                        case measure => simp [intOf]; omega
                  · obtain rfl : j = p.costs.length := by omega
                    have hS12 := Lib.hid (show smallB 12 r1 = true by have := HSJ.out; rwa [← H1.out, List.take_length] at this)
                    go_wp2_with fail
                    go_roundw
                    case rel => exact ⟨k + 1, by omega, by go_num, by rw [HT.out, HA.out, HRB.out, hS12.out]; simp [H1.out]; omega, (by (repeat (any_goals (first | exact Below.refl _ _ | exact HL.out | exact HLo.out | refine below_drewN ?_ _ | refine Below.drew ?_ | refine Below.alloc ?_ ?_ _ | refine Below.setCell ?_ ?_ _ | refine Below.trans ?_ (Below.mono HL.out ?_) | refine Below.trans ?_ (Below.mono HLo.out ?_)))); all_goals (first | omega | (simp; done) | (simp; omega) | ((try have z0 := HL.out.size); (try simp at z0); (try have z1 := HLo.out.size); (try simp at z1); (try simp); omega))), HBx.out.next HLo.out⟩
                    case measure => simp [intOf]; omega
          · have h1z : ((r1.length : Int) != (p.costs.length : Int)) = true := by simp; omega
            go_wp2_with fail
            go_ret
            exact ⟨ret_bool (by rw [HV.out, HF.out (by rw [HRB.out]; simp [h1])]; simp), (by (repeat (any_goals (first | exact Below.refl _ _ | exact HL.out | refine below_drewN ?_ _ | refine Below.drew ?_ | refine Below.alloc ?_ ?_ _ | refine Below.setCell ?_ ?_ _ | refine Below.trans ?_ (Below.mono HL.out ?_)))); all_goals (first | omega | (simp; done) | (simp; omega) | ((try have z0 := HL.out.size); (try simp at z0); (try simp); omega)))⟩
        · obtain rfl : k = p.rows.length := by omega
          go_wp2_with fail
          go_ret
          exact ⟨ret_bool (by rw [HV.out, HC.out]; have := HA.out; rw [List.take_length] at this; rw [this]; rfl), (by (repeat (any_goals (first | exact Below.refl _ _ | exact HL.out | refine below_drewN ?_ _ | refine Below.drew ?_ | refine Below.alloc ?_ ?_ _ | refine Below.setCell ?_ ?_ _ | refine Below.trans ?_ (Below.mono HL.out ?_)))); all_goals (first | omega | (simp; done) | (simp; omega) | ((try have z0 := HL.out.size); (try simp at z0); (try simp); omega)))⟩
theorem ref2_Fits (A : Option Addr) (c : Nat) (A2 : Option Addr) (c2 : Nat) (p : PG) (X : Option Addr) (l : List Int) (cx : Nat) (d : Int) (w : World) (hp : Pg w A c A2 c2 p) (hx : Rd w X cx l) :
    Calls Try.prog 112 #[.agg #[.slice A p.costs.length c, .slice A2 p.rows.length c2], .agg #[.slice X l.length cx, .int .i64 d]] w fun e w' => e = .returned (.bool (fitsB p l d)) ∧ Below w.heap.size w w' := by
  have HP := Lib.hid hp
  have HX := Lib.hid hx
  obtain ⟨⟨hl, hc, hsm, _⟩, ⟨hl2, hc2, hsm2, _⟩⟩ := hp
  obtain ⟨hlx, hcx, hsx, _⟩ := hx
  cases h1 : mayPB p with
  | false =>
    have hv : fitsB p l d = false := by simp [fitsB, h1]
    rw [hv]
    clear hv
    go_enter Try.func112, Try.ntmps112
    go_wp2_with fail
    refine (ref2_May _ _ _ _ _ _ (by exact HP.out.below (by (repeat (any_goals (first | exact Below.refl _ _ | refine below_drewN ?_ _ | refine Below.drew ?_ | refine Below.alloc ?_ ?_ _ | refine Below.setCell ?_ ?_ _))); all_goals (first | omega | (simp; done) | (simp; omega))))).mono ?_
    rintro e w1 ⟨rfl, hb1⟩
    rw [h1]
    have HB1 := Lib.hid hb1
    clear hb1
    go_wp2_with fail
    go_ret
    exact ⟨rfl, (by (repeat (any_goals (first | exact Below.refl _ _ | exact HB1.out | refine below_drewN ?_ _ | refine Below.drew ?_ | refine Below.alloc ?_ ?_ _ | refine Below.setCell ?_ ?_ _ | refine Below.trans ?_ (Below.mono HB1.out ?_)))); all_goals (first | omega | (simp; done) | (simp; omega) | ((try have z0 := HB1.out.size); (try simp at z0); (try simp); omega)))⟩
  | true =>
    cases h2 : mayB l d with
    | false =>
      have hv : fitsB p l d = false := by simp [fitsB, h2]
      rw [hv]
      clear hv
      go_enter Try.func112, Try.ntmps112
      go_wp2_with fail
      refine (ref2_May _ _ _ _ _ _ (by exact HP.out.below (by (repeat (any_goals (first | exact Below.refl _ _ | refine below_drewN ?_ _ | refine Below.drew ?_ | refine Below.alloc ?_ ?_ _ | refine Below.setCell ?_ ?_ _))); all_goals (first | omega | (simp; done) | (simp; omega))))).mono ?_
      rintro e w1 ⟨rfl, hb1⟩
      rw [h1]
      have Vp0 := Blk.next (Blk.alloc (Blk.mk' _ _ _) _) hb1; (try simp only [World.size_alloc, World.size_drew, World.size_setCell, size_drewN'] at Vp0); have Vp := Lib.hid Vp0; clear Vp0; have lVp := Vp.out.lt; have Vx0 := Blk.next (Blk.mk' _ _ _) hb1; (try simp only [World.size_alloc, World.size_drew, World.size_setCell, size_drewN'] at Vx0); have Vx := Lib.hid Vx0; clear Vx0; have lVx := Vx.out.lt; have HX := Lib.hid (HX.out.hop (by (repeat (any_goals (first | exact Below.refl _ _ | refine below_drewN ?_ _ | refine Below.drew ?_ | refine Below.alloc ?_ ?_ _ | refine Below.setCell ?_ ?_ _))); all_goals (first | omega | (simp; done) | (simp; omega))) hb1); have zhb1 := hb1.size; (try simp only [World.size_alloc, World.size_drew, World.size_setCell, size_drewN'] at zhb1); have HB1 := Lib.hid hb1; clear hb1
      have k0 : w1.cell? ⟨w.heap.size + 1, 0, none⟩ = some (.slice X l.length cx) := Vx.out.cell 0
      have k1 : w1.cell? ⟨w.heap.size + 1, 1, none⟩ = some (.int .i64 d) := Vx.out.cell 1
      go_wp2_with fail
      refine (ref1_MayPoint _ _ _ _ _ HX.out).mono ?_
      rintro e w2 ⟨rfl, hb2⟩
      rw [h2]
      have HB2 := Lib.hid hb2
      clear hb2
      go_wp2_with fail
      go_ret
      exact ⟨rfl, (by (repeat (any_goals (first | exact Below.refl _ _ | exact HB1.out | exact HB2.out | refine below_drewN ?_ _ | refine Below.drew ?_ | refine Below.alloc ?_ ?_ _ | refine Below.setCell ?_ ?_ _ | refine Below.trans ?_ (Below.mono HB1.out ?_) | refine Below.trans ?_ (Below.mono HB2.out ?_)))); all_goals (first | omega | (simp; done) | (simp; omega) | ((try have z0 := HB1.out.size); (try simp at z0); (try have z1 := HB2.out.size); (try simp at z1); (try simp); omega)))⟩
    | true =>
      have hv : fitsB p l d = ((l.length : Int) == (p.costs.length : Int)) := by rw [Bool.eq_iff_iff]; simp [fitsB, h1, h2]; omega
      rw [hv]
      clear hv
      go_enter Try.func112, Try.ntmps112
      go_wp2_with fail
      refine (ref2_May _ _ _ _ _ _ (by exact HP.out.below (by (repeat (any_goals (first | exact Below.refl _ _ | refine below_drewN ?_ _ | refine Below.drew ?_ | refine Below.alloc ?_ ?_ _ | refine Below.setCell ?_ ?_ _))); all_goals (first | omega | (simp; done) | (simp; omega))))).mono ?_
      rintro e w1 ⟨rfl, hb1⟩
      rw [h1]
      have Vp0 := Blk.next (Blk.alloc (Blk.mk' _ _ _) _) hb1; (try simp only [World.size_alloc, World.size_drew, World.size_setCell, size_drewN'] at Vp0); have Vp := Lib.hid Vp0; clear Vp0; have lVp := Vp.out.lt; have Vx0 := Blk.next (Blk.mk' _ _ _) hb1; (try simp only [World.size_alloc, World.size_drew, World.size_setCell, size_drewN'] at Vx0); have Vx := Lib.hid Vx0; clear Vx0; have lVx := Vx.out.lt; have HX := Lib.hid (HX.out.hop (by (repeat (any_goals (first | exact Below.refl _ _ | refine below_drewN ?_ _ | refine Below.drew ?_ | refine Below.alloc ?_ ?_ _ | refine Below.setCell ?_ ?_ _))); all_goals (first | omega | (simp; done) | (simp; omega))) hb1); have zhb1 := hb1.size; (try simp only [World.size_alloc, World.size_drew, World.size_setCell, size_drewN'] at zhb1); have HB1 := Lib.hid hb1; clear hb1
      have k0 : w1.cell? ⟨w.heap.size + 1, 0, none⟩ = some (.slice X l.length cx) := Vx.out.cell 0
      have k1 : w1.cell? ⟨w.heap.size + 1, 1, none⟩ = some (.int .i64 d) := Vx.out.cell 1
      go_wp2_with fail
      refine (ref1_MayPoint _ _ _ _ _ HX.out).mono ?_
      rintro e w2 ⟨rfl, hb2⟩
      rw [h2]
      have Vp := Lib.hid (Blk.hop Vp.out (by (repeat (any_goals (first | exact Below.refl _ _ | refine below_drewN ?_ _ | refine Below.drew ?_ | refine Below.alloc ?_ ?_ _ | refine Below.setCell ?_ ?_ _))); all_goals (first | omega | (simp; done) | (simp; omega))) hb2); have lVp := Vp.out.lt; have Vx := Lib.hid (Blk.hop Vx.out (by (repeat (any_goals (first | exact Below.refl _ _ | refine below_drewN ?_ _ | refine Below.drew ?_ | refine Below.alloc ?_ ?_ _ | refine Below.setCell ?_ ?_ _))); all_goals (first | omega | (simp; done) | (simp; omega))) hb2); have lVx := Vx.out.lt; have zhb2 := hb2.size; (try simp only [World.size_alloc, World.size_drew, World.size_setCell, size_drewN'] at zhb2); have HB2 := Lib.hid hb2; clear hb2
      have k2 : w2.cell? ⟨w.heap.size + 1, 0, none⟩ = some (.slice X l.length cx) := Vx.out.cell 0
      have k3 : w2.cell? ⟨w.heap.size, 0, none⟩ = some (.slice A p.costs.length c) := Vp.out.cell 0
      go_wp2_with fail
      go_ret
      exact ⟨rfl, (by (repeat (any_goals (first | exact Below.refl _ _ | exact HB1.out | exact HB2.out | refine below_drewN ?_ _ | refine Below.drew ?_ | refine Below.alloc ?_ ?_ _ | refine Below.setCell ?_ ?_ _ | refine Below.trans ?_ (Below.mono HB1.out ?_) | refine Below.trans ?_ (Below.mono HB2.out ?_)))); all_goals (first | omega | (simp; done) | (simp; omega) | ((try have z0 := HB1.out.size); (try simp at z0); (try have z1 := HB2.out.size); (try simp at z1); (try simp); omega)))⟩


set_option maxHeartbeats 1000000 in
theorem ref2_Goes (A : Option Addr) (c : Nat) (A2 : Option Addr) (c2 : Nat) (p : PG) (X : Option Addr) (l : List Int) (cx : Nat) (d : Int) (w : World) (hp : Pg w A c A2 c2 p) (hx : Rd w X cx l) :
    Calls Try.prog 70 #[.agg #[.slice A p.costs.length c, .slice A2 p.rows.length c2], .agg #[.slice X l.length cx, .int .i64 d]] w fun e w' => e = .returned (.bool (goesB p l d)) ∧ Below w.heap.size w w' := by
  have HP := Lib.hid hp
  have HX := Lib.hid hx
  obtain ⟨⟨hl, hc, hsm, _⟩, ⟨hl2, hc2, hsm2, _⟩⟩ := hp
  obtain ⟨hlx, hcx, hsx, _⟩ := hx
  cases h1 : fitsB p l d with
  | false =>
    have hv : goesB p l d = false := by simp [goesB, h1]
    rw [hv]
    clear hv
    go_enter Try.func70, Try.ntmps70
    go_wp2_with fail
    refine (ref2_Fits _ _ _ _ _ _ _ _ _ _ (by exact HP.out.below (by (repeat (any_goals (first | exact Below.refl _ _ | refine below_drewN ?_ _ | refine Below.drew ?_ | refine Below.alloc ?_ ?_ _ | refine Below.setCell ?_ ?_ _))); all_goals (first | omega | (simp; done) | (simp; omega)))) (by exact HX.out.below (by (repeat (any_goals (first | exact Below.refl _ _ | refine below_drewN ?_ _ | refine Below.drew ?_ | refine Below.alloc ?_ ?_ _ | refine Below.setCell ?_ ?_ _))); all_goals (first | omega | (simp; done) | (simp; omega))))).mono ?_
    rintro e w1 ⟨rfl, hb1⟩
    rw [h1]
    have HB1 := Lib.hid hb1
    clear hb1
    go_wp2_with fail
    go_ret
    exact ⟨rfl, (by (repeat (any_goals (first | exact Below.refl _ _ | exact HB1.out | refine below_drewN ?_ _ | refine Below.drew ?_ | refine Below.alloc ?_ ?_ _ | refine Below.setCell ?_ ?_ _ | refine Below.trans ?_ (Below.mono HB1.out ?_)))); all_goals (first | omega | (simp; done) | (simp; omega) | ((try have z0 := HB1.out.size); (try simp at z0); (try simp); omega)))⟩
  | true =>
    obtain ⟨hf1, hf2, hf3⟩ := fitsB_iff.1 h1
    obtain ⟨hd1, hd2, hsX, hl8⟩ := mayB_parts hf2
    have HF1 := Lib.hid hf1
    have HSX := Lib.hid hsX
    have H3 := Lib.hid hf3
    have hv : goesB p l d = (nonneg l && p.rows.all fun r => decide (dot r.1 l ≤ r.2 * d)) := by simp [goesB, h1]
    have HV := Lib.hid hv
    clear hf1 hf2 hsX hf3 hv
    go_enter Try.func70, Try.ntmps70
    go_wp2_with fail
    refine (ref2_Fits _ _ _ _ _ _ _ _ _ _ (by exact HP.out.below (by (repeat (any_goals (first | exact Below.refl _ _ | refine below_drewN ?_ _ | refine Below.drew ?_ | refine Below.alloc ?_ ?_ _ | refine Below.setCell ?_ ?_ _))); all_goals (first | omega | (simp; done) | (simp; omega)))) (by exact HX.out.below (by (repeat (any_goals (first | exact Below.refl _ _ | refine below_drewN ?_ _ | refine Below.drew ?_ | refine Below.alloc ?_ ?_ _ | refine Below.setCell ?_ ?_ _))); all_goals (first | omega | (simp; done) | (simp; omega))))).mono ?_
    rintro e w1 ⟨rfl, hb1⟩
    rw [h1]
    have Vp0 := Blk.next (Blk.alloc (Blk.mk' _ _ _) _) hb1; (try simp only [World.size_alloc, World.size_drew, World.size_setCell, size_drewN'] at Vp0); have Vp := Lib.hid Vp0; clear Vp0; have lVp := Vp.out.lt; have Vx0 := Blk.next (Blk.mk' _ _ _) hb1; (try simp only [World.size_alloc, World.size_drew, World.size_setCell, size_drewN'] at Vx0); have Vx := Lib.hid Vx0; clear Vx0; have lVx := Vx.out.lt; have HX := Lib.hid (HX.out.hop (by (repeat (any_goals (first | exact Below.refl _ _ | refine below_drewN ?_ _ | refine Below.drew ?_ | refine Below.alloc ?_ ?_ _ | refine Below.setCell ?_ ?_ _))); all_goals (first | omega | (simp; done) | (simp; omega))) hb1); have HP := Lib.hid (HP.out.hop (by (repeat (any_goals (first | exact Below.refl _ _ | refine below_drewN ?_ _ | refine Below.drew ?_ | refine Below.alloc ?_ ?_ _ | refine Below.setCell ?_ ?_ _))); all_goals (first | omega | (simp; done) | (simp; omega))) hb1); have zhb1 := hb1.size; (try simp only [World.size_alloc, World.size_drew, World.size_setCell, size_drewN'] at zhb1); have HB1 := Lib.hid hb1; clear hb1
    have k0 : w1.cell? ⟨w.heap.size + 1, 0, none⟩ = some (.slice X l.length cx) := Vx.out.cell 0
    have k1 : w1.cell? ⟨w.heap.size + 1, 1, none⟩ = some (.int .i64 d) := Vx.out.cell 1
    have k2 : w1.cell? ⟨w.heap.size, 1, none⟩ = some (.slice A2 p.rows.length c2) := Vp.out.cell 1
    clear h1
    go_wp2_with fail
    go_loop [5] (fun i => ∃ k : Nat, k ≤ l.length ∧ i = .int .i64 k ∧ nonneg (l.take k) = true) (fun i => l.length - (intOf i).toNat)
    case atStart => exact ⟨0, by omega, rfl, rfl⟩
    case round =>
      obtain ⟨k, hk, rfl, hall⟩ := hrel
      have HA := Lib.hid hall
      clear hall
      by_cases hlt : k < l.length
      · obtain ⟨ad, rfl, hc1⟩ := HX.out.at_ hlt
        have hi0 : (k : Int) < (l.length : Int) := by omega
        by_cases hn : l[k] < 0
        · go_wp2_with fail
          go_ret
          exact ⟨ret_bool (by rw [HV.out]; unfold nonneg; rw [all_false hlt (by simp; omega)]; rfl), (by (repeat (any_goals (first | exact Below.refl _ _ | exact HB1.out | refine below_drewN ?_ _ | refine Below.drew ?_ | refine Below.alloc ?_ ?_ _ | refine Below.setCell ?_ ?_ _ | refine Below.trans ?_ (Below.mono HB1.out ?_)))); all_goals (first | omega | (simp; done) | (simp; omega) | ((try have z0 := HB1.out.size); (try simp at z0); (try simp); omega)))⟩
        · go_wp2_with fail
          go_round
          case rel => exact ⟨k + 1, by omega, by go_num, by have := HA.out; unfold nonneg at this ⊢; rw [all_take hlt, this]; simp; omega⟩
          case measure => simp [intOf]; omega
      · obtain rfl : k = l.length := by omega
        have HN := Lib.hid (show nonneg l = true by have := HA.out; rwa [List.take_length] at this)
        clear HA
        go_wp2_with fail
        go_loopw [6] (fun i wr => ∃ k n : Nat, k ≤ p.rows.length ∧ i = .int .i64 k ∧ ((p.rows.take k).all fun r => decide (dot r.1 l ≤ r.2 * d)) = true ∧ wr = w1.drewN n) (fun i _ => p.rows.length - (intOf i).toNat)
        case atStart => exact ⟨0, 0, by omega, rfl, rfl, rfl⟩
        case round =>
          obtain ⟨k, n, hk, rfl, hall, rfl⟩ := hrel
          have HA := Lib.hid hall
          clear hall
          by_cases hlt' : k < p.rows.length
          · obtain ⟨ad, A', c', rfl, hc1, hc2', hr⟩ := HP.out.rows.at_ hlt'
            obtain ⟨hq1, ⟨hq2, hq3⟩, hq4⟩ := mayPB_row HF1.out hlt'
            have HR := Lib.hid hr
            have hi2 : (k : Int) < (p.rows.length : Int) := by omega
            have HT := Lib.hid (all_take (f := fun r : List Int × Int => decide (dot r.1 l ≤ r.2 * d)) hlt')
            have HF := Lib.hid (all_false (f := fun r : List Int × Int => decide (dot r.1 l ≤ r.2 * d)) hlt')
            have hmb := mul_bound p.rows[k].2 d 12 1073741824 hq2 hq3 (by omega) (by omega)
            have HQ4 := Lib.hid hq4
            have HQ1 := Lib.hid (show p.rows[k].1.length = l.length by rw [hq1, H3.out])
            have hle4 : p.rows[k].1.length ≤ 4 := by have := (mayPB_iff.1 HF1.out).2.1; omega
            generalize hr1 : p.rows[k].1 = r1 at *
            generalize hr2 : p.rows[k].2 = r2 at *
            have HD := Lib.hid (show ∀ W : World, Rd W A' c' r1 → Rd W X cx l → Calls Try.prog 16 #[.slice A' r1.length c', .slice X l.length cx] W fun e w' => e = .returned (.int .i64 (dot r1 l)) ∧ ∃ n, w' = W.drewN n from
              fun W h1 h2 => ref2_Dot A' r1 c' X l cx 12 1073741824 W h1 h2 (by have := HQ1.out; omega) (by omega) (by omega) HQ4.out HSX.out (by omega))
            obtain ⟨hmb1, hmb2⟩ := hmb
            have hw1 : IntKind.i64.wrap (r2 * d) = r2 * d := IntWalk.i64_in _ (by omega)
            clear hr hr1 hr2 hq1 hq4 hmb1 hmb2
            by_cases hle : dot r1 l ≤ r2 * d
            · go_wp2_with fail
              go_quiet ((go_at_call 16; exact quiet_more (HD.out _ (by exact HR.out.drewN _) (by exact HX.out.drewN _))))
              go_wp2_with fail
              go_roundw
              case rel => exact ⟨k + 1, _, by omega, by go_num, by rw [HT.out, HA.out]; simp [hle], rfl⟩
              case measure => simp [intOf]; omega
            · go_wp2_with fail
              go_quiet ((go_at_call 16; exact quiet_more (HD.out _ (by exact HR.out.drewN _) (by exact HX.out.drewN _))))
              go_wp2_with fail
              go_ret
              exact ⟨ret_bool (by rw [HV.out, HF.out (by simp; omega), HN.out]; rfl), (by (repeat (any_goals (first | exact Below.refl _ _ | exact HB1.out | refine below_drewN ?_ _ | refine Below.drew ?_ | refine Below.alloc ?_ ?_ _ | refine Below.setCell ?_ ?_ _ | refine Below.trans ?_ (Below.mono HB1.out ?_)))); all_goals (first | omega | (simp; done) | (simp; omega) | ((try have z0 := HB1.out.size); (try simp at z0); (try simp); omega)))⟩
          · obtain rfl : k = p.rows.length := by omega
            go_wp2_with fail
            go_ret
            exact ⟨ret_bool (by rw [HV.out, HN.out]; have := HA.out; rw [List.take_length] at this; rw [this]; rfl), (by (repeat (any_goals (first | exact Below.refl _ _ | exact HB1.out | refine below_drewN ?_ _ | refine Below.drew ?_ | refine Below.alloc ?_ ?_ _ | refine Below.setCell ?_ ?_ _ | refine Below.trans ?_ (Below.mono HB1.out ?_)))); all_goals (first | omega | (simp; done) | (simp; omega) | ((try have z0 := HB1.out.size); (try simp at z0); (try simp); omega)))⟩
end Go.Proofs.Ytjcdkbalhleeeab
