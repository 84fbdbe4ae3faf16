/-
  Walks: layout.fits, Goes, Worth compute what the plain words say.
-/
import Derived.Test.YtjcdkbalhleeeabLay1
import Derived.Test.YtjcdkbalhleeeabFrac3
namespace Go.Proofs.Ytjcdkbalhleeeab
open Go.RowKit

theorem layout_fits (A : Option Addr) (c : Nat) (A2 : Option Addr) (c2 : Nat) (p : PG) (X : Option Addr) (l : List Int) (cx : Nat) (d : Int) (w : World) (hp : Pg w A c A2 c2 p) (hx : Rd w X cx l) :
    Calls Try.prog 79 #[.agg #[.slice A p.costs.length c, .slice A2 p.rows.length c2], .agg #[.slice X l.length cx, .int .i64 d]] w fun e w' => e = .returned (.bool (fitsB p l d)) ∧ Below w.heap.size w w' := by
  have HP := Lib.hid hp
  have HX := Lib.hid hx
  obtain ⟨⟨hl, hc, hsm, _⟩, ⟨hl2, hc2, hsm2, _⟩⟩ := hp
  obtain ⟨hlx, hcx, hsx, _⟩ := hx
  cases h1 : mayPB p with
  | false =>
    have hv : fitsB p l d = false := by simp [fitsB, h1]
    rw [hv]
    clear hv
    go_enter Try.func79, Try.ntmps79
    go_wp2_with fail
    refine (layout_May _ _ _ _ _ _ (by exact HP.out.below (by (repeat (any_goals (first | exact Below.refl _ _ | refine below_drewN ?_ _ | refine Below.drew ?_ | refine Below.alloc ?_ ?_ _ | refine Below.setCell ?_ ?_ _))); all_goals (first | omega | (simp; done) | (simp; omega))))).mono ?_
    rintro e w1 ⟨rfl, hb1⟩
    rw [h1]
    have HB1 := Lib.hid hb1
    clear hb1
    go_wp2_with fail
    go_ret
    exact ⟨rfl, (by (repeat (any_goals (first | exact Below.refl _ _ | exact HB1.out | refine below_drewN ?_ _ | refine Below.drew ?_ | refine Below.alloc ?_ ?_ _ | refine Below.setCell ?_ ?_ _ | refine Below.trans ?_ (Below.mono HB1.out ?_)))); all_goals (first | omega | (simp; done) | (simp; omega) | ((try have z0 := HB1.out.size); (try simp at z0); (try simp); omega)))⟩
  | true =>
    cases h2 : mayB l d with
    | false =>
      have hv : fitsB p l d = false := by simp [fitsB, h2]
      rw [hv]
      clear hv
      go_enter Try.func79, Try.ntmps79
      go_wp2_with fail
      refine (layout_May _ _ _ _ _ _ (by exact HP.out.below (by (repeat (any_goals (first | exact Below.refl _ _ | refine below_drewN ?_ _ | refine Below.drew ?_ | refine Below.alloc ?_ ?_ _ | refine Below.setCell ?_ ?_ _))); all_goals (first | omega | (simp; done) | (simp; omega))))).mono ?_
      rintro e w1 ⟨rfl, hb1⟩
      rw [h1]
      have Vp0 := Blk.next (Blk.alloc (Blk.mk' _ _ _) _) hb1; (try simp only [World.size_alloc, World.size_drew, World.size_setCell, size_drewN'] at Vp0); have Vp := Lib.hid Vp0; clear Vp0; have lVp := Vp.out.lt; have Vx0 := Blk.next (Blk.mk' _ _ _) hb1; (try simp only [World.size_alloc, World.size_drew, World.size_setCell, size_drewN'] at Vx0); have Vx := Lib.hid Vx0; clear Vx0; have lVx := Vx.out.lt; have HX := Lib.hid (HX.out.hop (by (repeat (any_goals (first | exact Below.refl _ _ | refine below_drewN ?_ _ | refine Below.drew ?_ | refine Below.alloc ?_ ?_ _ | refine Below.setCell ?_ ?_ _))); all_goals (first | omega | (simp; done) | (simp; omega))) hb1); have zhb1 := hb1.size; (try simp only [World.size_alloc, World.size_drew, World.size_setCell, size_drewN'] at zhb1); have HB1 := Lib.hid hb1; clear hb1
      have k0 : w1.cell? ⟨w.heap.size + 1, 0, none⟩ = some (.slice X l.length cx) := Vx.out.cell 0
      have k1 : w1.cell? ⟨w.heap.size + 1, 1, none⟩ = some (.int .i64 d) := Vx.out.cell 1
      go_wp2_with fail
      refine (frac_MayPoint _ _ _ _ _ HX.out).mono ?_
      rintro e w2 ⟨rfl, hb2⟩
      rw [h2]
      have HB2 := Lib.hid hb2
      clear hb2
      go_wp2_with fail
      go_ret
      exact ⟨rfl, (by (repeat (any_goals (first | exact Below.refl _ _ | exact HB1.out | exact HB2.out | refine below_drewN ?_ _ | refine Below.drew ?_ | refine Below.alloc ?_ ?_ _ | refine Below.setCell ?_ ?_ _ | refine Below.trans ?_ (Below.mono HB1.out ?_) | refine Below.trans ?_ (Below.mono HB2.out ?_)))); all_goals (first | omega | (simp; done) | (simp; omega) | ((try have z0 := HB1.out.size); (try simp at z0); (try have z1 := HB2.out.size); (try simp at z1); (try simp); omega)))⟩
    | true =>
      have hv : fitsB p l d = ((l.length : Int) == (p.costs.length : Int)) := by rw [Bool.eq_iff_iff]; simp [fitsB, h1, h2]; omega
      rw [hv]
      clear hv
      go_enter Try.func79, Try.ntmps79
      go_wp2_with fail
      refine (layout_May _ _ _ _ _ _ (by exact HP.out.below (by (repeat (any_goals (first | exact Below.refl _ _ | refine below_drewN ?_ _ | refine Below.drew ?_ | refine Below.alloc ?_ ?_ _ | refine Below.setCell ?_ ?_ _))); all_goals (first | omega | (simp; done) | (simp; omega))))).mono ?_
      rintro e w1 ⟨rfl, hb1⟩
      rw [h1]
      have Vp0 := Blk.next (Blk.alloc (Blk.mk' _ _ _) _) hb1; (try simp only [World.size_alloc, World.size_drew, World.size_setCell, size_drewN'] at Vp0); have Vp := Lib.hid Vp0; clear Vp0; have lVp := Vp.out.lt; have Vx0 := Blk.next (Blk.mk' _ _ _) hb1; (try simp only [World.size_alloc, World.size_drew, World.size_setCell, size_drewN'] at Vx0); have Vx := Lib.hid Vx0; clear Vx0; have lVx := Vx.out.lt; have HX := Lib.hid (HX.out.hop (by (repeat (any_goals (first | exact Below.refl _ _ | refine below_drewN ?_ _ | refine Below.drew ?_ | refine Below.alloc ?_ ?_ _ | refine Below.setCell ?_ ?_ _))); all_goals (first | omega | (simp; done) | (simp; omega))) hb1); have zhb1 := hb1.size; (try simp only [World.size_alloc, World.size_drew, World.size_setCell, size_drewN'] at zhb1); have HB1 := Lib.hid hb1; clear hb1
      have k0 : w1.cell? ⟨w.heap.size + 1, 0, none⟩ = some (.slice X l.length cx) := Vx.out.cell 0
      have k1 : w1.cell? ⟨w.heap.size + 1, 1, none⟩ = some (.int .i64 d) := Vx.out.cell 1
      go_wp2_with fail
      refine (frac_MayPoint _ _ _ _ _ HX.out).mono ?_
      rintro e w2 ⟨rfl, hb2⟩
      rw [h2]
      have Vp := Lib.hid (Blk.hop Vp.out (by (repeat (any_goals (first | exact Below.refl _ _ | refine below_drewN ?_ _ | refine Below.drew ?_ | refine Below.alloc ?_ ?_ _ | refine Below.setCell ?_ ?_ _))); all_goals (first | omega | (simp; done) | (simp; omega))) hb2); have lVp := Vp.out.lt; have Vx := Lib.hid (Blk.hop Vx.out (by (repeat (any_goals (first | exact Below.refl _ _ | refine below_drewN ?_ _ | refine Below.drew ?_ | refine Below.alloc ?_ ?_ _ | refine Below.setCell ?_ ?_ _))); all_goals (first | omega | (simp; done) | (simp; omega))) hb2); have lVx := Vx.out.lt; have zhb2 := hb2.size; (try simp only [World.size_alloc, World.size_drew, World.size_setCell, size_drewN'] at zhb2); have HB2 := Lib.hid hb2; clear hb2
      have k2 : w2.cell? ⟨w.heap.size + 1, 0, none⟩ = some (.slice X l.length cx) := Vx.out.cell 0
      have k3 : w2.cell? ⟨w.heap.size, 0, none⟩ = some (.slice A p.costs.length c) := Vp.out.cell 0
      go_wp2_with fail
      go_ret
      exact ⟨rfl, (by (repeat (any_goals (first | exact Below.refl _ _ | exact HB1.out | exact HB2.out | refine below_drewN ?_ _ | refine Below.drew ?_ | refine Below.alloc ?_ ?_ _ | refine Below.setCell ?_ ?_ _ | refine Below.trans ?_ (Below.mono HB1.out ?_) | refine Below.trans ?_ (Below.mono HB2.out ?_)))); all_goals (first | omega | (simp; done) | (simp; omega) | ((try have z0 := HB1.out.size); (try simp at z0); (try have z1 := HB2.out.size); (try simp at z1); (try simp); omega)))⟩

set_option maxHeartbeats 1000000 in
theorem layout_Goes (A : Option Addr) (c : Nat) (A2 : Option Addr) (c2 : Nat) (p : PG) (X : Option Addr) (l : List Int) (cx : Nat) (d : Int) (w : World) (hp : Pg w A c A2 c2 p) (hx : Rd w X cx l) :
    Calls Try.prog 28 #[.agg #[.slice A p.costs.length c, .slice A2 p.rows.length c2], .agg #[.slice X l.length cx, .int .i64 d]] w fun e w' => e = .returned (.bool (goesB p l d)) ∧ Below w.heap.size w w' := by
  have HP := Lib.hid hp
  have HX := Lib.hid hx
  obtain ⟨⟨hl, hc, hsm, _⟩, ⟨hl2, hc2, hsm2, _⟩⟩ := hp
  obtain ⟨hlx, hcx, hsx, _⟩ := hx
  cases h1 : fitsB p l d with
  | false =>
    have hv : goesB p l d = false := by simp [goesB, h1]
    rw [hv]
    clear hv
    go_enter Try.func28, Try.ntmps28
    go_wp2_with fail
    refine (layout_fits _ _ _ _ _ _ _ _ _ _ (by exact HP.out.below (by (repeat (any_goals (first | exact Below.refl _ _ | refine below_drewN ?_ _ | refine Below.drew ?_ | refine Below.alloc ?_ ?_ _ | refine Below.setCell ?_ ?_ _))); all_goals (first | omega | (simp; done) | (simp; omega)))) (by exact HX.out.below (by (repeat (any_goals (first | exact Below.refl _ _ | refine below_drewN ?_ _ | refine Below.drew ?_ | refine Below.alloc ?_ ?_ _ | refine Below.setCell ?_ ?_ _))); all_goals (first | omega | (simp; done) | (simp; omega))))).mono ?_
    rintro e w1 ⟨rfl, hb1⟩
    rw [h1]
    have HB1 := Lib.hid hb1
    clear hb1
    go_wp2_with fail
    go_ret
    exact ⟨rfl, (by (repeat (any_goals (first | exact Below.refl _ _ | exact HB1.out | refine below_drewN ?_ _ | refine Below.drew ?_ | refine Below.alloc ?_ ?_ _ | refine Below.setCell ?_ ?_ _ | refine Below.trans ?_ (Below.mono HB1.out ?_)))); all_goals (first | omega | (simp; done) | (simp; omega) | ((try have z0 := HB1.out.size); (try simp at z0); (try simp); omega)))⟩
  | true =>
    obtain ⟨hf1, hf2, hf3⟩ := fitsB_iff.1 h1
    obtain ⟨hd1, hd2, hsX, hl8⟩ := mayB_parts hf2
    have HF1 := Lib.hid hf1
    have HSX := Lib.hid hsX
    have H3 := Lib.hid hf3
    have hv : goesB p l d = (nonneg l && p.rows.all fun r => decide (dot r.1 l ≤ r.2 * d)) := by simp [goesB, h1]
    have HV := Lib.hid hv
    clear hf1 hf2 hsX hf3 hv
    go_enter Try.func28, Try.ntmps28
    go_wp2_with fail
    refine (layout_fits _ _ _ _ _ _ _ _ _ _ (by exact HP.out.below (by (repeat (any_goals (first | exact Below.refl _ _ | refine below_drewN ?_ _ | refine Below.drew ?_ | refine Below.alloc ?_ ?_ _ | refine Below.setCell ?_ ?_ _))); all_goals (first | omega | (simp; done) | (simp; omega)))) (by exact HX.out.below (by (repeat (any_goals (first | exact Below.refl _ _ | refine below_drewN ?_ _ | refine Below.drew ?_ | refine Below.alloc ?_ ?_ _ | refine Below.setCell ?_ ?_ _))); all_goals (first | omega | (simp; done) | (simp; omega))))).mono ?_
    rintro e w1 ⟨rfl, hb1⟩
    rw [h1]
    have Vp0 := Blk.next (Blk.alloc (Blk.mk' _ _ _) _) hb1; (try simp only [World.size_alloc, World.size_drew, World.size_setCell, size_drewN'] at Vp0); have Vp := Lib.hid Vp0; clear Vp0; have lVp := Vp.out.lt; have Vx0 := Blk.next (Blk.mk' _ _ _) hb1; (try simp only [World.size_alloc, World.size_drew, World.size_setCell, size_drewN'] at Vx0); have Vx := Lib.hid Vx0; clear Vx0; have lVx := Vx.out.lt; have HX := Lib.hid (HX.out.hop (by (repeat (any_goals (first | exact Below.refl _ _ | refine below_drewN ?_ _ | refine Below.drew ?_ | refine Below.alloc ?_ ?_ _ | refine Below.setCell ?_ ?_ _))); all_goals (first | omega | (simp; done) | (simp; omega))) hb1); have HP := Lib.hid (HP.out.hop (by (repeat (any_goals (first | exact Below.refl _ _ | refine below_drewN ?_ _ | refine Below.drew ?_ | refine Below.alloc ?_ ?_ _ | refine Below.setCell ?_ ?_ _))); all_goals (first | omega | (simp; done) | (simp; omega))) hb1); have zhb1 := hb1.size; (try simp only [World.size_alloc, World.size_drew, World.size_setCell, size_drewN'] at zhb1); have HB1 := Lib.hid hb1; clear hb1
    have k0 : w1.cell? ⟨w.heap.size + 1, 0, none⟩ = some (.slice X l.length cx) := Vx.out.cell 0
    have k1 : w1.cell? ⟨w.heap.size + 1, 1, none⟩ = some (.int .i64 d) := Vx.out.cell 1
    have k2 : w1.cell? ⟨w.heap.size, 1, none⟩ = some (.slice A2 p.rows.length c2) := Vp.out.cell 1
    clear h1
    go_wp2_with fail
    go_loop [16] (fun i => ∃ k : Nat, k ≤ l.length ∧ i = .int .i64 k ∧ nonneg (l.take k) = true) (fun i => l.length - (intOf i).toNat)
    case atStart => exact ⟨0, by omega, rfl, rfl⟩
    case round =>
      obtain ⟨k, hk, rfl, hall⟩ := hrel
      have HA := Lib.hid hall
      clear hall
      by_cases hlt : k < l.length
      · obtain ⟨ad, rfl, hc1⟩ := HX.out.at_ hlt
        by_cases hn : l[k] < 0
        · go_wp2_with fail
          go_ret
          exact ⟨ret_bool (by rw [HV.out]; unfold nonneg; rw [all_false hlt (by simp; omega)]; rfl), (by (repeat (any_goals (first | exact Below.refl _ _ | exact HB1.out | refine below_drewN ?_ _ | refine Below.drew ?_ | refine Below.alloc ?_ ?_ _ | refine Below.setCell ?_ ?_ _ | refine Below.trans ?_ (Below.mono HB1.out ?_)))); all_goals (first | omega | (simp; done) | (simp; omega) | ((try have z0 := HB1.out.size); (try simp at z0); (try simp); omega)))⟩
        · go_wp2_with fail
          go_round
          case rel => exact ⟨k + 1, by omega, by go_num, by have := HA.out; unfold nonneg at this ⊢; rw [all_take hlt, this]; simp; omega⟩
          case measure => simp [intOf]; omega
      · obtain rfl : k = l.length := by omega
        have HN := Lib.hid (show nonneg l = true by have := HA.out; rwa [List.take_length] at this)
        clear HA
        go_wp2_with fail
        go_loopw [26] (fun i wr => ∃ k : Nat, k ≤ p.rows.length ∧ i = .int .i64 k ∧ ((p.rows.take k).all fun r => decide (dot r.1 l ≤ r.2 * d)) = true ∧ Below w1.heap.size w1 wr) (fun i _ => p.rows.length - (intOf i).toNat)
        case atStart => exact ⟨0, by omega, rfl, rfl, Below.refl _ _⟩
        case round =>
          obtain ⟨k, hk, rfl, hall, hbel⟩ := hrel
          have HA := Lib.hid hall
          have HPr := Lib.hid (HP.out.below hbel)
          have HXr := Lib.hid (HX.out.below hbel)
          have Vxr := Lib.hid (Vx.out.next hbel)
          have zL := hbel.size
          have HL := Lib.hid hbel
          clear hall hbel
          by_cases hlt' : k < p.rows.length
          · obtain ⟨ad, A', c', rfl, hc1, hc2', hr⟩ := HPr.out.rows.at_ hlt'
            have hadl := World.block_lt_of_cell? _ _ hc1
            obtain ⟨hq1, ⟨hq2, hq3⟩, hq4⟩ := mayPB_row HF1.out hlt'
            have HR := Lib.hid hr
            have HT := Lib.hid (all_take (f := fun r : List Int × Int => decide (dot r.1 l ≤ r.2 * d)) hlt')
            have HF := Lib.hid (all_false (f := fun r : List Int × Int => decide (dot r.1 l ≤ r.2 * d)) hlt')
            have hdb := dot_bound (a := p.rows[k].1) (b := l) hq4 HSX.out (by omega) (by omega)
            have hmb := mul_bound p.rows[k].2 d 12 1073741824 hq2 hq3 (by omega) (by omega)
            have HQ4 := Lib.hid hq4
            have HQ1 := Lib.hid (show p.rows[k].1.length = l.length by rw [hq1, H3.out])
            have hle4 : p.rows[k].1.length ≤ 4 := by have := (mayPB_iff.1 HF1.out).2.1; omega
            have kx0 : wr.cell? ⟨w.heap.size + 1, 0, none⟩ = some (.slice X l.length cx) := Vxr.out.cell 0
            have kx1 : wr.cell? ⟨w.heap.size + 1, 1, none⟩ = some (.int .i64 d) := Vxr.out.cell 1
            have kxl := Vxr.out.lt
            generalize hr1 : p.rows[k].1 = r1 at *
            generalize hr2 : p.rows[k].2 = r2 at *
            have HR1 := Lib.hid hr1
            have HR2 := Lib.hid hr2
            have HD := Lib.hid (show ∀ W : World, Rd W A' c' r1 → Rd W X cx l → Calls Try.prog 80 #[.slice A' r1.length c', .slice X l.length cx] W fun e w' => e = .returned (.int .i64 (dot r1 l)) ∧ ∃ n, w' = W.drewN n from
              fun W h1 h2 => layout_Dot A' r1 c' X l cx 12 1073741824 W h1 h2 (by have := HQ1.out; omega) (by omega) (by omega) HQ4.out HSX.out (by omega))
            obtain ⟨hmb1, hmb2⟩ := hmb
            have hw1 : IntKind.i64.wrap (r2 * d) = r2 * d := IntWalk.i64_in _ (by omega)
            clear hr hr1 hr2 hq1 hq4 hdb hmb1 hmb2
            by_cases hle : dot r1 l ≤ r2 * d
            · go_wp2_with fail
              go_quiet ((go_at_call 80; exact Calls.quiet_of (HD.out _ (by exact (HR.out.alloc _).drewN _) (by exact (HXr.out.alloc _).drewN _))))
              go_wp2_with fail
              go_roundw
              case rel => exact ⟨k + 1, by omega, by go_num, by rw [HT.out, HA.out]; simp [hle], (by (repeat (any_goals (first | exact Below.refl _ _ | exact HL.out | refine below_drewN ?_ _ | refine Below.drew ?_ | refine Below.alloc ?_ ?_ _ | refine Below.setCell ?_ ?_ _ | refine Below.trans ?_ (Below.mono HL.out ?_)))); all_goals (first | omega | (simp; done) | (simp; omega) | ((try have z0 := HL.out.size); (try simp at z0); (try simp); omega)))⟩
              case measure => simp [intOf]; omega
            · go_wp2_with fail
              go_quiet ((go_at_call 80; exact Calls.quiet_of (HD.out _ (by exact (HR.out.alloc _).drewN _) (by exact (HXr.out.alloc _).drewN _))))
              go_wp2_with fail
              go_ret
              exact ⟨ret_bool (by rw [HV.out, HF.out (by simp; omega), HN.out]; rfl), (by (repeat (any_goals (first | exact Below.refl _ _ | exact HB1.out | exact HL.out | refine below_drewN ?_ _ | refine Below.drew ?_ | refine Below.alloc ?_ ?_ _ | refine Below.setCell ?_ ?_ _ | refine Below.trans ?_ (Below.mono HB1.out ?_) | refine Below.trans ?_ (Below.mono HL.out ?_)))); all_goals (first | omega | (simp; done) | (simp; omega) | ((try have z0 := HB1.out.size); (try simp at z0); (try have z1 := HL.out.size); (try simp at z1); (try simp); omega)))⟩
          · obtain rfl : k = p.rows.length := by omega
            go_wp2_with fail
            go_ret
            exact ⟨ret_bool (by rw [HV.out, HN.out]; have := HA.out; rw [List.take_length] at this; rw [this]; rfl), (by (repeat (any_goals (first | exact Below.refl _ _ | exact HB1.out | exact HL.out | refine below_drewN ?_ _ | refine Below.drew ?_ | refine Below.alloc ?_ ?_ _ | refine Below.setCell ?_ ?_ _ | refine Below.trans ?_ (Below.mono HB1.out ?_) | refine Below.trans ?_ (Below.mono HL.out ?_)))); all_goals (first | omega | (simp; done) | (simp; omega) | ((try have z0 := HB1.out.size); (try simp at z0); (try have z1 := HL.out.size); (try simp at z1); (try simp); omega)))⟩

set_option maxRecDepth 100000 in
theorem layout_Worth (A : Option Addr) (c : Nat) (A2 : Option Addr) (c2 : Nat) (p : PG) (X : Option Addr) (l : List Int) (cx : Nat) (d : Int) (w : World) (hp : Pg w A c A2 c2 p) (hx : Rd w X cx l) :
    Calls Try.prog 29 #[.agg #[.slice A p.costs.length c, .slice A2 p.rows.length c2], .agg #[.slice X l.length cx, .int .i64 d]] w
      (RetFr w (worN p l d) (worD p l d) (worE p l d)) := by
  unfold worN worD worE
  have HP := Lib.hid hp
  have HX := Lib.hid hx
  obtain ⟨⟨hl, hc, hsm, _⟩, ⟨hl2, hc2, hsm2, _⟩⟩ := hp
  obtain ⟨hlx, hcx, hsx, _⟩ := hx
  cases h1 : fitsB p l d with
  | false =>
    simp only [Bool.false_eq_true, if_false]
    go_enter Try.func29, Try.ntmps29
    go_wp2_with fail
    refine (layout_fits _ _ _ _ _ _ _ _ _ _ (by exact HP.out.below (by (repeat (any_goals (first | exact Below.refl _ _ | refine below_drewN ?_ _ | refine Below.drew ?_ | refine Below.alloc ?_ ?_ _ | refine Below.setCell ?_ ?_ _))); all_goals (first | omega | (simp; done) | (simp; omega)))) (by exact HX.out.below (by (repeat (any_goals (first | exact Below.refl _ _ | refine below_drewN ?_ _ | refine Below.drew ?_ | refine Below.alloc ?_ ?_ _ | refine Below.setCell ?_ ?_ _))); all_goals (first | omega | (simp; done) | (simp; omega))))).mono ?_
    rintro e w1 ⟨rfl, hb1⟩
    rw [h1]
    have Vp0 := Blk.next (Blk.alloc (Blk.alloc (Blk.mk' _ _ _) _) _) hb1; (try simp only [World.size_alloc, World.size_drew, World.size_setCell, size_drewN'] at Vp0); have Vp := Lib.hid Vp0; clear Vp0; have lVp := Vp.out.lt; have Vx0 := Blk.next (Blk.alloc (Blk.mk' _ _ _) _) hb1; (try simp only [World.size_alloc, World.size_drew, World.size_setCell, size_drewN'] at Vx0); have Vx := Lib.hid Vx0; clear Vx0; have lVx := Vx.out.lt; have Vr0 := Blk.next (Blk.mk' _ _ _) hb1; (try simp only [World.size_alloc, World.size_drew, World.size_setCell, size_drewN'] at Vr0); have Vr := Lib.hid Vr0; clear Vr0; have lVr := Vr.out.lt; have zhb1 := hb1.size; (try simp only [World.size_alloc, World.size_drew, World.size_setCell, size_drewN'] at zhb1); have HB1 := Lib.hid hb1; clear hb1
    have k0 : w1.cell? ⟨w.heap.size + 1 + 1, 0, none⟩ = some (.int .i64 0) := Vr.out.cell 0
    have k1 : w1.cell? ⟨w.heap.size + 1 + 1, 1, none⟩ = some (.int .i64 0) := Vr.out.cell 1
    have k2 := Vr.out.frozen 0
    have k3 := Vr.out.frozen 1
    go_wp2_with fail
    refine bodyPost_ret (v := .tuple #[.agg #[.int .i64 0, .int .i64 0], .int .i64 2]) (by simp [results, Try.results29, go_sem, k0, k1]) rfl ?_
    exact ⟨rfl, (by (repeat (any_goals (first | exact Below.refl _ _ | exact HB1.out | refine below_drewN ?_ _ | refine Below.drew ?_ | refine Below.alloc ?_ ?_ _ | refine Below.setCell ?_ ?_ _ | refine Below.trans ?_ (Below.mono HB1.out ?_)))); all_goals (first | omega | (simp; done) | (simp; omega) | ((try have z0 := HB1.out.size); (try simp at z0); (try simp); omega)))⟩
  | true =>
    simp only [if_true]
    obtain ⟨hf1, hf2, hf3⟩ := fitsB_iff.1 h1
    obtain ⟨hd1, hd2, hsX, hl8⟩ := mayB_parts hf2
    obtain ⟨g1, g2, g3, g4, g5, g6⟩ := mayPB_iff.1 hf1
    have HD := Lib.hid (show ∀ W : World, Rd W A c p.costs → Rd W X cx l → Calls Try.prog 80 #[.slice A p.costs.length c, .slice X l.length cx] W fun e w' => e = .returned (.int .i64 (dot p.costs l)) ∧ w' = W from
              fun W h1 h2 => layout_Dot0 A p.costs c X l cx 400 1073741824 W h1 h2 (by omega) (by omega) (by omega) g5 hsX (by omega))
    clear hf1 hf2 hf3 hsX g1 g2 g3 g4 g5 g6
    go_enter Try.func29, Try.ntmps29
    go_wp2_with fail
    refine (layout_fits _ _ _ _ _ _ _ _ _ _ (by exact HP.out.below (by (repeat (any_goals (first | exact Below.refl _ _ | refine below_drewN ?_ _ | refine Below.drew ?_ | refine Below.alloc ?_ ?_ _ | refine Below.setCell ?_ ?_ _))); all_goals (first | omega | (simp; done) | (simp; omega)))) (by exact HX.out.below (by (repeat (any_goals (first | exact Below.refl _ _ | refine below_drewN ?_ _ | refine Below.drew ?_ | refine Below.alloc ?_ ?_ _ | refine Below.setCell ?_ ?_ _))); all_goals (first | omega | (simp; done) | (simp; omega))))).mono ?_
    rintro e w1 ⟨rfl, hb1⟩
    rw [h1]
    clear h1
    have Vp0 := Blk.next (Blk.alloc (Blk.alloc (Blk.mk' _ _ _) _) _) hb1; (try simp only [World.size_alloc, World.size_drew, World.size_setCell, size_drewN'] at Vp0); have Vp := Lib.hid Vp0; clear Vp0; have lVp := Vp.out.lt; have Vx0 := Blk.next (Blk.alloc (Blk.mk' _ _ _) _) hb1; (try simp only [World.size_alloc, World.size_drew, World.size_setCell, size_drewN'] at Vx0); have Vx := Lib.hid Vx0; clear Vx0; have lVx := Vx.out.lt; have Vr0 := Blk.next (Blk.mk' _ _ _) hb1; (try simp only [World.size_alloc, World.size_drew, World.size_setCell, size_drewN'] at Vr0); have Vr := Lib.hid Vr0; clear Vr0; have lVr := Vr.out.lt; have HX := Lib.hid (HX.out.hop (by (repeat (any_goals (first | exact Below.refl _ _ | refine below_drewN ?_ _ | refine Below.drew ?_ | refine Below.alloc ?_ ?_ _ | refine Below.setCell ?_ ?_ _))); all_goals (first | omega | (simp; done) | (simp; omega))) hb1); have HP := Lib.hid (HP.out.hop (by (repeat (any_goals (first | exact Below.refl _ _ | refine below_drewN ?_ _ | refine Below.drew ?_ | refine Below.alloc ?_ ?_ _ | refine Below.setCell ?_ ?_ _))); all_goals (first | omega | (simp; done) | (simp; omega))) hb1); have zhb1 := hb1.size; (try simp only [World.size_alloc, World.size_drew, World.size_setCell, size_drewN'] at zhb1); have HB1 := Lib.hid hb1; clear hb1
    have k0 : w1.cell? ⟨w.heap.size + 1 + 1, 0, none⟩ = some (.int .i64 0) := Vr.out.cell 0
    have k1 : w1.cell? ⟨w.heap.size + 1 + 1, 1, none⟩ = some (.int .i64 0) := Vr.out.cell 1
    have k2 := Vr.out.frozen 0
    have k3 := Vr.out.frozen 1
    have k4 : w1.cell? ⟨w.heap.size, 0, none⟩ = some (.slice A p.costs.length c) := Vp.out.cell 0
    have k5 : w1.cell? ⟨w.heap.size + 1, 0, none⟩ = some (.slice X l.length cx) := Vx.out.cell 0
    have k6 : w1.cell? ⟨w.heap.size + 1, 1, none⟩ = some (.int .i64 d) := Vx.out.cell 1
    go_wp2_with fail
    have SK := Lib.hid (show ∀ w', Below (w.heap.size + 1 + 1) w1 w' → (w'.cell? ⟨w.heap.size, 0, none⟩ = some (.slice A p.costs.length c) ∧ w'.cell? ⟨w.heap.size + 1, 0, none⟩ = some (.slice X l.length cx) ∧ w'.cell? ⟨w.heap.size + 1, 1, none⟩ = some (.int .i64 d)) from fun w' h =>
      ⟨(Vp.out.below h (by omega)).cell 0, (Vx.out.below h (by omega)).cell 0, (Vx.out.below h (by omega)).cell 1⟩)
    have hlr := Vr.out.lt
    go_region_held3 (fun w' => (w'.cell? ⟨w.heap.size, 0, none⟩ = some (.slice A p.costs.length c) ∧ w'.cell? ⟨w.heap.size + 1, 0, none⟩ = some (.slice X l.length cx) ∧ w'.cell? ⟨w.heap.size + 1, 1, none⟩ = some (.int .i64 d)))
      (first | (refine SK.out _ ?_; exact (by (repeat (any_goals (first | exact Below.refl _ _ | exact hb3 | refine below_drewN ?_ _ | refine Below.drew ?_ | refine Below.alloc ?_ ?_ _ | refine Below.setCell ?_ ?_ _ | refine Below.trans ?_ (Below.mono hb3 ?_)))); all_goals (first | omega | (simp; done) | (simp; omega) | ((try have z0 := hb3.size); (try simp at z0); (try simp); omega)))))
      (first
        | (go_at_call 80; refine (HD.out _ (by exact HP.out.costs.drew) (by exact HX.out.drew)).mono ?_; rintro e w2 ⟨rfl, rfl⟩)
        | (go_at_call 81; refine (frac_Make _ _ _).mono ?_; rintro e w3 ⟨rfl, hb3⟩; have hV3 := Vr.out.drew.next hb3; have q0 : w3.cell? ⟨w.heap.size + 1 + 1, 0, none⟩ = some (.int .i64 0) := hV3.cell 0; have q1 : w3.cell? ⟨w.heap.size + 1 + 1, 1, none⟩ = some (.int .i64 0) := hV3.cell 1; have q2 := hV3.frozen 0; have q3 := hV3.frozen 1))
    have HB3 := Lib.hid hb3
    clear hb3
    go_wp2_with fail
    refine bodyPost_ret (v := .tuple #[.agg #[.int .i64 (frN (dot p.costs l) d), .int .i64 (ptD [dot p.costs l] d)], .int .i64 (ptE [dot p.costs l] d)]) (by simp [results, Try.results29, go_sem, q0, q1]) rfl ?_
    exact ⟨rfl, (by (repeat (any_goals (first | exact Below.refl _ _ | exact HB1.out | exact HB3.out | refine below_drewN ?_ _ | refine Below.drew ?_ | refine Below.alloc ?_ ?_ _ | refine Below.setCell ?_ ?_ _ | refine Below.trans ?_ (Below.mono HB1.out ?_) | refine Below.trans ?_ (Below.mono HB3.out ?_)))); all_goals (first | omega | (simp; done) | (simp; omega) | ((try have z0 := HB1.out.size); (try simp at z0); (try have z1 := HB3.out.size); (try simp at z1); (try simp); omega)))⟩
end Go.Proofs.Ytjcdkbalhleeeab
