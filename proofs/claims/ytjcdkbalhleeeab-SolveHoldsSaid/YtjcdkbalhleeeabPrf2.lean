/-
  Walks: proof.covers computes what the plain words say.
-/
import Derived.Test.YtjcdkbalhleeeabPrf1
namespace Go.Proofs.Ytjcdkbalhleeeab
open Go.RowKit

set_option maxHeartbeats 1000000 in
theorem proof_covers (A : Option Addr) (c : Nat) (A2 : Option Addr) (c2 : Nat) (p : PG) (Y : Option Addr) (ys : List Int) (cy : Nat) (yd t : Int) (w : World) (hp : Pg w A c A2 c2 p) (hy : Rd w Y cy ys) (hm : mayPB p = true)
    (hs : smallB 1073741824 ys = true) (hlen : ys.length = p.rows.length) (ht : 0 ≤ t) (ht' : t ≤ 1073741824) :
    Calls Try.prog 116 #[.agg #[.slice A p.costs.length c, .slice A2 p.rows.length c2], .agg #[.slice Y ys.length cy, .int .i64 yd], .int .i64 t] w fun e w' => e = .returned (.bool (coversB p ys t)) ∧ Below w.heap.size w w' := by
  have HP := Lib.hid hp
  have HY := Lib.hid hy
  obtain ⟨⟨hl, hc, hsm, _⟩, ⟨hl2, hc2, hsm2, _⟩⟩ := hp
  obtain ⟨hly, hcy, hsy, _⟩ := hy
  have HM := Lib.hid hm
  have HS := Lib.hid hs
  have HLN := Lib.hid hlen
  have h4 : p.rows.length ≤ 4 := (mayPB_iff.1 hm).2.2.2.1
  have h4' : p.costs.length ≤ 4 := (mayPB_iff.1 hm).2.1
  clear hm hs hlen
  go_enter Try.func116, Try.ntmps116
  go_wp2_with fail
  go_loopw [12] (fun i wr => ∃ k : Nat, k ≤ p.costs.length ∧ i = .int .i64 k ∧ ((List.range k).all fun j => decide (costZ p j * t ≤ dot (colZ p j) ys)) = true ∧ Below w.heap.size w wr ∧
      Blk wr w.heap.size 25 #[.slice A p.costs.length c, .slice A2 p.rows.length c2] ∧ Blk wr (w.heap.size + 1) 40 #[.slice Y ys.length cy, .int .i64 yd])
    (fun i _ => p.costs.length - (intOf i).toNat)
  case atStart => exact ⟨0, by omega, rfl, rfl, (by (repeat (any_goals (first | exact Below.refl _ _ | refine below_drewN ?_ _ | refine Below.drew ?_ | refine Below.alloc ?_ ?_ _ | refine Below.setCell ?_ ?_ _))); all_goals (first | omega | (simp; done) | (simp; omega))), (Blk.new w _ _ _ rfl).alloc _, Blk.new _ _ _ _ (by simp)⟩
  case round =>
    obtain ⟨k, hk, rfl, hall, hbel, hbp, hby⟩ := hrel
    have HA := Lib.hid hall
    have HL := Lib.hid hbel
    have HPr := Lib.hid (HP.out.below hbel)
    have HYr := Lib.hid (HY.out.below hbel)
    have Vp := Lib.hid hbp
    have Vy := Lib.hid hby
    have zL := hbel.size
    have lVp := hbp.lt
    have lVy := hby.lt
    clear hall hbel hbp hby
    by_cases hlt : k < p.costs.length
    · obtain ⟨ad, rfl, hc1⟩ := HPr.out.costs.at_ hlt
      have hcz := costZ_bound HM.out k
      have hce : costZ p k = p.costs[k] := by simp [costZ, hlt, List.getD, List.getElem?_eq_getElem hlt]
      rw [← hce] at hc1
      obtain ⟨hcz1, hcz2⟩ := hcz
      obtain ⟨hm1, hm2⟩ := mul_bound (costZ p k) t 400 1073741824 (by omega) (by omega) (by omega) (by omega)
      have hw1 : IntKind.i64.wrap (costZ p k * t) = costZ p k * t := IntWalk.i64_in _ (by omega)
      have HC := Lib.hid hce
      have HT := Lib.hid (show ((List.range (k + 1)).all fun j => decide (costZ p j * t ≤ dot (colZ p j) ys)) = (((List.range k).all fun j => decide (costZ p j * t ≤ dot (colZ p j) ys)) && decide (costZ p k * t ≤ dot (colZ p k) ys)) by rw [List.range_succ, List.all_append]; simp)
      have HF := Lib.hid (show decide (costZ p k * t ≤ dot (colZ p k) ys) = false → coversB p ys t = false from fun h => by
        unfold coversB; rw [List.all_eq_false]; exact ⟨k, by simpa using hlt, by simpa using h⟩)
      have HQ := Lib.hid (colZ_small HM.out k)
      have HQl := Lib.hid (length_colZ p k)
      have SK := Lib.hid (show ∀ w', Below wr.heap.size wr w' → (w'.cell? ⟨w.heap.size, 0, none⟩ = some (.slice (some ad) p.costs.length c) ∧ w'.cell? ⟨w.heap.size, 1, none⟩ = some (.slice A2 p.rows.length c2) ∧ w'.cell? ⟨w.heap.size + 1, 0, none⟩ = some (.slice Y ys.length cy)) from fun w' h =>
        ⟨(Vp.out.next h).cell 0, (Vp.out.next h).cell 1, (Vy.out.next h).cell 0⟩)
      clear hce
      generalize hZ : colZ p k = z at *
      have HZ := Lib.hid hZ
      clear hZ
      by_cases hle : costZ p k * t ≤ dot z ys
      · go_wp2_with fail
        go_region_held3 (fun w' => (w'.cell? ⟨w.heap.size, 0, none⟩ = some (.slice (some ad) p.costs.length c) ∧ w'.cell? ⟨w.heap.size, 1, none⟩ = some (.slice A2 p.rows.length c2) ∧ w'.cell? ⟨w.heap.size + 1, 0, none⟩ = some (.slice Y ys.length cy)))
          (first | (refine SK.out _ ?_; exact (by (repeat (any_goals (first | exact Below.refl _ _ | exact hb3 | refine below_drewN ?_ _ | refine Below.drew ?_ | refine Below.alloc ?_ ?_ _ | refine Below.setCell ?_ ?_ _ | refine Below.trans ?_ (Below.mono hb3 ?_)))); all_goals (first | omega | (simp; done) | (simp; omega) | ((try have z0 := hb3.size); (try simp at z0); (try simp); omega)))))
          (first
            | (go_at_call 144; refine (proof_Rows _ _ _ _ _ _ _ (HPr.out.below (by (repeat (any_goals (first | exact Below.refl _ _ | refine below_drewN ?_ _ | refine Below.drew ?_ | refine Below.alloc ?_ ?_ _ | refine Below.setCell ?_ ?_ _))); all_goals (first | omega | (simp; done) | (simp; omega)))) HM.out (by omega)).mono ?_; rw [HZ.out]; rintro e w3 ⟨A3, c3, rfl, hr3, hb3⟩)
            | (go_at_call 80; refine (layout_Dot0 _ _ _ _ _ _ 12 1073741824 _ hr3 (HYr.out.below (by (repeat (any_goals (first | exact Below.refl _ _ | exact hb3 | refine below_drewN ?_ _ | refine Below.drew ?_ | refine Below.alloc ?_ ?_ _ | refine Below.setCell ?_ ?_ _ | refine Below.trans ?_ (Below.mono hb3 ?_)))); all_goals (first | omega | (simp; done) | (simp; omega) | ((try have z0 := hb3.size); (try simp at z0); (try simp); omega)))) (by have := HQl.out; have := HLN.out; omega) (by omega) (by omega) HQ.out HS.out (by have := HQl.out; omega)).mono ?_; rintro e w4 ⟨rfl, rfl⟩))
        have HB3 := Lib.hid (show Below wr.heap.size wr w4 from (by (repeat (any_goals (first | exact Below.refl _ _ | exact hb3 | refine below_drewN ?_ _ | refine Below.drew ?_ | refine Below.alloc ?_ ?_ _ | refine Below.setCell ?_ ?_ _ | refine Below.trans ?_ (Below.mono hb3 ?_)))); all_goals (first | omega | (simp; done) | (simp; omega) | ((try have z0 := hb3.size); (try simp at z0); (try simp); omega))))
        clear hb3 hr3
        go_wp2_with fail
        go_roundw
        case rel => exact ⟨k + 1, by omega, by go_num, by rw [HT.out, HA.out]; simp [hle], (by (repeat (any_goals (first | exact Below.refl _ _ | exact HL.out | exact HB3.out | refine below_drewN ?_ _ | refine Below.drew ?_ | refine Below.alloc ?_ ?_ _ | refine Below.setCell ?_ ?_ _ | refine Below.trans ?_ (Below.mono HL.out ?_) | refine Below.trans ?_ (Below.mono HB3.out ?_)))); all_goals (first | omega | (simp; done) | (simp; omega) | ((try have z0 := HL.out.size); (try simp at z0); (try have z1 := HB3.out.size); (try simp at z1); (try simp); omega))), Vp.out.next HB3.out, Vy.out.next HB3.out⟩
        case measure => simp [intOf]; omega
      · go_wp2_with fail
        go_region_held3 (fun w' => (w'.cell? ⟨w.heap.size, 0, none⟩ = some (.slice (some ad) p.costs.length c) ∧ w'.cell? ⟨w.heap.size, 1, none⟩ = some (.slice A2 p.rows.length c2) ∧ w'.cell? ⟨w.heap.size + 1, 0, none⟩ = some (.slice Y ys.length cy)))
          (first | (refine SK.out _ ?_; exact (by (repeat (any_goals (first | exact Below.refl _ _ | exact hb3 | refine below_drewN ?_ _ | refine Below.drew ?_ | refine Below.alloc ?_ ?_ _ | refine Below.setCell ?_ ?_ _ | refine Below.trans ?_ (Below.mono hb3 ?_)))); all_goals (first | omega | (simp; done) | (simp; omega) | ((try have z0 := hb3.size); (try simp at z0); (try simp); omega)))))
          (first
            | (go_at_call 144; refine (proof_Rows _ _ _ _ _ _ _ (HPr.out.below (by (repeat (any_goals (first | exact Below.refl _ _ | refine below_drewN ?_ _ | refine Below.drew ?_ | refine Below.alloc ?_ ?_ _ | refine Below.setCell ?_ ?_ _))); all_goals (first | omega | (simp; done) | (simp; omega)))) HM.out (by omega)).mono ?_; rw [HZ.out]; rintro e w3 ⟨A3, c3, rfl, hr3, hb3⟩)
            | (go_at_call 80; refine (layout_Dot0 _ _ _ _ _ _ 12 1073741824 _ hr3 (HYr.out.below (by (repeat (any_goals (first | exact Below.refl _ _ | exact hb3 | refine below_drewN ?_ _ | refine Below.drew ?_ | refine Below.alloc ?_ ?_ _ | refine Below.setCell ?_ ?_ _ | refine Below.trans ?_ (Below.mono hb3 ?_)))); all_goals (first | omega | (simp; done) | (simp; omega) | ((try have z0 := hb3.size); (try simp at z0); (try simp); omega)))) (by have := HQl.out; have := HLN.out; omega) (by omega) (by omega) HQ.out HS.out (by have := HQl.out; omega)).mono ?_; rintro e w4 ⟨rfl, rfl⟩))
        have HB3 := Lib.hid (show Below wr.heap.size wr w4 from (by (repeat (any_goals (first | exact Below.refl _ _ | exact hb3 | refine below_drewN ?_ _ | refine Below.drew ?_ | refine Below.alloc ?_ ?_ _ | refine Below.setCell ?_ ?_ _ | refine Below.trans ?_ (Below.mono hb3 ?_)))); all_goals (first | omega | (simp; done) | (simp; omega) | ((try have z0 := hb3.size); (try simp at z0); (try simp); omega))))
        clear hb3 hr3
        go_wp2_with fail
        go_ret
        exact ⟨ret_bool (by rw [HF.out (by simp; omega)]), (by (repeat (any_goals (first | exact Below.refl _ _ | exact HL.out | exact HB3.out | refine below_drewN ?_ _ | refine Below.drew ?_ | refine Below.alloc ?_ ?_ _ | refine Below.setCell ?_ ?_ _ | refine Below.trans ?_ (Below.mono HL.out ?_) | refine Below.trans ?_ (Below.mono HB3.out ?_)))); all_goals (first | omega | (simp; done) | (simp; omega) | ((try have z0 := HL.out.size); (try simp at z0); (try have z1 := HB3.out.size); (try simp at z1); (try simp); omega)))⟩
    · obtain rfl : k = p.costs.length := by omega
      go_wp2_with fail
      go_ret
      exact ⟨ret_bool (by unfold coversB; rw [HA.out]), (by (repeat (any_goals (first | exact Below.refl _ _ | exact HL.out | refine below_drewN ?_ _ | refine Below.drew ?_ | refine Below.alloc ?_ ?_ _ | refine Below.setCell ?_ ?_ _ | refine Below.trans ?_ (Below.mono HL.out ?_)))); all_goals (first | omega | (simp; done) | (simp; omega) | ((try have z0 := HL.out.size); (try simp at z0); (try simp); omega)))⟩

/-- An answer's three points read as it. -/
structure An (w : World) (X : Option Addr) (cx : Nat) (Y : Option Addr) (cy : Nat) (R : Option Addr) (cr : Nat) (a : AN) : Prop where
  x : Rd w X cx a.xs
  y : Rd w Y cy a.ys
  r : Rd w R cr a.rs
section
variable {w w' : World} {X Y R : Option Addr} {cx cy cr : Nat} {a : AN}
theorem An.below (h : An w X cx Y cy R cr a) (hb : Below w.heap.size w w') : An w' X cx Y cy R cr a := ⟨h.x.below hb, h.y.below hb, h.r.below hb⟩
theorem An.hop {w1 : World} (h : An w X cx Y cy R cr a) (hl : Below w.heap.size w w1) (hb : Below w1.heap.size w1 w') : An w' X cx Y cy R cr a := (h.below hl).below hb
end

end Go.Proofs.Ytjcdkbalhleeeab
