/-
  Contracts of functions and plain laws that later parts of the proof use. The conditions stand in each theorem.
-/
import Derived.Test.YtjcdkbalhleeeaaGreatDoorG10
import Derived.Test.YtjcdkbalhleeeaaGreatDoorG01
import Derived.Test.YtjcdkbalhleeeaaGreatDoorG02
import Derived.Test.YtjcdkbalhleeeaaGreatDoorG08
namespace Go.Proofs.YtjcdkbalhleeeaaGreatDoor
open Go.RowKit

theorem layout_fits (A : Option Addr) (c : Nat) (A2 : Option Addr) (c2 : Nat) (p : PG) (X : Option Addr) (l : List Int) (cx : Nat) (d : Int) (w : World) (hp : Pg w A c A2 c2 p) (hx : Rd w X cx l) :
    Calls Tryz.prog 82 #[.agg #[.slice A p.costs.length c, .slice A2 p.rows.length c2], .agg #[.slice X l.length cx, .int .i64 d]] w fun e w' => e = .returned (.bool (fitsB p l d)) ∧ Below w.heap.size w w' := by
  have HP := Lib.hid hp
  have HX := Lib.hid hx
  obtain ⟨⟨hl, hc, hsm, _⟩, ⟨hl2, hc2, hsm2, _⟩⟩ := hp
  obtain ⟨hlx, hcx, hsx, _⟩ := hx
  cases h1 : mayPB p with
  | false =>
    have hv : fitsB p l d = false := by simp [fitsB, h1]
    rw [hv]
    clear hv
    go_enter Tryz.func82, Tryz.ntmps82
    go_wp2_with fail
    refine (layout_May _ _ _ _ _ _ (by exact HP.out.below (by (repeat (any_goals (first | exact Below.refl _ _ | refine below_drewN ?_ _ | refine Below.drew ?_ | refine Below.alloc ?_ ?_ _ | refine Below.setCell ?_ ?_ _))); all_goals (first | omega | (simp; done) | (simp; omega))))).mono ?_
    rintro e w1 ⟨rfl, hb1⟩
    rw [h1]
    have HB1 := Lib.hid hb1
    clear hb1
    go_wp2_with fail
    go_ret
    exact ⟨rfl, (by (repeat (any_goals (first | exact Below.refl _ _ | exact HB1.out | refine below_drewN ?_ _ | refine Below.drew ?_ | refine Below.alloc ?_ ?_ _ | refine Below.setCell ?_ ?_ _ | refine Below.trans ?_ (Below.mono HB1.out ?_)))); all_goals (first | omega | (simp; done) | (simp; omega) | ((try have z0 := HB1.out.size); (try simp at z0); (try simp); omega)))⟩
  | true =>
    cases h2 : mayB l d with
    | false =>
      have hv : fitsB p l d = false := by simp [fitsB, h2]
      rw [hv]
      clear hv
      go_enter Tryz.func82, Tryz.ntmps82
      go_wp2_with fail
      refine (layout_May _ _ _ _ _ _ (by exact HP.out.below (by (repeat (any_goals (first | exact Below.refl _ _ | refine below_drewN ?_ _ | refine Below.drew ?_ | refine Below.alloc ?_ ?_ _ | refine Below.setCell ?_ ?_ _))); all_goals (first | omega | (simp; done) | (simp; omega))))).mono ?_
      rintro e w1 ⟨rfl, hb1⟩
      rw [h1]
      have Vp0 := Blk.next (Blk.alloc (Blk.mk' _ _ _) _) hb1; (try simp only [World.size_alloc, World.size_drew, World.size_setCell, size_drewN'] at Vp0); have Vp := Lib.hid Vp0; clear Vp0; have lVp := Vp.out.lt; have Vx0 := Blk.next (Blk.mk' _ _ _) hb1; (try simp only [World.size_alloc, World.size_drew, World.size_setCell, size_drewN'] at Vx0); have Vx := Lib.hid Vx0; clear Vx0; have lVx := Vx.out.lt; have HX := Lib.hid (HX.out.hop (by (repeat (any_goals (first | exact Below.refl _ _ | refine below_drewN ?_ _ | refine Below.drew ?_ | refine Below.alloc ?_ ?_ _ | refine Below.setCell ?_ ?_ _))); all_goals (first | omega | (simp; done) | (simp; omega))) hb1); have zhb1 := hb1.size; (try simp only [World.size_alloc, World.size_drew, World.size_setCell, size_drewN'] at zhb1); have HB1 := Lib.hid hb1; clear hb1
      have k0 : w1.cell? ⟨w.heap.size + 1, 0, none⟩ = some (.slice X l.length cx) := Vx.out.cell 0
      have k1 : w1.cell? ⟨w.heap.size + 1, 1, none⟩ = some (.int .i64 d) := Vx.out.cell 1
      go_wp2_with fail
      refine (frac_MayPoint _ _ _ _ _ HX.out).mono ?_
      rintro e w2 ⟨rfl, hb2⟩
      rw [h2]
      have HB2 := Lib.hid hb2
      clear hb2
      go_wp2_with fail
      go_ret
      exact ⟨rfl, (by (repeat (any_goals (first | exact Below.refl _ _ | exact HB1.out | exact HB2.out | refine below_drewN ?_ _ | refine Below.drew ?_ | refine Below.alloc ?_ ?_ _ | refine Below.setCell ?_ ?_ _ | refine Below.trans ?_ (Below.mono HB1.out ?_) | refine Below.trans ?_ (Below.mono HB2.out ?_)))); all_goals (first | omega | (simp; done) | (simp; omega) | ((try have z0 := HB1.out.size); (try simp at z0); (try have z1 := HB2.out.size); (try simp at z1); (try simp); omega)))⟩
    | true =>
      have hv : fitsB p l d = ((l.length : Int) == (p.costs.length : Int)) := by rw [Bool.eq_iff_iff]; simp [fitsB, h1, h2]; omega
      rw [hv]
      clear hv
      go_enter Tryz.func82, Tryz.ntmps82
      go_wp2_with fail
      refine (layout_May _ _ _ _ _ _ (by exact HP.out.below (by (repeat (any_goals (first | exact Below.refl _ _ | refine below_drewN ?_ _ | refine Below.drew ?_ | refine Below.alloc ?_ ?_ _ | refine Below.setCell ?_ ?_ _))); all_goals (first | omega | (simp; done) | (simp; omega))))).mono ?_
      rintro e w1 ⟨rfl, hb1⟩
      rw [h1]
      have Vp0 := Blk.next (Blk.alloc (Blk.mk' _ _ _) _) hb1; (try simp only [World.size_alloc, World.size_drew, World.size_setCell, size_drewN'] at Vp0); have Vp := Lib.hid Vp0; clear Vp0; have lVp := Vp.out.lt; have Vx0 := Blk.next (Blk.mk' _ _ _) hb1; (try simp only [World.size_alloc, World.size_drew, World.size_setCell, size_drewN'] at Vx0); have Vx := Lib.hid Vx0; clear Vx0; have lVx := Vx.out.lt; have HX := Lib.hid (HX.out.hop (by (repeat (any_goals (first | exact Below.refl _ _ | refine below_drewN ?_ _ | refine Below.drew ?_ | refine Below.alloc ?_ ?_ _ | refine Below.setCell ?_ ?_ _))); all_goals (first | omega | (simp; done) | (simp; omega))) hb1); have zhb1 := hb1.size; (try simp only [World.size_alloc, World.size_drew, World.size_setCell, size_drewN'] at zhb1); have HB1 := Lib.hid hb1; clear hb1
      have k0 : w1.cell? ⟨w.heap.size + 1, 0, none⟩ = some (.slice X l.length cx) := Vx.out.cell 0
      have k1 : w1.cell? ⟨w.heap.size + 1, 1, none⟩ = some (.int .i64 d) := Vx.out.cell 1
      go_wp2_with fail
      refine (frac_MayPoint _ _ _ _ _ HX.out).mono ?_
      rintro e w2 ⟨rfl, hb2⟩
      rw [h2]
      have Vp := Lib.hid (Blk.hop Vp.out (by (repeat (any_goals (first | exact Below.refl _ _ | refine below_drewN ?_ _ | refine Below.drew ?_ | refine Below.alloc ?_ ?_ _ | refine Below.setCell ?_ ?_ _))); all_goals (first | omega | (simp; done) | (simp; omega))) hb2); have lVp := Vp.out.lt; have Vx := Lib.hid (Blk.hop Vx.out (by (repeat (any_goals (first | exact Below.refl _ _ | refine below_drewN ?_ _ | refine Below.drew ?_ | refine Below.alloc ?_ ?_ _ | refine Below.setCell ?_ ?_ _))); all_goals (first | omega | (simp; done) | (simp; omega))) hb2); have lVx := Vx.out.lt; have zhb2 := hb2.size; (try simp only [World.size_alloc, World.size_drew, World.size_setCell, size_drewN'] at zhb2); have HB2 := Lib.hid hb2; clear hb2
      have k2 : w2.cell? ⟨w.heap.size + 1, 0, none⟩ = some (.slice X l.length cx) := Vx.out.cell 0
      have k3 : w2.cell? ⟨w.heap.size, 0, none⟩ = some (.slice A p.costs.length c) := Vp.out.cell 0
      go_wp2_with fail
      go_ret
      exact ⟨rfl, (by (repeat (any_goals (first | exact Below.refl _ _ | exact HB1.out | exact HB2.out | refine below_drewN ?_ _ | refine Below.drew ?_ | refine Below.alloc ?_ ?_ _ | refine Below.setCell ?_ ?_ _ | refine Below.trans ?_ (Below.mono HB1.out ?_) | refine Below.trans ?_ (Below.mono HB2.out ?_)))); all_goals (first | omega | (simp; done) | (simp; omega) | ((try have z0 := HB1.out.size); (try simp at z0); (try have z1 := HB2.out.size); (try simp at z1); (try simp); omega)))⟩

set_option maxRecDepth 100000 in
theorem layout_Worth (A : Option Addr) (c : Nat) (A2 : Option Addr) (c2 : Nat) (p : PG) (X : Option Addr) (l : List Int) (cx : Nat) (d : Int) (w : World) (hp : Pg w A c A2 c2 p) (hx : Rd w X cx l) :
    Calls Tryz.prog 36 #[.agg #[.slice A p.costs.length c, .slice A2 p.rows.length c2], .agg #[.slice X l.length cx, .int .i64 d]] w
      (RetFr w (worN p l d) (worD p l d) (worE p l d)) := by
  unfold worN worD worE
  have HP := Lib.hid hp
  have HX := Lib.hid hx
  obtain ⟨⟨hl, hc, hsm, _⟩, ⟨hl2, hc2, hsm2, _⟩⟩ := hp
  obtain ⟨hlx, hcx, hsx, _⟩ := hx
  cases h1 : fitsB p l d with
  | false =>
    simp only [Bool.false_eq_true, if_false]
    go_enter Tryz.func36, Tryz.ntmps36
    go_wp2_with fail
    refine (layout_fits _ _ _ _ _ _ _ _ _ _ (by exact HP.out.below (by (repeat (any_goals (first | exact Below.refl _ _ | refine below_drewN ?_ _ | refine Below.drew ?_ | refine Below.alloc ?_ ?_ _ | refine Below.setCell ?_ ?_ _))); all_goals (first | omega | (simp; done) | (simp; omega)))) (by exact HX.out.below (by (repeat (any_goals (first | exact Below.refl _ _ | refine below_drewN ?_ _ | refine Below.drew ?_ | refine Below.alloc ?_ ?_ _ | refine Below.setCell ?_ ?_ _))); all_goals (first | omega | (simp; done) | (simp; omega))))).mono ?_
    rintro e w1 ⟨rfl, hb1⟩
    rw [h1]
    have Vp0 := Blk.next (Blk.alloc (Blk.alloc (Blk.mk' _ _ _) _) _) hb1; (try simp only [World.size_alloc, World.size_drew, World.size_setCell, size_drewN'] at Vp0); have Vp := Lib.hid Vp0; clear Vp0; have lVp := Vp.out.lt; have Vx0 := Blk.next (Blk.alloc (Blk.mk' _ _ _) _) hb1; (try simp only [World.size_alloc, World.size_drew, World.size_setCell, size_drewN'] at Vx0); have Vx := Lib.hid Vx0; clear Vx0; have lVx := Vx.out.lt; have Vr0 := Blk.next (Blk.mk' _ _ _) hb1; (try simp only [World.size_alloc, World.size_drew, World.size_setCell, size_drewN'] at Vr0); have Vr := Lib.hid Vr0; clear Vr0; have lVr := Vr.out.lt; have zhb1 := hb1.size; (try simp only [World.size_alloc, World.size_drew, World.size_setCell, size_drewN'] at zhb1); have HB1 := Lib.hid hb1; clear hb1
    have k0 : w1.cell? ⟨w.heap.size + 1 + 1, 0, none⟩ = some (.int .i64 0) := Vr.out.cell 0
    have k1 : w1.cell? ⟨w.heap.size + 1 + 1, 1, none⟩ = some (.int .i64 0) := Vr.out.cell 1
    have k2 := Vr.out.frozen 0
    have k3 := Vr.out.frozen 1
    go_wp2_with fail
    refine bodyPost_ret (v := .tuple #[.agg #[.int .i64 0, .int .i64 0], .int .i64 2]) (by simp [results, Tryz.results36, go_sem, k0, k1]) rfl ?_
    exact ⟨rfl, (by (repeat (any_goals (first | exact Below.refl _ _ | exact HB1.out | refine below_drewN ?_ _ | refine Below.drew ?_ | refine Below.alloc ?_ ?_ _ | refine Below.setCell ?_ ?_ _ | refine Below.trans ?_ (Below.mono HB1.out ?_)))); all_goals (first | omega | (simp; done) | (simp; omega) | ((try have z0 := HB1.out.size); (try simp at z0); (try simp); omega)))⟩
  | true =>
    simp only [if_true]
    obtain ⟨hf1, hf2, hf3⟩ := fitsB_iff.1 h1
    obtain ⟨hd1, hd2, hsX, hl8⟩ := mayB_parts hf2
    obtain ⟨g1, g2, g3, g4, g5, g6⟩ := mayPB_iff.1 hf1
    have HD := Lib.hid (show ∀ W : World, Rd W A c p.costs → Rd W X cx l → Calls Tryz.prog 84 #[.slice A p.costs.length c, .slice X l.length cx] W fun e w' => e = .returned (.int .i64 (dot p.costs l)) ∧ w' = W from
              fun W h1 h2 => layout_Dot0 A p.costs c X l cx 400 1073741824 W h1 h2 (by omega) (by omega) (by omega) g5 hsX (by omega))
    clear hf1 hf2 hf3 hsX g1 g2 g3 g4 g5 g6
    go_enter Tryz.func36, Tryz.ntmps36
    go_wp2_with fail
    refine (layout_fits _ _ _ _ _ _ _ _ _ _ (by exact HP.out.below (by (repeat (any_goals (first | exact Below.refl _ _ | refine below_drewN ?_ _ | refine Below.drew ?_ | refine Below.alloc ?_ ?_ _ | refine Below.setCell ?_ ?_ _))); all_goals (first | omega | (simp; done) | (simp; omega)))) (by exact HX.out.below (by (repeat (any_goals (first | exact Below.refl _ _ | refine below_drewN ?_ _ | refine Below.drew ?_ | refine Below.alloc ?_ ?_ _ | refine Below.setCell ?_ ?_ _))); all_goals (first | omega | (simp; done) | (simp; omega))))).mono ?_
    rintro e w1 ⟨rfl, hb1⟩
    rw [h1]
    clear h1
    have Vp0 := Blk.next (Blk.alloc (Blk.alloc (Blk.mk' _ _ _) _) _) hb1; (try simp only [World.size_alloc, World.size_drew, World.size_setCell, size_drewN'] at Vp0); have Vp := Lib.hid Vp0; clear Vp0; have lVp := Vp.out.lt; have Vx0 := Blk.next (Blk.alloc (Blk.mk' _ _ _) _) hb1; (try simp only [World.size_alloc, World.size_drew, World.size_setCell, size_drewN'] at Vx0); have Vx := Lib.hid Vx0; clear Vx0; have lVx := Vx.out.lt; have Vr0 := Blk.next (Blk.mk' _ _ _) hb1; (try simp only [World.size_alloc, World.size_drew, World.size_setCell, size_drewN'] at Vr0); have Vr := Lib.hid Vr0; clear Vr0; have lVr := Vr.out.lt; have HX := Lib.hid (HX.out.hop (by (repeat (any_goals (first | exact Below.refl _ _ | refine below_drewN ?_ _ | refine Below.drew ?_ | refine Below.alloc ?_ ?_ _ | refine Below.setCell ?_ ?_ _))); all_goals (first | omega | (simp; done) | (simp; omega))) hb1); have HP := Lib.hid (HP.out.hop (by (repeat (any_goals (first | exact Below.refl _ _ | refine below_drewN ?_ _ | refine Below.drew ?_ | refine Below.alloc ?_ ?_ _ | refine Below.setCell ?_ ?_ _))); all_goals (first | omega | (simp; done) | (simp; omega))) hb1); have zhb1 := hb1.size; (try simp only [World.size_alloc, World.size_drew, World.size_setCell, size_drewN'] at zhb1); have HB1 := Lib.hid hb1; clear hb1
    have k0 : w1.cell? ⟨w.heap.size + 1 + 1, 0, none⟩ = some (.int .i64 0) := Vr.out.cell 0
    have k1 : w1.cell? ⟨w.heap.size + 1 + 1, 1, none⟩ = some (.int .i64 0) := Vr.out.cell 1
    have k2 := Vr.out.frozen 0
    have k3 := Vr.out.frozen 1
    have k4 : w1.cell? ⟨w.heap.size, 0, none⟩ = some (.slice A p.costs.length c) := Vp.out.cell 0
    have k5 : w1.cell? ⟨w.heap.size + 1, 0, none⟩ = some (.slice X l.length cx) := Vx.out.cell 0
    have k6 : w1.cell? ⟨w.heap.size + 1, 1, none⟩ = some (.int .i64 d) := Vx.out.cell 1
    go_wp2_with fail
    have SK := Lib.hid (show ∀ w', Below (w.heap.size + 1 + 1) w1 w' → (w'.cell? ⟨w.heap.size, 0, none⟩ = some (.slice A p.costs.length c) ∧ w'.cell? ⟨w.heap.size + 1, 0, none⟩ = some (.slice X l.length cx) ∧ w'.cell? ⟨w.heap.size + 1, 1, none⟩ = some (.int .i64 d)) from fun w' h =>
      ⟨(Vp.out.below h (by omega)).cell 0, (Vx.out.below h (by omega)).cell 0, (Vx.out.below h (by omega)).cell 1⟩)
    have hlr := Vr.out.lt
    go_region_held3 (fun w' => (w'.cell? ⟨w.heap.size, 0, none⟩ = some (.slice A p.costs.length c) ∧ w'.cell? ⟨w.heap.size + 1, 0, none⟩ = some (.slice X l.length cx) ∧ w'.cell? ⟨w.heap.size + 1, 1, none⟩ = some (.int .i64 d)))
      (first | (refine SK.out _ ?_; exact (by (repeat (any_goals (first | exact Below.refl _ _ | exact hb3 | refine below_drewN ?_ _ | refine Below.drew ?_ | refine Below.alloc ?_ ?_ _ | refine Below.setCell ?_ ?_ _ | refine Below.trans ?_ (Below.mono hb3 ?_)))); all_goals (first | omega | (simp; done) | (simp; omega) | ((try have z0 := hb3.size); (try simp at z0); (try simp); omega)))))
      (first
        | (go_at_call 84; refine (HD.out _ (by exact HP.out.costs.drew) (by exact HX.out.drew)).mono ?_; rintro e w2 ⟨rfl, rfl⟩)
        | (go_at_call 83; refine (frac_Make _ _ _).mono ?_; rintro e w3 ⟨rfl, hb3⟩; have hV3 := Vr.out.drew.next hb3; have q0 : w3.cell? ⟨w.heap.size + 1 + 1, 0, none⟩ = some (.int .i64 0) := hV3.cell 0; have q1 : w3.cell? ⟨w.heap.size + 1 + 1, 1, none⟩ = some (.int .i64 0) := hV3.cell 1; have q2 := hV3.frozen 0; have q3 := hV3.frozen 1))
    have HB3 := Lib.hid hb3
    clear hb3
    go_wp2_with fail
    refine bodyPost_ret (v := .tuple #[.agg #[.int .i64 (frN (dot p.costs l) d), .int .i64 (ptD [dot p.costs l] d)], .int .i64 (ptE [dot p.costs l] d)]) (by simp [results, Tryz.results36, go_sem, q0, q1]) rfl ?_
    exact ⟨rfl, (by (repeat (any_goals (first | exact Below.refl _ _ | exact HB1.out | exact HB3.out | refine below_drewN ?_ _ | refine Below.drew ?_ | refine Below.alloc ?_ ?_ _ | refine Below.setCell ?_ ?_ _ | refine Below.trans ?_ (Below.mono HB1.out ?_) | refine Below.trans ?_ (Below.mono HB3.out ?_)))); all_goals (first | omega | (simp; done) | (simp; omega) | ((try have z0 := HB1.out.size); (try simp at z0); (try have z1 := HB3.out.size); (try simp at z1); (try simp); omega)))⟩
end Go.Proofs.YtjcdkbalhleeeaaGreatDoor

namespace Go.Proofs.YtjcdkbalhleeeaaGreatDoor
open Go.RowKit

/-- The least of numbers, from a first one on. -/
def minL (n : Int) (l : List Int) : Int := l.foldl (fun a b => if b < a then b else a) n
theorem minL_take {n : Int} {l : List Int} {k : Nat} (h : k < l.length) : minL n (l.take (k + 1)) = if l[k] < minL n (l.take k) then l[k] else minL n (l.take k) := by
  unfold minL; rw [List.take_succ_eq_append_getElem h, List.foldl_append]; rfl
theorem minL_nonneg {n : Int} {l : List Int} : 0 ≤ minL n l ↔ 0 ≤ n ∧ nonneg l = true := by
  induction l generalizing n with
  | nil => simp [minL, nonneg]
  | cons x l ih =>
    have e : minL n (x :: l) = minL (if x < n then x else n) l := rfl
    rw [e, ih]
    simp only [nonneg, List.all_cons, Bool.and_eq_true, decide_eq_true_eq]
    constructor
    · rintro ⟨h1, h2⟩
      split at h1
      · exact ⟨by omega, by omega, h2⟩
      · exact ⟨by omega, by omega, h2⟩
    · rintro ⟨h1, h2, h3⟩
      exact ⟨by split <;> omega, h3⟩

theorem slices_Min (A : Option Addr) (x : Int) (l : List Int) (c : Nat) (w : World) (hr : Rd w A c (x :: l)) :
    Calls Tryz.prog 92 #[.slice A (x :: l).length c] w fun e w' => e = .returned (.int .i64 (minL x l)) ∧ w' = w := by
  have HR := Lib.hid hr
  obtain ⟨hl, hc, hsm, _⟩ := hr
  obtain ⟨ad, rfl, hc0⟩ := HR.out.at_ (k := 0) (by simp)
  have hc0' : w.cell? ad = some (.int .i64 x) := by simpa [Addr.add] using hc0
  have hpos : 0 < (x :: l).length := by simp
  have HL := Lib.hid (show (x :: l).length = l.length + 1 by simp)
  generalize hn : (x :: l).length = n at *
  have hnl := HL.out
  clear hc0
  obtain rfl : n = l.length + 1 := hnl
  go_enter Tryz.func92, Tryz.ntmps92
  go_wp2_with fail
  go_loop [3, 4] (fun s i => ∃ k : Nat, k ≤ l.length ∧ s = .int .i64 (minL x (l.take k)) ∧ i = .int .i64 ((k : Int) + 1)) (fun _ i => l.length + 1 - (intOf i).toNat)
  case atStart => exact ⟨0, by omega, rfl, rfl⟩
  case round =>
    obtain ⟨k, hk, rfl, rfl⟩ := hrel
    by_cases hlt : k < l.length
    · obtain ⟨ad', he, hc1⟩ := HR.out.at_ (k := k + 1) (by simp; omega)
      cases he
      have hc2 : w.cell? ⟨ad.block, ad.off + (k + 1), none⟩ = some (.int .i64 l[k]) := by simpa [Addr.add] using hc1
      have HT := Lib.hid (minL_take (n := x) hlt)
      clear hc1
      go_wp2_with fail
      all_goals
        go_round
        case rel => exact ⟨k + 1, by omega, by rw [HT.out]; try (congr 1; (try split) <;> omega), by go_num⟩
        case measure => simp [intOf]; omega
    · obtain rfl : k = l.length := by omega
      go_wp2_with fail
      go_ret
      exact ⟨ret_int (by simp), rfl⟩

theorem corner_Has (A : Option Addr) (c : Nat) (A2 : Option Addr) (c2 : Nat) (p : PG) (i j : Nat) (w : World) (hp : Pg w A c A2 c2 p) (hm : mayPB p = true) (hi : i < p.rows.length) (hj : j < 1000000) :
    Calls Tryz.prog 47 #[.agg #[.slice A p.costs.length c, .slice A2 p.rows.length c2], .int .i64 i, .int .i64 j] w fun e w' => e = .returned (.int .i64 (hasZ p i j)) ∧ Below w.heap.size w w' := by
  have HP := Lib.hid hp
  obtain ⟨⟨hl, hc, hsm, _⟩, ⟨hl2, hc2, hsm2, _⟩⟩ := hp
  have HM := Lib.hid hm
  clear hm
  by_cases h1 : j < p.costs.length
  · obtain ⟨ad, A', c', rfl, hd1, hd2, hr⟩ := HP.out.rows.at_ hi
    obtain ⟨hq1, _, _⟩ := mayPB_row HM.out hi
    have hjl : j < p.rows[i].1.length := by omega
    obtain ⟨ad', rfl, he1⟩ := hr.at_ hjl
    have hadl := World.block_lt_of_cell? _ _ hd1
    have hadl' := World.block_lt_of_cell? _ _ he1
    have hv : hasZ p i j = p.rows[i].1[j] := by
      rw [hasZ_var hi h1]; simp [List.getD, List.getElem?_eq_getElem hjl]
    rw [hv]
    clear hv hr hd2 hq1
    have hi0 : (i : Int) < (p.rows.length : Int) := by omega
    have hi1 : (j : Int) < (p.rows[i].1.length : Int) := by omega
    go_enter Tryz.func47, Tryz.ntmps47
    go_wp2_with fail
    go_ret
    exact ⟨rfl, (by (repeat (any_goals (first | exact Below.refl _ _ | refine below_drewN ?_ _ | refine Below.drew ?_ | refine Below.alloc ?_ ?_ _ | refine Below.setCell ?_ ?_ _))); all_goals (first | omega | (simp; done) | (simp; omega)))⟩
  · by_cases h2 : j - p.costs.length = i
    · have hv : hasZ p i j = 1 := by simp [hasZ, h1, h2]
      have hz : (((j : Int) - (p.costs.length : Int)) == (i : Int)) = true := by simp; omega
      rw [hv]
      clear hv h2
      go_enter Tryz.func47, Tryz.ntmps47
      go_wp2_with fail
      go_ret
      exact ⟨rfl, (by (repeat (any_goals (first | exact Below.refl _ _ | refine below_drewN ?_ _ | refine Below.drew ?_ | refine Below.alloc ?_ ?_ _ | refine Below.setCell ?_ ?_ _))); all_goals (first | omega | (simp; done) | (simp; omega)))⟩
    · have hv : hasZ p i j = 0 := by simp [hasZ, h1, h2]
      have hz : (((j : Int) - (p.costs.length : Int)) == (i : Int)) = false := by simp; omega
      rw [hv]
      clear hv h2
      go_enter Tryz.func47, Tryz.ntmps47
      go_wp2_with fail
      go_ret
      exact ⟨rfl, (by (repeat (any_goals (first | exact Below.refl _ _ | refine below_drewN ?_ _ | refine Below.drew ?_ | refine Below.alloc ?_ ?_ _ | refine Below.setCell ?_ ?_ _))); all_goals (first | omega | (simp; done) | (simp; omega)))⟩

end Go.Proofs.YtjcdkbalhleeeaaGreatDoor

namespace Go.Proofs.YtjcdkbalhleeeaaGreatDoor
open Go.RowKit

/-- The last of some columns, or what was ahead. -/
def lastZ (last : Int) (l : List Int) (k : Nat) : Int := if k = 0 then last else l.getD (k - 1) 0
theorem rising_take {last : Int} {n : Nat} {l : List Int} {k : Nat} (h : k < l.length) : risingB last n (l.take (k + 1)) = (risingB last n (l.take k) && (decide (lastZ last l k < l[k]) && decide (l[k] < n))) := by
  induction l generalizing last k with
  | nil => simp at h
  | cons j l ih =>
    cases k with
    | zero => simp [risingB, lastZ]
    | succ k =>
      simp only [List.take_succ_cons, risingB, List.getElem_cons_succ]
      rw [ih (by simpa using h)]
      have e : lastZ j l k = lastZ last (j :: l) (k + 1) := by
        unfold lastZ
        rw [if_neg (show ¬ k + 1 = 0 by omega)]
        cases k with
        | zero => simp
        | succ k => rw [if_neg (by omega)]; simp
      rw [e]
      simp only [Bool.and_assoc]
theorem rising_pre {last : Int} {n : Nat} {l : List Int} (k : Nat) (h : risingB last n (l.take k) = false) : risingB last n l = false := by
  induction l generalizing last k with
  | nil => simpa using h
  | cons j l ih =>
    cases k with
    | zero => simp [risingB] at h
    | succ k =>
      simp only [List.take_succ_cons, risingB, Bool.and_eq_false_iff] at h ⊢
      rcases h with h | h | h
      · exact Or.inl h
      · exact Or.inr (Or.inl h)
      · exact Or.inr (Or.inr (ih k h))
theorem lastZ_succ {last : Int} {l : List Int} {k : Nat} (h : k < l.length) : lastZ last l (k + 1) = l[k] := by
  unfold lastZ; rw [if_neg (by omega)]; simp [List.getD, List.getElem?_eq_getElem h]

theorem corner_rising (A : Option Addr) (l : List Int) (c : Nat) (n : Nat) (w : World) (hr : Rd w A c l) :
    Calls Tryz.prog 46 #[.slice A l.length c, .int .i64 n] w fun e w' => e = .returned (.bool (risingB (-1) n l)) ∧ w' = w := by
  have HR := Lib.hid hr
  obtain ⟨hl, hc, hsm, _⟩ := hr
  go_enter Tryz.func46, Tryz.ntmps46
  go_wp2_with fail
  go_loop [5, 10] (fun s i => ∃ k : Nat, k ≤ l.length ∧ i = .int .i64 k ∧ s = .int .i64 (lastZ (-1) l k) ∧ risingB (-1) n (l.take k) = true) (fun _ i => l.length - (intOf i).toNat)
  case atStart => exact ⟨0, by omega, rfl, rfl, rfl⟩
  case round =>
    obtain ⟨k, hk, rfl, rfl, hs⟩ := hrel
    have HS := Lib.hid hs
    clear hs
    by_cases hlt : k < l.length
    · obtain ⟨ad, rfl, hc1⟩ := HR.out.at_ hlt
      have HT := Lib.hid (rising_take (last := -1) (n := n) hlt)
      have HL := Lib.hid (lastZ_succ (last := -1) hlt)
      have HP := Lib.hid (rising_pre (last := -1) (n := n) (l := l) (k + 1))
      generalize lastZ (-1) l k = la at *
      by_cases h1 : l[k] ≤ la
      · go_wp2_with fail
        go_ret
        exact ⟨ret_bool (by rw [HP.out (by rw [HT.out]; simp; omega)]), rfl⟩
      · by_cases h2 : l[k] < n
        · go_wp2_with fail
          go_round
          case rel => exact ⟨k + 1, by omega, by go_num, by rw [HL.out], by rw [HT.out, HS.out]; simp; omega⟩
          case measure => simp [intOf]; omega
        · go_wp2_with fail
          go_ret
          exact ⟨ret_bool (by rw [HP.out (by rw [HT.out]; simp; omega)]), rfl⟩
    · obtain rfl : k = l.length := by omega
      go_wp2_with fail
      go_ret
      exact ⟨ret_bool (by have := HS.out; rw [List.take_length] at this; rw [this]), rfl⟩

theorem corner_Cost (A : Option Addr) (c : Nat) (A2 : Option Addr) (c2 : Nat) (p : PG) (j : Nat) (w : World) (hp : Pg w A c A2 c2 p) :
    Calls Tryz.prog 48 #[.agg #[.slice A p.costs.length c, .slice A2 p.rows.length c2], .int .i64 j] w fun e w' => e = .returned (.int .i64 (costZ p j)) ∧ Below w.heap.size w w' := by
  have HP := Lib.hid hp
  obtain ⟨⟨hl, hc, hsm, _⟩, ⟨hl2, hc2, hsm2, _⟩⟩ := hp
  by_cases h1 : j < p.costs.length
  · obtain ⟨ad, rfl, he1⟩ := HP.out.costs.at_ h1
    have hadl := World.block_lt_of_cell? _ _ he1
    have hv : costZ p j = p.costs[j] := by simp [costZ, h1, List.getD, List.getElem?_eq_getElem h1]
    rw [hv]
    clear hv
    have hi1 : (j : Int) < (p.costs.length : Int) := by omega
    go_enter Tryz.func48, Tryz.ntmps48
    go_wp2_with fail
    go_ret
    exact ⟨rfl, (by (repeat (any_goals (first | exact Below.refl _ _ | refine below_drewN ?_ _ | refine Below.drew ?_ | refine Below.alloc ?_ ?_ _ | refine Below.setCell ?_ ?_ _))); all_goals (first | omega | (simp; done) | (simp; omega)))⟩
  · have hv : costZ p j = 0 := by simp [costZ, h1]
    rw [hv]
    clear hv
    go_enter Tryz.func48, Tryz.ntmps48
    go_wp2_with fail
    go_ret
    exact ⟨rfl, (by (repeat (any_goals (first | exact Below.refl _ _ | refine below_drewN ?_ _ | refine Below.drew ?_ | refine Below.alloc ?_ ?_ _ | refine Below.setCell ?_ ?_ _))); all_goals (first | omega | (simp; done) | (simp; omega)))⟩
end Go.Proofs.YtjcdkbalhleeeaaGreatDoor

namespace Go.Proofs.YtjcdkbalhleeeaaGreatDoor
open Go.RowKit

/-- An answer's three points read as it. -/
structure An (w : World) (X : Option Addr) (cx : Nat) (Y : Option Addr) (cy : Nat) (R : Option Addr) (cr : Nat) (a : AN) : Prop where
  x : Rd w X cx a.xs
  y : Rd w Y cy a.ys
  r : Rd w R cr a.rs
section
variable {w w' : World} {X Y R : Option Addr} {cx cy cr : Nat} {a : AN}
theorem An.below (h : An w X cx Y cy R cr a) (hb : Below w.heap.size w w') : An w' X cx Y cy R cr a := ⟨h.x.below hb, h.y.below hb, h.r.below hb⟩
theorem An.hop {w1 : World} (h : An w X cx Y cy R cr a) (hl : Below w.heap.size w w1) (hb : Below w1.heap.size w1 w') : An w' X cx Y cy R cr a := (h.below hl).below hb
end

end Go.Proofs.YtjcdkbalhleeeaaGreatDoor

namespace Go.Proofs.YtjcdkbalhleeeaaGreatDoor
open Go.RowKit

/-- A corner and an error are handed back; nothing that was there has turned. -/
def RetCo (w : World) (c : CO) (er : Int) (e : Ending) (w' : World) : Prop :=
  ∃ X cx Y cy G cg, e = .returned (.tuple #[.agg #[.slice X c.xs.length cx, .int .i64 c.xd, .slice Y c.ys.length cy, .int .i64 c.yd, .slice G c.gs.length cg, .int .i64 c.gd], .int .i64 er]) ∧
    Rd w' X cx c.xs ∧ Rd w' Y cy c.ys ∧ Rd w' G cg c.gs ∧ Below w.heap.size w w'
theorem RetCo.none {w w' : World} (er : Int) (hb : Below w.heap.size w w') : RetCo w ⟨[], 0, [], 0, [], 0⟩ er (.returned (.tuple #[.agg #[.slice none 0 0, .int .i64 0, .slice none 0 0, .int .i64 0, .slice none 0 0, .int .i64 0], .int .i64 er])) w' :=
  ⟨Option.none, 0, Option.none, 0, Option.none, 0, rfl, Rd.nil _, Rd.nil _, Rd.nil _, hb⟩

set_option maxRecDepth 100000 in
set_option maxHeartbeats 500000 in
theorem look_form (A : Option Addr) (c : Nat) (A2 : Option Addr) (c2 : Nat) (p : PG) (L : Option Addr) (l : List Int) (cl : Nat) (w : World) (hp : Pg w A c A2 c2 p) (hr : Rd w L cl l) (hm : mayPB p = false) :
    Calls Tryz.prog 20 #[.agg #[.slice A p.costs.length c, .slice A2 p.rows.length c2], .slice L l.length cl] w (RetCo w ⟨[], 0, [], 0, [], 0⟩ 2) := by
  have HP := Lib.hid hp
  have HL := Lib.hid hr
  obtain ⟨⟨hl, hc, hsm, _⟩, ⟨hl2, hc2, hsm2, _⟩⟩ := hp
  obtain ⟨hll, hlc, hls, _⟩ := hr
  go_enter Tryz.func20, Tryz.ntmps20
  go_wp2_with fail
  go_quiet (fail)
  go_wp2_with fail
  refine (layout_May _ _ _ _ _ _ (by exact HP.out.below (by (repeat (any_goals (first | exact Below.refl _ _ | refine below_drewN ?_ _ | refine Below.drew ?_ | refine Below.alloc ?_ ?_ _ | refine Below.setCell ?_ ?_ _))); all_goals (first | omega | (simp; done) | (simp; omega))))).mono ?_
  rintro e w1 ⟨rfl, hb1⟩
  rw [hm]
  have Vr := Lib.hid (show Blk w1 (w.heap.size + 1) 64 #[.slice none 0 0, .int .i64 0, .slice none 0 0, .int .i64 0, .slice none 0 0, .int .i64 0] from Blk.next ((Blk.new _ _ _ _ (by simp)).drewN _) hb1)
  have Vp := Lib.hid (show Blk w1 w.heap.size 28 #[.slice A p.costs.length c, .slice A2 p.rows.length c2] from Blk.next (((Blk.mk' _ _ _).alloc _).drewN _) hb1)
  have HPw := Lib.hid (HP.out.hop (by (repeat (any_goals (first | exact Below.refl _ _ | refine below_drewN ?_ _ | refine Below.drew ?_ | refine Below.alloc ?_ ?_ _ | refine Below.setCell ?_ ?_ _))); all_goals (first | omega | (simp; done) | (simp; omega))) hb1)
  have HLw := Lib.hid (HL.out.hop (by (repeat (any_goals (first | exact Below.refl _ _ | refine below_drewN ?_ _ | refine Below.drew ?_ | refine Below.alloc ?_ ?_ _ | refine Below.setCell ?_ ?_ _))); all_goals (first | omega | (simp; done) | (simp; omega))) hb1)
  have HW1 := Lib.hid (show Below w.heap.size w w1 from (by (repeat (any_goals (first | exact Below.refl _ _ | exact hb1 | refine below_drewN ?_ _ | refine Below.drew ?_ | refine Below.alloc ?_ ?_ _ | refine Below.setCell ?_ ?_ _ | refine Below.trans ?_ (Below.mono hb1 ?_)))); all_goals (first | omega | (simp; done) | (simp; omega) | ((try have z0 := hb1.size); (try simp at z0); (try simp); omega))))
  have z1 := hb1.size
  (try simp only [World.size_alloc, World.size_drew, World.size_setCell, size_drewN'] at z1)
  have lVr := Vr.out.lt
  clear hb1
  have k0 : w1.cell? ⟨w.heap.size + 1, 0, none⟩ = some (.slice none 0 0) := Vr.out.cell 0
  have k1 : w1.cell? ⟨w.heap.size + 1, 1, none⟩ = some (.int .i64 0) := Vr.out.cell 1
  have k2 : w1.cell? ⟨w.heap.size + 1, 2, none⟩ = some (.slice none 0 0) := Vr.out.cell 2
  have k3 : w1.cell? ⟨w.heap.size + 1, 3, none⟩ = some (.int .i64 0) := Vr.out.cell 3
  have k4 : w1.cell? ⟨w.heap.size + 1, 4, none⟩ = some (.slice none 0 0) := Vr.out.cell 4
  have k5 : w1.cell? ⟨w.heap.size + 1, 5, none⟩ = some (.int .i64 0) := Vr.out.cell 5
  have f0 := Vr.out.frozen 0
  have f1 := Vr.out.frozen 1
  have f2 := Vr.out.frozen 2
  have f3 := Vr.out.frozen 3
  have f4 := Vr.out.frozen 4
  have f5 := Vr.out.frozen 5
  go_wp2_with fail
  refine bodyPost_ret (v := .tuple #[.agg #[.slice none 0 0, .int .i64 0, .slice none 0 0, .int .i64 0, .slice none 0 0, .int .i64 0], .int .i64 2]) ?_ ?_ ?_
  · simp [results, Tryz.results20, go_sem, k0, k1, k2, k3, k4, k5]
  · rfl
  · refine RetCo.none 2 ?_
    exact (((((HW1.out.setCell (Nat.le_succ _) _).setCell (Nat.le_succ _) _).setCell (Nat.le_succ _) _).setCell (Nat.le_succ _) _).setCell (Nat.le_succ _) _).setCell (Nat.le_succ _) _
set_option maxRecDepth 100000 in
set_option maxHeartbeats 500000 in
theorem look_len (A : Option Addr) (c : Nat) (A2 : Option Addr) (c2 : Nat) (p : PG) (L : Option Addr) (l : List Int) (cl : Nat) (w : World) (hp : Pg w A c A2 c2 p) (hr : Rd w L cl l) (hm : mayPB p = true) (hn : l.length ≠ p.rows.length) :
    Calls Tryz.prog 20 #[.agg #[.slice A p.costs.length c, .slice A2 p.rows.length c2], .slice L l.length cl] w (RetCo w ⟨[], 0, [], 0, [], 0⟩ 3) := by
  have hz : ((l.length : Int) != (p.rows.length : Int)) = true := by simp; omega
  have HP := Lib.hid hp
  have HL := Lib.hid hr
  obtain ⟨⟨hl, hc, hsm, _⟩, ⟨hl2, hc2, hsm2, _⟩⟩ := hp
  obtain ⟨hll, hlc, hls, _⟩ := hr
  go_enter Tryz.func20, Tryz.ntmps20
  go_wp2_with fail
  go_quiet (fail)
  go_wp2_with fail
  refine (layout_May _ _ _ _ _ _ (by exact HP.out.below (by (repeat (any_goals (first | exact Below.refl _ _ | refine below_drewN ?_ _ | refine Below.drew ?_ | refine Below.alloc ?_ ?_ _ | refine Below.setCell ?_ ?_ _))); all_goals (first | omega | (simp; done) | (simp; omega))))).mono ?_
  rintro e w1 ⟨rfl, hb1⟩
  rw [hm]
  have Vr := Lib.hid (show Blk w1 (w.heap.size + 1) 64 #[.slice none 0 0, .int .i64 0, .slice none 0 0, .int .i64 0, .slice none 0 0, .int .i64 0] from Blk.next ((Blk.new _ _ _ _ (by simp)).drewN _) hb1)
  have Vp := Lib.hid (show Blk w1 w.heap.size 28 #[.slice A p.costs.length c, .slice A2 p.rows.length c2] from Blk.next (((Blk.mk' _ _ _).alloc _).drewN _) hb1)
  have HPw := Lib.hid (HP.out.hop (by (repeat (any_goals (first | exact Below.refl _ _ | refine below_drewN ?_ _ | refine Below.drew ?_ | refine Below.alloc ?_ ?_ _ | refine Below.setCell ?_ ?_ _))); all_goals (first | omega | (simp; done) | (simp; omega))) hb1)
  have HLw := Lib.hid (HL.out.hop (by (repeat (any_goals (first | exact Below.refl _ _ | refine below_drewN ?_ _ | refine Below.drew ?_ | refine Below.alloc ?_ ?_ _ | refine Below.setCell ?_ ?_ _))); all_goals (first | omega | (simp; done) | (simp; omega))) hb1)
  have HW1 := Lib.hid (show Below w.heap.size w w1 from (by (repeat (any_goals (first | exact Below.refl _ _ | exact hb1 | refine below_drewN ?_ _ | refine Below.drew ?_ | refine Below.alloc ?_ ?_ _ | refine Below.setCell ?_ ?_ _ | refine Below.trans ?_ (Below.mono hb1 ?_)))); all_goals (first | omega | (simp; done) | (simp; omega) | ((try have z0 := hb1.size); (try simp at z0); (try simp); omega))))
  have z1 := hb1.size
  (try simp only [World.size_alloc, World.size_drew, World.size_setCell, size_drewN'] at z1)
  have lVr := Vr.out.lt
  clear hb1
  have k0 : w1.cell? ⟨w.heap.size + 1, 0, none⟩ = some (.slice none 0 0) := Vr.out.cell 0
  have k1 : w1.cell? ⟨w.heap.size + 1, 1, none⟩ = some (.int .i64 0) := Vr.out.cell 1
  have k2 : w1.cell? ⟨w.heap.size + 1, 2, none⟩ = some (.slice none 0 0) := Vr.out.cell 2
  have k3 : w1.cell? ⟨w.heap.size + 1, 3, none⟩ = some (.int .i64 0) := Vr.out.cell 3
  have k4 : w1.cell? ⟨w.heap.size + 1, 4, none⟩ = some (.slice none 0 0) := Vr.out.cell 4
  have k5 : w1.cell? ⟨w.heap.size + 1, 5, none⟩ = some (.int .i64 0) := Vr.out.cell 5
  have f0 := Vr.out.frozen 0
  have f1 := Vr.out.frozen 1
  have f2 := Vr.out.frozen 2
  have f3 := Vr.out.frozen 3
  have f4 := Vr.out.frozen 4
  have f5 := Vr.out.frozen 5
  go_wp2_with fail
  refine bodyPost_ret (v := .tuple #[.agg #[.slice none 0 0, .int .i64 0, .slice none 0 0, .int .i64 0, .slice none 0 0, .int .i64 0], .int .i64 3]) ?_ ?_ ?_
  · simp [results, Tryz.results20, go_sem, k0, k1, k2, k3, k4, k5]
  · rfl
  · refine RetCo.none 3 ?_
    exact (((((HW1.out.setCell (Nat.le_succ _) _).setCell (Nat.le_succ _) _).setCell (Nat.le_succ _) _).setCell (Nat.le_succ _) _).setCell (Nat.le_succ _) _).setCell (Nat.le_succ _) _
set_option maxRecDepth 100000 in
set_option maxHeartbeats 500000 in
theorem look_rise (A : Option Addr) (c : Nat) (A2 : Option Addr) (c2 : Nat) (p : PG) (L : Option Addr) (l : List Int) (cl : Nat) (w : World) (hp : Pg w A c A2 c2 p) (hr : Rd w L cl l) (hm : mayPB p = true) (hn : l.length = p.rows.length) (hri : risingB (-1) (p.costs.length + p.rows.length) l = false) :
    Calls Tryz.prog 20 #[.agg #[.slice A p.costs.length c, .slice A2 p.rows.length c2], .slice L l.length cl] w (RetCo w ⟨[], 0, [], 0, [], 0⟩ 3) := by
  have hz : ((l.length : Int) != (p.rows.length : Int)) = false := by simp; omega
  have HRI := Lib.hid hri
  have h4 := (mayPB_iff.1 hm).2.2.2.1
  have h4' := (mayPB_iff.1 hm).2.1
  clear hn hri
  have HP := Lib.hid hp
  have HL := Lib.hid hr
  obtain ⟨⟨hl, hc, hsm, _⟩, ⟨hl2, hc2, hsm2, _⟩⟩ := hp
  obtain ⟨hll, hlc, hls, _⟩ := hr
  go_enter Tryz.func20, Tryz.ntmps20
  go_wp2_with fail
  go_quiet (fail)
  go_wp2_with fail
  refine (layout_May _ _ _ _ _ _ (by exact HP.out.below (by (repeat (any_goals (first | exact Below.refl _ _ | refine below_drewN ?_ _ | refine Below.drew ?_ | refine Below.alloc ?_ ?_ _ | refine Below.setCell ?_ ?_ _))); all_goals (first | omega | (simp; done) | (simp; omega))))).mono ?_
  rintro e w1 ⟨rfl, hb1⟩
  rw [hm]
  have Vr := Lib.hid (show Blk w1 (w.heap.size + 1) 64 #[.slice none 0 0, .int .i64 0, .slice none 0 0, .int .i64 0, .slice none 0 0, .int .i64 0] from Blk.next ((Blk.new _ _ _ _ (by simp)).drewN _) hb1)
  have Vp := Lib.hid (show Blk w1 w.heap.size 28 #[.slice A p.costs.length c, .slice A2 p.rows.length c2] from Blk.next (((Blk.mk' _ _ _).alloc _).drewN _) hb1)
  have HPw := Lib.hid (HP.out.hop (by (repeat (any_goals (first | exact Below.refl _ _ | refine below_drewN ?_ _ | refine Below.drew ?_ | refine Below.alloc ?_ ?_ _ | refine Below.setCell ?_ ?_ _))); all_goals (first | omega | (simp; done) | (simp; omega))) hb1)
  have HLw := Lib.hid (HL.out.hop (by (repeat (any_goals (first | exact Below.refl _ _ | refine below_drewN ?_ _ | refine Below.drew ?_ | refine Below.alloc ?_ ?_ _ | refine Below.setCell ?_ ?_ _))); all_goals (first | omega | (simp; done) | (simp; omega))) hb1)
  have HW1 := Lib.hid (show Below w.heap.size w w1 from (by (repeat (any_goals (first | exact Below.refl _ _ | exact hb1 | refine below_drewN ?_ _ | refine Below.drew ?_ | refine Below.alloc ?_ ?_ _ | refine Below.setCell ?_ ?_ _ | refine Below.trans ?_ (Below.mono hb1 ?_)))); all_goals (first | omega | (simp; done) | (simp; omega) | ((try have z0 := hb1.size); (try simp at z0); (try simp); omega))))
  have z1 := hb1.size
  (try simp only [World.size_alloc, World.size_drew, World.size_setCell, size_drewN'] at z1)
  have lVr := Vr.out.lt
  clear hb1
  have k0 : w1.cell? ⟨w.heap.size + 1, 0, none⟩ = some (.slice none 0 0) := Vr.out.cell 0
  have k1 : w1.cell? ⟨w.heap.size + 1, 1, none⟩ = some (.int .i64 0) := Vr.out.cell 1
  have k2 : w1.cell? ⟨w.heap.size + 1, 2, none⟩ = some (.slice none 0 0) := Vr.out.cell 2
  have k3 : w1.cell? ⟨w.heap.size + 1, 3, none⟩ = some (.int .i64 0) := Vr.out.cell 3
  have k4 : w1.cell? ⟨w.heap.size + 1, 4, none⟩ = some (.slice none 0 0) := Vr.out.cell 4
  have k5 : w1.cell? ⟨w.heap.size + 1, 5, none⟩ = some (.int .i64 0) := Vr.out.cell 5
  have f0 := Vr.out.frozen 0
  have f1 := Vr.out.frozen 1
  have f2 := Vr.out.frozen 2
  have f3 := Vr.out.frozen 3
  have f4 := Vr.out.frozen 4
  have f5 := Vr.out.frozen 5
  go_wp2_with fail
  refine (show Calls Tryz.prog 46 #[.slice L l.length cl, .int .i64 ((p.costs.length : Int) + (p.rows.length : Int))] w1 fun e w' => e = .returned (.bool false) ∧ w' = w1 from by
    rw [← HRI.out, ← Int.natCast_add]; exact corner_rising _ _ _ _ _ HLw.out).mono ?_
  rintro e w2 ⟨rfl, rfl⟩
  go_wp2_with fail
  refine bodyPost_ret (v := .tuple #[.agg #[.slice none 0 0, .int .i64 0, .slice none 0 0, .int .i64 0, .slice none 0 0, .int .i64 0], .int .i64 3]) ?_ ?_ ?_
  · simp [results, Tryz.results20, go_sem, k0, k1, k2, k3, k4, k5]
  · rfl
  · refine RetCo.none 3 ?_
    exact (((((HW1.out.setCell (Nat.le_succ _) _).setCell (Nat.le_succ _) _).setCell (Nat.le_succ _) _).setCell (Nat.le_succ _) _).setCell (Nat.le_succ _) _).setCell (Nat.le_succ _) _
end Go.Proofs.YtjcdkbalhleeeaaGreatDoor

namespace Go.Proofs.YtjcdkbalhleeeaaGreatDoor
open Go.RowKit

/-- Outer block O, rows in blocks g i with room c i: n cells a row, m rows. -/
structure Mat (w : World) (O : Nat) (g c : Nat → Nat) (m n : Nat) (M : Nat → Nat → Int) : Prop where
  out : ∀ i, i < m → w.cell? ⟨O, i, none⟩ = some (.slice (some ⟨g i, 0, none⟩) n (c i))
  ofree : ∀ i, i < m → w.frozen? ⟨O, i, none⟩ = false
  row : ∀ i j, i < m → j < n → w.cell? ⟨g i, j, none⟩ = some (.int .i64 (M i j))
  free : ∀ i j, i < m → j < n → w.frozen? ⟨g i, j, none⟩ = false
  le : ∀ i, i < m → n ≤ c i ∧ c i ≤ 9223372036854775807
  inj : ∀ i j, i < m → j < m → g i = g j → i = j
  ne : ∀ i, i < m → g i ≠ O
  lt : ∀ i, i < m → g i < w.heap.size
  olt : O < w.heap.size

/-- Only these blocks have turned, and new ones have come. -/
structure Turned (S : Nat → Prop) (w w' : World) : Prop where
  os : w'.os = w.os
  tape : w'.tape = w.tape
  output : w'.output = w.output
  size : w.heap.size ≤ w'.heap.size
  block : ∀ k, k < w.heap.size → ¬ S k → w'.heap[k]? = w.heap[k]?
theorem Turned.refl (S : Nat → Prop) (w : World) : Turned S w w := ⟨rfl, rfl, rfl, Nat.le_refl _, fun _ _ _ => rfl⟩
theorem Turned.trans {S : Nat → Prop} {a b c : World} (h : Turned S a b) (k : Turned S b c) : Turned S a c :=
  ⟨k.os.trans h.os, k.tape.trans h.tape, k.output.trans h.output, Nat.le_trans h.size k.size, fun i hi hs => (k.block i (Nat.lt_of_lt_of_le hi h.size) hs).trans (h.block i hi hs)⟩
theorem Turned.drewN {S : Nat → Prop} {a w : World} (h : Turned S a w) (n : Nat) : Turned S a (w.drewN n) := ⟨h.os, h.tape, h.output, h.size, h.block⟩
theorem Turned.drew {S : Nat → Prop} {a w : World} (h : Turned S a w) : Turned S a w.drew := ⟨h.os, h.tape, h.output, h.size, h.block⟩
theorem Turned.alloc {S : Nat → Prop} {a w : World} (h : Turned S a w) (o : Obj) : Turned S a (w.alloc o) :=
  h.trans ⟨rfl, rfl, rfl, by simp, fun k hk _ => Below.heap_alloc _ _ _ hk⟩
theorem Turned.setCell {S : Nat → Prop} {a w : World} (h : Turned S a w) {p : Addr} (hp : S p.block) (u : Value) : Turned S a (w.setCell p u) :=
  h.trans ⟨rfl, rfl, rfl, by simp [World.setCell], fun k _ hs => Below.heap_setCell _ _ _ _ (fun e => hs (e ▸ hp))⟩
theorem Turned.of_below {S : Nat → Prop} {a b : World} (h : Below a.heap.size a b) : Turned S a b := ⟨h.os, h.tape, h.output, h.size, fun k hk _ => h.block k hk⟩
theorem Turned.below {S : Nat → Prop} {a b : World} (h : Turned S a b) {B : Nat} (hB : B ≤ a.heap.size) (hS : ∀ k, S k → B ≤ k) : Below B a b :=
  ⟨h.os, h.tape, h.output, h.size, fun k hk => h.block k (by omega) (fun q => by have := hS k q; omega)⟩
theorem Turned.grown {S : Nat → Prop} {a w w' : World} {row : Option Nat} (h : Turned S a w) (hg : w.grownBy w' row) (hr : ∀ k, row = some k → a.heap.size ≤ k) : Turned S a w' :=
  ⟨hg.os.trans h.os, hg.tape.trans h.tape, hg.output.trans h.output, Nat.le_trans h.size hg.size, fun k hk hs => (hg.block k (Nat.lt_of_lt_of_le hk h.size) (fun e => by have := hr k e.symm; omega)).trans (h.block k hk hs)⟩

section
variable {w w' : World} {O : Nat} {g c : Nat → Nat} {m n : Nat} {M : Nat → Nat → Int}
theorem Mat.congr (h : Mat w O g c m n M) {M' : Nat → Nat → Int} (e : ∀ i j, i < m → j < n → M i j = M' i j) : Mat w O g c m n M' :=
  ⟨h.out, h.ofree, fun i j hi hj => by rw [← e i j hi hj]; exact h.row i j hi hj, h.free, h.le, h.inj, h.ne, h.lt, h.olt⟩
theorem Mat.drewN (h : Mat w O g c m n M) (k : Nat) : Mat (w.drewN k) O g c m n M := ⟨h.out, h.ofree, h.row, h.free, h.le, h.inj, h.ne, h.lt, h.olt⟩
theorem Mat.drew (h : Mat w O g c m n M) : Mat w.drew O g c m n M := ⟨h.out, h.ofree, h.row, h.free, h.le, h.inj, h.ne, h.lt, h.olt⟩
theorem Mat.below (h : Mat w O g c m n M) (hb : Below w.heap.size w w') : Mat w' O g c m n M :=
  ⟨fun i hi => (hb.cell (p := ⟨O, i, none⟩) h.olt).trans (h.out i hi), fun i hi => (hb.frozen (p := ⟨O, i, none⟩) h.olt).trans (h.ofree i hi),
   fun i j hi hj => (hb.cell (p := ⟨g i, j, none⟩) (h.lt i hi)).trans (h.row i j hi hj), fun i j hi hj => (hb.frozen (p := ⟨g i, j, none⟩) (h.lt i hi)).trans (h.free i j hi hj),
   h.le, h.inj, h.ne, fun i hi => Nat.lt_of_lt_of_le (h.lt i hi) hb.size, Nat.lt_of_lt_of_le h.olt hb.size⟩
/-- One number stored. -/
theorem Mat.put (h : Mat w O g c m n M) {i j : Nat} (hi : i < m) (hj : j < n) (z : Int) : Mat (w.setCell ⟨g i, j, none⟩ (.int .i64 z)) O g c m n (fun i' j' => if i' = i ∧ j' = j then z else M i' j') := by
  refine ⟨fun i' hi' => ?_, fun i' hi' => ?_, fun i' j' hi' hj' => ?_, fun i' j' hi' hj' => ?_, h.le, h.inj, h.ne, fun i' hi' => by simpa using h.lt i' hi', by simpa using h.olt⟩
  · rw [World.cell?_setCell_other w _ _ _ (fun e => h.ne i hi (by injection e with e1))]; exact h.out i' hi'
  · rw [World.frozen?_setCell]; exact h.ofree i' hi'
  · by_cases e : i' = i ∧ j' = j
    · obtain ⟨rfl, rfl⟩ := e
      rw [if_pos ⟨rfl, rfl⟩]
      exact World.cell?_setCell_same' w _ _ (by rw [h.row _ _ hi' hj']; rfl)
    · rw [if_neg e, World.cell?_setCell_other w _ _ _ (fun q => e (by injection q with q1 q2; exact ⟨(h.inj _ _ hi hi' (by omega)).symm, by omega⟩))]
      exact h.row i' j' hi' hj'
  · rw [World.frozen?_setCell]; exact h.free i' j' hi' hj'
/-- Two rows changed. -/
theorem sw_lt {k a m i : Nat} (hk : k < m) (ha : a < m) (hi : i < m) : sw k a i < m := by unfold sw; split; exact ha; split; exact hk; exact hi
theorem sw_inj {k a i j : Nat} (h : sw k a i = sw k a j) : i = j := by unfold sw at h; split at h <;> split at h <;> (try split at h) <;> (try split at h) <;> omega
theorem Mat.swap (h : Mat w O g c m n M) {k a : Nat} (hk : k < m) (ha : a < m) (hka : k ≠ a) :
    Mat ((w.setCell ⟨O, k, none⟩ (.slice (some ⟨g a, 0, none⟩) n (c a))).setCell ⟨O, a, none⟩ (.slice (some ⟨g k, 0, none⟩) n (c k))) O (fun i => g (sw k a i)) (fun i => c (sw k a i)) m n (fun i j => M (sw k a i) j) := by
  refine ⟨fun i hi => ?_, fun i hi => ?_, fun i j hi hj => ?_, fun i j hi hj => ?_, fun i hi => h.le _ (sw_lt hk ha hi), fun i j hi hj e => sw_inj (h.inj _ _ (sw_lt hk ha hi) (sw_lt hk ha hj) e), fun i hi => h.ne _ (sw_lt hk ha hi), fun i hi => by simpa using h.lt _ (sw_lt hk ha hi), by simpa using h.olt⟩
  · have hc : ((w.setCell ⟨O, k, none⟩ (.slice (some ⟨g a, 0, none⟩) n (c a))).cell? ⟨O, a, none⟩).isSome = true := by
      rw [World.cell?_setCell_other w _ _ _ (fun e => hka (by injection e)), h.out a ha]; rfl
    by_cases e1 : i = a
    · subst e1
      rw [World.cell?_setCell_same' _ _ _ hc]
      unfold sw; rw [if_neg (by omega), if_pos rfl]
    · rw [World.cell?_setCell_other _ _ _ _ (fun e => e1 (by injection e with _ e2; omega))]
      by_cases e2 : i = k
      · subst e2
        rw [World.cell?_setCell_same' w _ _ (by rw [h.out i hi]; rfl)]
        unfold sw; rw [if_pos rfl]
      · rw [World.cell?_setCell_other _ _ _ _ (fun e => e2 (by injection e with _ e3; omega)), h.out i hi]
        unfold sw; rw [if_neg e2, if_neg e1]
  · rw [World.frozen?_setCell, World.frozen?_setCell]; exact h.ofree i hi
  · have hn := h.ne _ (sw_lt hk ha hi)
    rw [World.cell?_setCell_other _ _ _ _ (fun e => hn (by injection e with e1; exact e1.symm)), World.cell?_setCell_other _ _ _ _ (fun e => hn (by injection e with e1; exact e1.symm))]
    exact h.row _ j (sw_lt hk ha hi) hj
  · rw [World.frozen?_setCell, World.frozen?_setCell]; exact h.free _ j (sw_lt hk ha hi) hj
end
end Go.Proofs.YtjcdkbalhleeeaaGreatDoor

namespace Go.Proofs.YtjcdkbalhleeeaaGreatDoor
open Go.RowKit

section
variable {ops : Array Oper} {rest : List Oper} {o : Oper} {a : Act} {w : World} {Q : Exit → Act → World → Prop}
end
theorem und_rows : Tryz.prog.underlying 115 = some (.slice 25) := by kernel_rfl
theorem inf_ints : (Tryz.prog.info? 25).map (fun i => (i.zero, i.size, i.bytes)) = some (some (.slice none 0 0), 1, 24) := by kernel_rfl

theorem addz (b j : Nat) : (⟨b, 0, none⟩ : Addr).add j = ⟨b, j, none⟩ := by unfold Addr.add; split <;> simp_all
/-- A slice of slices of numbers reads as rows. -/
structure Rm (w : World) (A : Option Addr) (c : Nat) (rs : List (List Int)) : Prop where
  le : rs.length ≤ c
  cap : c ≤ 9223372036854775807
  cells : 0 < rs.length → ∃ ad, A = some ad ∧ ∀ (j : Nat) (hj : j < rs.length), ∃ A' c', w.cell? (ad.add j) = some (.slice A' rs[j].length c') ∧ Rd w A' c' rs[j]
section
variable {w w' : World} {A : Option Addr} {c : Nat} {rs : List (List Int)}
theorem Rm.keep (h : Rm w A c rs) (hk : ∀ p : Addr, p.block < w.heap.size → w'.cell? p = w.cell? p) : Rm w' A c rs :=
  ⟨h.le, h.cap, fun hl => by
    obtain ⟨ad, e, hc⟩ := h.cells hl
    refine ⟨ad, e, fun j hj => ?_⟩
    obtain ⟨A', c', h1, h2⟩ := hc j hj
    exact ⟨A', c', (hk _ (World.block_lt_of_cell? w _ h1)).trans h1, h2.keep hk⟩⟩
theorem Rm.below (h : Rm w A c rs) (hb : Below w.heap.size w w') : Rm w' A c rs := h.keep fun _ hp => hb.cell hp
theorem Rm.at_ (h : Rm w A c rs) {k : Nat} (hk : k < rs.length) : ∃ ad A' c', A = some ad ∧ w.cell? (ad.add k) = some (.slice A' rs[k].length c') ∧ Rd w A' c' rs[k] := by
  obtain ⟨ad, e, hc⟩ := h.cells (by omega)
  obtain ⟨A', c', h1, h2⟩ := hc k hk
  exact ⟨ad, A', c', e, h1, h2⟩
end
end Go.Proofs.YtjcdkbalhleeeaaGreatDoor

namespace Go.Proofs.YtjcdkbalhleeeaaGreatDoor
open Go.RowKit

/-- The call's own slice of rows: its values, and each row reads. -/
def RowsOwn (w : World) (base : Nat) (v : Value) (k : Nat) (rs : List (List Int)) : Prop :=
  rs.length = k ∧ ∃ vs : List Value, vs.length = k ∧ w.ownsRow base 25 1 v k vs ∧
    ∀ j, j < k → ∃ A' c', vs[j]? = some (.slice A' (rs.getD j []).length c') ∧ Rd w A' c' (rs.getD j []) ∧ (0 < (rs.getD j []).length → ∀ ad, A' = some ad → some ad.block ≠ v.ownBlock)
section
variable {w w' : World} {base k : Nat} {v : Value} {rs : List (List Int)}
theorem RowsOwn.nil (w : World) (base : Nat) : RowsOwn w base (.slice none 0 0) 0 [] := ⟨rfl, [], rfl, World.ownsRow_nil _ _ _ _, fun j hj => by omega⟩
theorem RowsOwn.below (h : RowsOwn w base v k rs) (hb : Below w.heap.size w w') : RowsOwn w' base v k rs := by
  obtain ⟨h1, vs, h2, h3, h4⟩ := h
  refine ⟨h1, vs, h2, own_below h3 hb, fun j hj => ?_⟩
  obtain ⟨A', c', a, b, c⟩ := h4 j hj
  exact ⟨A', c', a, b.below hb, c⟩
theorem Rd.grown {A : Option Addr} {c : Nat} {l : List Int} {row : Option Nat} (h : Rd w A c l) (hg : w.grownBy w' row) (hd : 0 < l.length → ∀ ad, A = some ad → some ad.block ≠ row) : Rd w' A c l := by
  refine ⟨h.le, h.cap, h.small, fun hl => ?_⟩
  simp only [List.length_map] at hl
  obtain ⟨ad, e, hc⟩ := h.cells (by simpa using hl)
  refine ⟨ad, e, fun j u hu => ?_⟩
  have hcu := hc j u hu
  have hlt := World.block_lt_of_cell? _ _ hcu
  have hn := hd hl ad e
  rw [← hcu]
  have hb := hg.block (ad.add j).block hlt (by rw [block_add]; exact hn)
  unfold World.cell?
  rw [hb]
theorem RowsOwn.push (h1 : rs.length = k) {vs : List Value} (h2 : vs.length = k)
    (h4 : ∀ j, j < k → ∃ A' c', vs[j]? = some (.slice A' (rs.getD j []).length c') ∧ Rd w A' c' (rs.getD j []) ∧ (0 < (rs.getD j []).length → ∀ ad, A' = some ad → some ad.block ≠ v.ownBlock))
    {A : Option Addr} {c : Nat} {r : List Int} (hr : Rd w A c r) (hd : 0 < r.length → ∀ ad, A = some ad → some ad.block ≠ v.ownBlock)
    {g cap : Nat} (hown : w'.ownsRow base 25 1 (.slice (some ⟨g, 0, none⟩) (k + 1) cap) (k + 1) (vs ++ [.slice A r.length c])) (hg : w.grownBy w' v.ownBlock) (hat : v.ownBlock = some g ∨ g = w.heap.size) :
    RowsOwn w' base (.slice (some ⟨g, 0, none⟩) (k + 1) cap) (k + 1) (rs ++ [r]) := by
  have key : ∀ {A : Option Addr} {c : Nat} {l : List Int}, Rd w A c l → (0 < l.length → ∀ ad, A = some ad → some ad.block ≠ v.ownBlock) → 0 < l.length → ∀ ad, A = some ad → some ad.block ≠ (Value.slice (some ⟨g, 0, none⟩) (k + 1) cap).ownBlock := by
    intro A c l hr hd hl ad e
    subst e
    show some ad.block ≠ some g
    rcases hat with q | q
    · rw [← q]; exact hd hl ad rfl
    · obtain ⟨ad', e', hc⟩ := hr.cells (by simpa using hl)
      cases e'
      have h0 := World.block_lt_of_cell? _ _ (hc 0 (.int .i64 l[0]) (by simp [List.getElem?_eq_getElem hl]))
      rw [block_add] at h0
      intro e; injection e with e; omega
  refine ⟨by simp [h1], _, by simp [h2], hown, fun j hj => ?_⟩
  by_cases e : j = k
  · subst e
    refine ⟨A, c, ?_, ?_, ?_⟩
    · rw [List.getElem?_append_right (by omega), h2]; simp [List.getD, h1]
    · have : (rs ++ [r]).getD j [] = r := by simp [List.getD, ← h1]
      rw [this]; exact hr.grown hg hd
    · have : (rs ++ [r]).getD j [] = r := by simp [List.getD, ← h1]
      rw [this]; exact key hr hd
  · obtain ⟨A', c', a, b, d⟩ := h4 j (by omega)
    have e2 : (rs ++ [r]).getD j [] = rs.getD j [] := by simp only [List.getD]; rw [List.getElem?_append_left (by omega)]
    rw [e2]
    refine ⟨A', c', ?_, b.grown hg d, key b d⟩
    rw [List.getElem?_append_left (by omega)]; exact a
end

/-! The document's determinant. -/
def sg : Nat → Int
  | 0 => 1
  | k + 1 => 0 - sg k
end Go.Proofs.YtjcdkbalhleeeaaGreatDoor
