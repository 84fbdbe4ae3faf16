/-
  The walk of the law FormTells: it returns true. No condition but that its arguments read as a program and a point.
-/
import Derived.Test.YtjcdkbalhleeeaaRef2
namespace Go.Proofs.Ytjcdkbalhleeeaa
open Go.RowKit

theorem ref1_MakeF (n d : Int) (w : World) : Calls Try.prog 15 #[.int .i64 n, .int .i64 d] w (RetFr w (frN n d) (ptD [n] d) (ptE [n] d)) := ref1_Make n d w

set_option maxHeartbeats 1000000 in
theorem formTells_walk (A : Option Addr) (c : Nat) (A2 : Option Addr) (c2 : Nat) (p : PG) (X : Option Addr) (l : List Int) (cx : Nat) (d : Int) (w : World) (hp : Pg w A c A2 c2 p) (hx : Rd w X cx l) :
    Calls Try.prog 5 #[.agg #[.slice A p.costs.length c, .slice A2 p.rows.length c2], .agg #[.slice X l.length cx, .int .i64 d]] w fun e w' => e = .returned (.bool true) ∧ Below w.heap.size w w' := by
  have HP := Lib.hid hp
  have HX := Lib.hid hx
  obtain ⟨⟨hl, hc, hsm, _⟩, ⟨hl2, hc2, hsm2, _⟩⟩ := hp
  obtain ⟨hlx, hcx, hsx, _⟩ := hx
  go_enter Try.func5, Try.ntmps5
  go_wp2_with fail
  refine (layout_May _ _ _ _ _ _ (by exact HP.out.below (by (repeat (any_goals (first | exact Below.refl _ _ | refine below_drewN ?_ _ | refine Below.drew ?_ | refine Below.alloc ?_ ?_ _ | refine Below.setCell ?_ ?_ _))); all_goals (first | omega | (simp; done) | (simp; omega))))).mono ?_
  rintro e w1 ⟨rfl, hb1⟩
  have Vp0 := Blk.next (Blk.alloc (Blk.mk' _ _ _) _) hb1; (try simp only [World.size_alloc, World.size_drew, World.size_setCell, size_drewN'] at Vp0); have Vp := Lib.hid Vp0; clear Vp0; have lVp := Vp.out.lt; have Vx0 := Blk.next (Blk.mk' _ _ _) hb1; (try simp only [World.size_alloc, World.size_drew, World.size_setCell, size_drewN'] at Vx0); have Vx := Lib.hid Vx0; clear Vx0; have lVx := Vx.out.lt; have HX := Lib.hid (HX.out.hop (by (repeat (any_goals (first | exact Below.refl _ _ | refine below_drewN ?_ _ | refine Below.drew ?_ | refine Below.alloc ?_ ?_ _ | refine Below.setCell ?_ ?_ _))); all_goals (first | omega | (simp; done) | (simp; omega))) hb1); have HP := Lib.hid (HP.out.hop (by (repeat (any_goals (first | exact Below.refl _ _ | refine below_drewN ?_ _ | refine Below.drew ?_ | refine Below.alloc ?_ ?_ _ | refine Below.setCell ?_ ?_ _))); all_goals (first | omega | (simp; done) | (simp; omega))) hb1); have zhb1 := hb1.size; (try simp only [World.size_alloc, World.size_drew, World.size_setCell, size_drewN'] at zhb1); have HB1 := Lib.hid hb1; clear hb1
  have a1 : w1.cell? ⟨w.heap.size, 0, none⟩ = some (.slice A p.costs.length c) := Vp.out.cell 0
  have a2 : w1.cell? ⟨w.heap.size, 1, none⟩ = some (.slice A2 p.rows.length c2) := Vp.out.cell 1
  have a3 : w1.cell? ⟨w.heap.size + 1, 0, none⟩ = some (.slice X l.length cx) := Vx.out.cell 0
  have a4 : w1.cell? ⟨w.heap.size + 1, 1, none⟩ = some (.int .i64 d) := Vx.out.cell 1
  go_wp2_with fail
  refine (layout_Goes _ _ _ _ _ _ _ _ _ _ HP.out HX.out).mono ?_
  rintro e w2 ⟨rfl, hb2⟩
  have Vp := Lib.hid (Blk.hop Vp.out (by (repeat (any_goals (first | exact Below.refl _ _ | refine below_drewN ?_ _ | refine Below.drew ?_ | refine Below.alloc ?_ ?_ _ | refine Below.setCell ?_ ?_ _))); all_goals (first | omega | (simp; done) | (simp; omega))) hb2); have lVp := Vp.out.lt; have Vx := Lib.hid (Blk.hop Vx.out (by (repeat (any_goals (first | exact Below.refl _ _ | refine below_drewN ?_ _ | refine Below.drew ?_ | refine Below.alloc ?_ ?_ _ | refine Below.setCell ?_ ?_ _))); all_goals (first | omega | (simp; done) | (simp; omega))) hb2); have lVx := Vx.out.lt; have HX := Lib.hid (HX.out.hop (by (repeat (any_goals (first | exact Below.refl _ _ | refine below_drewN ?_ _ | refine Below.drew ?_ | refine Below.alloc ?_ ?_ _ | refine Below.setCell ?_ ?_ _))); all_goals (first | omega | (simp; done) | (simp; omega))) hb2); have HP := Lib.hid (HP.out.hop (by (repeat (any_goals (first | exact Below.refl _ _ | refine below_drewN ?_ _ | refine Below.drew ?_ | refine Below.alloc ?_ ?_ _ | refine Below.setCell ?_ ?_ _))); all_goals (first | omega | (simp; done) | (simp; omega))) hb2); have zhb2 := hb2.size; (try simp only [World.size_alloc, World.size_drew, World.size_setCell, size_drewN'] at zhb2); have HB2 := Lib.hid hb2; clear hb2
  have b1 : w2.cell? ⟨w.heap.size, 0, none⟩ = some (.slice A p.costs.length c) := Vp.out.cell 0
  have b2 : w2.cell? ⟨w.heap.size, 1, none⟩ = some (.slice A2 p.rows.length c2) := Vp.out.cell 1
  have b3 : w2.cell? ⟨w.heap.size + 1, 0, none⟩ = some (.slice X l.length cx) := Vx.out.cell 0
  have b4 : w2.cell? ⟨w.heap.size + 1, 1, none⟩ = some (.int .i64 d) := Vx.out.cell 1
  clear a1 a2 a3 a4
  go_wp2_with fail
  refine (layout_Worth _ _ _ _ _ _ _ _ _ _ HP.out HX.out).mono ?_
  rintro e w3 ⟨rfl, hb3⟩
  have Vp := Lib.hid (Blk.hop Vp.out (by (repeat (any_goals (first | exact Below.refl _ _ | refine below_drewN ?_ _ | refine Below.drew ?_ | refine Below.alloc ?_ ?_ _ | refine Below.setCell ?_ ?_ _))); all_goals (first | omega | (simp; done) | (simp; omega))) hb3); have lVp := Vp.out.lt; have Vx := Lib.hid (Blk.hop Vx.out (by (repeat (any_goals (first | exact Below.refl _ _ | refine below_drewN ?_ _ | refine Below.drew ?_ | refine Below.alloc ?_ ?_ _ | refine Below.setCell ?_ ?_ _))); all_goals (first | omega | (simp; done) | (simp; omega))) hb3); have lVx := Vx.out.lt; have HX := Lib.hid (HX.out.hop (by (repeat (any_goals (first | exact Below.refl _ _ | refine below_drewN ?_ _ | refine Below.drew ?_ | refine Below.alloc ?_ ?_ _ | refine Below.setCell ?_ ?_ _))); all_goals (first | omega | (simp; done) | (simp; omega))) hb3); have HP := Lib.hid (HP.out.hop (by (repeat (any_goals (first | exact Below.refl _ _ | refine below_drewN ?_ _ | refine Below.drew ?_ | refine Below.alloc ?_ ?_ _ | refine Below.setCell ?_ ?_ _))); all_goals (first | omega | (simp; done) | (simp; omega))) hb3); have zhb3 := hb3.size; (try simp only [World.size_alloc, World.size_drew, World.size_setCell, size_drewN'] at zhb3); have HB3 := Lib.hid hb3; clear hb3
  have d1 : w3.cell? ⟨w.heap.size, 0, none⟩ = some (.slice A p.costs.length c) := Vp.out.cell 0
  have d2 : w3.cell? ⟨w.heap.size, 1, none⟩ = some (.slice A2 p.rows.length c2) := Vp.out.cell 1
  have d3 : w3.cell? ⟨w.heap.size + 1, 0, none⟩ = some (.slice X l.length cx) := Vx.out.cell 0
  have d4 : w3.cell? ⟨w.heap.size + 1, 1, none⟩ = some (.int .i64 d) := Vx.out.cell 1
  clear b1 b2 b3 b4
  go_wp2_with fail
  refine (ref2_May _ _ _ _ _ _ (by exact HP.out.below (by (repeat (any_goals (first | exact Below.refl _ _ | refine below_drewN ?_ _ | refine Below.drew ?_ | refine Below.alloc ?_ ?_ _ | refine Below.setCell ?_ ?_ _))); all_goals (first | omega | (simp; done) | (simp; omega))))).mono ?_
  rintro e w4 ⟨rfl, hb4⟩
  have Vp := Lib.hid (Blk.hop Vp.out (by (repeat (any_goals (first | exact Below.refl _ _ | refine below_drewN ?_ _ | refine Below.drew ?_ | refine Below.alloc ?_ ?_ _ | refine Below.setCell ?_ ?_ _))); all_goals (first | omega | (simp; done) | (simp; omega))) hb4); have lVp := Vp.out.lt; have Vx := Lib.hid (Blk.hop Vx.out (by (repeat (any_goals (first | exact Below.refl _ _ | refine below_drewN ?_ _ | refine Below.drew ?_ | refine Below.alloc ?_ ?_ _ | refine Below.setCell ?_ ?_ _))); all_goals (first | omega | (simp; done) | (simp; omega))) hb4); have lVx := Vx.out.lt; have Vw0 := Blk.next (Blk.mk' _ _ _) hb4; (try simp only [World.size_alloc, World.size_drew, World.size_setCell, size_drewN'] at Vw0); have Vw := Lib.hid Vw0; clear Vw0; have lVw := Vw.out.lt; have HX := Lib.hid (HX.out.hop (by (repeat (any_goals (first | exact Below.refl _ _ | refine below_drewN ?_ _ | refine Below.drew ?_ | refine Below.alloc ?_ ?_ _ | refine Below.setCell ?_ ?_ _))); all_goals (first | omega | (simp; done) | (simp; omega))) hb4); have HP := Lib.hid (HP.out.hop (by (repeat (any_goals (first | exact Below.refl _ _ | refine below_drewN ?_ _ | refine Below.drew ?_ | refine Below.alloc ?_ ?_ _ | refine Below.setCell ?_ ?_ _))); all_goals (first | omega | (simp; done) | (simp; omega))) hb4); have zhb4 := hb4.size; (try simp only [World.size_alloc, World.size_drew, World.size_setCell, size_drewN'] at zhb4); have HB4 := Lib.hid hb4; clear hb4
  have e1 : w4.cell? ⟨w.heap.size, 0, none⟩ = some (.slice A p.costs.length c) := Vp.out.cell 0
  have e2 : w4.cell? ⟨w.heap.size, 1, none⟩ = some (.slice A2 p.rows.length c2) := Vp.out.cell 1
  have e3 : w4.cell? ⟨w.heap.size + 1, 0, none⟩ = some (.slice X l.length cx) := Vx.out.cell 0
  have e4 : w4.cell? ⟨w.heap.size + 1, 1, none⟩ = some (.int .i64 d) := Vx.out.cell 1
  clear d1 d2 d3 d4
  go_wp2_with fail
  refine (ref2_Goes _ _ _ _ _ _ _ _ _ _ HP.out HX.out).mono ?_
  rintro e w5 ⟨rfl, hb5⟩
  have Vp := Lib.hid (Blk.hop Vp.out (by (repeat (any_goals (first | exact Below.refl _ _ | refine below_drewN ?_ _ | refine Below.drew ?_ | refine Below.alloc ?_ ?_ _ | refine Below.setCell ?_ ?_ _))); all_goals (first | omega | (simp; done) | (simp; omega))) hb5); have lVp := Vp.out.lt; have Vx := Lib.hid (Blk.hop Vx.out (by (repeat (any_goals (first | exact Below.refl _ _ | refine below_drewN ?_ _ | refine Below.drew ?_ | refine Below.alloc ?_ ?_ _ | refine Below.setCell ?_ ?_ _))); all_goals (first | omega | (simp; done) | (simp; omega))) hb5); have lVx := Vx.out.lt; have Vw := Lib.hid (Blk.hop Vw.out (by (repeat (any_goals (first | exact Below.refl _ _ | refine below_drewN ?_ _ | refine Below.drew ?_ | refine Below.alloc ?_ ?_ _ | refine Below.setCell ?_ ?_ _))); all_goals (first | omega | (simp; done) | (simp; omega))) hb5); have lVw := Vw.out.lt; have HX := Lib.hid (HX.out.hop (by (repeat (any_goals (first | exact Below.refl _ _ | refine below_drewN ?_ _ | refine Below.drew ?_ | refine Below.alloc ?_ ?_ _ | refine Below.setCell ?_ ?_ _))); all_goals (first | omega | (simp; done) | (simp; omega))) hb5); have HP := Lib.hid (HP.out.hop (by (repeat (any_goals (first | exact Below.refl _ _ | refine below_drewN ?_ _ | refine Below.drew ?_ | refine Below.alloc ?_ ?_ _ | refine Below.setCell ?_ ?_ _))); all_goals (first | omega | (simp; done) | (simp; omega))) hb5); have zhb5 := hb5.size; (try simp only [World.size_alloc, World.size_drew, World.size_setCell, size_drewN'] at zhb5); have HB5 := Lib.hid hb5; clear hb5
  have f1 : w5.cell? ⟨w.heap.size, 0, none⟩ = some (.slice A p.costs.length c) := Vp.out.cell 0
  have f2 : w5.cell? ⟨w.heap.size, 1, none⟩ = some (.slice A2 p.rows.length c2) := Vp.out.cell 1
  have f3 : w5.cell? ⟨w.heap.size + 1, 0, none⟩ = some (.slice X l.length cx) := Vx.out.cell 0
  have f4 : w5.cell? ⟨w.heap.size + 1, 1, none⟩ = some (.int .i64 d) := Vx.out.cell 1
  clear e1 e2 e3 e4
  have hne : ∀ b : Bool, (b != b) = false := fun b => by cases b <;> rfl
  go_wp2_with fail
  refine (ref2_Fits _ _ _ _ _ _ _ _ _ _ HP.out HX.out).mono ?_
  rintro e w6 ⟨rfl, hb6⟩
  have Vp := Lib.hid (Blk.hop Vp.out (by (repeat (any_goals (first | exact Below.refl _ _ | refine below_drewN ?_ _ | refine Below.drew ?_ | refine Below.alloc ?_ ?_ _ | refine Below.setCell ?_ ?_ _))); all_goals (first | omega | (simp; done) | (simp; omega))) hb6); have lVp := Vp.out.lt; have Vx := Lib.hid (Blk.hop Vx.out (by (repeat (any_goals (first | exact Below.refl _ _ | refine below_drewN ?_ _ | refine Below.drew ?_ | refine Below.alloc ?_ ?_ _ | refine Below.setCell ?_ ?_ _))); all_goals (first | omega | (simp; done) | (simp; omega))) hb6); have lVx := Vx.out.lt; have Vw := Lib.hid (Blk.hop Vw.out (by (repeat (any_goals (first | exact Below.refl _ _ | refine below_drewN ?_ _ | refine Below.drew ?_ | refine Below.alloc ?_ ?_ _ | refine Below.setCell ?_ ?_ _))); all_goals (first | omega | (simp; done) | (simp; omega))) hb6); have lVw := Vw.out.lt; have HX := Lib.hid (HX.out.hop (by (repeat (any_goals (first | exact Below.refl _ _ | refine below_drewN ?_ _ | refine Below.drew ?_ | refine Below.alloc ?_ ?_ _ | refine Below.setCell ?_ ?_ _))); all_goals (first | omega | (simp; done) | (simp; omega))) hb6); have HP := Lib.hid (HP.out.hop (by (repeat (any_goals (first | exact Below.refl _ _ | refine below_drewN ?_ _ | refine Below.drew ?_ | refine Below.alloc ?_ ?_ _ | refine Below.setCell ?_ ?_ _))); all_goals (first | omega | (simp; done) | (simp; omega))) hb6); have zhb6 := hb6.size; (try simp only [World.size_alloc, World.size_drew, World.size_setCell, size_drewN'] at zhb6); have HB6 := Lib.hid hb6; clear hb6
  cases h1 : fitsB p l d with
  | false =>
    have hE : worE p l d = 2 := by simp [worE, h1]
    have hN : worN p l d = 0 := by simp [worN, h1]
    have hD : worD p l d = 0 := by simp [worD, h1]
    have g1 : w6.cell? ⟨w3.heap.size, 0, none⟩ = some (.int .i64 0) := by rw [← hN]; exact Vw.out.cell 0
    have g2 : w6.cell? ⟨w3.heap.size, 1, none⟩ = some (.int .i64 0) := by rw [← hD]; exact Vw.out.cell 1
    go_wp2_with fail
    go_ret
    exact ⟨rfl, (by (repeat (any_goals (first | exact Below.refl _ _ | exact HB1.out | exact HB2.out | exact HB3.out | exact HB4.out | exact HB5.out | exact HB6.out | refine below_drewN ?_ _ | refine Below.drew ?_ | refine Below.alloc ?_ ?_ _ | refine Below.setCell ?_ ?_ _ | refine Below.trans ?_ (Below.mono HB1.out ?_) | refine Below.trans ?_ (Below.mono HB2.out ?_) | refine Below.trans ?_ (Below.mono HB3.out ?_) | refine Below.trans ?_ (Below.mono HB4.out ?_) | refine Below.trans ?_ (Below.mono HB5.out ?_) | refine Below.trans ?_ (Below.mono HB6.out ?_)))); all_goals (first | omega | (simp; done) | (simp; omega) | ((try have z0 := HB1.out.size); (try simp at z0); (try have z1 := HB2.out.size); (try simp at z1); (try have z2 := HB3.out.size); (try simp at z2); (try have z3 := HB4.out.size); (try simp at z3); (try have z4 := HB5.out.size); (try simp at z4); (try have z5 := HB6.out.size); (try simp at z5); (try simp); omega)))⟩
  | true =>
    have hE : worE p l d = ptE [dot p.costs l] d := by simp [worE, h1]
    have hN : worN p l d = frN (dot p.costs l) d := by simp [worN, h1]
    have hD : worD p l d = ptD [dot p.costs l] d := by simp [worD, h1]
    obtain ⟨hf1, hf2, hf3⟩ := fitsB_iff.1 h1
    obtain ⟨hd1, hd2, hsX, hl8⟩ := mayB_parts hf2
    obtain ⟨g1, g2, g3, g4, g5, g6⟩ := mayPB_iff.1 hf1
    have HD := Lib.hid (show ∀ W : World, Rd W A c p.costs → Rd W X cx l → Calls Try.prog 28 #[.slice A p.costs.length c, .slice X l.length cx] W fun e w' => e = .returned (.int .i64 (dot p.costs l)) ∧ ∃ n, w' = W.drewN n from
              fun W h1 h2 => ref2_Dot A p.costs c X l cx 400 1073741824 W h1 h2 (by omega) (by omega) (by omega) g5 hsX (by omega))
    have HE := Lib.hid hE
    have HN := Lib.hid hN
    have HDD := Lib.hid hD
    clear hf1 hf2 hf3 hsX g1 g2 g3 g4 g5 g6 hE hN hD f1 f2 f3 f4
    have SK := Lib.hid (show ∀ w', Below w6.heap.size w6 w' → (w'.cell? ⟨w.heap.size, 0, none⟩ = some (.slice A p.costs.length c) ∧ w'.cell? ⟨w.heap.size + 1, 0, none⟩ = some (.slice X l.length cx) ∧ w'.cell? ⟨w.heap.size + 1, 1, none⟩ = some (.int .i64 d)) from fun w' h =>
      ⟨(Vp.out.next h).cell 0, (Vx.out.next h).cell 0, (Vx.out.next h).cell 1⟩)
    go_wp2_with fail
    go_region_held3 (fun w' => (w'.cell? ⟨w.heap.size, 0, none⟩ = some (.slice A p.costs.length c) ∧ w'.cell? ⟨w.heap.size + 1, 0, none⟩ = some (.slice X l.length cx) ∧ w'.cell? ⟨w.heap.size + 1, 1, none⟩ = some (.int .i64 d)))
      (first | (refine SK.out _ ?_; exact (by (repeat (any_goals (first | exact Below.refl _ _ | exact hb8 | refine below_drewN ?_ _ | refine Below.drew ?_ | refine Below.alloc ?_ ?_ _ | refine Below.setCell ?_ ?_ _ | refine Below.trans ?_ (Below.mono hb8 ?_)))); all_goals (first | omega | (simp; done) | (simp; omega) | ((try have z0 := hb8.size); (try simp at z0); (try simp); omega)))))
      (first
        | (go_at_call 28; refine (HD.out _ (HP.out.costs.below (by (repeat (any_goals (first | exact Below.refl _ _ | refine below_drewN ?_ _ | refine Below.drew ?_ | refine Below.alloc ?_ ?_ _ | refine Below.setCell ?_ ?_ _))); all_goals (first | omega | (simp; done) | (simp; omega)))) (HX.out.below (by (repeat (any_goals (first | exact Below.refl _ _ | refine below_drewN ?_ _ | refine Below.drew ?_ | refine Below.alloc ?_ ?_ _ | refine Below.setCell ?_ ?_ _))); all_goals (first | omega | (simp; done) | (simp; omega))))).mono ?_; rintro e w7 ⟨rfl, n7, rfl⟩)
        | (go_at_call 15; refine (ref1_Make _ _ _).mono ?_; rintro e w8 ⟨rfl, hb8⟩; (try (have hQ : Blk w8 w6.heap.size 23 #[.int .i64 0, .int .i64 0] := Blk.next (by first | exact Blk.mk' _ _ _ | exact Blk.drewN (Blk.mk' _ _ _) _ | exact Blk.drew (Blk.mk' _ _ _) | exact Blk.drewN (Blk.drew (Blk.mk' _ _ _)) _) hb8; have y0 : w8.cell? ⟨w6.heap.size, 0, none⟩ = some (.int .i64 0) := hQ.cell 0; have y1 : w8.cell? ⟨w6.heap.size, 1, none⟩ = some (.int .i64 0) := hQ.cell 1; have y2 := hQ.frozen 0; have y3 := hQ.frozen 1))))
    all_goals
      have hl8 : Below w6.heap.size w6 w8 := (by (repeat (any_goals (first | exact Below.refl _ _ | exact hb8 | refine below_drewN ?_ _ | refine Below.drew ?_ | refine Below.alloc ?_ ?_ _ | refine Below.setCell ?_ ?_ _ | refine Below.trans ?_ (Below.mono hb8 ?_)))); all_goals (first | omega | (simp; done) | (simp; omega) | ((try have z0 := hb8.size); (try simp at z0); (try simp); omega)))
      have hV8 := Vw.out.next hl8
      have v0 : w8.cell? ⟨w3.heap.size, 0, none⟩ = some (.int .i64 (frN (dot p.costs l) d)) := by rw [← HN.out]; exact hV8.cell 0
      have v1 : w8.cell? ⟨w3.heap.size, 1, none⟩ = some (.int .i64 (ptD [dot p.costs l] d)) := by rw [← HDD.out]; exact hV8.cell 1
      have v2 := hV8.lt
      have hE := HE.out
      have HL8 := Lib.hid hl8
      have HB8 := Lib.hid hb8
      have hz8 := hl8.size
      clear hV8 hl8 hb8
      go_wp2_with fail
      go_ret
      exact ⟨ret_bool (by simp), (by (repeat (any_goals (first | exact Below.refl _ _ | exact HB1.out | exact HB2.out | exact HB3.out | exact HB4.out | exact HB5.out | exact HB6.out | exact HL8.out | refine below_drewN ?_ _ | refine Below.drew ?_ | refine Below.alloc ?_ ?_ _ | refine Below.setCell ?_ ?_ _ | refine Below.trans ?_ (Below.mono HB1.out ?_) | refine Below.trans ?_ (Below.mono HB2.out ?_) | refine Below.trans ?_ (Below.mono HB3.out ?_) | refine Below.trans ?_ (Below.mono HB4.out ?_) | refine Below.trans ?_ (Below.mono HB5.out ?_) | refine Below.trans ?_ (Below.mono HB6.out ?_) | refine Below.trans ?_ (Below.mono HL8.out ?_)))); all_goals (first | omega | (simp; done) | (simp; omega) | ((try have z0 := HB1.out.size); (try simp at z0); (try have z1 := HB2.out.size); (try simp at z1); (try have z2 := HB3.out.size); (try simp at z2); (try have z3 := HB4.out.size); (try simp at z3); (try have z4 := HB5.out.size); (try simp at z4); (try have z5 := HB6.out.size); (try simp at z5); (try have z6 := HL8.out.size); (try simp at z6); (try simp); omega)))⟩
end Go.Proofs.Ytjcdkbalhleeeaa
