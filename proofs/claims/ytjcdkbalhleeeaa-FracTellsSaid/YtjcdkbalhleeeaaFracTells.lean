/-
  The walk of the law FracTells: it returns true. No condition but that the slice reads as a list.
-/
import Derived.Test.YtjcdkbalhleeeaaRefB
namespace Go.Proofs.Ytjcdkbalhleeeaa
open Go.RowKit

theorem sameB_refl (l : List Int) (d : Int) : sameB l d l d = true := by simp [sameB]
set_option maxHeartbeats 1000000 in
theorem fracTells_some (A : Option Addr) (l : List Int) (c : Nat) (d n1 d1 n2 d2 : Int) (w : World) (hr : Rd w A c l) (h0 : 0 < l.length) :
    Calls Try.prog 4 #[.slice A l.length c, .int .i64 d, .agg #[.int .i64 n1, .int .i64 d1], .agg #[.int .i64 n2, .int .i64 d2]] w fun e w' => e = .returned (.bool true) ∧ Below w.heap.size w w' := by
  have HR := Lib.hid hr
  obtain ⟨hl, hc, hsm, _⟩ := hr
  obtain ⟨ad, rfl, hc1⟩ := HR.out.at_ h0
  have hc2 : w.cell? ad = some (.int .i64 l[0]) := by simpa [Addr.add] using hc1
  have hadl := World.block_lt_of_cell? _ _ hc2
  clear hc1
  go_enter Try.func4, Try.ntmps4
  go_wp2_with fail
  refine (frac_Make _ _ _).mono ?_
  rintro e w1 ⟨rfl, hb1⟩
  have Va0 := Blk.next (Blk.alloc (Blk.mk' _ _ _) _) hb1; (try simp only [World.size_alloc, World.size_drew, World.size_setCell, size_drewN'] at Va0); have Va := Lib.hid Va0; clear Va0; have Vb0 := Blk.next (Blk.mk' _ _ _) hb1; (try simp only [World.size_alloc, World.size_drew, World.size_setCell, size_drewN'] at Vb0); have Vb := Lib.hid Vb0; clear Vb0; have HR := Lib.hid (Rd.hop HR.out (by (repeat (any_goals (first | exact Below.refl _ _ | refine below_drewN ?_ _ | refine Below.drew ?_ | refine Below.alloc ?_ ?_ _ | refine Below.setCell ?_ ?_ _))); all_goals (first | omega | (simp; done) | (simp; omega))) hb1); have zhb1 := hb1.size; (try simp only [World.size_alloc, World.size_drew, World.size_setCell, size_drewN'] at zhb1); have HB1 := Lib.hid hb1; clear hb1
  go_wp2_with fail
  refine (ref1_Make _ _ _).mono ?_
  rintro e w2 ⟨rfl, hb2⟩
  have Va := Lib.hid (Blk.hop Va.out (by (repeat (any_goals (first | exact Below.refl _ _ | refine below_drewN ?_ _ | refine Below.drew ?_ | refine Below.alloc ?_ ?_ _ | refine Below.setCell ?_ ?_ _))); all_goals (first | omega | (simp; done) | (simp; omega))) hb2); have Vb := Lib.hid (Blk.hop Vb.out (by (repeat (any_goals (first | exact Below.refl _ _ | refine below_drewN ?_ _ | refine Below.drew ?_ | refine Below.alloc ?_ ?_ _ | refine Below.setCell ?_ ?_ _))); all_goals (first | omega | (simp; done) | (simp; omega))) hb2); have Vx0 := Blk.next (Blk.mk' _ _ _) hb2; (try simp only [World.size_alloc, World.size_drew, World.size_setCell, size_drewN'] at Vx0); have Vx := Lib.hid Vx0; clear Vx0; have HR := Lib.hid (Rd.hop HR.out (by (repeat (any_goals (first | exact Below.refl _ _ | refine below_drewN ?_ _ | refine Below.drew ?_ | refine Below.alloc ?_ ?_ _ | refine Below.setCell ?_ ?_ _))); all_goals (first | omega | (simp; done) | (simp; omega))) hb2); have zhb2 := hb2.size; (try simp only [World.size_alloc, World.size_drew, World.size_setCell, size_drewN'] at zhb2); have HB2 := Lib.hid hb2; clear hb2
  go_wp2_with fail
  refine (frac_Point _ _ _ _ _ (by exact HR.out.alloc _)).mono ?_
  rintro e w3 ⟨P1, c1, rfl, hp1, hb3⟩
  have HP1 := Lib.hid hp1
  clear hp1
  have Va := Lib.hid (Blk.hop Va.out (by (repeat (any_goals (first | exact Below.refl _ _ | refine below_drewN ?_ _ | refine Below.drew ?_ | refine Below.alloc ?_ ?_ _ | refine Below.setCell ?_ ?_ _))); all_goals (first | omega | (simp; done) | (simp; omega))) hb3); have Vb := Lib.hid (Blk.hop Vb.out (by (repeat (any_goals (first | exact Below.refl _ _ | refine below_drewN ?_ _ | refine Below.drew ?_ | refine Below.alloc ?_ ?_ _ | refine Below.setCell ?_ ?_ _))); all_goals (first | omega | (simp; done) | (simp; omega))) hb3); have Vx := Lib.hid (Blk.hop Vx.out (by (repeat (any_goals (first | exact Below.refl _ _ | refine below_drewN ?_ _ | refine Below.drew ?_ | refine Below.alloc ?_ ?_ _ | refine Below.setCell ?_ ?_ _))); all_goals (first | omega | (simp; done) | (simp; omega))) hb3); have Vy0 := Blk.next (Blk.mk' _ _ _) hb3; (try simp only [World.size_alloc, World.size_drew, World.size_setCell, size_drewN'] at Vy0); have Vy := Lib.hid Vy0; clear Vy0; have HR := Lib.hid (Rd.hop HR.out (by (repeat (any_goals (first | exact Below.refl _ _ | refine below_drewN ?_ _ | refine Below.drew ?_ | refine Below.alloc ?_ ?_ _ | refine Below.setCell ?_ ?_ _))); all_goals (first | omega | (simp; done) | (simp; omega))) hb3); have zhb3 := hb3.size; (try simp only [World.size_alloc, World.size_drew, World.size_setCell, size_drewN'] at zhb3); have HB3 := Lib.hid hb3; clear hb3
  go_wp2_with fail
  refine (ref1_Point _ _ _ _ _ (by exact HR.out.alloc _)).mono ?_
  rintro e w4 ⟨P2, c2, rfl, hp2, hb4⟩
  have HP2 := Lib.hid hp2
  clear hp2
  have Va := Lib.hid (Blk.hop Va.out (by (repeat (any_goals (first | exact Below.refl _ _ | refine below_drewN ?_ _ | refine Below.drew ?_ | refine Below.alloc ?_ ?_ _ | refine Below.setCell ?_ ?_ _))); all_goals (first | omega | (simp; done) | (simp; omega))) hb4); have Vb := Lib.hid (Blk.hop Vb.out (by (repeat (any_goals (first | exact Below.refl _ _ | refine below_drewN ?_ _ | refine Below.drew ?_ | refine Below.alloc ?_ ?_ _ | refine Below.setCell ?_ ?_ _))); all_goals (first | omega | (simp; done) | (simp; omega))) hb4); have Vx := Lib.hid (Blk.hop Vx.out (by (repeat (any_goals (first | exact Below.refl _ _ | refine below_drewN ?_ _ | refine Below.drew ?_ | refine Below.alloc ?_ ?_ _ | refine Below.setCell ?_ ?_ _))); all_goals (first | omega | (simp; done) | (simp; omega))) hb4); have Vy := Lib.hid (Blk.hop Vy.out (by (repeat (any_goals (first | exact Below.refl _ _ | refine below_drewN ?_ _ | refine Below.drew ?_ | refine Below.alloc ?_ ?_ _ | refine Below.setCell ?_ ?_ _))); all_goals (first | omega | (simp; done) | (simp; omega))) hb4); have Vp0 := Blk.next (Blk.mk' _ _ _) hb4; (try simp only [World.size_alloc, World.size_drew, World.size_setCell, size_drewN'] at Vp0); have Vp := Lib.hid Vp0; clear Vp0; have HR := Lib.hid (Rd.hop HR.out (by (repeat (any_goals (first | exact Below.refl _ _ | refine below_drewN ?_ _ | refine Below.drew ?_ | refine Below.alloc ?_ ?_ _ | refine Below.setCell ?_ ?_ _))); all_goals (first | omega | (simp; done) | (simp; omega))) hb4); have HP1 := Lib.hid (Rd.hop HP1.out (by (repeat (any_goals (first | exact Below.refl _ _ | refine below_drewN ?_ _ | refine Below.drew ?_ | refine Below.alloc ?_ ?_ _ | refine Below.setCell ?_ ?_ _))); all_goals (first | omega | (simp; done) | (simp; omega))) hb4); have zhb4 := hb4.size; (try simp only [World.size_alloc, World.size_drew, World.size_setCell, size_drewN'] at zhb4); have HB4 := Lib.hid hb4; clear hb4
  have hE : mayB [n1] d1 = mayB [n1] d1 := rfl
  clear hE
  go_wp2_with fail
  have hl5 : Below w4.heap.size w4 (w4.alloc (.cells #[.slice P2 (ptN l d).length c2, .int .i64 (ptD l d)] 31)) := (Below.refl _ _).alloc (Nat.le_refl _) _
  have Vq := Lib.hid (Blk.mk' w4 31 #[.slice P2 (ptN l d).length c2, .int .i64 (ptD l d)])
  have Va := Lib.hid (Va.out.next hl5)
  have Vb := Lib.hid (Vb.out.next hl5)
  have Vx := Lib.hid (Vx.out.next hl5)
  have Vy := Lib.hid (Vy.out.next hl5)
  have Vp := Lib.hid (Vp.out.next hl5)
  have HP1 := Lib.hid (HP1.out.below hl5)
  have HP2 := Lib.hid (HP2.out.below hl5)
  have zl5 := hl5.size
  have HL5 := Lib.hid hl5
  clear hl5
  generalize w4.alloc (.cells #[.slice P2 (ptN l d).length c2, .int .i64 (ptD l d)] 31) = W at *
  have SK := Lib.hid (show ∀ w', Below W.heap.size W w' → (w'.cell? ⟨w.heap.size, 0, none⟩ = some (.int .i64 n1) ∧ w'.cell? ⟨w.heap.size, 1, none⟩ = some (.int .i64 d1) ∧
    w'.cell? ⟨w1.heap.size, 0, none⟩ = some (.int .i64 (frN l[0] d)) ∧ w'.cell? ⟨w1.heap.size, 1, none⟩ = some (.int .i64 (ptD [l[0]] d)) ∧
    w'.cell? ⟨w2.heap.size, 0, none⟩ = some (.int .i64 (frN l[0] d)) ∧ w'.cell? ⟨w2.heap.size, 1, none⟩ = some (.int .i64 (ptD [l[0]] d)) ∧
    w'.cell? ⟨w3.heap.size, 0, none⟩ = some (.slice P1 (ptN l d).length c1) ∧ w'.cell? ⟨w3.heap.size, 1, none⟩ = some (.int .i64 (ptD l d)) ∧
    w'.cell? ⟨w4.heap.size, 0, none⟩ = some (.slice P2 (ptN l d).length c2) ∧ w'.cell? ⟨w4.heap.size, 1, none⟩ = some (.int .i64 (ptD l d))) from fun w' h =>
    ⟨(Va.out.next h).cell 0, (Va.out.next h).cell 1, (Vx.out.next h).cell 0, (Vx.out.next h).cell 1, (Vy.out.next h).cell 0, (Vy.out.next h).cell 1, (Vp.out.next h).cell 0, (Vp.out.next h).cell 1, (Vq.out.next h).cell 0, (Vq.out.next h).cell 1⟩)
  go_region_held3 (fun w' => (w'.cell? ⟨w.heap.size, 0, none⟩ = some (.int .i64 n1) ∧ w'.cell? ⟨w.heap.size, 1, none⟩ = some (.int .i64 d1) ∧
    w'.cell? ⟨w1.heap.size, 0, none⟩ = some (.int .i64 (frN l[0] d)) ∧ w'.cell? ⟨w1.heap.size, 1, none⟩ = some (.int .i64 (ptD [l[0]] d)) ∧
    w'.cell? ⟨w2.heap.size, 0, none⟩ = some (.int .i64 (frN l[0] d)) ∧ w'.cell? ⟨w2.heap.size, 1, none⟩ = some (.int .i64 (ptD [l[0]] d)) ∧
    w'.cell? ⟨w3.heap.size, 0, none⟩ = some (.slice P1 (ptN l d).length c1) ∧ w'.cell? ⟨w3.heap.size, 1, none⟩ = some (.int .i64 (ptD l d)) ∧
    w'.cell? ⟨w4.heap.size, 0, none⟩ = some (.slice P2 (ptN l d).length c2) ∧ w'.cell? ⟨w4.heap.size, 1, none⟩ = some (.int .i64 (ptD l d))))
    (first | (refine SK.out _ ?_; exact (by (repeat (any_goals (first | exact Below.refl _ _ | exact hb5 | exact hb6 | exact hb7 | refine below_drewN ?_ _ | refine Below.drew ?_ | refine Below.alloc ?_ ?_ _ | refine Below.setCell ?_ ?_ _ | refine Below.trans ?_ (Below.mono hb5 ?_) | refine Below.trans ?_ (Below.mono hb6 ?_) | refine Below.trans ?_ (Below.mono hb7 ?_)))); all_goals (first | omega | (simp; done) | (simp; omega) | ((try have z0 := hb5.size); (try simp at z0); (try have z1 := hb6.size); (try simp at z1); (try have z2 := hb7.size); (try simp at z2); (try simp); omega)))))
    (first
      | (go_at_call 18; refine (ref1_Same _ _ _ _ _ _ _ _ _ (HP1.out.below (by (repeat (any_goals (first | exact Below.refl _ _ | refine below_drewN ?_ _ | refine Below.drew ?_ | refine Below.alloc ?_ ?_ _ | refine Below.setCell ?_ ?_ _))); all_goals (first | omega | (simp; done) | (simp; omega)))) (HP2.out.below (by (repeat (any_goals (first | exact Below.refl _ _ | refine below_drewN ?_ _ | refine Below.drew ?_ | refine Below.alloc ?_ ?_ _ | refine Below.setCell ?_ ?_ _))); all_goals (first | omega | (simp; done) | (simp; omega))))).mono ?_; rintro e w5 ⟨rfl, hb5⟩; rw [sameB_refl])
      | (go_at_call 14; refine (frac_May _ _ _).mono ?_; rintro e w6 ⟨rfl, hb6⟩)
      | (go_at_call 19; refine (ref1_May _ _ _).mono ?_; rintro e w7 ⟨rfl, hb7⟩))
  have hl7 : Below W.heap.size W w7 := (by (repeat (any_goals (first | exact Below.refl _ _ | exact hb5 | exact hb6 | exact hb7 | refine below_drewN ?_ _ | refine Below.drew ?_ | refine Below.alloc ?_ ?_ _ | refine Below.setCell ?_ ?_ _ | refine Below.trans ?_ (Below.mono hb5 ?_) | refine Below.trans ?_ (Below.mono hb6 ?_) | refine Below.trans ?_ (Below.mono hb7 ?_)))); all_goals (first | omega | (simp; done) | (simp; omega) | ((try have z0 := hb5.size); (try simp at z0); (try have z1 := hb6.size); (try simp at z1); (try have z2 := hb7.size); (try simp at z2); (try simp); omega)))
  have Va := Lib.hid (Va.out.next hl7)
  have Vb := Lib.hid (Vb.out.next hl7)
  have zl7 := hl7.size
  have HL7 := Lib.hid hl7
  clear hl7 hb5 hb6 hb7
  have ka0 : w7.cell? ⟨w.heap.size, 0, none⟩ = some (.int .i64 n1) := Va.out.cell 0
  have ka1 : w7.cell? ⟨w.heap.size, 1, none⟩ = some (.int .i64 d1) := Va.out.cell 1
  cases h1 : mayB [n1] d1 with
  | false =>
    have h3 : lessB n1 d1 n2 d2 = false := by simp [lessB, h1]
    go_wp2_with fail
    refine (ref1_May _ _ _).mono ?_
    rintro e w8 ⟨rfl, hb8⟩
    rw [h1]
    have Va := Lib.hid (Blk.hop Va.out (by (repeat (any_goals (first | exact Below.refl _ _ | refine below_drewN ?_ _ | refine Below.drew ?_ | refine Below.alloc ?_ ?_ _ | refine Below.setCell ?_ ?_ _))); all_goals (first | omega | (simp; done) | (simp; omega))) hb8); have Vb := Lib.hid (Blk.hop Vb.out (by (repeat (any_goals (first | exact Below.refl _ _ | refine below_drewN ?_ _ | refine Below.drew ?_ | refine Below.alloc ?_ ?_ _ | refine Below.setCell ?_ ?_ _))); all_goals (first | omega | (simp; done) | (simp; omega))) hb8); have zhb8 := hb8.size; (try simp only [World.size_alloc, World.size_drew, World.size_setCell, size_drewN'] at zhb8); have HB8 := Lib.hid hb8; clear hb8
    have kb0 : w8.cell? ⟨w.heap.size, 0, none⟩ = some (.int .i64 n1) := Va.out.cell 0
    have kb1 : w8.cell? ⟨w.heap.size, 1, none⟩ = some (.int .i64 d1) := Va.out.cell 1
    have kb2 : w8.cell? ⟨w.heap.size + 1, 0, none⟩ = some (.int .i64 n2) := Vb.out.cell 0
    have kb3 : w8.cell? ⟨w.heap.size + 1, 1, none⟩ = some (.int .i64 d2) := Vb.out.cell 1
    go_wp2_with fail
    refine (frac_Less _ _ _ _ _).mono ?_
    rintro e w9 ⟨rfl, hb9⟩
    rw [h3]
    have HB9 := Lib.hid hb9
    clear hb9
    go_wp2_with fail
    go_ret
    exact ⟨rfl, (by (repeat (any_goals (first | exact Below.refl _ _ | exact HB1.out | exact HB2.out | exact HB3.out | exact HB4.out | exact HL5.out | exact HL7.out | exact HB8.out | exact HB9.out | refine below_drewN ?_ _ | refine Below.drew ?_ | refine Below.alloc ?_ ?_ _ | refine Below.setCell ?_ ?_ _ | refine Below.trans ?_ (Below.mono HB1.out ?_) | refine Below.trans ?_ (Below.mono HB2.out ?_) | refine Below.trans ?_ (Below.mono HB3.out ?_) | refine Below.trans ?_ (Below.mono HB4.out ?_) | refine Below.trans ?_ (Below.mono HL5.out ?_) | refine Below.trans ?_ (Below.mono HL7.out ?_) | refine Below.trans ?_ (Below.mono HB8.out ?_) | refine Below.trans ?_ (Below.mono HB9.out ?_)))); all_goals (first | omega | (simp; done) | (simp; omega) | ((try have z0 := HB1.out.size); (try simp at z0); (try have z1 := HB2.out.size); (try simp at z1); (try have z2 := HB3.out.size); (try simp at z2); (try have z3 := HB4.out.size); (try simp at z3); (try have z4 := HL5.out.size); (try simp at z4); (try have z5 := HL7.out.size); (try simp at z5); (try have z6 := HB8.out.size); (try simp at z6); (try have z7 := HB9.out.size); (try simp at z7); (try simp); omega)))⟩
  | true =>
    have hq1 : -1073741824 ≤ n1 ∧ n1 ≤ 1073741824 ∧ 1 ≤ d1 ∧ d1 ≤ 1073741824 := by
      simp [mayB, rightB, smallB] at h1; omega
    go_wp2_with fail
    refine (ref1_May _ _ _).mono ?_
    rintro e w8 ⟨rfl, hb8⟩
    rw [h1]
    have Va := Lib.hid (Blk.hop Va.out (by (repeat (any_goals (first | exact Below.refl _ _ | refine below_drewN ?_ _ | refine Below.drew ?_ | refine Below.alloc ?_ ?_ _ | refine Below.setCell ?_ ?_ _))); all_goals (first | omega | (simp; done) | (simp; omega))) hb8); have Vb := Lib.hid (Blk.hop Vb.out (by (repeat (any_goals (first | exact Below.refl _ _ | refine below_drewN ?_ _ | refine Below.drew ?_ | refine Below.alloc ?_ ?_ _ | refine Below.setCell ?_ ?_ _))); all_goals (first | omega | (simp; done) | (simp; omega))) hb8); have zhb8 := hb8.size; (try simp only [World.size_alloc, World.size_drew, World.size_setCell, size_drewN'] at zhb8); have HB8 := Lib.hid hb8; clear hb8
    have kb0 : w8.cell? ⟨w.heap.size, 0, none⟩ = some (.int .i64 n1) := Va.out.cell 0
    have kb1 : w8.cell? ⟨w.heap.size, 1, none⟩ = some (.int .i64 d1) := Va.out.cell 1
    have kb2 : w8.cell? ⟨w.heap.size + 1, 0, none⟩ = some (.int .i64 n2) := Vb.out.cell 0
    have kb3 : w8.cell? ⟨w.heap.size + 1, 1, none⟩ = some (.int .i64 d2) := Vb.out.cell 1
    go_wp2_with fail
    refine (ref1_May _ _ _).mono ?_
    rintro e w9 ⟨rfl, hb9⟩
    have Va := Lib.hid (Blk.hop Va.out (by (repeat (any_goals (first | exact Below.refl _ _ | refine below_drewN ?_ _ | refine Below.drew ?_ | refine Below.alloc ?_ ?_ _ | refine Below.setCell ?_ ?_ _))); all_goals (first | omega | (simp; done) | (simp; omega))) hb9); have Vb := Lib.hid (Blk.hop Vb.out (by (repeat (any_goals (first | exact Below.refl _ _ | refine below_drewN ?_ _ | refine Below.drew ?_ | refine Below.alloc ?_ ?_ _ | refine Below.setCell ?_ ?_ _))); all_goals (first | omega | (simp; done) | (simp; omega))) hb9); have zhb9 := hb9.size; (try simp only [World.size_alloc, World.size_drew, World.size_setCell, size_drewN'] at zhb9); have HB9 := Lib.hid hb9; clear hb9
    have kc0 : w9.cell? ⟨w.heap.size, 0, none⟩ = some (.int .i64 n1) := Va.out.cell 0
    have kc1 : w9.cell? ⟨w.heap.size, 1, none⟩ = some (.int .i64 d1) := Va.out.cell 1
    have kc2 : w9.cell? ⟨w.heap.size + 1, 0, none⟩ = some (.int .i64 n2) := Vb.out.cell 0
    have kc3 : w9.cell? ⟨w.heap.size + 1, 1, none⟩ = some (.int .i64 d2) := Vb.out.cell 1
    cases h2 : mayB [n2] d2 with
    | false =>
      have h3 : lessB n1 d1 n2 d2 = false := by simp [lessB, h2]
      go_wp2_with fail
      refine (frac_Less _ _ _ _ _).mono ?_
      rintro e w10 ⟨rfl, hb10⟩
      rw [h3]
      have HB10 := Lib.hid hb10
      clear hb10
      go_wp2_with fail
      go_ret
      exact ⟨rfl, (by (repeat (any_goals (first | exact Below.refl _ _ | exact HB1.out | exact HB2.out | exact HB3.out | exact HB4.out | exact HL5.out | exact HL7.out | exact HB8.out | exact HB9.out | exact HB10.out | refine below_drewN ?_ _ | refine Below.drew ?_ | refine Below.alloc ?_ ?_ _ | refine Below.setCell ?_ ?_ _ | refine Below.trans ?_ (Below.mono HB1.out ?_) | refine Below.trans ?_ (Below.mono HB2.out ?_) | refine Below.trans ?_ (Below.mono HB3.out ?_) | refine Below.trans ?_ (Below.mono HB4.out ?_) | refine Below.trans ?_ (Below.mono HL5.out ?_) | refine Below.trans ?_ (Below.mono HL7.out ?_) | refine Below.trans ?_ (Below.mono HB8.out ?_) | refine Below.trans ?_ (Below.mono HB9.out ?_) | refine Below.trans ?_ (Below.mono HB10.out ?_)))); all_goals (first | omega | (simp; done) | (simp; omega) | ((try have z0 := HB1.out.size); (try simp at z0); (try have z1 := HB2.out.size); (try simp at z1); (try have z2 := HB3.out.size); (try simp at z2); (try have z3 := HB4.out.size); (try simp at z3); (try have z4 := HL5.out.size); (try simp at z4); (try have z5 := HL7.out.size); (try simp at z5); (try have z6 := HB8.out.size); (try simp at z6); (try have z7 := HB9.out.size); (try simp at z7); (try have z8 := HB10.out.size); (try simp at z8); (try simp); omega)))⟩
    | true =>
      have hq2 : -1073741824 ≤ n2 ∧ n2 ≤ 1073741824 ∧ 1 ≤ d2 ∧ d2 ≤ 1073741824 := by
        simp [mayB, rightB, smallB] at h2; omega
      have h3 : lessB n1 d1 n2 d2 = decide (n1 * d2 - n2 * d1 < 0) := by
        rw [Bool.eq_iff_iff]; simp [lessB, h1, h2]; omega
      obtain ⟨hq3, hq4, hq5, hq6⟩ := hq1
      obtain ⟨hq7, hq8, hq9, hq10⟩ := hq2
      go_wp2_with fail
      refine (frac_Less _ _ _ _ _).mono ?_
      rintro e w10 ⟨rfl, hb10⟩
      rw [h3]
      have Va := Lib.hid (Blk.hop Va.out (by (repeat (any_goals (first | exact Below.refl _ _ | refine below_drewN ?_ _ | refine Below.drew ?_ | refine Below.alloc ?_ ?_ _ | refine Below.setCell ?_ ?_ _))); all_goals (first | omega | (simp; done) | (simp; omega))) hb10); have Vb := Lib.hid (Blk.hop Vb.out (by (repeat (any_goals (first | exact Below.refl _ _ | refine below_drewN ?_ _ | refine Below.drew ?_ | refine Below.alloc ?_ ?_ _ | refine Below.setCell ?_ ?_ _))); all_goals (first | omega | (simp; done) | (simp; omega))) hb10); have zhb10 := hb10.size; (try simp only [World.size_alloc, World.size_drew, World.size_setCell, size_drewN'] at zhb10); have HB10 := Lib.hid hb10; clear hb10
      have kd0 : w10.cell? ⟨w.heap.size, 0, none⟩ = some (.int .i64 n1) := Va.out.cell 0
      have kd1 : w10.cell? ⟨w.heap.size, 1, none⟩ = some (.int .i64 d1) := Va.out.cell 1
      have kd2 : w10.cell? ⟨w.heap.size + 1, 0, none⟩ = some (.int .i64 n2) := Vb.out.cell 0
      have kd3 : w10.cell? ⟨w.heap.size + 1, 1, none⟩ = some (.int .i64 d2) := Vb.out.cell 1
      clear h3
      go_wp2_with fail
      refine (ref1_Cmp _ _ _ _ _ (by omega) (by omega) (by omega) (by omega)).mono ?_
      rintro e w11 ⟨rfl, hb11⟩
      have HB11 := Lib.hid hb11
      clear hb11
      generalize n1 * d2 - n2 * d1 = m
      by_cases hm : m < 0
      · go_wp2_with fail
        go_ret
        exact ⟨ret_bool (by simp [hm]), (by (repeat (any_goals (first | exact Below.refl _ _ | exact HB1.out | exact HB2.out | exact HB3.out | exact HB4.out | exact HL5.out | exact HL7.out | exact HB8.out | exact HB9.out | exact HB10.out | exact HB11.out | refine below_drewN ?_ _ | refine Below.drew ?_ | refine Below.alloc ?_ ?_ _ | refine Below.setCell ?_ ?_ _ | refine Below.trans ?_ (Below.mono HB1.out ?_) | refine Below.trans ?_ (Below.mono HB2.out ?_) | refine Below.trans ?_ (Below.mono HB3.out ?_) | refine Below.trans ?_ (Below.mono HB4.out ?_) | refine Below.trans ?_ (Below.mono HL5.out ?_) | refine Below.trans ?_ (Below.mono HL7.out ?_) | refine Below.trans ?_ (Below.mono HB8.out ?_) | refine Below.trans ?_ (Below.mono HB9.out ?_) | refine Below.trans ?_ (Below.mono HB10.out ?_) | refine Below.trans ?_ (Below.mono HB11.out ?_)))); all_goals (first | omega | (simp; done) | (simp; omega) | ((try have z0 := HB1.out.size); (try simp at z0); (try have z1 := HB2.out.size); (try simp at z1); (try have z2 := HB3.out.size); (try simp at z2); (try have z3 := HB4.out.size); (try simp at z3); (try have z4 := HL5.out.size); (try simp at z4); (try have z5 := HL7.out.size); (try simp at z5); (try have z6 := HB8.out.size); (try simp at z6); (try have z7 := HB9.out.size); (try simp at z7); (try have z8 := HB10.out.size); (try simp at z8); (try have z9 := HB11.out.size); (try simp at z9); (try simp); omega)))⟩
      · go_wp2_with fail
        go_ret
        exact ⟨ret_bool (by simp [hm]), (by (repeat (any_goals (first | exact Below.refl _ _ | exact HB1.out | exact HB2.out | exact HB3.out | exact HB4.out | exact HL5.out | exact HL7.out | exact HB8.out | exact HB9.out | exact HB10.out | exact HB11.out | refine below_drewN ?_ _ | refine Below.drew ?_ | refine Below.alloc ?_ ?_ _ | refine Below.setCell ?_ ?_ _ | refine Below.trans ?_ (Below.mono HB1.out ?_) | refine Below.trans ?_ (Below.mono HB2.out ?_) | refine Below.trans ?_ (Below.mono HB3.out ?_) | refine Below.trans ?_ (Below.mono HB4.out ?_) | refine Below.trans ?_ (Below.mono HL5.out ?_) | refine Below.trans ?_ (Below.mono HL7.out ?_) | refine Below.trans ?_ (Below.mono HB8.out ?_) | refine Below.trans ?_ (Below.mono HB9.out ?_) | refine Below.trans ?_ (Below.mono HB10.out ?_) | refine Below.trans ?_ (Below.mono HB11.out ?_)))); all_goals (first | omega | (simp; done) | (simp; omega) | ((try have z0 := HB1.out.size); (try simp at z0); (try have z1 := HB2.out.size); (try simp at z1); (try have z2 := HB3.out.size); (try simp at z2); (try have z3 := HB4.out.size); (try simp at z3); (try have z4 := HL5.out.size); (try simp at z4); (try have z5 := HL7.out.size); (try simp at z5); (try have z6 := HB8.out.size); (try simp at z6); (try have z7 := HB9.out.size); (try simp at z7); (try have z8 := HB10.out.size); (try simp at z8); (try have z9 := HB11.out.size); (try simp at z9); (try simp); omega)))⟩

set_option maxHeartbeats 1000000 in
theorem fracTells_none (A : Option Addr) (l : List Int) (c : Nat) (d n1 d1 n2 d2 : Int) (w : World) (hr : Rd w A c l) (h0 : ¬ 0 < l.length) :
    Calls Try.prog 4 #[.slice A l.length c, .int .i64 d, .agg #[.int .i64 n1, .int .i64 d1], .agg #[.int .i64 n2, .int .i64 d2]] w fun e w' => e = .returned (.bool true) ∧ Below w.heap.size w w' := by
  have HR := Lib.hid hr
  obtain ⟨hl, hc, hsm, _⟩ := hr
  go_enter Try.func4, Try.ntmps4
  go_wp2_with fail
  refine (frac_Make _ _ _).mono ?_
  rintro e w1 ⟨rfl, hb1⟩
  have Va0 := Blk.next (Blk.alloc (Blk.mk' _ _ _) _) hb1; (try simp only [World.size_alloc, World.size_drew, World.size_setCell, size_drewN'] at Va0); have Va := Lib.hid Va0; clear Va0; have Vb0 := Blk.next (Blk.mk' _ _ _) hb1; (try simp only [World.size_alloc, World.size_drew, World.size_setCell, size_drewN'] at Vb0); have Vb := Lib.hid Vb0; clear Vb0; have HR := Lib.hid (Rd.hop HR.out (by (repeat (any_goals (first | exact Below.refl _ _ | refine below_drewN ?_ _ | refine Below.drew ?_ | refine Below.alloc ?_ ?_ _ | refine Below.setCell ?_ ?_ _))); all_goals (first | omega | (simp; done) | (simp; omega))) hb1); have zhb1 := hb1.size; (try simp only [World.size_alloc, World.size_drew, World.size_setCell, size_drewN'] at zhb1); have HB1 := Lib.hid hb1; clear hb1
  go_wp2_with fail
  refine (ref1_Make _ _ _).mono ?_
  rintro e w2 ⟨rfl, hb2⟩
  have Va := Lib.hid (Blk.hop Va.out (by (repeat (any_goals (first | exact Below.refl _ _ | refine below_drewN ?_ _ | refine Below.drew ?_ | refine Below.alloc ?_ ?_ _ | refine Below.setCell ?_ ?_ _))); all_goals (first | omega | (simp; done) | (simp; omega))) hb2); have Vb := Lib.hid (Blk.hop Vb.out (by (repeat (any_goals (first | exact Below.refl _ _ | refine below_drewN ?_ _ | refine Below.drew ?_ | refine Below.alloc ?_ ?_ _ | refine Below.setCell ?_ ?_ _))); all_goals (first | omega | (simp; done) | (simp; omega))) hb2); have Vx0 := Blk.next (Blk.mk' _ _ _) hb2; (try simp only [World.size_alloc, World.size_drew, World.size_setCell, size_drewN'] at Vx0); have Vx := Lib.hid Vx0; clear Vx0; have HR := Lib.hid (Rd.hop HR.out (by (repeat (any_goals (first | exact Below.refl _ _ | refine below_drewN ?_ _ | refine Below.drew ?_ | refine Below.alloc ?_ ?_ _ | refine Below.setCell ?_ ?_ _))); all_goals (first | omega | (simp; done) | (simp; omega))) hb2); have zhb2 := hb2.size; (try simp only [World.size_alloc, World.size_drew, World.size_setCell, size_drewN'] at zhb2); have HB2 := Lib.hid hb2; clear hb2
  go_wp2_with fail
  refine (frac_Point _ _ _ _ _ (by exact HR.out.alloc _)).mono ?_
  rintro e w3 ⟨P1, c1, rfl, hp1, hb3⟩
  have HP1 := Lib.hid hp1
  clear hp1
  have Va := Lib.hid (Blk.hop Va.out (by (repeat (any_goals (first | exact Below.refl _ _ | refine below_drewN ?_ _ | refine Below.drew ?_ | refine Below.alloc ?_ ?_ _ | refine Below.setCell ?_ ?_ _))); all_goals (first | omega | (simp; done) | (simp; omega))) hb3); have Vb := Lib.hid (Blk.hop Vb.out (by (repeat (any_goals (first | exact Below.refl _ _ | refine below_drewN ?_ _ | refine Below.drew ?_ | refine Below.alloc ?_ ?_ _ | refine Below.setCell ?_ ?_ _))); all_goals (first | omega | (simp; done) | (simp; omega))) hb3); have Vx := Lib.hid (Blk.hop Vx.out (by (repeat (any_goals (first | exact Below.refl _ _ | refine below_drewN ?_ _ | refine Below.drew ?_ | refine Below.alloc ?_ ?_ _ | refine Below.setCell ?_ ?_ _))); all_goals (first | omega | (simp; done) | (simp; omega))) hb3); have Vy0 := Blk.next (Blk.mk' _ _ _) hb3; (try simp only [World.size_alloc, World.size_drew, World.size_setCell, size_drewN'] at Vy0); have Vy := Lib.hid Vy0; clear Vy0; have HR := Lib.hid (Rd.hop HR.out (by (repeat (any_goals (first | exact Below.refl _ _ | refine below_drewN ?_ _ | refine Below.drew ?_ | refine Below.alloc ?_ ?_ _ | refine Below.setCell ?_ ?_ _))); all_goals (first | omega | (simp; done) | (simp; omega))) hb3); have zhb3 := hb3.size; (try simp only [World.size_alloc, World.size_drew, World.size_setCell, size_drewN'] at zhb3); have HB3 := Lib.hid hb3; clear hb3
  go_wp2_with fail
  refine (ref1_Point _ _ _ _ _ (by exact HR.out.alloc _)).mono ?_
  rintro e w4 ⟨P2, c2, rfl, hp2, hb4⟩
  have HP2 := Lib.hid hp2
  clear hp2
  have Va := Lib.hid (Blk.hop Va.out (by (repeat (any_goals (first | exact Below.refl _ _ | refine below_drewN ?_ _ | refine Below.drew ?_ | refine Below.alloc ?_ ?_ _ | refine Below.setCell ?_ ?_ _))); all_goals (first | omega | (simp; done) | (simp; omega))) hb4); have Vb := Lib.hid (Blk.hop Vb.out (by (repeat (any_goals (first | exact Below.refl _ _ | refine below_drewN ?_ _ | refine Below.drew ?_ | refine Below.alloc ?_ ?_ _ | refine Below.setCell ?_ ?_ _))); all_goals (first | omega | (simp; done) | (simp; omega))) hb4); have Vx := Lib.hid (Blk.hop Vx.out (by (repeat (any_goals (first | exact Below.refl _ _ | refine below_drewN ?_ _ | refine Below.drew ?_ | refine Below.alloc ?_ ?_ _ | refine Below.setCell ?_ ?_ _))); all_goals (first | omega | (simp; done) | (simp; omega))) hb4); have Vy := Lib.hid (Blk.hop Vy.out (by (repeat (any_goals (first | exact Below.refl _ _ | refine below_drewN ?_ _ | refine Below.drew ?_ | refine Below.alloc ?_ ?_ _ | refine Below.setCell ?_ ?_ _))); all_goals (first | omega | (simp; done) | (simp; omega))) hb4); have Vp0 := Blk.next (Blk.mk' _ _ _) hb4; (try simp only [World.size_alloc, World.size_drew, World.size_setCell, size_drewN'] at Vp0); have Vp := Lib.hid Vp0; clear Vp0; have HR := Lib.hid (Rd.hop HR.out (by (repeat (any_goals (first | exact Below.refl _ _ | refine below_drewN ?_ _ | refine Below.drew ?_ | refine Below.alloc ?_ ?_ _ | refine Below.setCell ?_ ?_ _))); all_goals (first | omega | (simp; done) | (simp; omega))) hb4); have HP1 := Lib.hid (Rd.hop HP1.out (by (repeat (any_goals (first | exact Below.refl _ _ | refine below_drewN ?_ _ | refine Below.drew ?_ | refine Below.alloc ?_ ?_ _ | refine Below.setCell ?_ ?_ _))); all_goals (first | omega | (simp; done) | (simp; omega))) hb4); have zhb4 := hb4.size; (try simp only [World.size_alloc, World.size_drew, World.size_setCell, size_drewN'] at zhb4); have HB4 := Lib.hid hb4; clear hb4
  have hE : mayB [n1] d1 = mayB [n1] d1 := rfl
  clear hE
  go_wp2_with fail
  have hl5 : Below w4.heap.size w4 (w4.alloc (.cells #[.slice P2 (ptN l d).length c2, .int .i64 (ptD l d)] 31)) := (Below.refl _ _).alloc (Nat.le_refl _) _
  have Vq := Lib.hid (Blk.mk' w4 31 #[.slice P2 (ptN l d).length c2, .int .i64 (ptD l d)])
  have Va := Lib.hid (Va.out.next hl5)
  have Vb := Lib.hid (Vb.out.next hl5)
  have Vx := Lib.hid (Vx.out.next hl5)
  have Vy := Lib.hid (Vy.out.next hl5)
  have Vp := Lib.hid (Vp.out.next hl5)
  have HP1 := Lib.hid (HP1.out.below hl5)
  have HP2 := Lib.hid (HP2.out.below hl5)
  have zl5 := hl5.size
  have HL5 := Lib.hid hl5
  clear hl5
  generalize w4.alloc (.cells #[.slice P2 (ptN l d).length c2, .int .i64 (ptD l d)] 31) = W at *
  have SK := Lib.hid (show ∀ w', Below W.heap.size W w' → (w'.cell? ⟨w.heap.size, 0, none⟩ = some (.int .i64 n1) ∧ w'.cell? ⟨w.heap.size, 1, none⟩ = some (.int .i64 d1) ∧
    w'.cell? ⟨w1.heap.size, 0, none⟩ = some (.int .i64 (frN d d)) ∧ w'.cell? ⟨w1.heap.size, 1, none⟩ = some (.int .i64 (ptD [d] d)) ∧
    w'.cell? ⟨w2.heap.size, 0, none⟩ = some (.int .i64 (frN d d)) ∧ w'.cell? ⟨w2.heap.size, 1, none⟩ = some (.int .i64 (ptD [d] d)) ∧
    w'.cell? ⟨w3.heap.size, 0, none⟩ = some (.slice P1 (ptN l d).length c1) ∧ w'.cell? ⟨w3.heap.size, 1, none⟩ = some (.int .i64 (ptD l d)) ∧
    w'.cell? ⟨w4.heap.size, 0, none⟩ = some (.slice P2 (ptN l d).length c2) ∧ w'.cell? ⟨w4.heap.size, 1, none⟩ = some (.int .i64 (ptD l d))) from fun w' h =>
    ⟨(Va.out.next h).cell 0, (Va.out.next h).cell 1, (Vx.out.next h).cell 0, (Vx.out.next h).cell 1, (Vy.out.next h).cell 0, (Vy.out.next h).cell 1, (Vp.out.next h).cell 0, (Vp.out.next h).cell 1, (Vq.out.next h).cell 0, (Vq.out.next h).cell 1⟩)
  go_region_held3 (fun w' => (w'.cell? ⟨w.heap.size, 0, none⟩ = some (.int .i64 n1) ∧ w'.cell? ⟨w.heap.size, 1, none⟩ = some (.int .i64 d1) ∧
    w'.cell? ⟨w1.heap.size, 0, none⟩ = some (.int .i64 (frN d d)) ∧ w'.cell? ⟨w1.heap.size, 1, none⟩ = some (.int .i64 (ptD [d] d)) ∧
    w'.cell? ⟨w2.heap.size, 0, none⟩ = some (.int .i64 (frN d d)) ∧ w'.cell? ⟨w2.heap.size, 1, none⟩ = some (.int .i64 (ptD [d] d)) ∧
    w'.cell? ⟨w3.heap.size, 0, none⟩ = some (.slice P1 (ptN l d).length c1) ∧ w'.cell? ⟨w3.heap.size, 1, none⟩ = some (.int .i64 (ptD l d)) ∧
    w'.cell? ⟨w4.heap.size, 0, none⟩ = some (.slice P2 (ptN l d).length c2) ∧ w'.cell? ⟨w4.heap.size, 1, none⟩ = some (.int .i64 (ptD l d))))
    (first | (refine SK.out _ ?_; exact (by (repeat (any_goals (first | exact Below.refl _ _ | exact hb5 | exact hb6 | exact hb7 | refine below_drewN ?_ _ | refine Below.drew ?_ | refine Below.alloc ?_ ?_ _ | refine Below.setCell ?_ ?_ _ | refine Below.trans ?_ (Below.mono hb5 ?_) | refine Below.trans ?_ (Below.mono hb6 ?_) | refine Below.trans ?_ (Below.mono hb7 ?_)))); all_goals (first | omega | (simp; done) | (simp; omega) | ((try have z0 := hb5.size); (try simp at z0); (try have z1 := hb6.size); (try simp at z1); (try have z2 := hb7.size); (try simp at z2); (try simp); omega)))))
    (first
      | (go_at_call 18; refine (ref1_Same _ _ _ _ _ _ _ _ _ (HP1.out.below (by (repeat (any_goals (first | exact Below.refl _ _ | refine below_drewN ?_ _ | refine Below.drew ?_ | refine Below.alloc ?_ ?_ _ | refine Below.setCell ?_ ?_ _))); all_goals (first | omega | (simp; done) | (simp; omega)))) (HP2.out.below (by (repeat (any_goals (first | exact Below.refl _ _ | refine below_drewN ?_ _ | refine Below.drew ?_ | refine Below.alloc ?_ ?_ _ | refine Below.setCell ?_ ?_ _))); all_goals (first | omega | (simp; done) | (simp; omega))))).mono ?_; rintro e w5 ⟨rfl, hb5⟩; rw [sameB_refl])
      | (go_at_call 14; refine (frac_May _ _ _).mono ?_; rintro e w6 ⟨rfl, hb6⟩)
      | (go_at_call 19; refine (ref1_May _ _ _).mono ?_; rintro e w7 ⟨rfl, hb7⟩))
  have hl7 : Below W.heap.size W w7 := (by (repeat (any_goals (first | exact Below.refl _ _ | exact hb5 | exact hb6 | exact hb7 | refine below_drewN ?_ _ | refine Below.drew ?_ | refine Below.alloc ?_ ?_ _ | refine Below.setCell ?_ ?_ _ | refine Below.trans ?_ (Below.mono hb5 ?_) | refine Below.trans ?_ (Below.mono hb6 ?_) | refine Below.trans ?_ (Below.mono hb7 ?_)))); all_goals (first | omega | (simp; done) | (simp; omega) | ((try have z0 := hb5.size); (try simp at z0); (try have z1 := hb6.size); (try simp at z1); (try have z2 := hb7.size); (try simp at z2); (try simp); omega)))
  have Va := Lib.hid (Va.out.next hl7)
  have Vb := Lib.hid (Vb.out.next hl7)
  have zl7 := hl7.size
  have HL7 := Lib.hid hl7
  clear hl7 hb5 hb6 hb7
  have ka0 : w7.cell? ⟨w.heap.size, 0, none⟩ = some (.int .i64 n1) := Va.out.cell 0
  have ka1 : w7.cell? ⟨w.heap.size, 1, none⟩ = some (.int .i64 d1) := Va.out.cell 1
  cases h1 : mayB [n1] d1 with
  | false =>
    have h3 : lessB n1 d1 n2 d2 = false := by simp [lessB, h1]
    go_wp2_with fail
    refine (ref1_May _ _ _).mono ?_
    rintro e w8 ⟨rfl, hb8⟩
    rw [h1]
    have Va := Lib.hid (Blk.hop Va.out (by (repeat (any_goals (first | exact Below.refl _ _ | refine below_drewN ?_ _ | refine Below.drew ?_ | refine Below.alloc ?_ ?_ _ | refine Below.setCell ?_ ?_ _))); all_goals (first | omega | (simp; done) | (simp; omega))) hb8); have Vb := Lib.hid (Blk.hop Vb.out (by (repeat (any_goals (first | exact Below.refl _ _ | refine below_drewN ?_ _ | refine Below.drew ?_ | refine Below.alloc ?_ ?_ _ | refine Below.setCell ?_ ?_ _))); all_goals (first | omega | (simp; done) | (simp; omega))) hb8); have zhb8 := hb8.size; (try simp only [World.size_alloc, World.size_drew, World.size_setCell, size_drewN'] at zhb8); have HB8 := Lib.hid hb8; clear hb8
    have kb0 : w8.cell? ⟨w.heap.size, 0, none⟩ = some (.int .i64 n1) := Va.out.cell 0
    have kb1 : w8.cell? ⟨w.heap.size, 1, none⟩ = some (.int .i64 d1) := Va.out.cell 1
    have kb2 : w8.cell? ⟨w.heap.size + 1, 0, none⟩ = some (.int .i64 n2) := Vb.out.cell 0
    have kb3 : w8.cell? ⟨w.heap.size + 1, 1, none⟩ = some (.int .i64 d2) := Vb.out.cell 1
    go_wp2_with fail
    refine (frac_Less _ _ _ _ _).mono ?_
    rintro e w9 ⟨rfl, hb9⟩
    rw [h3]
    have HB9 := Lib.hid hb9
    clear hb9
    go_wp2_with fail
    go_ret
    exact ⟨rfl, (by (repeat (any_goals (first | exact Below.refl _ _ | exact HB1.out | exact HB2.out | exact HB3.out | exact HB4.out | exact HL5.out | exact HL7.out | exact HB8.out | exact HB9.out | refine below_drewN ?_ _ | refine Below.drew ?_ | refine Below.alloc ?_ ?_ _ | refine Below.setCell ?_ ?_ _ | refine Below.trans ?_ (Below.mono HB1.out ?_) | refine Below.trans ?_ (Below.mono HB2.out ?_) | refine Below.trans ?_ (Below.mono HB3.out ?_) | refine Below.trans ?_ (Below.mono HB4.out ?_) | refine Below.trans ?_ (Below.mono HL5.out ?_) | refine Below.trans ?_ (Below.mono HL7.out ?_) | refine Below.trans ?_ (Below.mono HB8.out ?_) | refine Below.trans ?_ (Below.mono HB9.out ?_)))); all_goals (first | omega | (simp; done) | (simp; omega) | ((try have z0 := HB1.out.size); (try simp at z0); (try have z1 := HB2.out.size); (try simp at z1); (try have z2 := HB3.out.size); (try simp at z2); (try have z3 := HB4.out.size); (try simp at z3); (try have z4 := HL5.out.size); (try simp at z4); (try have z5 := HL7.out.size); (try simp at z5); (try have z6 := HB8.out.size); (try simp at z6); (try have z7 := HB9.out.size); (try simp at z7); (try simp); omega)))⟩
  | true =>
    have hq1 : -1073741824 ≤ n1 ∧ n1 ≤ 1073741824 ∧ 1 ≤ d1 ∧ d1 ≤ 1073741824 := by
      simp [mayB, rightB, smallB] at h1; omega
    go_wp2_with fail
    refine (ref1_May _ _ _).mono ?_
    rintro e w8 ⟨rfl, hb8⟩
    rw [h1]
    have Va := Lib.hid (Blk.hop Va.out (by (repeat (any_goals (first | exact Below.refl _ _ | refine below_drewN ?_ _ | refine Below.drew ?_ | refine Below.alloc ?_ ?_ _ | refine Below.setCell ?_ ?_ _))); all_goals (first | omega | (simp; done) | (simp; omega))) hb8); have Vb := Lib.hid (Blk.hop Vb.out (by (repeat (any_goals (first | exact Below.refl _ _ | refine below_drewN ?_ _ | refine Below.drew ?_ | refine Below.alloc ?_ ?_ _ | refine Below.setCell ?_ ?_ _))); all_goals (first | omega | (simp; done) | (simp; omega))) hb8); have zhb8 := hb8.size; (try simp only [World.size_alloc, World.size_drew, World.size_setCell, size_drewN'] at zhb8); have HB8 := Lib.hid hb8; clear hb8
    have kb0 : w8.cell? ⟨w.heap.size, 0, none⟩ = some (.int .i64 n1) := Va.out.cell 0
    have kb1 : w8.cell? ⟨w.heap.size, 1, none⟩ = some (.int .i64 d1) := Va.out.cell 1
    have kb2 : w8.cell? ⟨w.heap.size + 1, 0, none⟩ = some (.int .i64 n2) := Vb.out.cell 0
    have kb3 : w8.cell? ⟨w.heap.size + 1, 1, none⟩ = some (.int .i64 d2) := Vb.out.cell 1
    go_wp2_with fail
    refine (ref1_May _ _ _).mono ?_
    rintro e w9 ⟨rfl, hb9⟩
    have Va := Lib.hid (Blk.hop Va.out (by (repeat (any_goals (first | exact Below.refl _ _ | refine below_drewN ?_ _ | refine Below.drew ?_ | refine Below.alloc ?_ ?_ _ | refine Below.setCell ?_ ?_ _))); all_goals (first | omega | (simp; done) | (simp; omega))) hb9); have Vb := Lib.hid (Blk.hop Vb.out (by (repeat (any_goals (first | exact Below.refl _ _ | refine below_drewN ?_ _ | refine Below.drew ?_ | refine Below.alloc ?_ ?_ _ | refine Below.setCell ?_ ?_ _))); all_goals (first | omega | (simp; done) | (simp; omega))) hb9); have zhb9 := hb9.size; (try simp only [World.size_alloc, World.size_drew, World.size_setCell, size_drewN'] at zhb9); have HB9 := Lib.hid hb9; clear hb9
    have kc0 : w9.cell? ⟨w.heap.size, 0, none⟩ = some (.int .i64 n1) := Va.out.cell 0
    have kc1 : w9.cell? ⟨w.heap.size, 1, none⟩ = some (.int .i64 d1) := Va.out.cell 1
    have kc2 : w9.cell? ⟨w.heap.size + 1, 0, none⟩ = some (.int .i64 n2) := Vb.out.cell 0
    have kc3 : w9.cell? ⟨w.heap.size + 1, 1, none⟩ = some (.int .i64 d2) := Vb.out.cell 1
    cases h2 : mayB [n2] d2 with
    | false =>
      have h3 : lessB n1 d1 n2 d2 = false := by simp [lessB, h2]
      go_wp2_with fail
      refine (frac_Less _ _ _ _ _).mono ?_
      rintro e w10 ⟨rfl, hb10⟩
      rw [h3]
      have HB10 := Lib.hid hb10
      clear hb10
      go_wp2_with fail
      go_ret
      exact ⟨rfl, (by (repeat (any_goals (first | exact Below.refl _ _ | exact HB1.out | exact HB2.out | exact HB3.out | exact HB4.out | exact HL5.out | exact HL7.out | exact HB8.out | exact HB9.out | exact HB10.out | refine below_drewN ?_ _ | refine Below.drew ?_ | refine Below.alloc ?_ ?_ _ | refine Below.setCell ?_ ?_ _ | refine Below.trans ?_ (Below.mono HB1.out ?_) | refine Below.trans ?_ (Below.mono HB2.out ?_) | refine Below.trans ?_ (Below.mono HB3.out ?_) | refine Below.trans ?_ (Below.mono HB4.out ?_) | refine Below.trans ?_ (Below.mono HL5.out ?_) | refine Below.trans ?_ (Below.mono HL7.out ?_) | refine Below.trans ?_ (Below.mono HB8.out ?_) | refine Below.trans ?_ (Below.mono HB9.out ?_) | refine Below.trans ?_ (Below.mono HB10.out ?_)))); all_goals (first | omega | (simp; done) | (simp; omega) | ((try have z0 := HB1.out.size); (try simp at z0); (try have z1 := HB2.out.size); (try simp at z1); (try have z2 := HB3.out.size); (try simp at z2); (try have z3 := HB4.out.size); (try simp at z3); (try have z4 := HL5.out.size); (try simp at z4); (try have z5 := HL7.out.size); (try simp at z5); (try have z6 := HB8.out.size); (try simp at z6); (try have z7 := HB9.out.size); (try simp at z7); (try have z8 := HB10.out.size); (try simp at z8); (try simp); omega)))⟩
    | true =>
      have hq2 : -1073741824 ≤ n2 ∧ n2 ≤ 1073741824 ∧ 1 ≤ d2 ∧ d2 ≤ 1073741824 := by
        simp [mayB, rightB, smallB] at h2; omega
      have h3 : lessB n1 d1 n2 d2 = decide (n1 * d2 - n2 * d1 < 0) := by
        rw [Bool.eq_iff_iff]; simp [lessB, h1, h2]; omega
      obtain ⟨hq3, hq4, hq5, hq6⟩ := hq1
      obtain ⟨hq7, hq8, hq9, hq10⟩ := hq2
      go_wp2_with fail
      refine (frac_Less _ _ _ _ _).mono ?_
      rintro e w10 ⟨rfl, hb10⟩
      rw [h3]
      have Va := Lib.hid (Blk.hop Va.out (by (repeat (any_goals (first | exact Below.refl _ _ | refine below_drewN ?_ _ | refine Below.drew ?_ | refine Below.alloc ?_ ?_ _ | refine Below.setCell ?_ ?_ _))); all_goals (first | omega | (simp; done) | (simp; omega))) hb10); have Vb := Lib.hid (Blk.hop Vb.out (by (repeat (any_goals (first | exact Below.refl _ _ | refine below_drewN ?_ _ | refine Below.drew ?_ | refine Below.alloc ?_ ?_ _ | refine Below.setCell ?_ ?_ _))); all_goals (first | omega | (simp; done) | (simp; omega))) hb10); have zhb10 := hb10.size; (try simp only [World.size_alloc, World.size_drew, World.size_setCell, size_drewN'] at zhb10); have HB10 := Lib.hid hb10; clear hb10
      have kd0 : w10.cell? ⟨w.heap.size, 0, none⟩ = some (.int .i64 n1) := Va.out.cell 0
      have kd1 : w10.cell? ⟨w.heap.size, 1, none⟩ = some (.int .i64 d1) := Va.out.cell 1
      have kd2 : w10.cell? ⟨w.heap.size + 1, 0, none⟩ = some (.int .i64 n2) := Vb.out.cell 0
      have kd3 : w10.cell? ⟨w.heap.size + 1, 1, none⟩ = some (.int .i64 d2) := Vb.out.cell 1
      clear h3
      go_wp2_with fail
      refine (ref1_Cmp _ _ _ _ _ (by omega) (by omega) (by omega) (by omega)).mono ?_
      rintro e w11 ⟨rfl, hb11⟩
      have HB11 := Lib.hid hb11
      clear hb11
      generalize n1 * d2 - n2 * d1 = m
      by_cases hm : m < 0
      · go_wp2_with fail
        go_ret
        exact ⟨ret_bool (by simp [hm]), (by (repeat (any_goals (first | exact Below.refl _ _ | exact HB1.out | exact HB2.out | exact HB3.out | exact HB4.out | exact HL5.out | exact HL7.out | exact HB8.out | exact HB9.out | exact HB10.out | exact HB11.out | refine below_drewN ?_ _ | refine Below.drew ?_ | refine Below.alloc ?_ ?_ _ | refine Below.setCell ?_ ?_ _ | refine Below.trans ?_ (Below.mono HB1.out ?_) | refine Below.trans ?_ (Below.mono HB2.out ?_) | refine Below.trans ?_ (Below.mono HB3.out ?_) | refine Below.trans ?_ (Below.mono HB4.out ?_) | refine Below.trans ?_ (Below.mono HL5.out ?_) | refine Below.trans ?_ (Below.mono HL7.out ?_) | refine Below.trans ?_ (Below.mono HB8.out ?_) | refine Below.trans ?_ (Below.mono HB9.out ?_) | refine Below.trans ?_ (Below.mono HB10.out ?_) | refine Below.trans ?_ (Below.mono HB11.out ?_)))); all_goals (first | omega | (simp; done) | (simp; omega) | ((try have z0 := HB1.out.size); (try simp at z0); (try have z1 := HB2.out.size); (try simp at z1); (try have z2 := HB3.out.size); (try simp at z2); (try have z3 := HB4.out.size); (try simp at z3); (try have z4 := HL5.out.size); (try simp at z4); (try have z5 := HL7.out.size); (try simp at z5); (try have z6 := HB8.out.size); (try simp at z6); (try have z7 := HB9.out.size); (try simp at z7); (try have z8 := HB10.out.size); (try simp at z8); (try have z9 := HB11.out.size); (try simp at z9); (try simp); omega)))⟩
      · go_wp2_with fail
        go_ret
        exact ⟨ret_bool (by simp [hm]), (by (repeat (any_goals (first | exact Below.refl _ _ | exact HB1.out | exact HB2.out | exact HB3.out | exact HB4.out | exact HL5.out | exact HL7.out | exact HB8.out | exact HB9.out | exact HB10.out | exact HB11.out | refine below_drewN ?_ _ | refine Below.drew ?_ | refine Below.alloc ?_ ?_ _ | refine Below.setCell ?_ ?_ _ | refine Below.trans ?_ (Below.mono HB1.out ?_) | refine Below.trans ?_ (Below.mono HB2.out ?_) | refine Below.trans ?_ (Below.mono HB3.out ?_) | refine Below.trans ?_ (Below.mono HB4.out ?_) | refine Below.trans ?_ (Below.mono HL5.out ?_) | refine Below.trans ?_ (Below.mono HL7.out ?_) | refine Below.trans ?_ (Below.mono HB8.out ?_) | refine Below.trans ?_ (Below.mono HB9.out ?_) | refine Below.trans ?_ (Below.mono HB10.out ?_) | refine Below.trans ?_ (Below.mono HB11.out ?_)))); all_goals (first | omega | (simp; done) | (simp; omega) | ((try have z0 := HB1.out.size); (try simp at z0); (try have z1 := HB2.out.size); (try simp at z1); (try have z2 := HB3.out.size); (try simp at z2); (try have z3 := HB4.out.size); (try simp at z3); (try have z4 := HL5.out.size); (try simp at z4); (try have z5 := HL7.out.size); (try simp at z5); (try have z6 := HB8.out.size); (try simp at z6); (try have z7 := HB9.out.size); (try simp at z7); (try have z8 := HB10.out.size); (try simp at z8); (try have z9 := HB11.out.size); (try simp at z9); (try simp); omega)))⟩

theorem fracTells_walk (A : Option Addr) (l : List Int) (c : Nat) (d n1 d1 n2 d2 : Int) (w : World) (hr : Rd w A c l) :
    Calls Try.prog 4 #[.slice A l.length c, .int .i64 d, .agg #[.int .i64 n1, .int .i64 d1], .agg #[.int .i64 n2, .int .i64 d2]] w fun e w' => e = .returned (.bool true) ∧ Below w.heap.size w w' := by
  by_cases h0 : 0 < l.length
  · exact fracTells_some A l c d n1 d1 n2 d2 w hr h0
  · exact fracTells_none A l c d n1 d1 n2 d2 w hr h0
end Go.Proofs.Ytjcdkbalhleeeaa
