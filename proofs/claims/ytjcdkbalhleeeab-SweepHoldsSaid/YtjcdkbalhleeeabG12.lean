/-
  Contracts of functions and plain laws that later parts of the proof use. The conditions stand in each theorem.
-/
import Derived.Test.YtjcdkbalhleeeabG11
import Derived.Test.YtjcdkbalhleeeabG09
import Derived.Test.YtjcdkbalhleeeabG01
import Derived.Test.YtjcdkbalhleeeabG02
namespace Go.Proofs.Ytjcdkbalhleeeab
open Go.RowKit

theorem layout_fits (A : Option Addr) (c : Nat) (A2 : Option Addr) (c2 : Nat) (p : PG) (X : Option Addr) (l : List Int) (cx : Nat) (d : Int) (w : World) (hp : Pg w A c A2 c2 p) (hx : Rd w X cx l) :
    Calls Try.prog 79 #[.agg #[.slice A p.costs.length c, .slice A2 p.rows.length c2], .agg #[.slice X l.length cx, .int .i64 d]] w fun e w' => e = .returned (.bool (fitsB p l d)) ∧ Below w.heap.size w w' := by
  have HP := Lib.hid hp
  have HX := Lib.hid hx
  obtain ⟨⟨hl, hc, hsm, _⟩, ⟨hl2, hc2, hsm2, _⟩⟩ := hp
  obtain ⟨hlx, hcx, hsx, _⟩ := hx
  cases h1 : mayPB p with
  | false =>
    have hv : fitsB p l d = false := by simp [fitsB, h1]
    rw [hv]
    clear hv
    go_enter Try.func79, Try.ntmps79
    go_wp2_with fail
    refine (layout_May _ _ _ _ _ _ (by exact HP.out.below (by (repeat (any_goals (first | exact Below.refl _ _ | refine below_drewN ?_ _ | refine Below.drew ?_ | refine Below.alloc ?_ ?_ _ | refine Below.setCell ?_ ?_ _))); all_goals (first | omega | (simp; done) | (simp; omega))))).mono ?_
    rintro e w1 ⟨rfl, hb1⟩
    rw [h1]
    have HB1 := Lib.hid hb1
    clear hb1
    go_wp2_with fail
    go_ret
    exact ⟨rfl, (by (repeat (any_goals (first | exact Below.refl _ _ | exact HB1.out | refine below_drewN ?_ _ | refine Below.drew ?_ | refine Below.alloc ?_ ?_ _ | refine Below.setCell ?_ ?_ _ | refine Below.trans ?_ (Below.mono HB1.out ?_)))); all_goals (first | omega | (simp; done) | (simp; omega) | ((try have z0 := HB1.out.size); (try simp at z0); (try simp); omega)))⟩
  | true =>
    cases h2 : mayB l d with
    | false =>
      have hv : fitsB p l d = false := by simp [fitsB, h2]
      rw [hv]
      clear hv
      go_enter Try.func79, Try.ntmps79
      go_wp2_with fail
      refine (layout_May _ _ _ _ _ _ (by exact HP.out.below (by (repeat (any_goals (first | exact Below.refl _ _ | refine below_drewN ?_ _ | refine Below.drew ?_ | refine Below.alloc ?_ ?_ _ | refine Below.setCell ?_ ?_ _))); all_goals (first | omega | (simp; done) | (simp; omega))))).mono ?_
      rintro e w1 ⟨rfl, hb1⟩
      rw [h1]
      have Vp0 := Blk.next (Blk.alloc (Blk.mk' _ _ _) _) hb1; (try simp only [World.size_alloc, World.size_drew, World.size_setCell, size_drewN'] at Vp0); have Vp := Lib.hid Vp0; clear Vp0; have lVp := Vp.out.lt; have Vx0 := Blk.next (Blk.mk' _ _ _) hb1; (try simp only [World.size_alloc, World.size_drew, World.size_setCell, size_drewN'] at Vx0); have Vx := Lib.hid Vx0; clear Vx0; have lVx := Vx.out.lt; have HX := Lib.hid (HX.out.hop (by (repeat (any_goals (first | exact Below.refl _ _ | refine below_drewN ?_ _ | refine Below.drew ?_ | refine Below.alloc ?_ ?_ _ | refine Below.setCell ?_ ?_ _))); all_goals (first | omega | (simp; done) | (simp; omega))) hb1); have zhb1 := hb1.size; (try simp only [World.size_alloc, World.size_drew, World.size_setCell, size_drewN'] at zhb1); have HB1 := Lib.hid hb1; clear hb1
      have k0 : w1.cell? ⟨w.heap.size + 1, 0, none⟩ = some (.slice X l.length cx) := Vx.out.cell 0
      have k1 : w1.cell? ⟨w.heap.size + 1, 1, none⟩ = some (.int .i64 d) := Vx.out.cell 1
      go_wp2_with fail
      refine (frac_MayPoint _ _ _ _ _ HX.out).mono ?_
      rintro e w2 ⟨rfl, hb2⟩
      rw [h2]
      have HB2 := Lib.hid hb2
      clear hb2
      go_wp2_with fail
      go_ret
      exact ⟨rfl, (by (repeat (any_goals (first | exact Below.refl _ _ | exact HB1.out | exact HB2.out | refine below_drewN ?_ _ | refine Below.drew ?_ | refine Below.alloc ?_ ?_ _ | refine Below.setCell ?_ ?_ _ | refine Below.trans ?_ (Below.mono HB1.out ?_) | refine Below.trans ?_ (Below.mono HB2.out ?_)))); all_goals (first | omega | (simp; done) | (simp; omega) | ((try have z0 := HB1.out.size); (try simp at z0); (try have z1 := HB2.out.size); (try simp at z1); (try simp); omega)))⟩
    | true =>
      have hv : fitsB p l d = ((l.length : Int) == (p.costs.length : Int)) := by rw [Bool.eq_iff_iff]; simp [fitsB, h1, h2]; omega
      rw [hv]
      clear hv
      go_enter Try.func79, Try.ntmps79
      go_wp2_with fail
      refine (layout_May _ _ _ _ _ _ (by exact HP.out.below (by (repeat (any_goals (first | exact Below.refl _ _ | refine below_drewN ?_ _ | refine Below.drew ?_ | refine Below.alloc ?_ ?_ _ | refine Below.setCell ?_ ?_ _))); all_goals (first | omega | (simp; done) | (simp; omega))))).mono ?_
      rintro e w1 ⟨rfl, hb1⟩
      rw [h1]
      have Vp0 := Blk.next (Blk.alloc (Blk.mk' _ _ _) _) hb1; (try simp only [World.size_alloc, World.size_drew, World.size_setCell, size_drewN'] at Vp0); have Vp := Lib.hid Vp0; clear Vp0; have lVp := Vp.out.lt; have Vx0 := Blk.next (Blk.mk' _ _ _) hb1; (try simp only [World.size_alloc, World.size_drew, World.size_setCell, size_drewN'] at Vx0); have Vx := Lib.hid Vx0; clear Vx0; have lVx := Vx.out.lt; have HX := Lib.hid (HX.out.hop (by (repeat (any_goals (first | exact Below.refl _ _ | refine below_drewN ?_ _ | refine Below.drew ?_ | refine Below.alloc ?_ ?_ _ | refine Below.setCell ?_ ?_ _))); all_goals (first | omega | (simp; done) | (simp; omega))) hb1); have zhb1 := hb1.size; (try simp only [World.size_alloc, World.size_drew, World.size_setCell, size_drewN'] at zhb1); have HB1 := Lib.hid hb1; clear hb1
      have k0 : w1.cell? ⟨w.heap.size + 1, 0, none⟩ = some (.slice X l.length cx) := Vx.out.cell 0
      have k1 : w1.cell? ⟨w.heap.size + 1, 1, none⟩ = some (.int .i64 d) := Vx.out.cell 1
      go_wp2_with fail
      refine (frac_MayPoint _ _ _ _ _ HX.out).mono ?_
      rintro e w2 ⟨rfl, hb2⟩
      rw [h2]
      have Vp := Lib.hid (Blk.hop Vp.out (by (repeat (any_goals (first | exact Below.refl _ _ | refine below_drewN ?_ _ | refine Below.drew ?_ | refine Below.alloc ?_ ?_ _ | refine Below.setCell ?_ ?_ _))); all_goals (first | omega | (simp; done) | (simp; omega))) hb2); have lVp := Vp.out.lt; have Vx := Lib.hid (Blk.hop Vx.out (by (repeat (any_goals (first | exact Below.refl _ _ | refine below_drewN ?_ _ | refine Below.drew ?_ | refine Below.alloc ?_ ?_ _ | refine Below.setCell ?_ ?_ _))); all_goals (first | omega | (simp; done) | (simp; omega))) hb2); have lVx := Vx.out.lt; have zhb2 := hb2.size; (try simp only [World.size_alloc, World.size_drew, World.size_setCell, size_drewN'] at zhb2); have HB2 := Lib.hid hb2; clear hb2
      have k2 : w2.cell? ⟨w.heap.size + 1, 0, none⟩ = some (.slice X l.length cx) := Vx.out.cell 0
      have k3 : w2.cell? ⟨w.heap.size, 0, none⟩ = some (.slice A p.costs.length c) := Vp.out.cell 0
      go_wp2_with fail
      go_ret
      exact ⟨rfl, (by (repeat (any_goals (first | exact Below.refl _ _ | exact HB1.out | exact HB2.out | refine below_drewN ?_ _ | refine Below.drew ?_ | refine Below.alloc ?_ ?_ _ | refine Below.setCell ?_ ?_ _ | refine Below.trans ?_ (Below.mono HB1.out ?_) | refine Below.trans ?_ (Below.mono HB2.out ?_)))); all_goals (first | omega | (simp; done) | (simp; omega) | ((try have z0 := HB1.out.size); (try simp at z0); (try have z1 := HB2.out.size); (try simp at z1); (try simp); omega)))⟩

set_option maxRecDepth 100000 in
theorem layout_Worth (A : Option Addr) (c : Nat) (A2 : Option Addr) (c2 : Nat) (p : PG) (X : Option Addr) (l : List Int) (cx : Nat) (d : Int) (w : World) (hp : Pg w A c A2 c2 p) (hx : Rd w X cx l) :
    Calls Try.prog 29 #[.agg #[.slice A p.costs.length c, .slice A2 p.rows.length c2], .agg #[.slice X l.length cx, .int .i64 d]] w
      (RetFr w (worN p l d) (worD p l d) (worE p l d)) := by
  unfold worN worD worE
  have HP := Lib.hid hp
  have HX := Lib.hid hx
  obtain ⟨⟨hl, hc, hsm, _⟩, ⟨hl2, hc2, hsm2, _⟩⟩ := hp
  obtain ⟨hlx, hcx, hsx, _⟩ := hx
  cases h1 : fitsB p l d with
  | false =>
    simp only [Bool.false_eq_true, if_false]
    go_enter Try.func29, Try.ntmps29
    go_wp2_with fail
    refine (layout_fits _ _ _ _ _ _ _ _ _ _ (by exact HP.out.below (by (repeat (any_goals (first | exact Below.refl _ _ | refine below_drewN ?_ _ | refine Below.drew ?_ | refine Below.alloc ?_ ?_ _ | refine Below.setCell ?_ ?_ _))); all_goals (first | omega | (simp; done) | (simp; omega)))) (by exact HX.out.below (by (repeat (any_goals (first | exact Below.refl _ _ | refine below_drewN ?_ _ | refine Below.drew ?_ | refine Below.alloc ?_ ?_ _ | refine Below.setCell ?_ ?_ _))); all_goals (first | omega | (simp; done) | (simp; omega))))).mono ?_
    rintro e w1 ⟨rfl, hb1⟩
    rw [h1]
    have Vp0 := Blk.next (Blk.alloc (Blk.alloc (Blk.mk' _ _ _) _) _) hb1; (try simp only [World.size_alloc, World.size_drew, World.size_setCell, size_drewN'] at Vp0); have Vp := Lib.hid Vp0; clear Vp0; have lVp := Vp.out.lt; have Vx0 := Blk.next (Blk.alloc (Blk.mk' _ _ _) _) hb1; (try simp only [World.size_alloc, World.size_drew, World.size_setCell, size_drewN'] at Vx0); have Vx := Lib.hid Vx0; clear Vx0; have lVx := Vx.out.lt; have Vr0 := Blk.next (Blk.mk' _ _ _) hb1; (try simp only [World.size_alloc, World.size_drew, World.size_setCell, size_drewN'] at Vr0); have Vr := Lib.hid Vr0; clear Vr0; have lVr := Vr.out.lt; have zhb1 := hb1.size; (try simp only [World.size_alloc, World.size_drew, World.size_setCell, size_drewN'] at zhb1); have HB1 := Lib.hid hb1; clear hb1
    have k0 : w1.cell? ⟨w.heap.size + 1 + 1, 0, none⟩ = some (.int .i64 0) := Vr.out.cell 0
    have k1 : w1.cell? ⟨w.heap.size + 1 + 1, 1, none⟩ = some (.int .i64 0) := Vr.out.cell 1
    have k2 := Vr.out.frozen 0
    have k3 := Vr.out.frozen 1
    go_wp2_with fail
    refine bodyPost_ret (v := .tuple #[.agg #[.int .i64 0, .int .i64 0], .int .i64 2]) (by simp [results, Try.results29, go_sem, k0, k1]) rfl ?_
    exact ⟨rfl, (by (repeat (any_goals (first | exact Below.refl _ _ | exact HB1.out | refine below_drewN ?_ _ | refine Below.drew ?_ | refine Below.alloc ?_ ?_ _ | refine Below.setCell ?_ ?_ _ | refine Below.trans ?_ (Below.mono HB1.out ?_)))); all_goals (first | omega | (simp; done) | (simp; omega) | ((try have z0 := HB1.out.size); (try simp at z0); (try simp); omega)))⟩
  | true =>
    simp only [if_true]
    obtain ⟨hf1, hf2, hf3⟩ := fitsB_iff.1 h1
    obtain ⟨hd1, hd2, hsX, hl8⟩ := mayB_parts hf2
    obtain ⟨g1, g2, g3, g4, g5, g6⟩ := mayPB_iff.1 hf1
    have HD := Lib.hid (show ∀ W : World, Rd W A c p.costs → Rd W X cx l → Calls Try.prog 80 #[.slice A p.costs.length c, .slice X l.length cx] W fun e w' => e = .returned (.int .i64 (dot p.costs l)) ∧ w' = W from
              fun W h1 h2 => layout_Dot0 A p.costs c X l cx 400 1073741824 W h1 h2 (by omega) (by omega) (by omega) g5 hsX (by omega))
    clear hf1 hf2 hf3 hsX g1 g2 g3 g4 g5 g6
    go_enter Try.func29, Try.ntmps29
    go_wp2_with fail
    refine (layout_fits _ _ _ _ _ _ _ _ _ _ (by exact HP.out.below (by (repeat (any_goals (first | exact Below.refl _ _ | refine below_drewN ?_ _ | refine Below.drew ?_ | refine Below.alloc ?_ ?_ _ | refine Below.setCell ?_ ?_ _))); all_goals (first | omega | (simp; done) | (simp; omega)))) (by exact HX.out.below (by (repeat (any_goals (first | exact Below.refl _ _ | refine below_drewN ?_ _ | refine Below.drew ?_ | refine Below.alloc ?_ ?_ _ | refine Below.setCell ?_ ?_ _))); all_goals (first | omega | (simp; done) | (simp; omega))))).mono ?_
    rintro e w1 ⟨rfl, hb1⟩
    rw [h1]
    clear h1
    have Vp0 := Blk.next (Blk.alloc (Blk.alloc (Blk.mk' _ _ _) _) _) hb1; (try simp only [World.size_alloc, World.size_drew, World.size_setCell, size_drewN'] at Vp0); have Vp := Lib.hid Vp0; clear Vp0; have lVp := Vp.out.lt; have Vx0 := Blk.next (Blk.alloc (Blk.mk' _ _ _) _) hb1; (try simp only [World.size_alloc, World.size_drew, World.size_setCell, size_drewN'] at Vx0); have Vx := Lib.hid Vx0; clear Vx0; have lVx := Vx.out.lt; have Vr0 := Blk.next (Blk.mk' _ _ _) hb1; (try simp only [World.size_alloc, World.size_drew, World.size_setCell, size_drewN'] at Vr0); have Vr := Lib.hid Vr0; clear Vr0; have lVr := Vr.out.lt; have HX := Lib.hid (HX.out.hop (by (repeat (any_goals (first | exact Below.refl _ _ | refine below_drewN ?_ _ | refine Below.drew ?_ | refine Below.alloc ?_ ?_ _ | refine Below.setCell ?_ ?_ _))); all_goals (first | omega | (simp; done) | (simp; omega))) hb1); have HP := Lib.hid (HP.out.hop (by (repeat (any_goals (first | exact Below.refl _ _ | refine below_drewN ?_ _ | refine Below.drew ?_ | refine Below.alloc ?_ ?_ _ | refine Below.setCell ?_ ?_ _))); all_goals (first | omega | (simp; done) | (simp; omega))) hb1); have zhb1 := hb1.size; (try simp only [World.size_alloc, World.size_drew, World.size_setCell, size_drewN'] at zhb1); have HB1 := Lib.hid hb1; clear hb1
    have k0 : w1.cell? ⟨w.heap.size + 1 + 1, 0, none⟩ = some (.int .i64 0) := Vr.out.cell 0
    have k1 : w1.cell? ⟨w.heap.size + 1 + 1, 1, none⟩ = some (.int .i64 0) := Vr.out.cell 1
    have k2 := Vr.out.frozen 0
    have k3 := Vr.out.frozen 1
    have k4 : w1.cell? ⟨w.heap.size, 0, none⟩ = some (.slice A p.costs.length c) := Vp.out.cell 0
    have k5 : w1.cell? ⟨w.heap.size + 1, 0, none⟩ = some (.slice X l.length cx) := Vx.out.cell 0
    have k6 : w1.cell? ⟨w.heap.size + 1, 1, none⟩ = some (.int .i64 d) := Vx.out.cell 1
    go_wp2_with fail
    have SK := Lib.hid (show ∀ w', Below (w.heap.size + 1 + 1) w1 w' → (w'.cell? ⟨w.heap.size, 0, none⟩ = some (.slice A p.costs.length c) ∧ w'.cell? ⟨w.heap.size + 1, 0, none⟩ = some (.slice X l.length cx) ∧ w'.cell? ⟨w.heap.size + 1, 1, none⟩ = some (.int .i64 d)) from fun w' h =>
      ⟨(Vp.out.below h (by omega)).cell 0, (Vx.out.below h (by omega)).cell 0, (Vx.out.below h (by omega)).cell 1⟩)
    have hlr := Vr.out.lt
    go_region_held3 (fun w' => (w'.cell? ⟨w.heap.size, 0, none⟩ = some (.slice A p.costs.length c) ∧ w'.cell? ⟨w.heap.size + 1, 0, none⟩ = some (.slice X l.length cx) ∧ w'.cell? ⟨w.heap.size + 1, 1, none⟩ = some (.int .i64 d)))
      (first | (refine SK.out _ ?_; exact (by (repeat (any_goals (first | exact Below.refl _ _ | exact hb3 | refine below_drewN ?_ _ | refine Below.drew ?_ | refine Below.alloc ?_ ?_ _ | refine Below.setCell ?_ ?_ _ | refine Below.trans ?_ (Below.mono hb3 ?_)))); all_goals (first | omega | (simp; done) | (simp; omega) | ((try have z0 := hb3.size); (try simp at z0); (try simp); omega)))))
      (first
        | (go_at_call 80; refine (HD.out _ (by exact HP.out.costs.drew) (by exact HX.out.drew)).mono ?_; rintro e w2 ⟨rfl, rfl⟩)
        | (go_at_call 81; refine (frac_Make _ _ _).mono ?_; rintro e w3 ⟨rfl, hb3⟩; have hV3 := Vr.out.drew.next hb3; have q0 : w3.cell? ⟨w.heap.size + 1 + 1, 0, none⟩ = some (.int .i64 0) := hV3.cell 0; have q1 : w3.cell? ⟨w.heap.size + 1 + 1, 1, none⟩ = some (.int .i64 0) := hV3.cell 1; have q2 := hV3.frozen 0; have q3 := hV3.frozen 1))
    have HB3 := Lib.hid hb3
    clear hb3
    go_wp2_with fail
    refine bodyPost_ret (v := .tuple #[.agg #[.int .i64 (frN (dot p.costs l) d), .int .i64 (ptD [dot p.costs l] d)], .int .i64 (ptE [dot p.costs l] d)]) (by simp [results, Try.results29, go_sem, q0, q1]) rfl ?_
    exact ⟨rfl, (by (repeat (any_goals (first | exact Below.refl _ _ | exact HB1.out | exact HB3.out | refine below_drewN ?_ _ | refine Below.drew ?_ | refine Below.alloc ?_ ?_ _ | refine Below.setCell ?_ ?_ _ | refine Below.trans ?_ (Below.mono HB1.out ?_) | refine Below.trans ?_ (Below.mono HB3.out ?_)))); all_goals (first | omega | (simp; done) | (simp; omega) | ((try have z0 := HB1.out.size); (try simp at z0); (try have z1 := HB3.out.size); (try simp at z1); (try simp); omega)))⟩
end Go.Proofs.Ytjcdkbalhleeeab

namespace Go.Proofs.Ytjcdkbalhleeeab
open Go.RowKit

theorem ref1_size (n : Int) (w : World) (h : -9223372036854775807 ≤ n) (h' : n ≤ 9223372036854775807) :
    Calls Try.prog 120 #[.int .i64 n] w fun e w' => e = .returned (.int .i64 n.natAbs) ∧ w = w' := by
  by_cases h0 : n < 0
  · have e : (n.natAbs : Int) = -n := by omega
    rw [e]
    clear e
    go_enter Try.func120, Try.ntmps120
    go_wp2_with fail
    go_ret
    exact ⟨ret_int (by simp), rfl⟩
  · have e : (n.natAbs : Int) = n := by omega
    rw [e]
    clear e
    go_enter Try.func120, Try.ntmps120
    go_wp2_with fail
    go_ret
    exact ⟨rfl, rfl⟩

theorem ref1_common (k : Nat) : ∀ (a b : Nat) (w : World), b ≤ k → a ≤ 4611686018427387904 → b ≤ 4611686018427387904 →
    Calls Try.prog 145 #[.int .i64 a, .int .i64 b] w fun e w' => e = .returned (.int .i64 (Nat.gcd a b)) ∧ w = w' := by
  induction k with
  | zero =>
    intro a b w hk ha hb
    obtain rfl : b = 0 := by omega
    go_enter Try.func145, Try.ntmps145
    go_wp2_with fail
    go_ret
    exact ⟨ret_int (by simp), rfl⟩
  | succ k ih =>
    intro a b w hk ha hb
    have IH := Lib.hid ih
    clear ih
    by_cases h0 : b = 0
    · subst h0
      go_enter Try.func145, Try.ntmps145
      go_wp2_with fail
      go_ret
      exact ⟨ret_int (by simp), rfl⟩
    · have hz : ((b : Int) == 0) = false := by simp; omega
      have hm : a % b < b := Nat.mod_lt _ (by omega)
      have he : Nat.gcd a b = Nat.gcd b (a % b) := by rw [Nat.gcd_comm, Nat.gcd_rec, Nat.gcd_comm]
      rw [he]
      clear he
      go_enter Try.func145, Try.ntmps145
      go_wp2_with fail
      rw [show ((a : Int) % (b : Int)) = ((a % b : Nat) : Int) from by simp]
      refine (IH.out b (a % b) _ (by omega) (by omega) (by omega)).mono ?_
      rintro e w' ⟨rfl, rfl⟩
      go_wp2_with fail
      go_ret
      exact ⟨rfl, rfl⟩
theorem ref1_commonI (a b : Int) (w : World) (ha : 0 ≤ a) (hb : 0 ≤ b) (ha' : a ≤ 4611686018427387904) (hb' : b ≤ 4611686018427387904) :
    Calls Try.prog 145 #[.int .i64 a, .int .i64 b] w fun e w' => e = .returned (.int .i64 (Nat.gcd a.natAbs b.natAbs)) ∧ w = w' := by
  obtain ⟨a, rfl⟩ := Int.eq_ofNat_of_zero_le ha
  obtain ⟨b, rfl⟩ := Int.eq_ofNat_of_zero_le hb
  exact ref1_common b a b w (Nat.le_refl _) (by omega) (by omega)

theorem ref1_All (A : Option Addr) (l : List Int) (c : Nat) (d : Nat) (w : World) (hd : d ≤ 4611686018427387904) (hs : smallB 4611686018427387904 l = true) (hr : Rd w A c l) :
    Calls Try.prog 121 #[.slice A l.length c, .int .i64 d] w fun e w' => e = .returned (.int .i64 (comm d l)) ∧ w = w' := by
  have HR := Lib.hid hr
  obtain ⟨hl, hc, hsm, _⟩ := hr
  have HB := Lib.hid (show ∀ n ∈ l, n.natAbs ≤ 4611686018427387904 from fun n hn => by have := smallB_mem hs hn; omega)
  have HS := Lib.hid hs
  clear hs
  go_enter Try.func121, Try.ntmps121
  go_wp2_with fail
  go_loop [5, 6] (fun g i => ∃ k : Nat, k ≤ l.length ∧ g = .int .i64 (comm d (l.take k)) ∧ i = .int .i64 k) (fun _ i => l.length - (intOf i).toNat)
  case atStart => exact ⟨0, by omega, rfl, rfl⟩
  case round =>
    obtain ⟨k, hk, rfl, rfl⟩ := hrel
    have hb1 : comm d (l.take k) ≤ 4611686018427387904 := comm_bound _ _ _ hd fun x hx => HB.out x (List.mem_of_mem_take hx)
    by_cases hlt : k < l.length
    · obtain ⟨ad, rfl, hc1⟩ := HR.out.at_ hlt
      obtain ⟨hb2, hb3⟩ := smallB_at HS.out hlt
      have HT := Lib.hid (comm_take d hlt)
      go_wp2_with fail
      refine (ref1_size _ _ (by omega) (by omega)).mono ?_
      rintro e w' ⟨rfl, rfl⟩
      go_wp2_with fail
      refine (ref1_commonI _ _ _ (by omega) (by omega) (by omega) (by omega)).mono ?_
      rintro e w' ⟨rfl, rfl⟩
      go_wp2_with fail
      go_round
      case rel => exact ⟨k + 1, by omega, by rw [HT.out]; try simp, by go_num⟩
      case measure => simp [intOf]; omega
    · obtain rfl : k = l.length := by omega
      go_wp2_with fail
      go_ret
      exact ⟨ret_int (by simp), rfl⟩

theorem ref1_AllI (A : Option Addr) (l : List Int) (c : Nat) (d : Int) (w : World) (h0 : 0 ≤ d) (hd : d ≤ 4611686018427387904) (hs : smallB 4611686018427387904 l = true) (hr : Rd w A c l) :
    Calls Try.prog 121 #[.slice A l.length c, .int .i64 d] w fun e w' => e = .returned (.int .i64 (comm d.natAbs l)) ∧ w = w' := by
  obtain ⟨d, rfl⟩ := Int.eq_ofNat_of_zero_le h0
  exact ref1_All A l c d w (by omega) hs hr

theorem ref1_within (A : Option Addr) (l : List Int) (c : Nat) (m : Int) (w : World) (hm : 0 ≤ m) (hm' : m ≤ 4611686018427387904) (hr : Rd w A c l) :
    Calls Try.prog 119 #[.slice A l.length c, .int .i64 m] w fun e w' => e = .returned (.bool (smallB m l)) ∧ w = w' := by
  have HR := Lib.hid hr
  obtain ⟨hl, hc, hsm, _⟩ := hr
  go_enter Try.func119, Try.ntmps119
  go_wp2_with fail
  go_loop [5] (fun i => ∃ k : Nat, k ≤ l.length ∧ smallB m (l.take k) = true ∧ i = .int .i64 k) (fun i => l.length - (intOf i).toNat)
  case atStart => exact ⟨0, by omega, by simp [smallB], rfl⟩
  case round =>
    obtain ⟨k, hk, hs, rfl⟩ := hrel
    have HS := Lib.hid hs
    clear hs
    by_cases hlt : k < l.length
    · obtain ⟨ad, rfl, hc1⟩ := HR.out.at_ hlt
      have HT := Lib.hid (smallB_take (m := m) hlt)
      have HF := Lib.hid (smallB_false (m := m) hlt)
      by_cases h1 : l[k] < -m
      · go_wp2_with fail
        go_ret
        exact ⟨ret_bool (HF.out (by simp; omega)).symm, rfl⟩
      · by_cases h2 : m < l[k]
        · go_wp2_with fail
          go_ret
          exact ⟨ret_bool (HF.out (by simp; omega)).symm, rfl⟩
        · go_wp2_with fail
          go_round
          case rel => exact ⟨k + 1, by omega, by rw [HT.out, HS.out]; simp; omega, by go_num⟩
          case measure => simp [intOf]; omega
    · obtain rfl : k = l.length := by omega
      go_wp2_with fail
      go_ret
      exact ⟨ret_bool (by rw [← HS.out, List.take_length]), rfl⟩
theorem ref1_within1 (A : Option Addr) (n : Int) (c : Nat) (m : Int) (w : World) (hm : 0 ≤ m) (hm' : m ≤ 4611686018427387904) (hr : Rd w A c [n]) :
    Calls Try.prog 119 #[.slice A 1 c, .int .i64 m] w fun e w' => e = .returned (.bool (smallB m [n])) ∧ w = w' := ref1_within A [n] c m w hm hm' hr

theorem ref1_MayPoint (A : Option Addr) (l : List Int) (c : Nat) (d : Int) (w : World) (hr : Rd w A c l) :
    Calls Try.prog 113 #[.agg #[.slice A l.length c, .int .i64 d]] w fun e w' => e = .returned (.bool (mayB l d)) ∧ Below w.heap.size w w' := by
  have HR := Lib.hid hr
  obtain ⟨hl, hc, hsm, _⟩ := hr
  by_cases h1 : d < 1
  · have hv : mayB l d = false := by simp [mayB, rightB]; omega
    rw [hv]
    clear hv
    go_enter Try.func113, Try.ntmps113
    go_wp2_with fail
    go_ret
    exact ⟨rfl, (by (repeat (any_goals (first | exact Below.refl _ _ | refine below_drewN ?_ _ | refine Below.drew ?_ | refine Below.alloc ?_ ?_ _ | refine Below.setCell ?_ ?_ _))); all_goals (first | omega | (simp; done) | (simp; omega)))⟩
  by_cases h2 : 1073741824 < d
  · have hv : mayB l d = false := by simp [mayB, rightB]; omega
    rw [hv]
    clear hv
    go_enter Try.func113, Try.ntmps113
    go_wp2_with fail
    go_ret
    exact ⟨rfl, (by (repeat (any_goals (first | exact Below.refl _ _ | refine below_drewN ?_ _ | refine Below.drew ?_ | refine Below.alloc ?_ ?_ _ | refine Below.setCell ?_ ?_ _))); all_goals (first | omega | (simp; done) | (simp; omega)))⟩
  cases hs : smallB 1073741824 l with
  | false =>
    have hv : mayB l d = false := by simp [mayB, rightB, hs]
    rw [hv]
    clear hv
    go_enter Try.func113, Try.ntmps113
    go_wp2_with fail
    refine (ref1_within _ _ _ _ _ (by omega) (by omega) (by exact HR.out.alloc _)).mono ?_
    rintro e w' ⟨rfl, rfl⟩
    rw [hs]
    go_wp2_with fail
    go_ret
    exact ⟨rfl, (by (repeat (any_goals (first | exact Below.refl _ _ | refine below_drewN ?_ _ | refine Below.drew ?_ | refine Below.alloc ?_ ?_ _ | refine Below.setCell ?_ ?_ _))); all_goals (first | omega | (simp; done) | (simp; omega)))⟩
  | true =>
    have hz := Lib.hid (show smallB 4611686018427387904 l = true by rw [smallB_iff]; intro n hn; have := smallB_mem hs hn; omega)
    by_cases h3 : l.length ≤ 8
    · have hv : mayB l d = ((comm d.natAbs l : Int) == 1) := by rw [Bool.eq_iff_iff]; simp [mayB, rightB, hs]; omega
      rw [hv]
      clear hv
      go_enter Try.func113, Try.ntmps113
      go_wp2_with fail
      refine (ref1_within _ _ _ _ _ (by omega) (by omega) (by exact HR.out.alloc _)).mono ?_
      rintro e w' ⟨rfl, rfl⟩
      rw [hs]
      go_wp2_with fail
      refine (ref1_AllI _ _ _ _ _ (by omega) (by omega) hz.out (by exact HR.out.alloc _)).mono ?_
      rintro e w' ⟨rfl, rfl⟩
      go_wp2_with fail
      go_ret
      exact ⟨rfl, (by (repeat (any_goals (first | exact Below.refl _ _ | refine below_drewN ?_ _ | refine Below.drew ?_ | refine Below.alloc ?_ ?_ _ | refine Below.setCell ?_ ?_ _))); all_goals (first | omega | (simp; done) | (simp; omega)))⟩
    · have hv : mayB l d = false := by simp [mayB, rightB, hs]; omega
      rw [hv]
      clear hv
      go_enter Try.func113, Try.ntmps113
      go_wp2_with fail
      refine (ref1_within _ _ _ _ _ (by omega) (by omega) (by exact HR.out.alloc _)).mono ?_
      rintro e w' ⟨rfl, rfl⟩
      rw [hs]
      go_wp2_with fail
      go_ret
      exact ⟨ret_bool (by simp <;> omega), (by (repeat (any_goals (first | exact Below.refl _ _ | refine below_drewN ?_ _ | refine Below.drew ?_ | refine Below.alloc ?_ ?_ _ | refine Below.setCell ?_ ?_ _))); all_goals (first | omega | (simp; done) | (simp; omega)))⟩
end Go.Proofs.Ytjcdkbalhleeeab

namespace Go.Proofs.Ytjcdkbalhleeeab
open Go.RowKit

set_option maxHeartbeats 1000000 in
theorem ref1_Point (A : Option Addr) (l : List Int) (c : Nat) (d : Int) (w : World) (hr : Rd w A c l) :
    Calls Try.prog 87 #[.slice A l.length c, .int .i64 d] w (RetPt w (ptN l d) (ptD l d) (ptE l d)) := by
  have HR := Lib.hid hr
  obtain ⟨hl, hc, hsm, _⟩ := hr
  by_cases h0 : d = 0
  · subst h0
    have HE := Lib.hid (show ptE l 0 = 3 by simp [ptE])
    go_enter Try.func87, Try.ntmps87
    go_wp2_with fail
    refine bodyPost_ret (v := .tuple #[.agg #[.slice none 0 0, .int .i64 0], .int .i64 3]) (by simp [results, Try.results87, go_sem]) rfl ?_
    refine ⟨none, 0, by simp [ptN, ptD, HE.out], by simp [ptN, HE.out, Rd.nil], (by (repeat (any_goals (first | exact Below.refl _ _ | refine below_drewN ?_ _ | refine Below.drew ?_ | refine Below.alloc ?_ ?_ _ | refine Below.setCell ?_ ?_ _))); all_goals (first | omega | (simp; done) | (simp; omega))), fun ad e => by cases e⟩
  · have hd0 : (d == 0) = false := by simpa using h0
    cases h1 : smallB 4611686018427387904 l with
    | false =>
      have HE := Lib.hid (show ptE l d = 3 by simp [ptE, h1])
      go_enter Try.func87, Try.ntmps87
      go_wp2_with fail
      refine (ref1_within _ _ _ _ _ (by omega) (by omega) (by exact HR.out.alloc _)).mono ?_
      rintro e w' ⟨rfl, rfl⟩
      rw [h1]
      go_wp2_with fail
      refine bodyPost_ret (v := .tuple #[.agg #[.slice none 0 0, .int .i64 0], .int .i64 3]) (by simp [results, Try.results87, go_sem]) rfl ?_
      refine ⟨none, 0, by simp [ptN, ptD, HE.out], by simp [ptN, HE.out, Rd.nil], (by (repeat (any_goals (first | exact Below.refl _ _ | refine below_drewN ?_ _ | refine Below.drew ?_ | refine Below.alloc ?_ ?_ _ | refine Below.setCell ?_ ?_ _))); all_goals (first | omega | (simp; done) | (simp; omega))), fun ad e => by cases e⟩
    | true =>
      cases h2 : smallB 4611686018427387904 [d] with
      | false =>
        have HE := Lib.hid (show ptE l d = 3 by simp [ptE, h2])
        go_enter Try.func87, Try.ntmps87
        go_wp2_with fail
        refine (ref1_within _ _ _ _ _ (by omega) (by omega) (by exact HR.out.alloc _)).mono ?_
        rintro e w' ⟨rfl, rfl⟩
        rw [h1]
        go_wp2_with fail
        refine (ref1_within1 _ _ _ _ _ (by omega) (by omega) (by exact Rd.new1 _ _ _ _ (by simp))).mono ?_
        rintro e w' ⟨rfl, rfl⟩
        rw [h2]
        go_wp2_with fail
        refine bodyPost_ret (v := .tuple #[.agg #[.slice none 0 0, .int .i64 0], .int .i64 3]) (by simp [results, Try.results87, go_sem]) rfl ?_
        refine ⟨none, 0, by simp [ptN, ptD, HE.out], by simp [ptN, HE.out, Rd.nil], (by (repeat (any_goals (first | exact Below.refl _ _ | refine below_drewN ?_ _ | refine Below.drew ?_ | refine Below.alloc ?_ ?_ _ | refine Below.setCell ?_ ?_ _))); all_goals (first | omega | (simp; done) | (simp; omega))), fun ad e => by cases e⟩
      | true =>
        have hb := h2
        rw [smallB_one] at hb
        simp at hb
        obtain ⟨hb1, hb2⟩ := hb
        have HZ := Lib.hid h1
        have HZ2 := Lib.hid h2
        have hg1 := comm_pos d.natAbs l (by omega)
        have hg2 := comm_le d.natAbs l (by omega)
        obtain ⟨G, hG⟩ : ∃ G : Int, G = (comm d.natAbs l : Nat) := ⟨_, rfl⟩
        have hg3 : 1 ≤ G := by omega
        have hg4 : G ≤ 4611686018427387904 := by omega
        obtain ⟨D, hD⟩ : ∃ D : Int, D = (d.natAbs : Nat) := ⟨_, rfl⟩
        have hd3 : 0 ≤ D := by omega
        have hd4 : D ≤ 4611686018427387904 := by omega
        have HG := Lib.hid hG
        have HD := Lib.hid hD
        have hq : 0 ≤ D / G ∧ D / G ≤ 4611686018427387904 := ⟨Int.ediv_nonneg hd3 (by omega), Int.le_trans (Int.ediv_le_self _ hd3) hd4⟩
        obtain ⟨hq1, hq2⟩ := hq
        have HQ := Lib.hid (show D / G = d.tdiv (sgcd l d) from by
          rw [hD, hG]; unfold sgcd
          by_cases hn : d < 0
          · rw [if_pos hn, Int.tdiv_neg, ← Int.neg_tdiv, Int.tdiv_eq_ediv_of_nonneg (by omega)]; congr 1; omega
          · rw [if_neg hn, Int.tdiv_eq_ediv_of_nonneg (by omega)]; congr 1; omega)
        clear hG hD hg1 hg2 h1 h2
        have HS1 := Lib.hid (show ∀ W : World, Calls Try.prog 120 #[.int .i64 d] W fun e w' => e = .returned (.int .i64 D) ∧ w' = W from fun W => by
          rw [HD.out]; exact (ref1_size d W (by omega) (by omega)).mono fun _ _ h => ⟨h.1, h.2.symm⟩)
        have HS2 := Lib.hid (show ∀ W : World, Rd W A c l → Calls Try.prog 121 #[.slice A l.length c, .int .i64 D] W fun e w' => e = .returned (.int .i64 G) ∧ w' = W from fun W hw => by
          rw [HD.out, HG.out]; exact (ref1_AllI A l c d.natAbs W (by omega) (by omega) HZ.out hw).mono fun _ _ h => ⟨by rw [h.1]; simp, h.2.symm⟩)
        go_enter Try.func87, Try.ntmps87
        go_wp2_with fail
        refine (ref1_within _ _ _ _ _ (by omega) (by omega) (by exact HR.out.alloc _)).mono ?_
        rintro e w' ⟨rfl, rfl⟩
        rw [HZ.out]
        go_wp2_with fail
        refine (ref1_within1 _ _ _ _ _ (by omega) (by omega) (by exact Rd.new1 _ _ _ _ (by simp))).mono ?_
        rintro e w' ⟨rfl, rfl⟩
        rw [HZ2.out]
        go_wp2_with fail
        refine (HS1.out _).mono ?_
        rintro e w' ⟨rfl, rfl⟩
        go_wp2_with fail
        refine (HS1.out _).mono ?_
        rintro e w' ⟨rfl, rfl⟩
        go_wp2_with fail
        refine (HS2.out _ (by exact (HR.out.alloc _).alloc _)).mono ?_
        rintro e w' ⟨rfl, rfl⟩
        have hz : ¬ G = 0 := by omega
        go_wp2_with fail
        go_loopw [8] (fun i wr => ∃ (k : Nat) (v : Value), k ≤ l.length ∧ i = .int .i64 k ∧ Blk wr (w.heap.size + 1 + 1) 40 #[v, .int .i64 (D / G)] ∧
            wr.ownsRow (w.heap.size + 1 + 1 + 1) 2 1 v k ((divs (l.take k) (sgcd l d)).map (Value.int .i64)) ∧ Below w.heap.size w wr ∧ Blk wr w.heap.size 40 #[.slice none 0 0, .int .i64 0])
            (fun i _ => l.length - (intOf i).toNat)
        case atStart =>
          exact ⟨0, .slice none 0 0, by omega, rfl, Blk.new _ _ _ _ (by simp), World.ownsRow_nil _ _ _ _, (by (repeat (any_goals (first | exact Below.refl _ _ | refine below_drewN ?_ _ | refine Below.drew ?_ | refine Below.alloc ?_ ?_ _ | refine Below.setCell ?_ ?_ _))); all_goals (first | omega | (simp; done) | (simp; omega))), ((Blk.new w _ _ _ rfl).alloc _).alloc _⟩
        case round =>
          obtain ⟨k, v, hk, rfl, hB, hown, hbel, hRv⟩ := hrel
          by_cases hlt : k < l.length
          · have HRr := Lib.hid (HR.out.below hbel)
            obtain ⟨ad, rfl, hc1⟩ := HRr.out.at_ hlt
            have hadl := World.block_lt_of_cell? _ _ hc1
            have hp0 : wr.cell? ⟨w.heap.size + 1 + 1, 0, none⟩ = some v := hB.cell 0
            have hp1 : wr.cell? ⟨w.heap.size + 1 + 1, 1, none⟩ = some (.int .i64 (D / G)) := hB.cell 1
            have hpf := hB.frozen 0
            have hpl := hB.lt
            obtain ⟨hs1, hs2⟩ := smallB_at HZ.out hlt
            obtain ⟨hs3, hs4⟩ := tdiv_bound 4611686018427387904 l[k] G (by omega) (by omega)
            have hw2 : IntKind.i64.wrap (l[k].tdiv G) = l[k].tdiv G := IntWalk.i64_in _ (by omega)
            have hi0 : (k : Int) < (l.length : Int) := by omega
            have HB := Lib.hid hB
            have HW := Lib.hid hown
            have HL := Lib.hid hbel
            have HV := Lib.hid hRv
            clear hB hown hbel hRv
            go_wp2_with fail
            go_quiet ((first
              | (go_at_call 120; exact Calls.quiet_of_same (HS1.out _))
              | (go_at_call 121; exact Calls.quiet_of_same (HS2.out _ (HRr.out.drewN _)))))
            by_cases hn : d < 0
            all_goals
              go_wp2_with (at_builtin; refine list_app1 rfl (.tmp 54) (.tmp 56) _ _ _ 8 und_i64s inf_i64 rfl rfl _ v k _ _ rfl ((own_drewN HW.out _).alloc _) _ 1 rfl (cell_new1 _ _ _) rfl (by unfold maxLen; omega) (by omega) (by simp; omega) ?_; intro g cap w1 hown1 hg1 hat hlt1; have hB1 := ((HB.out.drewN nq).alloc _).grown hg1 (own_ne HW.out (by omega)); have hq0 : w1.cell? ⟨w.heap.size + 1 + 1, 0, none⟩ = some v := hB1.cell 0; have hqf := hB1.frozen 0)
              have HB1 := Lib.hid hB1
              have HW1 := Lib.hid hown1
              have HG1 := Lib.hid hg1
              clear hB1 hown1 hg1 hq0 hqf
              go_roundw
              case rel =>
                have hb2 : Below w.heap.size w w1 := ((below_drewN HL.out nq).alloc (by have := HL.out.size; simp; omega) _).grown HG1.out (by have := HL.out.size; simp; omega) (own_ge HW.out (by omega))
                refine ⟨k + 1, _, by omega, by go_num, HB1.out.set0 0 _, ?_, hb2.setCell (by simp; omega) _, ?_⟩
                · have he : (divs (l.take (k + 1)) (sgcd l d)).map (Value.int .i64) = (divs (l.take k) (sgcd l d)).map (Value.int .i64) ++ [Value.int .i64 (l[k].tdiv (sgcd l d))] := by
                    rw [divs_take hlt, List.map_append]; rfl
                  rw [he]
                  refine ownsRow_setCell_below ?_ (by simp) _
                  refine Eq.mp (congrArg (fun q : Int => w1.ownsRow (w.heap.size + 1 + 1 + 1) 2 1 (.slice (some ⟨g, 0, none⟩) (k + 1) cap) (k + 1) ((divs (l.take k) (sgcd l d)).map (Value.int .i64) ++ [Value.int .i64 q])) ?_) HW1.out
                  unfold sgcd
                  rw [← HG.out]
                  first | (rw [if_pos hn, Int.tdiv_neg]) | (rw [if_neg (by omega)])
                · exact (((HV.out.drewN nq).alloc _).grown HG1.out (own_ne HW.out (by omega))).far _ (by simp; omega)
              case measure => simp [intOf]; omega
          · obtain rfl : k = l.length := by omega
            rw [List.take_length] at hown
            obtain ⟨A', c', rfl, hRd, hA'⟩ := Rd.of_ownv hown (by rw [length_divs]) (by rw [length_divs]; exact hsm)
            have hp0 : wr.cell? ⟨w.heap.size + 1 + 1, 0, none⟩ = some (.slice A' (divs l (sgcd l d)).length c') := hB.cell 0
            have hp1 : wr.cell? ⟨w.heap.size + 1 + 1, 1, none⟩ = some (.int .i64 (D / G)) := hB.cell 1
            have HL := Lib.hid hbel
            have HRd := Lib.hid hRd
            have HV := Lib.hid hRv
            have HB := Lib.hid hB
            have HA := Lib.hid hA'
            clear hB hown hbel hRv hRd hA'
            go_wp2_with fail
            refine (ref1_MayPoint _ _ _ _ _ HRd.out).mono ?_
            rintro e w1 ⟨rfl, hb1⟩
            have hB1 := HB.out.below hb1 HB.out.lt
            have hV1 := HV.out.below hb1 HV.out.lt
            have hp0' : w1.cell? ⟨w.heap.size + 1 + 1, 0, none⟩ = some (.slice A' (divs l (sgcd l d)).length c') := hB1.cell 0
            have hp1' : w1.cell? ⟨w.heap.size + 1 + 1, 1, none⟩ = some (.int .i64 (D / G)) := hB1.cell 1
            have hr0 : w1.cell? ⟨w.heap.size, 0, none⟩ = some (.slice none 0 0) := hV1.cell 0
            have hr1 : w1.cell? ⟨w.heap.size, 1, none⟩ = some (.int .i64 0) := hV1.cell 1
            have hrf0 := hV1.frozen 0
            have hrf1 := hV1.frozen 1
            have HRd1 := Lib.hid (HRd.out.below hb1)
            have HB1 := Lib.hid hb1
            clear hp0 hp1 hb1 hB1 hV1
            cases hrb : rightB (divs l (sgcd l d)) (d.tdiv (sgcd l d)) with
            | true =>
              have HE := Lib.hid (show ptE l d = 0 by unfold ptE; rw [if_neg (by simp [h0, HZ.out, HZ2.out]), if_pos hrb])
              rw [show mayB (divs l (sgcd l d)) (D / G) = true from by rw [HQ.out]; unfold mayB; rw [hrb, comm_divs l d h0]; rfl]
              clear hrb
              go_wp2_with fail
              refine bodyPost_ret (v := .tuple #[.agg #[.slice A' (divs l (sgcd l d)).length c', .int .i64 (D / G)], .int .i64 0]) (by simp [results, Try.results87, go_sem, hr0, hr1]) rfl ?_
              unfold RetPt ptN ptD
              rw [HE.out, if_pos rfl, if_pos rfl, ← HQ.out]
              refine ⟨A', c', rfl, ?_, (by (repeat (any_goals (first | exact Below.refl _ _ | exact HL.out | exact HB1.out | refine below_drewN ?_ _ | refine Below.drew ?_ | refine Below.alloc ?_ ?_ _ | refine Below.setCell ?_ ?_ _ | refine Below.trans ?_ (Below.mono HL.out ?_) | refine Below.trans ?_ (Below.mono HB1.out ?_)))); all_goals (first | omega | (simp; done) | (simp; omega) | ((try have z0 := HL.out.size); (try simp at z0); (try have z1 := HB1.out.size); (try simp at z1); (try simp); omega))), fun ad e => by have := HA.out ad e; omega⟩
              exact (HRd1.out.setCell_out _ _ (fun ad e => by have := HA.out ad e; simp; omega)).setCell_out _ _ (fun ad e => by have := HA.out ad e; simp; omega)
            | false =>
              have HE := Lib.hid (show ptE l d = 1 by unfold ptE; rw [if_neg (by simp [h0, HZ.out, HZ2.out]), if_neg (by simp [hrb])])
              rw [show mayB (divs l (sgcd l d)) (D / G) = false from by rw [HQ.out]; unfold mayB; rw [hrb]; rfl]
              clear hrb
              go_wp2_with fail
              refine bodyPost_ret (v := .tuple #[.agg #[.slice none 0 0, .int .i64 0], .int .i64 1]) (by simp [results, Try.results87, go_sem, hr0, hr1]) rfl ?_
              unfold RetPt ptN ptD
              rw [HE.out, if_neg (by omega), if_neg (by omega)]
              exact ⟨none, 0, rfl, Rd.nil _, (by (repeat (any_goals (first | exact Below.refl _ _ | exact HL.out | exact HB1.out | refine below_drewN ?_ _ | refine Below.drew ?_ | refine Below.alloc ?_ ?_ _ | refine Below.setCell ?_ ?_ _ | refine Below.trans ?_ (Below.mono HL.out ?_) | refine Below.trans ?_ (Below.mono HB1.out ?_)))); all_goals (first | omega | (simp; done) | (simp; omega) | ((try have z0 := HL.out.size); (try simp at z0); (try have z1 := HB1.out.size); (try simp at z1); (try simp); omega))), fun ad e => by cases e⟩
theorem ref1_Point1 (A : Option Addr) (n : Int) (c : Nat) (d : Int) (w : World) (hr : Rd w A c [n]) :
    Calls Try.prog 87 #[.slice A 1 c, .int .i64 d] w (RetPt w (ptN [n] d) (ptD [n] d) (ptE [n] d)) := ref1_Point A [n] c d w hr

theorem ref1_Make (n d : Int) (w : World) :
    Calls Try.prog 48 #[.int .i64 n, .int .i64 d] w (RetFr w (frN n d) (ptD [n] d) (ptE [n] d)) := by
  by_cases h0 : ptE [n] d = 0
  · have HE := Lib.hid h0
    have hN : ptN [n] d = [frN n d] := by
      unfold frN ptN; rw [if_pos h0]; simp [divs]
    have HN := Lib.hid hN
    clear h0 hN
    go_enter Try.func48, Try.ntmps48
    go_wp2_with fail
    refine (ref1_Point1 _ _ _ _ _ (by exact Rd.new1 _ _ _ _ (by simp))).mono ?_
    rintro e w' ⟨A', c', rfl, hRd, hb, _⟩
    rw [HN.out, HE.out]
    rw [HN.out] at hRd
    obtain ⟨ad, rfl, hc0⟩ := hRd.at_ (k := 0) (by simp)
    have hc1 : w'.cell? ad = some (.int .i64 (frN n d)) := by simpa [Addr.add] using hc0
    have hc2 : ∀ o, (w'.alloc o).cell? ad = some (.int .i64 (frN n d)) := fun o => (World.cell?_alloc_lt w' o ad (World.block_lt_of_cell? _ _ hc1)).trans hc1
    have hV := ((Blk.new w 38 #[.int .i64 0, .int .i64 0] _ rfl).alloc (.cells #[.int .i64 n] 2)).below hb (by simp; omega)
    have hv0 : w'.cell? ⟨w.heap.size, 0, none⟩ = some (.int .i64 0) := hV.cell 0
    have hv1 : w'.cell? ⟨w.heap.size, 1, none⟩ = some (.int .i64 0) := hV.cell 1
    have hf0 := hV.frozen 0
    have hf1 := hV.frozen 1
    have hlt := hV.lt
    have HB := Lib.hid hb
    simp at hc0
    clear hb hRd hV
    go_wp2_with fail
    go_region
    go_wp2_with fail
    refine bodyPost_ret (v := .tuple #[.agg #[.int .i64 (frN n d), .int .i64 (ptD [n] d)], .int .i64 0]) (by simp [results, Try.results48, go_sem, hv0, hv1, hlt]) rfl ?_
    exact ⟨by rw [HE.out], (by (repeat (any_goals (first | exact Below.refl _ _ | exact HB.out | refine below_drewN ?_ _ | refine Below.drew ?_ | refine Below.alloc ?_ ?_ _ | refine Below.setCell ?_ ?_ _ | refine Below.trans ?_ (Below.mono HB.out ?_)))); all_goals (first | omega | (simp; done) | (simp; omega) | ((try have z0 := HB.out.size); (try simp at z0); (try simp); omega)))⟩
  · have HE := Lib.hid h0
    have hN : ptN [n] d = [] := by unfold ptN; rw [if_neg h0]
    have hD : ptD [n] d = 0 := by unfold ptD; rw [if_neg h0]
    have hF : frN n d = 0 := by unfold frN; rw [hN]; rfl
    rw [hD, hF]
    have HN := Lib.hid hN
    have HD := Lib.hid hD
    clear hN hD hF
    go_enter Try.func48, Try.ntmps48
    go_wp2_with fail
    refine (ref1_Point1 _ _ _ _ _ (by exact Rd.new1 _ _ _ _ (by simp))).mono ?_
    rintro e w' ⟨A', c', rfl, hRd, hb, _⟩
    rw [HN.out, HD.out]
    have hV := ((Blk.new w 38 #[.int .i64 0, .int .i64 0] _ rfl).alloc (.cells #[.int .i64 n] 2)).below hb (by simp; omega)
    have hv0 : w'.cell? ⟨w.heap.size, 0, none⟩ = some (.int .i64 0) := hV.cell 0
    have hv1 : w'.cell? ⟨w.heap.size, 1, none⟩ = some (.int .i64 0) := hV.cell 1
    have hf0 := hV.frozen 0
    have hf1 := hV.frozen 1
    have hlt := hV.lt
    have HB := Lib.hid hb
    clear hb hRd hV
    go_wp2_with fail
    refine bodyPost_ret (v := .tuple #[.agg #[.int .i64 0, .int .i64 0], .int .i64 (ptE [n] d)]) (by simp [results, Try.results48, go_sem, hv0, hv1, hlt]) rfl ?_
    exact ⟨rfl, (by (repeat (any_goals (first | exact Below.refl _ _ | exact HB.out | refine below_drewN ?_ _ | refine Below.drew ?_ | refine Below.alloc ?_ ?_ _ | refine Below.setCell ?_ ?_ _ | refine Below.trans ?_ (Below.mono HB.out ?_)))); all_goals (first | omega | (simp; done) | (simp; omega) | ((try have z0 := HB.out.size); (try simp at z0); (try simp); omega)))⟩

theorem ref1_Of (n d : Int) (w : World) :
    Calls Try.prog 15 #[.int .i64 n, .int .i64 d] w fun e w' => e = .returned (.agg #[.int .i64 (frN n d), .int .i64 (ptD [n] d)]) ∧ Below w.heap.size w w' := by
  go_enter Try.func15, Try.ntmps15
  go_wp2_with fail
  refine (ref1_Make _ _ _).mono ?_
  rintro e w' ⟨rfl, hb⟩
  have HB := Lib.hid hb
  have hV := (Blk.new w 38 #[.int .i64 0, .int .i64 0] _ rfl).below hb (by simp)
  have hv0 : w'.cell? ⟨w.heap.size, 0, none⟩ = some (.int .i64 0) := hV.cell 0
  have hv1 : w'.cell? ⟨w.heap.size, 1, none⟩ = some (.int .i64 0) := hV.cell 1
  have hf0 := hV.frozen 0
  have hf1 := hV.frozen 1
  have hlt := hV.lt
  clear hb hV
  go_wp2_with fail
  refine bodyPost_ret (v := .agg #[.int .i64 (frN n d), .int .i64 (ptD [n] d)]) (by simp [results, Try.results15, go_sem, hv0, hv1, hlt]) rfl ?_
  exact ⟨rfl, (by (repeat (any_goals (first | exact Below.refl _ _ | exact HB.out | refine below_drewN ?_ _ | refine Below.drew ?_ | refine Below.alloc ?_ ?_ _ | refine Below.setCell ?_ ?_ _ | refine Below.trans ?_ (Below.mono HB.out ?_)))); all_goals (first | omega | (simp; done) | (simp; omega) | ((try have z0 := HB.out.size); (try simp at z0); (try simp); omega)))⟩

theorem ref1_Cmp (a b c d : Int) (w : World) (ha : -1073741824 ≤ a ∧ a ≤ 1073741824) (hb : -1073741824 ≤ b ∧ b ≤ 1073741824) (hc : -1073741824 ≤ c ∧ c ≤ 1073741824) (hd : -1073741824 ≤ d ∧ d ≤ 1073741824) :
    Calls Try.prog 17 #[.agg #[.int .i64 a, .int .i64 b], .agg #[.int .i64 c, .int .i64 d]] w fun e w' => e = .returned (.int .i64 (a * d - c * b)) ∧ Below w.heap.size w w' := by
  obtain ⟨ha1, ha2⟩ := ha
  obtain ⟨hb1, hb2⟩ := hb
  obtain ⟨hc1, hc2⟩ := hc
  obtain ⟨hd1, hd2⟩ := hd
  obtain ⟨hm1, hm2⟩ := mul_bound a d 1073741824 1073741824 (by omega) (by omega) (by omega) (by omega)
  obtain ⟨hm3, hm4⟩ := mul_bound c b 1073741824 1073741824 (by omega) (by omega) (by omega) (by omega)
  go_enter Try.func17, Try.ntmps17
  go_wp2_with fail
  go_ret
  exact ⟨rfl, (by (repeat (any_goals (first | exact Below.refl _ _ | refine below_drewN ?_ _ | refine Below.drew ?_ | refine Below.alloc ?_ ?_ _ | refine Below.setCell ?_ ?_ _))); all_goals (first | omega | (simp; done) | (simp; omega)))⟩

end Go.Proofs.Ytjcdkbalhleeeab

namespace Go.Proofs.Ytjcdkbalhleeeab
open Go.RowKit

/-- The least of numbers, from a first one on. -/
def minL (n : Int) (l : List Int) : Int := l.foldl (fun a b => if b < a then b else a) n
theorem minL_take {n : Int} {l : List Int} {k : Nat} (h : k < l.length) : minL n (l.take (k + 1)) = if l[k] < minL n (l.take k) then l[k] else minL n (l.take k) := by
  unfold minL; rw [List.take_succ_eq_append_getElem h, List.foldl_append]; rfl
theorem minL_nonneg {n : Int} {l : List Int} : 0 ≤ minL n l ↔ 0 ≤ n ∧ nonneg l = true := by
  induction l generalizing n with
  | nil => simp [minL, nonneg]
  | cons x l ih =>
    have e : minL n (x :: l) = minL (if x < n then x else n) l := rfl
    rw [e, ih]
    simp only [nonneg, List.all_cons, Bool.and_eq_true, decide_eq_true_eq]
    constructor
    · rintro ⟨h1, h2⟩
      split at h1
      · exact ⟨by omega, by omega, h2⟩
      · exact ⟨by omega, by omega, h2⟩
    · rintro ⟨h1, h2, h3⟩
      exact ⟨by split <;> omega, h3⟩

theorem slices_Min (A : Option Addr) (x : Int) (l : List Int) (c : Nat) (w : World) (hr : Rd w A c (x :: l)) :
    Calls Try.prog 38 #[.slice A (x :: l).length c] w fun e w' => e = .returned (.int .i64 (minL x l)) ∧ w' = w := by
  have HR := Lib.hid hr
  obtain ⟨hl, hc, hsm, _⟩ := hr
  obtain ⟨ad, rfl, hc0⟩ := HR.out.at_ (k := 0) (by simp)
  have hc0' : w.cell? ad = some (.int .i64 x) := by simpa [Addr.add] using hc0
  have hpos : 0 < (x :: l).length := by simp
  have HL := Lib.hid (show (x :: l).length = l.length + 1 by simp)
  generalize hn : (x :: l).length = n at *
  have hnl := HL.out
  clear hc0
  obtain rfl : n = l.length + 1 := hnl
  go_enter Try.func38, Try.ntmps38
  go_wp2_with fail
  go_loop [3, 4] (fun s i => ∃ k : Nat, k ≤ l.length ∧ s = .int .i64 (minL x (l.take k)) ∧ i = .int .i64 ((k : Int) + 1)) (fun _ i => l.length + 1 - (intOf i).toNat)
  case atStart => exact ⟨0, by omega, rfl, rfl⟩
  case round =>
    obtain ⟨k, hk, rfl, rfl⟩ := hrel
    by_cases hlt : k < l.length
    · obtain ⟨ad', he, hc1⟩ := HR.out.at_ (k := k + 1) (by simp; omega)
      cases he
      have hc2 : w.cell? ⟨ad.block, ad.off + (k + 1), none⟩ = some (.int .i64 l[k]) := by simpa [Addr.add] using hc1
      have HT := Lib.hid (minL_take (n := x) hlt)
      clear hc1
      go_wp2_with fail
      all_goals
        go_round
        case rel => exact ⟨k + 1, by omega, by rw [HT.out]; try (congr 1; (try split) <;> omega), by go_num⟩
        case measure => simp [intOf]; omega
    · obtain rfl : k = l.length := by omega
      go_wp2_with fail
      go_ret
      exact ⟨ret_int (by simp), rfl⟩

theorem corner_Has (A : Option Addr) (c : Nat) (A2 : Option Addr) (c2 : Nat) (p : PG) (i j : Nat) (w : World) (hp : Pg w A c A2 c2 p) (hm : mayPB p = true) (hi : i < p.rows.length) (hj : j < 1000000) :
    Calls Try.prog 44 #[.agg #[.slice A p.costs.length c, .slice A2 p.rows.length c2], .int .i64 i, .int .i64 j] w fun e w' => e = .returned (.int .i64 (hasZ p i j)) ∧ Below w.heap.size w w' := by
  have HP := Lib.hid hp
  obtain ⟨⟨hl, hc, hsm, _⟩, ⟨hl2, hc2, hsm2, _⟩⟩ := hp
  have HM := Lib.hid hm
  clear hm
  by_cases h1 : j < p.costs.length
  · obtain ⟨ad, A', c', rfl, hd1, hd2, hr⟩ := HP.out.rows.at_ hi
    obtain ⟨hq1, _, _⟩ := mayPB_row HM.out hi
    have hjl : j < p.rows[i].1.length := by omega
    obtain ⟨ad', rfl, he1⟩ := hr.at_ hjl
    have hadl := World.block_lt_of_cell? _ _ hd1
    have hadl' := World.block_lt_of_cell? _ _ he1
    have hv : hasZ p i j = p.rows[i].1[j] := by
      rw [hasZ_var hi h1]; simp [List.getD, List.getElem?_eq_getElem hjl]
    rw [hv]
    clear hv hr hd2 hq1
    have hi0 : (i : Int) < (p.rows.length : Int) := by omega
    have hi1 : (j : Int) < (p.rows[i].1.length : Int) := by omega
    go_enter Try.func44, Try.ntmps44
    go_wp2_with fail
    go_ret
    exact ⟨rfl, (by (repeat (any_goals (first | exact Below.refl _ _ | refine below_drewN ?_ _ | refine Below.drew ?_ | refine Below.alloc ?_ ?_ _ | refine Below.setCell ?_ ?_ _))); all_goals (first | omega | (simp; done) | (simp; omega)))⟩
  · by_cases h2 : j - p.costs.length = i
    · have hv : hasZ p i j = 1 := by simp [hasZ, h1, h2]
      have hz : (((j : Int) - (p.costs.length : Int)) == (i : Int)) = true := by simp; omega
      rw [hv]
      clear hv h2
      go_enter Try.func44, Try.ntmps44
      go_wp2_with fail
      go_ret
      exact ⟨rfl, (by (repeat (any_goals (first | exact Below.refl _ _ | refine below_drewN ?_ _ | refine Below.drew ?_ | refine Below.alloc ?_ ?_ _ | refine Below.setCell ?_ ?_ _))); all_goals (first | omega | (simp; done) | (simp; omega)))⟩
    · have hv : hasZ p i j = 0 := by simp [hasZ, h1, h2]
      have hz : (((j : Int) - (p.costs.length : Int)) == (i : Int)) = false := by simp; omega
      rw [hv]
      clear hv h2
      go_enter Try.func44, Try.ntmps44
      go_wp2_with fail
      go_ret
      exact ⟨rfl, (by (repeat (any_goals (first | exact Below.refl _ _ | refine below_drewN ?_ _ | refine Below.drew ?_ | refine Below.alloc ?_ ?_ _ | refine Below.setCell ?_ ?_ _))); all_goals (first | omega | (simp; done) | (simp; omega)))⟩

end Go.Proofs.Ytjcdkbalhleeeab

namespace Go.Proofs.Ytjcdkbalhleeeab
open Go.RowKit

/-- The last of some columns, or what was ahead. -/
def lastZ (last : Int) (l : List Int) (k : Nat) : Int := if k = 0 then last else l.getD (k - 1) 0
theorem rising_take {last : Int} {n : Nat} {l : List Int} {k : Nat} (h : k < l.length) : risingB last n (l.take (k + 1)) = (risingB last n (l.take k) && (decide (lastZ last l k < l[k]) && decide (l[k] < n))) := by
  induction l generalizing last k with
  | nil => simp at h
  | cons j l ih =>
    cases k with
    | zero => simp [risingB, lastZ]
    | succ k =>
      simp only [List.take_succ_cons, risingB, List.getElem_cons_succ]
      rw [ih (by simpa using h)]
      have e : lastZ j l k = lastZ last (j :: l) (k + 1) := by
        unfold lastZ
        rw [if_neg (show ¬ k + 1 = 0 by omega)]
        cases k with
        | zero => simp
        | succ k => rw [if_neg (by omega)]; simp
      rw [e]
      simp only [Bool.and_assoc]
theorem rising_pre {last : Int} {n : Nat} {l : List Int} (k : Nat) (h : risingB last n (l.take k) = false) : risingB last n l = false := by
  induction l generalizing last k with
  | nil => simpa using h
  | cons j l ih =>
    cases k with
    | zero => simp [risingB] at h
    | succ k =>
      simp only [List.take_succ_cons, risingB, Bool.and_eq_false_iff] at h ⊢
      rcases h with h | h | h
      · exact Or.inl h
      · exact Or.inr (Or.inl h)
      · exact Or.inr (Or.inr (ih k h))
theorem lastZ_succ {last : Int} {l : List Int} {k : Nat} (h : k < l.length) : lastZ last l (k + 1) = l[k] := by
  unfold lastZ; rw [if_neg (by omega)]; simp [List.getD, List.getElem?_eq_getElem h]

theorem corner_rising (A : Option Addr) (l : List Int) (c : Nat) (n : Nat) (w : World) (hr : Rd w A c l) :
    Calls Try.prog 43 #[.slice A l.length c, .int .i64 n] w fun e w' => e = .returned (.bool (risingB (-1) n l)) ∧ w' = w := by
  have HR := Lib.hid hr
  obtain ⟨hl, hc, hsm, _⟩ := hr
  go_enter Try.func43, Try.ntmps43
  go_wp2_with fail
  go_loop [5, 10] (fun s i => ∃ k : Nat, k ≤ l.length ∧ i = .int .i64 k ∧ s = .int .i64 (lastZ (-1) l k) ∧ risingB (-1) n (l.take k) = true) (fun _ i => l.length - (intOf i).toNat)
  case atStart => exact ⟨0, by omega, rfl, rfl, rfl⟩
  case round =>
    obtain ⟨k, hk, rfl, rfl, hs⟩ := hrel
    have HS := Lib.hid hs
    clear hs
    by_cases hlt : k < l.length
    · obtain ⟨ad, rfl, hc1⟩ := HR.out.at_ hlt
      have HT := Lib.hid (rising_take (last := -1) (n := n) hlt)
      have HL := Lib.hid (lastZ_succ (last := -1) hlt)
      have HP := Lib.hid (rising_pre (last := -1) (n := n) (l := l) (k + 1))
      generalize lastZ (-1) l k = la at *
      by_cases h1 : l[k] ≤ la
      · go_wp2_with fail
        go_ret
        exact ⟨ret_bool (by rw [HP.out (by rw [HT.out]; simp; omega)]), rfl⟩
      · by_cases h2 : l[k] < n
        · go_wp2_with fail
          go_round
          case rel => exact ⟨k + 1, by omega, by go_num, by rw [HL.out], by rw [HT.out, HS.out]; simp; omega⟩
          case measure => simp [intOf]; omega
        · go_wp2_with fail
          go_ret
          exact ⟨ret_bool (by rw [HP.out (by rw [HT.out]; simp; omega)]), rfl⟩
    · obtain rfl : k = l.length := by omega
      go_wp2_with fail
      go_ret
      exact ⟨ret_bool (by have := HS.out; rw [List.take_length] at this; rw [this]), rfl⟩

theorem corner_Cost (A : Option Addr) (c : Nat) (A2 : Option Addr) (c2 : Nat) (p : PG) (j : Nat) (w : World) (hp : Pg w A c A2 c2 p) :
    Calls Try.prog 45 #[.agg #[.slice A p.costs.length c, .slice A2 p.rows.length c2], .int .i64 j] w fun e w' => e = .returned (.int .i64 (costZ p j)) ∧ Below w.heap.size w w' := by
  have HP := Lib.hid hp
  obtain ⟨⟨hl, hc, hsm, _⟩, ⟨hl2, hc2, hsm2, _⟩⟩ := hp
  by_cases h1 : j < p.costs.length
  · obtain ⟨ad, rfl, he1⟩ := HP.out.costs.at_ h1
    have hadl := World.block_lt_of_cell? _ _ he1
    have hv : costZ p j = p.costs[j] := by simp [costZ, h1, List.getD, List.getElem?_eq_getElem h1]
    rw [hv]
    clear hv
    have hi1 : (j : Int) < (p.costs.length : Int) := by omega
    go_enter Try.func45, Try.ntmps45
    go_wp2_with fail
    go_ret
    exact ⟨rfl, (by (repeat (any_goals (first | exact Below.refl _ _ | refine below_drewN ?_ _ | refine Below.drew ?_ | refine Below.alloc ?_ ?_ _ | refine Below.setCell ?_ ?_ _))); all_goals (first | omega | (simp; done) | (simp; omega)))⟩
  · have hv : costZ p j = 0 := by simp [costZ, h1]
    rw [hv]
    clear hv
    go_enter Try.func45, Try.ntmps45
    go_wp2_with fail
    go_ret
    exact ⟨rfl, (by (repeat (any_goals (first | exact Below.refl _ _ | refine below_drewN ?_ _ | refine Below.drew ?_ | refine Below.alloc ?_ ?_ _ | refine Below.setCell ?_ ?_ _))); all_goals (first | omega | (simp; done) | (simp; omega)))⟩
end Go.Proofs.Ytjcdkbalhleeeab

namespace Go.Proofs.Ytjcdkbalhleeeab
open Go.RowKit

/-- An answer's three points read as it. -/
structure An (w : World) (X : Option Addr) (cx : Nat) (Y : Option Addr) (cy : Nat) (R : Option Addr) (cr : Nat) (a : AN) : Prop where
  x : Rd w X cx a.xs
  y : Rd w Y cy a.ys
  r : Rd w R cr a.rs
section
variable {w w' : World} {X Y R : Option Addr} {cx cy cr : Nat} {a : AN}
theorem An.below (h : An w X cx Y cy R cr a) (hb : Below w.heap.size w w') : An w' X cx Y cy R cr a := ⟨h.x.below hb, h.y.below hb, h.r.below hb⟩
theorem An.hop {w1 : World} (h : An w X cx Y cy R cr a) (hl : Below w.heap.size w w1) (hb : Below w1.heap.size w1 w') : An w' X cx Y cy R cr a := (h.below hl).below hb
end

end Go.Proofs.Ytjcdkbalhleeeab
