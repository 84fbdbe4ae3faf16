/-
  Contracts of functions and plain laws that later parts of the proof use. The conditions stand in each theorem.
-/
import Derived.Test.YtjcdkbalhleeeaaGreatDoorG06
import Derived.Test.YtjcdkbalhleeeaaGreatDoorG16
import Derived.Test.YtjcdkbalhleeeaaGreatDoorG20
import Derived.Deep.DeepCutAuto
namespace Go.Proofs.YtjcdkbalhleeeaaGreatDoor
open Go.RowKit
def cmpP (x y : PC) : Int := if x.fr.op || (!y.fr.op && lessB x.fr.n x.fr.d y.fr.n y.fr.d) then -1 else 1
set_option maxRecDepth 100000 in
theorem sweep_cmp (x y : PC) (w : World) :
    Calls Tryz.prog 61 #[.agg (pcC x).toArray, .agg (pcC y).toArray] w fun e w' => e = .returned (.int .i64 (cmpP x y)) ∧ Below w.heap.size w w' ∧ w.drawn ≤ w'.drawn := by
 obtain ⟨q, hq⟩ : ∃ q, lessB x.fr.n x.fr.d y.fr.n y.fr.d = q := ⟨_, rfl⟩
 have HLS := h_ (fun w1 => by have := fracG_Less x.fr.n x.fr.d y.fr.n y.fr.d w1; rw [hq] at this; exact this)
 have hu : cmpP x y = if x.fr.op || (!y.fr.op && q) then -1 else 1 := by simp [cmpP, hq]
 obtain ⟨R, hR⟩ : ∃ R, cmpP x y = R := ⟨_, rfl⟩
 rw [hR] at hu ⊢
 have HU := h_ hu
 clear hu hq hR
 unfold pcC
 go_enter Tryz.func61, Tryz.ntmps61
 go_upto_region 1 with fail
 obtain ⟨V1, hV1⟩ : ∃ V1, w.alloc (.cells #[.bool x.fr.op, .int .i64 x.fr.n, .int .i64 x.fr.d, .bool x.to.op, .int .i64 x.to.n, .int .i64 x.to.d, .int .i64 x.bn, .int .i64 x.bd, .int .i64 x.sn, .int .i64 x.sd] 79) = V1 := ⟨_, rfl⟩
 have b0 : Blk V1 w.heap.size 79 _ := hV1 ▸ Blk.mk' w _ _
 have z1 : V1.heap.size = w.heap.size + 1 := by rw [← hV1]; simp
 have k1 : Below w.heap.size w V1 := by rw [← hV1]; exact (Below.refl _ w).alloc (Nat.le_refl _) _
 have d1 : V1.drawn = w.drawn := by rw [← hV1]; rfl
 rw [hV1]
 clear hV1
 obtain ⟨V, hV⟩ : ∃ V, V1.alloc (.cells #[.bool y.fr.op, .int .i64 y.fr.n, .int .i64 y.fr.d, .bool y.to.op, .int .i64 y.to.n, .int .i64 y.to.d, .int .i64 y.bn, .int .i64 y.bd, .int .i64 y.sn, .int .i64 y.sd] 79) = V := ⟨_, rfl⟩
 have B0 := h_ (show Blk V w.heap.size 79 _ from hV ▸ b0.alloc _)
 have B1 := h_ (show Blk V (w.heap.size + 1) 79 _ from by rw [← z1]; exact hV ▸ Blk.mk' V1 _ _)
 have HB := h_ (show Below w.heap.size w V by rw [← hV]; exact k1.alloc (by omega) _)
 have HD := h_ (show V.drawn = w.drawn by rw [← hV]; exact d1)
 rw [hV]
 clear hV b0 z1 k1 d1
 have a0 : V.cell? ⟨w.heap.size, 0, none⟩ = some (.bool x.fr.op) := (B0.out).cell 0
 have a1 : V.cell? ⟨w.heap.size, 1, none⟩ = some (.int .i64 x.fr.n) := (B0.out).cell 1
 have a2 : V.cell? ⟨w.heap.size, 2, none⟩ = some (.int .i64 x.fr.d) := (B0.out).cell 2
 have c0 : V.cell? ⟨w.heap.size + 1, 0, none⟩ = some (.bool y.fr.op) := (B1.out).cell 0
 have c1 : V.cell? ⟨w.heap.size + 1, 1, none⟩ = some (.int .i64 y.fr.n) := (B1.out).cell 1
 have c2 : V.cell? ⟨w.heap.size + 1, 2, none⟩ = some (.int .i64 y.fr.d) := (B1.out).cell 2
 clear V1
 cases hx : x.fr.op
 ·rw [hx] at a0
  cases hy : y.fr.op
  ·rw [hy] at c0
   have HXY := h_ (And.intro hx hy)
   clear hx hy
   go_wp2_with fail
   refine (HLS.out _).mono ?_
   rintro e w1 ⟨rfl, hb1, hd1⟩
   have HB1 := h_ (HB.out.trans (hb1.mono HB.out.size))
   have HD1 := h_ (show w.drawn ≤ w1.drawn by have := HD.out; omega)
   clear hb1 hd1
   cases q
   ·go_wp2_with fail
    go_ret
    exact ⟨by rw [HU.out, HXY.out.1, HXY.out.2]; rfl, (by (repeat (any_goals (first | exact qR _ _ | exact HB1.out | refine below_drewN ?_ _ | refine qD ?_ | refine qA ?_ ?_ _ | refine qS ?_ ?_ _ | refine Below.trans ?_ (Below.mono HB1.out ?_)))); all_goals (first | omega | (simp; done) | (simp; omega) | ((try have z0 := HB1.out.size); (try simp at z0); (try simp); omega))), by (first | exact HD1.out | exact Nat.le_succ_of_le HD1.out)⟩
   ·go_wp2_with fail
    go_ret
    exact ⟨by rw [HU.out, HXY.out.1, HXY.out.2]; rfl, (by (repeat (any_goals (first | exact qR _ _ | exact HB1.out | refine below_drewN ?_ _ | refine qD ?_ | refine qA ?_ ?_ _ | refine qS ?_ ?_ _ | refine Below.trans ?_ (Below.mono HB1.out ?_)))); all_goals (first | omega | (simp; done) | (simp; omega) | ((try have z0 := HB1.out.size); (try simp at z0); (try simp); omega))), by (first | exact HD1.out | exact Nat.le_succ_of_le HD1.out)⟩
  ·rw [hy] at c0
   have HXY := h_ (And.intro hx hy)
   clear hx hy
   go_wp2_with fail
   go_ret
   exact ⟨by rw [HU.out, HXY.out.1, HXY.out.2]; rfl, (by (repeat (any_goals (first | exact qR _ _ | exact HB.out | refine below_drewN ?_ _ | refine qD ?_ | refine qA ?_ ?_ _ | refine qS ?_ ?_ _ | refine Below.trans ?_ (Below.mono HB.out ?_)))); all_goals (first | omega | (simp; done) | (simp; omega) | ((try have z0 := HB.out.size); (try simp at z0); (try simp); omega))), by (first | exact Nat.le_of_eq HD.out.symm | exact Nat.le_succ_of_le (Nat.le_of_eq HD.out.symm))⟩
 ·rw [hx] at a0
  have HXY := h_ hx
  clear hx
  go_wp2_with fail
  go_ret
  exact ⟨by rw [HU.out, HXY.out]; rfl, (by (repeat (any_goals (first | exact qR _ _ | exact HB.out | refine below_drewN ?_ _ | refine qD ?_ | refine qA ?_ ?_ _ | refine qS ?_ ?_ _ | refine Below.trans ?_ (Below.mono HB.out ?_)))); all_goals (first | omega | (simp; done) | (simp; omega) | ((try have z0 := HB.out.size); (try simp at z0); (try simp); omega))), by (first | exact Nat.le_of_eq HD.out.symm | exact Nat.le_succ_of_le (Nat.le_of_eq HD.out.symm))⟩
end Go.Proofs.YtjcdkbalhleeeaaGreatDoor
