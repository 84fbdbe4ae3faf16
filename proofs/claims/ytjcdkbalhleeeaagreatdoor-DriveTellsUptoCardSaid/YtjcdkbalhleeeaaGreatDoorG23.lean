/-
  Contracts of functions and plain laws that later parts of the proof use. The conditions stand in each theorem.
-/
import Derived.Test.YtjcdkbalhleeeaaGreatDoorG06
import Derived.Test.YtjcdkbalhleeeaaGreatDoorG20
import Derived.Deep.DeepCutAuto
namespace Go.Proofs.YtjcdkbalhleeeaaGreatDoor
open Go.RowKit
set_option maxRecDepth 100000 in
theorem sweep_point (x : PC) (w : World) :
    Calls Tryz.prog 58 #[.agg #[.bool x.fr.op, .int .i64 x.fr.n, .int .i64 x.fr.d, .bool x.to.op, .int .i64 x.to.n, .int .i64 x.to.d]] w fun e w' => e = .returned (.bool (pointB x)) ∧ Below w.heap.size w w' := by
 obtain ⟨⟨ao, an, ad⟩, ⟨co, cn, cd⟩, bn, bd, sn, sd⟩ := x
 obtain ⟨R, hR⟩ : ∃ R, pointB ⟨⟨ao, an, ad⟩, ⟨co, cn, cd⟩, bn, bd, sn, sd⟩ = R := ⟨_, rfl⟩
 have hu : R = (!ao && (!co && (decide (an = cn) && decide (ad = cd)))) := by
  rw [← hR]; unfold pointB
  simp only
  cases ao <;> cases co <;> simp
 rw [hR]
 have HU := h_ hu
 clear hu hR
 go_enter Tryz.func58, Tryz.ntmps58
 go_upto_region 1 with fail
 have B0 := h_ (Blk.mk' w 134 #[.bool ao, .int .i64 an, .int .i64 ad, .bool co, .int .i64 cn, .int .i64 cd])
 have HB := h_ ((Below.refl w.heap.size w).alloc (Nat.le_refl _) (.cells #[.bool ao, .int .i64 an, .int .i64 ad, .bool co, .int .i64 cn, .int .i64 cd] 134))
 generalize (w.alloc (.cells #[.bool ao, .int .i64 an, .int .i64 ad, .bool co, .int .i64 cn, .int .i64 cd] 134)) = V at *
 have c0 : V.cell? ⟨w.heap.size, 0, none⟩ = some (.bool ao) := B0.out.cell 0
 have c1 : V.cell? ⟨w.heap.size, 1, none⟩ = some (.int .i64 an) := B0.out.cell 1
 have c2 : V.cell? ⟨w.heap.size, 2, none⟩ = some (.int .i64 ad) := B0.out.cell 2
 have c3 : V.cell? ⟨w.heap.size, 3, none⟩ = some (.bool co) := B0.out.cell 3
 have c4 : V.cell? ⟨w.heap.size, 4, none⟩ = some (.int .i64 cn) := B0.out.cell 4
 have c5 : V.cell? ⟨w.heap.size, 5, none⟩ = some (.int .i64 cd) := B0.out.cell 5
 cases ao
 ·cases co
  ·by_cases hn : an = cn
   ·subst hn
    by_cases hd : ad = cd
    ·subst hd
     go_wp2_with fail
     go_ret
     exact ⟨by rw [HU.out]; simp, HB.out⟩
    ·go_wp2_with fail
     go_ret
     exact ⟨by rw [HU.out]; simp [hd], HB.out⟩
   ·go_wp2_with fail
    go_ret
    exact ⟨by rw [HU.out]; simp [hn], HB.out⟩
  ·go_wp2_with fail
   go_ret
   exact ⟨by rw [HU.out]; simp, HB.out⟩
 ·go_wp2_with fail
  go_ret
  exact ⟨by rw [HU.out]; simp, HB.out⟩
end Go.Proofs.YtjcdkbalhleeeaaGreatDoor
