/-
  Contracts of functions and plain laws that later parts of the proof use. The conditions stand in each theorem.
-/
import Derived.Test.YtjcdkbalhleeeabG10
import Derived.Test.YtjcdkbalhleeeabG17
import Derived.Test.YtjcdkbalhleeeabG09
import Derived.Deep.DeepCutAuto
import Derived.Test.YtjcdkbalhleeeabG20
import Derived.Test.YtjcdkbalhleeeabG21
import Derived.Test.YtjcdkbalhleeeabG07
import Derived.BigQuiet
import Derived.Lib.AppendZeros
namespace Go.Proofs.Ytjcdkbalhleeeab
open Go.RowKit

/-- An end is small. -/
def EB (a : EN) : Prop := (-1073741824 ≤ a.n ∧ a.n ≤ 1073741824) ∧ (-1073741824 ≤ a.d ∧ a.d ≤ 1073741824)
theorem fine_eb {a : EN} (h : EFine a) : EB a := by
  rcases h with ⟨_, rfl⟩ | ⟨_, h⟩
  · exact ⟨by decide, by decide⟩
  · unfold EB
    simp [mayB, rightB, smallB] at h
    omega
theorem low_lem (ao : Bool) (an ad : Int) (co : Bool) (cn cd : Int) (w : World) (ha : EB ⟨ao, an, ad⟩) (hc : EB ⟨co, cn, cd⟩) :
    Calls Try.prog 108 #[.agg #[.bool ao, .int .i64 an, .int .i64 ad], .agg #[.bool co, .int .i64 cn, .int .i64 cd]] w (RetE1 w (lowR ⟨ao, an, ad⟩ ⟨co, cn, cd⟩)) := by
  have HCM := Lib.hid (fun w1 => ref1_Cmp an ad cn cd w1 ha.1 ha.2 hc.1 hc.2)
  obtain ⟨q, hq⟩ : ∃ q, an * cd - cn * ad = q := ⟨_, rfl⟩
  have hu : lowR ⟨ao, an, ad⟩ ⟨co, cn, cd⟩ = if ao || co then openE else if q ≤ 0 then ⟨ao, an, ad⟩ else ⟨co, cn, cd⟩ := by simp [lowR, cmpZ, hq]
  rw [hq] at HCM
  obtain ⟨R, hR⟩ : ∃ R, lowR ⟨ao, an, ad⟩ ⟨co, cn, cd⟩ = R := ⟨_, rfl⟩
  rw [hR] at hu ⊢
  have HU := Lib.hid hu
  clear hu hq hR ha hc
  go_enter Try.func108, Try.ntmps108
  go_upto_region 1 with fail
  have B0 := Lib.hid (show Blk (((w.alloc (.cells #[.bool ao, .int .i64 an, .int .i64 ad] 71)).alloc (.cells #[.bool co, .int .i64 cn, .int .i64 cd] 71)).alloc (.cells #[.bool false, .int .i64 0, .int .i64 0] 71)) w.heap.size 71 #[.bool ao, .int .i64 an, .int .i64 ad] from ((Blk.mk' _ _ _).alloc _).alloc _)
  have B1 := Lib.hid (show Blk (((w.alloc (.cells #[.bool ao, .int .i64 an, .int .i64 ad] 71)).alloc (.cells #[.bool co, .int .i64 cn, .int .i64 cd] 71)).alloc (.cells #[.bool false, .int .i64 0, .int .i64 0] 71)) (w.heap.size + 1) 71 #[.bool co, .int .i64 cn, .int .i64 cd] from (Blk.new (w.alloc (.cells #[.bool ao, .int .i64 an, .int .i64 ad] 71)) 71 _ _ (by simp)).alloc _)
  have B2 := Lib.hid (show Blk (((w.alloc (.cells #[.bool ao, .int .i64 an, .int .i64 ad] 71)).alloc (.cells #[.bool co, .int .i64 cn, .int .i64 cd] 71)).alloc (.cells #[.bool false, .int .i64 0, .int .i64 0] 71)) (w.heap.size + 2) 71 #[.bool false, .int .i64 0, .int .i64 0] from Blk.new ((w.alloc (.cells #[.bool ao, .int .i64 an, .int .i64 ad] 71)).alloc (.cells #[.bool co, .int .i64 cn, .int .i64 cd] 71)) 71 _ _ (by simp))
  have HB := Lib.hid ((by (repeat (any_goals (first | exact Below.refl _ _ | refine below_drewN ?_ _ | refine Below.drew ?_ | refine Below.alloc ?_ ?_ _ | refine Below.setCell ?_ ?_ _))); all_goals (first | omega | (simp; done) | (simp; omega))) : Below w.heap.size w (((w.alloc (.cells #[.bool ao, .int .i64 an, .int .i64 ad] 71)).alloc (.cells #[.bool co, .int .i64 cn, .int .i64 cd] 71)).alloc (.cells #[.bool false, .int .i64 0, .int .i64 0] 71)))
  generalize (((w.alloc (.cells #[.bool ao, .int .i64 an, .int .i64 ad] 71)).alloc (.cells #[.bool co, .int .i64 cn, .int .i64 cd] 71)).alloc (.cells #[.bool false, .int .i64 0, .int .i64 0] 71)) = V at *
  have a0 : V.cell? ⟨w.heap.size, 0, none⟩ = some (.bool ao) := (B0.out).cell 0
  have a1 : V.cell? ⟨w.heap.size, 1, none⟩ = some (.int .i64 an) := (B0.out).cell 1
  have a2 : V.cell? ⟨w.heap.size, 2, none⟩ = some (.int .i64 ad) := (B0.out).cell 2
  have c0 : V.cell? ⟨w.heap.size + 1, 0, none⟩ = some (.bool co) := (B1.out).cell 0
  have c1 : V.cell? ⟨w.heap.size + 1, 1, none⟩ = some (.int .i64 cn) := (B1.out).cell 1
  have c2 : V.cell? ⟨w.heap.size + 1, 2, none⟩ = some (.int .i64 cd) := (B1.out).cell 2
  have r0 : V.cell? ⟨w.heap.size + 2, 0, none⟩ = some (.bool false) := (B2.out).cell 0
  have r1 : V.cell? ⟨w.heap.size + 2, 1, none⟩ = some (.int .i64 0) := (B2.out).cell 1
  have r2 : V.cell? ⟨w.heap.size + 2, 2, none⟩ = some (.int .i64 0) := (B2.out).cell 2
  have f0 := (B2.out).frozen 0
  have f1 := (B2.out).frozen 1
  have f2 := (B2.out).frozen 2
  cases ao
  · cases co
    · go_wp2_with fail
      refine (HCM.out _).mono ?_
      rintro e w1 ⟨rfl, hb1⟩
      have HB1 := Lib.hid (HB.out.trans (hb1.mono HB.out.size))
      have D0 := Lib.hid (B0.out.next hb1)
      have D1 := Lib.hid (B1.out.next hb1)
      have D2 := Lib.hid (B2.out.next hb1)
      clear hb1 a0 a1 a2 c0 c1 c2 r0 r1 r2 f0 f1 f2
      have a0 : w1.cell? ⟨w.heap.size, 0, none⟩ = some (.bool false) := (D0.out).cell 0
      have a1 : w1.cell? ⟨w.heap.size, 1, none⟩ = some (.int .i64 an) := (D0.out).cell 1
      have a2 : w1.cell? ⟨w.heap.size, 2, none⟩ = some (.int .i64 ad) := (D0.out).cell 2
      have c0 : w1.cell? ⟨w.heap.size + 1, 0, none⟩ = some (.bool false) := (D1.out).cell 0
      have c1 : w1.cell? ⟨w.heap.size + 1, 1, none⟩ = some (.int .i64 cn) := (D1.out).cell 1
      have c2 : w1.cell? ⟨w.heap.size + 1, 2, none⟩ = some (.int .i64 cd) := (D1.out).cell 2
      have r0 : w1.cell? ⟨w.heap.size + 2, 0, none⟩ = some (.bool false) := (D2.out).cell 0
      have r1 : w1.cell? ⟨w.heap.size + 2, 1, none⟩ = some (.int .i64 0) := (D2.out).cell 1
      have r2 : w1.cell? ⟨w.heap.size + 2, 2, none⟩ = some (.int .i64 0) := (D2.out).cell 2
      have f0 := (D2.out).frozen 0
      have f1 := (D2.out).frozen 1
      have f2 := (D2.out).frozen 2
      by_cases hz : q ≤ 0
      · go_wp2_with fail
        refine bodyPost_ret (v := .agg #[.bool false, .int .i64 an, .int .i64 ad]) ?_ ?_ ?_
        · simp [results, Try.results108, go_sem, a0, a1, a2, c0, c1, c2, r0, r1, r2]
        · rfl
        exact ⟨by rw [HU.out]; simp [hz], (by (repeat (any_goals (first | exact Below.refl _ _ | exact HB1.out | refine below_drewN ?_ _ | refine Below.drew ?_ | refine Below.alloc ?_ ?_ _ | refine Below.setCell ?_ ?_ _ | refine Below.trans ?_ (Below.mono HB1.out ?_)))); all_goals (first | omega | (simp; done) | (simp; omega) | ((try have z0 := HB1.out.size); (try simp at z0); (try simp); omega)))⟩
      · go_wp2_with fail
        refine bodyPost_ret (v := .agg #[.bool false, .int .i64 cn, .int .i64 cd]) ?_ ?_ ?_
        · simp [results, Try.results108, go_sem, a0, a1, a2, c0, c1, c2, r0, r1, r2]
        · rfl
        exact ⟨by rw [HU.out]; simp only [Bool.or_self, Bool.false_eq_true, if_false]; rw [if_neg (by omega)], (by (repeat (any_goals (first | exact Below.refl _ _ | exact HB1.out | refine below_drewN ?_ _ | refine Below.drew ?_ | refine Below.alloc ?_ ?_ _ | refine Below.setCell ?_ ?_ _ | refine Below.trans ?_ (Below.mono HB1.out ?_)))); all_goals (first | omega | (simp; done) | (simp; omega) | ((try have z0 := HB1.out.size); (try simp at z0); (try simp); omega)))⟩
    · go_wp2_with fail
      refine bodyPost_ret (v := .agg #[.bool true, .int .i64 0, .int .i64 0]) ?_ ?_ ?_
      · simp [results, Try.results108, go_sem, a0, a1, a2, c0, c1, c2, r0, r1, r2]
      · rfl
      exact ⟨by rw [HU.out]; rfl, (by (repeat (any_goals (first | exact Below.refl _ _ | exact HB.out | refine below_drewN ?_ _ | refine Below.drew ?_ | refine Below.alloc ?_ ?_ _ | refine Below.setCell ?_ ?_ _ | refine Below.trans ?_ (Below.mono HB.out ?_)))); all_goals (first | omega | (simp; done) | (simp; omega) | ((try have z0 := HB.out.size); (try simp at z0); (try simp); omega)))⟩
  · go_wp2_with fail
    refine bodyPost_ret (v := .agg #[.bool true, .int .i64 0, .int .i64 0]) ?_ ?_ ?_
    · simp [results, Try.results108, go_sem, a0, a1, a2, c0, c1, c2, r0, r1, r2]
    · rfl
    exact ⟨by rw [HU.out]; rfl, (by (repeat (any_goals (first | exact Below.refl _ _ | exact HB.out | refine below_drewN ?_ _ | refine Below.drew ?_ | refine Below.alloc ?_ ?_ _ | refine Below.setCell ?_ ?_ _ | refine Below.trans ?_ (Below.mono HB.out ?_)))); all_goals (first | omega | (simp; done) | (simp; omega) | ((try have z0 := HB.out.size); (try simp at z0); (try simp); omega)))⟩
theorem high_lem (ao : Bool) (an ad : Int) (co : Bool) (cn cd : Int) (w : World) (ha : EB ⟨ao, an, ad⟩) (hc : EB ⟨co, cn, cd⟩) :
    Calls Try.prog 109 #[.agg #[.bool ao, .int .i64 an, .int .i64 ad], .agg #[.bool co, .int .i64 cn, .int .i64 cd]] w (RetE1 w (highR ⟨ao, an, ad⟩ ⟨co, cn, cd⟩)) := by
  have HCM := Lib.hid (fun w1 => ref1_Cmp an ad cn cd w1 ha.1 ha.2 hc.1 hc.2)
  obtain ⟨q, hq⟩ : ∃ q, an * cd - cn * ad = q := ⟨_, rfl⟩
  have hu : highR ⟨ao, an, ad⟩ ⟨co, cn, cd⟩ = if ao || co then openE else if 0 ≤ q then ⟨ao, an, ad⟩ else ⟨co, cn, cd⟩ := by simp [highR, cmpZ, hq]
  rw [hq] at HCM
  obtain ⟨R, hR⟩ : ∃ R, highR ⟨ao, an, ad⟩ ⟨co, cn, cd⟩ = R := ⟨_, rfl⟩
  rw [hR] at hu ⊢
  have HU := Lib.hid hu
  clear hu hq hR ha hc
  go_enter Try.func109, Try.ntmps109
  go_upto_region 1 with fail
  have B0 := Lib.hid (show Blk (((w.alloc (.cells #[.bool ao, .int .i64 an, .int .i64 ad] 71)).alloc (.cells #[.bool co, .int .i64 cn, .int .i64 cd] 71)).alloc (.cells #[.bool false, .int .i64 0, .int .i64 0] 71)) w.heap.size 71 #[.bool ao, .int .i64 an, .int .i64 ad] from ((Blk.mk' _ _ _).alloc _).alloc _)
  have B1 := Lib.hid (show Blk (((w.alloc (.cells #[.bool ao, .int .i64 an, .int .i64 ad] 71)).alloc (.cells #[.bool co, .int .i64 cn, .int .i64 cd] 71)).alloc (.cells #[.bool false, .int .i64 0, .int .i64 0] 71)) (w.heap.size + 1) 71 #[.bool co, .int .i64 cn, .int .i64 cd] from (Blk.new (w.alloc (.cells #[.bool ao, .int .i64 an, .int .i64 ad] 71)) 71 _ _ (by simp)).alloc _)
  have B2 := Lib.hid (show Blk (((w.alloc (.cells #[.bool ao, .int .i64 an, .int .i64 ad] 71)).alloc (.cells #[.bool co, .int .i64 cn, .int .i64 cd] 71)).alloc (.cells #[.bool false, .int .i64 0, .int .i64 0] 71)) (w.heap.size + 2) 71 #[.bool false, .int .i64 0, .int .i64 0] from Blk.new ((w.alloc (.cells #[.bool ao, .int .i64 an, .int .i64 ad] 71)).alloc (.cells #[.bool co, .int .i64 cn, .int .i64 cd] 71)) 71 _ _ (by simp))
  have HB := Lib.hid ((by (repeat (any_goals (first | exact Below.refl _ _ | refine below_drewN ?_ _ | refine Below.drew ?_ | refine Below.alloc ?_ ?_ _ | refine Below.setCell ?_ ?_ _))); all_goals (first | omega | (simp; done) | (simp; omega))) : Below w.heap.size w (((w.alloc (.cells #[.bool ao, .int .i64 an, .int .i64 ad] 71)).alloc (.cells #[.bool co, .int .i64 cn, .int .i64 cd] 71)).alloc (.cells #[.bool false, .int .i64 0, .int .i64 0] 71)))
  generalize (((w.alloc (.cells #[.bool ao, .int .i64 an, .int .i64 ad] 71)).alloc (.cells #[.bool co, .int .i64 cn, .int .i64 cd] 71)).alloc (.cells #[.bool false, .int .i64 0, .int .i64 0] 71)) = V at *
  have a0 : V.cell? ⟨w.heap.size, 0, none⟩ = some (.bool ao) := (B0.out).cell 0
  have a1 : V.cell? ⟨w.heap.size, 1, none⟩ = some (.int .i64 an) := (B0.out).cell 1
  have a2 : V.cell? ⟨w.heap.size, 2, none⟩ = some (.int .i64 ad) := (B0.out).cell 2
  have c0 : V.cell? ⟨w.heap.size + 1, 0, none⟩ = some (.bool co) := (B1.out).cell 0
  have c1 : V.cell? ⟨w.heap.size + 1, 1, none⟩ = some (.int .i64 cn) := (B1.out).cell 1
  have c2 : V.cell? ⟨w.heap.size + 1, 2, none⟩ = some (.int .i64 cd) := (B1.out).cell 2
  have r0 : V.cell? ⟨w.heap.size + 2, 0, none⟩ = some (.bool false) := (B2.out).cell 0
  have r1 : V.cell? ⟨w.heap.size + 2, 1, none⟩ = some (.int .i64 0) := (B2.out).cell 1
  have r2 : V.cell? ⟨w.heap.size + 2, 2, none⟩ = some (.int .i64 0) := (B2.out).cell 2
  have f0 := (B2.out).frozen 0
  have f1 := (B2.out).frozen 1
  have f2 := (B2.out).frozen 2
  cases ao
  · cases co
    · go_wp2_with fail
      refine (HCM.out _).mono ?_
      rintro e w1 ⟨rfl, hb1⟩
      have HB1 := Lib.hid (HB.out.trans (hb1.mono HB.out.size))
      have D0 := Lib.hid (B0.out.next hb1)
      have D1 := Lib.hid (B1.out.next hb1)
      have D2 := Lib.hid (B2.out.next hb1)
      clear hb1 a0 a1 a2 c0 c1 c2 r0 r1 r2 f0 f1 f2
      have a0 : w1.cell? ⟨w.heap.size, 0, none⟩ = some (.bool false) := (D0.out).cell 0
      have a1 : w1.cell? ⟨w.heap.size, 1, none⟩ = some (.int .i64 an) := (D0.out).cell 1
      have a2 : w1.cell? ⟨w.heap.size, 2, none⟩ = some (.int .i64 ad) := (D0.out).cell 2
      have c0 : w1.cell? ⟨w.heap.size + 1, 0, none⟩ = some (.bool false) := (D1.out).cell 0
      have c1 : w1.cell? ⟨w.heap.size + 1, 1, none⟩ = some (.int .i64 cn) := (D1.out).cell 1
      have c2 : w1.cell? ⟨w.heap.size + 1, 2, none⟩ = some (.int .i64 cd) := (D1.out).cell 2
      have r0 : w1.cell? ⟨w.heap.size + 2, 0, none⟩ = some (.bool false) := (D2.out).cell 0
      have r1 : w1.cell? ⟨w.heap.size + 2, 1, none⟩ = some (.int .i64 0) := (D2.out).cell 1
      have r2 : w1.cell? ⟨w.heap.size + 2, 2, none⟩ = some (.int .i64 0) := (D2.out).cell 2
      have f0 := (D2.out).frozen 0
      have f1 := (D2.out).frozen 1
      have f2 := (D2.out).frozen 2
      by_cases hz : 0 ≤ q
      · go_wp2_with fail
        refine bodyPost_ret (v := .agg #[.bool false, .int .i64 an, .int .i64 ad]) ?_ ?_ ?_
        · simp [results, Try.results109, go_sem, a0, a1, a2, c0, c1, c2, r0, r1, r2]
        · rfl
        exact ⟨by rw [HU.out]; simp [hz], (by (repeat (any_goals (first | exact Below.refl _ _ | exact HB1.out | refine below_drewN ?_ _ | refine Below.drew ?_ | refine Below.alloc ?_ ?_ _ | refine Below.setCell ?_ ?_ _ | refine Below.trans ?_ (Below.mono HB1.out ?_)))); all_goals (first | omega | (simp; done) | (simp; omega) | ((try have z0 := HB1.out.size); (try simp at z0); (try simp); omega)))⟩
      · go_wp2_with fail
        refine bodyPost_ret (v := .agg #[.bool false, .int .i64 cn, .int .i64 cd]) ?_ ?_ ?_
        · simp [results, Try.results109, go_sem, a0, a1, a2, c0, c1, c2, r0, r1, r2]
        · rfl
        exact ⟨by rw [HU.out]; simp only [Bool.or_self, Bool.false_eq_true, if_false]; rw [if_neg (by omega)], (by (repeat (any_goals (first | exact Below.refl _ _ | exact HB1.out | refine below_drewN ?_ _ | refine Below.drew ?_ | refine Below.alloc ?_ ?_ _ | refine Below.setCell ?_ ?_ _ | refine Below.trans ?_ (Below.mono HB1.out ?_)))); all_goals (first | omega | (simp; done) | (simp; omega) | ((try have z0 := HB1.out.size); (try simp at z0); (try simp); omega)))⟩
    · go_wp2_with fail
      refine bodyPost_ret (v := .agg #[.bool true, .int .i64 0, .int .i64 0]) ?_ ?_ ?_
      · simp [results, Try.results109, go_sem, a0, a1, a2, c0, c1, c2, r0, r1, r2]
      · rfl
      exact ⟨by rw [HU.out]; rfl, (by (repeat (any_goals (first | exact Below.refl _ _ | exact HB.out | refine below_drewN ?_ _ | refine Below.drew ?_ | refine Below.alloc ?_ ?_ _ | refine Below.setCell ?_ ?_ _ | refine Below.trans ?_ (Below.mono HB.out ?_)))); all_goals (first | omega | (simp; done) | (simp; omega) | ((try have z0 := HB.out.size); (try simp at z0); (try simp); omega)))⟩
  · go_wp2_with fail
    refine bodyPost_ret (v := .agg #[.bool true, .int .i64 0, .int .i64 0]) ?_ ?_ ?_
    · simp [results, Try.results109, go_sem, a0, a1, a2, c0, c1, c2, r0, r1, r2]
    · rfl
    exact ⟨by rw [HU.out]; rfl, (by (repeat (any_goals (first | exact Below.refl _ _ | exact HB.out | refine below_drewN ?_ _ | refine Below.drew ?_ | refine Below.alloc ?_ ?_ _ | refine Below.setCell ?_ ?_ _ | refine Below.trans ?_ (Below.mono HB.out ?_)))); all_goals (first | omega | (simp; done) | (simp; omega) | ((try have z0 := HB.out.size); (try simp at z0); (try simp); omega)))⟩

set_option maxRecDepth 100000 in
theorem ref8_point (x : PC) (w : World) :
    Calls Try.prog 62 #[.agg (pcC x).toArray] w fun e w' => e = .returned (.bool (pointB x)) ∧ Below w.heap.size w w' := by
  obtain ⟨⟨ao, an, ad⟩, ⟨co, cn, cd⟩, bn, bd, sn, sd⟩ := x
  obtain ⟨R, hR⟩ : ∃ R, pointB ⟨⟨ao, an, ad⟩, ⟨co, cn, cd⟩, bn, bd, sn, sd⟩ = R := ⟨_, rfl⟩
  have hu : R = (!ao && (!co && (decide (an = cn) && decide (ad = cd)))) := by
    rw [← hR]; unfold pointB
    simp only
    cases ao <;> cases co <;> simp
  rw [hR]
  have HU := Lib.hid hu
  clear hu hR
  unfold pcC
  go_enter Try.func62, Try.ntmps62
  go_upto_region 1 with fail
  have B0 := Lib.hid (Blk.mk' w 73 #[.bool ao, .int .i64 an, .int .i64 ad, .bool co, .int .i64 cn, .int .i64 cd, .int .i64 bn, .int .i64 bd, .int .i64 sn, .int .i64 sd])
  have HB := Lib.hid ((Below.refl w.heap.size w).alloc (Nat.le_refl _) (.cells #[.bool ao, .int .i64 an, .int .i64 ad, .bool co, .int .i64 cn, .int .i64 cd, .int .i64 bn, .int .i64 bd, .int .i64 sn, .int .i64 sd] 73))
  generalize (w.alloc (.cells #[.bool ao, .int .i64 an, .int .i64 ad, .bool co, .int .i64 cn, .int .i64 cd, .int .i64 bn, .int .i64 bd, .int .i64 sn, .int .i64 sd] 73)) = V at *
  have c0 : V.cell? ⟨w.heap.size, 0, none⟩ = some (.bool ao) := B0.out.cell 0
  have c1 : V.cell? ⟨w.heap.size, 1, none⟩ = some (.int .i64 an) := B0.out.cell 1
  have c2 : V.cell? ⟨w.heap.size, 2, none⟩ = some (.int .i64 ad) := B0.out.cell 2
  have c3 : V.cell? ⟨w.heap.size, 3, none⟩ = some (.bool co) := B0.out.cell 3
  have c4 : V.cell? ⟨w.heap.size, 4, none⟩ = some (.int .i64 cn) := B0.out.cell 4
  have c5 : V.cell? ⟨w.heap.size, 5, none⟩ = some (.int .i64 cd) := B0.out.cell 5
  cases ao
  · cases co
    · by_cases hn : an = cn
      · subst hn
        by_cases hd : ad = cd
        · subst hd
          go_wp2_with fail
          go_ret
          exact ⟨by rw [HU.out]; simp, HB.out⟩
        · go_wp2_with fail
          go_ret
          exact ⟨by rw [HU.out]; simp [hd], HB.out⟩
      · go_wp2_with fail
        go_ret
        exact ⟨by rw [HU.out]; simp [hn], HB.out⟩
    · go_wp2_with fail
      go_ret
      exact ⟨by rw [HU.out]; simp, HB.out⟩
  · go_wp2_with fail
    go_ret
    exact ⟨by rw [HU.out]; simp, HB.out⟩
set_option maxRecDepth 100000 in
theorem ref8_before (x y : PC) (w : World) (hx : EB x.fr) (hy : EB y.fr) :
    Calls Try.prog 63 #[.agg (pcC x).toArray, .agg (pcC y).toArray] w fun e w' => e = .returned (.bool (befE x.fr y.fr)) ∧ Below w.heap.size w w' := by
  obtain ⟨q, hq⟩ : ∃ q, x.fr.n * y.fr.d - y.fr.n * x.fr.d = q := ⟨_, rfl⟩
  have HLS := Lib.hid (fun w1 => by have := ref1_Cmp x.fr.n x.fr.d y.fr.n y.fr.d w1 hx.1 hx.2 hy.1 hy.2; rw [hq] at this; exact this)
  obtain ⟨R, hR⟩ : ∃ R, befE x.fr y.fr = R := ⟨_, rfl⟩
  have hu : R = if x.fr.op || y.fr.op then x.fr.op else decide (q < 0) := by rw [← hR, ← hq]; unfold befE cmpZ; rfl
  rw [hR]
  have HU := Lib.hid hu
  clear hu hq hR hx hy
  unfold pcC
  go_enter Try.func63, Try.ntmps63
  go_upto_region 1 with fail
  obtain ⟨V1, hV1⟩ : ∃ V1, w.alloc (.cells #[.bool x.fr.op, .int .i64 x.fr.n, .int .i64 x.fr.d, .bool x.to.op, .int .i64 x.to.n, .int .i64 x.to.d, .int .i64 x.bn, .int .i64 x.bd, .int .i64 x.sn, .int .i64 x.sd] 73) = V1 := ⟨_, rfl⟩
  have b0 : Blk V1 w.heap.size 73 _ := hV1 ▸ Blk.mk' w _ _
  have z1 : V1.heap.size = w.heap.size + 1 := by rw [← hV1]; simp
  have k1 : Below w.heap.size w V1 := by rw [← hV1]; exact (Below.refl _ w).alloc (Nat.le_refl _) _
  rw [hV1]
  clear hV1
  obtain ⟨V, hV⟩ : ∃ V, V1.alloc (.cells #[.bool y.fr.op, .int .i64 y.fr.n, .int .i64 y.fr.d, .bool y.to.op, .int .i64 y.to.n, .int .i64 y.to.d, .int .i64 y.bn, .int .i64 y.bd, .int .i64 y.sn, .int .i64 y.sd] 73) = V := ⟨_, rfl⟩
  have B0 := Lib.hid (show Blk V w.heap.size 73 _ from hV ▸ b0.alloc _)
  have B1 := Lib.hid (show Blk V (w.heap.size + 1) 73 _ from by rw [← z1]; exact hV ▸ Blk.mk' V1 _ _)
  have HB := Lib.hid (show Below w.heap.size w V by rw [← hV]; exact k1.alloc (by omega) _)
  rw [hV]
  clear hV b0 z1 k1
  have a0 : V.cell? ⟨w.heap.size, 0, none⟩ = some (.bool x.fr.op) := (B0.out).cell 0
  have a1 : V.cell? ⟨w.heap.size, 1, none⟩ = some (.int .i64 x.fr.n) := (B0.out).cell 1
  have a2 : V.cell? ⟨w.heap.size, 2, none⟩ = some (.int .i64 x.fr.d) := (B0.out).cell 2
  have c0 : V.cell? ⟨w.heap.size + 1, 0, none⟩ = some (.bool y.fr.op) := (B1.out).cell 0
  have c1 : V.cell? ⟨w.heap.size + 1, 1, none⟩ = some (.int .i64 y.fr.n) := (B1.out).cell 1
  have c2 : V.cell? ⟨w.heap.size + 1, 2, none⟩ = some (.int .i64 y.fr.d) := (B1.out).cell 2
  clear V1
  cases hx : x.fr.op
  · rw [hx] at a0
    cases hy : y.fr.op
    · rw [hy] at c0
      have HXY := Lib.hid (And.intro hx hy)
      clear hx hy
      go_wp2_with fail
      refine (HLS.out _).mono ?_
      rintro e w1 ⟨rfl, hb1⟩
      have HB1 := Lib.hid (HB.out.trans (hb1.mono HB.out.size))
      clear hb1
      go_wp2_with fail
      go_ret
      exact ⟨by rw [HU.out, HXY.out.1, HXY.out.2]; rfl, (by (repeat (any_goals (first | exact Below.refl _ _ | exact HB1.out | refine below_drewN ?_ _ | refine Below.drew ?_ | refine Below.alloc ?_ ?_ _ | refine Below.setCell ?_ ?_ _ | refine Below.trans ?_ (Below.mono HB1.out ?_)))); all_goals (first | omega | (simp; done) | (simp; omega) | ((try have z0 := HB1.out.size); (try simp at z0); (try simp); omega)))⟩
    · rw [hy] at c0
      have HXY := Lib.hid (And.intro hx hy)
      clear hx hy
      go_wp2_with fail
      go_ret
      exact ⟨by rw [HU.out, HXY.out.1, HXY.out.2]; rfl, (by (repeat (any_goals (first | exact Below.refl _ _ | exact HB.out | refine below_drewN ?_ _ | refine Below.drew ?_ | refine Below.alloc ?_ ?_ _ | refine Below.setCell ?_ ?_ _ | refine Below.trans ?_ (Below.mono HB.out ?_)))); all_goals (first | omega | (simp; done) | (simp; omega) | ((try have z0 := HB.out.size); (try simp at z0); (try simp); omega)))⟩
  · rw [hx] at a0
    have HXY := Lib.hid hx
    clear hx
    go_wp2_with fail
    go_ret
    exact ⟨by rw [HU.out, HXY.out]; rfl, (by (repeat (any_goals (first | exact Below.refl _ _ | exact HB.out | refine below_drewN ?_ _ | refine Below.drew ?_ | refine Below.alloc ?_ ?_ _ | refine Below.setCell ?_ ?_ _ | refine Below.trans ?_ (Below.mono HB.out ?_)))); all_goals (first | omega | (simp; done) | (simp; omega) | ((try have z0 := HB.out.size); (try simp at z0); (try simp); omega)))⟩
end Go.Proofs.Ytjcdkbalhleeeab

namespace Go.Proofs.Ytjcdkbalhleeeab
open Go.RowKit

section
variable {w : World} {e : TypeId} {base n size : Nat} {xs : List Value}
theorem own_putK {g cap : Nat} (h : w.ownsRow base e size (.slice (some ⟨g, 0, none⟩) n cap) n xs) (k : Nat) (u : Value) :
    (w.setCell ⟨g, k, none⟩ u).ownsRow base e size (.slice (some ⟨g, 0, none⟩) n cap) n (xs.set k u) := by
  obtain ⟨hx, hr⟩ := h
  refine ⟨by simpa using hx, Or.inr ?_⟩
  rcases hr with ⟨q, _⟩ | ⟨g', cap', cur, q, hb, hg, hnc, hcm, hcs, htake⟩
  · injection q with e1; cases e1
  · injection q with e1 e2 e3
    injection e1 with e1; injection e1 with e1
    subst e1 e3
    refine ⟨g, cap, cur.setIfInBounds k u, rfl, hb, ?_, hnc, hcm, by simpa using hcs, ?_⟩
    · exact Blk.set0 (w := w) (t := e) hg k _
    · rw [Array.toList_setIfInBounds, List.take_set, htake]
end
/-- Six cells of a list stored. -/
def set6 (xs : List Value) (k : Nat) (a c : EN) : List Value := (((((xs.set k (.bool a.op)).set (k + 1) (.int .i64 a.n)).set (k + 2) (.int .i64 a.d)).set (k + 3) (.bool c.op)).set (k + 4) (.int .i64 c.n)).set (k + 5) (.int .i64 c.d)
theorem set6_app (xs ys : List Value) (k : Nat) (a c : EN) : set6 (xs ++ ys) (xs.length + k) a c = xs ++ set6 ys k a c := by
  unfold set6
  have h : ∀ j u (zs : List Value), (xs ++ zs).set (xs.length + k + j) u = xs ++ zs.set (k + j) u := fun j u zs => by
    rw [List.set_append_right _ _ (by omega)]
    congr 2
    omega
  have h0 : ∀ u (zs : List Value), (xs ++ zs).set (xs.length + k) u = xs ++ zs.set k u := fun u zs => h 0 u zs
  rw [h0, h, h, h, h, h]
theorem pcsC_set6 : ∀ {L : List PC} {i : Nat} (hi : i < L.length) (a c : EN), set6 (pcsC L) (i * 10) a c = pcsC (L.set i ⟨a, c, L[i].bn, L[i].bd, L[i].sn, L[i].sd⟩)
  | x :: L, 0, _, a, c => by simp [pcsC, pcC, set6]
  | x :: L, i + 1, hi, a, c => by
    have h : i < L.length := by simpa using hi
    have := pcsC_set6 h a c
    rw [List.set_cons_succ, pcsC, pcsC, show (i + 1) * 10 = (pcC x).length + i * 10 by simp [pcC]; omega, set6_app, this]
    rfl
/-- The world with six cells stored. -/
def World.set6 (w : World) (g k : Nat) (a c : EN) : World := ((((((w.setCell ⟨g, k, none⟩ (.bool a.op)).setCell ⟨g, k + 1, none⟩ (.int .i64 a.n)).setCell ⟨g, k + 2, none⟩ (.int .i64 a.d)).setCell ⟨g, k + 3, none⟩ (.bool c.op)).setCell ⟨g, k + 4, none⟩ (.int .i64 c.n)).setCell ⟨g, k + 5, none⟩ (.int .i64 c.d))
theorem PcOwn.lies {w : World} {base g n cap : Nat} {L : List PC} (h : PcOwn w base (.slice (some ⟨g, 0, none⟩) n cap) L) : ∀ (j : Nat) (u : Value), (pcsC L)[j]? = some u → w.cell? ((⟨g, 0, none⟩ : Addr).add j) = some u := World.ownsRow.cells h rfl
theorem pcsC_one (L : List PC) : ∀ u ∈ pcsC L, u.oneCell' = true := by
  induction L with
  | nil => intro u hu; simp [pcsC] at hu
  | cons x L ih =>
    intro u hu
    rw [pcsC, List.mem_append] at hu
    rcases hu with hu | hu
    · simp [pcC] at hu
      rcases hu with rfl | rfl | rfl | rfl | rfl | rfl | rfl | rfl | rfl | rfl <;> rfl
    · exact ih u hu
theorem pc_empty (w : World) (base g : Nat) (hg : g = w.heap.size) (hb : base ≤ g) : PcOwn (w.alloc (.cells #[] 73)) base (.slice (some ⟨g, 0, none⟩) 0 0) [] := by
  subst hg
  exact ⟨rfl, Or.inr ⟨_, 0, #[], rfl, hb, heap_alloc_new w _, by simp, by simp, rfl, rfl⟩⟩
section
variable {ops : Array Oper} {rest : List Oper} {o : Oper} {a : Act} {w : World} {Q : Exit → Act → World → Prop}
/-- Pieces behind pieces. -/
theorem list_appQ (hgd : o.guard = none) (s x : Operand)
    (ho : o.op = .call { callee := .builtin .append, args := #[s, x], argTypes := #[49, 49] })
    (base : Nat) (v : Value) (L M : List PC) (hs : a.eval s = v) (hown : PcOwn w base v L) (hv : v ≠ .slice none 0 0)
    (A : Option Addr) (m c : Nat) (hx : a.eval x = .slice A m c) (hm : M.length = m) (h0 : A = none → m = 0 ∧ c = 0) (hb : ∀ ad, A = some ad → ∀ (j : Nat) (u : Value), (pcsC M)[j]? = some u → w.cell? (ad.add j) = some u)
    (hn : L.length + m ≤ 100000) (hbase : base ≤ w.heap.size)
    (h : ∀ g cap w', PcOwn w' base (.slice (some ⟨g, 0, none⟩) (L.length + m) cap) (L ++ M) → w.grownBy w' v.ownBlock → (v.ownBlock = some g ∨ g = w.heap.size) → g < w'.heap.size → wpList Try.prog ops Q rest (a.put o.dst (.slice (some ⟨g, 0, none⟩) (L.length + m) cap)) w') :
    wpList Try.prog ops Q (o :: rest) a w := by
  obtain ⟨i, hi, hz0, hz1, hz2⟩ := info_parts inf_piece
  have hfin : ∀ g cap w', w'.ownsRow base 73 10 (.slice (some ⟨g, 0, none⟩) (L.length + m) cap) (L.length + m) (pcsC L ++ pcsC M) → PcOwn w' base (.slice (some ⟨g, 0, none⟩) (L.length + m) cap) (L ++ M) := fun g cap w' h1 => by
    unfold PcOwn
    rw [pcsC_app, List.length_append, hm]
    exact h1
  by_cases hm0 : m = 0
  · subst hm0
    obtain rfl : M = [] := List.eq_nil_of_length_eq_zero hm
    have hown' := hown
    rcases hown.2 with ⟨rfl, hn⟩ | ⟨g, cap, cur, rfl, hb', hg, hnc, hcm, hcs, htake⟩
    · exact absurd rfl hv
    · have hlt := (World.ownsRow.lt hown g rfl).2
      refine wpList_append_fits_any w hgd s x 49 ho base 73 i 10 und_pieces hi hz1 g L.length cap (pcsC L) hs hown' A 0 c [] hx (by simp) h0 (fun ad _ j u hu => by simp at hu) (by simp) (by omega) fun w' h2 h3 => ?_
      exact h g cap w' (hfin g cap w' h2) h3 (Or.inl rfl) (Nat.lt_of_lt_of_le hlt h3.size)
  · cases A with
    | none => exact absurd (h0 rfl).1 hm0
    | some ad =>
      exact wpList_append_lies w hgd s x 49 ho base 73 i _ 10 80 und_pieces hi hz0 hz1 hz2 rfl (by omega) v L.length (pcsC L) hs hown ad m c (pcsC M) hx (by rw [pcsC_len, hm]) (hb ad rfl) (pcsC_one M) (by omega) (by unfold maxLen; omega) (by omega) hbase _ rfl
        fun g cap w' h1 h2 h3 h4 => h g cap w' (hfin g cap w' h1) h2 h3 h4
end
/-- A line's spans are one. -/
theorem join_at {lo hi : EN → EN → EN} {x y : PC} : ∀ {L : List PC} {i : Nat}, (∀ j, j < i → ∀ z, L[j]? = some z → z.line ≠ x.line) → L[i]? = some y → y.line = x.line → joinG lo hi L x = L.set i ⟨lo y.fr x.fr, hi y.to x.to, y.bn, y.bd, y.sn, y.sd⟩
  | z :: L, 0, _, h, e => by
    obtain rfl : z = y := by simpa using h
    rw [joinG, if_pos e]
    rfl
  | z :: L, i + 1, hp, h, e => by
    have h' : L[i]? = some y := by simpa using h
    rw [joinG, if_neg (hp 0 (by omega) z rfl), join_at (fun j hj q hq => hp (j + 1) (by omega) q (by simpa using hq)) h' e]
    rfl
end Go.Proofs.Ytjcdkbalhleeeab

namespace Go.Proofs.Ytjcdkbalhleeeab
open Go.RowKit

theorem row_frozen {w : World} {base g n k cap size : Nat} {e : TypeId} {xs : List Value} (h : w.ownsRow base e size (.slice (some ⟨g, 0, none⟩) n cap) k xs) (j : Nat) : w.frozen? ⟨g, j, none⟩ = false := by
  rcases h.2 with ⟨q, _⟩ | ⟨g', cap', cur, q, h1, h2, _⟩
  · cases q
  · injection q with e1 e2 e3
    injection e1 with e1
    injection e1 with e1
    subst e1
    exact Blk.frozen (w := w) (t := e) h2 j
theorem row_cell {w : World} {base g n k cap size : Nat} {e : TypeId} {xs : List Value} (h : w.ownsRow base e size (.slice (some ⟨g, 0, none⟩) n cap) k xs) {j : Nat} {u : Value} (hu : xs[j]? = some u) : w.cell? ⟨g, j, none⟩ = some u := by
  have := World.ownsRow.cells h (g := g) rfl j u hu
  have e1 : ∀ q, (⟨g, 0, none⟩ : Addr).add q = ⟨g, q, none⟩ := fun q => by unfold Addr.add; split <;> simp_all
  rwa [e1] at this
theorem pc_new' (W : World) (y : PC) : ∀ (j : Nat) (u : Value), (pcC y)[j]? = some u → (W.alloc (.cells #[.bool y.fr.op, .int .i64 y.fr.n, .int .i64 y.fr.d, .bool y.to.op, .int .i64 y.to.n, .int .i64 y.to.d, .int .i64 y.bn, .int .i64 y.bd, .int .i64 y.sn, .int .i64 y.sd] 73)).cell? ((⟨W.heap.size, 0, none⟩ : Addr).add j) = some u := fun j u h => by
  have e1 : ∀ q, (⟨W.heap.size, 0, none⟩ : Addr).add q = ⟨W.heap.size, q, none⟩ := fun q => by unfold Addr.add; split <;> simp_all
  rw [e1, (Blk.mk' W 73 _).cell j, ← h]
  simp [pcC]
attribute [local go_sem] Oper.semAt_some
set_option maxRecDepth 100000 in
set_option maxHeartbeats 4000000 in
theorem ref8_joined (base : Nat) (A : Option Addr) (c : Nat) (L : List PC) (x : PC) (w : World) (hL : PcOwn w base (.slice A L.length c) L) (hn : L.length ≤ 10000) (hB : ∀ y ∈ L, EB y.fr ∧ EB y.to) (hx : EB x.fr ∧ EB x.to) :
    Calls Try.prog 61 #[.slice A L.length c, .agg (pcC x).toArray] w (RetP w (joinG lowR highR L x)) := by
  have HL := Lib.hid hL
  have HE := Lib.hid hB
  have HX := Lib.hid hx
  have hA0 : A = none → L.length = 0 ∧ c = 0 := fun e => by
    rcases hL.2 with ⟨q, h1⟩ | ⟨g, cap, cur, q, _⟩
    · injection q with q1 q2 q3; exact ⟨h1, q3⟩
    · injection q with q1; rw [e] at q1; cases q1
  have HA0 := Lib.hid hA0
  have HAd := Lib.hid (show ∀ ad, A = some ad → ∃ g, ad = ⟨g, 0, none⟩ ∧ g < w.heap.size from fun ad e => by
    rcases hL.2 with ⟨q, h1⟩ | ⟨g, cap, cur, q, _, hg, _⟩
    · injection q with q1; rw [e] at q1; cases q1
    · injection q with q1; rw [e] at q1; injection q1 with q1; exact ⟨g, q1, (Array.getElem?_eq_some_iff.1 hg).1⟩)
  clear hL hB hx hA0
  unfold pcC
  go_enter Try.func61, Try.ntmps61
  go_upto_region 1 with fail
  have BX0 := Lib.hid (Blk.mk' w 73 #[.bool x.fr.op, .int .i64 x.fr.n, .int .i64 x.fr.d, .bool x.to.op, .int .i64 x.to.n, .int .i64 x.to.d, .int .i64 x.bn, .int .i64 x.bd, .int .i64 x.sn, .int .i64 x.sd])
  have HB0 := Lib.hid ((Below.refl w.heap.size w).alloc (Nat.le_refl _) (.cells #[.bool x.fr.op, .int .i64 x.fr.n, .int .i64 x.fr.d, .bool x.to.op, .int .i64 x.to.n, .int .i64 x.to.d, .int .i64 x.bn, .int .i64 x.bd, .int .i64 x.sn, .int .i64 x.sd] 73))
  have HL0 := Lib.hid (HL.out.below HB0.out)
  have ZV0 := Lib.hid (show (w.alloc (.cells #[.bool x.fr.op, .int .i64 x.fr.n, .int .i64 x.fr.d, .bool x.to.op, .int .i64 x.to.n, .int .i64 x.to.d, .int .i64 x.bn, .int .i64 x.bd, .int .i64 x.sn, .int .i64 x.sd] 73)).heap.size = w.heap.size + 1 from by simp)
  generalize (w.alloc (.cells #[.bool x.fr.op, .int .i64 x.fr.n, .int .i64 x.fr.d, .bool x.to.op, .int .i64 x.to.n, .int .i64 x.to.d, .int .i64 x.bn, .int .i64 x.bd, .int .i64 x.sn, .int .i64 x.sd] 73)) = V0 at *
  go_wp2_with (at_builtin; refine list_appQ rfl (.tmp 7) (.tmp 8) rfl V0.heap.size (.slice (some ⟨V0.heap.size, 0, none⟩) 0 0) [] L rfl (pc_empty V0 _ _ rfl (Nat.le_refl _)) (fun e => by cases e) A L.length c rfl rfl HA0.out (fun ad e => by obtain ⟨g, rfl, _⟩ := HAd.out ad e; subst e; exact PcOwn.lies (PcOwn.below HL0.out ((Below.refl _ _).alloc (Nat.le_refl _) _))) (by simp; omega) (by simp) ?_; intro g cap w1 hown1 hg1 hat1 hlt1; simp only [List.length_nil, Nat.zero_add, List.nil_append] at hown1)
  have z1 := hg1.size
  simp at z1
  have H1 := Lib.hid (((Below.refl V0.heap.size V0).alloc (Nat.le_refl _) (.cells #[] 73)).grown hg1 (by simp) (fun j e => by cases e; exact Nat.le_refl _))
  have HO1 := Lib.hid (PcOwn.mono (b' := w.heap.size) hown1 (by have := ZV0.out; omega))
  have HB1 := Lib.hid (HB0.out.trans (H1.out.mono (by have := ZV0.out; omega)))
  have BX := Lib.hid (BX0.out.next H1.out)
  have zw1 : w.heap.size < w1.heap.size := BX.out.lt
  have hgw : w.heap.size < g := by have := (World.ownsRow.lt hown1 g rfl).1; have := ZV0.out; omega
  clear hown1 hg1 hat1 z1 ZV0 HL0 HB0 BX0 H1
  generalize hbx : w.heap.size = bx at BX
  obtain ⟨n, hn'⟩ : ∃ n, L.length = n := ⟨_, rfl⟩
  have HN := Lib.hid hn'
  rw [hn'] at hn HO1 ⊢
  clear hn'
  go_wp2_with fail
  go_loopw [6] (fun s6 wx => ∃ i : Nat, i ≤ n ∧ s6 = .int .i64 i ∧ Hid (∀ j, j < i → ∀ z, L[j]? = some z → z.line ≠ x.line) ∧ Below w1.heap.size w1 wx) (fun s6 _ => n - (intOf s6).toNat)
  case atStart => exact ⟨0, by omega, rfl, Lib.hid fun j hj => by omega, Below.refl _ _⟩
  case round =>
    obtain ⟨i, hi, rfl, hno, hbel⟩ := hrel
    rename World => U
    have HU := Lib.hid hbel
    have HB := Lib.hid (HB1.out.trans (hbel.mono (by omega)))
    have HOU := Lib.hid (HO1.out.below hbel)
    have BXU := Lib.hid (BX.out.next hbel)
    have zU := hbel.size
    clear hbel
    by_cases hlt : i < n
    · have hiL : i < L.length := by rw [HN.out]; exact hlt
      obtain ⟨g', cap', e', _, _, hcap, hcap2, hat⟩ := HOU.out.at_ hiL
      injection e' with e1 e2 e3
      injection e1 with e1
      injection e1 with e1
      subst e1 e3
      obtain ⟨y, hy⟩ : ∃ y, L[i] = y := ⟨_, rfl⟩
      have HY := Lib.hid (show L[i]? = some y by rw [List.getElem?_eq_getElem hiL, hy])
      rw [hy] at hat
      rw [HN.out] at hcap
      have HAT := Lib.hid (fun u : Wk U => hat.below u.2)
      have HEY := Lib.hid (HE.out y (by rw [← hy]; exact List.getElem_mem hiL))
      have lgU := World.block_lt_of_cell? _ _ hat.c0
      have hi0 : (i : Int) < (n : Int) := by omega
      clear hat hy hiL e2
      have d6 : ∀ u : Wk U, u.1.cell? ⟨g, i * 10 + 6, none⟩ = some (.int .i64 y.bn) := fun u => (HAT.out u).c6
      have d7 : ∀ u : Wk U, u.1.cell? ⟨g, i * 10 + 7, none⟩ = some (.int .i64 y.bd) := fun u => (HAT.out u).c7
      have d8 : ∀ u : Wk U, u.1.cell? ⟨g, i * 10 + 8, none⟩ = some (.int .i64 y.sn) := fun u => (HAT.out u).c8
      have d9 : ∀ u : Wk U, u.1.cell? ⟨g, i * 10 + 9, none⟩ = some (.int .i64 y.sd) := fun u => (HAT.out u).c9
      have q6 : ∀ u : Wk U, u.1.cell? ⟨bx, 6, none⟩ = some (.int .i64 x.bn) := fun u => (BXU.out.next u.2).cell 6
      have q7 : ∀ u : Wk U, u.1.cell? ⟨bx, 7, none⟩ = some (.int .i64 x.bd) := fun u => (BXU.out.next u.2).cell 7
      have q8 : ∀ u : Wk U, u.1.cell? ⟨bx, 8, none⟩ = some (.int .i64 x.sn) := fun u => (BXU.out.next u.2).cell 8
      have q9 : ∀ u : Wk U, u.1.cell? ⟨bx, 9, none⟩ = some (.int .i64 x.sd) := fun u => (BXU.out.next u.2).cell 9
      by_cases hln : y.line = x.line
      · have hl := hln
        unfold PC.line at hl
        simp only [Prod.mk.injEq] at hl
        obtain ⟨h1, h2, h3, h4⟩ := hl
        have HLN := Lib.hid hln
        clear hln
        go_wp2_with fail
        refine wk_region (by kernel_rfl) (by kernel_rfl) ?_
        repeat (go_big_quiet_step (fail))
        refine wpQuiet_nil ?_
        rintro w7 ⟨u7, rfl⟩
        have HU7 := Lib.hid u7.2
        have BX7 := Lib.hid (BXU.out.next HU7.out)
        have HO7 := Lib.hid (HOU.out.below HU7.out)
        have HAT7 := Lib.hid (HAT.out u7)
        have HB7 := Lib.hid (HB.out.trans (HU7.out.mono (by omega)))
        have zU7 := HU7.out.size
        obtain ⟨U7, hU7⟩ : ∃ U7, u7.1 = U7 := ⟨_, rfl⟩
        rw [hU7] at HU7 BX7 HO7 HAT7 HB7 zU7 ⊢
        clear hU7 u7 d6 d7 d8 d9 q6 q7 q8 q9 HAT HOU BXU
        go_wp2_with fail
        obtain ⟨nf, hnf⟩ : ∃ nf, lowR y.fr x.fr = nf := ⟨_, rfl⟩
        obtain ⟨nt, hnt⟩ : ∃ nt, highR y.to x.to = nt := ⟨_, rfl⟩
        have HLO := Lib.hid (fun u : World => show Calls Try.prog 108 #[.agg #[.bool y.fr.op, .int .i64 y.fr.n, .int .i64 y.fr.d], .agg #[.bool x.fr.op, .int .i64 x.fr.n, .int .i64 x.fr.d]] u (fun e w' => e = .returned (.agg #[.bool nf.op, .int .i64 nf.n, .int .i64 nf.d]) ∧ Below u.heap.size u w') from by
          have := low_lem y.fr.op y.fr.n y.fr.d x.fr.op x.fr.n x.fr.d u HEY.out.1 HX.out.1
          rw [show lowR ⟨y.fr.op, y.fr.n, y.fr.d⟩ ⟨x.fr.op, x.fr.n, x.fr.d⟩ = nf from hnf] at this
          exact this)
        have HHI := Lib.hid (fun u : World => show Calls Try.prog 109 #[.agg #[.bool y.to.op, .int .i64 y.to.n, .int .i64 y.to.d], .agg #[.bool x.to.op, .int .i64 x.to.n, .int .i64 x.to.d]] u (fun e w' => e = .returned (.agg #[.bool nt.op, .int .i64 nt.n, .int .i64 nt.d]) ∧ Below u.heap.size u w') from by
          have := high_lem y.to.op y.to.n y.to.d x.to.op x.to.n x.to.d u HEY.out.2 HX.out.2
          rw [show highR ⟨y.to.op, y.to.n, y.to.d⟩ ⟨x.to.op, x.to.n, x.to.d⟩ = nt from hnt] at this
          exact this)
        have HNF := Lib.hid (And.intro hnf hnt)
        clear hnf hnt
        have t0 : ∀ u : Wk U7, u.1.cell? ⟨g, i * 10, none⟩ = some (.bool y.fr.op) := fun u => (HAT7.out.below u.2).c0
        have t1 : ∀ u : Wk U7, u.1.cell? ⟨g, i * 10 + 1, none⟩ = some (.int .i64 y.fr.n) := fun u => (HAT7.out.below u.2).c1
        have t2 : ∀ u : Wk U7, u.1.cell? ⟨g, i * 10 + 2, none⟩ = some (.int .i64 y.fr.d) := fun u => (HAT7.out.below u.2).c2
        have f0 : ∀ u : Wk U7, u.1.frozen? ⟨g, i * 10, none⟩ = false := fun u => (HO7.out.below u.2).frozen _
        have f1 : ∀ u : Wk U7, u.1.frozen? ⟨g, i * 10 + 1, none⟩ = false := fun u => (HO7.out.below u.2).frozen _
        have f2 : ∀ u : Wk U7, u.1.frozen? ⟨g, i * 10 + 2, none⟩ = false := fun u => (HO7.out.below u.2).frozen _
        have q0 : ∀ u : Wk U7, u.1.cell? ⟨bx, 0, none⟩ = some (.bool x.fr.op) := fun u => (BX7.out.next u.2).cell 0
        have q1 : ∀ u : Wk U7, u.1.cell? ⟨bx, 1, none⟩ = some (.int .i64 x.fr.n) := fun u => (BX7.out.next u.2).cell 1
        have q2 : ∀ u : Wk U7, u.1.cell? ⟨bx, 2, none⟩ = some (.int .i64 x.fr.d) := fun u => (BX7.out.next u.2).cell 2
        refine wk_tail 12 (by kernel_rfl) (by kernel_rfl) ?_
        simp only [List.take_succ_cons, List.take_zero, List.drop_succ_cons, List.drop_zero]
        repeat (go_big_quiet_step ((go_at_call 108; with_reducible exact wk_call (HLO.out _))))
        refine wpQuiet_nil ?_
        rintro w8 ⟨u8, rfl⟩
        go_wp2_with fail
        have HU8 := Lib.hid u8.2
        have hne : bx ≠ g := by omega
        have HO8 := Lib.hid (own_putK (own_putK (own_putK (show u8.1.ownsRow w.heap.size 73 10 (.slice (some ⟨g, 0, none⟩) n cap) n (pcsC L) from by
          have := HO7.out.below HU8.out
          unfold PcOwn at this
          rwa [HN.out] at this) (i * 10) (.bool nf.op)) (i * 10 + 1) (.int .i64 nf.n)) (i * 10 + 2) (.int .i64 nf.d))
        have BX8 := Lib.hid ((((BX7.out.next HU8.out).far (.bool nf.op) (show bx ≠ (⟨g, i * 10, none⟩ : Addr).block from hne)).far (.int .i64 nf.n) (show bx ≠ (⟨g, i * 10 + 1, none⟩ : Addr).block from hne)).far (.int .i64 nf.d) (show bx ≠ (⟨g, i * 10 + 2, none⟩ : Addr).block from hne))
        have HB8 := Lib.hid ((((HB7.out.trans (HU8.out.mono (by omega))).setCell (p := ⟨g, i * 10, none⟩) (by simp; omega) (.bool nf.op)).setCell (p := ⟨g, i * 10 + 1, none⟩) (by simp; omega) (.int .i64 nf.n)).setCell (p := ⟨g, i * 10 + 2, none⟩) (by simp; omega) (.int .i64 nf.d))
        have z8 : U7.heap.size ≤ (((u8.1.setCell ⟨g, i * 10, none⟩ (.bool nf.op)).setCell ⟨g, i * 10 + 1, none⟩ (.int .i64 nf.n)).setCell ⟨g, i * 10 + 2, none⟩ (.int .i64 nf.d)).heap.size := by simpa using HU8.out.size
        clear t0 t1 t2 f0 f1 f2 q0 q1 q2
        obtain ⟨U8, hU8⟩ : ∃ U8, ((u8.1.setCell ⟨g, i * 10, none⟩ (.bool nf.op)).setCell ⟨g, i * 10 + 1, none⟩ (.int .i64 nf.n)).setCell ⟨g, i * 10 + 2, none⟩ (.int .i64 nf.d) = U8 := ⟨_, rfl⟩
        rw [hU8] at HO8 BX8 HB8 z8 ⊢
        clear hU8 HU8 u8
        obtain ⟨xs, hxs⟩ : ∃ xs, (((pcsC L).set (i * 10) (.bool nf.op)).set (i * 10 + 1) (.int .i64 nf.n)).set (i * 10 + 2) (.int .i64 nf.d) = xs := ⟨_, rfl⟩
        have hiL : i < L.length := by rw [HN.out]; exact hlt
        have hxe : ∀ j, 3 ≤ j → j < 10 → xs[i * 10 + j]? = (pcC y)[j]? := fun j hj hj2 => by
          rw [← hxs, List.getElem?_set_ne (by omega), List.getElem?_set_ne (by omega), List.getElem?_set_ne (by omega), pcsC_at hiL hj2]
          have := HY.out
          rw [List.getElem?_eq_getElem hiL] at this
          injection this with this
          rw [this]
        have HXS := Lib.hid hxs
        rw [hxs] at HO8
        have e3 := hxe 3 (by omega) (by omega)
        have e4 := hxe 4 (by omega) (by omega)
        have e5 := hxe 5 (by omega) (by omega)
        have HE3 := Lib.hid e3
        have HE4 := Lib.hid e4
        have HE5 := Lib.hid e5
        clear hxs hxe e3 e4 e5 hiL
        have HRW := Lib.hid (fun u : Wk U8 => own_below HO8.out u.2)
        have t0 : ∀ u : Wk U8, u.1.cell? ⟨g, i * 10 + 3, none⟩ = some (.bool y.to.op) := fun u => row_cell (HRW.out u) HE3.out
        have t1 : ∀ u : Wk U8, u.1.cell? ⟨g, i * 10 + 4, none⟩ = some (.int .i64 y.to.n) := fun u => row_cell (HRW.out u) HE4.out
        have t2 : ∀ u : Wk U8, u.1.cell? ⟨g, i * 10 + 5, none⟩ = some (.int .i64 y.to.d) := fun u => row_cell (HRW.out u) HE5.out
        have f0 : ∀ u : Wk U8, u.1.frozen? ⟨g, i * 10 + 3, none⟩ = false := fun u => row_frozen (HRW.out u) _
        have f1 : ∀ u : Wk U8, u.1.frozen? ⟨g, i * 10 + 4, none⟩ = false := fun u => row_frozen (HRW.out u) _
        have f2 : ∀ u : Wk U8, u.1.frozen? ⟨g, i * 10 + 5, none⟩ = false := fun u => row_frozen (HRW.out u) _
        have q0 : ∀ u : Wk U8, u.1.cell? ⟨bx, 3, none⟩ = some (.bool x.to.op) := fun u => (BX8.out.next u.2).cell 3
        have q1 : ∀ u : Wk U8, u.1.cell? ⟨bx, 4, none⟩ = some (.int .i64 x.to.n) := fun u => (BX8.out.next u.2).cell 4
        have q2 : ∀ u : Wk U8, u.1.cell? ⟨bx, 5, none⟩ = some (.int .i64 x.to.d) := fun u => (BX8.out.next u.2).cell 5
        refine wk_tail 12 (by kernel_rfl) (by kernel_rfl) ?_
        simp only [List.take_succ_cons, List.take_zero, List.drop_succ_cons, List.drop_zero]
        repeat (go_big_quiet_step ((go_at_call 109; with_reducible exact wk_call (HHI.out _))))
        refine wpQuiet_nil ?_
        rintro w9 ⟨u9, rfl⟩
        go_wp2_with fail
        go_ret
        refine ⟨_, rfl, ?_, (((HB8.out.trans (u9.2.mono (by omega))).setCell (by simp; omega) _).setCell (by simp; omega) _).setCell (by simp; omega) _⟩
        have h9 := own_putK (own_putK (own_putK (own_below HO8.out u9.2) (i * 10 + 3) (.bool nt.op)) (i * 10 + 4) (.int .i64 nt.n)) (i * 10 + 5) (.int .i64 nt.d)
        rw [← HXS.out] at h9
        have hiL : i < L.length := by rw [HN.out]; exact hlt
        have hyL : L[i] = y := by
          have := HY.out
          rw [List.getElem?_eq_getElem hiL] at this
          injection this
        rw [join_at hno.out HY.out HLN.out, HNF.out.1, HNF.out.2]
        have h6 := pcsC_set6 hiL nf nt
        rw [hyL] at h6
        unfold set6 at h6
        rw [h6] at h9
        unfold PcOwn
        rw [List.length_set, HN.out]
        exact h9
      · have HNO := Lib.hid (show ∀ j, j < i + 1 → ∀ z, L[j]? = some z → z.line ≠ x.line from fun j hj z hz => by
          by_cases e : j = i
          · subst e; rw [HY.out] at hz; injection hz with hz; subst hz; exact hln
          · exact hno.out j (by omega) z hz)
        have HNL := Lib.hid hln
        clear hln
        go_wp2_with fail
        by_cases hb : y.bn = x.bn ∧ y.bd = x.bd
        · obtain ⟨h1, h2⟩ := hb
          by_cases hs : y.sn = x.sn
          · have hd : y.sd ≠ x.sd := fun e => HNL.out (by unfold PC.line; rw [h1, h2, hs, e])
            refine wk_region (by kernel_rfl) (by kernel_rfl) ?_
            repeat (go_big_quiet_step (fail))
            refine wpQuiet_nil ?_
            rintro w7 ⟨u7, rfl⟩
            go_wp2_with fail
            go_roundw
            case rel => exact ⟨i + 1, by omega, by go_num, HNO, HU.out.trans (u7.2.mono (by omega))⟩
            case measure => simp [intOf]; omega
          · skip
            refine wk_region (by kernel_rfl) (by kernel_rfl) ?_
            repeat (go_big_quiet_step (fail))
            refine wpQuiet_nil ?_
            rintro w7 ⟨u7, rfl⟩
            go_wp2_with fail
            go_roundw
            case rel => exact ⟨i + 1, by omega, by go_num, HNO, HU.out.trans (u7.2.mono (by omega))⟩
            case measure => simp [intOf]; omega
        · by_cases h1 : y.bn = x.bn
          · have h2 : y.bd ≠ x.bd := fun e => hb ⟨h1, e⟩
            clear hb
            refine wk_region (by kernel_rfl) (by kernel_rfl) ?_
            repeat (go_big_quiet_step (fail))
            refine wpQuiet_nil ?_
            rintro w7 ⟨u7, rfl⟩
            go_wp2_with fail
            go_roundw
            case rel => exact ⟨i + 1, by omega, by go_num, HNO, HU.out.trans (u7.2.mono (by omega))⟩
            case measure => simp [intOf]; omega
          · clear hb
            refine wk_region (by kernel_rfl) (by kernel_rfl) ?_
            repeat (go_big_quiet_step (fail))
            refine wpQuiet_nil ?_
            rintro w7 ⟨u7, rfl⟩
            go_wp2_with fail
            go_roundw
            case rel => exact ⟨i + 1, by omega, by go_num, HNO, HU.out.trans (u7.2.mono (by omega))⟩
            case measure => simp [intOf]; omega
    · obtain rfl : i = n := by omega
      have HJN := Lib.hid (show joinG lowR highR L x = L ++ [x] from join_new fun y hy => by
        obtain ⟨j, hj, rfl⟩ := List.mem_iff_getElem.1 hy
        exact hno.out j (by have := HN.out; omega) _ (List.getElem?_eq_getElem hj))
      have q0 : U.cell? ⟨bx, 0, none⟩ = some (.bool x.fr.op) := BXU.out.cell 0
      have q1 : U.cell? ⟨bx, 1, none⟩ = some (.int .i64 x.fr.n) := BXU.out.cell 1
      have q2 : U.cell? ⟨bx, 2, none⟩ = some (.int .i64 x.fr.d) := BXU.out.cell 2
      have q3 : U.cell? ⟨bx, 3, none⟩ = some (.bool x.to.op) := BXU.out.cell 3
      have q4 : U.cell? ⟨bx, 4, none⟩ = some (.int .i64 x.to.n) := BXU.out.cell 4
      have q5 : U.cell? ⟨bx, 5, none⟩ = some (.int .i64 x.to.d) := BXU.out.cell 5
      have q6 : U.cell? ⟨bx, 6, none⟩ = some (.int .i64 x.bn) := BXU.out.cell 6
      have q7 : U.cell? ⟨bx, 7, none⟩ = some (.int .i64 x.bd) := BXU.out.cell 7
      have q8 : U.cell? ⟨bx, 8, none⟩ = some (.int .i64 x.sn) := BXU.out.cell 8
      have q9 : U.cell? ⟨bx, 9, none⟩ = some (.int .i64 x.sd) := BXU.out.cell 9
      go_wp2_with (at_builtin; refine list_appQ rfl (.tmp 59) (.tmp 61) rfl w.heap.size (.slice (some ⟨g, 0, none⟩) i cap) L [x] rfl (PcOwn.below HOU.out ((Below.refl _ _).alloc (Nat.le_refl _) _)) (fun e => by cases e) _ 1 1 rfl rfl (fun e => by cases e) (fun ad e => by cases e; simpa [pcsC] using pc_new' U x) (by have := HN.out; omega) (by have := HB.out.size; simp; omega) ?_; intro g9 cap9 w9 hown9 hg9 hat9 hlt9)
      go_ret
      refine ⟨_, rfl, ?_, ((HB.out.alloc HB.out.size (.cells (pcC x).toArray 73)).grown hg9 (by have := HB.out.size; simp; omega) (fun j e => by cases e; show w.heap.size ≤ g; omega))⟩
      rw [HJN.out]
      exact hown9
end Go.Proofs.Ytjcdkbalhleeeab

namespace Go.Proofs.Ytjcdkbalhleeeab

/-- The lines of the first k columns, as the document joins them. -/
def docK (p : PG) (b : List Int) (k : Nat) : List PC := grpF lowR highR p b ((allA p).take k)
theorem docK_succ {p : PG} {b : List Int} {k : Nat} (hk : k < (allA p).length) : docK p b (k + 1) = if goodB p b ((allA p).getD k []) = true then joinG lowR highR (docK p b k) (pcZ p b ((allA p).getD k [])) else docK p b k := by
  unfold docK
  rw [List.take_succ_eq_append_getElem hk, grpF_snoc]
  simp [List.getD, List.getElem?_eq_getElem hk]
theorem docK_all {p : PG} {b : List Int} : docK p b (allA p).length = grpF lowR highR p b (allA p) := by unfold docK; rw [List.take_length]
theorem docK_len {p : PG} {b : List Int} (hm : mayPB p = true) (k : Nat) : (docK p b k).length ≤ 100 := by
  have h1 := grpF_len (lo := lowR) (hi := highR) (p := p) (b := b) ((allA p).take k)
  have h2 : ((allA p).take k).length ≤ (allA p).length := List.length_take_le' _ _
  have h3 := (all_parts hm).1
  unfold docK
  omega
theorem docK_eb {p : PG} {b : List Int} (hb : By p b) (k : Nat) : ∀ y ∈ docK p b k, EB y.fr ∧ EB y.to := fun y hy => by
  have hG := grpF_on lowR_ok highR_ok hb _ (ls := (allA p).take k) rfl
  obtain ⟨l, ⟨_, g1⟩, _, f1⟩ := hG.fr y hy
  obtain ⟨l2, ⟨_, g2⟩, _, f2⟩ := hG.to y hy
  exact ⟨by rw [f1]; exact fine_eb (good_fine hb g1).1, by rw [f2]; exact fine_eb (good_fine hb g2).2⟩
theorem good_eb {p : PG} {b : List Int} (hb : By p b) {l : List Nat} (h : goodB p b l = true) : EB (pcZ p b l).fr ∧ EB (pcZ p b l).to := by
  have := good_fine hb (goodB_iff.1 h)
  exact ⟨fine_eb this.1, fine_eb this.2⟩
theorem some_spW {p : PG} {b : List Int} {l : List Nat} (hb : By p b) (h : Bs p l) : someZ (costsN p (ints l) b) = decide (endsE (spW p b l) = 0) := by
  have e : costsN p (ints l) b = spW p b l := rfl
  rw [e]
  have := ends_some (spW_ok hb h)
  by_cases h0 : endsE (spW p b l) = 0
  · rw [this.1 h0]; simp [h0]
  · rw [decide_eq_false h0]
    cases hs : someZ (spW p b l) with
    | false => rfl
    | true => exact absurd (this.2 hs) h0
theorem tw_at {f : PC → Bool} : ∀ {L : List PC} {j : Nat}, (∀ q, q < j → ∀ z, L[q]? = some z → f z = true) → j ≤ L.length → (∀ z, L[j]? = some z → f z = false) → L.takeWhile f = L.take j ∧ L.dropWhile f = L.drop j
  | [], j, _, _, _ => by simp
  | x :: L, 0, _, _, h => by
    have := h x rfl
    simp [this]
  | x :: L, j + 1, hq, hl, h => by
    have h0 := hq 0 (by omega) x rfl
    obtain ⟨i1, i2⟩ := tw_at (f := f) (L := L) (j := j) (fun q hq' z hz => hq (q + 1) (by omega) z (by simpa using hz)) (by simpa using hl) (fun z hz => h z (by simpa using hz))
    simp [h0, i1, i2]
theorem sort_sub {P : List PC} {k : Nat} {z : PC} (h : z ∈ sortP ((P.take k).filter fun x => !pointB x)) : z ∈ P := by
  have := (sortP_perm _).mem_iff.1 h
  rw [List.mem_filter] at this
  exact List.mem_of_mem_take this.1
theorem sort_len {P : List PC} {k : Nat} : (sortP ((P.take k).filter fun x => !pointB x)).length ≤ P.length := by
  rw [(sortP_perm _).length_eq]
  exact Nat.le_trans (List.length_filter_le _ _) (List.length_take_le' _ _)
end Go.Proofs.Ytjcdkbalhleeeab

namespace Go.Proofs.Ytjcdkbalhleeeab
open Go.RowKit

theorem run_appQ {w : World} (ty : TypeId) (base : Nat) (v : Value) (L M : List PC) (hown : PcOwn w base v L) (hv : v ≠ .slice none 0 0)
    (A : Option Addr) (m c : Nat) (hm : M.length = m) (h0 : A = none → m = 0 ∧ c = 0) (hb : ∀ ad, A = some ad → ∀ (j : Nat) (u : Value), (pcsC M)[j]? = some u → w.cell? (ad.add j) = some u)
    (hn : L.length + m ≤ 100000) (hbase : base ≤ w.heap.size) :
    ∃ g cap w', (Builtin.append_ #[49, 49] ty #[v, .slice A m c]).run Try.prog w = .ok (.slice (some ⟨g, 0, none⟩) (L.length + m) cap) w' ∧
      PcOwn w' base (.slice (some ⟨g, 0, none⟩) (L.length + m) cap) (L ++ M) ∧ w.grownBy w' v.ownBlock ∧ (v.ownBlock = some g ∨ g = w.heap.size) ∧ g < w'.heap.size := by
  obtain ⟨i, hi, hz0, hz1, hz2⟩ := info_parts inf_piece
  have hfin : ∀ g cap w', w'.ownsRow base 73 10 (.slice (some ⟨g, 0, none⟩) (L.length + m) cap) (L.length + m) (pcsC L ++ pcsC M) → PcOwn w' base (.slice (some ⟨g, 0, none⟩) (L.length + m) cap) (L ++ M) := fun g cap w' h1 => by
    unfold PcOwn
    rw [pcsC_app, List.length_append, hm]
    exact h1
  have hl : (pcsC M).length = m * 10 := by rw [pcsC_len, hm]
  by_cases hm0 : m = 0
  · subst hm0
    obtain rfl : M = [] := List.eq_nil_of_length_eq_zero hm
    have hown' := hown
    rcases hown.2 with ⟨rfl, hn⟩ | ⟨g, cap, cur, rfl, hb', hg, hnc, hcm, hcs, htake⟩
    · exact absurd rfl hv
    · have hlt := (World.ownsRow.lt hown g rfl).2
      cases A with
      | none =>
        obtain ⟨_, rfl⟩ := h0 rfl
        refine ⟨g, cap, w, ?_, by simpa using hown', World.grownBy.refl _ _, .inl rfl, hlt⟩
        simpa using run_append_owned_none (P := Try.prog) w base 49 ty 73 i 10 und_pieces hi _ _ _ hown'
      | some ad =>
        obtain ⟨w', hr, h2, h3⟩ := run_append_fits (P := Try.prog) w base 49 ty 73 i 10 und_pieces hi hz1 g L.length cap (pcsC L) hown' ad 0 c (pcsC []) hl (hb ad rfl) (pcsC_one []) (by omega)
        exact ⟨g, cap, w', hr, hfin g cap w' h2, h3, .inl rfl, Nat.lt_of_lt_of_le hlt h3.size⟩
  · cases A with
    | none => exact absurd (h0 rfl).1 hm0
    | some ad =>
      obtain ⟨g, cap, w', hr, h2, h3, h4, h5⟩ := run_append_lies (P := Try.prog) w 49 ty base 73 i _ 10 80 und_pieces hi hz0 hz1 hz2 rfl (by omega) v L.length (pcsC L) hown ad m c (pcsC M) hl (hb ad rfl) (pcsC_one M) (by omega) (by unfold maxLen; omega) (by omega) hbase _ rfl
      exact ⟨g, cap, w', hr, hfin g cap w' h2, h3, h4, h5⟩
section
variable {ops : Array Oper} {o : Oper} {a : Act} {w : World} {Q : Exit → Act → World → Prop}
theorem step_appQ {K : Act → World → Prop} {E' : Prop} (hgd : o.guard = none) (s x : Operand)
    (ho : o.op = .call { callee := .builtin .append, args := #[s, x], argTypes := #[49, 49] })
    (base : Nat) (v : Value) (L M : List PC) (hs : a.eval s = v) (hown : PcOwn w base v L) (hv : v ≠ .slice none 0 0)
    (A : Option Addr) (m c : Nat) (hx : a.eval x = .slice A m c) (hm : M.length = m) (h0 : A = none → m = 0 ∧ c = 0) (hb : ∀ ad, A = some ad → ∀ (j : Nat) (u : Value), (pcsC M)[j]? = some u → w.cell? (ad.add j) = some u)
    (hn : L.length + m ≤ 100000) (hbase : base ≤ w.heap.size)
    (h : ∀ g cap w', PcOwn w' base (.slice (some ⟨g, 0, none⟩) (L.length + m) cap) (L ++ M) → w.grownBy w' v.ownBlock → (v.ownBlock = some g ∨ g = w.heap.size) → g < w'.heap.size → K (a.put o.dst (.slice (some ⟨g, 0, none⟩) (L.length + m) cap)) w') :
    if Region.wanted o (yielded ops a.tmps) = true then Oper.wp Try.prog o a w K Q else E' := by
  rw [if_pos (by simp [Region.wanted, hgd])]
  obtain ⟨g, cap, w', hr, h1, h2, h3, h4⟩ := run_appQ o.type base v L M hown hv A m c hm h0 hb hn hbase
  exact Go.Lib.wp_append_run w s x _ _ ho v _ hs hx _ w' hr (h g cap w' h1 h2 h3 h4)
end
/-- The cells of a part. -/
theorem pcsC_drop (L : List PC) (j : Nat) : pcsC (L.drop j) = (pcsC L).drop (j * 10) := by
  by_cases h : j ≤ L.length
  · have e : pcsC L = pcsC (L.take j) ++ pcsC (L.drop j) := by rw [← pcsC_app, List.take_append_drop]
    have hl : (pcsC (L.take j)).length = j * 10 := by rw [pcsC_len, List.length_take, Nat.min_eq_left h]
    rw [e, ← hl, List.drop_left]
  · rw [List.drop_eq_nil_of_le (by omega), List.drop_eq_nil_of_le (by rw [pcsC_len]; omega)]
    rfl
theorem part_lies {w : World} {base g n cap : Nat} {L : List PC} (h : PcOwn w base (.slice (some ⟨g, 0, none⟩) n cap) L) (j : Nat) : ∀ (q : Nat) (u : Value), (pcsC (L.drop j))[q]? = some u → w.cell? ((⟨g, j * 10, none⟩ : Addr).add q) = some u := fun q u hu => by
  rw [pcsC_drop, List.getElem?_drop] at hu
  have := h.lies _ u hu
  have e1 : ∀ b o q, (⟨b, o, none⟩ : Addr).add q = ⟨b, o + q, none⟩ := fun b o q => Addr.add_lit b o q
  rw [e1] at this ⊢
  rwa [Nat.zero_add] at this
theorem take_lies {w : World} {base g n cap : Nat} {L : List PC} (h : PcOwn w base (.slice (some ⟨g, 0, none⟩) n cap) L) (j : Nat) : ∀ (q : Nat) (u : Value), (pcsC (L.take j))[q]? = some u → w.cell? ((⟨g, 0, none⟩ : Addr).add q) = some u := fun q u hu => by
  refine h.lies q u ?_
  have e : pcsC L = pcsC (L.take j) ++ pcsC (L.drop j) := by rw [← pcsC_app, List.take_append_drop]
  rw [e, List.getElem?_append_left (List.getElem?_eq_some_iff.1 hu).1]
  exact hu
end Go.Proofs.Ytjcdkbalhleeeab
