/-
  Contracts of functions and plain laws that later parts of the proof use. The conditions stand in each theorem.
-/
import Derived.Test.YtjcdkbalhleeeaaGreatDoorG10
import Derived.Test.YtjcdkbalhleeeaaGreatDoorG12
import Derived.Test.YtjcdkbalhleeeaaGreatDoorG04
import Derived.Deep.DeepCutAuto
namespace Go.Proofs.YtjcdkbalhleeeaaGreatDoor
open Go.RowKit

/-- An end is handed back. -/
def RetE1 (w : World) (a : EN) (e : Ending) (w' : World) : Prop := e = .returned (.agg #[.bool a.op, .int .i64 a.n, .int .i64 a.d]) ∧ Below w.heap.size w w'
theorem und_lem (ao : Bool) (an ad : Int) (co : Bool) (cn cd : Int) (w : World) :
    Calls Tryz.prog 98 #[.agg #[.bool ao, .int .i64 an, .int .i64 ad], .agg #[.bool co, .int .i64 cn, .int .i64 cd]] w (RetE1 w (undP ⟨ao, an, ad⟩ ⟨co, cn, cd⟩)) := by
  obtain ⟨q, hq⟩ : ∃ q, lessB cn cd an ad = q := ⟨_, rfl⟩
  have HLS := Lib.hid (fun w1 => by have := frac_Less cn cd an ad w1; rw [hq] at this; exact this)
  have hu : undP ⟨ao, an, ad⟩ ⟨co, cn, cd⟩ = if co || (!ao && q) then ⟨co, cn, cd⟩ else ⟨ao, an, ad⟩ := by simp [undP, hq]
  obtain ⟨R, hR⟩ : ∃ R, undP ⟨ao, an, ad⟩ ⟨co, cn, cd⟩ = R := ⟨_, rfl⟩
  rw [hR] at hu ⊢
  have HU := Lib.hid hu
  clear hu hq hR
  go_enter Tryz.func98, Tryz.ntmps98
  go_upto_region 1 with fail
  have B0 := Lib.hid (show Blk (((w.alloc (.cells #[.bool ao, .int .i64 an, .int .i64 ad] 77)).alloc (.cells #[.bool co, .int .i64 cn, .int .i64 cd] 77)).alloc (.cells #[.bool false, .int .i64 0, .int .i64 0] 77)) w.heap.size 77 #[.bool ao, .int .i64 an, .int .i64 ad] from ((Blk.mk' _ _ _).alloc _).alloc _)
  have B1 := Lib.hid (show Blk (((w.alloc (.cells #[.bool ao, .int .i64 an, .int .i64 ad] 77)).alloc (.cells #[.bool co, .int .i64 cn, .int .i64 cd] 77)).alloc (.cells #[.bool false, .int .i64 0, .int .i64 0] 77)) (w.heap.size + 1) 77 #[.bool co, .int .i64 cn, .int .i64 cd] from (Blk.new (w.alloc (.cells #[.bool ao, .int .i64 an, .int .i64 ad] 77)) 77 _ _ (by simp)).alloc _)
  have B2 := Lib.hid (show Blk (((w.alloc (.cells #[.bool ao, .int .i64 an, .int .i64 ad] 77)).alloc (.cells #[.bool co, .int .i64 cn, .int .i64 cd] 77)).alloc (.cells #[.bool false, .int .i64 0, .int .i64 0] 77)) (w.heap.size + 2) 77 #[.bool false, .int .i64 0, .int .i64 0] from Blk.new ((w.alloc (.cells #[.bool ao, .int .i64 an, .int .i64 ad] 77)).alloc (.cells #[.bool co, .int .i64 cn, .int .i64 cd] 77)) 77 _ _ (by simp))
  have HB := Lib.hid ((by (repeat (any_goals (first | exact Below.refl _ _ | refine below_drewN ?_ _ | refine Below.drew ?_ | refine Below.alloc ?_ ?_ _ | refine Below.setCell ?_ ?_ _))); all_goals (first | omega | (simp; done) | (simp; omega))) : Below w.heap.size w (((w.alloc (.cells #[.bool ao, .int .i64 an, .int .i64 ad] 77)).alloc (.cells #[.bool co, .int .i64 cn, .int .i64 cd] 77)).alloc (.cells #[.bool false, .int .i64 0, .int .i64 0] 77)))
  generalize (((w.alloc (.cells #[.bool ao, .int .i64 an, .int .i64 ad] 77)).alloc (.cells #[.bool co, .int .i64 cn, .int .i64 cd] 77)).alloc (.cells #[.bool false, .int .i64 0, .int .i64 0] 77)) = V at *
  have a0 : V.cell? ⟨w.heap.size, 0, none⟩ = some (.bool ao) := (B0.out).cell 0
  have a1 : V.cell? ⟨w.heap.size, 1, none⟩ = some (.int .i64 an) := (B0.out).cell 1
  have a2 : V.cell? ⟨w.heap.size, 2, none⟩ = some (.int .i64 ad) := (B0.out).cell 2
  have c0 : V.cell? ⟨w.heap.size + 1, 0, none⟩ = some (.bool co) := (B1.out).cell 0
  have c1 : V.cell? ⟨w.heap.size + 1, 1, none⟩ = some (.int .i64 cn) := (B1.out).cell 1
  have c2 : V.cell? ⟨w.heap.size + 1, 2, none⟩ = some (.int .i64 cd) := (B1.out).cell 2
  have r0 : V.cell? ⟨w.heap.size + 2, 0, none⟩ = some (.bool false) := (B2.out).cell 0
  have r1 : V.cell? ⟨w.heap.size + 2, 1, none⟩ = some (.int .i64 0) := (B2.out).cell 1
  have r2 : V.cell? ⟨w.heap.size + 2, 2, none⟩ = some (.int .i64 0) := (B2.out).cell 2
  have f0 := (B2.out).frozen 0
  have f1 := (B2.out).frozen 1
  have f2 := (B2.out).frozen 2
  cases co
  · cases ao
    · go_wp2_with fail
      refine (HLS.out _).mono ?_
      rintro e w1 ⟨rfl, hb1⟩
      have HB1 := Lib.hid (HB.out.trans (hb1.mono HB.out.size))
      have D0 := Lib.hid (B0.out.next hb1)
      have D1 := Lib.hid (B1.out.next hb1)
      have D2 := Lib.hid (B2.out.next hb1)
      clear hb1 a0 a1 a2 c0 c1 c2 r0 r1 r2 f0 f1 f2
      have a0 : w1.cell? ⟨w.heap.size, 0, none⟩ = some (.bool false) := (D0.out).cell 0
      have a1 : w1.cell? ⟨w.heap.size, 1, none⟩ = some (.int .i64 an) := (D0.out).cell 1
      have a2 : w1.cell? ⟨w.heap.size, 2, none⟩ = some (.int .i64 ad) := (D0.out).cell 2
      have c0 : w1.cell? ⟨w.heap.size + 1, 0, none⟩ = some (.bool false) := (D1.out).cell 0
      have c1 : w1.cell? ⟨w.heap.size + 1, 1, none⟩ = some (.int .i64 cn) := (D1.out).cell 1
      have c2 : w1.cell? ⟨w.heap.size + 1, 2, none⟩ = some (.int .i64 cd) := (D1.out).cell 2
      have r0 : w1.cell? ⟨w.heap.size + 2, 0, none⟩ = some (.bool false) := (D2.out).cell 0
      have r1 : w1.cell? ⟨w.heap.size + 2, 1, none⟩ = some (.int .i64 0) := (D2.out).cell 1
      have r2 : w1.cell? ⟨w.heap.size + 2, 2, none⟩ = some (.int .i64 0) := (D2.out).cell 2
      have f0 := (D2.out).frozen 0
      have f1 := (D2.out).frozen 1
      have f2 := (D2.out).frozen 2
      cases q
      · go_wp2_with fail
        refine bodyPost_ret (v := .agg #[.bool false, .int .i64 an, .int .i64 ad]) ?_ ?_ ?_
        · simp [results, Tryz.results98, go_sem, a0, a1, a2, c0, c1, c2, r0, r1, r2]
        · rfl
        exact ⟨by rw [HU.out]; rfl, (by (repeat (any_goals (first | exact Below.refl _ _ | exact HB1.out | refine below_drewN ?_ _ | refine Below.drew ?_ | refine Below.alloc ?_ ?_ _ | refine Below.setCell ?_ ?_ _ | refine Below.trans ?_ (Below.mono HB1.out ?_)))); all_goals (first | omega | (simp; done) | (simp; omega) | ((try have z0 := HB1.out.size); (try simp at z0); (try simp); omega)))⟩
      · go_wp2_with fail
        refine bodyPost_ret (v := .agg #[.bool false, .int .i64 cn, .int .i64 cd]) ?_ ?_ ?_
        · simp [results, Tryz.results98, go_sem, a0, a1, a2, c0, c1, c2, r0, r1, r2]
        · rfl
        exact ⟨by rw [HU.out]; rfl, (by (repeat (any_goals (first | exact Below.refl _ _ | exact HB1.out | refine below_drewN ?_ _ | refine Below.drew ?_ | refine Below.alloc ?_ ?_ _ | refine Below.setCell ?_ ?_ _ | refine Below.trans ?_ (Below.mono HB1.out ?_)))); all_goals (first | omega | (simp; done) | (simp; omega) | ((try have z0 := HB1.out.size); (try simp at z0); (try simp); omega)))⟩
    · go_wp2_with fail
      refine bodyPost_ret (v := .agg #[.bool true, .int .i64 an, .int .i64 ad]) ?_ ?_ ?_
      · simp [results, Tryz.results98, go_sem, a0, a1, a2, c0, c1, c2, r0, r1, r2]
      · rfl
      exact ⟨by rw [HU.out]; rfl, (by (repeat (any_goals (first | exact Below.refl _ _ | exact HB.out | refine below_drewN ?_ _ | refine Below.drew ?_ | refine Below.alloc ?_ ?_ _ | refine Below.setCell ?_ ?_ _ | refine Below.trans ?_ (Below.mono HB.out ?_)))); all_goals (first | omega | (simp; done) | (simp; omega) | ((try have z0 := HB.out.size); (try simp at z0); (try simp); omega)))⟩
  · go_wp2_with fail
    refine bodyPost_ret (v := .agg #[.bool true, .int .i64 cn, .int .i64 cd]) ?_ ?_ ?_
    · simp [results, Tryz.results98, go_sem, a0, a1, a2, c0, c1, c2, r0, r1, r2]
    · rfl
    exact ⟨by rw [HU.out]; rfl, (by (repeat (any_goals (first | exact Below.refl _ _ | exact HB.out | refine below_drewN ?_ _ | refine Below.drew ?_ | refine Below.alloc ?_ ?_ _ | refine Below.setCell ?_ ?_ _ | refine Below.trans ?_ (Below.mono HB.out ?_)))); all_goals (first | omega | (simp; done) | (simp; omega) | ((try have z0 := HB.out.size); (try simp at z0); (try simp); omega)))⟩
theorem ovr_lem (ao : Bool) (an ad : Int) (co : Bool) (cn cd : Int) (w : World) :
    Calls Tryz.prog 99 #[.agg #[.bool ao, .int .i64 an, .int .i64 ad], .agg #[.bool co, .int .i64 cn, .int .i64 cd]] w (RetE1 w (ovrP ⟨ao, an, ad⟩ ⟨co, cn, cd⟩)) := by
  obtain ⟨q, hq⟩ : ∃ q, lessB an ad cn cd = q := ⟨_, rfl⟩
  have HLS := Lib.hid (fun w1 => by have := frac_Less an ad cn cd w1; rw [hq] at this; exact this)
  have hu : ovrP ⟨ao, an, ad⟩ ⟨co, cn, cd⟩ = if co || (!ao && q) then ⟨co, cn, cd⟩ else ⟨ao, an, ad⟩ := by simp [ovrP, hq]
  obtain ⟨R, hR⟩ : ∃ R, ovrP ⟨ao, an, ad⟩ ⟨co, cn, cd⟩ = R := ⟨_, rfl⟩
  rw [hR] at hu ⊢
  have HU := Lib.hid hu
  clear hu hq hR
  go_enter Tryz.func99, Tryz.ntmps99
  go_upto_region 1 with fail
  have B0 := Lib.hid (show Blk (((w.alloc (.cells #[.bool ao, .int .i64 an, .int .i64 ad] 77)).alloc (.cells #[.bool co, .int .i64 cn, .int .i64 cd] 77)).alloc (.cells #[.bool false, .int .i64 0, .int .i64 0] 77)) w.heap.size 77 #[.bool ao, .int .i64 an, .int .i64 ad] from ((Blk.mk' _ _ _).alloc _).alloc _)
  have B1 := Lib.hid (show Blk (((w.alloc (.cells #[.bool ao, .int .i64 an, .int .i64 ad] 77)).alloc (.cells #[.bool co, .int .i64 cn, .int .i64 cd] 77)).alloc (.cells #[.bool false, .int .i64 0, .int .i64 0] 77)) (w.heap.size + 1) 77 #[.bool co, .int .i64 cn, .int .i64 cd] from (Blk.new (w.alloc (.cells #[.bool ao, .int .i64 an, .int .i64 ad] 77)) 77 _ _ (by simp)).alloc _)
  have B2 := Lib.hid (show Blk (((w.alloc (.cells #[.bool ao, .int .i64 an, .int .i64 ad] 77)).alloc (.cells #[.bool co, .int .i64 cn, .int .i64 cd] 77)).alloc (.cells #[.bool false, .int .i64 0, .int .i64 0] 77)) (w.heap.size + 2) 77 #[.bool false, .int .i64 0, .int .i64 0] from Blk.new ((w.alloc (.cells #[.bool ao, .int .i64 an, .int .i64 ad] 77)).alloc (.cells #[.bool co, .int .i64 cn, .int .i64 cd] 77)) 77 _ _ (by simp))
  have HB := Lib.hid ((by (repeat (any_goals (first | exact Below.refl _ _ | refine below_drewN ?_ _ | refine Below.drew ?_ | refine Below.alloc ?_ ?_ _ | refine Below.setCell ?_ ?_ _))); all_goals (first | omega | (simp; done) | (simp; omega))) : Below w.heap.size w (((w.alloc (.cells #[.bool ao, .int .i64 an, .int .i64 ad] 77)).alloc (.cells #[.bool co, .int .i64 cn, .int .i64 cd] 77)).alloc (.cells #[.bool false, .int .i64 0, .int .i64 0] 77)))
  generalize (((w.alloc (.cells #[.bool ao, .int .i64 an, .int .i64 ad] 77)).alloc (.cells #[.bool co, .int .i64 cn, .int .i64 cd] 77)).alloc (.cells #[.bool false, .int .i64 0, .int .i64 0] 77)) = V at *
  have a0 : V.cell? ⟨w.heap.size, 0, none⟩ = some (.bool ao) := (B0.out).cell 0
  have a1 : V.cell? ⟨w.heap.size, 1, none⟩ = some (.int .i64 an) := (B0.out).cell 1
  have a2 : V.cell? ⟨w.heap.size, 2, none⟩ = some (.int .i64 ad) := (B0.out).cell 2
  have c0 : V.cell? ⟨w.heap.size + 1, 0, none⟩ = some (.bool co) := (B1.out).cell 0
  have c1 : V.cell? ⟨w.heap.size + 1, 1, none⟩ = some (.int .i64 cn) := (B1.out).cell 1
  have c2 : V.cell? ⟨w.heap.size + 1, 2, none⟩ = some (.int .i64 cd) := (B1.out).cell 2
  have r0 : V.cell? ⟨w.heap.size + 2, 0, none⟩ = some (.bool false) := (B2.out).cell 0
  have r1 : V.cell? ⟨w.heap.size + 2, 1, none⟩ = some (.int .i64 0) := (B2.out).cell 1
  have r2 : V.cell? ⟨w.heap.size + 2, 2, none⟩ = some (.int .i64 0) := (B2.out).cell 2
  have f0 := (B2.out).frozen 0
  have f1 := (B2.out).frozen 1
  have f2 := (B2.out).frozen 2
  cases co
  · cases ao
    · go_wp2_with fail
      refine (HLS.out _).mono ?_
      rintro e w1 ⟨rfl, hb1⟩
      have HB1 := Lib.hid (HB.out.trans (hb1.mono HB.out.size))
      have D0 := Lib.hid (B0.out.next hb1)
      have D1 := Lib.hid (B1.out.next hb1)
      have D2 := Lib.hid (B2.out.next hb1)
      clear hb1 a0 a1 a2 c0 c1 c2 r0 r1 r2 f0 f1 f2
      have a0 : w1.cell? ⟨w.heap.size, 0, none⟩ = some (.bool false) := (D0.out).cell 0
      have a1 : w1.cell? ⟨w.heap.size, 1, none⟩ = some (.int .i64 an) := (D0.out).cell 1
      have a2 : w1.cell? ⟨w.heap.size, 2, none⟩ = some (.int .i64 ad) := (D0.out).cell 2
      have c0 : w1.cell? ⟨w.heap.size + 1, 0, none⟩ = some (.bool false) := (D1.out).cell 0
      have c1 : w1.cell? ⟨w.heap.size + 1, 1, none⟩ = some (.int .i64 cn) := (D1.out).cell 1
      have c2 : w1.cell? ⟨w.heap.size + 1, 2, none⟩ = some (.int .i64 cd) := (D1.out).cell 2
      have r0 : w1.cell? ⟨w.heap.size + 2, 0, none⟩ = some (.bool false) := (D2.out).cell 0
      have r1 : w1.cell? ⟨w.heap.size + 2, 1, none⟩ = some (.int .i64 0) := (D2.out).cell 1
      have r2 : w1.cell? ⟨w.heap.size + 2, 2, none⟩ = some (.int .i64 0) := (D2.out).cell 2
      have f0 := (D2.out).frozen 0
      have f1 := (D2.out).frozen 1
      have f2 := (D2.out).frozen 2
      cases q
      · go_wp2_with fail
        refine bodyPost_ret (v := .agg #[.bool false, .int .i64 an, .int .i64 ad]) ?_ ?_ ?_
        · simp [results, Tryz.results99, go_sem, a0, a1, a2, c0, c1, c2, r0, r1, r2]
        · rfl
        exact ⟨by rw [HU.out]; rfl, (by (repeat (any_goals (first | exact Below.refl _ _ | exact HB1.out | refine below_drewN ?_ _ | refine Below.drew ?_ | refine Below.alloc ?_ ?_ _ | refine Below.setCell ?_ ?_ _ | refine Below.trans ?_ (Below.mono HB1.out ?_)))); all_goals (first | omega | (simp; done) | (simp; omega) | ((try have z0 := HB1.out.size); (try simp at z0); (try simp); omega)))⟩
      · go_wp2_with fail
        refine bodyPost_ret (v := .agg #[.bool false, .int .i64 cn, .int .i64 cd]) ?_ ?_ ?_
        · simp [results, Tryz.results99, go_sem, a0, a1, a2, c0, c1, c2, r0, r1, r2]
        · rfl
        exact ⟨by rw [HU.out]; rfl, (by (repeat (any_goals (first | exact Below.refl _ _ | exact HB1.out | refine below_drewN ?_ _ | refine Below.drew ?_ | refine Below.alloc ?_ ?_ _ | refine Below.setCell ?_ ?_ _ | refine Below.trans ?_ (Below.mono HB1.out ?_)))); all_goals (first | omega | (simp; done) | (simp; omega) | ((try have z0 := HB1.out.size); (try simp at z0); (try simp); omega)))⟩
    · go_wp2_with fail
      refine bodyPost_ret (v := .agg #[.bool true, .int .i64 an, .int .i64 ad]) ?_ ?_ ?_
      · simp [results, Tryz.results99, go_sem, a0, a1, a2, c0, c1, c2, r0, r1, r2]
      · rfl
      exact ⟨by rw [HU.out]; rfl, (by (repeat (any_goals (first | exact Below.refl _ _ | exact HB.out | refine below_drewN ?_ _ | refine Below.drew ?_ | refine Below.alloc ?_ ?_ _ | refine Below.setCell ?_ ?_ _ | refine Below.trans ?_ (Below.mono HB.out ?_)))); all_goals (first | omega | (simp; done) | (simp; omega) | ((try have z0 := HB.out.size); (try simp at z0); (try simp); omega)))⟩
  · go_wp2_with fail
    refine bodyPost_ret (v := .agg #[.bool true, .int .i64 cn, .int .i64 cd]) ?_ ?_ ?_
    · simp [results, Tryz.results99, go_sem, a0, a1, a2, c0, c1, c2, r0, r1, r2]
    · rfl
    exact ⟨by rw [HU.out]; rfl, (by (repeat (any_goals (first | exact Below.refl _ _ | exact HB.out | refine below_drewN ?_ _ | refine Below.drew ?_ | refine Below.alloc ?_ ?_ _ | refine Below.setCell ?_ ?_ _ | refine Below.trans ?_ (Below.mono HB.out ?_)))); all_goals (first | omega | (simp; done) | (simp; omega) | ((try have z0 := HB.out.size); (try simp at z0); (try simp); omega)))⟩
end Go.Proofs.YtjcdkbalhleeeaaGreatDoor
