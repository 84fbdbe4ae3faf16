/-
  Contracts of functions and plain laws that later parts of the proof use. The conditions stand in each theorem.
-/
import Derived.Test.YtjcdkbalhleeeaaGreatDoorG37
import Derived.Test.YtjcdkbalhleeeaaGreatDoorG16
import Derived.Test.YtjcdkbalhleeeaaGreatDoorG04
import Derived.BigQuiet
namespace Go.Proofs.YtjcdkbalhleeeaaGreatDoor
open Go.RowKit

theorem cost_spW {p : PG} {b : List Int} {l : List Nat} (hb : By p b) (h : Bs p l) (h0 : lookE p (ints l) = 0) : costsE p (ints l) b = endsE (spW p b l) ∧ costsF p (ints l) b = endsF (spW p b l) ∧ costsT p (ints l) b = endsT (spW p b l) := by
  have hm : manyB b p.costs.length 400 = true := manyB_iff.2 ⟨hb.small, hb.len⟩
  have e : costsN p (ints l) b = spW p b l := rfl
  refine ⟨?_, ?_, ?_⟩
  · unfold costsE; rw [if_neg (by simp [h0]), if_neg (by simp [hm]), e]
  · unfold costsF; rw [if_neg (by simp [h0]), if_neg (by simp [hm]), e]
  · unfold costsT; rw [if_neg (by simp [h0]), if_neg (by simp [hm]), e]
set_option maxRecDepth 100000 in
theorem walk_Value (A : Option Addr) (c : Nat) (A2 : Option Addr) (c2 : Nat) (p : PG) (X Y G : Option Addr) (cx ny cy ng cg : Nat) (xs : List Int) (xd yd gd : Int) (w : World) (hp : Pg w A c A2 c2 p) (hm : mayPB p = true) (hx : Rd w X cx xs) (h0 : 0 < xs.length) (hn : p.costs.length ≤ xs.length) (hs : smallB 497664 (xs.take p.costs.length) = true) :
    Calls Tryz.prog 97 #[.agg #[.slice A p.costs.length c, .slice A2 p.rows.length c2], .agg #[.slice X xs.length cx, .int .i64 xd, .slice Y ny cy, .int .i64 yd, .slice G ng cg, .int .i64 gd]] w fun e w' =>
      e = .returned (.int .i64 (dot p.costs (xs.take p.costs.length))) ∧ Below w.heap.size w w' := by
  obtain ⟨m1, m2, m3, m4, m5, m6⟩ := mayPB_iff.1 hm
  have HV := Lib.hid (fun u (hu : Below w.heap.size w u) => walk_Variables A c A2 c2 p X Y G cx ny cy ng cg xs xd yd gd u (hp.below hu) (hx.below hu) h0 hn)
  have hlt : (xs.take p.costs.length).length = p.costs.length := by rw [List.length_take]; omega
  have hxt : Rd w X cx (xs.take p.costs.length) := by
    refine ⟨by rw [hlt]; have := hx.le; omega, hx.cap, by rw [hlt]; have := hx.small; omega, fun hl => ?_⟩
    obtain ⟨ad, e, hc⟩ := hx.cells (by simpa using h0)
    refine ⟨ad, e, fun j u hu => hc j u ?_⟩
    rw [List.getElem?_map, List.getElem?_take] at hu
    rw [List.getElem?_map]
    split at hu
    · exact hu
    · simp at hu
  have HD := Lib.hid (fun u (hu : Below w.heap.size w u) => show Calls Tryz.prog 84 #[.slice A p.costs.length c, .slice X p.costs.length cx] u (fun e w' => e = .returned (.int .i64 (dot p.costs (xs.take p.costs.length))) ∧ ∃ n, w' = u.drewN n) from by
    have := layout_Dot A p.costs c X (xs.take p.costs.length) cx 400 497664 u (hp.costs.below hu) (hxt.below hu) (by omega) (by omega) (by omega) m5 hs (by omega)
    rwa [hlt] at this)
  obtain ⟨⟨hl, hc, hsm, _⟩, ⟨hl2, hc2, hsm2, _⟩⟩ := hp
  obtain ⟨hlx, hcx, hsx, _⟩ := hx
  obtain ⟨dv, hdv⟩ : ∃ dv, dot p.costs (xs.take p.costs.length) = dv := ⟨_, rfl⟩
  rw [hdv] at HD ⊢
  clear hdv hm m3 m5 m6 hs hxt hlt
  go_enter Tryz.func97, Tryz.ntmps97
  go_upto_region 1 with fail
  obtain ⟨V1, hV1⟩ : ∃ V1, w.alloc (.cells #[.slice A p.costs.length c, .slice A2 p.rows.length c2] 28) = V1 := ⟨_, rfl⟩
  have b0 : Blk V1 w.heap.size 28 _ := hV1 ▸ Blk.mk' w _ _
  have z1 : V1.heap.size = w.heap.size + 1 := by rw [← hV1]; simp
  have k1 : Below w.heap.size w V1 := by rw [← hV1]; exact (Below.refl _ w).alloc (Nat.le_refl _) _
  rw [hV1]
  clear hV1
  obtain ⟨V, hV⟩ : ∃ V, V1.alloc (.cells #[.slice X xs.length cx, .int .i64 xd, .slice Y ny cy, .int .i64 yd, .slice G ng cg, .int .i64 gd] 64) = V := ⟨_, rfl⟩
  have B0 := Lib.hid (show Blk V w.heap.size 28 _ from hV ▸ b0.alloc _)
  have B1 := Lib.hid (show Blk V (w.heap.size + 1) 64 _ from by rw [← z1]; exact hV ▸ Blk.mk' V1 _ _)
  have HB := Lib.hid (show Below w.heap.size w V by rw [← hV]; exact k1.alloc (by omega) _)
  rw [hV]
  clear hV b0 z1 k1
  clear V1
  have s0 : ∀ u : Wk V, u.1.cell? ⟨w.heap.size, 0, none⟩ = some (.slice A p.costs.length c) := fun u => (B0.out.next u.2).cell 0
  have s1 : ∀ u : Wk V, u.1.cell? ⟨w.heap.size, 1, none⟩ = some (.slice A2 p.rows.length c2) := fun u => (B0.out.next u.2).cell 1
  have c0 : ∀ u : Wk V, u.1.cell? ⟨w.heap.size + 1, 0, none⟩ = some (.slice X xs.length cx) := fun u => (B1.out.next u.2).cell 0
  have c1 : ∀ u : Wk V, u.1.cell? ⟨w.heap.size + 1, 1, none⟩ = some (.int .i64 xd) := fun u => (B1.out.next u.2).cell 1
  have c3 : ∀ u : Wk V, u.1.cell? ⟨w.heap.size + 1, 2, none⟩ = some (.slice Y ny cy) := fun u => (B1.out.next u.2).cell 2
  have c4 : ∀ u : Wk V, u.1.cell? ⟨w.heap.size + 1, 3, none⟩ = some (.int .i64 yd) := fun u => (B1.out.next u.2).cell 3
  have c5 : ∀ u : Wk V, u.1.cell? ⟨w.heap.size + 1, 4, none⟩ = some (.slice G ng cg) := fun u => (B1.out.next u.2).cell 4
  have c6 : ∀ u : Wk V, u.1.cell? ⟨w.heap.size + 1, 5, none⟩ = some (.int .i64 gd) := fun u => (B1.out.next u.2).cell 5
  have HV2 := Lib.hid (fun u : Wk V => HV.out u.1 (HB.out.trans (u.2.mono HB.out.size)))
  have HD2 := Lib.hid (fun u : Wk V => HD.out u.1 (HB.out.trans (u.2.mono HB.out.size)))
  clear HV HD
  refine wk_region (by kernel_rfl) (by kernel_rfl) ?_
  repeat (go_big_quiet_step (first | (go_at_call 35; exact wk_call (HV2.out _)) | (go_at_call 84; exact wk_quiet (HD2.out _))))
  refine wpQuiet_nil ?_
  rintro w2 ⟨u2, rfl⟩
  have HF := Lib.hid (HB.out.trans (u2.2.mono HB.out.size))
  go_wp2_with fail
  go_ret
  exact ⟨rfl, HF.out⟩
end Go.Proofs.YtjcdkbalhleeeaaGreatDoor
