/-
  Contracts of functions and plain laws that later parts of the proof use. The conditions stand in each theorem.
-/
import Derived.Test.YtjcdkbalhleeeaaGreatDoorG06
import Derived.Test.YtjcdkbalhleeeaaGreatDoorG11
import Derived.Sort.Grow
namespace Go.Proofs.YtjcdkbalhleeeaaGreatDoor
open Go.RowKit
theorem gr_of {w w' : World} (h : Below w.heap.size w w') (hd : w.drawn ≤ w'.drawn) : ∃ (q : Nat) (os : Array Obj), w' = Go.Sort.grow (w.drewN q) os := by
 refine ⟨w'.drawn - w.drawn, w'.heap.extract w.heap.size w'.heap.size, ?_⟩
 obtain ⟨heap', tape', drawn', os', output'⟩ := w'
 have e1 : os' = w.os := h.os
 have e2 : tape' = w.tape := h.tape
 have e3 : output' = w.output := h.output
 have hs : w.heap.size ≤ heap'.size := h.size
 have hb : ∀ k, k < w.heap.size → heap'[k]? = w.heap[k]? := h.block
 subst e1 e2 e3
 have e4 : w.drawn + (drawn' - w.drawn) = drawn' := by simp at hd; omega
 have e5 : w.heap ++ heap'.extract w.heap.size heap'.size = heap' := by
  apply Array.ext_getElem?
  intro i
  by_cases hi : i < w.heap.size
  ·rw [Array.getElem?_append_left hi, hb i hi]
  ·rw [Array.getElem?_append_right (by omega)]
   by_cases h2 : i < heap'.size
   ·rw [Array.getElem?_extract, if_pos (by omega)]
    congr 1
    omega
   ·rw [Array.getElem?_extract, if_neg (by omega), Array.getElem?_eq_none (by omega)]
 show World.mk heap' w.tape drawn' w.os w.output = World.mk (w.heap ++ heap'.extract w.heap.size heap'.size) w.tape (w.drawn + (drawn' - w.drawn)) w.os w.output
 rw [e4, e5]
theorem fracG_MayPoint (A : Option Addr) (l : List Int) (c : Nat) (d : Int) (w : World) (hr : Rd w A c l) :
    Calls Tryz.prog 114 #[.agg #[.slice A l.length c, .int .i64 d]] w fun e w' => e = .returned (.bool (mayB l d)) ∧ Below w.heap.size w w' ∧ w.drawn ≤ w'.drawn := by
 have HR := h_ hr
 obtain ⟨hl, hc, hsm, _⟩ := hr
 cases hs : rightB l d with
 | false =>
  have hv : mayB l d = false := by simp [mayB, hs]
  rw [hv]
  clear hv
  go_enter Tryz.func114, Tryz.ntmps114
  go_wp2_with (go_at_call 81; refine (frac_right _ _ _ _ _ (HR.out.alloc _)).mono ?_; rintro e w' ⟨rfl, n', rfl⟩)
  go_ret
  exact ⟨rfl, below_drewN ((Below.refl _ _).alloc (Nat.le_refl _) _) _, by (first | exact Nat.le_add_right _ _ | (show w.drawn ≤ w.drawn + _; omega))⟩
 | true =>
  obtain ⟨d, rfl⟩ : ∃ n : Nat, d = n := ⟨d.toNat, by simp [rightB] at hs; omega⟩
  have hd : d ≤ 4611686018427387904 := by simp [rightB] at hs; omega
  have hz : smallB 4611686018427387904 l = true := by
   rw [smallB_iff]; simp [rightB] at hs; intro n hn; have := smallB_mem hs.2.2.1 hn; omega
  have HZ := h_ hz
  have hv : mayB l d = ((comm d l : Int) == 1) := by rw [Bool.eq_iff_iff]; simp [mayB, hs]; omega
  rw [hv]
  clear hv hz
  go_enter Tryz.func114, Tryz.ntmps114
  go_wp2_with (first
   | (go_at_call 81; refine (frac_right _ _ _ _ _ (HR.out.alloc _)).mono ?_; rintro e w' ⟨rfl, n', rfl⟩)
   | (go_at_call 80; refine (frac_common _ _ _ _ _ hd HZ.out ((HR.out.alloc _).drewN _)).mono ?_; rintro e w' ⟨rfl, n', rfl⟩))
  go_ret
  exact ⟨rfl, below_drewN ((Below.refl _ _).alloc (Nat.le_refl _) _) _, by (first | exact Nat.le_add_right _ _ | (show w.drawn ≤ w.drawn + _; omega))⟩
theorem fracG_MayPoint1 (A : Option Addr) (n : Int) (c : Nat) (d : Int) (w : World) (hr : Rd w A c [n]) :
    Calls Tryz.prog 114 #[.agg #[.slice A 1 c, .int .i64 d]] w fun e w' => e = .returned (.bool (mayB [n] d)) ∧ Below w.heap.size w w' ∧ w.drawn ≤ w'.drawn
    := fracG_MayPoint A [n] c d w hr
theorem fracG_May (a b : Int) (w : World) :
    Calls Tryz.prog 102 #[.agg #[.int .i64 a, .int .i64 b]] w fun e w' => e = .returned (.bool (mayB [a] b)) ∧ Below w.heap.size w w' ∧ w.drawn ≤ w'.drawn := by
 go_enter Tryz.func102, Tryz.ntmps102
 go_wp2_with (go_at_call 114; refine (fracG_MayPoint1 _ _ _ _ _ (by exact Rd.new1 _ _ _ _ (by simp))).mono ?_; rintro e w' ⟨rfl, hb, hdr⟩)
 go_ret
 exact ⟨rfl, (((Below.refl _ _).alloc (Nat.le_refl _) _).alloc (by simp) _).trans (hb.mono (by simp; omega)), by exact hdr⟩
theorem fracG_Less (a b c d : Int) (w : World) :
    Calls Tryz.prog 62 #[.agg #[.int .i64 a, .int .i64 b], .agg #[.int .i64 c, .int .i64 d]] w fun e w' => e = .returned (.bool (lessB a b c d)) ∧ Below w.heap.size w w' ∧ w.drawn ≤ w'.drawn := by
 cases h1 : mayB [a] b with
 | false =>
  have hv : lessB a b c d = false := by simp [lessB, h1]
  rw [hv]
  clear hv
  go_enter Tryz.func62, Tryz.ntmps62
  go_wp2_with fail
  refine (fracG_May _ _ _).mono ?_
  rintro e w' ⟨rfl, hb, hd1⟩
  have HD1 := h_ hd1; clear hd1
  have HB := h_ hb
  clear hb
  go_wp2_with fail
  go_ret
  exact ⟨rfl, (by (repeat (any_goals (first | exact qR _ _ | exact HB.out | refine below_drewN ?_ _ | refine qD ?_ | refine qA ?_ ?_ _ | refine qS ?_ ?_ _ | refine Below.trans ?_ (Below.mono HB.out ?_)))); all_goals (first | omega | (simp; done) | (simp; omega) | ((try have z0 := HB.out.size); (try simp at z0); (try simp); omega))), by (first | exact HD1.out | exact Nat.le_succ_of_le HD1.out)⟩
 | true =>
  cases h2 : mayB [c] d with
  | false =>
   have hv : lessB a b c d = false := by simp [lessB, h2]
   rw [hv]
   clear hv
   go_enter Tryz.func62, Tryz.ntmps62
   go_wp2_with fail
   refine (fracG_May _ _ _).mono ?_
   rintro e w' ⟨rfl, hb, hd1⟩
   have HD1 := h_ hd1; clear hd1
   have hV := (Blk.new (w.alloc (.cells #[.int .i64 a, .int .i64 b] 55)) 55 #[.int .i64 c, .int .i64 d] (w.heap.size + 1) (by simp)).below hb (by simp)
   have hv0 : w'.cell? ⟨w.heap.size + 1, 0, none⟩ = some (.int .i64 c) := hV.cell 0
   have hv1 : w'.cell? ⟨w.heap.size + 1, 1, none⟩ = some (.int .i64 d) := hV.cell 1
   have HB := h_ hb
   clear hb hV
   go_wp2_with fail
   refine (fracG_May _ _ _).mono ?_
   rintro e w2 ⟨rfl, hb, hd2⟩
   have HD2 := h_ hd2; clear hd2
   have HB2 := h_ hb
   clear hb
   go_wp2_with fail
   go_ret
   exact ⟨rfl, (by (repeat (any_goals (first | exact qR _ _ | exact HB.out | exact HB2.out | refine below_drewN ?_ _ | refine qD ?_ | refine qA ?_ ?_ _ | refine qS ?_ ?_ _ | refine Below.trans ?_ (Below.mono HB.out ?_) | refine Below.trans ?_ (Below.mono HB2.out ?_)))); all_goals (first | omega | (simp; done) | (simp; omega) | ((try have z0 := HB.out.size); (try simp at z0); (try have z1 := HB2.out.size); (try simp at z1); (try simp); omega))), by (first | exact Nat.le_trans HD1.out HD2.out | exact Nat.le_succ_of_le (Nat.le_trans HD1.out HD2.out))⟩
  | true =>
   have ha : -1073741824 ≤ a ∧ a ≤ 1073741824 ∧ 1 ≤ b ∧ b ≤ 1073741824 := by
    simp [mayB, rightB, smallB] at h1; omega
   have hc : -1073741824 ≤ c ∧ c ≤ 1073741824 ∧ 1 ≤ d ∧ d ≤ 1073741824 := by
    simp [mayB, rightB, smallB] at h2; omega
   have hv : lessB a b c d = decide (a * d < c * b) := by simp [lessB, h1, h2]
   rw [hv]
   clear hv
   obtain ⟨hm1, hm2⟩ := mul_bound a d 1073741824 1073741824 (by omega) (by omega) (by omega) (by omega)
   obtain ⟨hm3, hm4⟩ := mul_bound c b 1073741824 1073741824 (by omega) (by omega) (by omega) (by omega)
   go_enter Tryz.func62, Tryz.ntmps62
   go_wp2_with fail
   refine (fracG_May _ _ _).mono ?_
   rintro e w' ⟨rfl, hb, hd1⟩
   have HD1 := h_ hd1; clear hd1
   have hV := (Blk.new (w.alloc (.cells #[.int .i64 a, .int .i64 b] 55)) 55 #[.int .i64 c, .int .i64 d] (w.heap.size + 1) (by simp)).below hb (by simp)
   have hU := ((Blk.new w 55 #[.int .i64 a, .int .i64 b] _ rfl).alloc (.cells #[.int .i64 c, .int .i64 d] 55)).below hb (by simp; omega)
   have hv0 : w'.cell? ⟨w.heap.size + 1, 0, none⟩ = some (.int .i64 c) := hV.cell 0
   have hv1 : w'.cell? ⟨w.heap.size + 1, 1, none⟩ = some (.int .i64 d) := hV.cell 1
   have HB := h_ hb
   have HV := h_ hV
   have HU := h_ hU
   clear hb hV hU
   go_wp2_with fail
   refine (fracG_May _ _ _).mono ?_
   rintro e w2 ⟨rfl, hb, hd2⟩
   have HD2 := h_ hd2; clear hd2
   have hV := HV.out.below hb HV.out.lt
   have hU := HU.out.below hb HU.out.lt
   have hx0 : w2.cell? ⟨w.heap.size + 1, 0, none⟩ = some (.int .i64 c) := hV.cell 0
   have hx1 : w2.cell? ⟨w.heap.size + 1, 1, none⟩ = some (.int .i64 d) := hV.cell 1
   have hx2 : w2.cell? ⟨w.heap.size, 0, none⟩ = some (.int .i64 a) := hU.cell 0
   have hx3 : w2.cell? ⟨w.heap.size, 1, none⟩ = some (.int .i64 b) := hU.cell 1
   have HB2 := h_ hb
   clear hb hV hU hv0 hv1
   go_wp2_with fail
   go_ret
   exact ⟨rfl, (by (repeat (any_goals (first | exact qR _ _ | exact HB.out | exact HB2.out | refine below_drewN ?_ _ | refine qD ?_ | refine qA ?_ ?_ _ | refine qS ?_ ?_ _ | refine Below.trans ?_ (Below.mono HB.out ?_) | refine Below.trans ?_ (Below.mono HB2.out ?_)))); all_goals (first | omega | (simp; done) | (simp; omega) | ((try have z0 := HB.out.size); (try simp at z0); (try have z1 := HB2.out.size); (try simp at z1); (try simp); omega))), by (first | exact Nat.le_trans HD1.out HD2.out | exact Nat.le_succ_of_le (Nat.le_trans HD1.out HD2.out))⟩
end Go.Proofs.YtjcdkbalhleeeaaGreatDoor
