/-
  Walks: the document's Above, Below, empty, point, priced, most compute what the plain words say.
-/
import Derived.Test.YtjcdkbalhleeeabJRefA
import Derived.Test.YtjcdkbalhleeeabPrf2
import Derived.Test.YtjcdkbalhleeeabPlainA
namespace Go.Proofs.Ytjcdkbalhleeeab
open Go.RowKit

/-- Are all numbers 0 or below? -/
def nonpos (l : List Int) : Bool := l.all fun n => decide (n ≤ 0)

theorem ref3_Above (A : Option Addr) (l : List Int) (c : Nat) (d : Int) (w : World) (hr : Rd w A c l) :
    Calls Try.prog 14 #[.agg #[.slice A l.length c, .int .i64 d]] w fun e w' => e = .returned (.bool (nonneg l)) ∧ Below w.heap.size w w' := by
  have HR := Lib.hid hr
  obtain ⟨hl, hc, hsm, _⟩ := hr
  go_enter Try.func14, Try.ntmps14
  go_wp2_with fail
  go_loop [3] (fun i => ∃ k : Nat, k ≤ l.length ∧ i = .int .i64 k ∧ nonneg (l.take k) = true) (fun i => l.length - (intOf i).toNat)
  case atStart => exact ⟨0, by omega, rfl, rfl⟩
  case round =>
    obtain ⟨k, hk, rfl, hall⟩ := hrel
    have HA := Lib.hid hall
    clear hall
    by_cases hlt : k < l.length
    · obtain ⟨ad, rfl, hc1⟩ := HR.out.at_ hlt
      have hadl := World.block_lt_of_cell? _ _ hc1
      have hi0 : (k : Int) < (l.length : Int) := by omega
      by_cases hn : l[k] < 0
      · go_wp2_with fail
        go_ret
        exact ⟨ret_bool (by unfold nonneg; rw [all_false hlt (by simp; omega)]), (by (repeat (any_goals (first | exact Below.refl _ _ | refine below_drewN ?_ _ | refine Below.drew ?_ | refine Below.alloc ?_ ?_ _ | refine Below.setCell ?_ ?_ _))); all_goals (first | omega | (simp; done) | (simp; omega)))⟩
      · go_wp2_with fail
        go_round
        case rel => exact ⟨k + 1, by omega, by go_num, by have := HA.out; unfold nonneg at this ⊢; rw [all_take hlt, this]; simp; omega⟩
        case measure => simp [intOf]; omega
    · obtain rfl : k = l.length := by omega
      go_wp2_with fail
      go_ret
      exact ⟨ret_bool (by have := HA.out; rw [List.take_length] at this; rw [this]), (by (repeat (any_goals (first | exact Below.refl _ _ | refine below_drewN ?_ _ | refine Below.drew ?_ | refine Below.alloc ?_ ?_ _ | refine Below.setCell ?_ ?_ _))); all_goals (first | omega | (simp; done) | (simp; omega)))⟩
theorem ref3_Below (A : Option Addr) (l : List Int) (c : Nat) (d : Int) (w : World) (hr : Rd w A c l) :
    Calls Try.prog 74 #[.agg #[.slice A l.length c, .int .i64 d]] w fun e w' => e = .returned (.bool (nonpos l)) ∧ Below w.heap.size w w' := by
  have HR := Lib.hid hr
  obtain ⟨hl, hc, hsm, _⟩ := hr
  go_enter Try.func74, Try.ntmps74
  go_wp2_with fail
  go_loop [3] (fun i => ∃ k : Nat, k ≤ l.length ∧ i = .int .i64 k ∧ nonpos (l.take k) = true) (fun i => l.length - (intOf i).toNat)
  case atStart => exact ⟨0, by omega, rfl, rfl⟩
  case round =>
    obtain ⟨k, hk, rfl, hall⟩ := hrel
    have HA := Lib.hid hall
    clear hall
    by_cases hlt : k < l.length
    · obtain ⟨ad, rfl, hc1⟩ := HR.out.at_ hlt
      have hadl := World.block_lt_of_cell? _ _ hc1
      have hi0 : (k : Int) < (l.length : Int) := by omega
      by_cases hn : l[k] > 0
      · go_wp2_with fail
        go_ret
        exact ⟨ret_bool (by unfold nonpos; rw [all_false hlt (by simp; omega)]), (by (repeat (any_goals (first | exact Below.refl _ _ | refine below_drewN ?_ _ | refine Below.drew ?_ | refine Below.alloc ?_ ?_ _ | refine Below.setCell ?_ ?_ _))); all_goals (first | omega | (simp; done) | (simp; omega)))⟩
      · go_wp2_with fail
        go_round
        case rel => exact ⟨k + 1, by omega, by go_num, by have := HA.out; unfold nonpos at this ⊢; rw [all_take hlt, this]; simp; omega⟩
        case measure => simp [intOf]; omega
    · obtain rfl : k = l.length := by omega
      go_wp2_with fail
      go_ret
      exact ⟨ret_bool (by have := HA.out; rw [List.take_length] at this; rw [this]), (by (repeat (any_goals (first | exact Below.refl _ _ | refine below_drewN ?_ _ | refine Below.drew ?_ | refine Below.alloc ?_ ?_ _ | refine Below.setCell ?_ ?_ _))); all_goals (first | omega | (simp; done) | (simp; omega)))⟩

theorem ref4_empty (A : Option Addr) (l : List Int) (c : Nat) (d : Int) (w : World) (hr : Rd w A c l) :
    Calls Try.prog 69 #[.agg #[.slice A l.length c, .int .i64 d]] w fun e w' => e = .returned (.bool (emptyB l d)) ∧ Below w.heap.size w w' := by
  obtain ⟨hl, hc, hsm, _⟩ := hr
  have hv : emptyB l d = (((l.length : Int) == 0) && (d == 0)) := by rw [Bool.eq_iff_iff]; simp [emptyB]
  rw [hv]
  clear hv
  by_cases h1 : l.length = 0
  · have hz : ((l.length : Int) == 0) = true := by rw [h1]; rfl
    have HZ := Lib.hid hz
    clear h1
    go_enter Try.func69, Try.ntmps69
    go_wp2_with fail
    go_ret
    exact ⟨ret_bool (by rw [HZ.out]; simp), (by (repeat (any_goals (first | exact Below.refl _ _ | refine below_drewN ?_ _ | refine Below.drew ?_ | refine Below.alloc ?_ ?_ _ | refine Below.setCell ?_ ?_ _))); all_goals (first | omega | (simp; done) | (simp; omega)))⟩
  · have hz : ((l.length : Int) == 0) = false := beq_eq_false_iff_ne.2 (by omega)
    have HZ := Lib.hid hz
    go_enter Try.func69, Try.ntmps69
    go_wp2_with fail
    go_ret
    exact ⟨ret_bool (by rw [HZ.out]; simp), (by (repeat (any_goals (first | exact Below.refl _ _ | refine below_drewN ?_ _ | refine Below.drew ?_ | refine Below.alloc ?_ ?_ _ | refine Below.setCell ?_ ?_ _))); all_goals (first | omega | (simp; done) | (simp; omega)))⟩

theorem ref4_point (A : Option Addr) (l : List Int) (c : Nat) (d : Int) (n : Nat) (w : World) (hr : Rd w A c l) :
    Calls Try.prog 71 #[.agg #[.slice A l.length c, .int .i64 d], .int .i64 n] w fun e w' => e = .returned (.bool (aboveB l d n)) ∧ Below w.heap.size w w' := by
  have HR := Lib.hid hr
  obtain ⟨hl, hc, hsm, _⟩ := hr
  cases h1 : mayB l d with
  | false =>
    have hv : aboveB l d n = false := by simp [aboveB, h1]
    rw [hv]
    clear hv
    go_enter Try.func71, Try.ntmps71
    go_wp2_with fail
    refine (ref1_MayPoint _ _ _ _ _ (by exact HR.out.alloc _)).mono ?_
    rintro e w1 ⟨rfl, hb1⟩
    rw [h1]
    have HB1 := Lib.hid hb1
    clear hb1
    go_wp2_with fail
    go_ret
    exact ⟨rfl, (by (repeat (any_goals (first | exact Below.refl _ _ | exact HB1.out | refine below_drewN ?_ _ | refine Below.drew ?_ | refine Below.alloc ?_ ?_ _ | refine Below.setCell ?_ ?_ _ | refine Below.trans ?_ (Below.mono HB1.out ?_)))); all_goals (first | omega | (simp; done) | (simp; omega) | ((try have z0 := HB1.out.size); (try simp at z0); (try simp); omega)))⟩
  | true =>
    by_cases h2 : l.length = n
    · have hv : aboveB l d n = nonneg l := by simp [aboveB, h1, h2]
      rw [hv]
      clear hv
      have hz : ((l.length : Int) == (n : Int)) = true := by simp; omega
      have HZ := Lib.hid h2
      clear h2
      go_enter Try.func71, Try.ntmps71
      go_wp2_with fail
      refine (ref1_MayPoint _ _ _ _ _ (by exact HR.out.alloc _)).mono ?_
      rintro e w1 ⟨rfl, hb1⟩
      rw [h1]
      have Vx0 := Blk.next (Blk.mk' _ _ _) hb1; (try simp only [World.size_alloc, World.size_drew, World.size_setCell, size_drewN'] at Vx0); have Vx := Lib.hid Vx0; clear Vx0; have lVx := Vx.out.lt; have HR := Lib.hid (HR.out.hop (by (repeat (any_goals (first | exact Below.refl _ _ | refine below_drewN ?_ _ | refine Below.drew ?_ | refine Below.alloc ?_ ?_ _ | refine Below.setCell ?_ ?_ _))); all_goals (first | omega | (simp; done) | (simp; omega))) hb1); have zhb1 := hb1.size; (try simp only [World.size_alloc, World.size_drew, World.size_setCell, size_drewN'] at zhb1); have HB1 := Lib.hid hb1; clear hb1
      have k0 : w1.cell? ⟨w.heap.size, 0, none⟩ = some (.slice A l.length c) := Vx.out.cell 0
      have k1 : w1.cell? ⟨w.heap.size, 1, none⟩ = some (.int .i64 d) := Vx.out.cell 1
      go_wp2_with fail
      refine (ref3_Above _ _ _ _ _ HR.out).mono ?_
      rintro e w2 ⟨rfl, hb2⟩
      have HB2 := Lib.hid hb2
      clear hb2
      go_wp2_with fail
      go_ret
      exact ⟨rfl, (by (repeat (any_goals (first | exact Below.refl _ _ | exact HB1.out | exact HB2.out | refine below_drewN ?_ _ | refine Below.drew ?_ | refine Below.alloc ?_ ?_ _ | refine Below.setCell ?_ ?_ _ | refine Below.trans ?_ (Below.mono HB1.out ?_) | refine Below.trans ?_ (Below.mono HB2.out ?_)))); all_goals (first | omega | (simp; done) | (simp; omega) | ((try have z0 := HB1.out.size); (try simp at z0); (try have z1 := HB2.out.size); (try simp at z1); (try simp); omega)))⟩
    · have hv : aboveB l d n = false := by simp [aboveB, h2]
      have hz : ((l.length : Int) == (n : Int)) = false := by simp; omega
      rw [hv]
      clear hv h2
      go_enter Try.func71, Try.ntmps71
      go_wp2_with fail
      refine (ref1_MayPoint _ _ _ _ _ (by exact HR.out.alloc _)).mono ?_
      rintro e w1 ⟨rfl, hb1⟩
      rw [h1]
      have Vx0 := Blk.next (Blk.mk' _ _ _) hb1; (try simp only [World.size_alloc, World.size_drew, World.size_setCell, size_drewN'] at Vx0); have Vx := Lib.hid Vx0; clear Vx0; have lVx := Vx.out.lt; have HR := Lib.hid (HR.out.hop (by (repeat (any_goals (first | exact Below.refl _ _ | refine below_drewN ?_ _ | refine Below.drew ?_ | refine Below.alloc ?_ ?_ _ | refine Below.setCell ?_ ?_ _))); all_goals (first | omega | (simp; done) | (simp; omega))) hb1); have zhb1 := hb1.size; (try simp only [World.size_alloc, World.size_drew, World.size_setCell, size_drewN'] at zhb1); have HB1 := Lib.hid hb1; clear hb1
      have k0 : w1.cell? ⟨w.heap.size, 0, none⟩ = some (.slice A l.length c) := Vx.out.cell 0
      go_wp2_with fail
      go_ret
      exact ⟨rfl, (by (repeat (any_goals (first | exact Below.refl _ _ | exact HB1.out | refine below_drewN ?_ _ | refine Below.drew ?_ | refine Below.alloc ?_ ?_ _ | refine Below.setCell ?_ ?_ _ | refine Below.trans ?_ (Below.mono HB1.out ?_)))); all_goals (first | omega | (simp; done) | (simp; omega) | ((try have z0 := HB1.out.size); (try simp at z0); (try simp); omega)))⟩

/-- A sum in which each number is small. -/
theorem sumN_bound {f g : Nat → Int} (hf : ∀ i, -12 ≤ f i ∧ f i ≤ 12) (hg : ∀ i, -1073741824 ≤ g i ∧ g i ≤ 1073741824) : ∀ n : Nat, -((n : Int) * 12884901888) ≤ sumN (fun i => f i * g i) n ∧ sumN (fun i => f i * g i) n ≤ (n : Int) * 12884901888
  | 0 => by simp [sumN]
  | n + 1 => by
    have := sumN_bound hf hg n
    have h := mul_bound (f n) (g n) 12 1073741824 (hf n).1 (hf n).2 (hg n).1 (hg n).2
    rw [sumN]; push_cast; omega
theorem smallB_getD' {m : Int} {l : List Int} (hm : 0 ≤ m) (h : smallB m l = true) (j : Nat) : -m ≤ l.getD j 0 ∧ l.getD j 0 ≤ m := by
  by_cases hj : j < l.length
  · have := smallB_at h hj; simpa [List.getD, List.getElem?_eq_getElem hj] using this
  · simp [List.getD, List.getElem?_eq_none (Nat.le_of_not_lt hj)]; omega

set_option maxHeartbeats 1000000 in
theorem ref4_priced (A : Option Addr) (c : Nat) (A2 : Option Addr) (c2 : Nat) (p : PG) (Y : Option Addr) (ys : List Int) (cy : Nat) (yd : Int) (j : Nat) (w : World) (hp : Pg w A c A2 c2 p) (hy : Rd w Y cy ys) (hm : mayPB p = true)
    (hs : smallB 1073741824 ys = true) (hlen : ys.length = p.rows.length) (hj : j < p.costs.length) :
    Calls Try.prog 72 #[.agg #[.slice A p.costs.length c, .slice A2 p.rows.length c2], .agg #[.slice Y ys.length cy, .int .i64 yd], .int .i64 j] w fun e w' => e = .returned (.int .i64 (dot (colZ p j) ys)) ∧ Below w.heap.size w w' := by
  rw [dot_col hlen]
  have HP := Lib.hid hp
  have HY := Lib.hid hy
  obtain ⟨⟨hl, hc, hsm, _⟩, ⟨hl2, hc2, hsm2, _⟩⟩ := hp
  obtain ⟨hly, hcy, hsy, _⟩ := hy
  have HM := Lib.hid hm
  have HS := Lib.hid hs
  have HLN := Lib.hid hlen
  have h4 : p.rows.length ≤ 4 := (mayPB_iff.1 hm).2.2.2.1
  have h4' : p.costs.length ≤ 4 := (mayPB_iff.1 hm).2.1
  have HB := Lib.hid (sumN_bound (f := fun i => hasZ p i j) (g := fun i => ys.getD i 0) (fun i => hasZ_bound hm i j) (fun i => smallB_getD' (by omega) hs i))
  clear hm hs hlen
  go_enter Try.func72, Try.ntmps72
  go_wp2_with fail
  have Vp := Lib.hid ((Blk.new w 25 #[.slice A p.costs.length c, .slice A2 p.rows.length c2] _ rfl).alloc (.cells #[.slice Y ys.length cy, .int .i64 yd] 40))
  have Vy := Lib.hid (Blk.new (w.alloc (.cells #[.slice A p.costs.length c, .slice A2 p.rows.length c2] 25)) 40 #[.slice Y ys.length cy, .int .i64 yd] (w.heap.size + 1) (by simp))
  have hW := ((by (repeat (any_goals (first | exact Below.refl _ _ | refine below_drewN ?_ _ | refine Below.drew ?_ | refine Below.alloc ?_ ?_ _ | refine Below.setCell ?_ ?_ _))); all_goals (first | omega | (simp; done) | (simp; omega))) : Below w.heap.size w ((w.alloc (.cells #[.slice A p.costs.length c, .slice A2 p.rows.length c2] 25)).alloc (.cells #[.slice Y ys.length cy, .int .i64 yd] 40)))
  have HPw := Lib.hid (HP.out.below hW)
  have HYw := Lib.hid (HY.out.below hW)
  have HW := Lib.hid hW
  clear hW
  generalize ((w.alloc (.cells #[.slice A p.costs.length c, .slice A2 p.rows.length c2] 25)).alloc (.cells #[.slice Y ys.length cy, .int .i64 yd] 40)) = W at *
  go_loopw [7, 8] (fun s i wr => ∃ k n : Nat, k ≤ p.rows.length ∧ i = .int .i64 k ∧ s = .int .i64 (sumN (fun i => hasZ p i j * ys.getD i 0) k) ∧ wr = W.drewN n)
    (fun _ i _ => p.rows.length - (intOf i).toNat)
  case atStart => exact ⟨0, 0, by omega, rfl, rfl, rfl⟩
  case round =>
    obtain ⟨k, n, hk, rfl, rfl, rfl⟩ := hrel
    have kp1 : W.cell? ⟨w.heap.size, 1, none⟩ = some (.slice A2 p.rows.length c2) := Vp.out.cell 1
    have ky0 : W.cell? ⟨w.heap.size + 1, 0, none⟩ = some (.slice Y ys.length cy) := Vy.out.cell 0
    by_cases hlt : k < p.rows.length
    · obtain ⟨ad, A', c', rfl, hc1, hc2', hr⟩ := HPw.out.rows.at_ hlt
      obtain ⟨hq1, _, hq4⟩ := mayPB_row HM.out hlt
      have hjl : j < p.rows[k].1.length := by omega
      obtain ⟨ad', rfl, he1⟩ := hr.at_ hjl
      have hky : k < ys.length := by have := HLN.out; omega
      obtain ⟨ad2, rfl, hf1⟩ := HYw.out.at_ hky
      have hi0 : (k : Int) < (p.rows.length : Int) := by omega
      have hi1 : (j : Int) < (p.rows[k].1.length : Int) := by omega
      have hi2 : (k : Int) < (ys.length : Int) := by omega
      have hb1 := HB.out k
      have hb2 := HB.out (k + 1)
      have ev1 : p.rows[k].1[j] = hasZ p k j := by rw [hasZ_var hlt hj]; simp [List.getD, List.getElem?_eq_getElem hjl]
      have ev2 : ys[k] = ys.getD k 0 := by simp [List.getD, List.getElem?_eq_getElem hky]
      have hm0 := mul_bound (hasZ p k j) (ys.getD k 0) 12 1073741824 (hasZ_bound HM.out k j).1 (hasZ_bound HM.out k j).2 (smallB_getD' (by omega) HS.out k).1 (smallB_getD' (by omega) HS.out k).2
      rw [ev1] at he1
      rw [ev2] at hf1
      have HSU := Lib.hid (show sumN (fun i => hasZ p i j * ys.getD i 0) (k + 1) = sumN (fun i => hasZ p i j * ys.getD i 0) k + hasZ p k j * ys.getD k 0 from rfl)
      generalize hasZ p k j = h0 at *
      generalize ys.getD k 0 = y0 at *
      generalize sumN (fun i => hasZ p i j * ys.getD i 0) k = s0 at *
      have hw1 : IntKind.i64.wrap (h0 * y0) = h0 * y0 := IntWalk.i64_in _ (by omega)
      have hw2 : IntKind.i64.wrap (s0 + h0 * y0) = s0 + h0 * y0 := IntWalk.i64_in _ (by have := HSU.out; rw [this] at hb2; push_cast at hb2; omega)
      clear hb1 hb2 hm0 ev1 ev2 hr hc2' hq4
      go_wp2_with fail
      go_quiet (fail)
      go_wp2_with fail
      go_roundw
      case rel => exact ⟨k + 1, _, by omega, by go_num, by rw [HSU.out], rfl⟩
      case measure => simp [intOf]; omega
    · obtain rfl : k = p.rows.length := by omega
      go_wp2_with fail
      go_ret
      exact ⟨rfl, (by (repeat (any_goals (first | exact Below.refl _ _ | exact HW.out | refine below_drewN ?_ _ | refine Below.drew ?_ | refine Below.alloc ?_ ?_ _ | refine Below.setCell ?_ ?_ _ | refine Below.trans ?_ (Below.mono HW.out ?_)))); all_goals (first | omega | (simp; done) | (simp; omega) | ((try have z0 := HW.out.size); (try simp at z0); (try simp); omega)))⟩

set_option maxHeartbeats 1000000 in
theorem ref4_most (A : Option Addr) (c : Nat) (A2 : Option Addr) (c2 : Nat) (p : PG) (Y : Option Addr) (ys : List Int) (cy : Nat) (yd : Int) (w : World) (hp : Pg w A c A2 c2 p) (hy : Rd w Y cy ys) (hm : mayPB p = true)
    (hs : smallB 1073741824 ys = true) (hlen : ys.length = p.rows.length) :
    Calls Try.prog 73 #[.agg #[.slice A p.costs.length c, .slice A2 p.rows.length c2], .agg #[.slice Y ys.length cy, .int .i64 yd]] w fun e w' => e = .returned (.int .i64 (dot (mosts p) ys)) ∧ Below w.heap.size w w' := by
  rw [dot_sum (length_mosts p) hlen]
  have HP := Lib.hid hp
  have HY := Lib.hid hy
  obtain ⟨⟨hl, hc, hsm, _⟩, ⟨hl2, hc2, hsm2, _⟩⟩ := hp
  obtain ⟨hly, hcy, hsy, _⟩ := hy
  have HM := Lib.hid hm
  have HS := Lib.hid hs
  have HLN := Lib.hid hlen
  have h4 : p.rows.length ≤ 4 := (mayPB_iff.1 hm).2.2.2.1
  have HMb := Lib.hid (fun i => smallB_getD' (l := mosts p) (m := 12) (by omega) (mosts_small hm) i)
  have HB := Lib.hid (sumN_bound (f := fun i => (mosts p).getD i 0) (g := fun i => ys.getD i 0) HMb.out (fun i => smallB_getD' (by omega) hs i))
  clear hm hs hlen
  go_enter Try.func73, Try.ntmps73
  go_wp2_with fail
  have Vp := Lib.hid ((Blk.new w 25 #[.slice A p.costs.length c, .slice A2 p.rows.length c2] _ rfl).alloc (.cells #[.slice Y ys.length cy, .int .i64 yd] 40))
  have Vy := Lib.hid (Blk.new (w.alloc (.cells #[.slice A p.costs.length c, .slice A2 p.rows.length c2] 25)) 40 #[.slice Y ys.length cy, .int .i64 yd] (w.heap.size + 1) (by simp))
  have hW := ((by (repeat (any_goals (first | exact Below.refl _ _ | refine below_drewN ?_ _ | refine Below.drew ?_ | refine Below.alloc ?_ ?_ _ | refine Below.setCell ?_ ?_ _))); all_goals (first | omega | (simp; done) | (simp; omega))) : Below w.heap.size w ((w.alloc (.cells #[.slice A p.costs.length c, .slice A2 p.rows.length c2] 25)).alloc (.cells #[.slice Y ys.length cy, .int .i64 yd] 40)))
  have HPw := Lib.hid (HP.out.below hW)
  have HYw := Lib.hid (HY.out.below hW)
  have HW := Lib.hid hW
  clear hW
  generalize ((w.alloc (.cells #[.slice A p.costs.length c, .slice A2 p.rows.length c2] 25)).alloc (.cells #[.slice Y ys.length cy, .int .i64 yd] 40)) = W at *
  go_loopw [5, 6] (fun s i wr => ∃ k n : Nat, k ≤ p.rows.length ∧ i = .int .i64 k ∧ s = .int .i64 (sumN (fun i => (mosts p).getD i 0 * ys.getD i 0) k) ∧ wr = W.drewN n)
    (fun _ i _ => p.rows.length - (intOf i).toNat)
  case atStart => exact ⟨0, 0, by omega, rfl, rfl, rfl⟩
  case round =>
    obtain ⟨k, n, hk, rfl, rfl, rfl⟩ := hrel
    have kp1 : W.cell? ⟨w.heap.size, 1, none⟩ = some (.slice A2 p.rows.length c2) := Vp.out.cell 1
    have ky0 : W.cell? ⟨w.heap.size + 1, 0, none⟩ = some (.slice Y ys.length cy) := Vy.out.cell 0
    by_cases hlt : k < p.rows.length
    · obtain ⟨ad, A', c', rfl, hc1, hc2', hr⟩ := HPw.out.rows.at_ hlt
      have hky : k < ys.length := by have := HLN.out; omega
      obtain ⟨ad2, rfl, hf1⟩ := HYw.out.at_ hky
      have hi0 : (k : Int) < (p.rows.length : Int) := by omega
      have hi2 : (k : Int) < (ys.length : Int) := by omega
      have hb1 := HB.out k
      have hb2 := HB.out (k + 1)
      have ev1 : p.rows[k].2 = (mosts p).getD k 0 := by rw [getD_mosts]; simp [List.getD, List.getElem?_eq_getElem hlt]
      have ev2 : ys[k] = ys.getD k 0 := by simp [List.getD, List.getElem?_eq_getElem hky]
      have hm0 := mul_bound ((mosts p).getD k 0) (ys.getD k 0) 12 1073741824 (HMb.out k).1 (HMb.out k).2 (smallB_getD' (by omega) HS.out k).1 (smallB_getD' (by omega) HS.out k).2
      rw [ev1] at hc2'
      rw [ev2] at hf1
      have HSU := Lib.hid (show sumN (fun i => (mosts p).getD i 0 * ys.getD i 0) (k + 1) = sumN (fun i => (mosts p).getD i 0 * ys.getD i 0) k + (mosts p).getD k 0 * ys.getD k 0 from rfl)
      generalize (mosts p).getD k 0 = h0 at *
      generalize ys.getD k 0 = y0 at *
      generalize sumN (fun i => (mosts p).getD i 0 * ys.getD i 0) k = s0 at *
      have hw1 : IntKind.i64.wrap (h0 * y0) = h0 * y0 := IntWalk.i64_in _ (by omega)
      have hw2 : IntKind.i64.wrap (s0 + h0 * y0) = s0 + h0 * y0 := IntWalk.i64_in _ (by have := HSU.out; rw [this] at hb2; push_cast at hb2; omega)
      clear hb1 hb2 hm0 ev1 ev2 hr
      go_wp2_with fail
      go_quiet (fail)
      go_wp2_with fail
      go_roundw
      case rel => exact ⟨k + 1, _, by omega, by go_num, by rw [HSU.out], rfl⟩
      case measure => simp [intOf]; omega
    · obtain rfl : k = p.rows.length := by omega
      go_wp2_with fail
      go_ret
      exact ⟨rfl, (by (repeat (any_goals (first | exact Below.refl _ _ | exact HW.out | refine below_drewN ?_ _ | refine Below.drew ?_ | refine Below.alloc ?_ ?_ _ | refine Below.setCell ?_ ?_ _ | refine Below.trans ?_ (Below.mono HW.out ?_)))); all_goals (first | omega | (simp; done) | (simp; omega) | ((try have z0 := HW.out.size); (try simp at z0); (try simp); omega)))⟩
end Go.Proofs.Ytjcdkbalhleeeab
