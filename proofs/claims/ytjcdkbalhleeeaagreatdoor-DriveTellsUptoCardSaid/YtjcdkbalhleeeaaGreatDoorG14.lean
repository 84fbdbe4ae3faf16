/-
  Contracts of functions and plain laws that later parts of the proof use. The conditions stand in each theorem.
-/
import Derived.Test.YtjcdkbalhleeeaaGreatDoorG06
import Derived.Test.YtjcdkbalhleeeaaGreatDoorG13
import Derived.Test.YtjcdkbalhleeeaaGreatDoorG12
namespace Go.Proofs.YtjcdkbalhleeeaaGreatDoor
open Go.RowKit
def manyB (l : List Int) (many : Nat) (m : Int) : Bool := smallB m l && decide (l.length = many)
theorem span_small (m : Int) (A : Option Addr) (l : List Int) (c many : Nat) (w : World) (hm : 0 ≤ m) (hm' : m ≤ 4611686018427387904) (hr : Rd w A c l) :
    Calls Tryz.prog 126 #[.slice A l.length c, .int .i64 many, .int .i64 m] w fun e w' => e = .returned (.bool (manyB l many m)) ∧ w' = w := by
 have HR := h_ hr
 obtain ⟨hl, hc, hsm, _⟩ := hr
 have HV := h_ (show manyB l many m = (smallB m l && decide (l.length = many)) from rfl)
 go_enter Tryz.func126, Tryz.ntmps126
 go_wp2_with fail
 go_loop [11] (fun i => ∃ k : Nat, k ≤ l.length ∧ smallB m (l.take k) = true ∧ i = .int .i64 k) (fun i => l.length - (intOf i).toNat)
 case atStart => exact ⟨0, by omega, by simp [smallB], rfl⟩
 case round =>
  obtain ⟨k, hk, hs, rfl⟩ := hrel
  have HS := h_ hs
  clear hs
  by_cases hlt : k < l.length
  ·obtain ⟨ad, rfl, hc1⟩ := HR.out.at_ hlt
   have HT := h_ (smallB_take (m := m) hlt)
   have HF := h_ (smallB_false (m := m) hlt)
   by_cases h1 : l[k] < -m
   ·go_wp2_with fail
    go_ret
    exact ⟨ret_bool (by rw [HV.out, HF.out (by simp; omega)]; rfl), rfl⟩
   ·by_cases h2 : m < l[k]
    ·go_wp2_with fail
     go_ret
     exact ⟨ret_bool (by rw [HV.out, HF.out (by simp; omega)]; rfl), rfl⟩
    ·go_wp2_with fail
     go_round
     case rel => exact ⟨k + 1, by omega, by rw [HT.out, HS.out]; simp; omega, by go_num⟩
     case measure => simp [intOf]; omega
  ·obtain rfl : k = l.length := by omega
   have HX := h_ (show smallB m l = true by have := HS.out; rwa [List.take_length] at this)
   by_cases h0 : l.length = many
   ·have hz : ((l.length : Int) == (many : Int)) = true := by simp; omega
    have H0 := h_ h0
    clear h0
    go_wp2_with fail
    go_ret
    exact ⟨ret_bool (by rw [HV.out, HX.out, H0.out]; simp), rfl⟩
   ·have hz : ((l.length : Int) == (many : Int)) = false := by simp; omega
    have H0 := h_ h0
    clear h0
    go_wp2_with fail
    go_ret
    exact ⟨ret_bool (by rw [HV.out, HX.out, decide_eq_false H0.out]; rfl), rfl⟩
theorem Rd.getDk {w : World} {A : Option Addr} {c : Nat} {l : List Int} (h : Rd w A c l) {k : Nat} (hk : k < l.length) : ∃ ad, A = some ad ∧ w.cell? (ad.add k) = some (.int .i64 (l.getD k 0)) := by
 obtain ⟨ad, e, hc⟩ := h.at_ hk
 exact ⟨ad, e, by rw [hc]; simp [List.getD, List.getElem?_eq_getElem hk]⟩
theorem smallB_atD {l : List Int} (h : smallB 1073741824 l = true) (j : Nat) : -1073741824 ≤ l.getD j 0 ∧ l.getD j 0 ≤ 1073741824 := by
 by_cases hj : j < l.length
 ·have := smallB_at h hj; simpa [List.getD, List.getElem?_eq_getElem hj] using this
 ·simp [List.getD, List.getElem?_eq_none (Nat.le_of_not_lt hj)]
theorem Blk.turned {w w' : World} {g : Nat} {t : TypeId} {cs : Array Value} {S : Nat → Prop} (h : Blk w g t cs) (ht : Turned S w w') (hg : ¬ S g) : Blk w' g t cs := (ht.block g h.lt hg).trans h
def fN (sg : Int) (xs : List Int) (yd : Int) (j : Nat) : Int := sg * xs.getD j 0 * yd
set_option maxRecDepth 100000 in
set_option maxHeartbeats 2000000 in
theorem span_of (X : Option Addr) (xs : List Int) (cx : Nat) (xd : Int) (Y : Option Addr) (ys : List Int) (cy : Nat) (yd sg : Int) (w : World) (hx : Rd w X cx xs) (hy : Rd w Y cy ys) (hlen : xs.length = ys.length)
    (sx : smallB 1073741824 xs = true) (sy : smallB 1073741824 ys = true) (dx : 1 ≤ xd ∧ xd ≤ 1073741824) (dy : 1 ≤ yd ∧ yd ≤ 1073741824) (hs : sg = 1 ∨ sg = -1) :
    Calls Tryz.prog 127 #[.agg #[.slice X xs.length cx, .int .i64 xd], .agg #[.slice Y ys.length cy, .int .i64 yd], .int .i64 sg] w
     (RetEn w (endsF (ofZ (fN sg xs yd) (fN sg ys xd) xs.length)) (endsT (ofZ (fN sg xs yd) (fN sg ys xd) xs.length)) (endsE (ofZ (fN sg xs yd) (fN sg ys xd) xs.length))) := by
 have HX := h_ hx
 have HY := h_ hy
 obtain ⟨lx, cxm, sxm, _⟩ := hx
 obtain ⟨ly, cym, sym, _⟩ := hy
 obtain ⟨dx1, dx2⟩ := dx
 obtain ⟨dy1, dy2⟩ := dy
 have HSX := h_ sx
 have HSY := h_ sy
 have HLE := h_ hlen
 rw [← hlen]
 rw [← hlen] at ly
 clear sx sy hlen sym
 go_enter Tryz.func127, Tryz.ntmps127
 go_wp2_with fail
 have BA := h_ (show Blk (((((w.alloc (.cells #[.slice X xs.length cx, .int .i64 xd] 53)).alloc (.cells #[.slice Y xs.length cy, .int .i64 yd] 53)).alloc (.cells #[.bool false, .int .i64 0, .int .i64 0] 77)).alloc (.cells #[.bool false, .int .i64 0, .int .i64 0] 77)).alloc (.cells #[.bool true, .int .i64 0, .int .i64 0, .bool true, .int .i64 0, .int .i64 0, .bool false] 218)) w.heap.size 53 #[.slice X xs.length cx, .int .i64 xd] from ((((Blk.mk' _ _ _).alloc _).alloc _).alloc _).alloc _)
 have BB := h_ (show Blk (((((w.alloc (.cells #[.slice X xs.length cx, .int .i64 xd] 53)).alloc (.cells #[.slice Y xs.length cy, .int .i64 yd] 53)).alloc (.cells #[.bool false, .int .i64 0, .int .i64 0] 77)).alloc (.cells #[.bool false, .int .i64 0, .int .i64 0] 77)).alloc (.cells #[.bool true, .int .i64 0, .int .i64 0, .bool true, .int .i64 0, .int .i64 0, .bool false] 218)) (w.heap.size + 1) 53 #[.slice Y xs.length cy, .int .i64 yd] from (((Blk.new _ _ _ _ (by simp)).alloc _).alloc _).alloc _)
 have BR := h_ (show Blk (((((w.alloc (.cells #[.slice X xs.length cx, .int .i64 xd] 53)).alloc (.cells #[.slice Y xs.length cy, .int .i64 yd] 53)).alloc (.cells #[.bool false, .int .i64 0, .int .i64 0] 77)).alloc (.cells #[.bool false, .int .i64 0, .int .i64 0] 77)).alloc (.cells #[.bool true, .int .i64 0, .int .i64 0, .bool true, .int .i64 0, .int .i64 0, .bool false] 218)) (w.heap.size + 1 + 1) 77 #[.bool false, .int .i64 0, .int .i64 0] from ((Blk.new _ _ _ _ (by simp)).alloc _).alloc _)
 have BQ := h_ (show Blk (((((w.alloc (.cells #[.slice X xs.length cx, .int .i64 xd] 53)).alloc (.cells #[.slice Y xs.length cy, .int .i64 yd] 53)).alloc (.cells #[.bool false, .int .i64 0, .int .i64 0] 77)).alloc (.cells #[.bool false, .int .i64 0, .int .i64 0] 77)).alloc (.cells #[.bool true, .int .i64 0, .int .i64 0, .bool true, .int .i64 0, .int .i64 0, .bool false] 218)) (w.heap.size + 1 + 1 + 1) 77 #[.bool false, .int .i64 0, .int .i64 0] from (Blk.new _ _ _ _ (by simp)).alloc _)
 have BS := h_ (show Blk (((((w.alloc (.cells #[.slice X xs.length cx, .int .i64 xd] 53)).alloc (.cells #[.slice Y xs.length cy, .int .i64 yd] 53)).alloc (.cells #[.bool false, .int .i64 0, .int .i64 0] 77)).alloc (.cells #[.bool false, .int .i64 0, .int .i64 0] 77)).alloc (.cells #[.bool true, .int .i64 0, .int .i64 0, .bool true, .int .i64 0, .int .i64 0, .bool false] 218)) (w.heap.size + 1 + 1 + 1 + 1) 218 (nwA (ofZ (fN sg xs yd) (fN sg ys xd) 0)) from Blk.new _ _ _ _ (by simp))
 have HVW := h_ ((by (repeat (any_goals (first | exact qR _ _ | refine below_drewN ?_ _ | refine qD ?_ | refine qA ?_ ?_ _ | refine qS ?_ ?_ _))); all_goals (first | omega | (simp; done) | (simp; omega))) : Below w.heap.size w (((((w.alloc (.cells #[.slice X xs.length cx, .int .i64 xd] 53)).alloc (.cells #[.slice Y xs.length cy, .int .i64 yd] 53)).alloc (.cells #[.bool false, .int .i64 0, .int .i64 0] 77)).alloc (.cells #[.bool false, .int .i64 0, .int .i64 0] 77)).alloc (.cells #[.bool true, .int .i64 0, .int .i64 0, .bool true, .int .i64 0, .int .i64 0, .bool false] 218)))
 generalize (((((w.alloc (.cells #[.slice X xs.length cx, .int .i64 xd] 53)).alloc (.cells #[.slice Y xs.length cy, .int .i64 yd] 53)).alloc (.cells #[.bool false, .int .i64 0, .int .i64 0] 77)).alloc (.cells #[.bool false, .int .i64 0, .int .i64 0] 77)).alloc (.cells #[.bool true, .int .i64 0, .int .i64 0, .bool true, .int .i64 0, .int .i64 0, .bool false] 218)) = V at *
 have zV := HVW.out.size
 have zS := BS.out.lt
 go_loopw [19] (fun i wx => ∃ k : Nat, k ≤ xs.length ∧ i = .int .i64 k ∧ Blk wx (w.heap.size + 1 + 1 + 1 + 1) 218 (nwA (ofZ (fN sg xs yd) (fN sg ys xd) k)) ∧ Turned (· = w.heap.size + 1 + 1 + 1 + 1) V wx) (fun i _ => xs.length - (intOf i).toNat)
 case atStart => exact ⟨0, by omega, rfl, BS.out, Turned.refl _ _⟩
 case round =>
  obtain ⟨k, hk, rfl, hS, hT⟩ := hrel
  have HS := h_ hS
  have HT := h_ hT
  have HBW := h_ (show Below w.heap.size w _ from HVW.out.trans (hT.below zV fun k e => by omega))
  have BA2 := h_ (BA.out.turned hT (by omega))
  have BB2 := h_ (BB.out.turned hT (by omega))
  have zX := hT.size
  have lS := hS.lt
  clear hS hT
  rename World => U
  by_cases hlt : k < xs.length
  ·obtain ⟨ax, rfl, hcx⟩ := (HX.out.below HBW.out).getDk hlt
   obtain ⟨ay, rfl, hcy⟩ := (HY.out.below HBW.out).getDk (k := k) (by rw [← HLE.out]; exact hlt)
   have hayl := lc_ hcy
   have hb1 := smallB_atD HSX.out k
   have hb2 := smallB_atD HSY.out k
   have HF := h_ (show fN sg xs yd k = sg * xs.getD k 0 * yd from rfl)
   have HG := h_ (show fN sg ys xd k = sg * ys.getD k 0 * xd from rfl)
   have HOF := h_ (ofZ_succ (fN sg xs yd) (fN sg ys xd) k)
   generalize xs.getD k 0 = xv at *
   generalize ys.getD k 0 = yv at *
   have hsx : -1073741824 ≤ sg * xv ∧ sg * xv ≤ 1073741824 := by rcases hs with e | e <;> rw [e] <;> omega
   have hsy : -1073741824 ≤ sg * yv ∧ sg * yv ≤ 1073741824 := by rcases hs with e | e <;> rw [e] <;> omega
   obtain ⟨hm1, hm2⟩ := mul_bound (sg * xv) yd 1073741824 1073741824 hsx.1 hsx.2 (by omega) dy2
   obtain ⟨hm3, hm4⟩ := mul_bound (sg * yv) xd 1073741824 1073741824 hsy.1 hsy.2 (by omega) dx2
   have hw1 : IntKind.i64.wrap (sg * xv) = sg * xv := IntWalk.i64_in _ (by omega)
   have hw2 : IntKind.i64.wrap (sg * xv * yd) = sg * xv * yd := IntWalk.i64_in _ (by omega)
   have hw3 : IntKind.i64.wrap (sg * yv) = sg * yv := IntWalk.i64_in _ (by omega)
   have hw4 : IntKind.i64.wrap (sg * yv * xd) = sg * yv * xd := IntWalk.i64_in _ (by omega)
   have HM := h_ (show -4611686018427387904 ≤ sg * xv * yd ∧ sg * xv * yd ≤ 4611686018427387904 by omega)
   have s0 : ∀ u : Wk U, u.1.cell? ⟨w.heap.size, 1, none⟩ = some (.int .i64 xd) := fun u => (BA2.out.next u.2).cell 1
   have s1 : ∀ u : Wk U, u.1.cell? ⟨w.heap.size + 1, 0, none⟩ = some (.slice (some ay) xs.length cy) := fun u => (BB2.out.next u.2).cell 0
   have s2 : ∀ u : Wk U, u.1.cell? ⟨w.heap.size + 1, 1, none⟩ = some (.int .i64 yd) := fun u => (BB2.out.next u.2).cell 1
   have s3 : ∀ u : Wk U, u.1.cell? (ay.add k) = some (.int .i64 yv) := fun u => (u.2.cell hayl).trans hcy
   have hi0 : (k : Int) < (xs.length : Int) := by omega
   clear hb1 hb2 hsx hsy hm1 hm2 hm3 hm4 hcy
   go_wp2_with fail
   refine wk_tail 17 (by kernel_rfl) (by kernel_rfl) ?_
   simp only [List.take_succ_cons, List.take_zero, List.drop_succ_cons, List.drop_zero]
   repeat (go_big_quiet_step (fail))
   refine wpQuiet_nil ?_
   rintro w7 ⟨u7, rfl⟩
   go_wp2_with fail
   refine (span_below _ _ _ _ _ (HS.out.next u7.2) HM.out).mono ?_
   rintro e w8 ⟨rfl, hB8, hT8⟩
   have HB8 := h_ hB8
   have HT8 := h_ (HT.out.trans ((Turned.of_below u7.2).trans hT8))
   clear hB8 hT8
   go_wp2_with fail
   go_roundw
   case rel => exact ⟨k + 1, by omega, by go_num, by rw [HOF.out, HF.out, HG.out]; exact HB8.out, HT8.out⟩
   case measure => simp [intOf]; omega
  ·obtain rfl : k = xs.length := by omega
   have BR2 := h_ (BR.out.turned HT.out (by omega))
   have BQ2 := h_ (BQ.out.turned HT.out (by omega))
   go_wp2_with fail
   refine (span_ends _ _ _ HS.out).mono ?_
   rintro e w8 ⟨rfl, hb8⟩
   have z0 : w8.cell? ⟨w.heap.size + 1 + 1, 0, none⟩ = some (.bool false) := (BR2.out.next hb8).cell 0
   have z1 : w8.cell? ⟨w.heap.size + 1 + 1, 1, none⟩ = some (.int .i64 0) := (BR2.out.next hb8).cell 1
   have z2 : w8.cell? ⟨w.heap.size + 1 + 1, 2, none⟩ = some (.int .i64 0) := (BR2.out.next hb8).cell 2
   have z3 : w8.cell? ⟨w.heap.size + 1 + 1 + 1, 0, none⟩ = some (.bool false) := (BQ2.out.next hb8).cell 0
   have z4 : w8.cell? ⟨w.heap.size + 1 + 1 + 1, 1, none⟩ = some (.int .i64 0) := (BQ2.out.next hb8).cell 1
   have z5 : w8.cell? ⟨w.heap.size + 1 + 1 + 1, 2, none⟩ = some (.int .i64 0) := (BQ2.out.next hb8).cell 2
   have y0 := (BR2.out.next hb8).frozen 0
   have y1 := (BR2.out.next hb8).frozen 1
   have y2 := (BR2.out.next hb8).frozen 2
   have y3 := (BQ2.out.next hb8).frozen 0
   have y4 := (BQ2.out.next hb8).frozen 1
   have y5 := (BQ2.out.next hb8).frozen 2
   have HB8 := h_ (HBW.out.trans (hb8.mono HBW.out.size))
   clear hb8
   generalize endsF (ofZ (fN sg xs yd) (fN sg ys xd) xs.length) = ef at *
   generalize endsT (ofZ (fN sg xs yd) (fN sg ys xd) xs.length) = et at *
   generalize endsE (ofZ (fN sg xs yd) (fN sg ys xd) xs.length) = ee at *
   go_wp2_with fail
   refine bodyPost_ret (v := .tuple #[.agg #[.bool ef.op, .int .i64 ef.n, .int .i64 ef.d], .agg #[.bool et.op, .int .i64 et.n, .int .i64 et.d], .int .i64 ee]) ?_ ?_ ?_
   ·simp [results, Tryz.results127, go_sem, z0, z1, z2, z3, z4, z5]
   ·rfl
   ·refine ⟨rfl, ?_⟩
    iterate 6 refine Below.setCell ?_ (by first | (simp; done) | (simp; omega)) _
    exact HB8.out
end Go.Proofs.YtjcdkbalhleeeaaGreatDoor
