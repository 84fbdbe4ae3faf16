/-
  Contracts of functions and plain laws that later parts of the proof use. The conditions stand in each theorem.
-/
import Derived.Test.YtjcdkbalhleeeaaGreatDoorG01
namespace Go.Proofs.YtjcdkbalhleeeaaGreatDoor
theorem cast_sum {f : Nat → Int} : ∀ {n : Nat}, ((sumN f n : Int) : Rat) = sumR (fun i => (f i : Rat)) n
 | 0 => rfl
 | n + 1 => by rw [sumN, sumR, Rat.intCast_add, cast_sum]
theorem cast_ne {n : Int} (h : n ≠ 0) : (n : Rat) ≠ 0 := fun e => h (by exact_mod_cast e)
theorem cast_pos {n : Int} (h : 0 < n) : (0 : Rat) < (n : Rat) := by exact_mod_cast h
def xq (c : CO) (j : Nat) : Rat := (c.xs.getD j 0 : Rat) / (c.xd : Rat)
def yq (c : CO) (i : Nat) : Rat := (c.ys.getD i 0 : Rat) / (c.yd : Rat)
def gq (c : CO) (j : Nat) : Rat := (c.gs.getD j 0 : Rat) / (c.gd : Rat)
def aq (p : PG) (i j : Nat) : Rat := (hasZ p i j : Rat)
def cq (p : PG) (j : Nat) : Rat := (costZ p j : Rat)
theorem zdiv (x : Rat) : ((0 : Int) : Rat) / x = 0 := by rw [show ((0 : Int) : Rat) = 0 from rfl]; grind
theorem div_eq {a b g : Int} (h : a = g * b) (hg : g ≠ 0) {e D : Int} (hd : D = g * e) (he : e ≠ 0) : (b : Rat) / (e : Rat) = (a : Rat) / (D : Rat) := by
 subst h hd
 rw [Rat.intCast_mul, Rat.intCast_mul]
 have := cast_ne hg; have := cast_ne he
 grind
section
variable {p : PG} {l : List Nat} {c : CO} {gx gy gg : Int}
theorem Corn.xq_eq (h : Corn p l c gx gy gg) (j : Nat) : xq c j = ((xall p l).getD j 0 : Rat) / (denZ p l : Rat) := div_eq (h.x j) h.nx h.dx (by have := h.px; omega)
theorem Corn.yq_eq (h : Corn p l c gx gy gg) (j : Nat) : yq c j = ((yall p l).getD j 0 : Rat) / (denZ p l : Rat) := div_eq (h.y j) h.ny h.dy (by have := h.py; omega)
theorem Corn.gq_eq (h : Corn p l c gx gy gg) (j : Nat) : gq c j = ((gall p l).getD j 0 : Rat) / (denZ p l : Rat) := div_eq (h.g j) h.ng h.dg (by have := h.pg; omega)
theorem Corn.rowQ (h : Corn p l c gx gy gg) {i : Nat} (hi : i < p.rows.length) : sumR (fun j => aq p i j * xq c j) (p.costs.length + p.rows.length) = ((mosts p).getD i 0 : Rat) := by
 have h1 := sum_has_x h.hr h.rows4 hi
 have h2 : ((sumN (fun j => hasZ p i j * (xall p l).getD j 0) (p.costs.length + p.rows.length) : Int) : Rat) = (((mosts p).getD i 0 * denZ p l : Int) : Rat) := by rw [h1]
 rw [cast_sum, Rat.intCast_mul] at h2
 have hd := cast_ne h.hd
 have e : sumR (fun j => aq p i j * xq c j) (p.costs.length + p.rows.length) = (1 / (denZ p l : Rat)) * sumR (fun j => ((hasZ p i j * (xall p l).getD j 0 : Int) : Rat)) (p.costs.length + p.rows.length) := by
  rw [← sumR_mul]
  refine sumR_congr fun j _ => ?_
  rw [h.xq_eq j, Rat.intCast_mul]; unfold aq; grind
 rw [e, h2]; grind
theorem Corn.offQ (h : Corn p l c gx gy gg) {j : Nat} (hj : j ∉ l) : xq c j = 0 := by
 rw [h.xq_eq j, xall_off h.hr hj]; exact zdiv _
theorem Corn.gainQ (h : Corn p l c gx gy gg) {j : Nat} (hj : j < p.costs.length + p.rows.length) : gq c j = cq p j - sumR (fun i => yq c i * aq p i j) p.rows.length := by
 rw [h.gq_eq j, gall_at hj]
 unfold gk
 have hd := cast_ne h.hd
 have e : sumR (fun i => yq c i * aq p i j) p.rows.length = (1 / (denZ p l : Rat)) * sumR (fun i => ((yk p l i * hasZ p i j : Int) : Rat)) p.rows.length := by
  rw [← sumR_mul]
  refine sumR_congr fun i hi => ?_
  rw [h.yq_eq i, yall_at hi, Rat.intCast_mul]; unfold aq; grind
 rw [e, ← cast_sum, Rat.intCast_sub, Rat.intCast_mul]
 unfold cq
 grind
theorem Corn.gainQ0 (h : Corn p l c gx gy gg) {j : Nat} (hj : j ∈ l) : gq c j = 0 := by
 obtain ⟨k, hk, rfl⟩ := List.mem_iff_getElem.1 hj
 have := h.gain_own (k := k) (by rw [← h.hr.len]; exact hk)
 simp only [List.getD, List.getElem?_eq_getElem hk, Option.getD_some] at this
 unfold gq
 simp only [List.getD]
 rw [this]; exact zdiv _
theorem sign_div {a b : Int} (hb : 0 < b) : ((0 : Rat) < (a : Rat) / (b : Rat) ↔ 0 < a) ∧ ((a : Rat) / (b : Rat) < 0 ↔ a < 0) := by
 have hb' := cast_pos hb
 have e : (a : Rat) / (b : Rat) * (b : Rat) = (a : Rat) := by grind
 constructor
 ·constructor
  ·intro h
   have := Rat.mul_pos h hb'
   rw [e] at this
   exact_mod_cast this
  ·intro h
   have ha := cast_pos h
   apply Classical.byContradiction
   intro hn
   have := Rat.mul_nonneg (show (0 : Rat) ≤ -((a : Rat) / (b : Rat)) by grind) (show (0 : Rat) ≤ (b : Rat) by grind)
   grind
 ·constructor
  ·intro h
   have := Rat.mul_pos (show (0 : Rat) < -((a : Rat) / (b : Rat)) by grind) hb'
   have h2 : (0 : Rat) < -(a : Rat) := by grind
   have h3 : (a : Rat) < 0 := by grind
   exact_mod_cast h3
  ·intro h
   have ha : (a : Rat) < 0 := by exact_mod_cast h
   apply Classical.byContradiction
   intro hn
   have := Rat.mul_nonneg (show (0 : Rat) ≤ (a : Rat) / (b : Rat) by grind) (show (0 : Rat) ≤ (b : Rat) by grind)
   grind
theorem nonneg_div {a b : Int} (hb : 0 < b) : (0 : Rat) ≤ (a : Rat) / (b : Rat) ↔ 0 ≤ a := by
 have h := (sign_div (a := a) hb).2
 constructor
 ·intro h1
  apply Classical.byContradiction
  intro h2
  have := h.2 (by omega)
  grind
 ·intro h1
  apply Classical.byContradiction
  intro h2
  have := h.1 (by grind)
  omega
end
def unitC (A : Nat → Nat → Int) (m i : Nat) (r c : Nat) : Int := if c < m then A r c else if r = i then 1 else 0
set_option maxHeartbeats 4000000 in
theorem adj_left (A : Nat → Nat → Int) {m k j : Nat} (hm : m ≤ 4) (hk : k < m) (hj : j < m) : sumN (fun i => dtp (unitC A m i) m k m * A i j) m = if j = k then dtm A m else 0 := by
 unfold dtp dtm
 rcases (show m = 1 ∨ m = 2 ∨ m = 3 ∨ m = 4 by omega) with rfl | rfl | rfl | rfl
 ·obtain rfl : k = 0 := by omega
  obtain rfl : j = 0 := by omega
  simp [sumN, dt1, unitC]
 ·rcases (show k = 0 ∨ k = 1 by omega) with rfl | rfl <;> rcases (show j = 0 ∨ j = 1 by omega) with rfl | rfl <;> (simp [sumN, range2, dt2, unitC]; try grind)
 ·rcases (show k = 0 ∨ k = 1 ∨ k = 2 by omega) with rfl | rfl | rfl <;> rcases (show j = 0 ∨ j = 1 ∨ j = 2 by omega) with rfl | rfl | rfl <;> (simp [sumN, range3, dt3, unitC]; try grind)
 ·rcases (show k = 0 ∨ k = 1 ∨ k = 2 ∨ k = 3 by omega) with rfl | rfl | rfl | rfl <;> rcases (show j = 0 ∨ j = 1 ∨ j = 2 ∨ j = 3 by omega) with rfl | rfl | rfl | rfl <;> (simp [sumN, range4, dt4, dt3, unitC]; try grind)
theorem sum_support {p : PG} {l : List Nat} (hr : RightL p l) {f : Nat → Rat} (hf : ∀ j, j ∉ l → f j = 0) : sumR f (p.costs.length + p.rows.length) = sumR (fun k => f (l.getD k 0)) p.rows.length := by
 have h1 : ∀ j, f j = sumR (fun k => if l.getD k 0 = j then f j else 0) p.rows.length := by
  intro j
  by_cases hj : j ∈ l
  ·obtain ⟨k, hk, rfl⟩ := List.mem_iff_getElem.1 hj
   have hk' : k < p.rows.length := by rw [← hr.len]; exact hk
   have e : l.getD k 0 = l[k] := by simp [List.getD, List.getElem?_eq_getElem hk]
   rw [sumR_one hk', if_pos e]
   intro i hi hne
   rw [if_neg]
   intro q
   rw [← e] at q
   rcases Nat.lt_or_gt_of_ne hne with h | h
   ·have := hr.ne h hk; omega
   ·have := hr.ne h (by rw [hr.len]; exact hi); omega
  ·rw [hf j hj]
   refine Eq.symm ((sumR_congr fun k _ => ?_).trans sumR_zero)
   split <;> rfl
 rw [sumR_congr (g := fun j => sumR (fun k => if l.getD k 0 = j then f j else 0) p.rows.length) fun j _ => h1 j]
 rw [← sumR_comm (f := fun k j => if l.getD k 0 = j then f j else 0)]
 refine sumR_congr fun k hk => ?_
 rw [sumR_one (hr.at_lt (by rw [hr.len]; exact hk)), if_pos rfl]
 intro j _ hne
 rw [if_neg (fun q => hne q.symm)]
theorem kernel {p : PG} {l : List Nat} (hr : RightL p l) (h4 : p.rows.length ≤ 4) (hd : denZ p l ≠ 0) {z : Nat → Rat} (hz : ∀ j, j ∉ l → z j = 0)
    (hA : ∀ i, i < p.rows.length → sumR (fun j => aq p i j * z j) (p.costs.length + p.rows.length) = 0) : ∀ j, z j = 0 := by
 intro j
 by_cases hj : j ∈ l
 rotate_left
 ·exact hz j hj
 obtain ⟨k, hk, rfl⟩ := List.mem_iff_getElem.1 hj
 have hk' : k < p.rows.length := by rw [← hr.len]; exact hk
 have e : l.getD k 0 = l[k] := by simp [List.getD, List.getElem?_eq_getElem hk]
 rw [← e]
 have h1 : ∀ i, i < p.rows.length → sumR (fun k => (matD p l i k : Rat) * z (l.getD k 0)) p.rows.length = 0 := by
  intro i hi
  rw [← hA i hi, sum_support hr (fun j hj => by rw [hz j hj]; grind)]
  refine sumR_congr fun q hq => ?_
  unfold matD aq
  rw [if_pos (by rw [hr.len]; exact hq)]
 have h2 : sumR (fun i => (dtp (unitC (matD p l) p.rows.length i) p.rows.length k p.rows.length : Rat) * sumR (fun q => (matD p l i q : Rat) * z (l.getD q 0)) p.rows.length) p.rows.length = 0 :=
  (sumR_congr fun i hi => by rw [h1 i hi]; grind).trans sumR_zero
 have h3 : sumR (fun i => (dtp (unitC (matD p l) p.rows.length i) p.rows.length k p.rows.length : Rat) * sumR (fun q => (matD p l i q : Rat) * z (l.getD q 0)) p.rows.length) p.rows.length
     = sumR (fun q => (if q = k then (denZ p l : Rat) else 0) * z (l.getD q 0)) p.rows.length := by
  rw [sumR_congr (g := fun i => sumR (fun q => (dtp (unitC (matD p l) p.rows.length i) p.rows.length k p.rows.length : Rat) * ((matD p l i q : Rat) * z (l.getD q 0))) p.rows.length) fun i _ => by rw [sumR_mul]]
  rw [sumR_comm]
  refine sumR_congr fun q hq => ?_
  have ha := adj_left (matD p l) h4 hk' hq
  have e1 : sumR (fun i => (dtp (unitC (matD p l) p.rows.length i) p.rows.length k p.rows.length : Rat) * ((matD p l i q : Rat) * z (l.getD q 0))) p.rows.length
      = z (l.getD q 0) * ((sumN (fun i => dtp (unitC (matD p l) p.rows.length i) p.rows.length k p.rows.length * matD p l i q) p.rows.length : Int) : Rat) := by
   rw [cast_sum, ← sumR_mul]
   refine sumR_congr fun i _ => ?_
   rw [Rat.intCast_mul]; grind
  rw [e1, ha]
  unfold denZ
  by_cases hqk : q = k
  ·rw [if_pos hqk, if_pos hqk]; grind
  ·rw [if_neg hqk, if_neg hqk]; simp
 rw [h3, sumR_one hk' (fun q _ hq => by rw [if_neg hq]; grind), if_pos rfl] at h2
 have := cast_ne hd
 grind
end Go.Proofs.YtjcdkbalhleeeaaGreatDoor

namespace Go.Proofs.YtjcdkbalhleeeaaGreatDoor
structure OKb (p : PG) (l : List Nat) : Prop where
 hp : mayPB p = true
 hr : RightL p l
 hd : denZ p l ≠ 0
 hx : nonneg (lookN p l).xs = true
theorem corn_of {p : PG} {l : List Nat} (hp : mayPB p = true) (hr : RightL p l) (hd : denZ p l ≠ 0) : ∃ gx gy gg, Corn p l (lookN p l) gx gy gg := by
 have := look_corn (look_ints hp hr hd)
 rwa [nats_ints] at this
theorem getD_map {l : List Nat} {f : Nat → Int} {k : Nat} (h : k < l.length) : (l.map f).getD k 0 = f (l.getD k 0) := by
 simp [List.getD, List.getElem?_eq_getElem h]
theorem mem_getD {l : List Nat} {j : Nat} : j ∈ l ↔ ∃ k, k < l.length ∧ l.getD k 0 = j := by
 constructor
 ·intro h
  obtain ⟨k, hk, rfl⟩ := List.mem_iff_getElem.1 h
  exact ⟨k, hk, by simp [List.getD, List.getElem?_eq_getElem hk]⟩
 ·rintro ⟨k, hk, rfl⟩
  simp only [List.getD, List.getElem?_eq_getElem hk, Option.getD_some]
  exact List.getElem_mem hk
structure Stp (p : PG) (l : List Nat) (r k : Nat) : Prop where
 hin : inZ (lookN p l).gs = some r
 hout : outZ (lookN p l).xs l (lessZ p l r) l.length = some k
theorem stp_of {p : PG} {l l' : List Nat} (h : nxtZ p l = some l') : ∃ r k, Stp p l r k ∧ l' = insN (l.eraseIdx k) r := by
 unfold nxtZ at h
 split at h
 ·simp at h
 ·rename_i r hr
  split at h
  ·simp at h
  ·rename_i k hk
   simp at h
   exact ⟨r, k, ⟨hr, hk⟩, h.symm⟩
section
variable {p : PG} {l : List Nat} {r k : Nat}
theorem mem_erase (hr : RightL p l) (hk : k < l.length) {j : Nat} : j ∈ l.eraseIdx k ↔ j ∈ l ∧ j ≠ l.getD k 0 := by
 rw [List.mem_eraseIdx_iff_getElem]
 constructor
 ·rintro ⟨i, hi, hne, rfl⟩
  refine ⟨List.getElem_mem hi, ?_⟩
  have e : l[i] = l.getD i 0 := by simp [List.getD, List.getElem?_eq_getElem hi]
  rw [e]
  rcases Nat.lt_or_gt_of_ne hne with h | h
  ·have := hr.ne h hk; omega
  ·have := hr.ne h hi; omega
 ·rintro ⟨h1, h2⟩
  obtain ⟨i, hi, rfl⟩ := List.mem_iff_getElem.1 h1
  refine ⟨i, hi, fun e => h2 ?_, rfl⟩
  subst e
  simp [List.getD, List.getElem?_eq_getElem hi]
theorem right_next (hr : RightL p l) (hk : k < l.length) (hrl : r ∉ l) (hN : r < p.costs.length + p.rows.length) : RightL p (insN (l.eraseIdx k) r) := by
 refine ⟨?_, ?_, ?_⟩
 ·rw [length_insN, List.length_eraseIdx_of_lt hk]; have := hr.len; omega
 ·intro j hj
  rcases mem_insN.1 hj with h | h
  ·exact hr.lt j ((mem_erase hr hk).1 h).1
  ·omega
 ·exact insN_pw (hr.pw.sublist (List.eraseIdx_sublist l k)) (fun q => hrl ((mem_erase hr hk).1 q).1)
theorem den_dt (hr : l.length = p.rows.length) : denZ p l = dt (hasZ p) (List.range p.rows.length) l := by
 unfold denZ dtm
 have e : dt (matD p l) (List.range p.rows.length) (List.range p.rows.length) = dt (fun i j => hasZ p i (l.getD j 0)) (List.range p.rows.length) (List.range p.rows.length) := by
  refine dt_congr2 fun i _ j hj => ?_
  have : j < p.rows.length := by simpa using hj
  unfold matD; rw [if_pos (by omega)]
 rw [e, dt_cols (f := fun j => l.getD j 0)]
 congr 1
 refine List.ext_getElem (by simp; omega) fun i h1 h2 => ?_
 simp [List.getD, List.getElem?_eq_getElem h2]
theorem xk_dt (hr : l.length = p.rows.length) (_hk : k < p.rows.length) : xk (qOf p r) l k = dt (hasZ p) (List.range p.rows.length) (l.set k r) := by
 unfold xk dtp
 rw [qOf_len]
 have e : dt (matD (qOf p r) l) (List.range p.rows.length) ((List.range p.rows.length).set k p.rows.length) =
     dt (fun i j => hasZ p i (if j < l.length then l.getD j 0 else r)) (List.range p.rows.length) ((List.range p.rows.length).set k p.rows.length) := by
  refine dt_congr2 fun i hi j _ => ?_
  have : i < p.rows.length := by simpa using hi
  unfold matD
  by_cases hj : j < l.length
  ·rw [if_pos hj, if_pos hj, qOf_has]
  ·rw [if_neg hj, if_neg hj, qOf_most p r this]
 rw [e, dt_cols (f := fun j => if j < l.length then l.getD j 0 else r)]
 congr 1
 refine List.ext_getElem (by simp; omega) fun i h1 h2 => ?_
 have h2' : i < l.length := by simpa using h2
 simp only [List.getElem_map, List.getElem_set]
 by_cases e : k = i
 ·subst e; rw [if_pos rfl, if_pos rfl, if_neg (by omega)]
 ·rw [if_neg e, if_neg e, List.getElem_range, if_pos h2']
  simp [List.getD, List.getElem?_eq_getElem h2']
theorem den_next (hr : RightL p l) (h4 : p.rows.length ≤ 4) (hk : k < p.rows.length) (hn : xk (qOf p r) l k ≠ 0) (hrl : r ∉ l) (hN : r < p.costs.length + p.rows.length) : denZ p (insN (l.eraseIdx k) r) ≠ 0 := by
 have hkl : k < l.length := by rw [hr.len]; exact hk
 have hR := right_next hr hkl hrl hN
 rw [den_dt hR.len]
 rw [xk_dt hr.len hk] at hn
 have e1 : l.set k r = (l.eraseIdx k).take k ++ r :: (l.eraseIdx k).drop k := by
  rw [List.set_eq_take_append_cons_drop, if_pos hkl]
  rw [List.eraseIdx_eq_take_drop_succ]
  have hl1 : (l.take k).length = k := by rw [List.length_take]; omega
  rw [List.take_left' hl1, List.drop_left' hl1]
 have hlen : (l.eraseIdx k).length + 1 = (List.range p.rows.length).length := by
  rw [List.length_eraseIdx_of_lt hkl, List.length_range]; have := hr.len; omega
 have h1 := dt_ins (hasZ p) (rs := List.range p.rows.length) (w := l.eraseIdx k) (r := r) (by simpa using h4) hlen k (by rw [List.length_eraseIdx_of_lt hkl]; omega)
 rw [insN_take]
 have h2 := dt_ins (hasZ p) (rs := List.range p.rows.length) (w := l.eraseIdx k) (r := r) (by simpa using h4) hlen ((l.eraseIdx k).takeWhile (fun j => decide (j < r))).length (List.takeWhile_prefix _).length_le
 rw [e1] at hn
 intro h0
 rw [h0] at h2
 rw [← h2] at h1
 exact hn (Int.natAbs_eq_zero.1 h1)
end
theorem getD_nonneg {l : List Int} (h : nonneg l = true) (j : Nat) : 0 ≤ l.getD j 0 := nonneg_at h j
theorem nonneg_of {l : List Int} (h : ∀ j, 0 ≤ l.getD j 0) : nonneg l = true := by
 unfold nonneg
 rw [List.all_eq_true]
 intro x hx
 obtain ⟨j, hj, rfl⟩ := List.mem_iff_getElem.1 hx
 have := h j
 simpa [List.getD, List.getElem?_eq_getElem hj] using this
def dq (p : PG) (l : List Nat) (r j : Nat) : Rat := if j = r then 1 else -(xq (lookN (qOf p r) l) j)
def tq (p : PG) (l : List Nat) (r k : Nat) : Rat := xq (lookN p l) (l.getD k 0) / xq (lookN (qOf p r) l) (l.getD k 0)
theorem dir_ker {p : PG} {l : List Nat} (hp : mayPB p = true) (hr : RightL p l) (hd : denZ p l ≠ 0) {r : Nat} (hrl : r ∉ l) (hN : r < p.costs.length + p.rows.length) {i : Nat} (hi : i < p.rows.length) :
    sumR (fun j => aq p i j * dq p l r j) (p.costs.length + p.rows.length) = 0 := by
 obtain ⟨a1, a2, a3, hq⟩ := corn_of (qOf_may hp r) (qOf_right hr r) (by rw [qOf_den hr.len]; exact hd)
 have h1 := hq.rowQ (i := i) (by rw [qOf_len]; exact hi)
 rw [qOf_most p r hi, qOf_len] at h1
 simp only [show (qOf p r).costs = p.costs from rfl] at h1
 have e : sumR (fun j => aq p i j * dq p l r j) (p.costs.length + p.rows.length) = sumR (fun j => (if j = r then aq p i r else 0) + (-1) * (aq (qOf p r) i j * xq (lookN (qOf p r) l) j)) (p.costs.length + p.rows.length) := by
  refine sumR_congr fun j _ => ?_
  unfold dq
  have ha : aq (qOf p r) i j = aq p i j := by unfold aq; rw [qOf_has]
  rw [ha]
  by_cases hj : j = r
  ·subst hj; rw [if_pos rfl, if_pos rfl, hq.offQ hrl]; grind
  ·rw [if_neg hj, if_neg hj]; grind
 rw [e, sumR_add, sumR_mul, h1, sumR_one hN (fun j _ hj => if_neg hj), if_pos rfl]
 unfold aq; grind
theorem step_ok {p : PG} {l : List Nat} (ho : OKb p l) {r k : Nat} (hs : Stp p l r k) :
    OKb p (insN (l.eraseIdx k) r) ∧
    Piv p.rows.length (p.costs.length + p.rows.length) (aq p) (cq p) l (insN (l.eraseIdx k) r) (xq (lookN p l)) (xq (lookN p (insN (l.eraseIdx k) r))) (gq (lookN p l)) (dq p l r) (yq (lookN p l)) r (l.getD k 0) (tq p l r k) := by
 obtain ⟨hp, hr, hd, hx⟩ := ho
 obtain ⟨hin, hout⟩ := hs
 obtain ⟨gx, gy, gg, hc⟩ := corn_of hp hr hd
 obtain ⟨a1, a2, a3, hq⟩ := corn_of (qOf_may hp r) (qOf_right hr r) (by rw [qOf_den hr.len]; exact hd)
 have h4 := hc.rows4
 obtain ⟨i1, i2, i3⟩ := inZ_some hin
 rw [hc.lg] at i1
 have hx0 := getD_nonneg hx
 obtain ⟨o1, o2, o3⟩ := outZ_some hx0 hout
 have hk : k < p.rows.length := by rw [← hr.len]; exact o1
 have hrl : r ∉ l := by
  intro h
  obtain ⟨q, hq1, rfl⟩ := mem_getD.1 h
  have := hc.gain_own (k := q) (by rw [← hr.len]; exact hq1)
  omega
 have hs_mem : l.getD k 0 ∈ l := mem_getD.2 ⟨k, o1, rfl⟩
 have hless : ∀ i, i < l.length → (lessZ p l r).getD i 0 = (lookN (qOf p r) l).xs.getD (l.getD i 0) 0 := fun i hi => by unfold lessZ; rw [getD_map hi]
 rw [hless k o1] at o2
 have hxd : 0 < (lookN p l).xd := hc.px
 have hqd : 0 < (lookN (qOf p r) l).xd := hq.px
 have hsp : 0 < xq (lookN (qOf p r) l) (l.getD k 0) := (sign_div hqd).1.2 o2
 have hxs0 : ∀ j, 0 ≤ xq (lookN p l) j := fun j => (nonneg_div hxd).2 (hx0 j)
 have ht : tq p l r k * xq (lookN (qOf p r) l) (l.getD k 0) = xq (lookN p l) (l.getD k 0) := by unfold tq; grind
 have ht0 : 0 ≤ tq p l r k := by
  apply Classical.byContradiction
  intro hn
  have := Rat.mul_pos (show 0 < -(tq p l r k) by grind) hsp
  have := hxs0 (l.getD k 0)
  grind
 have hsr : l.getD k 0 ≠ r := fun e => hrl (e ▸ hs_mem)
 have hds : dq p l r (l.getD k 0) = -(xq (lookN (qOf p r) l) (l.getD k 0)) := by unfold dq; rw [if_neg hsr]
 have hmin : ∀ i, i < l.length → 0 < xq (lookN (qOf p r) l) (l.getD i 0) → tq p l r k * xq (lookN (qOf p r) l) (l.getD i 0) ≤ xq (lookN p l) (l.getD i 0) ∧ (tq p l r k * xq (lookN (qOf p r) l) (l.getD i 0) = xq (lookN p l) (l.getD i 0) → k ≤ i) := by
  intro i hi hpos
  have hpi : 0 < (lookN (qOf p r) l).xs.getD (l.getD i 0) 0 := (sign_div hqd).1.1 hpos
  have := o3 i hi (by rw [hless i hi]; exact hpi)
  rw [hless i hi, hless k o1] at this
  obtain ⟨m1, m2⟩ := this
  have e1 : xq (lookN p l) (l.getD k 0) * xq (lookN (qOf p r) l) (l.getD i 0) = (((lookN p l).xs.getD (l.getD k 0) 0 * (lookN (qOf p r) l).xs.getD (l.getD i 0) 0 : Int) : Rat) / (((lookN p l).xd * (lookN (qOf p r) l).xd : Int) : Rat) := by
   unfold xq; rw [Rat.intCast_mul, Rat.intCast_mul]
   have := cast_pos hxd; have := cast_pos hqd; grind
  have e2 : xq (lookN p l) (l.getD i 0) * xq (lookN (qOf p r) l) (l.getD k 0) = (((lookN p l).xs.getD (l.getD i 0) 0 * (lookN (qOf p r) l).xs.getD (l.getD k 0) 0 : Int) : Rat) / (((lookN p l).xd * (lookN (qOf p r) l).xd : Int) : Rat) := by
   unfold xq; rw [Rat.intCast_mul, Rat.intCast_mul]
   have := cast_pos hxd; have := cast_pos hqd; grind
  have hD : 0 < (lookN p l).xd * (lookN (qOf p r) l).xd := Int.mul_pos hxd hqd
  have e3 : xq (lookN p l) (l.getD i 0) * xq (lookN (qOf p r) l) (l.getD k 0) - xq (lookN p l) (l.getD k 0) * xq (lookN (qOf p r) l) (l.getD i 0) =
      (((lookN p l).xs.getD (l.getD i 0) 0 * (lookN (qOf p r) l).xs.getD (l.getD k 0) 0 - (lookN p l).xs.getD (l.getD k 0) 0 * (lookN (qOf p r) l).xs.getD (l.getD i 0) 0 : Int) : Rat) / (((lookN p l).xd * (lookN (qOf p r) l).xd : Int) : Rat) := by
   rw [e1, e2, Rat.intCast_sub]; grind
  have s1 : 0 ≤ xq (lookN p l) (l.getD i 0) * xq (lookN (qOf p r) l) (l.getD k 0) - xq (lookN p l) (l.getD k 0) * xq (lookN (qOf p r) l) (l.getD i 0) := by
   rw [e3]; exact (nonneg_div hD).2 (by omega)
  have s2 : xq (lookN p l) (l.getD i 0) * xq (lookN (qOf p r) l) (l.getD k 0) - xq (lookN p l) (l.getD k 0) * xq (lookN (qOf p r) l) (l.getD i 0) = (xq (lookN p l) (l.getD i 0) - tq p l r k * xq (lookN (qOf p r) l) (l.getD i 0)) * xq (lookN (qOf p r) l) (l.getD k 0) := by
   rw [← ht]; grind
  constructor
  ·apply Classical.byContradiction
   intro hn
   have := Rat.mul_pos (show 0 < -(xq (lookN p l) (l.getD i 0) - tq p l r k * xq (lookN (qOf p r) l) (l.getD i 0)) by grind) hsp
   grind
  ·intro he
   apply m2
   have z : (xq (lookN p l) (l.getD i 0) - tq p l r k * xq (lookN (qOf p r) l) (l.getD i 0)) * xq (lookN (qOf p r) l) (l.getD k 0) = 0 := by rw [he]; grind
   rw [z] at s2
   apply Classical.byContradiction
   intro hne
   have := (sign_div (a := (lookN p l).xs.getD (l.getD i 0) 0 * (lookN (qOf p r) l).xs.getD (l.getD k 0) 0 - (lookN p l).xs.getD (l.getD k 0) 0 * (lookN (qOf p r) l).xs.getD (l.getD i 0) 0) hD).1.2 (by omega)
   rw [← e3, s2] at this
   exact absurd this (by grind)
 have hxk : xk (qOf p r) l k ≠ 0 := by
  have h1 := hq.x (l.getD k 0)
  rw [xall_at (qOf_right hr r) (by rw [qOf_len]; exact hk)] at h1
  rw [h1]
  intro h0
  rcases Int.mul_eq_zero.1 h0 with e | e
  ·exact hq.nx e
  ·omega
 have hR := right_next hr o1 hrl i1
 have hD' := den_next hr h4 hk hxk hrl i1
 obtain ⟨b1, b2, b3, hc'⟩ := corn_of hp hR hD'
 have hstep : ∀ j, xq (lookN p (insN (l.eraseIdx k) r)) j = xq (lookN p l) j + tq p l r k * dq p l r j := by
  have hz := kernel hR h4 hD' (z := fun j => xq (lookN p (insN (l.eraseIdx k) r)) j - (xq (lookN p l) j + tq p l r k * dq p l r j)) ?_ ?_
  ·intro j; have := hz j; grind
  ·intro j hj
   have hj' : ¬ (j ∈ l ∧ j ≠ l.getD k 0) ∧ j ≠ r := ⟨fun q => hj (mem_insN.2 (Or.inl ((mem_erase hr o1).2 q))), fun q => hj (mem_insN.2 (Or.inr q))⟩
   rw [hc'.offQ hj]
   by_cases hjs : j = l.getD k 0
   ·subst hjs; rw [hds, ← ht]; grind
   ·have hjl : j ∉ l := fun q => hj'.1 ⟨q, hjs⟩
    rw [hc.offQ hjl]
    unfold dq
    rw [if_neg hj'.2, hq.offQ hjl]; grind
  ·intro i hi
   have k1 := hc'.rowQ hi
   have k2 := hc.rowQ hi
   have k3 := dir_ker hp hr hd hrl i1 hi
   have e : sumR (fun j => aq p i j * (xq (lookN p (insN (l.eraseIdx k) r)) j - (xq (lookN p l) j + tq p l r k * dq p l r j))) (p.costs.length + p.rows.length) =
       sumR (fun j => aq p i j * xq (lookN p (insN (l.eraseIdx k) r)) j + ((-1) * (aq p i j * xq (lookN p l) j) + (-(tq p l r k)) * (aq p i j * dq p l r j))) (p.costs.length + p.rows.length) :=
    sumR_congr fun j _ => by grind
   rw [e, sumR_add, sumR_add, sumR_mul, sumR_mul, k1, k2, k3]; grind
 have hdl : ∀ j, j ∈ l → dq p l r j = -(xq (lookN (qOf p r) l) j) := fun j hj => by unfold dq; rw [if_neg (show j ≠ r from fun e => hrl (by rw [← e]; exact hj))]
 refine ⟨⟨hp, hR, hD', nonneg_of fun j => ?_⟩, ?_⟩
 ·rw [← nonneg_div hc'.px]
  show 0 ≤ xq (lookN p (insN (l.eraseIdx k) r)) j
  rw [hstep j]
  by_cases hjr : j = r
  ·subst hjr
   rw [hc.offQ hrl]; unfold dq; rw [if_pos rfl]; grind
  ·by_cases hjl : j ∈ l
   ·rw [hdl j hjl]
    by_cases hpos : 0 < xq (lookN (qOf p r) l) j
    ·obtain ⟨i, hi, rfl⟩ := mem_getD.1 hjl
     have := (hmin i hi hpos).1
     grind
    ·have h1 := Rat.mul_nonneg ht0 (show 0 ≤ -(xq (lookN (qOf p r) l) j) by grind)
     have h2 := hxs0 j
     grind
   ·rw [hc.offQ hjl]; unfold dq; rw [if_neg hjr, hq.offQ hjl]; grind
 ·refine ⟨hrl, i1, hs_mem, hr.lt, ?_, fun j hj => hc.gainQ hj, fun j hj => hc.gainQ0 hj, (sign_div hc.pg).1.2 i2, ?_, fun i hi => dir_ker hp hr hd hrl i1 hi, ?_, ?_, ?_, ht0, ?_, ?_, fun j hj => hc.offQ hj, hstep⟩
  ·intro j
   rw [mem_insN, mem_erase hr o1]
  ·intro j hj
   have := i3 j hj
   apply Classical.byContradiction
   intro hn
   have := (sign_div hc.pg).1.1 (show 0 < gq (lookN p l) j by grind)
   omega
  ·unfold dq; rw [if_pos rfl]
  ·intro j hj hjr; unfold dq; rw [if_neg hjr, hq.offQ hj]; grind
  ·rw [hds]; grind
  ·rw [hds, ← ht]; grind
  ·intro j hj hdj
   rw [hdl j hj] at hdj ⊢
   obtain ⟨i, hi, rfl⟩ := mem_getD.1 hj
   obtain ⟨m1, m2⟩ := hmin i hi (by grind)
   refine ⟨by grind, fun e => ?_⟩
   have hki := m2 (by grind)
   rcases Nat.lt_or_ge k i with h | h
   ·have := hr.ne h hi; omega
   ·have : k = i := by omega
    subst this; exact Nat.le_refl _
def wk (p : PG) (l : List Nat) : Nat → Option (List Nat)
 | 0 => some l
 | n + 1 => (wk p l n).bind (nxtZ p)
theorem wk_ok {p : PG} {l : List Nat} (ho : OKb p l) : ∀ {n : Nat} {l' : List Nat}, wk p l n = some l' → OKb p l'
 | 0, l', h => by simp [wk] at h; exact h ▸ ho
 | n + 1, l', h => by
  simp only [wk, Option.bind_eq_some_iff] at h
  obtain ⟨l1, h1, h2⟩ := h
  obtain ⟨r, k, hs, rfl⟩ := stp_of h2
  exact (step_ok (wk_ok ho h1) hs).1
theorem wk_some {p : PG} {l : List Nat} {n : Nat} (h : wk p l n ≠ none) : ∀ {i}, i ≤ n → ∃ l', wk p l i = some l' := by
 intro i hi
 cases hw : wk p l i with
 | some l' => exact ⟨l', rfl⟩
 | none =>
  exfalso
  have : ∀ k, wk p l (i + k) = none := by
   intro k
   induction k with
   | zero => exact hw
   | succ k ih => rw [show i + (k + 1) = (i + k) + 1 by omega, wk, ih]; rfl
  have := this (n - i)
  rw [show i + (n - i) = n by omega] at this
  exact h this
set_option maxHeartbeats 1000000 in
theorem wk_once {p : PG} {l : List Nat} (ho : OKb p l) {a b : Nat} (hab : a < b) {la lb : List Nat} (ha : wk p l a = some la) (hb : wk p l b = some lb) : la ≠ lb := by
 intro he
 have hall : ∀ i, ∃ l', i ≤ b → wk p l i = some l' := by
  intro i
  by_cases hi : i ≤ b
  ·obtain ⟨l', h⟩ := wk_some (n := b) (by rw [hb]; simp) hi
   exact ⟨l', fun _ => h⟩
  ·exact ⟨[], fun h => absurd h hi⟩
 let L : Nat → List Nat := fun i => Classical.choose (hall i)
 have hL : ∀ i, i ≤ b → wk p l i = some (L i) := fun i hi => Classical.choose_spec (hall i) hi
 have hst : ∀ i, ∃ r k, i < b → Stp p (L i) r k ∧ L (i + 1) = insN ((L i).eraseIdx k) r := by
  intro i
  by_cases hi : i < b
  ·have h1 := hL (i + 1) (by omega)
   rw [wk, hL i (by omega)] at h1
   obtain ⟨r, k, h2, h3⟩ := stp_of h1
   exact ⟨r, k, fun _ => ⟨h2, h3⟩⟩
  ·exact ⟨0, 0, fun h => absurd h hi⟩
 let R : Nat → Nat := fun i => Classical.choose (hst i)
 let K : Nat → Nat := fun i => Classical.choose (Classical.choose_spec (hst i))
 have hS : ∀ i, i < b → Stp p (L i) (R i) (K i) ∧ L (i + 1) = insN ((L i).eraseIdx (K i)) (R i) := fun i hi => Classical.choose_spec (Classical.choose_spec (hst i)) hi
 have ea : L a = la := by have := hL a (by omega); rw [ha] at this; simpa using this.symm
 have eb : L b = lb := by have := hL b (by omega); rw [hb] at this; simpa using this.symm
 have eab : L a = L b := by rw [ea, eb, he]
 refine bland (m := p.rows.length) (N := p.costs.length + p.rows.length) (A := aq p) (c := cq p) (L := L) (X := fun i => xq (lookN p (L i))) (G := fun i => gq (lookN p (L i)))
  (D := fun i => dq p (L i) (R i)) (Y := fun i => yq (lookN p (L i))) (R := R) (S := fun i => (L i).getD (K i) 0) (T := fun i => tq p (L i) (R i) (K i)) hab ?_ ?_ ?_ ?_
 ·intro i h1 h2
  obtain ⟨h3, h4⟩ := hS i h2
  rw [h4]
  exact (step_ok (wk_ok ho (hL i (by omega))) h3).2
 ·intro j; rw [eab]
 ·intro j; show xq (lookN p (L b)) j = xq (lookN p (L a)) j; rw [eab]
 ·intro i h1 h2 j hj
  obtain ⟨gx, gy, gg, hc⟩ := corn_of (wk_ok ho (hL i h2)).hp (wk_ok ho (hL i h2)).hr (wk_ok ho (hL i h2)).hd
  exact hc.offQ hj
def code (l : List Nat) : Nat → Nat
 | 0 => 0
 | n + 1 => code l n + if n ∈ l then 2 ^ n else 0
theorem code_lt (l : List Nat) : ∀ n, code l n < 2 ^ n
 | 0 => by simp [code]
 | n + 1 => by
  have := code_lt l n
  rw [code, Nat.pow_succ]
  split <;> omega
theorem code_inj {l l' : List Nat} : ∀ {n : Nat}, code l n = code l' n → ∀ j, j < n → (j ∈ l ↔ j ∈ l')
 | 0, _, j, hj => by omega
 | n + 1, h, j, hj => by
  have h1 := code_lt l n
  have h2 := code_lt l' n
  rw [code, code] at h
  have hn : (n ∈ l ↔ n ∈ l') := by
   by_cases a : n ∈ l <;> by_cases b : n ∈ l' <;> simp only [a, b, if_true, if_false] at h ⊢ <;> omega
  have he : code l n = code l' n := by
   by_cases a : n ∈ l
   ·rw [if_pos a, if_pos (hn.1 a)] at h; omega
   ·rw [if_neg a, if_neg (fun q => a (hn.2 q))] at h; omega
  by_cases e : j = n
  ·subst e; exact hn
  ·exact code_inj he j (by omega)
theorem pw_ext : ∀ {l l' : List Nat}, l.Pairwise (· < ·) → l'.Pairwise (· < ·) → (∀ j, j ∈ l ↔ j ∈ l') → l = l'
 | [], [], _, _, _ => rfl
 | [], b :: l', _, _, h => by have := (h b).2 (by simp); simp at this
 | a :: l, [], _, _, h => by have := (h a).1 (by simp); simp at this
 | a :: l, b :: l', h1, h2, h => by
  rw [List.pairwise_cons] at h1 h2
  have e : a = b := by
   have ha := (h a).1 (by simp)
   have hb := (h b).2 (by simp)
   rcases List.mem_cons.1 ha with q | q
   ·exact q
   ·rcases List.mem_cons.1 hb with q' | q'
    ·exact q'.symm
    ·have := h1.1 b q'; have := h2.1 a q; omega
  subst e
  rw [pw_ext h1.2 h2.2 fun j => ?_]
  have := h j
  simp only [List.mem_cons] at this
  constructor
  ·intro q
   rcases this.1 (Or.inr q) with e | e
   ·have := h1.1 j q; omega
   ·exact e
  ·intro q
   rcases this.2 (Or.inr q) with e | e
   ·have := h2.1 j q; omega
   ·exact e
theorem wk_ends {p : PG} {l : List Nat} (ho : OKb p l) : wk p l (2 ^ (p.costs.length + p.rows.length)) = none := by
 apply Classical.byContradiction
 intro hn
 have hall := fun {i} => wk_some (p := p) (l := l) hn (i := i)
 obtain ⟨i, j, hij, hj, he⟩ := pig (2 ^ (p.costs.length + p.rows.length)) (fun i => code ((wk p l i).getD []) (p.costs.length + p.rows.length)) (fun i _ => code_lt _ _)
 obtain ⟨li, hi⟩ := hall (i := i) (by omega)
 obtain ⟨lj, hj'⟩ := hall (i := j) (by omega)
 rw [hi, hj'] at he
 simp only [Option.getD_some] at he
 have oi := wk_ok ho hi
 have oj := wk_ok ho hj'
 refine wk_once ho hij hi hj' (pw_ext oi.hr.pw oj.hr.pw fun q => ?_)
 by_cases hq : q < p.costs.length + p.rows.length
 ·exact code_inj he q hq
 ·exact ⟨fun h => absurd (oi.hr.lt q h) hq, fun h => absurd (oj.hr.lt q h) hq⟩
end Go.Proofs.YtjcdkbalhleeeaaGreatDoor

namespace Go.Proofs.YtjcdkbalhleeeaaGreatDoor
structure EN where
 op : Bool
 n : Int
 d : Int
deriving DecidableEq
structure NW where
 fr : EN
 to : EN
 no : Bool
deriving DecidableEq
def openE : EN := ⟨true, 0, 0⟩
def zeroE : EN := ⟨false, 0, 0⟩
def endE (n d : Int) : EN := ⟨false, frN n d, ptD [n] d⟩
def belowZ (s : NW) (a b : Int) : NW :=
 if b = 0 then ⟨s.fr, s.to, s.no || decide (0 < a)⟩
 else if 0 < b ∧ (s.to.op = true ∨ lessB (frN (-a) b) (ptD [-a] b) s.to.n s.to.d = true) then ⟨s.fr, endE (-a) b, s.no⟩
 else if b < 0 ∧ (s.fr.op = true ∨ lessB s.fr.n s.fr.d (frN (-a) b) (ptD [-a] b) = true) then ⟨endE (-a) b, s.to, s.no⟩
 else s
def cmpZ (a b c d : Int) : Int := a * d - c * b
def aboveZ (s : NW) (a b : Int) : NW :=
 if b = 0 then ⟨s.fr, s.to, s.no || decide (a < 0)⟩
 else
  let s1 : NW := if 0 < b ∧ (s.fr.op = true ∨ 0 < cmpZ (frN (0 - a) b) (ptD [0 - a] b) s.fr.n s.fr.d) then ⟨endE (0 - a) b, s.to, s.no⟩ else s
  if b < 0 ∧ (s1.to.op = true ∨ cmpZ (frN (0 - a) b) (ptD [0 - a] b) s1.to.n s1.to.d < 0) then ⟨s1.fr, endE (0 - a) b, s1.no⟩ else s1
def wholeN : NW := ⟨openE, openE, false⟩
def ofZ (f g : Nat → Int) (k : Nat) : NW := (List.range k).foldl (fun s j => belowZ s (f j) (g j)) wholeN
def upZ (f g : Nat → Int) (k : Nat) : NW := (List.range k).foldl (fun s j => aboveZ s (f j) (g j)) wholeN
def endsE (s : NW) : Int := if s.no = true ∨ (s.fr.op = false ∧ s.to.op = false ∧ lessB s.to.n s.to.d s.fr.n s.fr.d = true) then 4 else 0
def endsF (s : NW) : EN := if endsE s = 0 then s.fr else zeroE
def endsT (s : NW) : EN := if endsE s = 0 then s.to else zeroE
def someZ (s : NW) : Bool := !(s.no || (!s.fr.op && (!s.to.op && decide (0 < cmpZ s.fr.n s.fr.d s.to.n s.to.d))))
def EOk (e : EN) : Prop := e.op = true ∨ mayB [e.n] e.d = true
def NOk (s : NW) : Prop := EOk s.fr ∧ EOk s.to
theorem less_cmp {a b c d : Int} (h1 : mayB [a] b = true) (h2 : mayB [c] d = true) : lessB a b c d = true ↔ cmpZ a b c d < 0 := by
 simp only [lessB, h1, h2, cmpZ, Bool.true_and, decide_eq_true_eq]; omega
theorem ptE_neg {n d : Int} (hd : d ≠ 0) : ptE [-n] (-d) = ptE [n] d ∧ frN (-n) (-d) = frN n d ∧ ptD [-n] (-d) = ptD [n] d := by
 have hs := sgcd_neg (n := n) hd
 have e1 : divs [-n] (sgcd [-n] (-d)) = divs [n] (sgcd [n] d) := by rw [hs]; simp [divs]
 have e2 : (-d).tdiv (sgcd [-n] (-d)) = d.tdiv (sgcd [n] d) := by rw [hs]; simp
 have h1 : ∀ x : Int, (smallB 4611686018427387904 [-x] = false ↔ smallB 4611686018427387904 [x] = false) := by
  intro x; rw [smallB_one, smallB_one]; simp; omega
 have hE : ptE [-n] (-d) = ptE [n] d := by
  unfold ptE
  rw [e1, e2]
  have : (-d = 0 ∨ smallB 4611686018427387904 [-n] = false ∨ smallB 4611686018427387904 [-d] = false) ↔ (d = 0 ∨ smallB 4611686018427387904 [n] = false ∨ smallB 4611686018427387904 [d] = false) := by
   rw [h1, h1]; constructor <;> (rintro (q | q | q); exact Or.inl (by omega); exact Or.inr (Or.inl q); exact Or.inr (Or.inr q))
  simp only [this]
 refine ⟨hE, ?_, ?_⟩
 ·unfold frN ptN; rw [hE, e1]
 ·unfold ptD; rw [hE, e2]
theorem may_end {n d : Int} (h : ptE [n] d = 0) : mayB [frN n d] (ptD [n] d) = true := by
 have hN : ptN [n] d = [frN n d] := by unfold frN ptN; rw [if_pos h]; simp [divs]
 have := mayB_pt h
 rwa [hN] at this
theorem step_one {s : NW} {a b : Int} (hs : NOk s) (h : b ≠ 0 → ptE [-a] b = 0) : aboveZ s (0 - a) (0 - b) = belowZ s a b ∧ NOk (belowZ s a b) := by
 obtain ⟨h1, h2⟩ := hs
 by_cases hb : b = 0
 ·subst hb
  unfold aboveZ belowZ
  simp only [Int.sub_zero, if_true]
  refine ⟨?_, h1, h2⟩
  congr 2
  rw [decide_eq_decide]; omega
 have hE := h hb
 obtain ⟨n1, n2, n3⟩ := ptE_neg (n := -a) hb
 have eN : frN (0 - (0 - a)) (0 - b) = frN (-a) b := by rw [← n2]; congr 1 <;> omega
 have eD : ptD [0 - (0 - a)] (0 - b) = ptD [-a] b := by rw [← n3]; congr 1 <;> first | omega | (congr 1; omega)
 have hm := may_end hE
 have eE : endE (0 - (0 - a)) (0 - b) = endE (-a) b := by unfold endE; rw [eN, eD]
 have cmp1 : (s.to.op = true ∨ lessB (frN (-a) b) (ptD [-a] b) s.to.n s.to.d = true) ↔ (s.to.op = true ∨ cmpZ (frN (-a) b) (ptD [-a] b) s.to.n s.to.d < 0) := by
  rcases h2 with q | q
  ·simp [q]
  ·rw [less_cmp hm q]
 have cmp2 : (s.fr.op = true ∨ lessB s.fr.n s.fr.d (frN (-a) b) (ptD [-a] b) = true) ↔ (s.fr.op = true ∨ 0 < cmpZ (frN (-a) b) (ptD [-a] b) s.fr.n s.fr.d) := by
  rcases h1 with q | q
  ·simp [q]
  ·rw [less_cmp q hm]; unfold cmpZ; constructor <;> (rintro (w | w); exact Or.inl w; exact Or.inr (by omega))
 have hok : EOk (endE (-a) b) := Or.inr hm
 unfold aboveZ belowZ
 rw [if_neg (by omega), if_neg hb]
 simp only [eN, eD, eE]
 simp only [cmp1, cmp2]
 by_cases hp : 0 < b
 ·have hb1 : ¬ 0 < 0 - b := by omega
  have hb2 : 0 - b < 0 := by omega
  have hb3 : ¬ b < 0 := by omega
  simp only [hp, hb1, hb2, hb3, true_and, false_and, if_false]
  by_cases c : s.to.op = true ∨ cmpZ (frN (-a) b) (ptD [-a] b) s.to.n s.to.d < 0
  ·rw [if_pos c]; exact ⟨h1, hok⟩
  ·rw [if_neg c]; exact ⟨h1, h2⟩
 ·have hb1 : 0 < 0 - b := by omega
  have hb2 : ¬ 0 - b < 0 := by omega
  have hb3 : b < 0 := by omega
  simp only [hp, hb1, hb2, hb3, true_and, false_and, if_false]
  by_cases c : s.fr.op = true ∨ 0 < cmpZ (frN (-a) b) (ptD [-a] b) s.fr.n s.fr.d
  ·rw [if_pos c]; exact ⟨hok, h2⟩
  ·rw [if_neg c]; exact ⟨h1, h2⟩
theorem ofZ_succ (f g : Nat → Int) (k : Nat) : ofZ f g (k + 1) = belowZ (ofZ f g k) (f k) (g k) := by unfold ofZ; rw [List.range_succ, List.foldl_append]; rfl
theorem upZ_succ (f g : Nat → Int) (k : Nat) : upZ f g (k + 1) = aboveZ (upZ f g k) (f k) (g k) := by unfold upZ; rw [List.range_succ, List.foldl_append]; rfl
theorem of_up {f g f' g' : Nat → Int} {k : Nat} (hf : ∀ j, j < k → f' j = 0 - f j) (hg : ∀ j, j < k → g' j = 0 - g j) (hp : ∀ j, j < k → g j ≠ 0 → ptE [-(f j)] (g j) = 0) : upZ f' g' k = ofZ f g k ∧ NOk (ofZ f g k) := by
 induction k with
 | zero => exact ⟨rfl, Or.inl rfl, Or.inl rfl⟩
 | succ k ih =>
  obtain ⟨e, hok⟩ := ih (fun j hj => hf j (by omega)) (fun j hj => hg j (by omega)) (fun j hj => hp j (by omega))
  rw [upZ_succ, ofZ_succ, e, hf k (by omega), hg k (by omega)]
  exact step_one hok (hp k (by omega))
theorem ends_some {s : NW} (h : NOk s) : endsE s = 0 ↔ someZ s = true := by
 obtain ⟨h1, h2⟩ := h
 unfold endsE someZ
 cases hn : s.no
 ·cases hf : s.fr.op
  ·cases ht : s.to.op
   ·have m1 : mayB [s.fr.n] s.fr.d = true := by rcases h1 with q | q; rw [hf] at q; simp at q; exact q
    have m2 : mayB [s.to.n] s.to.d = true := by rcases h2 with q | q; rw [ht] at q; simp at q; exact q
    have := less_cmp m2 m1
    simp only [this]
    unfold cmpZ
    simp
    try omega
   ·simp
  ·simp
 ·simp
def inE (s : NW) (n d : Int) : Prop := s.no = false ∧ (s.fr.op = true ∨ s.fr.n * d ≤ n * s.fr.d) ∧ (s.to.op = true ∨ n * s.to.d ≤ s.to.n * d)
theorem frac_pos {n d : Int} (h : ptE [n] d = 0) : 0 < ptD [n] d ∧ frN n d * d = n * ptD [n] d := ⟨(fr_cross' h).2, (fr_cross' h).1⟩
where fr_cross' {n d : Int} (h : ptE [n] d = 0) : frN n d * d = n * ptD [n] d ∧ 0 < ptD [n] d := by
        have h0 : d ≠ 0 := fun e => by subst e; simp [ptE] at h
        rw [frN_eq h, ptD_eq h]
        exact ⟨sgcd_cross h0, sgcd_sign h0⟩
def EPos (e : EN) : Prop := e.op = true ∨ 0 < e.d
def NPos (s : NW) : Prop := EPos s.fr ∧ EPos s.to
theorem NOk.pos {s : NW} (h : NOk s) : NPos s := by
 have key : ∀ e, EOk e → EPos e := fun e h => by
  rcases h with q | q
  ·exact Or.inl q
  ·right
   simp only [mayB, rightB, Bool.and_eq_true, decide_eq_true_eq] at q
   omega
 exact ⟨key _ h.1, key _ h.2⟩
theorem at_end {a b n d : Int} (hE : ptE [-a] b = 0) :
    (0 < b → (a * d + n * b ≤ 0 ↔ n * ptD [-a] b ≤ frN (-a) b * d)) ∧ (b < 0 → (a * d + n * b ≤ 0 ↔ frN (-a) b * d ≤ n * ptD [-a] b)) := by
 obtain ⟨hp, hc⟩ := frac_pos hE
 generalize frN (-a) b = N at *
 generalize ptD [-a] b = D at *
 have key : (a * d + n * b) * D = (n * D - N * d) * b := by grind
 constructor
 ·intro hb
  constructor
  ·intro h
   have h1 : (a * d + n * b) * D ≤ 0 := Int.mul_nonpos_of_nonpos_of_nonneg h (by omega)
   rw [key] at h1
   by_cases q : n * D ≤ N * d
   ·exact q
   ·have := Int.mul_pos (show 0 < n * D - N * d by omega) hb; omega
  ·intro h
   have h1 : (n * D - N * d) * b ≤ 0 := Int.mul_nonpos_of_nonpos_of_nonneg (by omega) (by omega)
   rw [← key] at h1
   by_cases q : a * d + n * b ≤ 0
   ·exact q
   ·have := Int.mul_pos (show 0 < a * d + n * b by omega) hp; omega
 ·intro hb
  constructor
  ·intro h
   have h1 : (a * d + n * b) * D ≤ 0 := Int.mul_nonpos_of_nonpos_of_nonneg h (by omega)
   rw [key] at h1
   by_cases q : N * d ≤ n * D
   ·exact q
   ·have := Int.mul_pos_of_neg_of_neg (show n * D - N * d < 0 by omega) hb; omega
  ·intro h
   have h1 : (n * D - N * d) * b ≤ 0 := Int.mul_nonpos_of_nonneg_of_nonpos (by omega) (by omega)
   rw [← key] at h1
   by_cases q : a * d + n * b ≤ 0
   ·exact q
   ·have := Int.mul_pos (show 0 < a * d + n * b by omega) hp; omega
theorem cross_le {a b c d n e : Int} (hb : 0 < b) (hd : 0 < d) (he : 0 < e) : a * d ≤ c * b → n * b ≤ a * e → n * d ≤ c * e := by
 intro h1 h2
 have k1 : n * d * b ≤ c * e * b := by
  have a1 := Int.mul_le_mul_of_nonneg_right h2 (show 0 ≤ d by omega)
  have a2 := Int.mul_le_mul_of_nonneg_right h1 (show 0 ≤ e by omega)
  have e1 : n * b * d = n * d * b := by ac_rfl
  have e2 : a * e * d = a * d * e := by ac_rfl
  have e3 : c * b * e = c * e * b := by ac_rfl
  omega
 exact Int.le_of_mul_le_mul_right k1 hb
theorem step_in {s : NW} {a b n d : Int} (hs : NOk s) (h : b ≠ 0 → ptE [-a] b = 0) (hd : 0 < d) : inE (belowZ s a b) n d ↔ inE s n d ∧ a * d + n * b ≤ 0 := by
 have hP := hs.pos
 obtain ⟨h1, h2⟩ := hs
 by_cases hb : b = 0
 ·subst hb
  unfold belowZ inE
  simp only [if_true, Bool.or_eq_false_iff, decide_eq_false_iff_not, Int.mul_zero, Int.add_zero]
  have : (¬ 0 < a) ↔ a * d ≤ 0 := by
   constructor
   ·intro q; exact Int.mul_nonpos_of_nonpos_of_nonneg (by omega) (by omega)
   ·intro q r; have := Int.mul_pos r hd; omega
  rw [this]
  constructor
  ·rintro ⟨⟨x, y⟩, z⟩; exact ⟨⟨x, z⟩, y⟩
  ·rintro ⟨⟨x, z⟩, y⟩; exact ⟨⟨x, y⟩, z⟩
 have hE := h hb
 have hm := may_end hE
 obtain ⟨hp, _⟩ := frac_pos hE
 obtain ⟨k1, k2⟩ := at_end (n := n) (d := d) hE
 unfold belowZ
 rw [if_neg hb]
 by_cases hpos : 0 < b
 ·have hnn : ¬ b < 0 := by omega
  simp only [hpos, hnn, true_and, false_and, if_false]
  rw [k1 hpos]
  by_cases c : s.to.op = true ∨ lessB (frN (-a) b) (ptD [-a] b) s.to.n s.to.d = true
  ·rw [if_pos c]
   unfold inE endE
   simp only [Bool.false_eq_true, false_or]
   constructor
   ·rintro ⟨x, y, z⟩
    refine ⟨⟨x, y, ?_⟩, z⟩
    rcases c with c | c
    ·exact Or.inl c
    ·rcases h2 with q | q
     ·exact Or.inl q
     ·right
      rw [less_cmp hm q] at c
      have hq : 0 < s.to.d := by simp only [mayB, rightB, Bool.and_eq_true, decide_eq_true_eq] at q; omega
      exact cross_le hp hq hd (by unfold cmpZ at c; omega) z
   ·rintro ⟨⟨x, y, _⟩, z⟩; exact ⟨x, y, z⟩
  ·rw [if_neg c]
   unfold inE
   constructor
   ·rintro ⟨x, y, z⟩
    refine ⟨⟨x, y, z⟩, ?_⟩
    have c1 : ¬ s.to.op = true := fun q => c (Or.inl q)
    rcases z with z | z
    ·exact absurd z c1
    ·have q : mayB [s.to.n] s.to.d = true := by rcases h2 with q | q; exact absurd q c1; exact q
     have hq : 0 < s.to.d := by rcases hP.2 with w | w; exact absurd w c1; exact w
     have c2 : ¬ cmpZ (frN (-a) b) (ptD [-a] b) s.to.n s.to.d < 0 := fun w => c (Or.inr ((less_cmp hm q).2 w))
     exact cross_le hq hp hd (by unfold cmpZ at c2; omega) z
   ·rintro ⟨x, _⟩; exact x
 ·have hneg : b < 0 := by omega
  simp only [hpos, hneg, true_and, false_and, if_false]
  rw [k2 hneg]
  have cl : ∀ {a b c d n e : Int}, 0 < b → 0 < d → 0 < e → c * b ≤ a * d → a * e ≤ n * b → c * e ≤ n * d := by
   intro a b c d n e hb hd he h1 h2
   have k1 : c * e * b ≤ n * d * b := by
    have a1 := Int.mul_le_mul_of_nonneg_right h2 (show 0 ≤ d by omega)
    have a2 := Int.mul_le_mul_of_nonneg_right h1 (show 0 ≤ e by omega)
    have e1 : n * b * d = n * d * b := by ac_rfl
    have e2 : a * e * d = a * d * e := by ac_rfl
    have e3 : c * b * e = c * e * b := by ac_rfl
    omega
   exact Int.le_of_mul_le_mul_right k1 hb
  by_cases c : s.fr.op = true ∨ lessB s.fr.n s.fr.d (frN (-a) b) (ptD [-a] b) = true
  ·rw [if_pos c]
   unfold inE endE
   simp only [Bool.false_eq_true, false_or]
   constructor
   ·rintro ⟨x, y, z⟩
    refine ⟨⟨x, ?_, z⟩, y⟩
    rcases c with c | c
    ·exact Or.inl c
    ·rcases h1 with q | q
     ·exact Or.inl q
     ·right
      rw [less_cmp q hm] at c
      have hq : 0 < s.fr.d := by simp only [mayB, rightB, Bool.and_eq_true, decide_eq_true_eq] at q; omega
      exact cl hp hq hd (by unfold cmpZ at c; omega) y
   ·rintro ⟨⟨x, _, z⟩, y⟩; exact ⟨x, y, z⟩
  ·rw [if_neg c]
   unfold inE
   constructor
   ·rintro ⟨x, y, z⟩
    refine ⟨⟨x, y, z⟩, ?_⟩
    have c1 : ¬ s.fr.op = true := fun q => c (Or.inl q)
    rcases y with y | y
    ·exact absurd y c1
    ·have q : mayB [s.fr.n] s.fr.d = true := by rcases h1 with q | q; exact absurd q c1; exact q
     have hq : 0 < s.fr.d := by rcases hP.1 with w | w; exact absurd w c1; exact w
     have c2 : ¬ cmpZ s.fr.n s.fr.d (frN (-a) b) (ptD [-a] b) < 0 := fun w => c (Or.inr ((less_cmp q hm).2 w))
     exact cl hq hp hd (by unfold cmpZ at c2; omega) y
   ·rintro ⟨x, _⟩; exact x
theorem of_in {f g : Nat → Int} {n d : Int} (hd : 0 < d) {k : Nat} (hp : ∀ j, j < k → g j ≠ 0 → ptE [-(f j)] (g j) = 0) : inE (ofZ f g k) n d ↔ ∀ j, j < k → f j * d + n * g j ≤ 0 := by
 induction k with
 | zero => simp [ofZ, inE, wholeN, openE]
 | succ k ih =>
  have hok := (of_up (f := f) (g := g) (f' := fun j => 0 - f j) (g' := fun j => 0 - g j) (k := k) (fun _ _ => rfl) (fun _ _ => rfl) (fun j hj => hp j (by omega))).2
  rw [ofZ_succ, step_in hok (hp k (by omega)) hd, ih fun j hj => hp j (by omega)]
  constructor
  ·rintro ⟨h1, h2⟩ j hj
   by_cases e : j = k
   ·subst e; exact h2
   ·exact h1 j (by omega)
  ·intro h; exact ⟨fun j hj => h j (by omega), h k (by omega)⟩
theorem ends_in {s : NW} (hs : NOk s) {n d : Int} (hd : 0 < d) : (endsE s = 0 ∧ ((endsF s).op = true ∨ 0 ≤ cmpZ n d (endsF s).n (endsF s).d) ∧ ((endsT s).op = true ∨ cmpZ n d (endsT s).n (endsT s).d ≤ 0)) ↔ inE s n d := by
 have hP := hs.pos
 have hsm := ends_some hs
 by_cases h0 : endsE s = 0
 ·unfold endsF endsT
  rw [if_pos h0, if_pos h0]
  unfold inE cmpZ
  have hno : s.no = false := by
   unfold endsE at h0
   split at h0
   ·omega
   ·rename_i q; cases hh : s.no; rfl; exact absurd (Or.inl hh) q
  constructor
  ·rintro ⟨_, x, y⟩
   exact ⟨hno, x.imp id (fun q => by omega), y.imp id (fun q => by omega)⟩
  ·rintro ⟨_, x, y⟩
   exact ⟨h0, x.imp id (fun q => by omega), y.imp id (fun q => by omega)⟩
 ·refine ⟨fun h => absurd h.1 h0, fun h => ?_⟩
  exfalso
  unfold inE at h
  obtain ⟨x, y, z⟩ := h
  unfold endsE at h0
  split at h0
  rotate_left
  ·exact h0 rfl
  rename_i q
  rcases q with q | ⟨q1, q2, q3⟩
  ·rw [x] at q; simp at q
  ·rw [q1] at y; rw [q2] at z
   simp at y z
   obtain ⟨⟨o1, o2⟩⟩ := (show Nonempty (EOk s.fr ∧ EOk s.to) from ⟨hs.1, hs.2⟩)
   have m1 : mayB [s.fr.n] s.fr.d = true := by rcases o1 with w | w; rw [q1] at w; simp at w; exact w
   have m2 : mayB [s.to.n] s.to.d = true := by rcases o2 with w | w; rw [q2] at w; simp at w; exact w
   rw [less_cmp m2 m1] at q3
   unfold cmpZ at q3
   have d1 : 0 < s.fr.d := by rcases hP.1 with w | w; rw [q1] at w; simp at w; exact w
   have d2 : 0 < s.to.d := by rcases hP.2 with w | w; rw [q2] at w; simp at w; exact w
   have k1 := Int.mul_le_mul_of_nonneg_right y (show 0 ≤ s.to.d by omega)
   have k2 := Int.mul_le_mul_of_nonneg_right z (show 0 ≤ s.fr.d by omega)
   have k3 := Int.mul_lt_mul_of_pos_right (show s.to.n * s.fr.d < s.fr.n * s.to.d by omega) hd
   have e1 : s.fr.n * d * s.to.d = s.fr.n * s.to.d * d := by ac_rfl
   have e2 : n * s.fr.d * s.to.d = n * s.to.d * s.fr.d := by ac_rfl
   have e3 : s.to.n * d * s.fr.d = s.to.n * s.fr.d * d := by ac_rfl
   omega
end Go.Proofs.YtjcdkbalhleeeaaGreatDoor

namespace Go.Proofs.YtjcdkbalhleeeaaGreatDoor
theorem pt_like {n d a b : Int} (hd : d ≠ 0) (hb : b ≠ 0) (h : n * b = a * d) (hn : -4611686018427387904 ≤ n ∧ n ≤ 4611686018427387904) (hd2 : -4611686018427387904 ≤ d ∧ d ≤ 4611686018427387904)
    (ha : -1073741824 ≤ a ∧ a ≤ 1073741824) (hb2 : -1073741824 ≤ b ∧ b ≤ 1073741824) : ptE [n] d = 0 := by
 have hs : smallB 4611686018427387904 [n] = true := by rw [smallB_one]; simp; omega
 rw [ptE_of hd hs hd2, if_pos]
 have h1 := sgcd_sign (l := [n]) hd
 have h0 := sgcd_ne (l := [n]) hd
 obtain ⟨g1, g2⟩ := sgcd_dvd (l := [n]) (d := d)
 have e1 : sgcd [n] d * d.tdiv (sgcd [n] d) = d := Int.mul_tdiv_cancel' g1
 have e2 : sgcd [n] d * n.tdiv (sgcd [n] d) = n := Int.mul_tdiv_cancel' (g2 n (by simp))
 have hc := comm_divs [n] d hd
 have hc' : Nat.gcd (d.tdiv (sgcd [n] d)).natAbs (n.tdiv (sgcd [n] d)).natAbs = 1 := by simpa [comm, divs] using hc
 simp only [rightB, Bool.and_eq_true, decide_eq_true_eq, length_divs]
 simp only [divs, List.map_cons, List.map_nil, smallB_one, Bool.and_eq_true, decide_eq_true_eq, List.length_cons, List.length_nil]
 generalize sgcd [n] d = g at *
 generalize d.tdiv g = D at *
 generalize n.tdiv g = N at *
 have hND : N * b = a * D := by
  have : g * (N * b) = g * (a * D) := by
   rw [show g * (N * b) = g * N * b by ac_rfl, e2, h, ← e1]; ac_rfl
  exact Int.eq_of_mul_eq_mul_left h0 this
 have hDb : D.natAbs ∣ b.natAbs := by
  refine (Nat.Coprime.dvd_of_dvd_mul_left (show Nat.Coprime D.natAbs N.natAbs from hc') ?_)
  rw [← Int.natAbs_mul, hND, Int.natAbs_mul]
  exact Nat.dvd_mul_left _ _
 have hNa : N.natAbs ∣ a.natAbs := by
  refine (Nat.Coprime.dvd_of_dvd_mul_right (show Nat.Coprime N.natAbs D.natAbs from by rw [Nat.coprime_comm]; exact hc') ?_)
  rw [← Int.natAbs_mul, ← hND, Int.natAbs_mul]
  exact Nat.dvd_mul_right _ _
 have hD1 := Nat.le_of_dvd (by omega) hDb
 have hN1 : N.natAbs ≤ a.natAbs := by
  by_cases h : a = 0
  ·subst h
   have : N * b = 0 := by rw [hND]; simp
   rcases Int.mul_eq_zero.1 this with q | q
   ·subst q; simp
   ·exact absurd q hb
  ·exact Nat.le_of_dvd (by omega) hNa
 omega
theorem span_pt {A B den gA gB u v dA dB : Int} (nA : gA ≠ 0) (nB : gB ≠ 0) (hA : A = gA * u) (hB : B = gB * v) (eA : den = gA * dA) (eB : den = gB * dB)
    (bA : -1073741824 ≤ A ∧ A ≤ 1073741824) (bB : -1073741824 ≤ B ∧ B ≤ 1073741824)
    (bu : -1073741824 ≤ u ∧ u ≤ 1073741824) (bv : -1073741824 ≤ v ∧ v ≤ 1073741824) (bdA : -1073741824 ≤ dA ∧ dA ≤ 1073741824) (bdB : -1073741824 ≤ dB ∧ dB ≤ 1073741824)
    (h : v * dA ≠ 0) : ptE [-(u * dB)] (v * dA) = 0 := by
 have m1 := mul_bound u dB 1073741824 1073741824 bu.1 bu.2 bdB.1 bdB.2
 have m2 := mul_bound v dA 1073741824 1073741824 bv.1 bv.2 bdA.1 bdA.2
 have hB0 : B ≠ 0 := fun e => by
  rw [e] at hB
  rcases Int.mul_eq_zero.1 hB.symm with q | q
  ·exact nB q
  ·rw [q] at h; simp at h
 refine pt_like (a := -A) (b := B) h hB0 ?_ (by omega) (by omega) (by omega) bB
 have e : gA * gB * (u * dB * B) = gA * gB * (A * (v * dA)) := by
  calc gA * gB * (u * dB * B) = (gA * u) * (gB * dB) * B := by ac_rfl
   _ = A * den * B := by rw [← hA, ← eB]
   _ = A * (gA * dA) * (gB * v) := by rw [← eA, ← hB]
   _ = gA * gB * (A * (v * dA)) := by ac_rfl
 have hg : gA * gB ≠ 0 := fun q => by
  rcases Int.mul_eq_zero.1 q with q | q
  ·exact nA q
  ·exact nB q
 have := Int.eq_of_mul_eq_mul_left hg e
 rw [Int.neg_mul, Int.neg_mul, this]
def costsOf (p : PG) (by_ : List Int) : PG := ⟨by_, p.rows⟩
section
variable {p : PG} {b : List Int} {l : List Nat}
theorem costs_has (h : b.length = p.costs.length) (i j : Nat) : hasZ (costsOf p b) i j = hasZ p i j := by unfold hasZ costsOf; simp only [h]
theorem costs_right (h : b.length = p.costs.length) (hr : RightL p l) : RightL (costsOf p b) l := ⟨hr.len, fun j hj => by have := hr.lt j hj; show j < b.length + p.rows.length; omega, hr.pw⟩
theorem costs_den (h : b.length = p.costs.length) : denZ (costsOf p b) l = denZ p l := by
 unfold denZ
 have e : matD (costsOf p b) l = matD p l := by
  funext i j; unfold matD; rw [costs_has h]; rfl
 rw [e]; rfl
theorem costs_may (h : b.length = p.costs.length) (hp : mayPB p = true) (hs : smallB 400 b = true) : mayPB (costsOf p b) = true := by
 obtain ⟨h1, h2, h3, h4, h5, h6⟩ := mayPB_iff.1 hp
 exact mayPB_iff.2 ⟨by show 1 ≤ b.length; omega, by show b.length ≤ 4; omega, h3, h4, hs, by show p.rows.all (rowB b.length) = true; rw [h]; exact h6⟩
theorem costs_E (h : b.length = p.costs.length) (hs : smallB 400 b = true) {at_ : List Int} (he : lookE p at_ = 0) : lookE (costsOf p b) at_ = 0 := by
 unfold lookE at he ⊢
 split at he
 ·omega
 rename_i h1
 split at he
 ·omega
 rename_i h2
 split at he
 ·omega
 rename_i h3
 rw [if_neg (by rw [costs_may h (by simpa using h1) hs]; simp), if_neg, if_neg (by rw [costs_den h]; exact h3)]
 have : rightA (costsOf p b) at_ = rightA p at_ := by unfold rightA costsOf; simp only [h]
 rw [this]; exact h2
end
end Go.Proofs.YtjcdkbalhleeeaaGreatDoor

namespace Go.Proofs.YtjcdkbalhleeeaaGreatDoor
theorem pivot_x {p : PG} {l : List Nat} (hp : mayPB p = true) (hr : RightL p l) (hd : denZ p l ≠ 0) {r k : Nat} (hrl : r ∉ l) (hN : r < p.costs.length + p.rows.length) (o1 : k < l.length)
    (hn : (lookN (qOf p r) l).xs.getD (l.getD k 0) 0 ≠ 0) :
    RightL p (insN (l.eraseIdx k) r) ∧ denZ p (insN (l.eraseIdx k) r) ≠ 0 ∧ ∀ j, xq (lookN p (insN (l.eraseIdx k) r)) j = xq (lookN p l) j + tq p l r k * dq p l r j := by
 obtain ⟨gx, gy, gg, hc⟩ := corn_of hp hr hd
 obtain ⟨a1, a2, a3, hq⟩ := corn_of (qOf_may hp r) (qOf_right hr r) (by rw [qOf_den hr.len]; exact hd)
 have h4 := hc.rows4
 have hk : k < p.rows.length := by rw [← hr.len]; exact o1
 have hs_mem : l.getD k 0 ∈ l := mem_getD.2 ⟨k, o1, rfl⟩
 have hqd : 0 < (lookN (qOf p r) l).xd := hq.px
 have hsp : xq (lookN (qOf p r) l) (l.getD k 0) ≠ 0 := by
  intro h
  rcases Int.lt_or_gt_of_ne hn with q | q
  ·have := (sign_div hqd).2.2 q; unfold xq at h; rw [h] at this; grind
  ·have := (sign_div hqd).1.2 q; unfold xq at h; rw [h] at this; grind
 have ht : tq p l r k * xq (lookN (qOf p r) l) (l.getD k 0) = xq (lookN p l) (l.getD k 0) := by unfold tq; grind
 have hsr : l.getD k 0 ≠ r := fun e => hrl (e ▸ hs_mem)
 have hds : dq p l r (l.getD k 0) = -(xq (lookN (qOf p r) l) (l.getD k 0)) := by unfold dq; rw [if_neg hsr]
 have hxk : xk (qOf p r) l k ≠ 0 := by
  have h1 := hq.x (l.getD k 0)
  rw [xall_at (qOf_right hr r) (by rw [qOf_len]; exact hk)] at h1
  rw [h1]
  intro h0
  rcases Int.mul_eq_zero.1 h0 with e | e
  ·exact hq.nx e
  ·exact hn e
 have hR := right_next hr o1 hrl hN
 have hD' := den_next hr h4 hk hxk hrl hN
 obtain ⟨b1, b2, b3, hc'⟩ := corn_of hp hR hD'
 refine ⟨hR, hD', ?_⟩
 have hz := kernel hR h4 hD' (z := fun j => xq (lookN p (insN (l.eraseIdx k) r)) j - (xq (lookN p l) j + tq p l r k * dq p l r j)) ?_ ?_
 ·intro j; have := hz j; grind
 ·intro j hj
  have hj' : ¬ (j ∈ l ∧ j ≠ l.getD k 0) ∧ j ≠ r := ⟨fun q => hj (mem_insN.2 (Or.inl ((mem_erase hr o1).2 q))), fun q => hj (mem_insN.2 (Or.inr q))⟩
  rw [hc'.offQ hj]
  by_cases hjs : j = l.getD k 0
  ·subst hjs; rw [hds, ← ht]; grind
  ·have hjl : j ∉ l := fun q => hj'.1 ⟨q, hjs⟩
   rw [hc.offQ hjl]
   unfold dq
   rw [if_neg hj'.2, hq.offQ hjl]; grind
 ·intro i hi
  have k1 := hc'.rowQ hi
  have k2 := hc.rowQ hi
  have k3 := dir_ker hp hr hd hrl hN hi
  have e : sumR (fun j => aq p i j * (xq (lookN p (insN (l.eraseIdx k) r)) j - (xq (lookN p l) j + tq p l r k * dq p l r j))) (p.costs.length + p.rows.length) =
      sumR (fun j => aq p i j * xq (lookN p (insN (l.eraseIdx k) r)) j + ((-1) * (aq p i j * xq (lookN p l) j) + (-(tq p l r k)) * (aq p i j * dq p l r j))) (p.costs.length + p.rows.length) :=
   sumR_congr fun j _ => by grind
  rw [e, sumR_add, sumR_add, sumR_mul, sumR_mul, k1, k2, k3]; grind
theorem pivot_r {p : PG} {l : List Nat} (hp : mayPB p = true) (hr : RightL p l) (hd : denZ p l ≠ 0) {r k : Nat} (hrl : r ∉ l) (hN : r < p.costs.length + p.rows.length) (o1 : k < l.length)
    (hn : (lookN (qOf p r) l).xs.getD (l.getD k 0) 0 ≠ 0) : xq (lookN p (insN (l.eraseIdx k) r)) r = tq p l r k := by
 obtain ⟨gx, gy, gg, hc⟩ := corn_of hp hr hd
 rw [(pivot_x hp hr hd hrl hN o1 hn).2.2 r, hc.offQ hrl]
 unfold dq; rw [if_pos rfl]; grind
def colN (c : CO) (j : Nat) : Int := frN (c.xs.getD j 0) c.xd
def colD (c : CO) (j : Nat) : Int := ptD [c.xs.getD j 0] c.xd
theorem frac_same {a b d e : Int} (hb : 0 < b) (he : 0 < e) (h : (a : Rat) / (b : Rat) = (d : Rat) / (e : Rat)) : a * e = d * b := by
 have h1 := cast_pos hb; have h2 := cast_pos he
 have : (a : Rat) * e = d * b := by grind
 exact_mod_cast this
theorem lt_div {a b c d : Int} (hb : 0 < b) (hd : 0 < d) : (a : Rat) / (b : Rat) < (c : Rat) / (d : Rat) ↔ a * d - c * b < 0 := by
 have h1 := cast_pos hb; have h2 := cast_pos hd
 have e : (a : Rat) / (b : Rat) - (c : Rat) / (d : Rat) = ((a * d - c * b : Int) : Rat) / ((b * d : Int) : Rat) := by
  rw [Rat.intCast_sub, Rat.intCast_mul, Rat.intCast_mul, Rat.intCast_mul]; grind
 have hbd := Int.mul_pos hb hd
 rw [← (sign_div (a := a * d - c * b) hbd).2, ← e]
 constructor <;> intro h <;> grind
theorem col_eq {p : PG} {l : List Nat} {c : CO} {gx gy gg : Int} (h : Corn p l c gx gy gg) (j : Nat) : ptE [c.xs.getD j 0] c.xd = 0 ∧ (colN c j : Rat) / (colD c j : Rat) = xq c j ∧ 0 < colD c j := by
 have hm := mayB_parts h.mx
 have hs := smallB_getD (l := c.xs) (m := 1073741824) (by omega)
 have hb := hs.1 hm.2.2.1 j
 have hE : ptE [c.xs.getD j 0] c.xd = 0 := by
  refine pt_like (a := c.xs.getD j 0) (b := c.xd) (by have := h.px; omega) (by have := h.px; omega) rfl (by omega) ?_ hb ?_
  ·have := h.px; omega
  ·have := h.px; omega
 obtain ⟨c1, c2⟩ := frac_pos hE
 refine ⟨hE, ?_, c1⟩
 unfold colN colD xq
 have h1 := cast_pos c1
 have h2 := cast_pos h.px
 have h3 : (frN (c.xs.getD j 0) c.xd : Rat) * (c.xd : Rat) = (c.xs.getD j 0 : Rat) * (ptD [c.xs.getD j 0] c.xd : Rat) := by
  rw [← Rat.intCast_mul, ← Rat.intCast_mul, c2]
 grind
where
 near_iff {p : PG} {l : List Nat} (hp : mayPB p = true) (hr : RightL p l) (hd : denZ p l ≠ 0) {r : Nat} (hrl : r ∉ l) (hN : r < p.costs.length + p.rows.length) {k q : Nat} (hk : k < l.length) (hq : q < l.length)
     (h1 : 0 < (lookN (qOf p r) l).xs.getD (l.getD k 0) 0) (h2 : 0 < (lookN (qOf p r) l).xs.getD (l.getD q 0) 0) :
     cmpZ (colN (lookN p (insN (l.eraseIdx k) r)) r) (colD (lookN p (insN (l.eraseIdx k) r)) r) (colN (lookN p (insN (l.eraseIdx q) r)) r) (colD (lookN p (insN (l.eraseIdx q) r)) r) < 0 ↔
      nearB (lookN p l).xs l (lessZ p l r) k (some q) = true := by
  have hk1 : (lookN (qOf p r) l).xs.getD (l.getD k 0) 0 ≠ 0 := by omega
  have hq1 : (lookN (qOf p r) l).xs.getD (l.getD q 0) 0 ≠ 0 := by omega
  have pk := pivot_x hp hr hd hrl hN hk hk1
  have pq := pivot_x hp hr hd hrl hN hq hq1
  obtain ⟨_, _, _, ck⟩ := corn_of hp pk.1 pk.2.1
  obtain ⟨_, _, _, cq⟩ := corn_of hp pq.1 pq.2.1
  obtain ⟨_, ek, dk⟩ := col_eq ck r
  obtain ⟨_, eq, dq'⟩ := col_eq cq r
  unfold cmpZ
  rw [← lt_div dk dq', ek, eq, pivot_r hp hr hd hrl hN hk hk1, pivot_r hp hr hd hrl hN hq hq1]
  obtain ⟨_, _, _, hc⟩ := corn_of hp hr hd
  obtain ⟨_, _, _, hQ⟩ := corn_of (qOf_may hp r) (qOf_right hr r) (by rw [qOf_den hr.len]; exact hd)
  have hxd := hc.px
  have hqd := hQ.px
  simp only [nearB, decide_eq_true_eq]
  have lk : (lessZ p l r).getD k 0 = (lookN (qOf p r) l).xs.getD (l.getD k 0) 0 := by unfold lessZ; rw [getD_map hk]
  have lq : (lessZ p l r).getD q 0 = (lookN (qOf p r) l).xs.getD (l.getD q 0) 0 := by unfold lessZ; rw [getD_map hq]
  rw [lk, lq]
  have t1 : tq p l r k = (((lookN p l).xs.getD (l.getD k 0) 0 * (lookN (qOf p r) l).xd : Int) : Rat) / (((lookN p l).xd * (lookN (qOf p r) l).xs.getD (l.getD k 0) 0 : Int) : Rat) := by
   unfold tq xq; rw [Rat.intCast_mul, Rat.intCast_mul]
   have := cast_pos hxd; have := cast_pos hqd; have := cast_pos h1; grind
  have t2 : tq p l r q = (((lookN p l).xs.getD (l.getD q 0) 0 * (lookN (qOf p r) l).xd : Int) : Rat) / (((lookN p l).xd * (lookN (qOf p r) l).xs.getD (l.getD q 0) 0 : Int) : Rat) := by
   unfold tq xq; rw [Rat.intCast_mul, Rat.intCast_mul]
   have := cast_pos hxd; have := cast_pos hqd; have := cast_pos h2; grind
  rw [t1, t2, lt_div (Int.mul_pos hxd h1) (Int.mul_pos hxd h2)]
  generalize (lookN p l).xs.getD (l.getD k 0) 0 = a at *
  generalize (lookN p l).xs.getD (l.getD q 0) 0 = b at *
  generalize (lookN (qOf p r) l).xs.getD (l.getD k 0) 0 = u at *
  generalize (lookN (qOf p r) l).xs.getD (l.getD q 0) 0 = v at *
  generalize (lookN p l).xd = e at *
  generalize (lookN (qOf p r) l).xd = f at *
  have hef := Int.mul_pos hxd hqd
  have e1 : a * f * (e * v) - b * f * (e * u) = (e * f) * (a * v - b * u) := by grind
  rw [e1]
  constructor
  ·intro h
   by_cases g : a * v - b * u < 0
   ·omega
   ·have := Int.mul_nonneg (show 0 ≤ e * f by omega) (show 0 ≤ a * v - b * u by omega); omega
  ·intro h
   exact Int.mul_neg_of_pos_of_neg hef (by omega)
end Go.Proofs.YtjcdkbalhleeeaaGreatDoor

namespace Go.Proofs.YtjcdkbalhleeeaaGreatDoor
def nextE (p : PG) (l : List Int) : Int := if lookE p l = 0 then (if nonneg (lookC p l).xs = true then 0 else 3) else lookE p l
theorem look_parts {p : PG} {l : List Int} (h : lookE p l = 0) : mayPB p = true ∧ rightA p l = true ∧ denZ p (nats l) ≠ 0 := by
 unfold lookE at h
 split at h
 ·omega
 ·rename_i h1
  split at h
  ·omega
  ·rename_i h2
   split at h
   ·omega
   ·rename_i h3
    exact ⟨by simpa using h1, by simpa using h2, h3⟩
theorem look_eq {p : PG} {l : List Int} (h : lookE p l = 0) : l = ints (nats l) := (right_nats (look_parts h).2.1).2
theorem lookN_eq {p : PG} {l : List Int} (h : lookE p l = 0) : lookN p (nats l) = lookC p l := by unfold lookN; rw [← look_eq h]
theorem nextE_look {p : PG} {l : List Int} (h : nextE p l = 0) : lookE p l = 0 ∧ nonneg (lookC p l).xs = true := by
 unfold nextE at h
 split at h
 ·rename_i h1
  split at h
  ·rename_i h2; exact ⟨h1, h2⟩
  ·omega
 ·rename_i h1; exact absurd h h1
theorem nextE_ok {p : PG} {l : List Int} (h : nextE p l = 0) : OKb p (nats l) := by
 obtain ⟨h1, h2⟩ := nextE_look h
 obtain ⟨q1, q2, q3⟩ := look_parts h1
 exact ⟨q1, (right_nats q2).1, q3, by rw [lookN_eq h1]; exact h2⟩
theorem ok_look {p : PG} {l : List Nat} (h : OKb p l) : lookE p (ints l) = 0 := look_ints h.hp h.hr h.hd
theorem ok_nextE {p : PG} {l : List Nat} (h : OKb p l) : nextE p (ints l) = 0 := by
 unfold nextE
 rw [if_pos (ok_look h)]; exact if_pos h.hx
structure EndAt (p : PG) (l : List Nat) (k : Nat) (lk : List Nat) : Prop where
 at_ : wk p l k = some lk
 no : nxtZ p lk = none
theorem EndAt.le {p : PG} {l : List Nat} {a b : Nat} {la lb : List Nat} (h1 : EndAt p l a la) (h2 : EndAt p l b lb) : a ≤ b := by
 apply Classical.byContradiction
 intro h
 have hn : wk p l (b + 1) = none := by rw [wk, h2.at_]; exact h2.no
 obtain ⟨l', hl'⟩ := wk_some (p := p) (l := l) (n := a) (by rw [h1.at_]; simp) (i := b + 1) (by omega)
 rw [hn] at hl'
 cases hl'
theorem EndAt.uniq {p : PG} {l : List Nat} {a b : Nat} {la lb : List Nat} (h1 : EndAt p l a la) (h2 : EndAt p l b lb) : a = b ∧ la = lb := by
 have h : a = b := Nat.le_antisymm (h1.le h2) (h2.le h1)
 subst h
 have := h1.at_.symm.trans h2.at_
 exact ⟨rfl, by injection this⟩
def wkL (p : PG) (l : List Nat) (k : Nat) : List (List Int) := (List.range k).map fun i => ints ((wk p l i).getD [])
theorem wkL_len (p : PG) (l : List Nat) (k : Nat) : (wkL p l k).length = k := by simp [wkL]
theorem wkL_at (p : PG) (l : List Nat) {k i : Nat} (h : i < k) : (wkL p l k).getD i [] = ints ((wk p l i).getD []) := by simp [wkL, List.getD, h]
theorem wk_fewer {p : PG} {l : List Nat} (ho : OKb p l) {k : Nat} {lk : List Nat} (h : wk p l k = some lk) : k < 256 := by
 apply Classical.byContradiction
 intro hk
 have he := wk_ends ho
 have h8 : p.costs.length + p.rows.length ≤ 8 := by
  have := mayPB_iff.1 ho.hp; omega
 have : 2 ^ (p.costs.length + p.rows.length) ≤ 2 ^ 8 := Nat.pow_le_pow_right (by omega) h8
 obtain ⟨l', hl'⟩ := wk_some (p := p) (l := l) (n := k) (by rw [h]; simp) (i := 2 ^ (p.costs.length + p.rows.length)) (by omega)
 rw [he] at hl'
 cases hl'
theorem len_next {p : PG} {l l' : List Nat} (ho : OKb p l) (h : nxtZ p l = some l') : OKb p l' := by
 have := wk_ok ho (n := 1) (l' := l') (by rw [wk, wk]; exact h)
 exact this
def valN (p : PG) (l : List Nat) : Int := dot p.costs ((lookN p l).xs.take p.costs.length)
theorem val_sum {p : PG} {l : List Nat} {c : CO} {gx gy gg : Int} (h : Corn p l c gx gy gg) :
    sumR (fun j => cq p j * xq c j) (p.costs.length + p.rows.length) = (dot p.costs (c.xs.take p.costs.length) : Rat) / (c.xd : Rat) := by
 have e1 : sumN (fun j => costZ p j * c.xs.getD j 0) (p.costs.length + p.rows.length) = dot p.costs (c.xs.take p.costs.length) := by
  rw [sum_costZ, dot_sum (n := p.costs.length) rfl (by rw [List.length_take, h.lx]; omega)]
  refine sumN_congr fun j hj => ?_
  have : (c.xs.take p.costs.length).getD j 0 = c.xs.getD j 0 := by simp [List.getD, hj]
  rw [this]
 have hx := cast_pos h.px
 have e2 : sumR (fun j => cq p j * xq c j) (p.costs.length + p.rows.length) = sumR (fun j => (1 / (c.xd : Rat)) * ((costZ p j * c.xs.getD j 0 : Int) : Rat)) (p.costs.length + p.rows.length) :=
  sumR_congr fun j _ => by unfold cq xq; rw [Rat.intCast_mul]; grind
 rw [e2, sumR_mul, ← cast_sum, e1]
 grind
theorem in_new {p : PG} {l : List Nat} {r : Nat} (ho : OKb p l) (hin : inZ (lookN p l).gs = some r) : r ∉ l ∧ r < p.costs.length + p.rows.length ∧ 0 < (lookN p l).gs.getD r 0 := by
 obtain ⟨gx, gy, gg, hc⟩ := corn_of ho.hp ho.hr ho.hd
 obtain ⟨i1, i2, i3⟩ := inZ_some hin
 rw [hc.lg] at i1
 refine ⟨fun h => ?_, i1, i2⟩
 obtain ⟨q, hq1, rfl⟩ := mem_getD.1 h
 have := hc.gain_own (k := q) (by rw [← ho.hr.len]; exact hq1)
 omega
end Go.Proofs.YtjcdkbalhleeeaaGreatDoor

namespace Go.Proofs.YtjcdkbalhleeeaaGreatDoor
structure Bs (p : PG) (l : List Nat) : Prop where
 hp : mayPB p = true
 hr : RightL p l
 hd : denZ p l ≠ 0
theorem OKb.bs {p : PG} {l : List Nat} (h : OKb p l) : Bs p l := ⟨h.hp, h.hr, h.hd⟩
theorem Bs.rows4 {p : PG} {l : List Nat} (h : Bs p l) : p.rows.length ≤ 4 := (mayPB_iff.1 h.hp).2.2.2.1
def alq (p : PG) (l : List Nat) (k j : Nat) : Rat := xq (lookN (qOf p j) l) (l.getD k 0)
theorem colQ {p : PG} {l : List Nat} (hb : Bs p l) (r : Nat) {i : Nat} (hi : i < p.rows.length) : sumR (fun j => aq p i j * xq (lookN (qOf p r) l) j) (p.costs.length + p.rows.length) = aq p i r := by
 obtain ⟨a1, a2, a3, hq⟩ := corn_of (qOf_may hb.hp r) (qOf_right hb.hr r) (by rw [qOf_den hb.hr.len]; exact hb.hd)
 have h1 := hq.rowQ (i := i) (by rw [qOf_len]; exact hi)
 rw [qOf_most p r hi, qOf_len] at h1
 simp only [show (qOf p r).costs = p.costs from rfl] at h1
 rw [show aq p i r = (hasZ p i r : Rat) from rfl, ← h1]
 refine sumR_congr fun j _ => ?_
 unfold aq; rw [qOf_has]
theorem colOff {p : PG} {l : List Nat} (hb : Bs p l) (r : Nat) {j : Nat} (hj : j ∉ l) : xq (lookN (qOf p r) l) j = 0 := by
 obtain ⟨a1, a2, a3, hq⟩ := corn_of (qOf_may hb.hp r) (qOf_right hb.hr r) (by rw [qOf_den hb.hr.len]; exact hb.hd)
 exact hq.offQ hj
theorem slack_aq {p : PG} {i k : Nat} : aq p i (p.costs.length + k) = if i = k then 1 else 0 := by
 unfold aq hasZ
 rw [if_neg (by omega)]
 by_cases h : i = k
 ·rw [if_pos (by omega), if_pos h]; rfl
 ·rw [if_neg (by omega), if_neg h]; rfl
theorem col_by {p : PG} {l : List Nat} (hb : Bs p l) {u : Nat → Rat} {v : Nat → Rat} (hu : ∀ j, j ∉ l → u j = 0) (hv : ∀ i, i < p.rows.length → sumR (fun j => aq p i j * u j) (p.costs.length + p.rows.length) = v i) :
    ∀ j, u j = sumR (fun i => v i * xq (lookN (qOf p (p.costs.length + i)) l) j) p.rows.length := by
 have hz := kernel hb.hr hb.rows4 hb.hd (z := fun j => u j - sumR (fun i => v i * xq (lookN (qOf p (p.costs.length + i)) l) j) p.rows.length) ?_ ?_
 ·intro j; have := hz j; grind
 ·intro j hj
  rw [hu j hj, sumR_congr (g := fun _ => 0) fun i _ => by rw [colOff hb _ hj]; grind, sumR_zero]; grind
 ·intro i hi
  rw [sumR_congr (g := fun j => aq p i j * u j + (-1) * sumR (fun k => aq p i j * (v k * xq (lookN (qOf p (p.costs.length + k)) l) j)) p.rows.length) fun j _ => by rw [sumR_mul]; grind]
  rw [sumR_add, sumR_mul, hv i hi, sumR_comm]
  rw [sumR_congr (g := fun k => v k * aq p i (p.costs.length + k)) fun k hk => by
   rw [sumR_congr (g := fun j => v k * (aq p i j * xq (lookN (qOf p (p.costs.length + k)) l) j)) fun j _ => by grind, sumR_mul, colQ hb _ hi]]
  rw [sumR_one hi (fun k _ hk => by rw [slack_aq, if_neg (fun e => hk e.symm)]; grind), slack_aq, if_pos rfl]
  grind
theorem al_by {p : PG} {l : List Nat} (hb : Bs p l) (k j : Nat) : alq p l k j = sumR (fun i => aq p i j * alq p l k (p.costs.length + i)) p.rows.length :=
 col_by hb (fun _ hj => colOff hb j hj) (fun _ hi => colQ hb j hi) (l.getD k 0)
theorem x_by {p : PG} {l : List Nat} (hb : Bs p l) {z : Nat → Rat} (hz : ∀ i, i < p.rows.length → sumR (fun j => aq p i j * z j) (p.costs.length + p.rows.length) = ((mosts p).getD i 0 : Rat)) (k : Nat) :
    sumR (fun j => alq p l k j * z j) (p.costs.length + p.rows.length) = xq (lookN p l) (l.getD k 0) := by
 obtain ⟨gx, gy, gg, hc⟩ := corn_of hb.hp hb.hr hb.hd
 rw [col_by hb (u := xq (lookN p l)) (v := fun i => ((mosts p).getD i 0 : Rat)) (fun j hj => hc.offQ hj) (fun i hi => hc.rowQ hi) (l.getD k 0)]
 rw [sumR_congr (g := fun j => sumR (fun i => z j * (aq p i j * alq p l k (p.costs.length + i))) p.rows.length) fun j _ => by rw [al_by hb k j, sumR_mul]; grind]
 rw [sumR_comm]
 refine sumR_congr fun i hi => ?_
 rw [← hz i hi, sumR_congr (g := fun j => alq p l k (p.costs.length + i) * (aq p i j * z j)) fun j _ => by grind, sumR_mul]
 unfold alq; grind
theorem al_own {p : PG} {l : List Nat} (hb : Bs p l) {k q : Nat} (hk : k < l.length) (hq : q < l.length) : alq p l k (l.getD q 0) = if q = k then 1 else 0 := by
 have hlt := hb.hr.at_lt hq
 have hz := kernel hb.hr hb.rows4 hb.hd (z := fun j => xq (lookN (qOf p (l.getD q 0)) l) j - if j = l.getD q 0 then 1 else 0) ?_ ?_
 ·have h := hz (l.getD k 0)
  unfold alq
  by_cases e : q = k
  ·subst e; rw [if_pos rfl] at h ⊢; grind
  ·rw [if_neg e]
   have hne : l.getD k 0 ≠ l.getD q 0 := by
    rcases Nat.lt_or_gt_of_ne e with h | h
    ·have := hb.hr.ne h hk; omega
    ·have := hb.hr.ne h hq; omega
   rw [if_neg hne] at h; grind
 ·intro j hj
  rw [colOff hb _ hj, if_neg (fun e : j = l.getD q 0 => hj (by rw [e]; exact mem_getD.2 ⟨q, hq, rfl⟩))]; grind
 ·intro i hi
  rw [sumR_congr (g := fun j => aq p i j * xq (lookN (qOf p (l.getD q 0)) l) j + (-1) * (if j = l.getD q 0 then aq p i (l.getD q 0) else 0)) fun j _ => by
   by_cases e : j = l.getD q 0
   ·subst e; rw [if_pos rfl, if_pos rfl]; grind
   ·rw [if_neg e, if_neg e]; grind]
  rw [sumR_add, sumR_mul, colQ hb _ hi, sumR_one hlt (fun j _ hj => if_neg hj), if_pos rfl]; grind
theorem bs_next {p : PG} {l : List Nat} (hb : Bs p l) {k r : Nat} (hk : k < l.length) (hN : r < p.costs.length + p.rows.length) (hn : alq p l k r ≠ 0) (hrl : r ∉ l) :
    Bs p (insN (l.eraseIdx k) r) := by
 refine ⟨hb.hp, right_next hb.hr hk hrl hN, den_next hb.hr hb.rows4 (by rw [← hb.hr.len]; exact hk) ?_ hrl hN⟩
 obtain ⟨a1, a2, a3, hq⟩ := corn_of (qOf_may hb.hp r) (qOf_right hb.hr r) (by rw [qOf_den hb.hr.len]; exact hb.hd)
 intro h0
 have h1 := hq.x (l.getD k 0)
 rw [xall_at (qOf_right hb.hr r) (by rw [qOf_len, ← hb.hr.len]; exact hk), h0] at h1
 apply hn
 unfold alq xq
 rcases Int.mul_eq_zero.1 h1.symm with e | e
 ·exact absurd e hq.nx
 ·rw [e]; exact zdiv _
structure Dst (p : PG) (l l' : List Nat) (k r : Nat) : Prop where
 bs : Bs p l
 kl : k < l.length
 neg : xq (lookN p l) (l.getD k 0) < 0
 fst : ∀ q, q < k → 0 ≤ xq (lookN p l) (l.getD q 0)
 rN : r < p.costs.length + p.rows.length
 al : alq p l k r < 0
 low : ∀ j, j < r → 0 ≤ alq p l k j
 eq : l' = insN (l.eraseIdx k) r
theorem Dst.rl {p : PG} {l l' : List Nat} {k r : Nat} (h : Dst p l l' k r) : r ∉ l := by
 intro hm
 obtain ⟨q, hq, rfl⟩ := mem_getD.1 hm
 have := h.al
 rw [al_own h.bs h.kl hq] at this
 split at this <;> grind
theorem Dst.next {p : PG} {l l' : List Nat} {k r : Nat} (h : Dst p l l' k r) : Bs p l' := by
 rw [h.eq]
 exact bs_next h.bs h.kl h.rN (fun e => by have := h.al; rw [e] at this; grind) h.rl
theorem Dst.mem {p : PG} {l l' : List Nat} {k r : Nat} (h : Dst p l l' k r) (j : Nat) : j ∈ l' ↔ (j ∈ l ∧ j ≠ l.getD k 0) ∨ j = r := by
 rw [h.eq, mem_insN, mem_erase h.bs.hr h.kl]
structure Stuck (p : PG) (l : List Nat) (k : Nat) : Prop where
 bs : Bs p l
 kl : k < l.length
 neg : xq (lookN p l) (l.getD k 0) < 0
 al : ∀ j, j < p.costs.length + p.rows.length → 0 ≤ alq p l k j
theorem least {P : Nat → Prop} : ∀ {n : Nat}, P n → ∃ k, k ≤ n ∧ P k ∧ ∀ q, q < k → ¬ P q := by
 intro n
 induction n using Nat.strongRecOn with
 | ind n ih =>
  intro h
  by_cases hh : ∃ q, q < n ∧ P q
  ·obtain ⟨q, h1, h2⟩ := hh
   obtain ⟨k, k1, k2, k3⟩ := ih q h1 h2
   exact ⟨k, by omega, k2, k3⟩
  ·exact ⟨n, Nat.le_refl _, h, fun q hq hp => hh ⟨q, hq, hp⟩⟩
theorem bs_case {p : PG} {l : List Nat} (hb : Bs p l) : OKb p l ∨ (∃ k, Stuck p l k) ∨ ∃ l' k r, Dst p l l' k r := by
 obtain ⟨gx, gy, gg, hc⟩ := corn_of hb.hp hb.hr hb.hd
 by_cases h : ∃ k, k < l.length ∧ xq (lookN p l) (l.getD k 0) < 0
 ·obtain ⟨k0, h1, h2⟩ := h
  obtain ⟨k, k1, ⟨k2, k3⟩, k4⟩ := least (P := fun k => k < l.length ∧ xq (lookN p l) (l.getD k 0) < 0) ⟨h1, h2⟩
  right
  by_cases hs : ∃ r, r < p.costs.length + p.rows.length ∧ alq p l k r < 0
  ·obtain ⟨r0, r1, r2⟩ := hs
   obtain ⟨r, s1, ⟨s2, s3⟩, s4⟩ := least (P := fun r => r < p.costs.length + p.rows.length ∧ alq p l k r < 0) ⟨r1, r2⟩
   refine .inr ⟨_, k, r, hb, k2, k3, fun q hq => ?_, s2, s3, fun j hj => ?_, rfl⟩
   ·have := k4 q hq
    apply Classical.byContradiction
    intro hn
    exact this ⟨by omega, by grind⟩
   ·have := s4 j hj
    apply Classical.byContradiction
    intro hn
    exact this ⟨by omega, by grind⟩
  ·refine .inl ⟨k, hb, k2, k3, fun j hj => ?_⟩
   apply Classical.byContradiction
   intro hn
   exact hs ⟨j, hj, by grind⟩
 ·left
  refine ⟨hb.hp, hb.hr, hb.hd, nonneg_of fun j => ?_⟩
  by_cases hj : j ∈ l
  ·obtain ⟨k, hk, rfl⟩ := mem_getD.1 hj
   apply Classical.byContradiction
   intro hn
   exact h ⟨k, hk, (sign_div hc.px).2.2 (by omega)⟩
  ·have := hc.offQ hj
   apply Classical.byContradiction
   intro hn
   have := (sign_div (a := (lookN p l).xs.getD j 0) hc.px).2.2 (by omega)
   unfold xq at *
   grind
theorem dual_ends {p : PG} {L : Nat → List Nat} {K R : Nat → Nat} {a b : Nat} (hab : a < b) (hs : ∀ i, a ≤ i → i < b → Dst p (L i) (L (i + 1)) (K i) (R i)) (hL : ∀ j, j ∈ L a ↔ j ∈ L b) : False := by
 have hin : ∀ j i k, a ≤ k → k ≤ i → i ≤ b → j ∉ L k → j ∈ L i → ∃ e, a ≤ e ∧ e < b ∧ R e = j := by
  intro j i k hk hki hi h0 h1
  obtain ⟨e, e1, e2, e3, e4⟩ := turn_up (P := fun i => j ∈ L i) hki h0 h1
  refine ⟨e, by omega, by omega, ?_⟩
  rcases ((hs e (by omega) (by omega)).mem j).1 e4 with ⟨q, _⟩ | q
  ·exact absurd q e3
  ·exact q.symm
 have hout : ∀ j i k, a ≤ k → k ≤ i → i ≤ b → j ∈ L k → j ∉ L i → ∃ e, a ≤ e ∧ e < b ∧ (L e).getD (K e) 0 = j := by
  intro j i k hk hki hi h0 h1
  obtain ⟨e, e1, e2, e3, e4⟩ := turn_up (P := fun i => j ∉ L i) hki (fun h => h h0) h1
  refine ⟨e, by omega, by omega, ?_⟩
  have hje : j ∈ L e := Classical.byContradiction e3
  apply Classical.byContradiction
  intro hne
  exact e4 (((hs e (by omega) (by omega)).mem j).2 (Or.inl ⟨hje, fun q => hne q.symm⟩))
 obtain ⟨q, ⟨e, e1, e2, e3⟩, hmax⟩ : ∃ q, (∃ e, a ≤ e ∧ e < b ∧ R e = q) ∧ ∀ i, a ≤ i → i < b → R i ≤ q := by
  have : ∀ n, (∃ i, a ≤ i ∧ i < b ∧ p.costs.length + p.rows.length ≤ R i + n) → ∃ q, (∃ e, a ≤ e ∧ e < b ∧ R e = q) ∧ ∀ i, a ≤ i → i < b → R i ≤ q := by
   intro n
   induction n with
   | zero => rintro ⟨i, h1, h2, h3⟩; have := (hs i h1 h2).rN; omega
   | succ n ih =>
    rintro ⟨i, h1, h2, h3⟩
    by_cases hh : ∃ i, a ≤ i ∧ i < b ∧ p.costs.length + p.rows.length ≤ R i + n
    ·exact ih hh
    ·refine ⟨R i, ⟨i, h1, h2, rfl⟩, fun k hk1 hk2 => ?_⟩
     apply Classical.byContradiction
     intro hlt
     exact hh ⟨k, hk1, hk2, by omega⟩
  exact this (p.costs.length + p.rows.length) ⟨a, by omega, by omega, by omega⟩
 have hS : ∀ i, a ≤ i → i < b → (L i).getD (K i) 0 ≤ q := by
  intro i h1 h2
  have h := hs i h1 h2
  have hm : (L i).getD (K i) 0 ∈ L i := mem_getD.2 ⟨_, h.kl, rfl⟩
  have hno : (L i).getD (K i) 0 ∉ L (i + 1) := fun hq => by
   rcases (h.mem _).1 hq with ⟨_, w⟩ | w
   ·exact w rfl
   ·exact h.rl (w ▸ hm)
  by_cases hb' : (L i).getD (K i) 0 ∈ L b
  ·obtain ⟨f, f1, f2, f3⟩ := hin _ b (i + 1) (by omega) (by omega) (Nat.le_refl _) hno hb'
   rw [← f3]; exact hmax f f1 f2
  ·obtain ⟨f, f1, f2, f3⟩ := hin _ i a (Nat.le_refl _) h1 (by omega) (fun w => hb' ((hL _).1 w)) hm
   rw [← f3]; exact hmax f f1 f2
 obtain ⟨f, f1, f2, f3⟩ : ∃ f, a ≤ f ∧ f < b ∧ (L f).getD (K f) 0 = q := by
  have h := hs e e1 e2
  have hno : q ∉ L e := by rw [← e3]; exact h.rl
  have hm : q ∈ L (e + 1) := by rw [← e3]; exact (h.mem _).2 (Or.inr rfl)
  by_cases hb' : q ∈ L b
  ·exact hout q e a (Nat.le_refl _) e1 (by omega) ((hL q).2 hb') hno
  ·exact hout q b (e + 1) (by omega) (by omega) (Nat.le_refl _) hm hb'
 have hfix : ∀ j, q < j → ∀ n, a + n ≤ b → (j ∈ L (a + n) ↔ j ∈ L a) := by
  intro j hj n
  induction n with
  | zero => intro _; exact Iff.rfl
  | succ n ih =>
   intro hn
   rw [← ih (by omega)]
   have h := hs (a + n) (by omega) (by omega)
   have r1 := hmax (a + n) (by omega) (by omega)
   have r2 := hS (a + n) (by omega) (by omega)
   rw [show a + (n + 1) = a + n + 1 by omega, h.mem j]
   constructor
   ·rintro (⟨w, _⟩ | w)
    ·exact w
    ·omega
   ·intro w; exact Or.inl ⟨w, by omega⟩
 have hE := hs e e1 e2
 have hF := hs f f1 f2
 obtain ⟨gx, gy, gg, hc⟩ := corn_of hF.bs.hp hF.bs.hr hF.bs.hd
 have hsum := x_by hE.bs (z := xq (lookN p (L f))) (fun i hi => hc.rowQ hi) (K e)
 have hneg := hE.neg
 rw [← hsum] at hneg
 have hpos : ∀ n, 0 ≤ sumR (fun j => alq p (L e) (K e) j * xq (lookN p (L f)) j) n := by
  intro n
  induction n with
  | zero => simp [sumR]
  | succ n ih =>
   rw [sumR]
   have : 0 ≤ alq p (L e) (K e) n * xq (lookN p (L f)) n := by
    by_cases hnf : n ∈ L f
    ·obtain ⟨k, hk, rfl⟩ := mem_getD.1 hnf
     by_cases hlt : q < (L f).getD k 0
     ·
      have hme : (L f).getD k 0 ∈ L e := by
       have h1 := hfix _ hlt (f - a) (by omega)
       have h2 := hfix _ hlt (e - a) (by omega)
       rw [show a + (f - a) = f by omega] at h1
       rw [show a + (e - a) = e by omega] at h2
       exact h2.2 (h1.1 hnf)
      obtain ⟨k', hk', ek⟩ := mem_getD.1 hme
      have hne : k' ≠ K e := fun w => by
       have := hS e e1 e2
       rw [w] at ek; omega
      rw [← ek, al_own hE.bs hE.kl hk', if_neg hne]; grind
     ·by_cases heq : (L f).getD k 0 = q
      ·have h1 := hE.al
       rw [e3] at h1
       have h2 := hF.neg
       rw [f3] at h2
       rw [heq]
       have := Rat.mul_pos (show 0 < -(alq p (L e) (K e) q) by grind) (show 0 < -(xq (lookN p (L f)) q) by grind)
       grind
      ·have h1 := hE.low ((L f).getD k 0) (by omega)
       have hkK : k < K f := by
        apply Classical.byContradiction
        intro w
        rcases Nat.lt_or_ge (K f) k with w' | w'
        ·have := hF.bs.hr.ne w' hk; omega
        ·have : k = K f := by omega
         subst this; exact heq f3
       exact Rat.mul_nonneg h1 (hF.fst k hkK)
    ·rw [hc.offQ hnf]; grind
   grind
 have := hpos (p.costs.length + p.rows.length)
 grind
def slackL (p : PG) : List Nat := (List.range p.rows.length).map fun k => p.costs.length + k
theorem slack_bs {p : PG} (hp : mayPB p = true) : Bs p (slackL p) := by
 have hlen : (slackL p).length = p.rows.length := by simp [slackL]
 refine ⟨hp, ⟨hlen, fun j hj => ?_, ?_⟩, ?_⟩
 ·simp only [slackL, List.mem_map, List.mem_range] at hj
  obtain ⟨k, hk, rfl⟩ := hj; omega
 ·unfold slackL
  rw [List.pairwise_map]
  exact List.pairwise_lt_range.imp fun h => by omega
 ·rw [den_dt hlen]
  have hh : ∀ i k, hasZ p i (p.costs.length + k) = if k = i then 1 else 0 := fun i k => by
   unfold hasZ; rw [if_neg (by omega)]
   by_cases h : k = i
   ·rw [if_pos (by omega), if_pos h]
   ·rw [if_neg (by omega), if_neg h]
  obtain ⟨_, _, h1, h4, _⟩ := mayPB_iff.1 hp
  have h0 : ∀ i, hasZ p i p.costs.length = if 0 = i then 1 else 0 := fun i => hh i 0
  unfold slackL
  generalize hm : p.rows.length = m at *
  rcases (show m = 1 ∨ m = 2 ∨ m = 3 ∨ m = 4 by omega) with rfl | rfl | rfl | rfl
  ·simp [List.range_succ, dt1, hh, h0]
  ·simp [List.range_succ, dt2, hh, h0]
  ·simp [List.range_succ, dt3, hh, h0]
  ·simp [List.range_succ, dt4, dt3, hh, h0]
theorem noth {p : PG} (hp : mayPB p = true) : (∃ l, OKb p l) ∨ ∃ l k, Stuck p l k := by
 apply Classical.byContradiction
 intro hn
 have hn1 : ∀ l, ¬ OKb p l := fun l h => hn (.inl ⟨l, h⟩)
 have hn2 : ∀ l k, ¬ Stuck p l k := fun l k h => hn (.inr ⟨l, k, h⟩)
 have hst : ∀ s : { l : List Nat // Bs p l }, ∃ t : { l : List Nat // Bs p l }, ∃ k r, Dst p s.1 t.1 k r := fun s => by
  rcases bs_case s.2 with h | ⟨k, h⟩ | ⟨l', k, r, h⟩
  ·exact absurd h (hn1 _)
  ·exact absurd h (hn2 _ _)
  ·exact ⟨⟨l', h.next⟩, k, r, h⟩
 let nx : { l : List Nat // Bs p l } → { l : List Nat // Bs p l } := fun s => Classical.choose (hst s)
 have hnx : ∀ s, ∃ k r, Dst p s.1 (nx s).1 k r := fun s => Classical.choose_spec (hst s)
 let S : Nat → { l : List Nat // Bs p l } := fun n => Nat.rec ⟨slackL p, slack_bs hp⟩ (fun _ s => nx s) n
 have hS : ∀ n, S (n + 1) = nx (S n) := fun n => rfl
 let K : Nat → Nat := fun n => Classical.choose (hnx (S n))
 have hK : ∀ n, ∃ r, Dst p (S n).1 (nx (S n)).1 (K n) r := fun n => Classical.choose_spec (hnx (S n))
 let R : Nat → Nat := fun n => Classical.choose (hK n)
 have hR : ∀ n, Dst p (S n).1 (nx (S n)).1 (K n) (R n) := fun n => Classical.choose_spec (hK n)
 obtain ⟨i, j, hij, _, he⟩ := pig (2 ^ (p.costs.length + p.rows.length)) (fun i => code (S i).1 (p.costs.length + p.rows.length)) (fun i _ => code_lt _ _)
 refine dual_ends (p := p) (L := fun n => (S n).1) (K := K) (R := R) hij (fun n _ _ => by rw [hS]; exact hR n) fun q => ?_
 by_cases hq : q < p.costs.length + p.rows.length
 ·exact code_inj he q hq
 ·exact ⟨fun h => absurd ((S i).2.hr.lt q h) hq, fun h => absurd ((S j).2.hr.lt q h) hq⟩
end Go.Proofs.YtjcdkbalhleeeaaGreatDoor

namespace Go.Proofs.YtjcdkbalhleeeaaGreatDoor
theorem goesB_iff {p : PG} {x : List Int} {d : Int} : goesB p x d = true ↔ fitsB p x d = true ∧ nonneg x = true ∧ ∀ i (h : i < p.rows.length), dot (p.rows[i]).1 x ≤ (p.rows[i]).2 * d := by
 unfold goesB
 simp only [Bool.and_eq_true, List.all_eq_true, decide_eq_true_eq]
 constructor
 ·rintro ⟨h1, h2, h3⟩
  exact ⟨h1, h2, fun i hi => h3 _ (List.getElem_mem hi)⟩
 ·rintro ⟨h1, h2, h3⟩
  refine ⟨h1, h2, fun r hr => ?_⟩
  obtain ⟨i, hi, rfl⟩ := List.mem_iff_getElem.1 hr
  exact h3 i hi
end Go.Proofs.YtjcdkbalhleeeaaGreatDoor

namespace Go.Proofs.YtjcdkbalhleeeaaGreatDoor
theorem frac_one {a b c d : Int} (h1 : mayB [a] b = true) (h2 : mayB [c] d = true) (h : a * d = c * b) : a = c ∧ b = d := by
 have c1 : Nat.gcd b.natAbs a.natAbs = 1 := by
  unfold mayB at h1; simp only [Bool.and_eq_true, decide_eq_true_eq] at h1; simpa [comm] using h1.2
 have c2 : Nat.gcd d.natAbs c.natAbs = 1 := by
  unfold mayB at h2; simp only [Bool.and_eq_true, decide_eq_true_eq] at h2; simpa [comm] using h2.2
 have p1 := mayB_parts h1
 have p2 := mayB_parts h2
 have hbd : b.natAbs ∣ d.natAbs := by
  refine Nat.Coprime.dvd_of_dvd_mul_left (show Nat.Coprime b.natAbs a.natAbs from c1) ?_
  rw [← Int.natAbs_mul, h, Int.natAbs_mul]; exact Nat.dvd_mul_left _ _
 have hdb : d.natAbs ∣ b.natAbs := by
  refine Nat.Coprime.dvd_of_dvd_mul_left (show Nat.Coprime d.natAbs c.natAbs from c2) ?_
  rw [← Int.natAbs_mul, ← h, Int.natAbs_mul]; exact Nat.dvd_mul_left _ _
 have e := Nat.dvd_antisymm hbd hdb
 have e' : b = d := by omega
 subst e'
 exact ⟨Int.eq_of_mul_eq_mul_right (by omega) h, rfl⟩
theorem fr_one {a b c d : Int} (h1 : ptE [a] b = 0) (h2 : ptE [c] d = 0) (hb : b ≠ 0) (hd : d ≠ 0) (h : a * d = c * b) : frN a b = frN c d ∧ ptD [a] b = ptD [c] d := by
 have m1 := may_end h1
 have m2 := may_end h2
 obtain ⟨p1, e1⟩ := frac_pos h1
 obtain ⟨p2, e2⟩ := frac_pos h2
 refine frac_one m1 m2 ?_
 generalize frN a b = x at *
 generalize ptD [a] b = y at *
 generalize frN c d = u at *
 generalize ptD [c] d = v at *
 have : (b * d) * (x * v) = (b * d) * (u * y) := by
  have q1 : (b * d) * (x * v) = (x * b) * (d * v) := by ac_rfl
  have q2 : (b * d) * (u * y) = (u * d) * (b * y) := by ac_rfl
  rw [q1, q2, e1, e2]
  have q3 : a * y * (d * v) = (a * d) * (y * v) := by ac_rfl
  have q4 : c * v * (b * y) = (c * b) * (y * v) := by ac_rfl
  rw [q3, q4, h]
 exact Int.eq_of_mul_eq_mul_left (by intro q; rcases Int.mul_eq_zero.1 q with q | q; exact hb q; exact hd q) this
theorem dt12 {A : Nat → Nat → Int} (h : ∀ i j, -12 ≤ A i j ∧ A i j ≤ 12) {rs cs : List Nat} (hl : cs.length = rs.length) (h4 : rs.length ≤ 4) : -497664 ≤ dt A rs cs ∧ dt A rs cs ≤ 497664 := by
 have hw : Within A (fun _ => 12) := fun i c => ⟨h i c, by show (0 : Int) ≤ 12; omega⟩
 rcases (show rs.length = 0 ∨ rs.length = 1 ∨ rs.length = 2 ∨ rs.length = 3 ∨ rs.length = 4 by omega) with e | e | e | e | e
 ·obtain rfl : rs = [] := List.eq_nil_of_length_eq_zero e
  simp [dt]
 ·obtain ⟨r0, rfl⟩ := List.length_eq_one_iff.1 e
  obtain ⟨c0, rfl⟩ := List.length_eq_one_iff.1 (hl.trans e)
  rw [dt1]; have := h r0 c0; omega
 ·obtain ⟨r0, r1, rfl⟩ := list_len2 e
  obtain ⟨c0, c1, rfl⟩ := list_len2 (hl.trans e)
  have := dt2_within hw r0 r1 c0 c1
  omega
 ·obtain ⟨r0, r1, r2, rfl⟩ := list_len3 e
  obtain ⟨c0, c1, c2, rfl⟩ := list_len3 (hl.trans e)
  have := dt3_within hw r0 r1 r2 c0 c1 c2
  omega
 ·obtain ⟨r0, r1, r2, r3, rfl⟩ := list_len4 e
  obtain ⟨c0, c1, c2, c3, rfl⟩ := list_len4 (hl.trans e)
  have := dt4_within hw r0 r1 r2 r3 c0 c1 c2 c3
  omega
theorem xk12 {p : PG} {l : List Nat} (hp : mayPB p = true) (_hl : l.length = p.rows.length) (k : Nat) : -497664 ≤ xk p l k ∧ xk p l k ≤ 497664 := by
 unfold xk dtp
 refine dt12 (fun i j => ?_) (by simp) (by have := mayPB_iff.1 hp; simp; omega)
 unfold matD
 split
 ·exact hasZ_bound hp i _
 ·exact mosts_at_bound hp i
theorem le_of_mul {a g x B : Int} (hg : g ≠ 0) (h : a = g * x) (hb : -B ≤ a ∧ a ≤ B) : -B ≤ x ∧ x ≤ B := by
 have h1 : a.natAbs = g.natAbs * x.natAbs := by rw [h, Int.natAbs_mul]
 have h2 : 1 ≤ g.natAbs := by omega
 have h3 : 1 * x.natAbs ≤ g.natAbs * x.natAbs := Nat.mul_le_mul_right _ h2
 omega
section
variable {p : PG} {l : List Nat} {c : CO} {gx gy gg : Int}
theorem Corn.xs12 (h : Corn p l c gx gy gg) (j : Nat) : -497664 ≤ c.xs.getD j 0 ∧ c.xs.getD j 0 ≤ 497664 := by
 refine le_of_mul h.nx (h.x j) ?_
 by_cases hj : j ∈ l
 ·obtain ⟨k, hk, rfl⟩ := mem_getD.1 hj
  rw [xall_at h.hr (by rw [← h.hr.len]; exact hk)]
  exact xk12 h.hp h.hr.len k
 ·rw [xall_off h.hr hj]; omega
theorem Corn.xd12 (h : Corn p l c gx gy gg) : 0 < c.xd ∧ c.xd ≤ 497664 := ⟨h.px, (le_of_mul h.nx h.dx (den_bound h.hp h.hr.len)).2⟩
theorem Corn.ys400 (h : Corn p l c gx gy gg) (i : Nat) : -16588800 ≤ c.ys.getD i 0 ∧ c.ys.getD i 0 ≤ 16588800 := by
 refine le_of_mul h.ny (h.y i) ?_
 by_cases hi : i < p.rows.length
 ·rw [yall_at hi]; exact yk_bound h.hp h.hr.len hi
 ·have e : (yall p l).getD i 0 = 0 := by simp [List.getD, yall, hi]
  rw [e]; omega
end
def varL (p : PG) (c : CO) : List Int := c.xs.take p.costs.length
section
variable {p : PG} {l : List Nat} {c : CO} {gx gy gg : Int}
theorem var_len (h : Corn p l c gx gy gg) : (varL p c).length = p.costs.length := by unfold varL; rw [List.length_take, h.lx]; omega
theorem var_at (p : PG) (c : CO) {j : Nat} (hj : j < p.costs.length) : (varL p c).getD j 0 = c.xs.getD j 0 := by simp [varL, List.getD, hj]
theorem var_small (h : Corn p l c gx gy gg) : smallB 497664 (varL p c) = true := by
 rw [smallB_getD (by omega)]
 intro j
 by_cases hj : j < p.costs.length
 ·rw [var_at p c hj]; exact h.xs12 j
 ·have e : (varL p c).getD j 0 = 0 := by rw [List.getD, List.getElem?_eq_none (by rw [var_len h]; omega)]; rfl
  rw [e]; omega
theorem small_le {m n : Int} (hm : m ≤ n) {l : List Int} (h : smallB m l = true) : smallB n l = true := smallB_iff.2 fun x hx => by have := smallB_mem h hx; omega
theorem var_pt (h : Corn p l c gx gy gg) : ptE (varL p c) c.xd = 0 := by
 have := h.xd12
 have hn := mayPB_iff.1 h.hp
 exact pt_ok (by omega) (by omega) (small_le (by omega) (var_small h)) (by rw [var_len h]; omega)
theorem var_parts (h : Corn p l c gx gy gg) : ∃ g : Int, 0 < g ∧ c.xd = g * ptD (varL p c) c.xd ∧ (∀ j, (varL p c).getD j 0 = g * (ptN (varL p c) c.xd).getD j 0) ∧ (ptN (varL p c) c.xd).length = p.costs.length ∧ 0 < ptD (varL p c) c.xd := by
 obtain ⟨g, g1, g2, g3, g4, g5⟩ := pt_parts (var_pt h)
 refine ⟨g, ?_, g2, g3, by rw [g4, var_len h], g5⟩
 apply Classical.byContradiction
 intro hn
 have := Int.mul_nonpos_of_nonpos_of_nonneg (show g ≤ 0 by omega) (show 0 ≤ ptD (varL p c) c.xd by omega)
 have := h.px
 omega
theorem dot_scale {a x y : List Int} {g : Int} {n : Nat} (ha : a.length = n) (hx : x.length = n) (hy : y.length = n) (h : ∀ j, x.getD j 0 = g * y.getD j 0) : dot a x = g * dot a y := by
 rw [dot_sum ha hx, dot_sum ha hy, ← sumN_mul]
 exact sumN_congr fun j _ => by rw [h j]; ac_rfl
theorem var_goes (h : Corn p l c gx gy gg) (hx : nonneg c.xs = true) : goesB p (ptN (varL p c) c.xd) (ptD (varL p c) c.xd) = true := by
 obtain ⟨g, g0, g1, g2, g3, g4⟩ := var_parts h
 refine goesB_iff.2 ⟨fitsB_iff.2 ⟨h.hp, mayB_pt (var_pt h), g3⟩, nonneg_of fun j => ?_, fun i hi => ?_⟩
 ·by_cases hj : j < p.costs.length
  ·have h1 := g2 j
   rw [var_at p c hj] at h1
   have h2 := nonneg_at hx j
   apply Classical.byContradiction
   intro hn
   have := Int.mul_neg_of_pos_of_neg g0 (show (ptN (varL p c) c.xd).getD j 0 < 0 by omega)
   omega
  ·simp [List.getD, List.getElem?_eq_none (show (ptN (varL p c) c.xd).length ≤ j by omega)]
 ·have h1 := h.row' hi
  have h2 := nonneg_at hx (p.costs.length + i)
  have h3 : dot (p.rows[i]).1 (varL p c) = g * dot (p.rows[i]).1 (ptN (varL p c) c.xd) := dot_scale (mayPB_row h.hp hi).1 (var_len h) g3 g2
  rw [show c.xs.take p.costs.length = varL p c from rfl, h3] at h1
  have h4 : (p.rows[i]).2 * c.xd = g * ((p.rows[i]).2 * ptD (varL p c) c.xd) := by
   have : (p.rows[i]).2 * (g * ptD (varL p c) c.xd) = g * ((p.rows[i]).2 * ptD (varL p c) c.xd) := by ac_rfl
   rw [← this, ← g1]
  rw [h4] at h1
  exact Int.le_of_mul_le_mul_left (by omega) g0
theorem var_worth (h : Corn p l c gx gy gg) : ptE [dot p.costs (ptN (varL p c) c.xd)] (ptD (varL p c) c.xd) = 0 ∧
    dot p.costs (ptN (varL p c) c.xd) * c.xd = dot p.costs (varL p c) * ptD (varL p c) c.xd ∧ (-796262400 ≤ dot p.costs (varL p c) ∧ dot p.costs (varL p c) ≤ 796262400) := by
 obtain ⟨g, g0, g1, g2, g3, g4⟩ := var_parts h
 have h3 : dot p.costs (varL p c) = g * dot p.costs (ptN (varL p c) c.xd) := dot_scale rfl (var_len h) g3 g2
 obtain ⟨_, n4, _, _, hc, _⟩ := mayPB_iff.1 h.hp
 have hb := dot_bound hc (var_small h) (by omega) (by omega)
 have hb' : -796262400 ≤ dot p.costs (varL p c) ∧ dot p.costs (varL p c) ≤ 796262400 := by omega
 have hd := h.xd12
 have hz := le_of_mul (by omega) h3 hb'
 have hz2 := le_of_mul (by omega) g1 (show -497664 ≤ c.xd ∧ c.xd ≤ 497664 by omega)
 refine ⟨pt_ok (by omega) (by omega) (by rw [smallB_one]; simp; omega) (by simp), ?_, hb'⟩
 rw [h3]
 have : dot p.costs (ptN (varL p c) c.xd) * (g * ptD (varL p c) c.xd) = g * dot p.costs (ptN (varL p c) c.xd) * ptD (varL p c) c.xd := by ac_rfl
 rw [← this, ← g1]
theorem best_holds (h : Corn p l c gx gy gg) (hx : nonneg c.xs = true) (hg : ∀ j, c.gs.getD j 0 ≤ 0) {wn wd : Int}
    (hwn : wn = worN p (ptN (varL p c) c.xd) (ptD (varL p c) c.xd)) (hwd : wd = worD p (ptN (varL p c) c.xd) (ptD (varL p c) c.xd)) :
    bestB p ⟨1, ptN (varL p c) c.xd, ptD (varL p c) c.xd, c.ys, c.yd, [], 0, wn, wd⟩ = true := by
 have hgo := var_goes h hx
 obtain ⟨hf, _, _⟩ := goesB_iff.1 hgo
 obtain ⟨w1, w2, w3⟩ := var_worth h
 have hgain : ∀ j, j < p.costs.length + p.rows.length → costZ p j * c.yd ≤ sumN (fun i => c.ys.getD i 0 * hasZ p i j) p.rows.length := by
  intro j hj
  have h1 := h.g j
  rw [gall_at hj] at h1
  unfold gk at h1
  have e1 : sumN (fun i => yk p l i * hasZ p i j) p.rows.length = gy * sumN (fun i => c.ys.getD i 0 * hasZ p i j) p.rows.length := by
   rw [← sumN_mul]
   refine sumN_congr fun i hi => ?_
   have := h.y i
   rw [yall_at hi] at this
   rw [this]; ac_rfl
  rw [e1, h.dy] at h1
  generalize sumN (fun i => c.ys.getD i 0 * hasZ p i j) p.rows.length = S at *
  have h2 : gy * c.yd = gg * c.gd := by rw [← h.dy, h.dg]
  have h3 : gy * (costZ p j * c.yd - S) * c.gd = gy * c.yd * c.gs.getD j 0 := by
   rw [h2]
   have : gy * (costZ p j * c.yd - S) = gg * c.gs.getD j 0 := by rw [← h1]; grind
   rw [this]; ac_rfl
  have h4 : (costZ p j * c.yd - S) * c.gd = c.yd * c.gs.getD j 0 := by
   refine Int.eq_of_mul_eq_mul_left h.ny ?_
   rw [← Int.mul_assoc, h3]; ac_rfl
  have h5 := Int.mul_nonpos_of_nonneg_of_nonpos (show 0 ≤ c.yd by have := h.py; omega) (hg j)
  apply Classical.byContradiction
  intro hn
  have := Int.mul_pos (show 0 < costZ p j * c.yd - S by omega) h.pg
  omega
 have hy0 : nonneg c.ys = true := nonneg_of fun i => by
  by_cases hi : i < p.rows.length
  ·have h1 := hgain (p.costs.length + i) (by omega)
   have e0 : costZ p (p.costs.length + i) = 0 := by unfold costZ; rw [if_neg (by omega)]
   rw [e0, Int.zero_mul] at h1
   have key : ∀ n, sumN (fun r => c.ys.getD r 0 * hasZ p r (p.costs.length + i)) n = if i < n then c.ys.getD i 0 else 0 := by
    intro n
    induction n with
    | zero => simp [sumN]
    | succ n ih =>
     rw [sumN, ih]
     have e : hasZ p n (p.costs.length + i) = if n = i then 1 else 0 := by
      unfold hasZ; rw [if_neg (by omega)]
      by_cases e : n = i
      ·rw [if_pos (by omega), if_pos e]
      ·rw [if_neg (by omega), if_neg e]
     rw [e]
     by_cases e : n = i
     ·subst e; rw [if_neg (by omega), if_pos rfl, if_pos (by omega)]; omega
     ·rw [if_neg e]
      by_cases e' : i < n
      ·rw [if_pos e', if_pos (by omega)]; omega
      ·rw [if_neg e', if_neg (by omega)]; omega
   rw [key, if_pos hi] at h1
   exact h1
  ·rw [List.getD, List.getElem?_eq_none (by rw [h.ly]; omega)]; simp
 have hm4 := h.rows4
 have hyb : smallB 16588800 c.ys = true := (smallB_getD (by omega)).2 fun i => h.ys400 i
 have hyd : 0 < c.yd ∧ c.yd ≤ 497664 := ⟨h.py, (le_of_mul h.ny h.dy (den_bound h.hp h.hr.len)).2⟩
 have hdm := dot_bound (mosts_small h.hp) hyb (by omega) (by omega)
 rw [length_mosts] at hdm
 have hE : ptE [dot (mosts p) c.ys] c.yd = 0 := pt_ok (by omega) (by omega) (by rw [smallB_one]; simp; omega) (by simp)
 have hwe : worE p (ptN (varL p c) c.xd) (ptD (varL p c) c.xd) = 0 := by unfold worE; rw [if_pos hf]; exact w1
 have hW := h.worth
 have hxd := h.px
 obtain ⟨g, g0, g1, g2, g3, g4⟩ := var_parts h
 have heq := fr_one hE w1 (by omega) (by omega) (show dot (mosts p) c.ys * ptD (varL p c) c.xd = dot p.costs (ptN (varL p c) c.xd) * c.yd by
  refine Int.eq_of_mul_eq_mul_left (show c.xd ≠ 0 by omega) ?_
  have q1 : c.xd * (dot (mosts p) c.ys * ptD (varL p c) c.xd) = (dot (mosts p) c.ys * c.xd) * ptD (varL p c) c.xd := by ac_rfl
  have q2 : c.xd * (dot p.costs (ptN (varL p c) c.xd) * c.yd) = (dot p.costs (ptN (varL p c) c.xd) * c.xd) * c.yd := by ac_rfl
  rw [q1, q2, w2, ← hW]
  unfold varL; ac_rfl)
 unfold bestB
 simp only [Bool.and_eq_true, decide_eq_true_eq]
 refine ⟨by simp [emptyB], hgo, aboveB_iff.2 ⟨h.my, h.ly, hy0⟩, ?_, hwe, hE, ⟨hwn.symm, hwd.symm⟩, ?_, ?_⟩
 ·unfold coversB
  rw [List.all_eq_true]
  intro j hj
  have hj' : j < p.costs.length := by simpa using hj
  rw [decide_eq_true_eq, dot_col h.ly, show sumN (fun i => hasZ p i j * c.ys.getD i 0) p.rows.length = sumN (fun i => c.ys.getD i 0 * hasZ p i j) p.rows.length from sumN_congr fun i _ => Int.mul_comm _ _]
  exact hgain j (by omega)
 ·rw [heq.1]; unfold worN; rw [if_pos hf]
 ·rw [heq.2]; unfold worD; rw [if_pos hf]
end
end Go.Proofs.YtjcdkbalhleeeaaGreatDoor
