/-
  Contracts of functions and plain laws that later parts of the proof use. The conditions stand in each theorem.
-/
import Derived.Test.YtjcdkbalhleeeabG02
import Derived.Test.YtjcdkbalhleeeabG01
namespace Go.Proofs.Ytjcdkbalhleeeab

theorem cast_sum {f : Nat → Int} : ∀ {n : Nat}, ((sumN f n : Int) : Rat) = sumR (fun i => (f i : Rat)) n
  | 0 => rfl
  | n + 1 => by rw [sumN, sumR, Rat.intCast_add, cast_sum]
theorem cast_ne {n : Int} (h : n ≠ 0) : (n : Rat) ≠ 0 := fun e => h (by exact_mod_cast e)
theorem cast_pos {n : Int} (h : 0 < n) : (0 : Rat) < (n : Rat) := by exact_mod_cast h

/-- A corner's columns, rows and gains as fractions. -/
def xq (c : CO) (j : Nat) : Rat := (c.xs.getD j 0 : Rat) / (c.xd : Rat)
def yq (c : CO) (i : Nat) : Rat := (c.ys.getD i 0 : Rat) / (c.yd : Rat)
def gq (c : CO) (j : Nat) : Rat := (c.gs.getD j 0 : Rat) / (c.gd : Rat)
def aq (p : PG) (i j : Nat) : Rat := (hasZ p i j : Rat)
def cq (p : PG) (j : Nat) : Rat := (costZ p j : Rat)

theorem zdiv (x : Rat) : ((0 : Int) : Rat) / x = 0 := by rw [show ((0 : Int) : Rat) = 0 from rfl]; grind
theorem div_eq {a b g : Int} (h : a = g * b) (hg : g ≠ 0) {e D : Int} (hd : D = g * e) (he : e ≠ 0) : (b : Rat) / (e : Rat) = (a : Rat) / (D : Rat) := by
  subst h hd
  rw [Rat.intCast_mul, Rat.intCast_mul]
  have := cast_ne hg; have := cast_ne he
  grind

section
variable {p : PG} {l : List Nat} {c : CO} {gx gy gg : Int}
theorem Corn.xq_eq (h : Corn p l c gx gy gg) (j : Nat) : xq c j = ((xall p l).getD j 0 : Rat) / (denZ p l : Rat) := div_eq (h.x j) h.nx h.dx (by have := h.px; omega)
theorem Corn.yq_eq (h : Corn p l c gx gy gg) (j : Nat) : yq c j = ((yall p l).getD j 0 : Rat) / (denZ p l : Rat) := div_eq (h.y j) h.ny h.dy (by have := h.py; omega)
theorem Corn.gq_eq (h : Corn p l c gx gy gg) (j : Nat) : gq c j = ((gall p l).getD j 0 : Rat) / (denZ p l : Rat) := div_eq (h.g j) h.ng h.dg (by have := h.pg; omega)
theorem Corn.rowQ (h : Corn p l c gx gy gg) {i : Nat} (hi : i < p.rows.length) : sumR (fun j => aq p i j * xq c j) (p.costs.length + p.rows.length) = ((mosts p).getD i 0 : Rat) := by
  have h1 := sum_has_x h.hr h.rows4 hi
  have h2 : ((sumN (fun j => hasZ p i j * (xall p l).getD j 0) (p.costs.length + p.rows.length) : Int) : Rat) = (((mosts p).getD i 0 * denZ p l : Int) : Rat) := by rw [h1]
  rw [cast_sum, Rat.intCast_mul] at h2
  have hd := cast_ne h.hd
  have e : sumR (fun j => aq p i j * xq c j) (p.costs.length + p.rows.length) = (1 / (denZ p l : Rat)) * sumR (fun j => ((hasZ p i j * (xall p l).getD j 0 : Int) : Rat)) (p.costs.length + p.rows.length) := by
    rw [← sumR_mul]
    refine sumR_congr fun j _ => ?_
    rw [h.xq_eq j, Rat.intCast_mul]; unfold aq; grind
  rw [e, h2]; grind
theorem Corn.offQ (h : Corn p l c gx gy gg) {j : Nat} (hj : j ∉ l) : xq c j = 0 := by
  rw [h.xq_eq j, xall_off h.hr hj]; exact zdiv _
theorem Corn.gainQ (h : Corn p l c gx gy gg) {j : Nat} (hj : j < p.costs.length + p.rows.length) : gq c j = cq p j - sumR (fun i => yq c i * aq p i j) p.rows.length := by
  rw [h.gq_eq j, gall_at hj]
  unfold gk
  have hd := cast_ne h.hd
  have e : sumR (fun i => yq c i * aq p i j) p.rows.length = (1 / (denZ p l : Rat)) * sumR (fun i => ((yk p l i * hasZ p i j : Int) : Rat)) p.rows.length := by
    rw [← sumR_mul]
    refine sumR_congr fun i hi => ?_
    rw [h.yq_eq i, yall_at hi, Rat.intCast_mul]; unfold aq; grind
  rw [e, ← cast_sum, Rat.intCast_sub, Rat.intCast_mul]
  unfold cq
  grind
theorem Corn.gainQ0 (h : Corn p l c gx gy gg) {j : Nat} (hj : j ∈ l) : gq c j = 0 := by
  obtain ⟨k, hk, rfl⟩ := List.mem_iff_getElem.1 hj
  have := h.gain_own (k := k) (by rw [← h.hr.len]; exact hk)
  simp only [List.getD, List.getElem?_eq_getElem hk, Option.getD_some] at this
  unfold gq
  simp only [List.getD]
  rw [this]; exact zdiv _
theorem sign_div {a b : Int} (hb : 0 < b) : ((0 : Rat) < (a : Rat) / (b : Rat) ↔ 0 < a) ∧ ((a : Rat) / (b : Rat) < 0 ↔ a < 0) := by
  have hb' := cast_pos hb
  have e : (a : Rat) / (b : Rat) * (b : Rat) = (a : Rat) := by grind
  constructor
  · constructor
    · intro h
      have := Rat.mul_pos h hb'
      rw [e] at this
      exact_mod_cast this
    · intro h
      have ha := cast_pos h
      apply Classical.byContradiction
      intro hn
      have := Rat.mul_nonneg (show (0 : Rat) ≤ -((a : Rat) / (b : Rat)) by grind) (show (0 : Rat) ≤ (b : Rat) by grind)
      grind
  · constructor
    · intro h
      have := Rat.mul_pos (show (0 : Rat) < -((a : Rat) / (b : Rat)) by grind) hb'
      have h2 : (0 : Rat) < -(a : Rat) := by grind
      have h3 : (a : Rat) < 0 := by grind
      exact_mod_cast h3
    · intro h
      have ha : (a : Rat) < 0 := by exact_mod_cast h
      apply Classical.byContradiction
      intro hn
      have := Rat.mul_nonneg (show (0 : Rat) ≤ (a : Rat) / (b : Rat) by grind) (show (0 : Rat) ≤ (b : Rat) by grind)
      grind
theorem nonneg_div {a b : Int} (hb : 0 < b) : (0 : Rat) ≤ (a : Rat) / (b : Rat) ↔ 0 ≤ a := by
  have h := (sign_div (a := a) hb).2
  constructor
  · intro h1
    apply Classical.byContradiction
    intro h2
    have := h.2 (by omega)
    grind
  · intro h1
    apply Classical.byContradiction
    intro h2
    have := h.1 (by grind)
    omega
end

/-! Only one way. -/
/-- The matrix with a column of 0s and one 1 in the place behind. -/
def unitC (A : Nat → Nat → Int) (m i : Nat) (r c : Nat) : Int := if c < m then A r c else if r = i then 1 else 0
set_option maxHeartbeats 4000000 in
theorem adj_left (A : Nat → Nat → Int) {m k j : Nat} (hm : m ≤ 4) (hk : k < m) (hj : j < m) : sumN (fun i => dtp (unitC A m i) m k m * A i j) m = if j = k then dtm A m else 0 := by
  unfold dtp dtm
  rcases (show m = 1 ∨ m = 2 ∨ m = 3 ∨ m = 4 by omega) with rfl | rfl | rfl | rfl
  · obtain rfl : k = 0 := by omega
    obtain rfl : j = 0 := by omega
    simp [sumN, dt1, unitC]
  · rcases (show k = 0 ∨ k = 1 by omega) with rfl | rfl <;> rcases (show j = 0 ∨ j = 1 by omega) with rfl | rfl <;> (simp [sumN, range2, dt2, unitC]; try grind)
  · rcases (show k = 0 ∨ k = 1 ∨ k = 2 by omega) with rfl | rfl | rfl <;> rcases (show j = 0 ∨ j = 1 ∨ j = 2 by omega) with rfl | rfl | rfl <;> (simp [sumN, range3, dt3, unitC]; try grind)
  · rcases (show k = 0 ∨ k = 1 ∨ k = 2 ∨ k = 3 by omega) with rfl | rfl | rfl | rfl <;> rcases (show j = 0 ∨ j = 1 ∨ j = 2 ∨ j = 3 by omega) with rfl | rfl | rfl | rfl <;> (simp [sumN, range4, dt4, dt3, unitC]; try grind)

/-- A sum over all columns, of what is 0 off l. -/
theorem sum_support {p : PG} {l : List Nat} (hr : RightL p l) {f : Nat → Rat} (hf : ∀ j, j ∉ l → f j = 0) : sumR f (p.costs.length + p.rows.length) = sumR (fun k => f (l.getD k 0)) p.rows.length := by
  have h1 : ∀ j, f j = sumR (fun k => if l.getD k 0 = j then f j else 0) p.rows.length := by
    intro j
    by_cases hj : j ∈ l
    · obtain ⟨k, hk, rfl⟩ := List.mem_iff_getElem.1 hj
      have hk' : k < p.rows.length := by rw [← hr.len]; exact hk
      have e : l.getD k 0 = l[k] := by simp [List.getD, List.getElem?_eq_getElem hk]
      rw [sumR_one hk', if_pos e]
      intro i hi hne
      rw [if_neg]
      intro q
      rw [← e] at q
      rcases Nat.lt_or_gt_of_ne hne with h | h
      · have := hr.ne h hk; omega
      · have := hr.ne h (by rw [hr.len]; exact hi); omega
    · rw [hf j hj]
      refine Eq.symm ((sumR_congr fun k _ => ?_).trans sumR_zero)
      split <;> rfl
  rw [sumR_congr (g := fun j => sumR (fun k => if l.getD k 0 = j then f j else 0) p.rows.length) fun j _ => h1 j]
  rw [← sumR_comm (f := fun k j => if l.getD k 0 = j then f j else 0)]
  refine sumR_congr fun k hk => ?_
  rw [sumR_one (hr.at_lt (by rw [hr.len]; exact hk)), if_pos rfl]
  intro j _ hne
  rw [if_neg (fun q => hne q.symm)]
theorem kernel {p : PG} {l : List Nat} (hr : RightL p l) (h4 : p.rows.length ≤ 4) (hd : denZ p l ≠ 0) {z : Nat → Rat} (hz : ∀ j, j ∉ l → z j = 0)
    (hA : ∀ i, i < p.rows.length → sumR (fun j => aq p i j * z j) (p.costs.length + p.rows.length) = 0) : ∀ j, z j = 0 := by
  intro j
  by_cases hj : j ∈ l
  rotate_left
  · exact hz j hj
  obtain ⟨k, hk, rfl⟩ := List.mem_iff_getElem.1 hj
  have hk' : k < p.rows.length := by rw [← hr.len]; exact hk
  have e : l.getD k 0 = l[k] := by simp [List.getD, List.getElem?_eq_getElem hk]
  rw [← e]
  have h1 : ∀ i, i < p.rows.length → sumR (fun k => (matD p l i k : Rat) * z (l.getD k 0)) p.rows.length = 0 := by
    intro i hi
    rw [← hA i hi, sum_support hr (fun j hj => by rw [hz j hj]; grind)]
    refine sumR_congr fun q hq => ?_
    unfold matD aq
    rw [if_pos (by rw [hr.len]; exact hq)]
  have h2 : sumR (fun i => (dtp (unitC (matD p l) p.rows.length i) p.rows.length k p.rows.length : Rat) * sumR (fun q => (matD p l i q : Rat) * z (l.getD q 0)) p.rows.length) p.rows.length = 0 :=
    (sumR_congr fun i hi => by rw [h1 i hi]; grind).trans sumR_zero
  have h3 : sumR (fun i => (dtp (unitC (matD p l) p.rows.length i) p.rows.length k p.rows.length : Rat) * sumR (fun q => (matD p l i q : Rat) * z (l.getD q 0)) p.rows.length) p.rows.length
      = sumR (fun q => (if q = k then (denZ p l : Rat) else 0) * z (l.getD q 0)) p.rows.length := by
    rw [sumR_congr (g := fun i => sumR (fun q => (dtp (unitC (matD p l) p.rows.length i) p.rows.length k p.rows.length : Rat) * ((matD p l i q : Rat) * z (l.getD q 0))) p.rows.length) fun i _ => by rw [sumR_mul]]
    rw [sumR_comm]
    refine sumR_congr fun q hq => ?_
    have ha := adj_left (matD p l) h4 hk' hq
    have e1 : sumR (fun i => (dtp (unitC (matD p l) p.rows.length i) p.rows.length k p.rows.length : Rat) * ((matD p l i q : Rat) * z (l.getD q 0))) p.rows.length
        = z (l.getD q 0) * ((sumN (fun i => dtp (unitC (matD p l) p.rows.length i) p.rows.length k p.rows.length * matD p l i q) p.rows.length : Int) : Rat) := by
      rw [cast_sum, ← sumR_mul]
      refine sumR_congr fun i _ => ?_
      rw [Rat.intCast_mul]; grind
    rw [e1, ha]
    unfold denZ
    by_cases hqk : q = k
    · rw [if_pos hqk, if_pos hqk]; grind
    · rw [if_neg hqk, if_neg hqk]; simp
  rw [h3, sumR_one hk' (fun q _ hq => by rw [if_neg hq]; grind), if_pos rfl] at h2
  have := cast_ne hd
  grind
end Go.Proofs.Ytjcdkbalhleeeab

namespace Go.Proofs.Ytjcdkbalhleeeab

/-- Columns that are right, have one way, and go. -/
structure OKb (p : PG) (l : List Nat) : Prop where
  hp : mayPB p = true
  hr : RightL p l
  hd : denZ p l ≠ 0
  hx : nonneg (lookN p l).xs = true

theorem corn_of {p : PG} {l : List Nat} (hp : mayPB p = true) (hr : RightL p l) (hd : denZ p l ≠ 0) : ∃ gx gy gg, Corn p l (lookN p l) gx gy gg := by
  have := look_corn (look_ints hp hr hd)
  rwa [nats_ints] at this
theorem getD_map {l : List Nat} {f : Nat → Int} {k : Nat} (h : k < l.length) : (l.map f).getD k 0 = f (l.getD k 0) := by
  simp [List.getD, List.getElem?_eq_getElem h]
theorem mem_getD {l : List Nat} {j : Nat} : j ∈ l ↔ ∃ k, k < l.length ∧ l.getD k 0 = j := by
  constructor
  · intro h
    obtain ⟨k, hk, rfl⟩ := List.mem_iff_getElem.1 h
    exact ⟨k, hk, by simp [List.getD, List.getElem?_eq_getElem hk]⟩
  · rintro ⟨k, hk, rfl⟩
    simp only [List.getD, List.getElem?_eq_getElem hk, Option.getD_some]
    exact List.getElem_mem hk

/-- What a step computes. -/
structure Stp (p : PG) (l : List Nat) (r k : Nat) : Prop where
  hin : inZ (lookN p l).gs = some r
  hout : outZ (lookN p l).xs l (lessZ p l r) l.length = some k
section
variable {p : PG} {l : List Nat} {r k : Nat}
theorem mem_erase (hr : RightL p l) (hk : k < l.length) {j : Nat} : j ∈ l.eraseIdx k ↔ j ∈ l ∧ j ≠ l.getD k 0 := by
  rw [List.mem_eraseIdx_iff_getElem]
  constructor
  · rintro ⟨i, hi, hne, rfl⟩
    refine ⟨List.getElem_mem hi, ?_⟩
    have e : l[i] = l.getD i 0 := by simp [List.getD, List.getElem?_eq_getElem hi]
    rw [e]
    rcases Nat.lt_or_gt_of_ne hne with h | h
    · have := hr.ne h hk; omega
    · have := hr.ne h hi; omega
  · rintro ⟨h1, h2⟩
    obtain ⟨i, hi, rfl⟩ := List.mem_iff_getElem.1 h1
    refine ⟨i, hi, fun e => h2 ?_, rfl⟩
    subst e
    simp [List.getD, List.getElem?_eq_getElem hi]
theorem right_next (hr : RightL p l) (hk : k < l.length) (hrl : r ∉ l) (hN : r < p.costs.length + p.rows.length) : RightL p (insN (l.eraseIdx k) r) := by
  refine ⟨?_, ?_, ?_⟩
  · rw [length_insN, List.length_eraseIdx_of_lt hk]; have := hr.len; omega
  · intro j hj
    rcases mem_insN.1 hj with h | h
    · exact hr.lt j ((mem_erase hr hk).1 h).1
    · omega
  · exact insN_pw (hr.pw.sublist (List.eraseIdx_sublist l k)) (fun q => hrl ((mem_erase hr hk).1 q).1)
theorem den_dt (hr : l.length = p.rows.length) : denZ p l = dt (hasZ p) (List.range p.rows.length) l := by
  unfold denZ dtm
  have e : dt (matD p l) (List.range p.rows.length) (List.range p.rows.length) = dt (fun i j => hasZ p i (l.getD j 0)) (List.range p.rows.length) (List.range p.rows.length) := by
    refine dt_congr2 fun i _ j hj => ?_
    have : j < p.rows.length := by simpa using hj
    unfold matD; rw [if_pos (by omega)]
  rw [e, dt_cols (f := fun j => l.getD j 0)]
  congr 1
  refine List.ext_getElem (by simp; omega) fun i h1 h2 => ?_
  simp [List.getD, List.getElem?_eq_getElem h2]
theorem xk_dt (hr : l.length = p.rows.length) (_hk : k < p.rows.length) : xk (qOf p r) l k = dt (hasZ p) (List.range p.rows.length) (l.set k r) := by
  unfold xk dtp
  rw [qOf_len]
  have e : dt (matD (qOf p r) l) (List.range p.rows.length) ((List.range p.rows.length).set k p.rows.length) =
      dt (fun i j => hasZ p i (if j < l.length then l.getD j 0 else r)) (List.range p.rows.length) ((List.range p.rows.length).set k p.rows.length) := by
    refine dt_congr2 fun i hi j _ => ?_
    have : i < p.rows.length := by simpa using hi
    unfold matD
    by_cases hj : j < l.length
    · rw [if_pos hj, if_pos hj, qOf_has]
    · rw [if_neg hj, if_neg hj, qOf_most p r this]
  rw [e, dt_cols (f := fun j => if j < l.length then l.getD j 0 else r)]
  congr 1
  refine List.ext_getElem (by simp; omega) fun i h1 h2 => ?_
  have h2' : i < l.length := by simpa using h2
  simp only [List.getElem_map, List.getElem_set]
  by_cases e : k = i
  · subst e; rw [if_pos rfl, if_pos rfl, if_neg (by omega)]
  · rw [if_neg e, if_neg e, List.getElem_range, if_pos h2']
    simp [List.getD, List.getElem?_eq_getElem h2']
theorem den_next (hr : RightL p l) (h4 : p.rows.length ≤ 4) (hk : k < p.rows.length) (hn : xk (qOf p r) l k ≠ 0) (hrl : r ∉ l) (hN : r < p.costs.length + p.rows.length) : denZ p (insN (l.eraseIdx k) r) ≠ 0 := by
  have hkl : k < l.length := by rw [hr.len]; exact hk
  have hR := right_next hr hkl hrl hN
  rw [den_dt hR.len]
  rw [xk_dt hr.len hk] at hn
  have e1 : l.set k r = (l.eraseIdx k).take k ++ r :: (l.eraseIdx k).drop k := by
    rw [List.set_eq_take_append_cons_drop, if_pos hkl]
    rw [List.eraseIdx_eq_take_drop_succ]
    have hl1 : (l.take k).length = k := by rw [List.length_take]; omega
    rw [List.take_left' hl1, List.drop_left' hl1]
  have hlen : (l.eraseIdx k).length + 1 = (List.range p.rows.length).length := by
    rw [List.length_eraseIdx_of_lt hkl, List.length_range]; have := hr.len; omega
  have h1 := dt_ins (hasZ p) (rs := List.range p.rows.length) (w := l.eraseIdx k) (r := r) (by simpa using h4) hlen k (by rw [List.length_eraseIdx_of_lt hkl]; omega)
  rw [insN_take]
  have h2 := dt_ins (hasZ p) (rs := List.range p.rows.length) (w := l.eraseIdx k) (r := r) (by simpa using h4) hlen ((l.eraseIdx k).takeWhile (fun j => decide (j < r))).length (List.takeWhile_prefix _).length_le
  rw [e1] at hn
  intro h0
  rw [h0] at h2
  rw [← h2] at h1
  exact hn (Int.natAbs_eq_zero.1 h1)
end

theorem nonneg_of {l : List Int} (h : ∀ j, 0 ≤ l.getD j 0) : nonneg l = true := by
  unfold nonneg
  rw [List.all_eq_true]
  intro x hx
  obtain ⟨j, hj, rfl⟩ := List.mem_iff_getElem.1 hx
  have := h j
  simpa [List.getD, List.getElem?_eq_getElem hj] using this

/-- How all columns change as column r grows by one. -/
def dq (p : PG) (l : List Nat) (r j : Nat) : Rat := if j = r then 1 else -(xq (lookN (qOf p r) l) j)
def tq (p : PG) (l : List Nat) (r k : Nat) : Rat := xq (lookN p l) (l.getD k 0) / xq (lookN (qOf p r) l) (l.getD k 0)

/-- Facts of the direction. -/
theorem dir_ker {p : PG} {l : List Nat} (hp : mayPB p = true) (hr : RightL p l) (hd : denZ p l ≠ 0) {r : Nat} (hrl : r ∉ l) (hN : r < p.costs.length + p.rows.length) {i : Nat} (hi : i < p.rows.length) :
    sumR (fun j => aq p i j * dq p l r j) (p.costs.length + p.rows.length) = 0 := by
  obtain ⟨a1, a2, a3, hq⟩ := corn_of (qOf_may hp r) (qOf_right hr r) (by rw [qOf_den hr.len]; exact hd)
  have h1 := hq.rowQ (i := i) (by rw [qOf_len]; exact hi)
  rw [qOf_most p r hi, qOf_len] at h1
  simp only [show (qOf p r).costs = p.costs from rfl] at h1
  have e : sumR (fun j => aq p i j * dq p l r j) (p.costs.length + p.rows.length) = sumR (fun j => (if j = r then aq p i r else 0) + (-1) * (aq (qOf p r) i j * xq (lookN (qOf p r) l) j)) (p.costs.length + p.rows.length) := by
    refine sumR_congr fun j _ => ?_
    unfold dq
    have ha : aq (qOf p r) i j = aq p i j := by unfold aq; rw [qOf_has]
    rw [ha]
    by_cases hj : j = r
    · subst hj; rw [if_pos rfl, if_pos rfl, hq.offQ hrl]; grind
    · rw [if_neg hj, if_neg hj]; grind
  rw [e, sumR_add, sumR_mul, h1, sumR_one hN (fun j _ hj => if_neg hj), if_pos rfl]
  unfold aq; grind

/-- The columns that a walk comes to. -/
def wk (p : PG) (l : List Nat) : Nat → Option (List Nat)
  | 0 => some l
  | n + 1 => (wk p l n).bind (nxtZ p)
theorem wk_some {p : PG} {l : List Nat} {n : Nat} (h : wk p l n ≠ none) : ∀ {i}, i ≤ n → ∃ l', wk p l i = some l' := by
  intro i hi
  cases hw : wk p l i with
  | some l' => exact ⟨l', rfl⟩
  | none =>
    exfalso
    have : ∀ k, wk p l (i + k) = none := by
      intro k
      induction k with
      | zero => exact hw
      | succ k ih => rw [show i + (k + 1) = (i + k) + 1 by omega, wk, ih]; rfl
    have := this (n - i)
    rw [show i + (n - i) = n by omega] at this
    exact h this

/-! Each walk ends. -/
def code (l : List Nat) : Nat → Nat
  | 0 => 0
  | n + 1 => code l n + if n ∈ l then 2 ^ n else 0
theorem code_lt (l : List Nat) : ∀ n, code l n < 2 ^ n
  | 0 => by simp [code]
  | n + 1 => by
    have := code_lt l n
    rw [code, Nat.pow_succ]
    split <;> omega
theorem pw_ext : ∀ {l l' : List Nat}, l.Pairwise (· < ·) → l'.Pairwise (· < ·) → (∀ j, j ∈ l ↔ j ∈ l') → l = l'
  | [], [], _, _, _ => rfl
  | [], b :: l', _, _, h => by have := (h b).2 (by simp); simp at this
  | a :: l, [], _, _, h => by have := (h a).1 (by simp); simp at this
  | a :: l, b :: l', h1, h2, h => by
    rw [List.pairwise_cons] at h1 h2
    have e : a = b := by
      have ha := (h a).1 (by simp)
      have hb := (h b).2 (by simp)
      rcases List.mem_cons.1 ha with q | q
      · exact q
      · rcases List.mem_cons.1 hb with q' | q'
        · exact q'.symm
        · have := h1.1 b q'; have := h2.1 a q; omega
    subst e
    rw [pw_ext h1.2 h2.2 fun j => ?_]
    have := h j
    simp only [List.mem_cons] at this
    constructor
    · intro q
      rcases this.1 (Or.inr q) with e | e
      · have := h1.1 j q; omega
      · exact e
    · intro q
      rcases this.2 (Or.inr q) with e | e
      · have := h2.1 j q; omega
      · exact e
end Go.Proofs.Ytjcdkbalhleeeab

namespace Go.Proofs.Ytjcdkbalhleeeab

/-- One column changed for another one: what all columns are, whichever goes out. -/
theorem pivot_x {p : PG} {l : List Nat} (hp : mayPB p = true) (hr : RightL p l) (hd : denZ p l ≠ 0) {r k : Nat} (hrl : r ∉ l) (hN : r < p.costs.length + p.rows.length) (o1 : k < l.length)
    (hn : (lookN (qOf p r) l).xs.getD (l.getD k 0) 0 ≠ 0) :
    RightL p (insN (l.eraseIdx k) r) ∧ denZ p (insN (l.eraseIdx k) r) ≠ 0 ∧ ∀ j, xq (lookN p (insN (l.eraseIdx k) r)) j = xq (lookN p l) j + tq p l r k * dq p l r j := by
  obtain ⟨gx, gy, gg, hc⟩ := corn_of hp hr hd
  obtain ⟨a1, a2, a3, hq⟩ := corn_of (qOf_may hp r) (qOf_right hr r) (by rw [qOf_den hr.len]; exact hd)
  have h4 := hc.rows4
  have hk : k < p.rows.length := by rw [← hr.len]; exact o1
  have hs_mem : l.getD k 0 ∈ l := mem_getD.2 ⟨k, o1, rfl⟩
  have hqd : 0 < (lookN (qOf p r) l).xd := hq.px
  have hsp : xq (lookN (qOf p r) l) (l.getD k 0) ≠ 0 := by
    intro h
    rcases Int.lt_or_gt_of_ne hn with q | q
    · have := (sign_div hqd).2.2 q; unfold xq at h; rw [h] at this; grind
    · have := (sign_div hqd).1.2 q; unfold xq at h; rw [h] at this; grind
  have ht : tq p l r k * xq (lookN (qOf p r) l) (l.getD k 0) = xq (lookN p l) (l.getD k 0) := by unfold tq; grind
  have hsr : l.getD k 0 ≠ r := fun e => hrl (e ▸ hs_mem)
  have hds : dq p l r (l.getD k 0) = -(xq (lookN (qOf p r) l) (l.getD k 0)) := by unfold dq; rw [if_neg hsr]
  have hxk : xk (qOf p r) l k ≠ 0 := by
    have h1 := hq.x (l.getD k 0)
    rw [xall_at (qOf_right hr r) (by rw [qOf_len]; exact hk)] at h1
    rw [h1]
    intro h0
    rcases Int.mul_eq_zero.1 h0 with e | e
    · exact hq.nx e
    · exact hn e
  have hR := right_next hr o1 hrl hN
  have hD' := den_next hr h4 hk hxk hrl hN
  obtain ⟨b1, b2, b3, hc'⟩ := corn_of hp hR hD'
  refine ⟨hR, hD', ?_⟩
  have hz := kernel hR h4 hD' (z := fun j => xq (lookN p (insN (l.eraseIdx k) r)) j - (xq (lookN p l) j + tq p l r k * dq p l r j)) ?_ ?_
  · intro j; have := hz j; grind
  · intro j hj
    have hj' : ¬ (j ∈ l ∧ j ≠ l.getD k 0) ∧ j ≠ r := ⟨fun q => hj (mem_insN.2 (Or.inl ((mem_erase hr o1).2 q))), fun q => hj (mem_insN.2 (Or.inr q))⟩
    rw [hc'.offQ hj]
    by_cases hjs : j = l.getD k 0
    · subst hjs; rw [hds, ← ht]; grind
    · have hjl : j ∉ l := fun q => hj'.1 ⟨q, hjs⟩
      rw [hc.offQ hjl]
      unfold dq
      rw [if_neg hj'.2, hq.offQ hjl]; grind
  · intro i hi
    have k1 := hc'.rowQ hi
    have k2 := hc.rowQ hi
    have k3 := dir_ker hp hr hd hrl hN hi
    have e : sumR (fun j => aq p i j * (xq (lookN p (insN (l.eraseIdx k) r)) j - (xq (lookN p l) j + tq p l r k * dq p l r j))) (p.costs.length + p.rows.length) =
        sumR (fun j => aq p i j * xq (lookN p (insN (l.eraseIdx k) r)) j + ((-1) * (aq p i j * xq (lookN p l) j) + (-(tq p l r k)) * (aq p i j * dq p l r j))) (p.costs.length + p.rows.length) :=
      sumR_congr fun j _ => by grind
    rw [e, sumR_add, sumR_add, sumR_mul, sumR_mul, k1, k2, k3]; grind
theorem pivot_r {p : PG} {l : List Nat} (hp : mayPB p = true) (hr : RightL p l) (hd : denZ p l ≠ 0) {r k : Nat} (hrl : r ∉ l) (hN : r < p.costs.length + p.rows.length) (o1 : k < l.length)
    (hn : (lookN (qOf p r) l).xs.getD (l.getD k 0) 0 ≠ 0) : xq (lookN p (insN (l.eraseIdx k) r)) r = tq p l r k := by
  obtain ⟨gx, gy, gg, hc⟩ := corn_of hp hr hd
  rw [(pivot_x hp hr hd hrl hN o1 hn).2.2 r, hc.offQ hrl]
  unfold dq; rw [if_pos rfl]; grind

/-- A column of a corner, as the fraction that the document makes of it. -/
def colN (c : CO) (j : Nat) : Int := frN (c.xs.getD j 0) c.xd
def colD (c : CO) (j : Nat) : Int := ptD [c.xs.getD j 0] c.xd
theorem frac_same {a b d e : Int} (hb : 0 < b) (he : 0 < e) (h : (a : Rat) / (b : Rat) = (d : Rat) / (e : Rat)) : a * e = d * b := by
  have h1 := cast_pos hb; have h2 := cast_pos he
  have : (a : Rat) * e = d * b := by grind
  exact_mod_cast this
theorem lt_div {a b c d : Int} (hb : 0 < b) (hd : 0 < d) : (a : Rat) / (b : Rat) < (c : Rat) / (d : Rat) ↔ a * d - c * b < 0 := by
  have h1 := cast_pos hb; have h2 := cast_pos hd
  have e : (a : Rat) / (b : Rat) - (c : Rat) / (d : Rat) = ((a * d - c * b : Int) : Rat) / ((b * d : Int) : Rat) := by
    rw [Rat.intCast_sub, Rat.intCast_mul, Rat.intCast_mul, Rat.intCast_mul]; grind
  have hbd := Int.mul_pos hb hd
  rw [← (sign_div (a := a * d - c * b) hbd).2, ← e]
  constructor <;> intro h <;> grind
/-- The fraction is the column's, and may be. -/
theorem col_eq {p : PG} {l : List Nat} {c : CO} {gx gy gg : Int} (h : Corn p l c gx gy gg) (j : Nat) : ptE [c.xs.getD j 0] c.xd = 0 ∧ (colN c j : Rat) / (colD c j : Rat) = xq c j ∧ 0 < colD c j := by
  have hm := mayB_parts h.mx
  have hs := smallB_getD (l := c.xs) (m := 1073741824) (by omega)
  have hb := hs.1 hm.2.2.1 j
  have hE : ptE [c.xs.getD j 0] c.xd = 0 := by
    refine pt_like (a := c.xs.getD j 0) (b := c.xd) (by have := h.px; omega) (by have := h.px; omega) rfl (by omega) ?_ hb ?_
    · have := h.px; omega
    · have := h.px; omega
  obtain ⟨c1, c2⟩ := frac_pos hE
  refine ⟨hE, ?_, c1⟩
  unfold colN colD xq
  have h1 := cast_pos c1
  have h2 := cast_pos h.px
  have h3 : (frN (c.xs.getD j 0) c.xd : Rat) * (c.xd : Rat) = (c.xs.getD j 0 : Rat) * (ptD [c.xs.getD j 0] c.xd : Rat) := by
    rw [← Rat.intCast_mul, ← Rat.intCast_mul, c2]
  grind

where
  near_iff {p : PG} {l : List Nat} (hp : mayPB p = true) (hr : RightL p l) (hd : denZ p l ≠ 0) {r : Nat} (hrl : r ∉ l) (hN : r < p.costs.length + p.rows.length) {k q : Nat} (hk : k < l.length) (hq : q < l.length)
      (h1 : 0 < (lookN (qOf p r) l).xs.getD (l.getD k 0) 0) (h2 : 0 < (lookN (qOf p r) l).xs.getD (l.getD q 0) 0) :
      cmpZ (colN (lookN p (insN (l.eraseIdx k) r)) r) (colD (lookN p (insN (l.eraseIdx k) r)) r) (colN (lookN p (insN (l.eraseIdx q) r)) r) (colD (lookN p (insN (l.eraseIdx q) r)) r) < 0 ↔
        nearB (lookN p l).xs l (lessZ p l r) k (some q) = true := by
    have hk1 : (lookN (qOf p r) l).xs.getD (l.getD k 0) 0 ≠ 0 := by omega
    have hq1 : (lookN (qOf p r) l).xs.getD (l.getD q 0) 0 ≠ 0 := by omega
    have pk := pivot_x hp hr hd hrl hN hk hk1
    have pq := pivot_x hp hr hd hrl hN hq hq1
    obtain ⟨_, _, _, ck⟩ := corn_of hp pk.1 pk.2.1
    obtain ⟨_, _, _, cq⟩ := corn_of hp pq.1 pq.2.1
    obtain ⟨_, ek, dk⟩ := col_eq ck r
    obtain ⟨_, eq, dq'⟩ := col_eq cq r
    unfold cmpZ
    rw [← lt_div dk dq', ek, eq, pivot_r hp hr hd hrl hN hk hk1, pivot_r hp hr hd hrl hN hq hq1]
    obtain ⟨_, _, _, hc⟩ := corn_of hp hr hd
    obtain ⟨_, _, _, hQ⟩ := corn_of (qOf_may hp r) (qOf_right hr r) (by rw [qOf_den hr.len]; exact hd)
    have hxd := hc.px
    have hqd := hQ.px
    simp only [nearB, decide_eq_true_eq]
    have lk : (lessZ p l r).getD k 0 = (lookN (qOf p r) l).xs.getD (l.getD k 0) 0 := by unfold lessZ; rw [getD_map hk]
    have lq : (lessZ p l r).getD q 0 = (lookN (qOf p r) l).xs.getD (l.getD q 0) 0 := by unfold lessZ; rw [getD_map hq]
    rw [lk, lq]
    have t1 : tq p l r k = (((lookN p l).xs.getD (l.getD k 0) 0 * (lookN (qOf p r) l).xd : Int) : Rat) / (((lookN p l).xd * (lookN (qOf p r) l).xs.getD (l.getD k 0) 0 : Int) : Rat) := by
      unfold tq xq; rw [Rat.intCast_mul, Rat.intCast_mul]
      have := cast_pos hxd; have := cast_pos hqd; have := cast_pos h1; grind
    have t2 : tq p l r q = (((lookN p l).xs.getD (l.getD q 0) 0 * (lookN (qOf p r) l).xd : Int) : Rat) / (((lookN p l).xd * (lookN (qOf p r) l).xs.getD (l.getD q 0) 0 : Int) : Rat) := by
      unfold tq xq; rw [Rat.intCast_mul, Rat.intCast_mul]
      have := cast_pos hxd; have := cast_pos hqd; have := cast_pos h2; grind
    rw [t1, t2, lt_div (Int.mul_pos hxd h1) (Int.mul_pos hxd h2)]
    generalize (lookN p l).xs.getD (l.getD k 0) 0 = a at *
    generalize (lookN p l).xs.getD (l.getD q 0) 0 = b at *
    generalize (lookN (qOf p r) l).xs.getD (l.getD k 0) 0 = u at *
    generalize (lookN (qOf p r) l).xs.getD (l.getD q 0) 0 = v at *
    generalize (lookN p l).xd = e at *
    generalize (lookN (qOf p r) l).xd = f at *
    -- a f (e v) - b f (e u) < 0 iff a v < b u
    have hef := Int.mul_pos hxd hqd
    have e1 : a * f * (e * v) - b * f * (e * u) = (e * f) * (a * v - b * u) := by grind
    rw [e1]
    constructor
    · intro h
      by_cases g : a * v - b * u < 0
      · omega
      · have := Int.mul_nonneg (show 0 ≤ e * f by omega) (show 0 ≤ a * v - b * u by omega); omega
    · intro h
      exact Int.mul_neg_of_pos_of_neg hef (by omega)
end Go.Proofs.Ytjcdkbalhleeeab

namespace Go.Proofs.Ytjcdkbalhleeeab

/-- What is wrong with columns as a walk's beginning. -/
def nextE (p : PG) (l : List Int) : Int := if lookE p l = 0 then (if nonneg (lookC p l).xs = true then 0 else 3) else lookE p l
theorem look_parts {p : PG} {l : List Int} (h : lookE p l = 0) : mayPB p = true ∧ rightA p l = true ∧ denZ p (nats l) ≠ 0 := by
  unfold lookE at h
  split at h
  · omega
  · rename_i h1
    split at h
    · omega
    · rename_i h2
      split at h
      · omega
      · rename_i h3
        exact ⟨by simpa using h1, by simpa using h2, h3⟩
theorem ok_look {p : PG} {l : List Nat} (h : OKb p l) : lookE p (ints l) = 0 := look_ints h.hp h.hr h.hd
/-- The k-th columns of a walk are lk, and there it ends. -/
structure EndAt (p : PG) (l : List Nat) (k : Nat) (lk : List Nat) : Prop where
  at_ : wk p l k = some lk
  no : nxtZ p lk = none
theorem EndAt.le {p : PG} {l : List Nat} {a b : Nat} {la lb : List Nat} (h1 : EndAt p l a la) (h2 : EndAt p l b lb) : a ≤ b := by
  apply Classical.byContradiction
  intro h
  have hn : wk p l (b + 1) = none := by rw [wk, h2.at_]; exact h2.no
  obtain ⟨l', hl'⟩ := wk_some (p := p) (l := l) (n := a) (by rw [h1.at_]; simp) (i := b + 1) (by omega)
  rw [hn] at hl'
  cases hl'
/-- The columns of a walk, one by one. -/
def wkL (p : PG) (l : List Nat) (k : Nat) : List (List Int) := (List.range k).map fun i => ints ((wk p l i).getD [])
/-! What the variables are worth. -/
def valN (p : PG) (l : List Nat) : Int := dot p.costs ((lookN p l).xs.take p.costs.length)
theorem val_sum {p : PG} {l : List Nat} {c : CO} {gx gy gg : Int} (h : Corn p l c gx gy gg) :
    sumR (fun j => cq p j * xq c j) (p.costs.length + p.rows.length) = (dot p.costs (c.xs.take p.costs.length) : Rat) / (c.xd : Rat) := by
  have e1 : sumN (fun j => costZ p j * c.xs.getD j 0) (p.costs.length + p.rows.length) = dot p.costs (c.xs.take p.costs.length) := by
    rw [sum_costZ, dot_sum (n := p.costs.length) rfl (by rw [List.length_take, h.lx]; omega)]
    refine sumN_congr fun j hj => ?_
    have : (c.xs.take p.costs.length).getD j 0 = c.xs.getD j 0 := by simp [List.getD, hj]
    rw [this]
  have hx := cast_pos h.px
  have e2 : sumR (fun j => cq p j * xq c j) (p.costs.length + p.rows.length) = sumR (fun j => (1 / (c.xd : Rat)) * ((costZ p j * c.xs.getD j 0 : Int) : Rat)) (p.costs.length + p.rows.length) :=
    sumR_congr fun j _ => by unfold cq xq; rw [Rat.intCast_mul]; grind
  rw [e2, sumR_mul, ← cast_sum, e1]
  grind
end Go.Proofs.Ytjcdkbalhleeeab

namespace Go.Proofs.Ytjcdkbalhleeeab

/-- Columns of which there is one way. -/
structure Bs (p : PG) (l : List Nat) : Prop where
  hp : mayPB p = true
  hr : RightL p l
  hd : denZ p l ≠ 0
theorem OKb.bs {p : PG} {l : List Nat} (h : OKb p l) : Bs p l := ⟨h.hp, h.hr, h.hd⟩
theorem Bs.rows4 {p : PG} {l : List Nat} (h : Bs p l) : p.rows.length ≤ 4 := (mayPB_iff.1 h.hp).2.2.2.1
/-- By how much the k-th column of l becomes less as column j grows by one. -/
def alq (p : PG) (l : List Nat) (k j : Nat) : Rat := xq (lookN (qOf p j) l) (l.getD k 0)
theorem colQ {p : PG} {l : List Nat} (hb : Bs p l) (r : Nat) {i : Nat} (hi : i < p.rows.length) : sumR (fun j => aq p i j * xq (lookN (qOf p r) l) j) (p.costs.length + p.rows.length) = aq p i r := by
  obtain ⟨a1, a2, a3, hq⟩ := corn_of (qOf_may hb.hp r) (qOf_right hb.hr r) (by rw [qOf_den hb.hr.len]; exact hb.hd)
  have h1 := hq.rowQ (i := i) (by rw [qOf_len]; exact hi)
  rw [qOf_most p r hi, qOf_len] at h1
  simp only [show (qOf p r).costs = p.costs from rfl] at h1
  rw [show aq p i r = (hasZ p i r : Rat) from rfl, ← h1]
  refine sumR_congr fun j _ => ?_
  unfold aq; rw [qOf_has]
theorem colOff {p : PG} {l : List Nat} (hb : Bs p l) (r : Nat) {j : Nat} (hj : j ∉ l) : xq (lookN (qOf p r) l) j = 0 := by
  obtain ⟨a1, a2, a3, hq⟩ := corn_of (qOf_may hb.hp r) (qOf_right hb.hr r) (by rw [qOf_den hb.hr.len]; exact hb.hd)
  exact hq.offQ hj
theorem al_own {p : PG} {l : List Nat} (hb : Bs p l) {k q : Nat} (hk : k < l.length) (hq : q < l.length) : alq p l k (l.getD q 0) = if q = k then 1 else 0 := by
  have hlt := hb.hr.at_lt hq
  have hz := kernel hb.hr hb.rows4 hb.hd (z := fun j => xq (lookN (qOf p (l.getD q 0)) l) j - if j = l.getD q 0 then 1 else 0) ?_ ?_
  · have h := hz (l.getD k 0)
    unfold alq
    by_cases e : q = k
    · subst e; rw [if_pos rfl] at h ⊢; grind
    · rw [if_neg e]
      have hne : l.getD k 0 ≠ l.getD q 0 := by
        rcases Nat.lt_or_gt_of_ne e with h | h
        · have := hb.hr.ne h hk; omega
        · have := hb.hr.ne h hq; omega
      rw [if_neg hne] at h; grind
  · intro j hj
    rw [colOff hb _ hj, if_neg (fun e : j = l.getD q 0 => hj (by rw [e]; exact mem_getD.2 ⟨q, hq, rfl⟩))]; grind
  · intro i hi
    rw [sumR_congr (g := fun j => aq p i j * xq (lookN (qOf p (l.getD q 0)) l) j + (-1) * (if j = l.getD q 0 then aq p i (l.getD q 0) else 0)) fun j _ => by
      by_cases e : j = l.getD q 0
      · subst e; rw [if_pos rfl, if_pos rfl]; grind
      · rw [if_neg e, if_neg e]; grind]
    rw [sumR_add, sumR_mul, colQ hb _ hi, sumR_one hlt (fun j _ hj => if_neg hj), if_pos rfl]; grind
/-- A column changed for another one. -/
theorem bs_next {p : PG} {l : List Nat} (hb : Bs p l) {k r : Nat} (hk : k < l.length) (hN : r < p.costs.length + p.rows.length) (hn : alq p l k r ≠ 0) (hrl : r ∉ l) :
    Bs p (insN (l.eraseIdx k) r) := by
  refine ⟨hb.hp, right_next hb.hr hk hrl hN, den_next hb.hr hb.rows4 (by rw [← hb.hr.len]; exact hk) ?_ hrl hN⟩
  obtain ⟨a1, a2, a3, hq⟩ := corn_of (qOf_may hb.hp r) (qOf_right hb.hr r) (by rw [qOf_den hb.hr.len]; exact hb.hd)
  intro h0
  have h1 := hq.x (l.getD k 0)
  rw [xall_at (qOf_right hb.hr r) (by rw [qOf_len, ← hb.hr.len]; exact hk), h0] at h1
  apply hn
  unfold alq xq
  rcases Int.mul_eq_zero.1 h1.symm with e | e
  · exact absurd e hq.nx
  · rw [e]; exact zdiv _

/-- A step: the first column below 0 goes out, the first that makes it grow comes in. -/
structure Dst (p : PG) (l l' : List Nat) (k r : Nat) : Prop where
  bs : Bs p l
  kl : k < l.length
  neg : xq (lookN p l) (l.getD k 0) < 0
  fst : ∀ q, q < k → 0 ≤ xq (lookN p l) (l.getD q 0)
  rN : r < p.costs.length + p.rows.length
  al : alq p l k r < 0
  low : ∀ j, j < r → 0 ≤ alq p l k j
  eq : l' = insN (l.eraseIdx k) r
theorem Dst.rl {p : PG} {l l' : List Nat} {k r : Nat} (h : Dst p l l' k r) : r ∉ l := by
  intro hm
  obtain ⟨q, hq, rfl⟩ := mem_getD.1 hm
  have := h.al
  rw [al_own h.bs h.kl hq] at this
  split at this <;> grind
theorem Dst.next {p : PG} {l l' : List Nat} {k r : Nat} (h : Dst p l l' k r) : Bs p l' := by
  rw [h.eq]
  exact bs_next h.bs h.kl h.rN (fun e => by have := h.al; rw [e] at this; grind) h.rl
theorem Dst.mem {p : PG} {l l' : List Nat} {k r : Nat} (h : Dst p l l' k r) (j : Nat) : j ∈ l' ↔ (j ∈ l ∧ j ≠ l.getD k 0) ∨ j = r := by
  rw [h.eq, mem_insN, mem_erase h.bs.hr h.kl]
/-- A column below 0 that does not grow. -/
structure Stuck (p : PG) (l : List Nat) (k : Nat) : Prop where
  bs : Bs p l
  kl : k < l.length
  neg : xq (lookN p l) (l.getD k 0) < 0
  al : ∀ j, j < p.costs.length + p.rows.length → 0 ≤ alq p l k j

end Go.Proofs.Ytjcdkbalhleeeab

namespace Go.Proofs.Ytjcdkbalhleeeab

/-! Fractions in lowest terms are one. -/
theorem frac_one {a b c d : Int} (h1 : mayB [a] b = true) (h2 : mayB [c] d = true) (h : a * d = c * b) : a = c ∧ b = d := by
  have c1 : Nat.gcd b.natAbs a.natAbs = 1 := by
    unfold mayB at h1; simp only [Bool.and_eq_true, decide_eq_true_eq] at h1; simpa [comm] using h1.2
  have c2 : Nat.gcd d.natAbs c.natAbs = 1 := by
    unfold mayB at h2; simp only [Bool.and_eq_true, decide_eq_true_eq] at h2; simpa [comm] using h2.2
  have p1 := mayB_parts h1
  have p2 := mayB_parts h2
  have hbd : b.natAbs ∣ d.natAbs := by
    refine Nat.Coprime.dvd_of_dvd_mul_left (show Nat.Coprime b.natAbs a.natAbs from c1) ?_
    rw [← Int.natAbs_mul, h, Int.natAbs_mul]; exact Nat.dvd_mul_left _ _
  have hdb : d.natAbs ∣ b.natAbs := by
    refine Nat.Coprime.dvd_of_dvd_mul_left (show Nat.Coprime d.natAbs c.natAbs from c2) ?_
    rw [← Int.natAbs_mul, ← h, Int.natAbs_mul]; exact Nat.dvd_mul_left _ _
  have e := Nat.dvd_antisymm hbd hdb
  have e' : b = d := by omega
  subst e'
  exact ⟨Int.eq_of_mul_eq_mul_right (by omega) h, rfl⟩
/-! Bounds: determinants of numbers up to 12. -/
theorem dt12 {A : Nat → Nat → Int} (h : ∀ i j, -12 ≤ A i j ∧ A i j ≤ 12) {rs cs : List Nat} (hl : cs.length = rs.length) (h4 : rs.length ≤ 4) : -497664 ≤ dt A rs cs ∧ dt A rs cs ≤ 497664 := by
  have hw : Within A (fun _ => 12) := fun i c => ⟨h i c, by show (0 : Int) ≤ 12; omega⟩
  rcases (show rs.length = 0 ∨ rs.length = 1 ∨ rs.length = 2 ∨ rs.length = 3 ∨ rs.length = 4 by omega) with e | e | e | e | e
  · obtain rfl : rs = [] := List.eq_nil_of_length_eq_zero e
    simp [dt]
  · obtain ⟨r0, rfl⟩ := List.length_eq_one_iff.1 e
    obtain ⟨c0, rfl⟩ := List.length_eq_one_iff.1 (hl.trans e)
    rw [dt1]; have := h r0 c0; omega
  · obtain ⟨r0, r1, rfl⟩ := list_len2 e
    obtain ⟨c0, c1, rfl⟩ := list_len2 (hl.trans e)
    have := dt2_within hw r0 r1 c0 c1
    omega
  · obtain ⟨r0, r1, r2, rfl⟩ := list_len3 e
    obtain ⟨c0, c1, c2, rfl⟩ := list_len3 (hl.trans e)
    have := dt3_within hw r0 r1 r2 c0 c1 c2
    omega
  · obtain ⟨r0, r1, r2, r3, rfl⟩ := list_len4 e
    obtain ⟨c0, c1, c2, c3, rfl⟩ := list_len4 (hl.trans e)
    have := dt4_within hw r0 r1 r2 r3 c0 c1 c2 c3
    omega
theorem xk12 {p : PG} {l : List Nat} (hp : mayPB p = true) (_hl : l.length = p.rows.length) (k : Nat) : -497664 ≤ xk p l k ∧ xk p l k ≤ 497664 := by
  unfold xk dtp
  refine dt12 (fun i j => ?_) (by simp) (by have := mayPB_iff.1 hp; simp; omega)
  unfold matD
  split
  · exact hasZ_bound hp i _
  · exact mosts_at_bound hp i
theorem le_of_mul {a g x B : Int} (hg : g ≠ 0) (h : a = g * x) (hb : -B ≤ a ∧ a ≤ B) : -B ≤ x ∧ x ≤ B := by
  have h1 : a.natAbs = g.natAbs * x.natAbs := by rw [h, Int.natAbs_mul]
  have h2 : 1 ≤ g.natAbs := by omega
  have h3 : 1 * x.natAbs ≤ g.natAbs * x.natAbs := Nat.mul_le_mul_right _ h2
  omega
section
variable {p : PG} {l : List Nat} {c : CO} {gx gy gg : Int}
theorem Corn.xs12 (h : Corn p l c gx gy gg) (j : Nat) : -497664 ≤ c.xs.getD j 0 ∧ c.xs.getD j 0 ≤ 497664 := by
  refine le_of_mul h.nx (h.x j) ?_
  by_cases hj : j ∈ l
  · obtain ⟨k, hk, rfl⟩ := mem_getD.1 hj
    rw [xall_at h.hr (by rw [← h.hr.len]; exact hk)]
    exact xk12 h.hp h.hr.len k
  · rw [xall_off h.hr hj]; omega
theorem Corn.xd12 (h : Corn p l c gx gy gg) : 0 < c.xd ∧ c.xd ≤ 497664 := ⟨h.px, (le_of_mul h.nx h.dx (den_bound h.hp h.hr.len)).2⟩
end

/-! A corner's variables as a point. -/
def varL (p : PG) (c : CO) : List Int := c.xs.take p.costs.length
section
variable {p : PG} {l : List Nat} {c : CO} {gx gy gg : Int}
theorem var_len (h : Corn p l c gx gy gg) : (varL p c).length = p.costs.length := by unfold varL; rw [List.length_take, h.lx]; omega
theorem var_at (p : PG) (c : CO) {j : Nat} (hj : j < p.costs.length) : (varL p c).getD j 0 = c.xs.getD j 0 := by simp [varL, List.getD, hj]
theorem var_small (h : Corn p l c gx gy gg) : smallB 497664 (varL p c) = true := by
  rw [smallB_getD (by omega)]
  intro j
  by_cases hj : j < p.costs.length
  · rw [var_at p c hj]; exact h.xs12 j
  · have e : (varL p c).getD j 0 = 0 := by rw [List.getD, List.getElem?_eq_none (by rw [var_len h]; omega)]; rfl
    rw [e]; omega
theorem small_le {m n : Int} (hm : m ≤ n) {l : List Int} (h : smallB m l = true) : smallB n l = true := smallB_iff.2 fun x hx => by have := smallB_mem h hx; omega
theorem var_pt (h : Corn p l c gx gy gg) : ptE (varL p c) c.xd = 0 := by
  have := h.xd12
  have hn := mayPB_iff.1 h.hp
  exact pt_ok (by omega) (by omega) (small_le (by omega) (var_small h)) (by rw [var_len h]; omega)
/-- Divided: each number is the corner's, by one divisor. -/
theorem var_parts (h : Corn p l c gx gy gg) : ∃ g : Int, 0 < g ∧ c.xd = g * ptD (varL p c) c.xd ∧ (∀ j, (varL p c).getD j 0 = g * (ptN (varL p c) c.xd).getD j 0) ∧ (ptN (varL p c) c.xd).length = p.costs.length ∧ 0 < ptD (varL p c) c.xd := by
  obtain ⟨g, g1, g2, g3, g4, g5⟩ := pt_parts (var_pt h)
  refine ⟨g, ?_, g2, g3, by rw [g4, var_len h], g5⟩
  apply Classical.byContradiction
  intro hn
  have := Int.mul_nonpos_of_nonpos_of_nonneg (show g ≤ 0 by omega) (show 0 ≤ ptD (varL p c) c.xd by omega)
  have := h.px
  omega
theorem dot_scale {a x y : List Int} {g : Int} {n : Nat} (ha : a.length = n) (hx : x.length = n) (hy : y.length = n) (h : ∀ j, x.getD j 0 = g * y.getD j 0) : dot a x = g * dot a y := by
  rw [dot_sum ha hx, dot_sum ha hy, ← sumN_mul]
  exact sumN_congr fun j _ => by rw [h j]; ac_rfl
theorem var_worth (h : Corn p l c gx gy gg) : ptE [dot p.costs (ptN (varL p c) c.xd)] (ptD (varL p c) c.xd) = 0 ∧
    dot p.costs (ptN (varL p c) c.xd) * c.xd = dot p.costs (varL p c) * ptD (varL p c) c.xd ∧ (-796262400 ≤ dot p.costs (varL p c) ∧ dot p.costs (varL p c) ≤ 796262400) := by
  obtain ⟨g, g0, g1, g2, g3, g4⟩ := var_parts h
  have h3 : dot p.costs (varL p c) = g * dot p.costs (ptN (varL p c) c.xd) := dot_scale rfl (var_len h) g3 g2
  obtain ⟨_, n4, _, _, hc, _⟩ := mayPB_iff.1 h.hp
  have hb := dot_bound hc (var_small h) (by omega) (by omega)
  have hb' : -796262400 ≤ dot p.costs (varL p c) ∧ dot p.costs (varL p c) ≤ 796262400 := by omega
  have hd := h.xd12
  have hz := le_of_mul (by omega) h3 hb'
  have hz2 := le_of_mul (by omega) g1 (show -497664 ≤ c.xd ∧ c.xd ≤ 497664 by omega)
  refine ⟨pt_ok (by omega) (by omega) (by rw [smallB_one]; simp; omega) (by simp), ?_, hb'⟩
  rw [h3]
  have : dot p.costs (ptN (varL p c) c.xd) * (g * ptD (varL p c) c.xd) = g * dot p.costs (ptN (varL p c) c.xd) * ptD (varL p c) c.xd := by ac_rfl
  rw [← this, ← g1]
end
end Go.Proofs.Ytjcdkbalhleeeab

namespace Go.Proofs.Ytjcdkbalhleeeab

/-! Whole numbers, divided. -/
/-! The ray. -/
section
variable {p : PG} {l : List Nat} {r : Nat}
/-- What it is worth along a direction, by a corner's gains. -/
theorem worth_dir {c : CO} {gx gy gg : Int} (hc : Corn p l c gx gy gg) {d : Nat → Rat} (hd : ∀ i, i < p.rows.length → sumR (fun j => aq p i j * d j) (p.costs.length + p.rows.length) = 0) :
    sumR (fun j => cq p j * d j) (p.costs.length + p.rows.length) = sumR (fun j => gq c j * d j) (p.costs.length + p.rows.length) := by
  have h1 : sumR (fun j => cq p j * d j) (p.costs.length + p.rows.length) = sumR (fun j => gq c j * d j + sumR (fun i => yq c i * (aq p i j * d j)) p.rows.length) (p.costs.length + p.rows.length) := by
    refine sumR_congr fun j hj => ?_
    rw [hc.gainQ hj]
    have e : sumR (fun i => yq c i * (aq p i j * d j)) p.rows.length = d j * sumR (fun i => yq c i * aq p i j) p.rows.length := by
      rw [← sumR_mul]; exact sumR_congr fun i _ => by grind
    rw [e]; grind
  rw [h1, sumR_add, sumR_comm]
  have h2 : sumR (fun i => sumR (fun j => yq c i * (aq p i j * d j)) (p.costs.length + p.rows.length)) p.rows.length = 0 := by
    rw [sumR_congr (g := fun _ => 0) fun i hi => by rw [sumR_mul, hd i hi]; grind]; exact sumR_zero
  rw [h2]; grind
end

/-! A stuck column's rows. -/
section
variable {p : PG} {l : List Nat}
end
end Go.Proofs.Ytjcdkbalhleeeab

namespace Go.Proofs.Ytjcdkbalhleeeab

/-! All columns that are right, as the program comes to them. -/
def bitsN (N s : Nat) : List Nat := (List.range N).filter fun j => s.testBit j
theorem mem_bits {N s j : Nat} : j ∈ bitsN N s ↔ j < N ∧ s.testBit j = true := by unfold bitsN; rw [List.mem_filter, List.mem_range]
theorem bits_pw (N s : Nat) : (bitsN N s).Pairwise (· < ·) := List.pairwise_lt_range.sublist List.filter_sublist
theorem code_bit (l : List Nat) : ∀ (n j : Nat), (code l n).testBit j = (decide (j < n) && decide (j ∈ l))
  | 0, j => by simp [code]
  | n + 1, j => by
    rw [code]
    have hlt := code_lt l n
    by_cases hn : n ∈ l
    · rw [if_pos hn, Nat.add_comm, Nat.testBit_two_pow_add_gt_or hlt]
      rw [code_bit l n j]
      by_cases e : j = n
      · subst e; simp [hn]
      · by_cases e' : j < n
        · simp [e', show j < n + 1 by omega, show ¬ n = j by omega]
        · simp [e', show ¬ j < n + 1 by omega, show ¬ n = j by omega]
    · rw [if_neg hn, Nat.add_zero, code_bit l n j]
      by_cases e : j = n
      · subst e; simp [hn]
      · by_cases e' : j < n
        · simp [e', show j < n + 1 by omega]
        · simp [e', show ¬ j < n + 1 by omega]
where
  Nat.testBit_two_pow_add_gt_or {n x j : Nat} (h : x < 2 ^ n) : (2 ^ n + x).testBit j = (decide (n = j) || x.testBit j) := by
    have := Nat.testBit_two_pow_add_eq
    rw [show 2 ^ n + x = 2 ^ n * 1 + x by omega, Nat.testBit_two_pow_mul_add 1 h]
    by_cases e : j < n
    · rw [if_pos e]; simp [show ¬ n = j by omega]
    · rw [if_neg e]
      have hx : x.testBit j = false := Nat.testBit_lt_two_pow (Nat.lt_of_lt_of_le h (Nat.pow_le_pow_right (by omega) (by omega)))
      rw [hx, Bool.or_false]
      by_cases e' : n = j
      · subst e'; simp
      · have : 1 < 2 ^ (j - n) := Nat.one_lt_two_pow (by omega)
        rw [Nat.testBit_lt_two_pow this]; simp [e']
theorem bits_code {N : Nat} {l : List Nat} (h : ∀ j ∈ l, j < N) (hp : l.Pairwise (· < ·)) : bitsN N (code l N) = l := by
  refine pw_ext (bits_pw _ _) hp fun j => ?_
  rw [mem_bits, code_bit]
  constructor
  · rintro ⟨_, q⟩; simp at q; exact q.2
  · intro q; simp [h j q, q]
def cornersZ (p : PG) : List (List Nat) := ((List.range (2 ^ (p.costs.length + p.rows.length))).map (bitsN (p.costs.length + p.rows.length))).filter fun l => decide (l.length = p.rows.length) && decide (lookE p (ints l) = 0)
theorem mem_corners {p : PG} {l : List Nat} : l ∈ cornersZ p ↔ Bs p l := by
  unfold cornersZ
  rw [List.mem_filter]
  simp only [List.mem_map, List.mem_range, Bool.and_eq_true, decide_eq_true_eq]
  constructor
  · rintro ⟨_, h1, h2⟩
    obtain ⟨q1, q2, q3⟩ := look_parts h2
    rw [nats_ints] at q3
    have := (right_nats q2).1
    rw [nats_ints] at this
    exact ⟨q1, this, q3⟩
  · intro h
    exact ⟨⟨code l _, code_lt _ _, bits_code h.hr.lt h.hr.pw⟩, h.hr.len, look_ints h.hp h.hr h.hd⟩

/-- The kind that all corners tell. -/
def BestC (p : PG) (l : List Nat) : Prop := OKb p l ∧ ∀ j, (lookN p l).gs.getD j 0 ≤ 0
def KindR (p : PG) (k : Int) : Prop := (k = 1 ∧ ∃ l, BestC p l) ∨ (k = 2 ∧ (∃ l, OKb p l) ∧ ∀ l, ¬ BestC p l) ∨ (k = 3 ∧ ∀ l, ¬ OKb p l)
end Go.Proofs.Ytjcdkbalhleeeab

namespace Go.Proofs.Ytjcdkbalhleeeab

/-- The span of two corners with one divisor: what narrows it. -/
def fZ (c d : CO) (j : Nat) : Int := c.gs.getD j 0 * d.gd
def gZ (c d : CO) (j : Nat) : Int := d.gs.getD j 0 * c.gd
section
variable {p : PG} {b e : List Int} {l : List Nat} {c d k : CO} {g1 g2 g3 g4 g5 g6 g7 g8 g9 : Int}
theorem span_made (hb : b.length = p.costs.length) (hc : Corn p l c g1 g2 g3) (hd : Corn (costsOf p b) l d g4 g5 g6) (j : Nat) (hj : j < p.costs.length + p.rows.length) (h : gZ c d j ≠ 0) : ptE [-(fZ c d j)] (gZ c d j) = 0 := by
  have h1 := mayB_parts hc.mg
  have h2 := mayB_parts hd.mg
  have b1 := (smallB_getD (l := c.gs) (m := 1073741824) (by omega)).1 h1.2.2.1 j
  have b2 := (smallB_getD (l := d.gs) (m := 1073741824) (by omega)).1 h2.2.2.1 j
  have e1 := hc.g j
  have e2 := hd.g j
  rw [gall_at hj] at e1
  rw [gall_at (show j < (costsOf p b).costs.length + (costsOf p b).rows.length by show j < b.length + p.rows.length; omega)] at e2
  have k1 := gk_bound hc.hp hc.hr.len j (Nat.le_refl _)
  have k2 := gk_bound hd.hp hd.hr.len j (Nat.le_refl _)
  have dd : denZ p l = g6 * d.gd := by rw [← costs_den hb]; exact hd.dg
  exact span_pt (A := gk p l j p.rows.length) (B := gk (costsOf p b) l j (costsOf p b).rows.length) hc.ng hd.ng e1 e2 hc.dg dd (by omega) (by omega) b1 b2 (by omega) (by omega) h
end
end Go.Proofs.Ytjcdkbalhleeeab
