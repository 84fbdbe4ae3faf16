/-
  Plain laws of corners: the equations hold, gains of a corner's own columns are 0, both worths are one. No program in sight.
-/
import Derived.Test.YtjcdkbalhleeeaaCornS
import Derived.Test.YtjcdkbalhleeeaaFracL
namespace Go.Proofs.Ytjcdkbalhleeeaa

/-! Columns that are right. -/
theorem rising_parts {last : Int} {n : Nat} {l : List Int} (h : risingB last n l = true) : (∀ j ∈ l, last < j ∧ j < n) ∧ l.Pairwise (· < ·) := by
  induction l generalizing last with
  | nil => simp
  | cons j l ih =>
    simp only [risingB, Bool.and_eq_true, decide_eq_true_eq] at h
    obtain ⟨h1, h2, h3⟩ := h
    obtain ⟨g1, g2⟩ := ih h3
    refine ⟨fun x hx => ?_, List.pairwise_cons.2 ⟨fun x hx => (g1 x hx).1, g2⟩⟩
    rcases List.mem_cons.1 hx with rfl | hx
    · exact ⟨h1, h2⟩
    · have := g1 x hx; omega
structure RightL (p : PG) (l : List Nat) : Prop where
  len : l.length = p.rows.length
  lt : ∀ j ∈ l, j < p.costs.length + p.rows.length
  pw : l.Pairwise (· < ·)
theorem right_nats {p : PG} {l : List Int} (h : rightA p l = true) : RightL p (nats l) ∧ l = (nats l).map Int.ofNat := by
  simp only [rightA, Bool.and_eq_true, decide_eq_true_eq] at h
  obtain ⟨h1, h2⟩ := h
  obtain ⟨g1, g2⟩ := rising_parts h2
  have e : l = (nats l).map Int.ofNat := by
    unfold nats
    rw [List.map_map]
    conv => lhs; rw [← List.map_id l]
    apply List.map_congr_left
    intro x hx
    have := (g1 x hx).1
    simp; omega
  refine ⟨⟨by unfold nats; simpa using h1, ?_, ?_⟩, e⟩
  · intro j hj
    simp only [nats, List.mem_map] at hj
    obtain ⟨x, hx, rfl⟩ := hj
    have := g1 x hx; omega
  · unfold nats
    rw [List.pairwise_map]
    refine List.Pairwise.imp_of_mem ?_ g2
    intro a b ha hb hab
    have := g1 a ha; have := g1 b hb; omega
theorem RightL.at_lt {p : PG} {l : List Nat} (h : RightL p l) {k : Nat} (hk : k < l.length) : l.getD k 0 < p.costs.length + p.rows.length := by
  have := h.lt l[k] (List.getElem_mem hk)
  simpa [List.getD, List.getElem?_eq_getElem hk] using this
theorem RightL.ne {p : PG} {l : List Nat} (h : RightL p l) {i k : Nat} (hi : i < k) (hk : k < l.length) : l.getD i 0 < l.getD k 0 := by
  have := List.pairwise_iff_getElem.1 h.pw i k (by omega) hk hi
  simpa [List.getD, List.getElem?_eq_getElem hk, List.getElem?_eq_getElem (show i < l.length by omega)] using this

/-! Numbers put into places. -/
theorem getD_set {a : List Int} {i j : Nat} {x : Int} (h : i < a.length) : (a.set i x).getD j 0 = if j = i then x else a.getD j 0 := by
  simp only [List.getD, List.getElem?_set]
  by_cases e : i = j
  · subst e; simp [h]
  · rw [if_neg e, if_neg (fun h => e h.symm)]
theorem sumN_set {f : Nat → Int} {a : List Int} {i : Nat} {x : Int} (h : i < a.length) : ∀ n, sumN (fun j => f j * (a.set i x).getD j 0) n = sumN (fun j => f j * a.getD j 0) n + if i < n then f i * (x - a.getD i 0) else 0
  | 0 => by simp [sumN]
  | n + 1 => by
    rw [sumN, sumN, sumN_set h n, getD_set h]
    by_cases e : n = i
    · subst e; rw [if_pos rfl, if_neg (by omega), if_pos (by omega), Int.mul_sub]; omega
    · rw [if_neg e]
      by_cases e' : i < n
      · rw [if_pos e', if_pos (by omega)]; omega
      · rw [if_neg e', if_neg (by omega)]; omega
theorem putAll_zero {l : List Nat} {v : Nat → Int} {N n j : Nat} (h : ∀ k, k < n → l.getD k 0 ≠ j) : (putAll l v N n).getD j 0 = 0 := by
  induction n with
  | zero => simp [putAll, List.getD, List.getElem?_replicate]; split <;> rfl
  | succ n ih =>
    rw [putAll_succ]
    by_cases hl : l.getD n 0 < N
    · rw [getD_set (by rw [length_putAll]; exact hl), if_neg (fun e => h n (by omega) e.symm)]
      exact ih fun k hk => h k (by omega)
    · rw [List.set_eq_of_length_le (by rw [length_putAll]; omega)]
      exact ih fun k hk => h k (by omega)
theorem putAll_at {p : PG} {l : List Nat} (hr : RightL p l) {v : Nat → Int} {n k : Nat} (hk : k < n) (hn : n ≤ l.length) : (putAll l v (p.costs.length + p.rows.length) n).getD (l.getD k 0) 0 = v k := by
  induction n with
  | zero => omega
  | succ n ih =>
    rw [putAll_succ, getD_set (by rw [length_putAll]; exact hr.at_lt (by omega))]
    by_cases e : k = n
    · subst e; rw [if_pos rfl]
    · rw [if_neg (by have := hr.ne (i := k) (k := n) (by omega) (by omega); omega)]
      exact ih (by omega) (by omega)
theorem sum_putAll {p : PG} {l : List Nat} (hr : RightL p l) {v f : Nat → Int} : ∀ {n : Nat}, n ≤ l.length →
    sumN (fun j => f j * (putAll l v (p.costs.length + p.rows.length) n).getD j 0) (p.costs.length + p.rows.length) = sumN (fun k => f (l.getD k 0) * v k) n
  | 0, _ => by
    refine Eq.trans (sumN_congr (g := fun _ => 0) fun j _ => ?_) sumN_zero
    rw [putAll_zero (by omega)]; simp
  | n + 1, hn => by
    simp only [putAll_succ]
    have hlt := hr.at_lt (k := n) (by omega)
    rw [sumN_set (by rw [length_putAll]; exact hlt), sum_putAll hr (by omega), if_pos hlt, sumN]
    rw [putAll_zero (fun k hk => by have := hr.ne (i := k) (k := n) hk (by omega); omega)]
    simp

/-! The equations, ahead of all division. -/
section
variable {p : PG} {l : List Nat}
theorem sum_has_x (hr : RightL p l) (h4 : p.rows.length ≤ 4) {i : Nat} (hi : i < p.rows.length) :
    sumN (fun j => hasZ p i j * (xall p l).getD j 0) (p.costs.length + p.rows.length) = (mosts p).getD i 0 * denZ p l := by
  unfold xall
  rw [sum_putAll hr (by rw [hr.len]; exact Nat.le_refl _)]
  have := cramer (matD p l) p.rows.length h4 hi
  unfold denZ xk
  rw [show matD p l i p.rows.length = (mosts p).getD i 0 by unfold matD; rw [if_neg (by rw [hr.len]; omega)]] at this
  rw [← this]
  refine sumN_congr fun k hk => ?_
  unfold matD
  rw [if_pos (by rw [hr.len]; exact hk)]
theorem sum_has_y (hr : RightL p l) (h4 : p.rows.length ≤ 4) {k : Nat} (hk : k < p.rows.length) :
    sumN (fun i => yk p l i * hasZ p i (l.getD k 0)) p.rows.length = costZ p (l.getD k 0) * denZ p l := by
  have := cramer (matU p l) p.rows.length h4 hk
  rw [show matU p l k p.rows.length = costZ p (l.getD k 0) by unfold matU; rw [if_neg (by rw [hr.len]; omega)], den_flip hr.len h4] at this
  rw [← this]
  refine sumN_congr fun i hi => ?_
  rw [show matU p l k i = hasZ p i (l.getD k 0) by unfold matU; rw [if_pos (by rw [hr.len]; exact hi)], Int.mul_comm]
  rfl
theorem gain_own (hr : RightL p l) (h4 : p.rows.length ≤ 4) {k : Nat} (hk : k < p.rows.length) : gk p l (l.getD k 0) p.rows.length = 0 := by
  unfold gk; rw [sum_has_y hr h4 hk]; omega
/-- What the columns are worth is what the rows are. -/
theorem worth_both (hr : RightL p l) (h4 : p.rows.length ≤ 4) (hd : denZ p l ≠ 0) :
    sumN (fun j => costZ p j * (xall p l).getD j 0) (p.costs.length + p.rows.length) = sumN (fun i => (mosts p).getD i 0 * yk p l i) p.rows.length := by
  refine Int.eq_of_mul_eq_mul_right hd ?_
  have e1 : sumN (fun j => costZ p j * (xall p l).getD j 0) (p.costs.length + p.rows.length) = sumN (fun k => costZ p (l.getD k 0) * xk p l k) p.rows.length := by
    unfold xall; rw [sum_putAll hr (by rw [hr.len]; exact Nat.le_refl _)]
  rw [e1, ← sumN_mul', ← sumN_mul']
  have e2 : sumN (fun k => costZ p (l.getD k 0) * xk p l k * denZ p l) p.rows.length = sumN (fun k => sumN (fun i => yk p l i * hasZ p i (l.getD k 0) * xk p l k) p.rows.length) p.rows.length := by
    refine sumN_congr fun k hk => ?_
    rw [sumN_mul', sum_has_y hr h4 hk]; ac_rfl
  rw [e2, ← sumN_comm (f := fun i k => yk p l i * hasZ p i (l.getD k 0) * xk p l k)]
  refine sumN_congr fun i hi => ?_
  have := sum_has_x hr h4 hi
  unfold xall at this
  rw [sum_putAll hr (by rw [hr.len]; exact Nat.le_refl _)] at this
  have e3 : sumN (fun k => yk p l i * hasZ p i (l.getD k 0) * xk p l k) p.rows.length = yk p l i * sumN (fun k => hasZ p i (l.getD k 0) * xk p l k) p.rows.length := by
    rw [← sumN_mul]; exact sumN_congr fun k _ => Int.mul_assoc _ _ _
  rw [e3, this]; ac_rfl
end

/-! Divided. -/
theorem pt_ok {l : List Int} {d : Int} (hd : d ≠ 0) (hb : -1073741824 ≤ d ∧ d ≤ 1073741824) (hl : smallB 1073741824 l = true) (h8 : l.length ≤ 8) : ptE l d = 0 := by
  have hs : smallB 4611686018427387904 l = true := smallB_iff.2 fun n hn => by have := smallB_mem hl hn; omega
  rw [ptE_of hd hs (by omega), if_pos]
  have h1 := sgcd_sign (l := l) hd
  have h2 := tdiv_bound 1073741824 d (sgcd l d) hb.1 hb.2
  have h3 : smallB 1073741824 (divs l (sgcd l d)) = true := smallB_iff.2 fun n hn => by
    simp only [divs, List.mem_map] at hn
    obtain ⟨x, hx, rfl⟩ := hn
    have := smallB_mem hl hx
    exact tdiv_bound 1073741824 x _ this.1 this.2
  simp only [rightB, Bool.and_eq_true, decide_eq_true_eq, length_divs]
  exact ⟨by omega, by omega, h3, h8⟩
/-- Numbers divided are what they were, divided. -/
theorem pt_parts {l : List Int} {d : Int} (h : ptE l d = 0) : ∃ g : Int, g ≠ 0 ∧ d = g * ptD l d ∧ (∀ j, l.getD j 0 = g * (ptN l d).getD j 0) ∧ (ptN l d).length = l.length ∧ 0 < ptD l d := by
  have h0 : d ≠ 0 := fun e => by subst e; simp [ptE] at h
  obtain ⟨h1, h2⟩ := sgcd_dvd (l := l) (d := d)
  refine ⟨sgcd l d, sgcd_ne h0, ?_, ?_, ?_, ?_⟩
  · rw [ptD_eq h]; exact (Int.mul_tdiv_cancel' h1).symm
  · intro j
    simp only [ptN, h, if_true, divs]
    by_cases hj : j < l.length
    · simp only [List.getD, List.getElem?_map, List.getElem?_eq_getElem hj, Option.map_some, Option.getD_some]
      exact (Int.mul_tdiv_cancel' (h2 _ (List.getElem_mem hj))).symm
    · simp [List.getD, List.getElem?_eq_none (Nat.le_of_not_lt hj)]
  · simp [ptN, h, length_divs]
  · rw [ptD_eq h]; exact sgcd_sign h0

theorem smallB_getD {m : Int} {l : List Int} (hm : 0 ≤ m) : smallB m l = true ↔ ∀ j, -m ≤ l.getD j 0 ∧ l.getD j 0 ≤ m := by
  rw [smallB_iff]
  constructor
  · intro h j
    by_cases hj : j < l.length
    · have := h l[j] (List.getElem_mem hj); simpa [List.getD, List.getElem?_eq_getElem hj] using this
    · simp [List.getD, List.getElem?_eq_none (Nat.le_of_not_lt hj)]; omega
  · intro h n hn
    obtain ⟨j, hj, rfl⟩ := List.mem_iff_getElem.1 hn
    have := h j; simpa [List.getD, List.getElem?_eq_getElem hj] using this

theorem xall_at {p : PG} {l : List Nat} (hr : RightL p l) {k : Nat} (hk : k < p.rows.length) : (xall p l).getD (l.getD k 0) 0 = xk p l k := by
  unfold xall; exact putAll_at hr hk (by rw [hr.len]; exact Nat.le_refl _)
theorem xall_off {p : PG} {l : List Nat} (hr : RightL p l) {j : Nat} (hj : j ∉ l) : (xall p l).getD j 0 = 0 := by
  unfold xall
  refine putAll_zero fun k hk e => hj ?_
  have hk' : k < l.length := by rw [hr.len]; exact hk
  rw [← e]
  simp only [List.getD, List.getElem?_eq_getElem hk', Option.getD_some]
  exact List.getElem_mem hk'
theorem xall_small {p : PG} {l : List Nat} (hp : mayPB p = true) (hr : RightL p l) : smallB 1073741824 (xall p l) = true := by
  rw [smallB_getD (by omega)]
  intro j
  by_cases hj : j ∈ l
  · obtain ⟨k, hk, rfl⟩ := List.mem_iff_getElem.1 hj
    have hk' : k < p.rows.length := by rw [← hr.len]; exact hk
    have := xall_at hr hk'
    simp only [List.getD, List.getElem?_eq_getElem hk, Option.getD_some] at this ⊢
    rw [this]
    have := xk_bound hp hr.len hk'
    omega
  · rw [xall_off hr hj]; omega
theorem yall_at {p : PG} {l : List Nat} {k : Nat} (hk : k < p.rows.length) : (yall p l).getD k 0 = yk p l k := by unfold yall; rw [getD_map_range hk]
theorem gall_at {p : PG} {l : List Nat} {j : Nat} (hj : j < p.costs.length + p.rows.length) : (gall p l).getD j 0 = gk p l j p.rows.length := by unfold gall; rw [getD_map_range hj]
theorem yall_small {p : PG} {l : List Nat} (hp : mayPB p = true) (hr : RightL p l) : smallB 1073741824 (yall p l) = true := by
  rw [smallB_iff]; intro n hn
  simp only [yall, List.mem_map, List.mem_range] at hn
  obtain ⟨k, hk, rfl⟩ := hn
  have := yk_bound hp hr.len hk; omega
theorem gall_small {p : PG} {l : List Nat} (hp : mayPB p = true) (hr : RightL p l) : smallB 1073741824 (gall p l) = true := by
  rw [smallB_iff]; intro n hn
  simp only [gall, List.mem_map, List.mem_range] at hn
  obtain ⟨j, _, rfl⟩ := hn
  have := gk_bound hp hr.len j (Nat.le_refl _); omega

/-- A corner of columns that have one way: what they come to, and what stands of it. -/
structure Corn (p : PG) (l : List Nat) (c : CO) (gx gy gg : Int) : Prop where
  hp : mayPB p = true
  hr : RightL p l
  hd : denZ p l ≠ 0
  nx : gx ≠ 0
  ny : gy ≠ 0
  ng : gg ≠ 0
  dx : denZ p l = gx * c.xd
  dy : denZ p l = gy * c.yd
  dg : denZ p l = gg * c.gd
  px : 0 < c.xd
  py : 0 < c.yd
  pg : 0 < c.gd
  lx : c.xs.length = p.costs.length + p.rows.length
  ly : c.ys.length = p.rows.length
  lg : c.gs.length = p.costs.length + p.rows.length
  x : ∀ j, (xall p l).getD j 0 = gx * c.xs.getD j 0
  y : ∀ j, (yall p l).getD j 0 = gy * c.ys.getD j 0
  g : ∀ j, (gall p l).getD j 0 = gg * c.gs.getD j 0
  mx : mayB c.xs c.xd = true
  my : mayB c.ys c.yd = true
  mg : mayB c.gs c.gd = true

theorem look_corn {p : PG} {l : List Int} (h : lookE p l = 0) : ∃ gx gy gg, Corn p (nats l) (lookC p l) gx gy gg := by
  have h' := h
  unfold lookE at h
  split at h
  · omega
  split at h
  · omega
  split at h
  · omega
  rename_i h1 h2 h3
  have hp : mayPB p = true := by simpa using h1
  obtain ⟨hr, _⟩ := right_nats (p := p) (l := l) (by simpa using h2)
  obtain ⟨k1, k2, k3, k4, _, _⟩ := mayPB_iff.1 hp
  have hb := den_bound hp hr.len
  have ex : ptE (xall p (nats l)) (denZ p (nats l)) = 0 := pt_ok h3 (by omega) (xall_small hp hr) (by unfold xall; rw [length_putAll]; omega)
  have ey : ptE (yall p (nats l)) (denZ p (nats l)) = 0 := pt_ok h3 (by omega) (yall_small hp hr) (by unfold yall; simp; omega)
  have eg : ptE (gall p (nats l)) (denZ p (nats l)) = 0 := pt_ok h3 (by omega) (gall_small hp hr) (by unfold gall; simp; omega)
  obtain ⟨gx, a1, a2, a3, a4, a5⟩ := pt_parts ex
  obtain ⟨gy, b1, b2, b3, b4, b5⟩ := pt_parts ey
  obtain ⟨gg, c1, c2, c3, c4, c5⟩ := pt_parts eg
  refine ⟨gx, gy, gg, ?_⟩
  unfold lookC
  rw [if_pos h']
  exact ⟨hp, hr, h3, a1, b1, c1, a2, b2, c2, a5, b5, c5, by rw [a4]; unfold xall; rw [length_putAll], by rw [b4]; unfold yall; simp, by rw [c4]; unfold gall; simp, a3, b3, c3, mayB_pt ex, mayB_pt ey, mayB_pt eg⟩

section
variable {p : PG} {l : List Nat} {c : CO} {gx gy gg : Int}
theorem Corn.rows4 (h : Corn p l c gx gy gg) : p.rows.length ≤ 4 := (mayPB_iff.1 h.hp).2.2.2.1
/-- Each row's equation. -/
theorem Corn.row (h : Corn p l c gx gy gg) {i : Nat} (hi : i < p.rows.length) :
    sumN (fun j => hasZ p i j * c.xs.getD j 0) (p.costs.length + p.rows.length) = (mosts p).getD i 0 * c.xd := by
  have := sum_has_x h.hr h.rows4 hi
  rw [h.dx] at this
  have e : sumN (fun j => hasZ p i j * (xall p l).getD j 0) (p.costs.length + p.rows.length) = gx * sumN (fun j => hasZ p i j * c.xs.getD j 0) (p.costs.length + p.rows.length) := by
    rw [← sumN_mul]; exact sumN_congr fun j _ => by rw [h.x j]; ac_rfl
  rw [e] at this
  refine Int.eq_of_mul_eq_mul_left h.nx ?_
  rw [this]; ac_rfl
theorem Corn.row' (h : Corn p l c gx gy gg) {i : Nat} (hi : i < p.rows.length) :
    dot (p.rows[i]).1 (c.xs.take p.costs.length) + c.xs.getD (p.costs.length + i) 0 = (p.rows[i]).2 * c.xd := by
  have := h.row hi
  have hm : (mosts p).getD i 0 = (p.rows[i]).2 := by rw [getD_mosts]; simp [List.getD, List.getElem?_eq_getElem hi]
  rw [hm] at this
  rw [← this, sumN_split, dot_row h.hp hi (by rw [List.length_take, h.lx]; omega)]
  congr 1
  · refine sumN_congr fun j hj => ?_
    simp [List.getD, hj]
  · have key : ∀ n, sumN (fun r => hasZ p i (p.costs.length + r) * c.xs.getD (p.costs.length + r) 0) n = if i < n then c.xs.getD (p.costs.length + i) 0 else 0 := by
      intro n
      induction n with
      | zero => simp [sumN]
      | succ n ih =>
        rw [sumN, ih]
        have e : hasZ p i (p.costs.length + n) = if n = i then 1 else 0 := by
          unfold hasZ; rw [if_neg (by omega)]
          by_cases e : n = i
          · rw [if_pos (by omega), if_pos e]
          · rw [if_neg (by omega), if_neg e]
        rw [e]
        by_cases e : n = i
        · subst e; rw [if_neg (by omega), if_pos rfl, if_pos (by omega)]; omega
        · rw [if_neg e]
          by_cases e' : i < n
          · rw [if_pos e', if_pos (by omega)]; omega
          · rw [if_neg e', if_neg (by omega)]; omega
    rw [key, if_pos hi]
theorem Corn.gain_own (h : Corn p l c gx gy gg) {k : Nat} (hk : k < p.rows.length) : c.gs.getD (l.getD k 0) 0 = 0 := by
  have h1 := h.g (l.getD k 0)
  rw [gall_at (h.hr.at_lt (by rw [h.hr.len]; exact hk)), Go.Proofs.Ytjcdkbalhleeeaa.gain_own h.hr h.rows4 hk] at h1
  rcases Int.mul_eq_zero.1 h1.symm with e | e
  · exact absurd e h.ng
  · exact e
theorem sum_costZ {p : PG} {f : Nat → Int} : sumN (fun j => costZ p j * f j) (p.costs.length + p.rows.length) = sumN (fun j => p.costs.getD j 0 * f j) p.costs.length := by
  rw [sumN_split]
  have h1 : sumN (fun i => costZ p (p.costs.length + i) * f (p.costs.length + i)) p.rows.length = 0 := by
    rw [← sumN_zero (n := p.rows.length)]
    refine sumN_congr fun i _ => ?_
    unfold costZ; rw [if_neg (by omega)]; simp
  rw [h1, Int.add_zero]
  refine sumN_congr fun j hj => ?_
  unfold costZ; rw [if_pos hj]
theorem Corn.worth (h : Corn p l c gx gy gg) : dot p.costs (c.xs.take p.costs.length) * c.yd = dot (mosts p) c.ys * c.xd := by
  have := worth_both h.hr h.rows4 h.hd
  rw [sum_costZ] at this
  have e1 : sumN (fun j => p.costs.getD j 0 * (xall p l).getD j 0) p.costs.length = gx * dot p.costs (c.xs.take p.costs.length) := by
    rw [dot_sum (n := p.costs.length) rfl (by rw [List.length_take, h.lx]; omega), ← sumN_mul]
    refine sumN_congr fun j hj => ?_
    rw [h.x j]
    have : (c.xs.take p.costs.length).getD j 0 = c.xs.getD j 0 := by simp [List.getD, hj]
    rw [this]; ac_rfl
  have e2 : sumN (fun i => (mosts p).getD i 0 * yk p l i) p.rows.length = gy * dot (mosts p) c.ys := by
    rw [dot_sum (length_mosts p) h.ly, ← sumN_mul]
    refine sumN_congr fun i hi => ?_
    have := h.y i
    rw [yall_at hi] at this
    rw [this]; ac_rfl
  rw [e1, e2] at this
  have hgg : gx * gy ≠ 0 := fun e => by
    rcases Int.mul_eq_zero.1 e with e | e
    · exact h.nx e
    · exact h.ny e
  refine Int.eq_of_mul_eq_mul_left hgg ?_
  have d1 := h.dx
  have d2 := h.dy
  calc gx * gy * (dot p.costs (c.xs.take p.costs.length) * c.yd) = (gx * dot p.costs (c.xs.take p.costs.length)) * (gy * c.yd) := by ac_rfl
    _ = (gy * dot (mosts p) c.ys) * (gx * c.xd) := by rw [this, ← d1, ← d2]
    _ = gx * gy * (dot (mosts p) c.ys * c.xd) := by ac_rfl
end
end Go.Proofs.Ytjcdkbalhleeeaa
