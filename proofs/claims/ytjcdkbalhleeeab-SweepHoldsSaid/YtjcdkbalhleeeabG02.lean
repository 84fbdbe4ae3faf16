/-
  Contracts of functions and plain laws that later parts of the proof use. The conditions stand in each theorem.
-/
import Derived.Test.YtjcdkbalhleeeabG01
namespace Go.Proofs.Ytjcdkbalhleeeab

/-! Columns that are right. -/
theorem rising_parts {last : Int} {n : Nat} {l : List Int} (h : risingB last n l = true) : (∀ j ∈ l, last < j ∧ j < n) ∧ l.Pairwise (· < ·) := by
  induction l generalizing last with
  | nil => simp
  | cons j l ih =>
    simp only [risingB, Bool.and_eq_true, decide_eq_true_eq] at h
    obtain ⟨h1, h2, h3⟩ := h
    obtain ⟨g1, g2⟩ := ih h3
    refine ⟨fun x hx => ?_, List.pairwise_cons.2 ⟨fun x hx => (g1 x hx).1, g2⟩⟩
    rcases List.mem_cons.1 hx with rfl | hx
    · exact ⟨h1, h2⟩
    · have := g1 x hx; omega
structure RightL (p : PG) (l : List Nat) : Prop where
  len : l.length = p.rows.length
  lt : ∀ j ∈ l, j < p.costs.length + p.rows.length
  pw : l.Pairwise (· < ·)
theorem right_nats {p : PG} {l : List Int} (h : rightA p l = true) : RightL p (nats l) ∧ l = (nats l).map Int.ofNat := by
  simp only [rightA, Bool.and_eq_true, decide_eq_true_eq] at h
  obtain ⟨h1, h2⟩ := h
  obtain ⟨g1, g2⟩ := rising_parts h2
  have e : l = (nats l).map Int.ofNat := by
    unfold nats
    rw [List.map_map]
    conv => lhs; rw [← List.map_id l]
    apply List.map_congr_left
    intro x hx
    have := (g1 x hx).1
    simp; omega
  refine ⟨⟨by unfold nats; simpa using h1, ?_, ?_⟩, e⟩
  · intro j hj
    simp only [nats, List.mem_map] at hj
    obtain ⟨x, hx, rfl⟩ := hj
    have := g1 x hx; omega
  · unfold nats
    rw [List.pairwise_map]
    refine List.Pairwise.imp_of_mem ?_ g2
    intro a b ha hb hab
    have := g1 a ha; have := g1 b hb; omega
theorem RightL.at_lt {p : PG} {l : List Nat} (h : RightL p l) {k : Nat} (hk : k < l.length) : l.getD k 0 < p.costs.length + p.rows.length := by
  have := h.lt l[k] (List.getElem_mem hk)
  simpa [List.getD, List.getElem?_eq_getElem hk] using this
theorem RightL.ne {p : PG} {l : List Nat} (h : RightL p l) {i k : Nat} (hi : i < k) (hk : k < l.length) : l.getD i 0 < l.getD k 0 := by
  have := List.pairwise_iff_getElem.1 h.pw i k (by omega) hk hi
  simpa [List.getD, List.getElem?_eq_getElem hk, List.getElem?_eq_getElem (show i < l.length by omega)] using this

/-! Numbers put into places. -/
theorem getD_set {a : List Int} {i j : Nat} {x : Int} (h : i < a.length) : (a.set i x).getD j 0 = if j = i then x else a.getD j 0 := by
  simp only [List.getD, List.getElem?_set]
  by_cases e : i = j
  · subst e; simp [h]
  · rw [if_neg e, if_neg (fun h => e h.symm)]
theorem sumN_set {f : Nat → Int} {a : List Int} {i : Nat} {x : Int} (h : i < a.length) : ∀ n, sumN (fun j => f j * (a.set i x).getD j 0) n = sumN (fun j => f j * a.getD j 0) n + if i < n then f i * (x - a.getD i 0) else 0
  | 0 => by simp [sumN]
  | n + 1 => by
    rw [sumN, sumN, sumN_set h n, getD_set h]
    by_cases e : n = i
    · subst e; rw [if_pos rfl, if_neg (by omega), if_pos (by omega), Int.mul_sub]; omega
    · rw [if_neg e]
      by_cases e' : i < n
      · rw [if_pos e', if_pos (by omega)]; omega
      · rw [if_neg e', if_neg (by omega)]; omega
theorem putAll_zero {l : List Nat} {v : Nat → Int} {N n j : Nat} (h : ∀ k, k < n → l.getD k 0 ≠ j) : (putAll l v N n).getD j 0 = 0 := by
  induction n with
  | zero => simp [putAll, List.getD, List.getElem?_replicate]; split <;> rfl
  | succ n ih =>
    rw [putAll_succ]
    by_cases hl : l.getD n 0 < N
    · rw [getD_set (by rw [length_putAll]; exact hl), if_neg (fun e => h n (by omega) e.symm)]
      exact ih fun k hk => h k (by omega)
    · rw [List.set_eq_of_length_le (by rw [length_putAll]; omega)]
      exact ih fun k hk => h k (by omega)
theorem putAll_at {p : PG} {l : List Nat} (hr : RightL p l) {v : Nat → Int} {n k : Nat} (hk : k < n) (hn : n ≤ l.length) : (putAll l v (p.costs.length + p.rows.length) n).getD (l.getD k 0) 0 = v k := by
  induction n with
  | zero => omega
  | succ n ih =>
    rw [putAll_succ, getD_set (by rw [length_putAll]; exact hr.at_lt (by omega))]
    by_cases e : k = n
    · subst e; rw [if_pos rfl]
    · rw [if_neg (by have := hr.ne (i := k) (k := n) (by omega) (by omega); omega)]
      exact ih (by omega) (by omega)
theorem sum_putAll {p : PG} {l : List Nat} (hr : RightL p l) {v f : Nat → Int} : ∀ {n : Nat}, n ≤ l.length →
    sumN (fun j => f j * (putAll l v (p.costs.length + p.rows.length) n).getD j 0) (p.costs.length + p.rows.length) = sumN (fun k => f (l.getD k 0) * v k) n
  | 0, _ => by
    refine Eq.trans (sumN_congr (g := fun _ => 0) fun j _ => ?_) sumN_zero
    rw [putAll_zero (by omega)]; simp
  | n + 1, hn => by
    simp only [putAll_succ]
    have hlt := hr.at_lt (k := n) (by omega)
    rw [sumN_set (by rw [length_putAll]; exact hlt), sum_putAll hr (by omega), if_pos hlt, sumN]
    rw [putAll_zero (fun k hk => by have := hr.ne (i := k) (k := n) hk (by omega); omega)]
    simp

/-! The equations, ahead of all division. -/
section
variable {p : PG} {l : List Nat}
theorem sum_has_x (hr : RightL p l) (h4 : p.rows.length ≤ 4) {i : Nat} (hi : i < p.rows.length) :
    sumN (fun j => hasZ p i j * (xall p l).getD j 0) (p.costs.length + p.rows.length) = (mosts p).getD i 0 * denZ p l := by
  unfold xall
  rw [sum_putAll hr (by rw [hr.len]; exact Nat.le_refl _)]
  have := cramer (matD p l) p.rows.length h4 hi
  unfold denZ xk
  rw [show matD p l i p.rows.length = (mosts p).getD i 0 by unfold matD; rw [if_neg (by rw [hr.len]; omega)]] at this
  rw [← this]
  refine sumN_congr fun k hk => ?_
  unfold matD
  rw [if_pos (by rw [hr.len]; exact hk)]
theorem sum_has_y (hr : RightL p l) (h4 : p.rows.length ≤ 4) {k : Nat} (hk : k < p.rows.length) :
    sumN (fun i => yk p l i * hasZ p i (l.getD k 0)) p.rows.length = costZ p (l.getD k 0) * denZ p l := by
  have := cramer (matU p l) p.rows.length h4 hk
  rw [show matU p l k p.rows.length = costZ p (l.getD k 0) by unfold matU; rw [if_neg (by rw [hr.len]; omega)], den_flip hr.len h4] at this
  rw [← this]
  refine sumN_congr fun i hi => ?_
  rw [show matU p l k i = hasZ p i (l.getD k 0) by unfold matU; rw [if_pos (by rw [hr.len]; exact hi)], Int.mul_comm]
  rfl
theorem gain_own (hr : RightL p l) (h4 : p.rows.length ≤ 4) {k : Nat} (hk : k < p.rows.length) : gk p l (l.getD k 0) p.rows.length = 0 := by
  unfold gk; rw [sum_has_y hr h4 hk]; omega
/-- What the columns are worth is what the rows are. -/
theorem worth_both (hr : RightL p l) (h4 : p.rows.length ≤ 4) (hd : denZ p l ≠ 0) :
    sumN (fun j => costZ p j * (xall p l).getD j 0) (p.costs.length + p.rows.length) = sumN (fun i => (mosts p).getD i 0 * yk p l i) p.rows.length := by
  refine Int.eq_of_mul_eq_mul_right hd ?_
  have e1 : sumN (fun j => costZ p j * (xall p l).getD j 0) (p.costs.length + p.rows.length) = sumN (fun k => costZ p (l.getD k 0) * xk p l k) p.rows.length := by
    unfold xall; rw [sum_putAll hr (by rw [hr.len]; exact Nat.le_refl _)]
  rw [e1, ← sumN_mul', ← sumN_mul']
  have e2 : sumN (fun k => costZ p (l.getD k 0) * xk p l k * denZ p l) p.rows.length = sumN (fun k => sumN (fun i => yk p l i * hasZ p i (l.getD k 0) * xk p l k) p.rows.length) p.rows.length := by
    refine sumN_congr fun k hk => ?_
    rw [sumN_mul', sum_has_y hr h4 hk]; ac_rfl
  rw [e2, ← sumN_comm (f := fun i k => yk p l i * hasZ p i (l.getD k 0) * xk p l k)]
  refine sumN_congr fun i hi => ?_
  have := sum_has_x hr h4 hi
  unfold xall at this
  rw [sum_putAll hr (by rw [hr.len]; exact Nat.le_refl _)] at this
  have e3 : sumN (fun k => yk p l i * hasZ p i (l.getD k 0) * xk p l k) p.rows.length = yk p l i * sumN (fun k => hasZ p i (l.getD k 0) * xk p l k) p.rows.length := by
    rw [← sumN_mul]; exact sumN_congr fun k _ => Int.mul_assoc _ _ _
  rw [e3, this]; ac_rfl
end

/-! Divided. -/
theorem pt_ok {l : List Int} {d : Int} (hd : d ≠ 0) (hb : -1073741824 ≤ d ∧ d ≤ 1073741824) (hl : smallB 1073741824 l = true) (h8 : l.length ≤ 8) : ptE l d = 0 := by
  have hs : smallB 4611686018427387904 l = true := smallB_iff.2 fun n hn => by have := smallB_mem hl hn; omega
  rw [ptE_of hd hs (by omega), if_pos]
  have h1 := sgcd_sign (l := l) hd
  have h2 := tdiv_bound 1073741824 d (sgcd l d) hb.1 hb.2
  have h3 : smallB 1073741824 (divs l (sgcd l d)) = true := smallB_iff.2 fun n hn => by
    simp only [divs, List.mem_map] at hn
    obtain ⟨x, hx, rfl⟩ := hn
    have := smallB_mem hl hx
    exact tdiv_bound 1073741824 x _ this.1 this.2
  simp only [rightB, Bool.and_eq_true, decide_eq_true_eq, length_divs]
  exact ⟨by omega, by omega, h3, h8⟩
/-- Numbers divided are what they were, divided. -/
theorem pt_parts {l : List Int} {d : Int} (h : ptE l d = 0) : ∃ g : Int, g ≠ 0 ∧ d = g * ptD l d ∧ (∀ j, l.getD j 0 = g * (ptN l d).getD j 0) ∧ (ptN l d).length = l.length ∧ 0 < ptD l d := by
  have h0 : d ≠ 0 := fun e => by subst e; simp [ptE] at h
  obtain ⟨h1, h2⟩ := sgcd_dvd (l := l) (d := d)
  refine ⟨sgcd l d, sgcd_ne h0, ?_, ?_, ?_, ?_⟩
  · rw [ptD_eq h]; exact (Int.mul_tdiv_cancel' h1).symm
  · intro j
    simp only [ptN, h, if_true, divs]
    by_cases hj : j < l.length
    · simp only [List.getD, List.getElem?_map, List.getElem?_eq_getElem hj, Option.map_some, Option.getD_some]
      exact (Int.mul_tdiv_cancel' (h2 _ (List.getElem_mem hj))).symm
    · simp [List.getD, List.getElem?_eq_none (Nat.le_of_not_lt hj)]
  · simp [ptN, h, length_divs]
  · rw [ptD_eq h]; exact sgcd_sign h0

theorem smallB_getD {m : Int} {l : List Int} (hm : 0 ≤ m) : smallB m l = true ↔ ∀ j, -m ≤ l.getD j 0 ∧ l.getD j 0 ≤ m := by
  rw [smallB_iff]
  constructor
  · intro h j
    by_cases hj : j < l.length
    · have := h l[j] (List.getElem_mem hj); simpa [List.getD, List.getElem?_eq_getElem hj] using this
    · simp [List.getD, List.getElem?_eq_none (Nat.le_of_not_lt hj)]; omega
  · intro h n hn
    obtain ⟨j, hj, rfl⟩ := List.mem_iff_getElem.1 hn
    have := h j; simpa [List.getD, List.getElem?_eq_getElem hj] using this

theorem xall_at {p : PG} {l : List Nat} (hr : RightL p l) {k : Nat} (hk : k < p.rows.length) : (xall p l).getD (l.getD k 0) 0 = xk p l k := by
  unfold xall; exact putAll_at hr hk (by rw [hr.len]; exact Nat.le_refl _)
theorem xall_off {p : PG} {l : List Nat} (hr : RightL p l) {j : Nat} (hj : j ∉ l) : (xall p l).getD j 0 = 0 := by
  unfold xall
  refine putAll_zero fun k hk e => hj ?_
  have hk' : k < l.length := by rw [hr.len]; exact hk
  rw [← e]
  simp only [List.getD, List.getElem?_eq_getElem hk', Option.getD_some]
  exact List.getElem_mem hk'
theorem xall_small {p : PG} {l : List Nat} (hp : mayPB p = true) (hr : RightL p l) : smallB 1073741824 (xall p l) = true := by
  rw [smallB_getD (by omega)]
  intro j
  by_cases hj : j ∈ l
  · obtain ⟨k, hk, rfl⟩ := List.mem_iff_getElem.1 hj
    have hk' : k < p.rows.length := by rw [← hr.len]; exact hk
    have := xall_at hr hk'
    simp only [List.getD, List.getElem?_eq_getElem hk, Option.getD_some] at this ⊢
    rw [this]
    have := xk_bound hp hr.len hk'
    omega
  · rw [xall_off hr hj]; omega
theorem yall_at {p : PG} {l : List Nat} {k : Nat} (hk : k < p.rows.length) : (yall p l).getD k 0 = yk p l k := by unfold yall; rw [getD_map_range hk]
theorem gall_at {p : PG} {l : List Nat} {j : Nat} (hj : j < p.costs.length + p.rows.length) : (gall p l).getD j 0 = gk p l j p.rows.length := by unfold gall; rw [getD_map_range hj]
theorem yall_small {p : PG} {l : List Nat} (hp : mayPB p = true) (hr : RightL p l) : smallB 1073741824 (yall p l) = true := by
  rw [smallB_iff]; intro n hn
  simp only [yall, List.mem_map, List.mem_range] at hn
  obtain ⟨k, hk, rfl⟩ := hn
  have := yk_bound hp hr.len hk; omega
theorem gall_small {p : PG} {l : List Nat} (hp : mayPB p = true) (hr : RightL p l) : smallB 1073741824 (gall p l) = true := by
  rw [smallB_iff]; intro n hn
  simp only [gall, List.mem_map, List.mem_range] at hn
  obtain ⟨j, _, rfl⟩ := hn
  have := gk_bound hp hr.len j (Nat.le_refl _); omega

/-- A corner of columns that have one way: what they come to, and what stands of it. -/
structure Corn (p : PG) (l : List Nat) (c : CO) (gx gy gg : Int) : Prop where
  hp : mayPB p = true
  hr : RightL p l
  hd : denZ p l ≠ 0
  nx : gx ≠ 0
  ny : gy ≠ 0
  ng : gg ≠ 0
  dx : denZ p l = gx * c.xd
  dy : denZ p l = gy * c.yd
  dg : denZ p l = gg * c.gd
  px : 0 < c.xd
  py : 0 < c.yd
  pg : 0 < c.gd
  lx : c.xs.length = p.costs.length + p.rows.length
  ly : c.ys.length = p.rows.length
  lg : c.gs.length = p.costs.length + p.rows.length
  x : ∀ j, (xall p l).getD j 0 = gx * c.xs.getD j 0
  y : ∀ j, (yall p l).getD j 0 = gy * c.ys.getD j 0
  g : ∀ j, (gall p l).getD j 0 = gg * c.gs.getD j 0
  mx : mayB c.xs c.xd = true
  my : mayB c.ys c.yd = true
  mg : mayB c.gs c.gd = true

theorem look_corn {p : PG} {l : List Int} (h : lookE p l = 0) : ∃ gx gy gg, Corn p (nats l) (lookC p l) gx gy gg := by
  have h' := h
  unfold lookE at h
  split at h
  · omega
  split at h
  · omega
  split at h
  · omega
  rename_i h1 h2 h3
  have hp : mayPB p = true := by simpa using h1
  obtain ⟨hr, _⟩ := right_nats (p := p) (l := l) (by simpa using h2)
  obtain ⟨k1, k2, k3, k4, _, _⟩ := mayPB_iff.1 hp
  have hb := den_bound hp hr.len
  have ex : ptE (xall p (nats l)) (denZ p (nats l)) = 0 := pt_ok h3 (by omega) (xall_small hp hr) (by unfold xall; rw [length_putAll]; omega)
  have ey : ptE (yall p (nats l)) (denZ p (nats l)) = 0 := pt_ok h3 (by omega) (yall_small hp hr) (by unfold yall; simp; omega)
  have eg : ptE (gall p (nats l)) (denZ p (nats l)) = 0 := pt_ok h3 (by omega) (gall_small hp hr) (by unfold gall; simp; omega)
  obtain ⟨gx, a1, a2, a3, a4, a5⟩ := pt_parts ex
  obtain ⟨gy, b1, b2, b3, b4, b5⟩ := pt_parts ey
  obtain ⟨gg, c1, c2, c3, c4, c5⟩ := pt_parts eg
  refine ⟨gx, gy, gg, ?_⟩
  unfold lookC
  rw [if_pos h']
  exact ⟨hp, hr, h3, a1, b1, c1, a2, b2, c2, a5, b5, c5, by rw [a4]; unfold xall; rw [length_putAll], by rw [b4]; unfold yall; simp, by rw [c4]; unfold gall; simp, a3, b3, c3, mayB_pt ex, mayB_pt ey, mayB_pt eg⟩

section
variable {p : PG} {l : List Nat} {c : CO} {gx gy gg : Int}
theorem Corn.rows4 (h : Corn p l c gx gy gg) : p.rows.length ≤ 4 := (mayPB_iff.1 h.hp).2.2.2.1
/-- Each row's equation. -/
theorem Corn.row (h : Corn p l c gx gy gg) {i : Nat} (hi : i < p.rows.length) :
    sumN (fun j => hasZ p i j * c.xs.getD j 0) (p.costs.length + p.rows.length) = (mosts p).getD i 0 * c.xd := by
  have := sum_has_x h.hr h.rows4 hi
  rw [h.dx] at this
  have e : sumN (fun j => hasZ p i j * (xall p l).getD j 0) (p.costs.length + p.rows.length) = gx * sumN (fun j => hasZ p i j * c.xs.getD j 0) (p.costs.length + p.rows.length) := by
    rw [← sumN_mul]; exact sumN_congr fun j _ => by rw [h.x j]; ac_rfl
  rw [e] at this
  refine Int.eq_of_mul_eq_mul_left h.nx ?_
  rw [this]; ac_rfl
theorem Corn.row' (h : Corn p l c gx gy gg) {i : Nat} (hi : i < p.rows.length) :
    dot (p.rows[i]).1 (c.xs.take p.costs.length) + c.xs.getD (p.costs.length + i) 0 = (p.rows[i]).2 * c.xd := by
  have := h.row hi
  have hm : (mosts p).getD i 0 = (p.rows[i]).2 := by rw [getD_mosts]; simp [List.getD, List.getElem?_eq_getElem hi]
  rw [hm] at this
  rw [← this, sumN_split, dot_row h.hp hi (by rw [List.length_take, h.lx]; omega)]
  congr 1
  · refine sumN_congr fun j hj => ?_
    simp [List.getD, hj]
  · have key : ∀ n, sumN (fun r => hasZ p i (p.costs.length + r) * c.xs.getD (p.costs.length + r) 0) n = if i < n then c.xs.getD (p.costs.length + i) 0 else 0 := by
      intro n
      induction n with
      | zero => simp [sumN]
      | succ n ih =>
        rw [sumN, ih]
        have e : hasZ p i (p.costs.length + n) = if n = i then 1 else 0 := by
          unfold hasZ; rw [if_neg (by omega)]
          by_cases e : n = i
          · rw [if_pos (by omega), if_pos e]
          · rw [if_neg (by omega), if_neg e]
        rw [e]
        by_cases e : n = i
        · subst e; rw [if_neg (by omega), if_pos rfl, if_pos (by omega)]; omega
        · rw [if_neg e]
          by_cases e' : i < n
          · rw [if_pos e', if_pos (by omega)]; omega
          · rw [if_neg e', if_neg (by omega)]; omega
    rw [key, if_pos hi]
theorem Corn.gain_own (h : Corn p l c gx gy gg) {k : Nat} (hk : k < p.rows.length) : c.gs.getD (l.getD k 0) 0 = 0 := by
  have h1 := h.g (l.getD k 0)
  rw [gall_at (h.hr.at_lt (by rw [h.hr.len]; exact hk)), Go.Proofs.Ytjcdkbalhleeeab.gain_own h.hr h.rows4 hk] at h1
  rcases Int.mul_eq_zero.1 h1.symm with e | e
  · exact absurd e h.ng
  · exact e
theorem sum_costZ {p : PG} {f : Nat → Int} : sumN (fun j => costZ p j * f j) (p.costs.length + p.rows.length) = sumN (fun j => p.costs.getD j 0 * f j) p.costs.length := by
  rw [sumN_split]
  have h1 : sumN (fun i => costZ p (p.costs.length + i) * f (p.costs.length + i)) p.rows.length = 0 := by
    rw [← sumN_zero (n := p.rows.length)]
    refine sumN_congr fun i _ => ?_
    unfold costZ; rw [if_neg (by omega)]; simp
  rw [h1, Int.add_zero]
  refine sumN_congr fun j hj => ?_
  unfold costZ; rw [if_pos hj]
theorem Corn.worth (h : Corn p l c gx gy gg) : dot p.costs (c.xs.take p.costs.length) * c.yd = dot (mosts p) c.ys * c.xd := by
  have := worth_both h.hr h.rows4 h.hd
  rw [sum_costZ] at this
  have e1 : sumN (fun j => p.costs.getD j 0 * (xall p l).getD j 0) p.costs.length = gx * dot p.costs (c.xs.take p.costs.length) := by
    rw [dot_sum (n := p.costs.length) rfl (by rw [List.length_take, h.lx]; omega), ← sumN_mul]
    refine sumN_congr fun j hj => ?_
    rw [h.x j]
    have : (c.xs.take p.costs.length).getD j 0 = c.xs.getD j 0 := by simp [List.getD, hj]
    rw [this]; ac_rfl
  have e2 : sumN (fun i => (mosts p).getD i 0 * yk p l i) p.rows.length = gy * dot (mosts p) c.ys := by
    rw [dot_sum (length_mosts p) h.ly, ← sumN_mul]
    refine sumN_congr fun i hi => ?_
    have := h.y i
    rw [yall_at hi] at this
    rw [this]; ac_rfl
  rw [e1, e2] at this
  have hgg : gx * gy ≠ 0 := fun e => by
    rcases Int.mul_eq_zero.1 e with e | e
    · exact h.nx e
    · exact h.ny e
  refine Int.eq_of_mul_eq_mul_left hgg ?_
  have d1 := h.dx
  have d2 := h.dy
  calc gx * gy * (dot p.costs (c.xs.take p.costs.length) * c.yd) = (gx * dot p.costs (c.xs.take p.costs.length)) * (gy * c.yd) := by ac_rfl
    _ = (gy * dot (mosts p) c.ys) * (gx * c.xd) := by rw [this, ← d1, ← d2]
    _ = gx * gy * (dot (mosts p) c.ys * c.xd) := by ac_rfl
end
end Go.Proofs.Ytjcdkbalhleeeab

namespace Go.Proofs.Ytjcdkbalhleeeab

/-- An end of a span. -/
structure EN where
  op : Bool
  n : Int
  d : Int
deriving DecidableEq
/-- A span that becomes narrower. -/
structure NW where
  fr : EN
  to : EN
  no : Bool
deriving DecidableEq
def openE : EN := ⟨true, 0, 0⟩
def zeroE : EN := ⟨false, 0, 0⟩
def endE (n d : Int) : EN := ⟨false, frN n d, ptD [n] d⟩
/-- The program's step: a, and t times b, to be 0 or below. -/
def belowZ (s : NW) (a b : Int) : NW :=
  if b = 0 then ⟨s.fr, s.to, s.no || decide (0 < a)⟩
  else if 0 < b ∧ (s.to.op = true ∨ lessB (frN (-a) b) (ptD [-a] b) s.to.n s.to.d = true) then ⟨s.fr, endE (-a) b, s.no⟩
  else if b < 0 ∧ (s.fr.op = true ∨ lessB s.fr.n s.fr.d (frN (-a) b) (ptD [-a] b) = true) then ⟨endE (-a) b, s.to, s.no⟩
  else s
/-- The document's comparison. -/
def cmpZ (a b c d : Int) : Int := a * d - c * b
/-- The document's step: a, and t times b, to be 0 or above. -/
def aboveZ (s : NW) (a b : Int) : NW :=
  if b = 0 then ⟨s.fr, s.to, s.no || decide (a < 0)⟩
  else
    let s1 : NW := if 0 < b ∧ (s.fr.op = true ∨ 0 < cmpZ (frN (0 - a) b) (ptD [0 - a] b) s.fr.n s.fr.d) then ⟨endE (0 - a) b, s.to, s.no⟩ else s
    if b < 0 ∧ (s1.to.op = true ∨ cmpZ (frN (0 - a) b) (ptD [0 - a] b) s1.to.n s1.to.d < 0) then ⟨s1.fr, endE (0 - a) b, s1.no⟩ else s1
def wholeN : NW := ⟨openE, openE, false⟩
/-- All narrowed, of the first k. -/
def ofZ (f g : Nat → Int) (k : Nat) : NW := (List.range k).foldl (fun s j => belowZ s (f j) (g j)) wholeN
def upZ (f g : Nat → Int) (k : Nat) : NW := (List.range k).foldl (fun s j => aboveZ s (f j) (g j)) wholeN
/-- The program's ends: the error (4: none), and both. -/
def endsE (s : NW) : Int := if s.no = true ∨ (s.fr.op = false ∧ s.to.op = false ∧ lessB s.to.n s.to.d s.fr.n s.fr.d = true) then 4 else 0
def endsF (s : NW) : EN := if endsE s = 0 then s.fr else zeroE
def endsT (s : NW) : EN := if endsE s = 0 then s.to else zeroE
/-- The document's: is there one? -/
def someZ (s : NW) : Bool := !(s.no || (!s.fr.op && (!s.to.op && decide (0 < cmpZ s.fr.n s.fr.d s.to.n s.to.d))))

/-- An end that is open, or a fraction that may be. -/
def EOk (e : EN) : Prop := e.op = true ∨ mayB [e.n] e.d = true
def NOk (s : NW) : Prop := EOk s.fr ∧ EOk s.to

theorem less_cmp {a b c d : Int} (h1 : mayB [a] b = true) (h2 : mayB [c] d = true) : lessB a b c d = true ↔ cmpZ a b c d < 0 := by
  simp only [lessB, h1, h2, cmpZ, Bool.true_and, decide_eq_true_eq]; omega
theorem ptE_neg {n d : Int} (hd : d ≠ 0) : ptE [-n] (-d) = ptE [n] d ∧ frN (-n) (-d) = frN n d ∧ ptD [-n] (-d) = ptD [n] d := by
  have hs := sgcd_neg (n := n) hd
  have e1 : divs [-n] (sgcd [-n] (-d)) = divs [n] (sgcd [n] d) := by rw [hs]; simp [divs]
  have e2 : (-d).tdiv (sgcd [-n] (-d)) = d.tdiv (sgcd [n] d) := by rw [hs]; simp
  have h1 : ∀ x : Int, (smallB 4611686018427387904 [-x] = false ↔ smallB 4611686018427387904 [x] = false) := by
    intro x; rw [smallB_one, smallB_one]; simp; omega
  have hE : ptE [-n] (-d) = ptE [n] d := by
    unfold ptE
    rw [e1, e2]
    have : (-d = 0 ∨ smallB 4611686018427387904 [-n] = false ∨ smallB 4611686018427387904 [-d] = false) ↔ (d = 0 ∨ smallB 4611686018427387904 [n] = false ∨ smallB 4611686018427387904 [d] = false) := by
      rw [h1, h1]; constructor <;> (rintro (q | q | q); exact Or.inl (by omega); exact Or.inr (Or.inl q); exact Or.inr (Or.inr q))
    simp only [this]
  refine ⟨hE, ?_, ?_⟩
  · unfold frN ptN; rw [hE, e1]
  · unfold ptD; rw [hE, e2]
theorem may_end {n d : Int} (h : ptE [n] d = 0) : mayB [frN n d] (ptD [n] d) = true := by
  have hN : ptN [n] d = [frN n d] := by unfold frN ptN; rw [if_pos h]; simp [divs]
  have := mayB_pt h
  rwa [hN] at this

/-- Both steps are one. -/
theorem step_one {s : NW} {a b : Int} (hs : NOk s) (h : b ≠ 0 → ptE [-a] b = 0) : aboveZ s (0 - a) (0 - b) = belowZ s a b ∧ NOk (belowZ s a b) := by
  obtain ⟨h1, h2⟩ := hs
  by_cases hb : b = 0
  · subst hb
    unfold aboveZ belowZ
    simp only [Int.sub_zero, if_true]
    refine ⟨?_, h1, h2⟩
    congr 2
    rw [decide_eq_decide]; omega
  have hE := h hb
  obtain ⟨n1, n2, n3⟩ := ptE_neg (n := -a) hb
  have eN : frN (0 - (0 - a)) (0 - b) = frN (-a) b := by rw [← n2]; congr 1 <;> omega
  have eD : ptD [0 - (0 - a)] (0 - b) = ptD [-a] b := by rw [← n3]; congr 1 <;> first | omega | (congr 1; omega)
  have hm := may_end hE
  have eE : endE (0 - (0 - a)) (0 - b) = endE (-a) b := by unfold endE; rw [eN, eD]
  have cmp1 : (s.to.op = true ∨ lessB (frN (-a) b) (ptD [-a] b) s.to.n s.to.d = true) ↔ (s.to.op = true ∨ cmpZ (frN (-a) b) (ptD [-a] b) s.to.n s.to.d < 0) := by
    rcases h2 with q | q
    · simp [q]
    · rw [less_cmp hm q]
  have cmp2 : (s.fr.op = true ∨ lessB s.fr.n s.fr.d (frN (-a) b) (ptD [-a] b) = true) ↔ (s.fr.op = true ∨ 0 < cmpZ (frN (-a) b) (ptD [-a] b) s.fr.n s.fr.d) := by
    rcases h1 with q | q
    · simp [q]
    · rw [less_cmp q hm]; unfold cmpZ; constructor <;> (rintro (w | w); exact Or.inl w; exact Or.inr (by omega))
  have hok : EOk (endE (-a) b) := Or.inr hm
  unfold aboveZ belowZ
  rw [if_neg (by omega), if_neg hb]
  simp only [eN, eD, eE]
  simp only [cmp1, cmp2]
  by_cases hp : 0 < b
  · have hb1 : ¬ 0 < 0 - b := by omega
    have hb2 : 0 - b < 0 := by omega
    have hb3 : ¬ b < 0 := by omega
    simp only [hp, hb1, hb2, hb3, true_and, false_and, if_false]
    by_cases c : s.to.op = true ∨ cmpZ (frN (-a) b) (ptD [-a] b) s.to.n s.to.d < 0
    · rw [if_pos c]; exact ⟨h1, hok⟩
    · rw [if_neg c]; exact ⟨h1, h2⟩
  · have hb1 : 0 < 0 - b := by omega
    have hb2 : ¬ 0 - b < 0 := by omega
    have hb3 : b < 0 := by omega
    simp only [hp, hb1, hb2, hb3, true_and, false_and, if_false]
    by_cases c : s.fr.op = true ∨ 0 < cmpZ (frN (-a) b) (ptD [-a] b) s.fr.n s.fr.d
    · rw [if_pos c]; exact ⟨hok, h2⟩
    · rw [if_neg c]; exact ⟨h1, h2⟩
theorem ofZ_succ (f g : Nat → Int) (k : Nat) : ofZ f g (k + 1) = belowZ (ofZ f g k) (f k) (g k) := by unfold ofZ; rw [List.range_succ, List.foldl_append]; rfl
theorem upZ_succ (f g : Nat → Int) (k : Nat) : upZ f g (k + 1) = aboveZ (upZ f g k) (f k) (g k) := by unfold upZ; rw [List.range_succ, List.foldl_append]; rfl
theorem of_up {f g f' g' : Nat → Int} {k : Nat} (hf : ∀ j, j < k → f' j = 0 - f j) (hg : ∀ j, j < k → g' j = 0 - g j) (hp : ∀ j, j < k → g j ≠ 0 → ptE [-(f j)] (g j) = 0) : upZ f' g' k = ofZ f g k ∧ NOk (ofZ f g k) := by
  induction k with
  | zero => exact ⟨rfl, Or.inl rfl, Or.inl rfl⟩
  | succ k ih =>
    obtain ⟨e, hok⟩ := ih (fun j hj => hf j (by omega)) (fun j hj => hg j (by omega)) (fun j hj => hp j (by omega))
    rw [upZ_succ, ofZ_succ, e, hf k (by omega), hg k (by omega)]
    exact step_one hok (hp k (by omega))
theorem ends_some {s : NW} (h : NOk s) : endsE s = 0 ↔ someZ s = true := by
  obtain ⟨h1, h2⟩ := h
  unfold endsE someZ
  cases hn : s.no
  · cases hf : s.fr.op
    · cases ht : s.to.op
      · have m1 : mayB [s.fr.n] s.fr.d = true := by rcases h1 with q | q; rw [hf] at q; simp at q; exact q
        have m2 : mayB [s.to.n] s.to.d = true := by rcases h2 with q | q; rw [ht] at q; simp at q; exact q
        have := less_cmp m2 m1
        simp only [this]
        unfold cmpZ
        simp
        try omega
      · simp
    · simp
  · simp

/-! What a span says. -/
/-- A number n / d lies within a span. -/
def inE (s : NW) (n d : Int) : Prop := s.no = false ∧ (s.fr.op = true ∨ s.fr.n * d ≤ n * s.fr.d) ∧ (s.to.op = true ∨ n * s.to.d ≤ s.to.n * d)
theorem frac_pos {n d : Int} (h : ptE [n] d = 0) : 0 < ptD [n] d ∧ frN n d * d = n * ptD [n] d := ⟨(fr_cross' h).2, (fr_cross' h).1⟩
where fr_cross' {n d : Int} (h : ptE [n] d = 0) : frN n d * d = n * ptD [n] d ∧ 0 < ptD [n] d := by
        have h0 : d ≠ 0 := fun e => by subst e; simp [ptE] at h
        rw [frN_eq h, ptD_eq h]
        exact ⟨sgcd_cross h0, sgcd_sign h0⟩
def EPos (e : EN) : Prop := e.op = true ∨ 0 < e.d
def NPos (s : NW) : Prop := EPos s.fr ∧ EPos s.to
theorem NOk.pos {s : NW} (h : NOk s) : NPos s := by
  have key : ∀ e, EOk e → EPos e := fun e h => by
    rcases h with q | q
    · exact Or.inl q
    · right
      simp only [mayB, rightB, Bool.and_eq_true, decide_eq_true_eq] at q
      omega
  exact ⟨key _ h.1, key _ h.2⟩
/-- a d + n b ≤ 0, held against the fraction of -a and b. -/
theorem at_end {a b n d : Int} (hE : ptE [-a] b = 0) :
    (0 < b → (a * d + n * b ≤ 0 ↔ n * ptD [-a] b ≤ frN (-a) b * d)) ∧ (b < 0 → (a * d + n * b ≤ 0 ↔ frN (-a) b * d ≤ n * ptD [-a] b)) := by
  obtain ⟨hp, hc⟩ := frac_pos hE
  generalize frN (-a) b = N at *
  generalize ptD [-a] b = D at *
  -- N b = -a D
  have key : (a * d + n * b) * D = (n * D - N * d) * b := by grind
  constructor
  · intro hb
    constructor
    · intro h
      have h1 : (a * d + n * b) * D ≤ 0 := Int.mul_nonpos_of_nonpos_of_nonneg h (by omega)
      rw [key] at h1
      by_cases q : n * D ≤ N * d
      · exact q
      · have := Int.mul_pos (show 0 < n * D - N * d by omega) hb; omega
    · intro h
      have h1 : (n * D - N * d) * b ≤ 0 := Int.mul_nonpos_of_nonpos_of_nonneg (by omega) (by omega)
      rw [← key] at h1
      by_cases q : a * d + n * b ≤ 0
      · exact q
      · have := Int.mul_pos (show 0 < a * d + n * b by omega) hp; omega
  · intro hb
    constructor
    · intro h
      have h1 : (a * d + n * b) * D ≤ 0 := Int.mul_nonpos_of_nonpos_of_nonneg h (by omega)
      rw [key] at h1
      by_cases q : N * d ≤ n * D
      · exact q
      · have := Int.mul_pos_of_neg_of_neg (show n * D - N * d < 0 by omega) hb; omega
    · intro h
      have h1 : (n * D - N * d) * b ≤ 0 := Int.mul_nonpos_of_nonneg_of_nonpos (by omega) (by omega)
      rw [← key] at h1
      by_cases q : a * d + n * b ≤ 0
      · exact q
      · have := Int.mul_pos (show 0 < a * d + n * b by omega) hp; omega
theorem cross_le {a b c d n e : Int} (hb : 0 < b) (hd : 0 < d) (he : 0 < e) : a * d ≤ c * b → n * b ≤ a * e → n * d ≤ c * e := by
  intro h1 h2
  have k1 : n * d * b ≤ c * e * b := by
    have a1 := Int.mul_le_mul_of_nonneg_right h2 (show 0 ≤ d by omega)
    have a2 := Int.mul_le_mul_of_nonneg_right h1 (show 0 ≤ e by omega)
    have e1 : n * b * d = n * d * b := by ac_rfl
    have e2 : a * e * d = a * d * e := by ac_rfl
    have e3 : c * b * e = c * e * b := by ac_rfl
    omega
  exact Int.le_of_mul_le_mul_right k1 hb
theorem step_in {s : NW} {a b n d : Int} (hs : NOk s) (h : b ≠ 0 → ptE [-a] b = 0) (hd : 0 < d) : inE (belowZ s a b) n d ↔ inE s n d ∧ a * d + n * b ≤ 0 := by
  have hP := hs.pos
  obtain ⟨h1, h2⟩ := hs
  by_cases hb : b = 0
  · subst hb
    unfold belowZ inE
    simp only [if_true, Bool.or_eq_false_iff, decide_eq_false_iff_not, Int.mul_zero, Int.add_zero]
    have : (¬ 0 < a) ↔ a * d ≤ 0 := by
      constructor
      · intro q; exact Int.mul_nonpos_of_nonpos_of_nonneg (by omega) (by omega)
      · intro q r; have := Int.mul_pos r hd; omega
    rw [this]
    constructor
    · rintro ⟨⟨x, y⟩, z⟩; exact ⟨⟨x, z⟩, y⟩
    · rintro ⟨⟨x, z⟩, y⟩; exact ⟨⟨x, y⟩, z⟩
  have hE := h hb
  have hm := may_end hE
  obtain ⟨hp, _⟩ := frac_pos hE
  obtain ⟨k1, k2⟩ := at_end (n := n) (d := d) hE
  unfold belowZ
  rw [if_neg hb]
  by_cases hpos : 0 < b
  · have hnn : ¬ b < 0 := by omega
    simp only [hpos, hnn, true_and, false_and, if_false]
    rw [k1 hpos]
    by_cases c : s.to.op = true ∨ lessB (frN (-a) b) (ptD [-a] b) s.to.n s.to.d = true
    · rw [if_pos c]
      unfold inE endE
      simp only [Bool.false_eq_true, false_or]
      constructor
      · rintro ⟨x, y, z⟩
        refine ⟨⟨x, y, ?_⟩, z⟩
        rcases c with c | c
        · exact Or.inl c
        · rcases h2 with q | q
          · exact Or.inl q
          · right
            rw [less_cmp hm q] at c
            have hq : 0 < s.to.d := by simp only [mayB, rightB, Bool.and_eq_true, decide_eq_true_eq] at q; omega
            exact cross_le hp hq hd (by unfold cmpZ at c; omega) z
      · rintro ⟨⟨x, y, _⟩, z⟩; exact ⟨x, y, z⟩
    · rw [if_neg c]
      unfold inE
      constructor
      · rintro ⟨x, y, z⟩
        refine ⟨⟨x, y, z⟩, ?_⟩
        have c1 : ¬ s.to.op = true := fun q => c (Or.inl q)
        rcases z with z | z
        · exact absurd z c1
        · have q : mayB [s.to.n] s.to.d = true := by rcases h2 with q | q; exact absurd q c1; exact q
          have hq : 0 < s.to.d := by rcases hP.2 with w | w; exact absurd w c1; exact w
          have c2 : ¬ cmpZ (frN (-a) b) (ptD [-a] b) s.to.n s.to.d < 0 := fun w => c (Or.inr ((less_cmp hm q).2 w))
          exact cross_le hq hp hd (by unfold cmpZ at c2; omega) z
      · rintro ⟨x, _⟩; exact x
  · have hneg : b < 0 := by omega
    simp only [hpos, hneg, true_and, false_and, if_false]
    rw [k2 hneg]
    have cl : ∀ {a b c d n e : Int}, 0 < b → 0 < d → 0 < e → c * b ≤ a * d → a * e ≤ n * b → c * e ≤ n * d := by
      intro a b c d n e hb hd he h1 h2
      have k1 : c * e * b ≤ n * d * b := by
        have a1 := Int.mul_le_mul_of_nonneg_right h2 (show 0 ≤ d by omega)
        have a2 := Int.mul_le_mul_of_nonneg_right h1 (show 0 ≤ e by omega)
        have e1 : n * b * d = n * d * b := by ac_rfl
        have e2 : a * e * d = a * d * e := by ac_rfl
        have e3 : c * b * e = c * e * b := by ac_rfl
        omega
      exact Int.le_of_mul_le_mul_right k1 hb
    by_cases c : s.fr.op = true ∨ lessB s.fr.n s.fr.d (frN (-a) b) (ptD [-a] b) = true
    · rw [if_pos c]
      unfold inE endE
      simp only [Bool.false_eq_true, false_or]
      constructor
      · rintro ⟨x, y, z⟩
        refine ⟨⟨x, ?_, z⟩, y⟩
        rcases c with c | c
        · exact Or.inl c
        · rcases h1 with q | q
          · exact Or.inl q
          · right
            rw [less_cmp q hm] at c
            have hq : 0 < s.fr.d := by simp only [mayB, rightB, Bool.and_eq_true, decide_eq_true_eq] at q; omega
            exact cl hp hq hd (by unfold cmpZ at c; omega) y
      · rintro ⟨⟨x, _, z⟩, y⟩; exact ⟨x, y, z⟩
    · rw [if_neg c]
      unfold inE
      constructor
      · rintro ⟨x, y, z⟩
        refine ⟨⟨x, y, z⟩, ?_⟩
        have c1 : ¬ s.fr.op = true := fun q => c (Or.inl q)
        rcases y with y | y
        · exact absurd y c1
        · have q : mayB [s.fr.n] s.fr.d = true := by rcases h1 with q | q; exact absurd q c1; exact q
          have hq : 0 < s.fr.d := by rcases hP.1 with w | w; exact absurd w c1; exact w
          have c2 : ¬ cmpZ s.fr.n s.fr.d (frN (-a) b) (ptD [-a] b) < 0 := fun w => c (Or.inr ((less_cmp q hm).2 w))
          exact cl hq hp hd (by unfold cmpZ at c2; omega) y
      · rintro ⟨x, _⟩; exact x
theorem of_in {f g : Nat → Int} {n d : Int} (hd : 0 < d) {k : Nat} (hp : ∀ j, j < k → g j ≠ 0 → ptE [-(f j)] (g j) = 0) : inE (ofZ f g k) n d ↔ ∀ j, j < k → f j * d + n * g j ≤ 0 := by
  induction k with
  | zero => simp [ofZ, inE, wholeN, openE]
  | succ k ih =>
    have hok := (of_up (f := f) (g := g) (f' := fun j => 0 - f j) (g' := fun j => 0 - g j) (k := k) (fun _ _ => rfl) (fun _ _ => rfl) (fun j hj => hp j (by omega))).2
    rw [ofZ_succ, step_in hok (hp k (by omega)) hd, ih fun j hj => hp j (by omega)]
    constructor
    · rintro ⟨h1, h2⟩ j hj
      by_cases e : j = k
      · subst e; exact h2
      · exact h1 j (by omega)
    · intro h; exact ⟨fun j hj => h j (by omega), h k (by omega)⟩
/-- Within both ends, where there are such: what the program tells. -/
theorem ends_in {s : NW} (hs : NOk s) {n d : Int} (hd : 0 < d) : (endsE s = 0 ∧ ((endsF s).op = true ∨ 0 ≤ cmpZ n d (endsF s).n (endsF s).d) ∧ ((endsT s).op = true ∨ cmpZ n d (endsT s).n (endsT s).d ≤ 0)) ↔ inE s n d := by
  have hP := hs.pos
  have hsm := ends_some hs
  by_cases h0 : endsE s = 0
  · unfold endsF endsT
    rw [if_pos h0, if_pos h0]
    unfold inE cmpZ
    have hno : s.no = false := by
      unfold endsE at h0
      split at h0
      · omega
      · rename_i q; cases hh : s.no; rfl; exact absurd (Or.inl hh) q
    constructor
    · rintro ⟨_, x, y⟩
      exact ⟨hno, x.imp id (fun q => by omega), y.imp id (fun q => by omega)⟩
    · rintro ⟨_, x, y⟩
      exact ⟨h0, x.imp id (fun q => by omega), y.imp id (fun q => by omega)⟩
  · refine ⟨fun h => absurd h.1 h0, fun h => ?_⟩
    exfalso
    unfold inE at h
    obtain ⟨x, y, z⟩ := h
    unfold endsE at h0
    split at h0
    rotate_left
    · exact h0 rfl
    rename_i q
    rcases q with q | ⟨q1, q2, q3⟩
    · rw [x] at q; simp at q
    · rw [q1] at y; rw [q2] at z
      simp at y z
      obtain ⟨⟨o1, o2⟩⟩ := (show Nonempty (EOk s.fr ∧ EOk s.to) from ⟨hs.1, hs.2⟩)
      have m1 : mayB [s.fr.n] s.fr.d = true := by rcases o1 with w | w; rw [q1] at w; simp at w; exact w
      have m2 : mayB [s.to.n] s.to.d = true := by rcases o2 with w | w; rw [q2] at w; simp at w; exact w
      rw [less_cmp m2 m1] at q3
      unfold cmpZ at q3
      have d1 : 0 < s.fr.d := by rcases hP.1 with w | w; rw [q1] at w; simp at w; exact w
      have d2 : 0 < s.to.d := by rcases hP.2 with w | w; rw [q2] at w; simp at w; exact w
      -- fr d ≤ n frd ; n tod ≤ to d ; to frd < fr tod
      have k1 := Int.mul_le_mul_of_nonneg_right y (show 0 ≤ s.to.d by omega)
      have k2 := Int.mul_le_mul_of_nonneg_right z (show 0 ≤ s.fr.d by omega)
      have k3 := Int.mul_lt_mul_of_pos_right (show s.to.n * s.fr.d < s.fr.n * s.to.d by omega) hd
      have e1 : s.fr.n * d * s.to.d = s.fr.n * s.to.d * d := by ac_rfl
      have e2 : n * s.fr.d * s.to.d = n * s.to.d * s.fr.d := by ac_rfl
      have e3 : s.to.n * d * s.fr.d = s.to.n * s.fr.d * d := by ac_rfl
      omega
end Go.Proofs.Ytjcdkbalhleeeab

namespace Go.Proofs.Ytjcdkbalhleeeab

/-- A fraction that stands as small numbers do is one that may be. -/
theorem pt_like {n d a b : Int} (hd : d ≠ 0) (hb : b ≠ 0) (h : n * b = a * d) (hn : -4611686018427387904 ≤ n ∧ n ≤ 4611686018427387904) (hd2 : -4611686018427387904 ≤ d ∧ d ≤ 4611686018427387904)
    (ha : -1073741824 ≤ a ∧ a ≤ 1073741824) (hb2 : -1073741824 ≤ b ∧ b ≤ 1073741824) : ptE [n] d = 0 := by
  have hs : smallB 4611686018427387904 [n] = true := by rw [smallB_one]; simp; omega
  rw [ptE_of hd hs hd2, if_pos]
  have h1 := sgcd_sign (l := [n]) hd
  have h0 := sgcd_ne (l := [n]) hd
  obtain ⟨g1, g2⟩ := sgcd_dvd (l := [n]) (d := d)
  have e1 : sgcd [n] d * d.tdiv (sgcd [n] d) = d := Int.mul_tdiv_cancel' g1
  have e2 : sgcd [n] d * n.tdiv (sgcd [n] d) = n := Int.mul_tdiv_cancel' (g2 n (by simp))
  have hc := comm_divs [n] d hd
  have hc' : Nat.gcd (d.tdiv (sgcd [n] d)).natAbs (n.tdiv (sgcd [n] d)).natAbs = 1 := by simpa [comm, divs] using hc
  simp only [rightB, Bool.and_eq_true, decide_eq_true_eq, length_divs]
  simp only [divs, List.map_cons, List.map_nil, smallB_one, Bool.and_eq_true, decide_eq_true_eq, List.length_cons, List.length_nil]
  generalize sgcd [n] d = g at *
  generalize d.tdiv g = D at *
  generalize n.tdiv g = N at *
  have hND : N * b = a * D := by
    have : g * (N * b) = g * (a * D) := by
      rw [show g * (N * b) = g * N * b by ac_rfl, e2, h, ← e1]; ac_rfl
    exact Int.eq_of_mul_eq_mul_left h0 this
  have hDb : D.natAbs ∣ b.natAbs := by
    refine (Nat.Coprime.dvd_of_dvd_mul_left (show Nat.Coprime D.natAbs N.natAbs from hc') ?_)
    rw [← Int.natAbs_mul, hND, Int.natAbs_mul]
    exact Nat.dvd_mul_left _ _
  have hNa : N.natAbs ∣ a.natAbs := by
    refine (Nat.Coprime.dvd_of_dvd_mul_right (show Nat.Coprime N.natAbs D.natAbs from by rw [Nat.coprime_comm]; exact hc') ?_)
    rw [← Int.natAbs_mul, ← hND, Int.natAbs_mul]
    exact Nat.dvd_mul_right _ _
  have hD1 := Nat.le_of_dvd (by omega) hDb
  have hN1 : N.natAbs ≤ a.natAbs := by
    by_cases h : a = 0
    · subst h
      have : N * b = 0 := by rw [hND]; simp
      rcases Int.mul_eq_zero.1 this with q | q
      · subst q; simp
      · exact absurd q hb
    · exact Nat.le_of_dvd (by omega) hNa
  omega

/-- Two corners with one divisor: what the one is, by the other one, may be. -/
theorem span_pt {A B den gA gB u v dA dB : Int} (nA : gA ≠ 0) (nB : gB ≠ 0) (hA : A = gA * u) (hB : B = gB * v) (eA : den = gA * dA) (eB : den = gB * dB)
    (bA : -1073741824 ≤ A ∧ A ≤ 1073741824) (bB : -1073741824 ≤ B ∧ B ≤ 1073741824)
    (bu : -1073741824 ≤ u ∧ u ≤ 1073741824) (bv : -1073741824 ≤ v ∧ v ≤ 1073741824) (bdA : -1073741824 ≤ dA ∧ dA ≤ 1073741824) (bdB : -1073741824 ≤ dB ∧ dB ≤ 1073741824)
    (h : v * dA ≠ 0) : ptE [-(u * dB)] (v * dA) = 0 := by
  have m1 := mul_bound u dB 1073741824 1073741824 bu.1 bu.2 bdB.1 bdB.2
  have m2 := mul_bound v dA 1073741824 1073741824 bv.1 bv.2 bdA.1 bdA.2
  have hB0 : B ≠ 0 := fun e => by
    rw [e] at hB
    rcases Int.mul_eq_zero.1 hB.symm with q | q
    · exact nB q
    · rw [q] at h; simp at h
  refine pt_like (a := -A) (b := B) h hB0 ?_ (by omega) (by omega) (by omega) bB
  -- -(u dB) B = -A (v dA), by den
  have e : gA * gB * (u * dB * B) = gA * gB * (A * (v * dA)) := by
    calc gA * gB * (u * dB * B) = (gA * u) * (gB * dB) * B := by ac_rfl
      _ = A * den * B := by rw [← hA, ← eB]
      _ = A * (gA * dA) * (gB * v) := by rw [← eA, ← hB]
      _ = gA * gB * (A * (v * dA)) := by ac_rfl
  have hg : gA * gB ≠ 0 := fun q => by
    rcases Int.mul_eq_zero.1 q with q | q
    · exact nA q
    · exact nB q
  have := Int.eq_of_mul_eq_mul_left hg e
  rw [Int.neg_mul, Int.neg_mul, this]

/-! The last column, expanded. -/
def unitU (A : Nat → Nat → Int) (m i : Nat) (r c : Nat) : Int := if c < m then A r c else if r = i then 1 else 0
set_option maxHeartbeats 4000000 in
theorem dtp_expand (A : Nat → Nat → Int) {m k : Nat} (hm : m ≤ 4) (hk : k < m) : dtp A m k m = sumN (fun i => dtp (unitU A m i) m k m * A i m) m := by
  unfold dtp
  rcases (show m = 1 ∨ m = 2 ∨ m = 3 ∨ m = 4 by omega) with rfl | rfl | rfl | rfl
  · obtain rfl : k = 0 := by omega
    simp [sumN, dt1, unitU]
  · rcases (show k = 0 ∨ k = 1 by omega) with rfl | rfl <;> (simp [sumN, range2, dt2, unitU]; try grind)
  · rcases (show k = 0 ∨ k = 1 ∨ k = 2 by omega) with rfl | rfl | rfl <;> (simp [sumN, range3, dt3, unitU]; try grind)
  · rcases (show k = 0 ∨ k = 1 ∨ k = 2 ∨ k = 3 by omega) with rfl | rfl | rfl | rfl <;> (simp [sumN, range4, dt4, dt3, unitU]; try grind)

/-! Other costs, same rows. -/
def costsOf (p : PG) (by_ : List Int) : PG := ⟨by_, p.rows⟩
section
variable {p : PG} {b : List Int} {l : List Nat}
theorem costs_has (h : b.length = p.costs.length) (i j : Nat) : hasZ (costsOf p b) i j = hasZ p i j := by unfold hasZ costsOf; simp only [h]
theorem costs_right (h : b.length = p.costs.length) (hr : RightL p l) : RightL (costsOf p b) l := ⟨hr.len, fun j hj => by have := hr.lt j hj; show j < b.length + p.rows.length; omega, hr.pw⟩
theorem costs_den (h : b.length = p.costs.length) : denZ (costsOf p b) l = denZ p l := by
  unfold denZ
  have e : matD (costsOf p b) l = matD p l := by
    funext i j; unfold matD; rw [costs_has h]; rfl
  rw [e]; rfl
theorem costs_may (h : b.length = p.costs.length) (hp : mayPB p = true) (hs : smallB 400 b = true) : mayPB (costsOf p b) = true := by
  obtain ⟨h1, h2, h3, h4, h5, h6⟩ := mayPB_iff.1 hp
  exact mayPB_iff.2 ⟨by show 1 ≤ b.length; omega, by show b.length ≤ 4; omega, h3, h4, hs, by show p.rows.all (rowB b.length) = true; rw [h]; exact h6⟩
theorem costs_E (h : b.length = p.costs.length) (hs : smallB 400 b = true) {at_ : List Int} (he : lookE p at_ = 0) : lookE (costsOf p b) at_ = 0 := by
  unfold lookE at he ⊢
  split at he
  · omega
  rename_i h1
  split at he
  · omega
  rename_i h2
  split at he
  · omega
  rename_i h3
  rw [if_neg (by rw [costs_may h (by simpa using h1) hs]; simp), if_neg, if_neg (by rw [costs_den h]; exact h3)]
  have : rightA (costsOf p b) at_ = rightA p at_ := by unfold rightA costsOf; simp only [h]
  rw [this]; exact h2
/-- What a row is worth, off the columns' worths. -/
theorem yk_sum (hr : RightL p l) (h4 : p.rows.length ≤ 4) {k : Nat} (hk : k < p.rows.length) : yk p l k = sumN (fun i => dtp (unitU (fun i j => hasZ p j (l.getD i 0)) p.rows.length i) p.rows.length k p.rows.length * costZ p (l.getD i 0)) p.rows.length := by
  unfold yk
  rw [dtp_expand _ h4 hk]
  refine sumN_congr fun i hi => ?_
  have e : matU p l i p.rows.length = costZ p (l.getD i 0) := by unfold matU; rw [if_neg (by rw [hr.len]; omega)]
  rw [e]
  congr 1
  unfold dtp
  refine dt_congr2 fun r _ c _ => ?_
  unfold unitU
  by_cases hc : c < p.rows.length
  · rw [if_pos hc, if_pos hc]; unfold matU; rw [if_pos (by rw [hr.len]; exact hc)]
  · rw [if_neg hc, if_neg hc]
/-- Gains go straight with the costs. -/
theorem gain_line {e : List Int} {d n : Int} (hr : RightL p l) (h4 : p.rows.length ≤ 4) (hb : b.length = p.costs.length) (he : e.length = p.costs.length)
    (hz : ∀ j, e.getD j 0 = d * p.costs.getD j 0 + n * b.getD j 0) (j : Nat) :
    gk (costsOf p e) l j p.rows.length = d * gk p l j p.rows.length + n * gk (costsOf p b) l j p.rows.length := by
  have hc : ∀ j, costZ (costsOf p e) j = d * costZ p j + n * costZ (costsOf p b) j := by
    intro j
    unfold costZ costsOf
    simp only [hb, he]
    by_cases h : j < p.costs.length
    · rw [if_pos h, if_pos h, if_pos h, hz j]
    · rw [if_neg h, if_neg h, if_neg h]; simp
  have hy : ∀ i, i < p.rows.length → yk (costsOf p e) l i = d * yk p l i + n * yk (costsOf p b) l i := by
    intro i hi
    have Y : ∀ b' : List Int, b'.length = p.costs.length → yk (costsOf p b') l i = sumN (fun q => dtp (unitU (fun i j => hasZ p j (l.getD i 0)) p.rows.length q) p.rows.length i p.rows.length * costZ (costsOf p b') (l.getD q 0)) p.rows.length := by
      intro b' hb'
      have := yk_sum (costs_right hb' hr) h4 hi
      rw [show (fun i j => hasZ (costsOf p b') j (l.getD i 0)) = (fun i j => hasZ p j (l.getD i 0)) by funext i j; rw [costs_has hb']] at this
      exact this
    rw [Y e he, Y b hb, yk_sum hr h4 hi, ← sumN_mul, ← sumN_mul, ← sumN_add]
    refine sumN_congr fun q _ => ?_
    rw [hc]; grind
  unfold gk
  rw [costs_den he, costs_den hb, hc]
  have : sumN (fun i => yk (costsOf p e) l i * hasZ (costsOf p e) i j) p.rows.length = d * sumN (fun i => yk p l i * hasZ p i j) p.rows.length + n * sumN (fun i => yk (costsOf p b) l i * hasZ (costsOf p b) i j) p.rows.length := by
    rw [← sumN_mul, ← sumN_mul, ← sumN_add]
    refine sumN_congr fun i hi => ?_
    rw [hy i hi, costs_has he, costs_has hb]; grind
  rw [this]; grind
end
end Go.Proofs.Ytjcdkbalhleeeab

namespace Go.Proofs.Ytjcdkbalhleeeab

/-- The rows with other mosts, of the first k. -/
def rowsK (p : PG) (b : List Int) (k : Nat) : List (List Int × Int) := (List.range k).map fun i => ((p.rows.getD i ([], 0)).1, b.getD i 0)
def mostsOf (p : PG) (b : List Int) : PG := ⟨p.costs, rowsK p b p.rows.length⟩
section
variable {p : PG} {b : List Int} {l : List Nat}
theorem rowsK_len (p : PG) (b : List Int) (k : Nat) : (rowsK p b k).length = k := by simp [rowsK]
theorem mostsOf_len (p : PG) (b : List Int) : (mostsOf p b).rows.length = p.rows.length := rowsK_len _ _ _
theorem rowsK_at (p : PG) (b : List Int) {k i : Nat} (h : i < k) : (rowsK p b k).getD i ([], 0) = ((p.rows.getD i ([], 0)).1, b.getD i 0) := by simp [rowsK, List.getD, h]
theorem mostsOf_has (p : PG) (b : List Int) (i j : Nat) : hasZ (mostsOf p b) i j = hasZ p i j := by
  unfold hasZ
  show (if j < p.costs.length then ((rowsK p b p.rows.length).getD i ([], 0)).1.getD j 0 else if j - p.costs.length = i then 1 else 0) = _
  by_cases hi : i < p.rows.length
  · rw [rowsK_at p b hi]
  · have e1 : (rowsK p b p.rows.length).getD i ([], 0) = ([], 0) := by simp [List.getD, List.getElem?_eq_none (show (rowsK p b p.rows.length).length ≤ i by rw [rowsK_len]; omega)]
    have e2 : p.rows.getD i ([], 0) = ([], 0) := by simp [List.getD, List.getElem?_eq_none (show p.rows.length ≤ i by omega)]
    rw [e1, e2]
theorem mostsOf_den (p : PG) (b : List Int) (hl : l.length = p.rows.length) : denZ (mostsOf p b) l = denZ p l := by
  unfold denZ dtm
  rw [mostsOf_len]
  refine dt_congr2 fun r hr c hc => ?_
  have hc' : c < p.rows.length := by simpa using hc
  unfold matD
  rw [if_pos (by omega), if_pos (by omega), mostsOf_has]
theorem mostsOf_may (hp : mayPB p = true) (hb : b.length = p.rows.length) (hs : smallB 12 b = true) : mayPB (mostsOf p b) = true := by
  obtain ⟨h1, h2, h3, h4, h5, h6⟩ := mayPB_iff.1 hp
  refine mayPB_iff.2 ⟨h1, h2, by rw [mostsOf_len]; exact h3, by rw [mostsOf_len]; exact h4, h5, ?_⟩
  show (rowsK p b p.rows.length).all (rowB p.costs.length) = true
  rw [List.all_eq_true]
  intro r hr
  simp only [rowsK, List.mem_map, List.mem_range] at hr
  obtain ⟨i, hi, rfl⟩ := hr
  obtain ⟨a1, a2, a3⟩ := mayPB_row hp hi
  have e : p.rows.getD i ([], 0) = p.rows[i] := by simp [List.getD, List.getElem?_eq_getElem hi]
  have hbi : -12 ≤ b.getD i 0 ∧ b.getD i 0 ≤ 12 := by
    have := smallB_at hs (k := i) (by omega)
    simpa [List.getD, List.getElem?_eq_getElem (show i < b.length by omega)] using this
  rw [e]
  unfold rowB
  simp only [Bool.and_eq_true, decide_eq_true_eq]
  exact ⟨a1, by rw [smallB_one]; simp; exact hbi, a3⟩
theorem mostsOf_E (hb : b.length = p.rows.length) (hs : smallB 12 b = true) {at_ : List Int} (he : lookE p at_ = 0) : lookE (mostsOf p b) at_ = 0 := by
  unfold lookE at he ⊢
  split at he
  · omega
  rename_i h1
  split at he
  · omega
  rename_i h2
  split at he
  · omega
  rename_i h3
  have hr := (right_nats (p := p) (l := at_) (by simpa using h2)).1
  rw [if_neg (by rw [mostsOf_may (by simpa using h1) hb hs]; simp), if_neg, if_neg (by rw [mostsOf_den p b hr.len]; exact h3)]
  have : rightA (mostsOf p b) at_ = rightA p at_ := by unfold rightA; rw [mostsOf_len]; rfl
  rw [this]; exact h2
end
end Go.Proofs.Ytjcdkbalhleeeab
