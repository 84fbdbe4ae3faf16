/-
  Contracts of functions and plain laws that later parts of the proof use. The conditions stand in each theorem.
-/
import Derived.Test.YtjcdkbalhleeeaaGreatDoorG01
namespace Go.Proofs.YtjcdkbalhleeeaaGreatDoor

/-! Columns that are right. -/
theorem rising_parts {last : Int} {n : Nat} {l : List Int} (h : risingB last n l = true) : (∀ j ∈ l, last < j ∧ j < n) ∧ l.Pairwise (· < ·) := by
  induction l generalizing last with
  | nil => simp
  | cons j l ih =>
    simp only [risingB, Bool.and_eq_true, decide_eq_true_eq] at h
    obtain ⟨h1, h2, h3⟩ := h
    obtain ⟨g1, g2⟩ := ih h3
    refine ⟨fun x hx => ?_, List.pairwise_cons.2 ⟨fun x hx => (g1 x hx).1, g2⟩⟩
    rcases List.mem_cons.1 hx with rfl | hx
    · exact ⟨h1, h2⟩
    · have := g1 x hx; omega
structure RightL (p : PG) (l : List Nat) : Prop where
  len : l.length = p.rows.length
  lt : ∀ j ∈ l, j < p.costs.length + p.rows.length
  pw : l.Pairwise (· < ·)
theorem right_nats {p : PG} {l : List Int} (h : rightA p l = true) : RightL p (nats l) ∧ l = (nats l).map Int.ofNat := by
  simp only [rightA, Bool.and_eq_true, decide_eq_true_eq] at h
  obtain ⟨h1, h2⟩ := h
  obtain ⟨g1, g2⟩ := rising_parts h2
  have e : l = (nats l).map Int.ofNat := by
    unfold nats
    rw [List.map_map]
    conv => lhs; rw [← List.map_id l]
    apply List.map_congr_left
    intro x hx
    have := (g1 x hx).1
    simp; omega
  refine ⟨⟨by unfold nats; simpa using h1, ?_, ?_⟩, e⟩
  · intro j hj
    simp only [nats, List.mem_map] at hj
    obtain ⟨x, hx, rfl⟩ := hj
    have := g1 x hx; omega
  · unfold nats
    rw [List.pairwise_map]
    refine List.Pairwise.imp_of_mem ?_ g2
    intro a b ha hb hab
    have := g1 a ha; have := g1 b hb; omega
theorem RightL.at_lt {p : PG} {l : List Nat} (h : RightL p l) {k : Nat} (hk : k < l.length) : l.getD k 0 < p.costs.length + p.rows.length := by
  have := h.lt l[k] (List.getElem_mem hk)
  simpa [List.getD, List.getElem?_eq_getElem hk] using this
theorem RightL.ne {p : PG} {l : List Nat} (h : RightL p l) {i k : Nat} (hi : i < k) (hk : k < l.length) : l.getD i 0 < l.getD k 0 := by
  have := List.pairwise_iff_getElem.1 h.pw i k (by omega) hk hi
  simpa [List.getD, List.getElem?_eq_getElem hk, List.getElem?_eq_getElem (show i < l.length by omega)] using this

/-! Numbers put into places. -/
theorem getD_set {a : List Int} {i j : Nat} {x : Int} (h : i < a.length) : (a.set i x).getD j 0 = if j = i then x else a.getD j 0 := by
  simp only [List.getD, List.getElem?_set]
  by_cases e : i = j
  · subst e; simp [h]
  · rw [if_neg e, if_neg (fun h => e h.symm)]
theorem sumN_set {f : Nat → Int} {a : List Int} {i : Nat} {x : Int} (h : i < a.length) : ∀ n, sumN (fun j => f j * (a.set i x).getD j 0) n = sumN (fun j => f j * a.getD j 0) n + if i < n then f i * (x - a.getD i 0) else 0
  | 0 => by simp [sumN]
  | n + 1 => by
    rw [sumN, sumN, sumN_set h n, getD_set h]
    by_cases e : n = i
    · subst e; rw [if_pos rfl, if_neg (by omega), if_pos (by omega), Int.mul_sub]; omega
    · rw [if_neg e]
      by_cases e' : i < n
      · rw [if_pos e', if_pos (by omega)]; omega
      · rw [if_neg e', if_neg (by omega)]; omega
theorem putAll_zero {l : List Nat} {v : Nat → Int} {N n j : Nat} (h : ∀ k, k < n → l.getD k 0 ≠ j) : (putAll l v N n).getD j 0 = 0 := by
  induction n with
  | zero => simp [putAll, List.getD, List.getElem?_replicate]; split <;> rfl
  | succ n ih =>
    rw [putAll_succ]
    by_cases hl : l.getD n 0 < N
    · rw [getD_set (by rw [length_putAll]; exact hl), if_neg (fun e => h n (by omega) e.symm)]
      exact ih fun k hk => h k (by omega)
    · rw [List.set_eq_of_length_le (by rw [length_putAll]; omega)]
      exact ih fun k hk => h k (by omega)
theorem putAll_at {p : PG} {l : List Nat} (hr : RightL p l) {v : Nat → Int} {n k : Nat} (hk : k < n) (hn : n ≤ l.length) : (putAll l v (p.costs.length + p.rows.length) n).getD (l.getD k 0) 0 = v k := by
  induction n with
  | zero => omega
  | succ n ih =>
    rw [putAll_succ, getD_set (by rw [length_putAll]; exact hr.at_lt (by omega))]
    by_cases e : k = n
    · subst e; rw [if_pos rfl]
    · rw [if_neg (by have := hr.ne (i := k) (k := n) (by omega) (by omega); omega)]
      exact ih (by omega) (by omega)
theorem sum_putAll {p : PG} {l : List Nat} (hr : RightL p l) {v f : Nat → Int} : ∀ {n : Nat}, n ≤ l.length →
    sumN (fun j => f j * (putAll l v (p.costs.length + p.rows.length) n).getD j 0) (p.costs.length + p.rows.length) = sumN (fun k => f (l.getD k 0) * v k) n
  | 0, _ => by
    refine Eq.trans (sumN_congr (g := fun _ => 0) fun j _ => ?_) sumN_zero
    rw [putAll_zero (by omega)]; simp
  | n + 1, hn => by
    simp only [putAll_succ]
    have hlt := hr.at_lt (k := n) (by omega)
    rw [sumN_set (by rw [length_putAll]; exact hlt), sum_putAll hr (by omega), if_pos hlt, sumN]
    rw [putAll_zero (fun k hk => by have := hr.ne (i := k) (k := n) hk (by omega); omega)]
    simp

/-! The equations, ahead of all division. -/
section
variable {p : PG} {l : List Nat}
theorem sum_has_x (hr : RightL p l) (h4 : p.rows.length ≤ 4) {i : Nat} (hi : i < p.rows.length) :
    sumN (fun j => hasZ p i j * (xall p l).getD j 0) (p.costs.length + p.rows.length) = (mosts p).getD i 0 * denZ p l := by
  unfold xall
  rw [sum_putAll hr (by rw [hr.len]; exact Nat.le_refl _)]
  have := cramer (matD p l) p.rows.length h4 hi
  unfold denZ xk
  rw [show matD p l i p.rows.length = (mosts p).getD i 0 by unfold matD; rw [if_neg (by rw [hr.len]; omega)]] at this
  rw [← this]
  refine sumN_congr fun k hk => ?_
  unfold matD
  rw [if_pos (by rw [hr.len]; exact hk)]
theorem sum_has_y (hr : RightL p l) (h4 : p.rows.length ≤ 4) {k : Nat} (hk : k < p.rows.length) :
    sumN (fun i => yk p l i * hasZ p i (l.getD k 0)) p.rows.length = costZ p (l.getD k 0) * denZ p l := by
  have := cramer (matU p l) p.rows.length h4 hk
  rw [show matU p l k p.rows.length = costZ p (l.getD k 0) by unfold matU; rw [if_neg (by rw [hr.len]; omega)], den_flip hr.len h4] at this
  rw [← this]
  refine sumN_congr fun i hi => ?_
  rw [show matU p l k i = hasZ p i (l.getD k 0) by unfold matU; rw [if_pos (by rw [hr.len]; exact hi)], Int.mul_comm]
  rfl
theorem gain_own (hr : RightL p l) (h4 : p.rows.length ≤ 4) {k : Nat} (hk : k < p.rows.length) : gk p l (l.getD k 0) p.rows.length = 0 := by
  unfold gk; rw [sum_has_y hr h4 hk]; omega
/-- What the columns are worth is what the rows are. -/
theorem worth_both (hr : RightL p l) (h4 : p.rows.length ≤ 4) (hd : denZ p l ≠ 0) :
    sumN (fun j => costZ p j * (xall p l).getD j 0) (p.costs.length + p.rows.length) = sumN (fun i => (mosts p).getD i 0 * yk p l i) p.rows.length := by
  refine Int.eq_of_mul_eq_mul_right hd ?_
  have e1 : sumN (fun j => costZ p j * (xall p l).getD j 0) (p.costs.length + p.rows.length) = sumN (fun k => costZ p (l.getD k 0) * xk p l k) p.rows.length := by
    unfold xall; rw [sum_putAll hr (by rw [hr.len]; exact Nat.le_refl _)]
  rw [e1, ← sumN_mul', ← sumN_mul']
  have e2 : sumN (fun k => costZ p (l.getD k 0) * xk p l k * denZ p l) p.rows.length = sumN (fun k => sumN (fun i => yk p l i * hasZ p i (l.getD k 0) * xk p l k) p.rows.length) p.rows.length := by
    refine sumN_congr fun k hk => ?_
    rw [sumN_mul', sum_has_y hr h4 hk]; ac_rfl
  rw [e2, ← sumN_comm (f := fun i k => yk p l i * hasZ p i (l.getD k 0) * xk p l k)]
  refine sumN_congr fun i hi => ?_
  have := sum_has_x hr h4 hi
  unfold xall at this
  rw [sum_putAll hr (by rw [hr.len]; exact Nat.le_refl _)] at this
  have e3 : sumN (fun k => yk p l i * hasZ p i (l.getD k 0) * xk p l k) p.rows.length = yk p l i * sumN (fun k => hasZ p i (l.getD k 0) * xk p l k) p.rows.length := by
    rw [← sumN_mul]; exact sumN_congr fun k _ => Int.mul_assoc _ _ _
  rw [e3, this]; ac_rfl
end

/-! Divided. -/
theorem pt_ok {l : List Int} {d : Int} (hd : d ≠ 0) (hb : -1073741824 ≤ d ∧ d ≤ 1073741824) (hl : smallB 1073741824 l = true) (h8 : l.length ≤ 8) : ptE l d = 0 := by
  have hs : smallB 4611686018427387904 l = true := smallB_iff.2 fun n hn => by have := smallB_mem hl hn; omega
  rw [ptE_of hd hs (by omega), if_pos]
  have h1 := sgcd_sign (l := l) hd
  have h2 := tdiv_bound 1073741824 d (sgcd l d) hb.1 hb.2
  have h3 : smallB 1073741824 (divs l (sgcd l d)) = true := smallB_iff.2 fun n hn => by
    simp only [divs, List.mem_map] at hn
    obtain ⟨x, hx, rfl⟩ := hn
    have := smallB_mem hl hx
    exact tdiv_bound 1073741824 x _ this.1 this.2
  simp only [rightB, Bool.and_eq_true, decide_eq_true_eq, length_divs]
  exact ⟨by omega, by omega, h3, h8⟩
/-- Numbers divided are what they were, divided. -/
theorem pt_parts {l : List Int} {d : Int} (h : ptE l d = 0) : ∃ g : Int, g ≠ 0 ∧ d = g * ptD l d ∧ (∀ j, l.getD j 0 = g * (ptN l d).getD j 0) ∧ (ptN l d).length = l.length ∧ 0 < ptD l d := by
  have h0 : d ≠ 0 := fun e => by subst e; simp [ptE] at h
  obtain ⟨h1, h2⟩ := sgcd_dvd (l := l) (d := d)
  refine ⟨sgcd l d, sgcd_ne h0, ?_, ?_, ?_, ?_⟩
  · rw [ptD_eq h]; exact (Int.mul_tdiv_cancel' h1).symm
  · intro j
    simp only [ptN, h, if_true, divs]
    by_cases hj : j < l.length
    · simp only [List.getD, List.getElem?_map, List.getElem?_eq_getElem hj, Option.map_some, Option.getD_some]
      exact (Int.mul_tdiv_cancel' (h2 _ (List.getElem_mem hj))).symm
    · simp [List.getD, List.getElem?_eq_none (Nat.le_of_not_lt hj)]
  · simp [ptN, h, length_divs]
  · rw [ptD_eq h]; exact sgcd_sign h0

theorem smallB_getD {m : Int} {l : List Int} (hm : 0 ≤ m) : smallB m l = true ↔ ∀ j, -m ≤ l.getD j 0 ∧ l.getD j 0 ≤ m := by
  rw [smallB_iff]
  constructor
  · intro h j
    by_cases hj : j < l.length
    · have := h l[j] (List.getElem_mem hj); simpa [List.getD, List.getElem?_eq_getElem hj] using this
    · simp [List.getD, List.getElem?_eq_none (Nat.le_of_not_lt hj)]; omega
  · intro h n hn
    obtain ⟨j, hj, rfl⟩ := List.mem_iff_getElem.1 hn
    have := h j; simpa [List.getD, List.getElem?_eq_getElem hj] using this

theorem xall_at {p : PG} {l : List Nat} (hr : RightL p l) {k : Nat} (hk : k < p.rows.length) : (xall p l).getD (l.getD k 0) 0 = xk p l k := by
  unfold xall; exact putAll_at hr hk (by rw [hr.len]; exact Nat.le_refl _)
theorem xall_off {p : PG} {l : List Nat} (hr : RightL p l) {j : Nat} (hj : j ∉ l) : (xall p l).getD j 0 = 0 := by
  unfold xall
  refine putAll_zero fun k hk e => hj ?_
  have hk' : k < l.length := by rw [hr.len]; exact hk
  rw [← e]
  simp only [List.getD, List.getElem?_eq_getElem hk', Option.getD_some]
  exact List.getElem_mem hk'
theorem xall_small {p : PG} {l : List Nat} (hp : mayPB p = true) (hr : RightL p l) : smallB 1073741824 (xall p l) = true := by
  rw [smallB_getD (by omega)]
  intro j
  by_cases hj : j ∈ l
  · obtain ⟨k, hk, rfl⟩ := List.mem_iff_getElem.1 hj
    have hk' : k < p.rows.length := by rw [← hr.len]; exact hk
    have := xall_at hr hk'
    simp only [List.getD, List.getElem?_eq_getElem hk, Option.getD_some] at this ⊢
    rw [this]
    have := xk_bound hp hr.len hk'
    omega
  · rw [xall_off hr hj]; omega
theorem yall_at {p : PG} {l : List Nat} {k : Nat} (hk : k < p.rows.length) : (yall p l).getD k 0 = yk p l k := by unfold yall; rw [getD_map_range hk]
theorem gall_at {p : PG} {l : List Nat} {j : Nat} (hj : j < p.costs.length + p.rows.length) : (gall p l).getD j 0 = gk p l j p.rows.length := by unfold gall; rw [getD_map_range hj]
theorem yall_small {p : PG} {l : List Nat} (hp : mayPB p = true) (hr : RightL p l) : smallB 1073741824 (yall p l) = true := by
  rw [smallB_iff]; intro n hn
  simp only [yall, List.mem_map, List.mem_range] at hn
  obtain ⟨k, hk, rfl⟩ := hn
  have := yk_bound hp hr.len hk; omega
theorem gall_small {p : PG} {l : List Nat} (hp : mayPB p = true) (hr : RightL p l) : smallB 1073741824 (gall p l) = true := by
  rw [smallB_iff]; intro n hn
  simp only [gall, List.mem_map, List.mem_range] at hn
  obtain ⟨j, _, rfl⟩ := hn
  have := gk_bound hp hr.len j (Nat.le_refl _); omega

/-- A corner of columns that have one way: what they come to, and what stands of it. -/
structure Corn (p : PG) (l : List Nat) (c : CO) (gx gy gg : Int) : Prop where
  hp : mayPB p = true
  hr : RightL p l
  hd : denZ p l ≠ 0
  nx : gx ≠ 0
  ny : gy ≠ 0
  ng : gg ≠ 0
  dx : denZ p l = gx * c.xd
  dy : denZ p l = gy * c.yd
  dg : denZ p l = gg * c.gd
  px : 0 < c.xd
  py : 0 < c.yd
  pg : 0 < c.gd
  lx : c.xs.length = p.costs.length + p.rows.length
  ly : c.ys.length = p.rows.length
  lg : c.gs.length = p.costs.length + p.rows.length
  x : ∀ j, (xall p l).getD j 0 = gx * c.xs.getD j 0
  y : ∀ j, (yall p l).getD j 0 = gy * c.ys.getD j 0
  g : ∀ j, (gall p l).getD j 0 = gg * c.gs.getD j 0
  mx : mayB c.xs c.xd = true
  my : mayB c.ys c.yd = true
  mg : mayB c.gs c.gd = true

theorem look_corn {p : PG} {l : List Int} (h : lookE p l = 0) : ∃ gx gy gg, Corn p (nats l) (lookC p l) gx gy gg := by
  have h' := h
  unfold lookE at h
  split at h
  · omega
  split at h
  · omega
  split at h
  · omega
  rename_i h1 h2 h3
  have hp : mayPB p = true := by simpa using h1
  obtain ⟨hr, _⟩ := right_nats (p := p) (l := l) (by simpa using h2)
  obtain ⟨k1, k2, k3, k4, _, _⟩ := mayPB_iff.1 hp
  have hb := den_bound hp hr.len
  have ex : ptE (xall p (nats l)) (denZ p (nats l)) = 0 := pt_ok h3 (by omega) (xall_small hp hr) (by unfold xall; rw [length_putAll]; omega)
  have ey : ptE (yall p (nats l)) (denZ p (nats l)) = 0 := pt_ok h3 (by omega) (yall_small hp hr) (by unfold yall; simp; omega)
  have eg : ptE (gall p (nats l)) (denZ p (nats l)) = 0 := pt_ok h3 (by omega) (gall_small hp hr) (by unfold gall; simp; omega)
  obtain ⟨gx, a1, a2, a3, a4, a5⟩ := pt_parts ex
  obtain ⟨gy, b1, b2, b3, b4, b5⟩ := pt_parts ey
  obtain ⟨gg, c1, c2, c3, c4, c5⟩ := pt_parts eg
  refine ⟨gx, gy, gg, ?_⟩
  unfold lookC
  rw [if_pos h']
  exact ⟨hp, hr, h3, a1, b1, c1, a2, b2, c2, a5, b5, c5, by rw [a4]; unfold xall; rw [length_putAll], by rw [b4]; unfold yall; simp, by rw [c4]; unfold gall; simp, a3, b3, c3, mayB_pt ex, mayB_pt ey, mayB_pt eg⟩

section
variable {p : PG} {l : List Nat} {c : CO} {gx gy gg : Int}
theorem Corn.rows4 (h : Corn p l c gx gy gg) : p.rows.length ≤ 4 := (mayPB_iff.1 h.hp).2.2.2.1
/-- Each row's equation. -/
theorem Corn.row (h : Corn p l c gx gy gg) {i : Nat} (hi : i < p.rows.length) :
    sumN (fun j => hasZ p i j * c.xs.getD j 0) (p.costs.length + p.rows.length) = (mosts p).getD i 0 * c.xd := by
  have := sum_has_x h.hr h.rows4 hi
  rw [h.dx] at this
  have e : sumN (fun j => hasZ p i j * (xall p l).getD j 0) (p.costs.length + p.rows.length) = gx * sumN (fun j => hasZ p i j * c.xs.getD j 0) (p.costs.length + p.rows.length) := by
    rw [← sumN_mul]; exact sumN_congr fun j _ => by rw [h.x j]; ac_rfl
  rw [e] at this
  refine Int.eq_of_mul_eq_mul_left h.nx ?_
  rw [this]; ac_rfl
theorem Corn.row' (h : Corn p l c gx gy gg) {i : Nat} (hi : i < p.rows.length) :
    dot (p.rows[i]).1 (c.xs.take p.costs.length) + c.xs.getD (p.costs.length + i) 0 = (p.rows[i]).2 * c.xd := by
  have := h.row hi
  have hm : (mosts p).getD i 0 = (p.rows[i]).2 := by rw [getD_mosts]; simp [List.getD, List.getElem?_eq_getElem hi]
  rw [hm] at this
  rw [← this, sumN_split, dot_row h.hp hi (by rw [List.length_take, h.lx]; omega)]
  congr 1
  · refine sumN_congr fun j hj => ?_
    simp [List.getD, hj]
  · have key : ∀ n, sumN (fun r => hasZ p i (p.costs.length + r) * c.xs.getD (p.costs.length + r) 0) n = if i < n then c.xs.getD (p.costs.length + i) 0 else 0 := by
      intro n
      induction n with
      | zero => simp [sumN]
      | succ n ih =>
        rw [sumN, ih]
        have e : hasZ p i (p.costs.length + n) = if n = i then 1 else 0 := by
          unfold hasZ; rw [if_neg (by omega)]
          by_cases e : n = i
          · rw [if_pos (by omega), if_pos e]
          · rw [if_neg (by omega), if_neg e]
        rw [e]
        by_cases e : n = i
        · subst e; rw [if_neg (by omega), if_pos rfl, if_pos (by omega)]; omega
        · rw [if_neg e]
          by_cases e' : i < n
          · rw [if_pos e', if_pos (by omega)]; omega
          · rw [if_neg e', if_neg (by omega)]; omega
    rw [key, if_pos hi]
theorem Corn.gain_own (h : Corn p l c gx gy gg) {k : Nat} (hk : k < p.rows.length) : c.gs.getD (l.getD k 0) 0 = 0 := by
  have h1 := h.g (l.getD k 0)
  rw [gall_at (h.hr.at_lt (by rw [h.hr.len]; exact hk)), Go.Proofs.YtjcdkbalhleeeaaGreatDoor.gain_own h.hr h.rows4 hk] at h1
  rcases Int.mul_eq_zero.1 h1.symm with e | e
  · exact absurd e h.ng
  · exact e
theorem sum_costZ {p : PG} {f : Nat → Int} : sumN (fun j => costZ p j * f j) (p.costs.length + p.rows.length) = sumN (fun j => p.costs.getD j 0 * f j) p.costs.length := by
  rw [sumN_split]
  have h1 : sumN (fun i => costZ p (p.costs.length + i) * f (p.costs.length + i)) p.rows.length = 0 := by
    rw [← sumN_zero (n := p.rows.length)]
    refine sumN_congr fun i _ => ?_
    unfold costZ; rw [if_neg (by omega)]; simp
  rw [h1, Int.add_zero]
  refine sumN_congr fun j hj => ?_
  unfold costZ; rw [if_pos hj]
theorem Corn.worth (h : Corn p l c gx gy gg) : dot p.costs (c.xs.take p.costs.length) * c.yd = dot (mosts p) c.ys * c.xd := by
  have := worth_both h.hr h.rows4 h.hd
  rw [sum_costZ] at this
  have e1 : sumN (fun j => p.costs.getD j 0 * (xall p l).getD j 0) p.costs.length = gx * dot p.costs (c.xs.take p.costs.length) := by
    rw [dot_sum (n := p.costs.length) rfl (by rw [List.length_take, h.lx]; omega), ← sumN_mul]
    refine sumN_congr fun j hj => ?_
    rw [h.x j]
    have : (c.xs.take p.costs.length).getD j 0 = c.xs.getD j 0 := by simp [List.getD, hj]
    rw [this]; ac_rfl
  have e2 : sumN (fun i => (mosts p).getD i 0 * yk p l i) p.rows.length = gy * dot (mosts p) c.ys := by
    rw [dot_sum (length_mosts p) h.ly, ← sumN_mul]
    refine sumN_congr fun i hi => ?_
    have := h.y i
    rw [yall_at hi] at this
    rw [this]; ac_rfl
  rw [e1, e2] at this
  have hgg : gx * gy ≠ 0 := fun e => by
    rcases Int.mul_eq_zero.1 e with e | e
    · exact h.nx e
    · exact h.ny e
  refine Int.eq_of_mul_eq_mul_left hgg ?_
  have d1 := h.dx
  have d2 := h.dy
  calc gx * gy * (dot p.costs (c.xs.take p.costs.length) * c.yd) = (gx * dot p.costs (c.xs.take p.costs.length)) * (gy * c.yd) := by ac_rfl
    _ = (gy * dot (mosts p) c.ys) * (gx * c.xd) := by rw [this, ← d1, ← d2]
    _ = gx * gy * (dot (mosts p) c.ys * c.xd) := by ac_rfl
end
end Go.Proofs.YtjcdkbalhleeeaaGreatDoor

namespace Go.Proofs.YtjcdkbalhleeeaaGreatDoor

def sumR (f : Nat → Rat) : Nat → Rat
  | 0 => 0
  | n + 1 => sumR f n + f n
theorem sumR_congr {f g : Nat → Rat} : ∀ {n : Nat}, (∀ i, i < n → f i = g i) → sumR f n = sumR g n
  | 0, _ => rfl
  | n + 1, h => by rw [sumR, sumR, sumR_congr fun i hi => h i (by omega), h n (by omega)]
theorem sumR_add {f g : Nat → Rat} : ∀ {n : Nat}, sumR (fun i => f i + g i) n = sumR f n + sumR g n
  | 0 => by simp [sumR]; grind
  | n + 1 => by simp only [sumR]; rw [sumR_add]; grind
theorem sumR_mul {f : Nat → Rat} {c : Rat} : ∀ {n : Nat}, sumR (fun i => c * f i) n = c * sumR f n
  | 0 => by simp [sumR]
  | n + 1 => by simp only [sumR]; rw [sumR_mul]; grind
theorem sumR_zero : ∀ {n : Nat}, sumR (fun _ => 0) n = 0
  | 0 => rfl
  | n + 1 => by rw [sumR, sumR_zero]; grind
theorem sumR_comm {f : Nat → Nat → Rat} {m : Nat} : ∀ {n : Nat}, sumR (fun i => sumR (fun j => f i j) m) n = sumR (fun j => sumR (fun i => f i j) n) m
  | 0 => by simp only [sumR]; exact sumR_zero.symm
  | n + 1 => by simp only [sumR]; rw [sumR_comm, sumR_add]
theorem sumR_one {f : Nat → Rat} {r : Nat} : ∀ {n : Nat}, r < n → (∀ j, j < n → j ≠ r → f j = 0) → sumR f n = f r
  | 0, h, _ => by omega
  | n + 1, h, hz => by
    rw [sumR]
    by_cases e : r = n
    · subst e
      have : sumR f r = 0 := (sumR_congr fun j hj => hz j (by omega) (by omega)).trans sumR_zero
      rw [this]; grind
    · rw [sumR_one (by omega) fun j hj => hz j (by omega), hz n (by omega) (by omega)]; grind
theorem sumR_pos {f : Nat → Rat} : ∀ {n : Nat}, 0 < sumR f n → ∃ j, j < n ∧ 0 < f j
  | 0, h => by simp [sumR] at h
  | n + 1, h => by
    by_cases e : 0 < f n
    · exact ⟨n, by omega, e⟩
    · rw [sumR] at h
      obtain ⟨j, hj, hp⟩ := sumR_pos (f := f) (n := n) (by grind)
      exact ⟨j, by omega, hp⟩

/-- One step: r comes in, s goes out. -/
structure Piv (m N : Nat) (A : Nat → Nat → Rat) (c : Nat → Rat) (l l' : List Nat) (x x' g d y : Nat → Rat) (r s : Nat) (t : Rat) : Prop where
  rin : r ∉ l
  rN : r < N
  sin : s ∈ l
  lN : ∀ j ∈ l, j < N
  mem : ∀ j, j ∈ l' ↔ (j ∈ l ∧ j ≠ s) ∨ j = r
  gy : ∀ j, j < N → g j = c j - sumR (fun i => y i * A i j) m
  g0 : ∀ j ∈ l, g j = 0
  gr : 0 < g r
  glt : ∀ j, j < r → g j ≤ 0
  dk : ∀ i, i < m → sumR (fun j => A i j * d j) N = 0
  dr : d r = 1
  doff : ∀ j, j ∉ l → j ≠ r → d j = 0
  ds : d s < 0
  t0 : 0 ≤ t
  tx : x s = t * -(d s)
  tmin : ∀ j ∈ l, d j < 0 → t * -(d j) ≤ x j ∧ (t * -(d j) = x j → s ≤ j)
  xoff : ∀ j, j ∉ l → x j = 0
  step : ∀ j, x' j = x j + t * d j

section
variable {m N : Nat} {A : Nat → Nat → Rat} {c : Nat → Rat} {l l' l2 l2' : List Nat} {x x' g d y x2 x2' g2 d2 y2 : Nat → Rat} {r s r2 s2 : Nat} {t t2 : Rat}
/-- What the direction is worth, by any corner's gains. -/
theorem Piv.worth (h : Piv m N A c l l' x x' g d y r s t) {g2 y2 : Nat → Rat} (hg : ∀ j, j < N → g2 j = c j - sumR (fun i => y2 i * A i j) m) : sumR (fun j => c j * d j) N = sumR (fun j => g2 j * d j) N := by
  have e : sumR (fun j => c j * d j) N = sumR (fun j => g2 j * d j + sumR (fun i => y2 i * (A i j * d j)) m) N := by
    refine sumR_congr fun j hj => ?_
    have h1 : sumR (fun i => y2 i * (A i j * d j)) m = d j * sumR (fun i => y2 i * A i j) m := by
      rw [← sumR_mul]; exact sumR_congr fun i _ => by grind
    rw [h1, hg j hj]; grind
  rw [e, sumR_add, ← sumR_comm (f := fun i j => y2 i * (A i j * d j))]
  have h2 : sumR (fun i => sumR (fun j => y2 i * (A i j * d j)) N) m = 0 := by
    refine (sumR_congr fun i hi => ?_).trans sumR_zero
    rw [sumR_mul, h.dk i hi]; grind
  rw [h2]; grind
theorem Piv.gain (h : Piv m N A c l l' x x' g d y r s t) : sumR (fun j => c j * d j) N = g r := by
  rw [h.worth h.gy, sumR_one h.rN]
  · rw [h.dr]; grind
  · intro j _ hjr
    by_cases hl : j ∈ l
    · rw [h.g0 j hl]; grind
    · rw [h.doff j hl hjr]; grind
theorem Piv.rises (h : Piv m N A c l l' x x' g d y r s t) : sumR (fun j => c j * x' j) N = sumR (fun j => c j * x j) N + t * g r := by
  rw [← h.gain, ← sumR_mul, ← sumR_add]
  exact sumR_congr fun j _ => by rw [h.step j]; grind
theorem Piv.ne (h : Piv m N A c l l' x x' g d y r s t) : s ≠ r := fun e => h.rin (e ▸ h.sin)

theorem turn_up {P : Nat → Prop} {i k : Nat} (hik : i ≤ k) (h0 : ¬ P i) (h1 : P k) : ∃ e, i ≤ e ∧ e < k ∧ ¬ P e ∧ P (e + 1) := by
  obtain ⟨n, rfl⟩ : ∃ n, k = i + n := ⟨k - i, by omega⟩
  induction n with
  | zero => exact absurd h1 h0
  | succ n ih =>
    by_cases hp : P (i + n)
    · obtain ⟨e, a, b, c, d⟩ := ih (by omega) hp; exact ⟨e, a, by omega, c, d⟩
    · exact ⟨i + n, by omega, by omega, hp, h1⟩

/-- No circle. -/
theorem bland {L : Nat → List Nat} {X G D Y : Nat → Nat → Rat} {R S : Nat → Nat} {T : Nat → Rat} {a b : Nat} (hab : a < b)
    (hs : ∀ i, a ≤ i → i < b → Piv m N A c (L i) (L (i + 1)) (X i) (X (i + 1)) (G i) (D i) (Y i) (R i) (S i) (T i))
    (hL : ∀ j, j ∈ L a ↔ j ∈ L b) (hX : ∀ j, X b j = X a j) (hXo : ∀ i, a ≤ i → i ≤ b → ∀ j, j ∉ L i → X i j = 0) : False := by
  -- what it is worth does not fall
  have mono : ∀ n, a + n ≤ b → sumR (fun j => c j * X a j) N ≤ sumR (fun j => c j * X (a + n) j) N := by
    intro n
    induction n with
    | zero => intro _; simp
    | succ n ih =>
      intro hn
      have h := hs (a + n) (by omega) (by omega)
      have := h.rises
      have h1 := Rat.mul_nonneg h.t0 (show 0 ≤ G (a + n) (R (a + n)) by have := h.gr; grind)
      have := ih (by omega)
      rw [show a + (n + 1) = a + n + 1 by omega]
      grind
  have mono2 : ∀ n, a + n ≤ b → sumR (fun j => c j * X (b - n) j) N ≤ sumR (fun j => c j * X b j) N := by
    intro n
    induction n with
    | zero => intro _; simp
    | succ n ih =>
      intro hn
      have h := hs (b - (n + 1)) (by omega) (by omega)
      have := h.rises
      have h1 := Rat.mul_nonneg h.t0 (show 0 ≤ G (b - (n + 1)) (R (b - (n + 1))) by have := h.gr; grind)
      have h2 := ih (by omega)
      rw [show b - (n + 1) + 1 = b - n by omega] at this
      grind
  have hw : sumR (fun j => c j * X b j) N = sumR (fun j => c j * X a j) N := sumR_congr fun j _ => by rw [hX j]
  have ht : ∀ i, a ≤ i → i < b → T i = 0 := by
    intro i h1 h2
    have h := hs i h1 h2
    have e := h.rises
    have m1 := mono (i - a) (by omega)
    have m2 := mono2 (b - (i + 1)) (by omega)
    rw [show a + (i - a) = i by omega] at m1
    rw [show b - (b - (i + 1)) = i + 1 by omega] at m2
    have hg := h.gr
    have h0 := h.t0
    have hle : T i * G i (R i) ≤ 0 := by grind
    rcases Rat.le_iff_lt_or_eq.1 h0 with hp | he
    · have := Rat.mul_pos hp hg; grind
    · exact he.symm
  have hx : ∀ n, a + n ≤ b → ∀ j, X (a + n) j = X a j := by
    intro n
    induction n with
    | zero => intro _ j; rfl
    | succ n ih =>
      intro hn j
      have := (hs (a + n) (by omega) (by omega)).step j
      rw [ht (a + n) (by omega) (by omega), ih (by omega) j] at this
      rw [show a + (n + 1) = a + n + 1 by omega, this]; grind
  have hx' : ∀ i, a ≤ i → i ≤ b → ∀ j, X i j = X a j := fun i h1 h2 j => by have := hx (i - a) (by omega) j; rwa [show a + (i - a) = i by omega] at this
  -- the columns that change
  let F : Nat → Prop := fun j => (∃ i, a ≤ i ∧ i ≤ b ∧ j ∈ L i) ∧ (∃ i, a ≤ i ∧ i ≤ b ∧ j ∉ L i)
  have hF0 : ∀ j, F j → X a j = 0 := by
    rintro j ⟨_, i, h1, h2, h3⟩
    rw [← hx' i h1 h2 j]; exact hXo i h1 h2 j h3
  have hin : ∀ j, F j → ∃ i, a ≤ i ∧ i < b ∧ R i = j := by
    rintro j ⟨⟨i, h1, h2, h3⟩, k, h4, h5, h6⟩
    have key : ∀ i k, a ≤ k → k ≤ i → i ≤ b → j ∉ L k → j ∈ L i → ∃ e, a ≤ e ∧ e < b ∧ R e = j := by
      intro i k hk hki hi h0 h1
      obtain ⟨e, e1, e2, e3, e4⟩ := turn_up (P := fun i => j ∈ L i) hki h0 h1
      refine ⟨e, by omega, by omega, ?_⟩
      have := ((hs e (by omega) (by omega)).mem j).1 e4
      rcases this with ⟨q, _⟩ | q
      · exact absurd q e3
      · exact q.symm
    by_cases ha : j ∈ L a
    · exact key b k h4 h5 (Nat.le_refl _) h6 ((hL j).1 ha)
    · exact key i a (Nat.le_refl _) h1 h2 ha h3
  have hout : ∀ j, F j → ∃ i, a ≤ i ∧ i < b ∧ S i = j := by
    rintro j ⟨⟨i, h1, h2, h3⟩, k, h4, h5, h6⟩
    have key : ∀ i k, a ≤ k → k ≤ i → i ≤ b → j ∈ L k → j ∉ L i → ∃ e, a ≤ e ∧ e < b ∧ S e = j := by
      intro i k hk hki hi h0 h1
      obtain ⟨e, e1, e2, e3, e4⟩ := turn_up (P := fun i => j ∉ L i) hki (fun h => h h0) h1
      refine ⟨e, by omega, by omega, ?_⟩
      have hje : j ∈ L e := Classical.byContradiction e3
      apply Classical.byContradiction
      intro hne
      exact e4 (((hs e (by omega) (by omega)).mem j).2 (Or.inl ⟨hje, fun q => hne q.symm⟩))
    by_cases ha : j ∈ L a
    · exact key k a (Nat.le_refl _) h4 h5 ha h6
    · exact key b i h1 h2 (Nat.le_refl _) h3 (fun q => ha ((hL j).2 q))
  have hFN : ∀ j, F j → j < N := by
    intro j hj
    obtain ⟨i, h1, h2, rfl⟩ := hin j hj
    exact (hs i h1 h2).rN
  have hFR : F (R a) := by
    have h := hs a (Nat.le_refl _) hab
    exact ⟨⟨a + 1, by omega, by omega, (h.mem _).2 (Or.inr rfl)⟩, a, by omega, by omega, h.rin⟩
  -- the greatest of them
  obtain ⟨q, hq, hmax⟩ : ∃ q, F q ∧ ∀ j, F j → j ≤ q := by
    have : ∀ n, (∃ j, F j ∧ N ≤ j + n) → ∃ q, F q ∧ ∀ j, F j → j ≤ q := by
      intro n
      induction n with
      | zero => rintro ⟨j, h1, h2⟩; have := hFN j h1; omega
      | succ n ih =>
        rintro ⟨j, h1, h2⟩
        by_cases hh : ∃ k, F k ∧ N ≤ k + n
        · exact ih hh
        · refine ⟨j, h1, fun k hk => ?_⟩
          apply Classical.byContradiction
          intro hlt
          exact hh ⟨k, hk, by omega⟩
    exact this N ⟨_, hFR, by omega⟩
  obtain ⟨i, hi1, hi2, hiS⟩ := hout q hq
  obtain ⟨k, hk1, hk2, hkR⟩ := hin q hq
  have hD := hs i hi1 hi2
  have hE := hs k hk1 hk2
  have hpos : 0 < sumR (fun j => G k j * D i j) N := by
    rw [← hD.worth hE.gy, hD.gain]; exact hD.gr
  obtain ⟨j, hjN, hj⟩ := sumR_pos hpos
  have hg0 : G k j ≠ 0 := fun e => by rw [e] at hj; grind
  have hd0 : D i j ≠ 0 := fun e => by rw [e] at hj; grind
  have hjE : j ∉ L k := fun h => hg0 (hE.g0 j h)
  have hjD : j ∈ L i ∨ j = R i := by
    apply Classical.byContradiction
    intro h
    exact hd0 (hD.doff j (fun q => h (Or.inl q)) (fun q => h (Or.inr q)))
  have hjF : F j := by
    refine ⟨?_, k, by omega, by omega, hjE⟩
    rcases hjD with h | h
    · exact ⟨i, by omega, by omega, h⟩
    · exact ⟨i + 1, by omega, by omega, (hD.mem j).2 (Or.inr h)⟩
  have hjq := hmax j hjF
  have hdq : D i q < 0 := by rw [← hiS]; exact hD.ds
  have hgq : 0 < G k q := by rw [← hkR]; exact hE.gr
  by_cases e : j = q
  · subst e
    have := Rat.mul_pos hgq (show 0 < -(D i j) by grind)
    grind
  · have hlt : j < R k := by omega
    have hgj := hE.glt j hlt
    have hdj : D i j < 0 := by
      apply Classical.byContradiction
      intro h
      have := Rat.mul_nonneg (show 0 ≤ -(G k j) by grind) (show 0 ≤ D i j by grind)
      grind
    have hjl : j ∈ L i := by
      rcases hjD with h | h
      · exact h
      · rw [h, hD.dr] at hdj; grind
    have hmin := (hD.tmin j hjl hdj).2
    rw [ht i hi1 hi2, hx' i hi1 (by omega) j, hF0 j hjF] at hmin
    have := hmin (by grind)
    omega
end

theorem pig : ∀ (n : Nat) (f : Nat → Nat), (∀ i, i ≤ n → f i < n) → ∃ i j, i < j ∧ j ≤ n ∧ f i = f j := by
  intro n
  induction n with
  | zero => intro f h; have := h 0 (by omega); omega
  | succ n ih =>
    intro f h
    by_cases hx : ∃ i, i ≤ n ∧ f i = f (n + 1)
    · obtain ⟨i, hi, e⟩ := hx; exact ⟨i, n + 1, by omega, by omega, e⟩
    · have hne : ∀ i, i ≤ n → f i ≠ f (n + 1) := fun i hi e => hx ⟨i, hi, e⟩
      obtain ⟨i, j, hij, hj, e⟩ := ih (fun i => if f i = n then f (n + 1) else f i) (fun i hi => by
        have := h i (by omega); have := h (n + 1) (by omega); have := hne i hi
        split <;> omega)
      refine ⟨i, j, hij, by omega, ?_⟩
      have h1 := hne i (by omega); have h2 := hne j (by omega)
      split at e <;> split at e <;> omega
end Go.Proofs.YtjcdkbalhleeeaaGreatDoor

namespace Go.Proofs.YtjcdkbalhleeeaaGreatDoor

/-! Columns of the determinant. -/
theorem dtGo_map {A : Nat → Int} {f : Nat → Nat} {g h : List Nat → Int} (hg : ∀ l, g l = h (l.map f)) : ∀ (cs pre : List Nat) (s : Int), dtGo (fun j => A (f j)) g pre s cs = dtGo A h (pre.map f) s (cs.map f)
  | [], _, _ => rfl
  | c :: cs, pre, s => by
    rw [dtGo, List.map_cons, dtGo, hg, dtGo_map hg cs, List.map_append, List.map_append]; rfl
theorem dt_cols {A : Nat → Nat → Int} {f : Nat → Nat} : ∀ {rs : List Nat} (cs : List Nat), dt (fun i j => A i (f j)) rs cs = dt A rs (cs.map f)
  | [], _ => rfl
  | r :: rs, cs => by
    rw [dt, dt]
    exact dtGo_map (fun l => dt_cols l) cs [] 1

set_option maxHeartbeats 1000000 in
theorem dt_adj (A : Nat → Nat → Int) {rs u v : List Nat} {a b : Nat} (h4 : rs.length ≤ 4) (hl : (u ++ a :: b :: v).length = rs.length) : dt A rs (u ++ a :: b :: v) = -dt A rs (u ++ b :: a :: v) := by
  simp at hl
  rcases (show rs.length = 2 ∨ rs.length = 3 ∨ rs.length = 4 by omega) with h | h | h
  · obtain ⟨r0, r1, rfl⟩ := list_len2 h
    obtain rfl : u = [] := List.eq_nil_of_length_eq_zero (by omega)
    obtain rfl : v = [] := List.eq_nil_of_length_eq_zero (by simp at hl; first | omega | simp [hl])
    simp [dt2]; grind
  · obtain ⟨r0, r1, r2, rfl⟩ := list_len3 h
    rcases u with _ | ⟨u0, u⟩
    · obtain ⟨v0, rfl⟩ : ∃ v0, v = [v0] := List.length_eq_one_iff.1 (by simp at hl; omega)
      simp [dt3]; grind
    · obtain rfl : u = [] := List.eq_nil_of_length_eq_zero (by simp at hl; omega)
      obtain rfl : v = [] := List.eq_nil_of_length_eq_zero (by simp at hl; omega)
      simp [dt3]; grind
  · obtain ⟨r0, r1, r2, r3, rfl⟩ := list_len4 h
    rcases u with _ | ⟨u0, _ | ⟨u1, u⟩⟩
    · obtain ⟨v0, v1, rfl⟩ := list_len2 (l := v) (by simp at hl; omega)
      simp [dt4, dt3]; grind
    · obtain ⟨v0, rfl⟩ : ∃ v0, v = [v0] := List.length_eq_one_iff.1 (by simp at hl; omega)
      simp [dt4, dt3]; grind
    · obtain rfl : u = [] := List.eq_nil_of_length_eq_zero (by simp at hl; omega)
      obtain rfl : v = [] := List.eq_nil_of_length_eq_zero (by simp at hl; omega)
      simp [dt4, dt3]; grind
theorem dt_ins (A : Nat → Nat → Int) {rs w : List Nat} {r : Nat} (h4 : rs.length ≤ 4) (hl : w.length + 1 = rs.length) : ∀ i, i ≤ w.length → (dt A rs (w.take i ++ r :: w.drop i)).natAbs = (dt A rs (r :: w)).natAbs := by
  intro i
  induction i with
  | zero => intro _; rfl
  | succ i ih =>
    intro hi
    rw [← ih (by omega)]
    have h1 : i < w.length := by omega
    rw [List.take_succ_eq_append_getElem h1, List.append_assoc, List.singleton_append, dt_adj A h4 (by simp; omega), Int.natAbs_neg]
    rw [← List.drop_eq_getElem_cons h1]

/-- One more column, rising. -/
def insN (w : List Nat) (r : Nat) : List Nat := w.takeWhile (fun j => decide (j < r)) ++ r :: w.dropWhile (fun j => decide (j < r))
theorem insN_take (w : List Nat) (r : Nat) : insN w r = w.take (w.takeWhile (fun j => decide (j < r))).length ++ r :: w.drop (w.takeWhile (fun j => decide (j < r))).length := by
  unfold insN
  have h : w.takeWhile (fun j => decide (j < r)) ++ w.dropWhile (fun j => decide (j < r)) = w := List.takeWhile_append_dropWhile
  have gen : ∀ a b w : List Nat, a ++ b = w → w.take a.length = a ∧ w.drop a.length = b := by rintro a b _ rfl; simp
  obtain ⟨h1, h2⟩ := gen _ _ _ h
  rw [h1, h2]
theorem mem_insN {w : List Nat} {r j : Nat} : j ∈ insN w r ↔ j ∈ w ∨ j = r := by
  have h : w.takeWhile (fun j => decide (j < r)) ++ w.dropWhile (fun j => decide (j < r)) = w := List.takeWhile_append_dropWhile
  unfold insN
  conv => rhs; rw [← h]
  simp only [List.mem_append, List.mem_cons]
  constructor
  · rintro (h | h | h)
    · exact Or.inl (Or.inl h)
    · exact Or.inr h
    · exact Or.inl (Or.inr h)
  · rintro ((h | h) | h)
    · exact Or.inl h
    · exact Or.inr (Or.inr h)
    · exact Or.inr (Or.inl h)
theorem length_insN (w : List Nat) (r : Nat) : (insN w r).length = w.length + 1 := by
  rw [insN_take]; simp; omega
theorem insN_pw {w : List Nat} {r : Nat} (h : w.Pairwise (· < ·)) (hr : r ∉ w) : (insN w r).Pairwise (· < ·) := by
  induction w with
  | nil => simp [insN]
  | cons a w ih =>
    rw [List.pairwise_cons] at h
    have har : a ≠ r := fun e => hr (by simp [e])
    by_cases hlt : a < r
    · have e : insN (a :: w) r = a :: insN w r := by simp [insN, hlt]
      rw [e, List.pairwise_cons]
      refine ⟨fun x hx => ?_, ih h.2 (fun q => hr (by simp [q]))⟩
      rcases mem_insN.1 hx with q | q
      · exact h.1 x q
      · omega
    · have e : insN (a :: w) r = r :: a :: w := by simp [insN, hlt]
      rw [e, List.pairwise_cons, List.pairwise_cons]
      refine ⟨fun x hx => ?_, h.1, h.2⟩
      rcases List.mem_cons.1 hx with q | q
      · omega
      · have := h.1 x q; omega

/-! A program whose rows may be at most what a column has. -/
def qOf (p : PG) (r : Nat) : PG := ⟨p.costs, (List.range p.rows.length).map fun i => ((p.rows.getD i ([], 0)).1, hasZ p i r)⟩
theorem qOf_len (p : PG) (r : Nat) : (qOf p r).rows.length = p.rows.length := by simp [qOf]
theorem qOf_row (p : PG) (r : Nat) {i : Nat} (h : i < p.rows.length) : (qOf p r).rows.getD i ([], 0) = ((p.rows.getD i ([], 0)).1, hasZ p i r) := by simp [qOf, List.getD, h]
theorem qOf_has (p : PG) (r i j : Nat) : hasZ (qOf p r) i j = hasZ p i j := by
  unfold hasZ
  simp only [show (qOf p r).costs = p.costs from rfl]
  by_cases h : i < p.rows.length
  · rw [qOf_row p r h]
  · have e1 : (qOf p r).rows.getD i ([], 0) = ([], 0) := by simp [qOf, List.getD, h]
    have e2 : p.rows.getD i ([], 0) = ([], 0) := by simp [List.getD, List.getElem?_eq_none (Nat.le_of_not_lt h)]
    rw [e1, e2]
theorem qOf_most (p : PG) (r : Nat) {i : Nat} (h : i < p.rows.length) : (mosts (qOf p r)).getD i 0 = hasZ p i r := by rw [getD_mosts, qOf_row p r h]
theorem qOf_may {p : PG} (hp : mayPB p = true) (r : Nat) : mayPB (qOf p r) = true := by
  obtain ⟨h1, h2, h3, h4, h5, h6⟩ := mayPB_iff.1 hp
  refine mayPB_iff.2 ⟨h1, h2, by rw [qOf_len]; exact h3, by rw [qOf_len]; exact h4, h5, ?_⟩
  rw [List.all_eq_true]
  intro x hx
  simp only [qOf, List.mem_map, List.mem_range] at hx
  obtain ⟨i, hi, rfl⟩ := hx
  obtain ⟨k1, k2, k3⟩ := mayPB_row hp hi
  have hb := hasZ_bound hp i r
  unfold rowB
  simp only [Bool.and_eq_true, decide_eq_true_eq, smallB_one]
  refine ⟨?_, ⟨by simpa using hb.1, by simpa using hb.2⟩, ?_⟩
  · show (p.rows.getD i ([], 0)).1.length = p.costs.length
    simpa [List.getD, List.getElem?_eq_getElem hi] using k1
  · simpa [List.getD, List.getElem?_eq_getElem hi] using k3
theorem qOf_right {p : PG} {l : List Nat} (h : RightL p l) (r : Nat) : RightL (qOf p r) l := ⟨by rw [qOf_len]; exact h.len, fun j hj => by rw [qOf_len]; exact h.lt j hj, h.pw⟩
theorem qOf_den {p : PG} {l : List Nat} (h : l.length = p.rows.length) (r : Nat) : denZ (qOf p r) l = denZ p l := by
  unfold denZ dtm
  rw [qOf_len]
  refine dt_congr2 fun i hi j hj => ?_
  have hj' : j < p.rows.length := by simpa using hj
  unfold matD
  rw [if_pos (by omega), if_pos (by omega), qOf_has]

/-! Columns as whole numbers, and as numbers from 0 on. -/
def ints (l : List Nat) : List Int := l.map Int.ofNat
theorem nats_ints (l : List Nat) : nats (ints l) = l := by unfold nats ints; rw [List.map_map]; conv => rhs; rw [← List.map_id l]
                                                           apply List.map_congr_left; intro x _; simp
theorem rising_ints {last : Int} {n : Nat} {l : List Nat} (h : ∀ j ∈ l, last < j ∧ j < n) (hp : l.Pairwise (· < ·)) : risingB last n (ints l) = true := by
  induction l generalizing last with
  | nil => rfl
  | cons a l ih =>
    rw [List.pairwise_cons] at hp
    have := h a (by simp)
    simp only [ints, List.map_cons, risingB, Bool.and_eq_true, decide_eq_true_eq]
    refine ⟨by simpa using this.1, by simp; omega, ih (fun j hj => ⟨?_, (h j (by simp [hj])).2⟩) hp.2⟩
    have := hp.1 j hj; simp; omega
theorem right_ints {p : PG} {l : List Nat} (h : RightL p l) : rightA p (ints l) = true := by
  simp only [rightA, Bool.and_eq_true, decide_eq_true_eq]
  exact ⟨by unfold ints; simpa using h.len, rising_ints (fun j hj => ⟨by omega, h.lt j hj⟩) h.pw⟩
theorem look_ints {p : PG} {l : List Nat} (hp : mayPB p = true) (h : RightL p l) (hd : denZ p l ≠ 0) : lookE p (ints l) = 0 := by
  unfold lookE; rw [if_neg (by simp [hp]), if_neg (by simp [right_ints h]), nats_ints, if_neg hd]

/-! The walk. -/
/-- The column that comes in. -/
def inZ (gs : List Int) : Option Nat := gs.findIdx? (fun n => decide (0 < n))
/-- The place of the column that goes out, of the first n. -/
def nearB (xs : List Int) (l : List Nat) (less : List Int) (k : Nat) : Option Nat → Bool
  | none => true
  | some q => decide (xs.getD (l.getD k 0) 0 * less.getD q 0 < xs.getD (l.getD q 0) 0 * less.getD k 0)
def outZ (xs : List Int) (l : List Nat) (less : List Int) (n : Nat) : Option Nat :=
  (List.range n).foldl (fun o k => if 0 < less.getD k 0 ∧ nearB xs l less k o = true then some k else o) none
/-- What columns come to, as numbers from 0 on. -/
def lookN (p : PG) (l : List Nat) : CO := lookC p (ints l)
/-- By how much each column in l becomes less. -/
def lessZ (p : PG) (l : List Nat) (r : Nat) : List Int := l.map fun j => (lookN (qOf p r) l).xs.getD j 0
/-- The next columns; none: there are none. -/
def nxtZ (p : PG) (l : List Nat) : Option (List Nat) :=
  match inZ (lookN p l).gs with
  | none => none
  | some r => match outZ (lookN p l).xs l (lessZ p l r) l.length with
    | none => none
    | some k => some (insN (l.eraseIdx k) r)
/-- The kind of the end. -/
def kindZ (p : PG) (l : List Nat) : Int :=
  match inZ (lookN p l).gs with
  | none => 1
  | some r => match outZ (lookN p l).xs l (lessZ p l r) l.length with
    | none => 2
    | some _ => 0

theorem inZ_some {gs : List Int} {r : Nat} (h : inZ gs = some r) : r < gs.length ∧ 0 < gs.getD r 0 ∧ ∀ j, j < r → gs.getD j 0 ≤ 0 := by
  unfold inZ at h
  rw [List.findIdx?_eq_some_iff_getElem] at h
  obtain ⟨h1, h2, h3⟩ := h
  refine ⟨h1, by simpa [List.getD, List.getElem?_eq_getElem h1] using h2, fun j hj => ?_⟩
  have := h3 j hj
  have hj' : j < gs.length := by omega
  simp at this
  simpa [List.getD, List.getElem?_eq_getElem hj'] using this
theorem inZ_none {gs : List Int} (h : inZ gs = none) : ∀ j, gs.getD j 0 ≤ 0 := by
  unfold inZ at h
  rw [List.findIdx?_eq_none_iff] at h
  intro j
  by_cases hj : j < gs.length
  · have := h gs[j] (List.getElem_mem hj)
    simp at this
    simpa [List.getD, List.getElem?_eq_getElem hj] using this
  · simp [List.getD, List.getElem?_eq_none (Nat.le_of_not_lt hj)]
theorem outZ_succ (xs : List Int) (l : List Nat) (less : List Int) (n : Nat) : outZ xs l less (n + 1) =
    if 0 < less.getD n 0 ∧ nearB xs l less n (outZ xs l less n) = true then some n else outZ xs l less n := by
  unfold outZ; rw [List.range_succ, List.foldl_append]; rfl
theorem outZ_none {xs : List Int} {l : List Nat} {less : List Int} : ∀ {n : Nat}, outZ xs l less n = none ↔ ∀ k, k < n → less.getD k 0 ≤ 0
  | 0 => by simp [outZ]
  | n + 1 => by
    rw [outZ_succ]
    constructor
    · intro h
      split at h
      · simp at h
      · rename_i hh
        rw [h] at hh
        have := outZ_none.1 h
        intro k hk
        by_cases e : k = n
        · subst e; simp [nearB] at hh; exact hh
        · exact this k (by omega)
    · intro h
      rw [if_neg (fun q => by have := h n (by omega); omega)]
      exact outZ_none.2 fun k hk => h k (by omega)
theorem outZ_some {xs : List Int} {l : List Nat} {less : List Int} (hx : ∀ j, 0 ≤ xs.getD j 0) : ∀ {n q : Nat}, outZ xs l less n = some q →
    q < n ∧ 0 < less.getD q 0 ∧ ∀ k, k < n → 0 < less.getD k 0 → xs.getD (l.getD q 0) 0 * less.getD k 0 ≤ xs.getD (l.getD k 0) 0 * less.getD q 0 ∧ (xs.getD (l.getD q 0) 0 * less.getD k 0 = xs.getD (l.getD k 0) 0 * less.getD q 0 → q ≤ k)
  | 0, q, h => by simp [outZ] at h
  | n + 1, q, h => by
    rw [outZ_succ] at h
    split at h
    · rename_i hh
      obtain ⟨h1, h2⟩ := hh
      simp at h
      subst h
      refine ⟨by omega, h1, fun k hk hp => ?_⟩
      by_cases e : k = n
      · subst e; exact ⟨by omega, fun _ => Nat.le_refl _⟩
      · cases ho : outZ xs l less n with
        | none => have := outZ_none.1 ho k (by omega); omega
        | some q =>
          rw [ho] at h2
          simp only [nearB, decide_eq_true_eq] at h2
          obtain ⟨a1, a2, a3⟩ := outZ_some hx ho
          obtain ⟨b1, b2⟩ := a3 k (by omega) hp
          -- x_n q' < x_q n' ; x_q k' ≤ x_k q' ; so x_n k' < x_k n'
          have c1 := Int.mul_lt_mul_of_pos_right h2 hp
          have c2 := Int.mul_le_mul_of_nonneg_right b1 (show 0 ≤ less.getD n 0 by omega)
          have c3 : xs.getD (l.getD n 0) 0 * less.getD k 0 * less.getD q 0 < xs.getD (l.getD k 0) 0 * less.getD n 0 * less.getD q 0 := by
            have e1 : xs.getD (l.getD n 0) 0 * less.getD q 0 * less.getD k 0 = xs.getD (l.getD n 0) 0 * less.getD k 0 * less.getD q 0 := by ac_rfl
            have e2 : xs.getD (l.getD q 0) 0 * less.getD n 0 * less.getD k 0 = xs.getD (l.getD q 0) 0 * less.getD k 0 * less.getD n 0 := by ac_rfl
            have e3 : xs.getD (l.getD k 0) 0 * less.getD q 0 * less.getD n 0 = xs.getD (l.getD k 0) 0 * less.getD n 0 * less.getD q 0 := by ac_rfl
            omega
          have := Int.lt_of_mul_lt_mul_right c3 (by omega)
          exact ⟨by omega, fun e => by omega⟩
    · rename_i hh
      obtain ⟨a1, a2, a3⟩ := outZ_some hx h
      refine ⟨by omega, a2, fun k hk hp => ?_⟩
      by_cases e : k = n
      · subst e
        rw [h] at hh
        simp only [nearB, decide_eq_true_eq] at hh
        have : ¬ (xs.getD (l.getD k 0) 0 * less.getD q 0 < xs.getD (l.getD q 0) 0 * less.getD k 0) := fun q => hh ⟨hp, q⟩
        exact ⟨by omega, fun _ => by omega⟩
      · exact a3 k (by omega) hp
end Go.Proofs.YtjcdkbalhleeeaaGreatDoor

namespace Go.Proofs.YtjcdkbalhleeeaaGreatDoor

theorem cast_sum {f : Nat → Int} : ∀ {n : Nat}, ((sumN f n : Int) : Rat) = sumR (fun i => (f i : Rat)) n
  | 0 => rfl
  | n + 1 => by rw [sumN, sumR, Rat.intCast_add, cast_sum]
theorem cast_ne {n : Int} (h : n ≠ 0) : (n : Rat) ≠ 0 := fun e => h (by exact_mod_cast e)
theorem cast_pos {n : Int} (h : 0 < n) : (0 : Rat) < (n : Rat) := by exact_mod_cast h

/-- A corner's columns, rows and gains as fractions. -/
def xq (c : CO) (j : Nat) : Rat := (c.xs.getD j 0 : Rat) / (c.xd : Rat)
def yq (c : CO) (i : Nat) : Rat := (c.ys.getD i 0 : Rat) / (c.yd : Rat)
def gq (c : CO) (j : Nat) : Rat := (c.gs.getD j 0 : Rat) / (c.gd : Rat)
def aq (p : PG) (i j : Nat) : Rat := (hasZ p i j : Rat)
def cq (p : PG) (j : Nat) : Rat := (costZ p j : Rat)

theorem zdiv (x : Rat) : ((0 : Int) : Rat) / x = 0 := by rw [show ((0 : Int) : Rat) = 0 from rfl]; grind
theorem div_eq {a b g : Int} (h : a = g * b) (hg : g ≠ 0) {e D : Int} (hd : D = g * e) (he : e ≠ 0) : (b : Rat) / (e : Rat) = (a : Rat) / (D : Rat) := by
  subst h hd
  rw [Rat.intCast_mul, Rat.intCast_mul]
  have := cast_ne hg; have := cast_ne he
  grind

section
variable {p : PG} {l : List Nat} {c : CO} {gx gy gg : Int}
theorem Corn.xq_eq (h : Corn p l c gx gy gg) (j : Nat) : xq c j = ((xall p l).getD j 0 : Rat) / (denZ p l : Rat) := div_eq (h.x j) h.nx h.dx (by have := h.px; omega)
theorem Corn.yq_eq (h : Corn p l c gx gy gg) (j : Nat) : yq c j = ((yall p l).getD j 0 : Rat) / (denZ p l : Rat) := div_eq (h.y j) h.ny h.dy (by have := h.py; omega)
theorem Corn.gq_eq (h : Corn p l c gx gy gg) (j : Nat) : gq c j = ((gall p l).getD j 0 : Rat) / (denZ p l : Rat) := div_eq (h.g j) h.ng h.dg (by have := h.pg; omega)
theorem Corn.rowQ (h : Corn p l c gx gy gg) {i : Nat} (hi : i < p.rows.length) : sumR (fun j => aq p i j * xq c j) (p.costs.length + p.rows.length) = ((mosts p).getD i 0 : Rat) := by
  have h1 := sum_has_x h.hr h.rows4 hi
  have h2 : ((sumN (fun j => hasZ p i j * (xall p l).getD j 0) (p.costs.length + p.rows.length) : Int) : Rat) = (((mosts p).getD i 0 * denZ p l : Int) : Rat) := by rw [h1]
  rw [cast_sum, Rat.intCast_mul] at h2
  have hd := cast_ne h.hd
  have e : sumR (fun j => aq p i j * xq c j) (p.costs.length + p.rows.length) = (1 / (denZ p l : Rat)) * sumR (fun j => ((hasZ p i j * (xall p l).getD j 0 : Int) : Rat)) (p.costs.length + p.rows.length) := by
    rw [← sumR_mul]
    refine sumR_congr fun j _ => ?_
    rw [h.xq_eq j, Rat.intCast_mul]; unfold aq; grind
  rw [e, h2]; grind
theorem Corn.offQ (h : Corn p l c gx gy gg) {j : Nat} (hj : j ∉ l) : xq c j = 0 := by
  rw [h.xq_eq j, xall_off h.hr hj]; exact zdiv _
theorem Corn.gainQ (h : Corn p l c gx gy gg) {j : Nat} (hj : j < p.costs.length + p.rows.length) : gq c j = cq p j - sumR (fun i => yq c i * aq p i j) p.rows.length := by
  rw [h.gq_eq j, gall_at hj]
  unfold gk
  have hd := cast_ne h.hd
  have e : sumR (fun i => yq c i * aq p i j) p.rows.length = (1 / (denZ p l : Rat)) * sumR (fun i => ((yk p l i * hasZ p i j : Int) : Rat)) p.rows.length := by
    rw [← sumR_mul]
    refine sumR_congr fun i hi => ?_
    rw [h.yq_eq i, yall_at hi, Rat.intCast_mul]; unfold aq; grind
  rw [e, ← cast_sum, Rat.intCast_sub, Rat.intCast_mul]
  unfold cq
  grind
theorem Corn.gainQ0 (h : Corn p l c gx gy gg) {j : Nat} (hj : j ∈ l) : gq c j = 0 := by
  obtain ⟨k, hk, rfl⟩ := List.mem_iff_getElem.1 hj
  have := h.gain_own (k := k) (by rw [← h.hr.len]; exact hk)
  simp only [List.getD, List.getElem?_eq_getElem hk, Option.getD_some] at this
  unfold gq
  simp only [List.getD]
  rw [this]; exact zdiv _
theorem sign_div {a b : Int} (hb : 0 < b) : ((0 : Rat) < (a : Rat) / (b : Rat) ↔ 0 < a) ∧ ((a : Rat) / (b : Rat) < 0 ↔ a < 0) := by
  have hb' := cast_pos hb
  have e : (a : Rat) / (b : Rat) * (b : Rat) = (a : Rat) := by grind
  constructor
  · constructor
    · intro h
      have := Rat.mul_pos h hb'
      rw [e] at this
      exact_mod_cast this
    · intro h
      have ha := cast_pos h
      apply Classical.byContradiction
      intro hn
      have := Rat.mul_nonneg (show (0 : Rat) ≤ -((a : Rat) / (b : Rat)) by grind) (show (0 : Rat) ≤ (b : Rat) by grind)
      grind
  · constructor
    · intro h
      have := Rat.mul_pos (show (0 : Rat) < -((a : Rat) / (b : Rat)) by grind) hb'
      have h2 : (0 : Rat) < -(a : Rat) := by grind
      have h3 : (a : Rat) < 0 := by grind
      exact_mod_cast h3
    · intro h
      have ha : (a : Rat) < 0 := by exact_mod_cast h
      apply Classical.byContradiction
      intro hn
      have := Rat.mul_nonneg (show (0 : Rat) ≤ (a : Rat) / (b : Rat) by grind) (show (0 : Rat) ≤ (b : Rat) by grind)
      grind
theorem nonneg_div {a b : Int} (hb : 0 < b) : (0 : Rat) ≤ (a : Rat) / (b : Rat) ↔ 0 ≤ a := by
  have h := (sign_div (a := a) hb).2
  constructor
  · intro h1
    apply Classical.byContradiction
    intro h2
    have := h.2 (by omega)
    grind
  · intro h1
    apply Classical.byContradiction
    intro h2
    have := h.1 (by grind)
    omega
end

/-! Only one way. -/
/-- The matrix with a column of 0s and one 1 in the place behind. -/
def unitC (A : Nat → Nat → Int) (m i : Nat) (r c : Nat) : Int := if c < m then A r c else if r = i then 1 else 0
set_option maxHeartbeats 4000000 in
theorem adj_left (A : Nat → Nat → Int) {m k j : Nat} (hm : m ≤ 4) (hk : k < m) (hj : j < m) : sumN (fun i => dtp (unitC A m i) m k m * A i j) m = if j = k then dtm A m else 0 := by
  unfold dtp dtm
  rcases (show m = 1 ∨ m = 2 ∨ m = 3 ∨ m = 4 by omega) with rfl | rfl | rfl | rfl
  · obtain rfl : k = 0 := by omega
    obtain rfl : j = 0 := by omega
    simp [sumN, dt1, unitC]
  · rcases (show k = 0 ∨ k = 1 by omega) with rfl | rfl <;> rcases (show j = 0 ∨ j = 1 by omega) with rfl | rfl <;> (simp [sumN, range2, dt2, unitC]; try grind)
  · rcases (show k = 0 ∨ k = 1 ∨ k = 2 by omega) with rfl | rfl | rfl <;> rcases (show j = 0 ∨ j = 1 ∨ j = 2 by omega) with rfl | rfl | rfl <;> (simp [sumN, range3, dt3, unitC]; try grind)
  · rcases (show k = 0 ∨ k = 1 ∨ k = 2 ∨ k = 3 by omega) with rfl | rfl | rfl | rfl <;> rcases (show j = 0 ∨ j = 1 ∨ j = 2 ∨ j = 3 by omega) with rfl | rfl | rfl | rfl <;> (simp [sumN, range4, dt4, dt3, unitC]; try grind)

/-- A sum over all columns, of what is 0 off l. -/
theorem sum_support {p : PG} {l : List Nat} (hr : RightL p l) {f : Nat → Rat} (hf : ∀ j, j ∉ l → f j = 0) : sumR f (p.costs.length + p.rows.length) = sumR (fun k => f (l.getD k 0)) p.rows.length := by
  have h1 : ∀ j, f j = sumR (fun k => if l.getD k 0 = j then f j else 0) p.rows.length := by
    intro j
    by_cases hj : j ∈ l
    · obtain ⟨k, hk, rfl⟩ := List.mem_iff_getElem.1 hj
      have hk' : k < p.rows.length := by rw [← hr.len]; exact hk
      have e : l.getD k 0 = l[k] := by simp [List.getD, List.getElem?_eq_getElem hk]
      rw [sumR_one hk', if_pos e]
      intro i hi hne
      rw [if_neg]
      intro q
      rw [← e] at q
      rcases Nat.lt_or_gt_of_ne hne with h | h
      · have := hr.ne h hk; omega
      · have := hr.ne h (by rw [hr.len]; exact hi); omega
    · rw [hf j hj]
      refine Eq.symm ((sumR_congr fun k _ => ?_).trans sumR_zero)
      split <;> rfl
  rw [sumR_congr (g := fun j => sumR (fun k => if l.getD k 0 = j then f j else 0) p.rows.length) fun j _ => h1 j]
  rw [← sumR_comm (f := fun k j => if l.getD k 0 = j then f j else 0)]
  refine sumR_congr fun k hk => ?_
  rw [sumR_one (hr.at_lt (by rw [hr.len]; exact hk)), if_pos rfl]
  intro j _ hne
  rw [if_neg (fun q => hne q.symm)]
theorem kernel {p : PG} {l : List Nat} (hr : RightL p l) (h4 : p.rows.length ≤ 4) (hd : denZ p l ≠ 0) {z : Nat → Rat} (hz : ∀ j, j ∉ l → z j = 0)
    (hA : ∀ i, i < p.rows.length → sumR (fun j => aq p i j * z j) (p.costs.length + p.rows.length) = 0) : ∀ j, z j = 0 := by
  intro j
  by_cases hj : j ∈ l
  rotate_left
  · exact hz j hj
  obtain ⟨k, hk, rfl⟩ := List.mem_iff_getElem.1 hj
  have hk' : k < p.rows.length := by rw [← hr.len]; exact hk
  have e : l.getD k 0 = l[k] := by simp [List.getD, List.getElem?_eq_getElem hk]
  rw [← e]
  have h1 : ∀ i, i < p.rows.length → sumR (fun k => (matD p l i k : Rat) * z (l.getD k 0)) p.rows.length = 0 := by
    intro i hi
    rw [← hA i hi, sum_support hr (fun j hj => by rw [hz j hj]; grind)]
    refine sumR_congr fun q hq => ?_
    unfold matD aq
    rw [if_pos (by rw [hr.len]; exact hq)]
  have h2 : sumR (fun i => (dtp (unitC (matD p l) p.rows.length i) p.rows.length k p.rows.length : Rat) * sumR (fun q => (matD p l i q : Rat) * z (l.getD q 0)) p.rows.length) p.rows.length = 0 :=
    (sumR_congr fun i hi => by rw [h1 i hi]; grind).trans sumR_zero
  have h3 : sumR (fun i => (dtp (unitC (matD p l) p.rows.length i) p.rows.length k p.rows.length : Rat) * sumR (fun q => (matD p l i q : Rat) * z (l.getD q 0)) p.rows.length) p.rows.length
      = sumR (fun q => (if q = k then (denZ p l : Rat) else 0) * z (l.getD q 0)) p.rows.length := by
    rw [sumR_congr (g := fun i => sumR (fun q => (dtp (unitC (matD p l) p.rows.length i) p.rows.length k p.rows.length : Rat) * ((matD p l i q : Rat) * z (l.getD q 0))) p.rows.length) fun i _ => by rw [sumR_mul]]
    rw [sumR_comm]
    refine sumR_congr fun q hq => ?_
    have ha := adj_left (matD p l) h4 hk' hq
    have e1 : sumR (fun i => (dtp (unitC (matD p l) p.rows.length i) p.rows.length k p.rows.length : Rat) * ((matD p l i q : Rat) * z (l.getD q 0))) p.rows.length
        = z (l.getD q 0) * ((sumN (fun i => dtp (unitC (matD p l) p.rows.length i) p.rows.length k p.rows.length * matD p l i q) p.rows.length : Int) : Rat) := by
      rw [cast_sum, ← sumR_mul]
      refine sumR_congr fun i _ => ?_
      rw [Rat.intCast_mul]; grind
    rw [e1, ha]
    unfold denZ
    by_cases hqk : q = k
    · rw [if_pos hqk, if_pos hqk]; grind
    · rw [if_neg hqk, if_neg hqk]; simp
  rw [h3, sumR_one hk' (fun q _ hq => by rw [if_neg hq]; grind), if_pos rfl] at h2
  have := cast_ne hd
  grind
end Go.Proofs.YtjcdkbalhleeeaaGreatDoor
