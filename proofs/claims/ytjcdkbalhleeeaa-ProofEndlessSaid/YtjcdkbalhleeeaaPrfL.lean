/-
  Plain laws for ProofBest and ProofEndless: what is proved is so. No program in sight.
-/
import Derived.Test.YtjcdkbalhleeeaaSumS
import Derived.Test.YtjcdkbalhleeeaaFracL
namespace Go.Proofs.Ytjcdkbalhleeeaa

theorem coversB_at {p : PG} {ys : List Int} {t : Int} (h : coversB p ys t = true) {j : Nat} (hj : j < p.costs.length) : costZ p j * t ≤ dot (colZ p j) ys := by
  unfold coversB at h
  rw [List.all_eq_true] at h
  simpa using h j (by simpa using hj)
theorem goesB_iff {p : PG} {x : List Int} {d : Int} : goesB p x d = true ↔ fitsB p x d = true ∧ nonneg x = true ∧ ∀ i (h : i < p.rows.length), dot (p.rows[i]).1 x ≤ (p.rows[i]).2 * d := by
  unfold goesB
  simp only [Bool.and_eq_true, List.all_eq_true, decide_eq_true_eq]
  constructor
  · rintro ⟨h1, h2, h3⟩
    exact ⟨h1, h2, fun i hi => h3 _ (List.getElem_mem hi)⟩
  · rintro ⟨h1, h2, h3⟩
    refine ⟨h1, h2, fun r hr => ?_⟩
    obtain ⟨i, hi, rfl⟩ := List.mem_iff_getElem.1 hr
    exact h3 i hi

/-- What goes is worth no more than what covers it. -/
theorem weak {p : PG} {zs ys : List Int} {zd yd : Int} (hg : goesB p zs zd = true) (hy : nonneg ys = true) (hl : ys.length = p.rows.length) (hc : coversB p ys yd = true) :
    dot p.costs zs * yd ≤ dot (mosts p) ys * zd := by
  obtain ⟨hf, hz, hr⟩ := goesB_iff.1 hg
  obtain ⟨hp, _, hzl⟩ := fitsB_iff.1 hf
  rw [dot_sum rfl hzl, dot_sum (length_mosts p) hl, ← sumN_mul', ← sumN_mul']
  have h1 : sumN (fun j => p.costs.getD j 0 * zs.getD j 0 * yd) p.costs.length ≤ sumN (fun j => sumN (fun i => hasZ p i j * ys.getD i 0 * zs.getD j 0) p.rows.length) p.costs.length := by
    refine sumN_le fun j hj => ?_
    have h := coversB_at hc hj
    rw [dot_col hl] at h
    have hcz : costZ p j = p.costs.getD j 0 := by simp [costZ, hj]
    rw [hcz] at h
    have := Int.mul_le_mul_of_nonneg_right h (nonneg_at hz j)
    rw [← sumN_mul'] at this
    rw [show p.costs.getD j 0 * zs.getD j 0 * yd = p.costs.getD j 0 * yd * zs.getD j 0 by rw [Int.mul_right_comm]]
    exact this
  refine Int.le_trans h1 ?_
  rw [← sumN_comm (f := fun i j => hasZ p i j * ys.getD i 0 * zs.getD j 0)]
  refine sumN_le fun i hi => ?_
  have h := hr i hi
  rw [dot_row hp hi hzl] at h
  have hm : (mosts p).getD i 0 = (p.rows[i]).2 := by rw [getD_mosts]; simp [List.getD, List.getElem?_eq_getElem hi]
  rw [hm]
  have := Int.mul_le_mul_of_nonneg_right h (nonneg_at hy i)
  rw [← sumN_mul'] at this
  have e : sumN (fun j => hasZ p i j * ys.getD i 0 * zs.getD j 0) p.costs.length = sumN (fun j => hasZ p i j * zs.getD j 0 * ys.getD i 0) p.costs.length :=
    sumN_congr fun j _ => by rw [Int.mul_right_comm]
  rw [e, show (p.rows[i]).2 * ys.getD i 0 * zd = (p.rows[i]).2 * zd * ys.getD i 0 by rw [Int.mul_right_comm]]
  exact this

/-- A fraction that was made stands as its numbers do. -/
theorem fr_cross {n d : Int} (h : ptE [n] d = 0) : frN n d * d = n * ptD [n] d ∧ 0 < ptD [n] d := by
  have h0 : d ≠ 0 := fun e => by subst e; simp [ptE] at h
  rw [frN_eq h, ptD_eq h]
  exact ⟨sgcd_cross h0, sgcd_sign h0⟩

theorem best_parts {p : PG} {a : AN} (h : bestB p a = true) : nonneg a.ys = true ∧ a.ys.length = p.rows.length ∧ coversB p a.ys a.yd = true ∧ 0 < a.yd ∧ ptE [dot (mosts p) a.ys] a.yd = 0 ∧
    frN (dot (mosts p) a.ys) a.yd = a.wn ∧ ptD [dot (mosts p) a.ys] a.yd = a.wd ∧ worE p a.xs a.xd = 0 := by
  unfold bestB at h
  simp only [Bool.and_eq_true, decide_eq_true_eq] at h
  obtain ⟨_, h2, h3, h4, h5, h6, ⟨h7, h8⟩, h9, h10⟩ := h
  obtain ⟨g1, g2, g3⟩ := aboveB_iff.1 h3
  obtain ⟨k1, _⟩ := mayB_parts g1
  exact ⟨g3, g2, h4, by omega, h6, by rw [h9, h7], by rw [h10, h8], h5⟩

/-- Of Best: a point that goes is worth no more. -/
theorem best_law {p : PG} {a : AN} {zs : List Int} {zd : Int} (h : bestB p a = true) (hg : goesB p zs zd = true) (he : ptE [dot p.costs zs] zd = 0) :
    frN (dot p.costs zs) zd * a.wd ≤ a.wn * ptD [dot p.costs zs] zd := by
  obtain ⟨h1, h2, h3, h4, h5, h6, h7, _⟩ := best_parts h
  have hw := weak hg h1 h2 h3
  obtain ⟨c1, c2⟩ := fr_cross he
  obtain ⟨c3, c4⟩ := fr_cross h5
  rw [h6, h7] at c3
  rw [h7] at c4
  obtain ⟨hf, _, _⟩ := goesB_iff.1 hg
  obtain ⟨_, hz, _⟩ := fitsB_iff.1 hf
  have hzd : 1 ≤ zd := (mayB_parts hz).1
  generalize frN (dot p.costs zs) zd = N at *
  generalize ptD [dot p.costs zs] zd = D at *
  generalize dot p.costs zs = u at *
  generalize dot (mosts p) a.ys = v at *
  generalize a.yd = yd at *
  generalize a.wn = n at *
  generalize a.wd = d at *
  -- N zd = u D ; n yd = v d ; u yd ≤ v zd ; goal N d ≤ n D
  have hpos : 0 < zd * yd := Int.mul_pos (by omega) (by omega)
  have hDd : 0 ≤ D * d := Int.mul_nonneg (by omega) (by omega)
  have h' := Int.mul_le_mul_of_nonneg_right hw hDd
  have e1 : u * yd * (D * d) = N * d * (zd * yd) := by
    rw [show u * yd * (D * d) = u * D * (yd * d) by ac_rfl, ← c1]; ac_rfl
  have e2 : v * zd * (D * d) = n * D * (zd * yd) := by
    rw [show v * zd * (D * d) = v * d * (zd * D) by ac_rfl, ← c3]; ac_rfl
  rw [e1, e2] at h'
  exact Int.le_of_mul_le_mul_right h' hpos

/-- Of Nothing: no point goes. -/
theorem nothing_law {p : PG} {a : AN} {zs : List Int} {zd : Int} (h : nothingB p a = true) : goesB p zs zd = false := by
  cases hg : goesB p zs zd with
  | false => rfl
  | true =>
    exfalso
    unfold nothingB at h
    simp only [Bool.and_eq_true, decide_eq_true_eq] at h
    obtain ⟨_, _, _, h4, h5, h6, h7⟩ := h
    obtain ⟨g1, g2, g3⟩ := aboveB_iff.1 h4
    have hw := weak hg g3 g2 h6
    obtain ⟨hf, _, _⟩ := goesB_iff.1 hg
    obtain ⟨_, hz, _⟩ := fitsB_iff.1 hf
    have hzd : 1 ≤ zd := (mayB_parts hz).1
    simp only [Int.mul_zero] at hw
    have := Int.mul_neg_of_neg_of_pos h7 (show 0 < zd by omega)
    omega

theorem worth_range {p : PG} {zs : List Int} {zd : Int} (hf : fitsB p zs zd = true) : ptE [dot p.costs zs] zd = 0 ∨ ptE [dot p.costs zs] zd = 1 := by
  obtain ⟨hp, hz, hl⟩ := fitsB_iff.1 hf
  obtain ⟨h1, h2, h3, _⟩ := mayB_parts hz
  obtain ⟨_, g2, _, _, g5, _⟩ := mayPB_iff.1 hp
  have hb := dot_bound (a := p.costs) (b := zs) g5 h3 (by omega) (by omega)
  have hsm : smallB 4611686018427387904 [dot p.costs zs] = true := by
    rw [smallB_one]; simp
    omega
  rw [ptE_of (by omega) hsm (by omega)]
  split <;> simp

/-! Endless -/
theorem endless_parts {p : PG} {a : AN} (h : endlessB p a = true) : goesB p a.xs a.xd = true ∧ nonneg a.rs = true ∧ a.rs.length = p.costs.length ∧ (∀ i (h : i < p.rows.length), dot (p.rows[i]).1 a.rs ≤ 0) ∧ 0 < dot p.costs a.rs := by
  unfold endlessB at h
  simp only [Bool.and_eq_true, decide_eq_true_eq, List.all_eq_true] at h
  obtain ⟨_, _, h3, h4, _, h6, h7⟩ := h
  obtain ⟨g1, g2, g3⟩ := aboveB_iff.1 h4
  exact ⟨h3, g3, g2, fun i hi => h6 _ (List.getElem_mem hi), h7⟩
/-- A point moved along: each number, and k times den times the other one. -/
def along (xs rs : List Int) (k d : Int) : List Int := (List.range xs.length).map fun i => xs.getD i 0 + k * rs.getD i 0 * d
theorem length_along (xs rs : List Int) (k d : Int) : (along xs rs k d).length = xs.length := by simp [along]
theorem along_at {xs rs : List Int} {k d : Int} {i : Nat} (h : i < xs.length) : (along xs rs k d).getD i 0 = xs.getD i 0 + k * rs.getD i 0 * d := by
  unfold along; rw [getD_map_range h]
theorem dot_along {a xs rs : List Int} {k d : Int} (h1 : xs.length = a.length) (h2 : rs.length = a.length) : dot a (along xs rs k d) = dot a xs + k * d * dot a rs := by
  rw [dot_sum rfl (by rw [length_along, h1]), dot_sum rfl h1, dot_sum rfl h2, ← sumN_mul, ← sumN_add]
  refine sumN_congr fun i hi => ?_
  rw [along_at (by omega), Int.mul_add]
  have : a.getD i 0 * (k * rs.getD i 0 * d) = k * d * (a.getD i 0 * rs.getD i 0) := by ac_rfl
  omega
theorem endless_row {p : PG} {a : AN} (h : endlessB p a = true) {k : Int} (hk : 0 ≤ k) {i : Nat} (hi : i < p.rows.length) : dot (p.rows[i]).1 (along a.xs a.rs k a.xd) ≤ (p.rows[i]).2 * a.xd := by
  obtain ⟨h1, h2, h3, h4, _⟩ := endless_parts h
  obtain ⟨hf, _, hr⟩ := goesB_iff.1 h1
  obtain ⟨hp, hx, hl⟩ := fitsB_iff.1 hf
  have hd := (mayB_parts hx).1
  have hrl := (mayPB_row hp hi).1
  rw [dot_along (by omega) (by omega)]
  have := hr i hi
  have h0 := h4 i hi
  have : k * a.xd * dot (p.rows[i]).1 a.rs ≤ 0 := Int.mul_nonpos_of_nonneg_of_nonpos (Int.mul_nonneg hk (by omega)) h0
  omega
theorem endless_more {p : PG} {a : AN} (h : endlessB p a = true) {k : Int} (hk : 0 ≤ k) : k * a.xd ≤ dot p.costs (along a.xs a.rs k a.xd) - dot p.costs a.xs := by
  obtain ⟨h1, h2, h3, h4, h5⟩ := endless_parts h
  obtain ⟨hf, _, hr⟩ := goesB_iff.1 h1
  obtain ⟨hp, hx, hl⟩ := fitsB_iff.1 hf
  have hd := (mayB_parts hx).1
  rw [dot_along (by omega) (by omega)]
  have h0 : 0 ≤ k * a.xd := Int.mul_nonneg hk (by omega)
  have := Int.mul_le_mul_of_nonneg_left (show (1 : Int) ≤ dot p.costs a.rs by omega) h0
  rw [Int.mul_one] at this
  omega
end Go.Proofs.Ytjcdkbalhleeeaa
