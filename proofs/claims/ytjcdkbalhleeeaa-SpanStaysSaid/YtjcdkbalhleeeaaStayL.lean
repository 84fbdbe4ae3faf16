/-
  Plain law for SpanStays: within the ends that are told, and there alone, the corner is best. No program in sight.
-/
import Derived.Test.YtjcdkbalhleeeaaStay2
import Derived.Test.YtjcdkbalhleeeaaRef4
namespace Go.Proofs.Ytjcdkbalhleeeaa

theorem nonpos_iff {l : List Int} : nonpos l = true ↔ ∀ j, j < l.length → l.getD j 0 ≤ 0 := by
  unfold nonpos
  rw [List.all_eq_true]
  constructor
  · intro h j hj
    have := h l[j] (List.getElem_mem hj)
    simpa [List.getD, List.getElem?_eq_getElem hj] using this
  · intro h x hx
    obtain ⟨j, hj, rfl⟩ := List.mem_iff_getElem.1 hx
    have := h j hj
    simpa [List.getD, List.getElem?_eq_getElem hj] using this
theorem lineL_at {p : PG} {b : List Int} {n d : Int} (hb : b.length = p.costs.length) (j : Nat) : (lineL p b n d p.costs.length).getD j 0 = d * p.costs.getD j 0 + n * b.getD j 0 := by
  by_cases h : j < p.costs.length
  · simp [lineL, List.getD, h]
  · have e1 : p.costs.getD j 0 = 0 := by simp [List.getD, List.getElem?_eq_none (Nat.le_of_not_lt h)]
    have e2 : b.getD j 0 = 0 := by simp [List.getD, List.getElem?_eq_none (show b.length ≤ j by omega)]
    have e3 : (lineL p b n d p.costs.length).getD j 0 = 0 := by simp [List.getD, List.getElem?_eq_none (show (lineL p b n d p.costs.length).length ≤ j by rw [lineL_len]; omega)]
    rw [e1, e2, e3]; simp
theorem lineL_small {p : PG} {b : List Int} {n d : Int} (hs : smallB 12 p.costs = true) (hbs : smallB 12 b = true) (hn : -16 ≤ n ∧ n ≤ 16) (hd : 1 ≤ d ∧ d ≤ 16) : smallB 400 (lineL p b n d p.costs.length) = true := by
  rw [smallB_iff]
  intro x hx
  simp only [lineL, List.mem_map, List.mem_range] at hx
  obtain ⟨i, _, rfl⟩ := hx
  have h1 := (smallB_getD (m := 12) (by omega)).1 hs i
  have h2 := (smallB_getD (m := 12) (by omega)).1 hbs i
  have m1 := mul_bound d (p.costs.getD i 0) 16 12 (by omega) hd.2 h1.1 h1.2
  have m2 := mul_bound n (b.getD i 0) 16 12 hn.1 hn.2 h2.1 h2.2
  omega
/-- The law. -/
theorem stays {p : PG} {l b : List Int} {n d : Int} (h0 : lookE p l = 0) (hb : b.length = p.costs.length) (hs : smallB 12 p.costs = true) (hbs : smallB 12 b = true) (hn : -16 ≤ n ∧ n ≤ 16) (hd : 1 ≤ d ∧ d ≤ 16) :
    (decide (costsE p l b = 0) && inB (costsF p l b) (costsT p l b) (frN n d) (ptD [n] d)) = nonpos (lookC (costsOf p (lineL p b n d p.costs.length)) l).gs := by
  have hbs4 : smallB 400 b = true := smallB_iff.2 fun x hx => by have := smallB_mem hbs hx; omega
  have hmb : manyB b p.costs.length 400 = true := manyB_iff.2 ⟨hbs4, hb⟩
  have hE : costsE p l b = endsE (costsN p l b) := by unfold costsE; rw [if_neg (by simp [h0]), if_neg (by simp [hmb])]
  have hF : costsF p l b = endsF (costsN p l b) := by unfold costsF; rw [if_neg (by simp [h0]), if_neg (by simp [hmb])]
  have hT : costsT p l b = endsT (costsN p l b) := by unfold costsT; rw [if_neg (by simp [h0]), if_neg (by simp [hmb])]
  obtain ⟨_, _, _, hc⟩ := look_corn h0
  obtain ⟨_, _, _, hd'⟩ := look_corn (costs_E hb hbs4 h0)
  have hll : (lineL p b n d p.costs.length).length = p.costs.length := lineL_len _ _ _ _ _
  obtain ⟨_, _, _, hk⟩ := look_corn (costs_E hll (lineL_small hs hbs hn hd) h0)
  have hp : ptE [n] d = 0 := pt_ok (by omega) (by omega) (by rw [smallB_one]; simp; omega) (by simp)
  obtain ⟨hpos, hcr⟩ := frac_pos hp
  have hok := (costs_up h0 hb hbs4 _ (Nat.le_refl _)).2
  have key := ends_in hok (n := frN n d) hpos
  have hin := of_in (f := fN 1 (lookC p l).gs (lookC (costsOf p b) l).gd) (g := fN 1 (lookC (costsOf p b) l).gs (lookC p l).gd) (n := frN n d) hpos (k := (lookC p l).gs.length) (fun j hj h => by
    rw [hc.lg] at hj
    have := span_made hb hc hd' j hj (by unfold gZ; intro e; apply h; unfold fN; rw [Int.one_mul]; exact e)
    unfold fN
    rw [Int.one_mul, Int.one_mul]
    exact this)
  have hsign : ∀ j, j < p.costs.length + p.rows.length → (fN 1 (lookC p l).gs (lookC (costsOf p b) l).gd j * ptD [n] d + frN n d * fN 1 (lookC (costsOf p b) l).gs (lookC p l).gd j ≤ 0 ↔
      (lookC (costsOf p (lineL p b n d p.costs.length)) l).gs.getD j 0 ≤ 0) := fun j hj => by
    have hg := gain_sign (n := n) (m := d) hb hll (lineL_at hb) hc hd' hk hj
    rw [← hg]
    unfold fN fZ gZ
    rw [Int.one_mul, Int.one_mul]
    generalize (lookC p l).gs.getD j 0 * (lookC (costsOf p b) l).gd = x
    generalize (lookC (costsOf p b) l).gs.getD j 0 * (lookC p l).gd = y
    generalize frN n d = tn at *
    generalize ptD [n] d = td at *
    -- tn * d = n * td
    have e1 : (x * td + tn * y) * d = (x * d + n * y) * td := by grind
    constructor
    · intro h
      have h1 : (x * td + tn * y) * d ≤ 0 := Int.mul_nonpos_of_nonpos_of_nonneg h (by omega)
      rw [e1] at h1
      by_cases q : x * d + n * y ≤ 0
      · exact q
      · have := Int.mul_pos (show 0 < x * d + n * y by omega) hpos; omega
    · intro h
      have h1 : (x * d + n * y) * td ≤ 0 := Int.mul_nonpos_of_nonpos_of_nonneg h (by omega)
      rw [← e1] at h1
      by_cases q : x * td + tn * y ≤ 0
      · exact q
      · have := Int.mul_pos (show 0 < x * td + tn * y by omega) (show 0 < d by omega); omega
  have hlk : (lookC (costsOf p (lineL p b n d p.costs.length)) l).gs.length = p.costs.length + p.rows.length := by rw [hk.lg]; show (lineL p b n d p.costs.length).length + p.rows.length = _; omega
  rw [hE, hF, hT, Bool.eq_iff_iff, nonpos_iff]
  unfold inB
  simp only [Bool.and_eq_true, Bool.or_eq_true, decide_eq_true_eq]
  rw [show costsN p l b = ofZ (fN 1 (lookC p l).gs (lookC (costsOf p b) l).gd) (fN 1 (lookC (costsOf p b) l).gs (lookC p l).gd) (lookC p l).gs.length from rfl]
  rw [key, hin, hlk]
  constructor
  · intro h j hj
    exact (hsign j hj).1 (h j (by rw [hc.lg]; exact hj))
  · intro h j hj
    rw [hc.lg] at hj
    exact (hsign j hj).2 (h j hj)
end Go.Proofs.Ytjcdkbalhleeeaa
