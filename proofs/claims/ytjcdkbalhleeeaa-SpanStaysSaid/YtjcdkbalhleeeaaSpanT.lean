/-
  Plain law for SpanStays: within what the program tells, and there alone, the corner is best. No program in sight.
-/
import Derived.Test.YtjcdkbalhleeeaaSpanL
namespace Go.Proofs.Ytjcdkbalhleeeaa

/-- The span of two corners with one divisor: what narrows it. -/
def fZ (c d : CO) (j : Nat) : Int := c.gs.getD j 0 * d.gd
def gZ (c d : CO) (j : Nat) : Int := d.gs.getD j 0 * c.gd
section
variable {p : PG} {b e : List Int} {l : List Nat} {c d k : CO} {g1 g2 g3 g4 g5 g6 g7 g8 g9 : Int}
theorem span_made (hb : b.length = p.costs.length) (hc : Corn p l c g1 g2 g3) (hd : Corn (costsOf p b) l d g4 g5 g6) (j : Nat) (hj : j < p.costs.length + p.rows.length) (h : gZ c d j ≠ 0) : ptE [-(fZ c d j)] (gZ c d j) = 0 := by
  have h1 := mayB_parts hc.mg
  have h2 := mayB_parts hd.mg
  have b1 := (smallB_getD (l := c.gs) (m := 1073741824) (by omega)).1 h1.2.2.1 j
  have b2 := (smallB_getD (l := d.gs) (m := 1073741824) (by omega)).1 h2.2.2.1 j
  have e1 := hc.g j
  have e2 := hd.g j
  rw [gall_at hj] at e1
  rw [gall_at (show j < (costsOf p b).costs.length + (costsOf p b).rows.length by show j < b.length + p.rows.length; omega)] at e2
  have k1 := gk_bound hc.hp hc.hr.len j (Nat.le_refl _)
  have k2 := gk_bound hd.hp hd.hr.len j (Nat.le_refl _)
  have dd : denZ p l = g6 * d.gd := by rw [← costs_den hb]; exact hd.dg
  exact span_pt (A := gk p l j p.rows.length) (B := gk (costsOf p b) l j (costsOf p b).rows.length) hc.ng hd.ng e1 e2 hc.dg dd (by omega) (by omega) b1 b2 (by omega) (by omega) h
/-- The sign of a gain along the line. -/
theorem gain_sign {n m : Int} (hb : b.length = p.costs.length) (he : e.length = p.costs.length) (hz : ∀ j, e.getD j 0 = m * p.costs.getD j 0 + n * b.getD j 0)
    (hc : Corn p l c g1 g2 g3) (hd : Corn (costsOf p b) l d g4 g5 g6) (hk : Corn (costsOf p e) l k g7 g8 g9) {j : Nat} (hj : j < p.costs.length + p.rows.length) :
    fZ c d j * m + n * gZ c d j ≤ 0 ↔ k.gs.getD j 0 ≤ 0 := by
  have e1 := hc.g j
  have e2 := hd.g j
  have e3 := hk.g j
  rw [gall_at hj] at e1
  rw [gall_at (show j < (costsOf p b).costs.length + (costsOf p b).rows.length by show j < b.length + p.rows.length; omega)] at e2
  rw [gall_at (show j < (costsOf p e).costs.length + (costsOf p e).rows.length by show j < e.length + p.rows.length; omega)] at e3
  have hl := gain_line hc.hr hc.rows4 hb he hz j
  have d2 : denZ p l = g6 * d.gd := by rw [← costs_den hb]; exact hd.dg
  have d3 : denZ p l = g9 * k.gd := by rw [← costs_den he]; exact hk.dg
  have d1 := hc.dg
  rw [show (costsOf p b).rows = p.rows from rfl] at e2
  rw [show (costsOf p e).rows = p.rows from rfl] at e3
  rw [e1, e2, e3] at hl
  have p1 := hc.pg
  have p2 := hd.pg
  have p3 := hk.pg
  have hden := hc.hd
  unfold fZ gZ
  generalize c.gs.getD j 0 = x at *
  generalize d.gs.getD j 0 = y at *
  generalize k.gs.getD j 0 = z at *
  generalize c.gd = u at *
  generalize d.gd = v at *
  generalize k.gd = t at *
  generalize denZ p l = D at *
  -- g9 z = m (g3 x) + n (g6 y); D = g3 u = g6 v = g9 t
  have key : (x * v * m + n * (y * u)) * (D * t) = z * (D * u * v) := by
    have a1 : (x * v * m + n * (y * u)) * (D * t) = D * t * v * m * x + D * t * u * n * y := by grind
    have a2 : t * (g9 * z) = t * (m * (g3 * x) + n * (g6 * y)) := by rw [hl]
    have a3 : D * z = t * m * g3 * x + t * n * g6 * y := by rw [d3]; grind
    have a4 : z * (D * u * v) = u * v * (t * m * g3 * x + t * n * g6 * y) := by rw [← a3]; ac_rfl
    rw [a1, a4]
    have a5 : u * v * (t * m * g3 * x) = D * t * v * m * x := by rw [d1]; ac_rfl
    have a6 : u * v * (t * n * g6 * y) = D * t * u * n * y := by rw [d2]; ac_rfl
    rw [Int.mul_add, a5, a6]
  have key2 : (x * v * m + n * (y * u)) * t = z * (u * v) := by
    refine Int.eq_of_mul_eq_mul_left hden ?_
    rw [show D * ((x * v * m + n * (y * u)) * t) = (x * v * m + n * (y * u)) * (D * t) by ac_rfl, key]; ac_rfl
  have huv := Int.mul_pos p1 p2
  generalize x * v * m + n * (y * u) = L at *
  generalize u * v = Q at *
  constructor
  · intro h
    have h1 : L * t ≤ 0 := Int.mul_nonpos_of_nonpos_of_nonneg h (by omega)
    rw [key2] at h1
    by_cases q : z ≤ 0
    · exact q
    · have := Int.mul_pos (show 0 < z by omega) huv; omega
  · intro h
    have h1 : z * Q ≤ 0 := Int.mul_nonpos_of_nonpos_of_nonneg h (by omega)
    rw [← key2] at h1
    by_cases q : L ≤ 0
    · exact q
    · have := Int.mul_pos (show 0 < L by omega) p3; omega
end
end Go.Proofs.Ytjcdkbalhleeeaa
