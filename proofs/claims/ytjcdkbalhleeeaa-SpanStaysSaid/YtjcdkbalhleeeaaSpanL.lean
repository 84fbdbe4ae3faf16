/-
  Plain laws of spans: what is divided is small enough, and gains go straight as costs grow. No program in sight.
-/
import Derived.Test.YtjcdkbalhleeeaaSpanS
import Derived.Test.YtjcdkbalhleeeaaCornL
namespace Go.Proofs.Ytjcdkbalhleeeaa

/-- A fraction that stands as small numbers do is one that may be. -/
theorem pt_like {n d a b : Int} (hd : d ≠ 0) (hb : b ≠ 0) (h : n * b = a * d) (hn : -4611686018427387904 ≤ n ∧ n ≤ 4611686018427387904) (hd2 : -4611686018427387904 ≤ d ∧ d ≤ 4611686018427387904)
    (ha : -1073741824 ≤ a ∧ a ≤ 1073741824) (hb2 : -1073741824 ≤ b ∧ b ≤ 1073741824) : ptE [n] d = 0 := by
  have hs : smallB 4611686018427387904 [n] = true := by rw [smallB_one]; simp; omega
  rw [ptE_of hd hs hd2, if_pos]
  have h1 := sgcd_sign (l := [n]) hd
  have h0 := sgcd_ne (l := [n]) hd
  obtain ⟨g1, g2⟩ := sgcd_dvd (l := [n]) (d := d)
  have e1 : sgcd [n] d * d.tdiv (sgcd [n] d) = d := Int.mul_tdiv_cancel' g1
  have e2 : sgcd [n] d * n.tdiv (sgcd [n] d) = n := Int.mul_tdiv_cancel' (g2 n (by simp))
  have hc := comm_divs [n] d hd
  have hc' : Nat.gcd (d.tdiv (sgcd [n] d)).natAbs (n.tdiv (sgcd [n] d)).natAbs = 1 := by simpa [comm, divs] using hc
  simp only [rightB, Bool.and_eq_true, decide_eq_true_eq, length_divs]
  simp only [divs, List.map_cons, List.map_nil, smallB_one, Bool.and_eq_true, decide_eq_true_eq, List.length_cons, List.length_nil]
  generalize sgcd [n] d = g at *
  generalize d.tdiv g = D at *
  generalize n.tdiv g = N at *
  have hND : N * b = a * D := by
    have : g * (N * b) = g * (a * D) := by
      rw [show g * (N * b) = g * N * b by ac_rfl, e2, h, ← e1]; ac_rfl
    exact Int.eq_of_mul_eq_mul_left h0 this
  have hDb : D.natAbs ∣ b.natAbs := by
    refine (Nat.Coprime.dvd_of_dvd_mul_left (show Nat.Coprime D.natAbs N.natAbs from hc') ?_)
    rw [← Int.natAbs_mul, hND, Int.natAbs_mul]
    exact Nat.dvd_mul_left _ _
  have hNa : N.natAbs ∣ a.natAbs := by
    refine (Nat.Coprime.dvd_of_dvd_mul_right (show Nat.Coprime N.natAbs D.natAbs from by rw [Nat.coprime_comm]; exact hc') ?_)
    rw [← Int.natAbs_mul, ← hND, Int.natAbs_mul]
    exact Nat.dvd_mul_right _ _
  have hD1 := Nat.le_of_dvd (by omega) hDb
  have hN1 : N.natAbs ≤ a.natAbs := by
    by_cases h : a = 0
    · subst h
      have : N * b = 0 := by rw [hND]; simp
      rcases Int.mul_eq_zero.1 this with q | q
      · subst q; simp
      · exact absurd q hb
    · exact Nat.le_of_dvd (by omega) hNa
  omega

/-- Two corners with one divisor: what the one is, by the other one, may be. -/
theorem span_pt {A B den gA gB u v dA dB : Int} (nA : gA ≠ 0) (nB : gB ≠ 0) (hA : A = gA * u) (hB : B = gB * v) (eA : den = gA * dA) (eB : den = gB * dB)
    (bA : -1073741824 ≤ A ∧ A ≤ 1073741824) (bB : -1073741824 ≤ B ∧ B ≤ 1073741824)
    (bu : -1073741824 ≤ u ∧ u ≤ 1073741824) (bv : -1073741824 ≤ v ∧ v ≤ 1073741824) (bdA : -1073741824 ≤ dA ∧ dA ≤ 1073741824) (bdB : -1073741824 ≤ dB ∧ dB ≤ 1073741824)
    (h : v * dA ≠ 0) : ptE [-(u * dB)] (v * dA) = 0 := by
  have m1 := mul_bound u dB 1073741824 1073741824 bu.1 bu.2 bdB.1 bdB.2
  have m2 := mul_bound v dA 1073741824 1073741824 bv.1 bv.2 bdA.1 bdA.2
  have hB0 : B ≠ 0 := fun e => by
    rw [e] at hB
    rcases Int.mul_eq_zero.1 hB.symm with q | q
    · exact nB q
    · rw [q] at h; simp at h
  refine pt_like (a := -A) (b := B) h hB0 ?_ (by omega) (by omega) (by omega) bB
  -- -(u dB) B = -A (v dA), by den
  have e : gA * gB * (u * dB * B) = gA * gB * (A * (v * dA)) := by
    calc gA * gB * (u * dB * B) = (gA * u) * (gB * dB) * B := by ac_rfl
      _ = A * den * B := by rw [← hA, ← eB]
      _ = A * (gA * dA) * (gB * v) := by rw [← eA, ← hB]
      _ = gA * gB * (A * (v * dA)) := by ac_rfl
  have hg : gA * gB ≠ 0 := fun q => by
    rcases Int.mul_eq_zero.1 q with q | q
    · exact nA q
    · exact nB q
  have := Int.eq_of_mul_eq_mul_left hg e
  rw [Int.neg_mul, Int.neg_mul, this]

/-! The last column, expanded. -/
def unitU (A : Nat → Nat → Int) (m i : Nat) (r c : Nat) : Int := if c < m then A r c else if r = i then 1 else 0
set_option maxHeartbeats 4000000 in
theorem dtp_expand (A : Nat → Nat → Int) {m k : Nat} (hm : m ≤ 4) (hk : k < m) : dtp A m k m = sumN (fun i => dtp (unitU A m i) m k m * A i m) m := by
  unfold dtp
  rcases (show m = 1 ∨ m = 2 ∨ m = 3 ∨ m = 4 by omega) with rfl | rfl | rfl | rfl
  · obtain rfl : k = 0 := by omega
    simp [sumN, dt1, unitU]
  · rcases (show k = 0 ∨ k = 1 by omega) with rfl | rfl <;> (simp [sumN, range2, dt2, unitU]; try grind)
  · rcases (show k = 0 ∨ k = 1 ∨ k = 2 by omega) with rfl | rfl | rfl <;> (simp [sumN, range3, dt3, unitU]; try grind)
  · rcases (show k = 0 ∨ k = 1 ∨ k = 2 ∨ k = 3 by omega) with rfl | rfl | rfl | rfl <;> (simp [sumN, range4, dt4, dt3, unitU]; try grind)

/-! Other costs, same rows. -/
def costsOf (p : PG) (by_ : List Int) : PG := ⟨by_, p.rows⟩
section
variable {p : PG} {b : List Int} {l : List Nat}
theorem costs_has (h : b.length = p.costs.length) (i j : Nat) : hasZ (costsOf p b) i j = hasZ p i j := by unfold hasZ costsOf; simp only [h]
theorem costs_right (h : b.length = p.costs.length) (hr : RightL p l) : RightL (costsOf p b) l := ⟨hr.len, fun j hj => by have := hr.lt j hj; show j < b.length + p.rows.length; omega, hr.pw⟩
theorem costs_den (h : b.length = p.costs.length) : denZ (costsOf p b) l = denZ p l := by
  unfold denZ
  have e : matD (costsOf p b) l = matD p l := by
    funext i j; unfold matD; rw [costs_has h]; rfl
  rw [e]; rfl
theorem costs_may (h : b.length = p.costs.length) (hp : mayPB p = true) (hs : smallB 400 b = true) : mayPB (costsOf p b) = true := by
  obtain ⟨h1, h2, h3, h4, h5, h6⟩ := mayPB_iff.1 hp
  exact mayPB_iff.2 ⟨by show 1 ≤ b.length; omega, by show b.length ≤ 4; omega, h3, h4, hs, by show p.rows.all (rowB b.length) = true; rw [h]; exact h6⟩
theorem costs_E (h : b.length = p.costs.length) (hs : smallB 400 b = true) {at_ : List Int} (he : lookE p at_ = 0) : lookE (costsOf p b) at_ = 0 := by
  unfold lookE at he ⊢
  split at he
  · omega
  rename_i h1
  split at he
  · omega
  rename_i h2
  split at he
  · omega
  rename_i h3
  rw [if_neg (by rw [costs_may h (by simpa using h1) hs]; simp), if_neg, if_neg (by rw [costs_den h]; exact h3)]
  have : rightA (costsOf p b) at_ = rightA p at_ := by unfold rightA costsOf; simp only [h]
  rw [this]; exact h2
/-- What a row is worth, off the columns' worths. -/
theorem yk_sum (hr : RightL p l) (h4 : p.rows.length ≤ 4) {k : Nat} (hk : k < p.rows.length) : yk p l k = sumN (fun i => dtp (unitU (fun i j => hasZ p j (l.getD i 0)) p.rows.length i) p.rows.length k p.rows.length * costZ p (l.getD i 0)) p.rows.length := by
  unfold yk
  rw [dtp_expand _ h4 hk]
  refine sumN_congr fun i hi => ?_
  have e : matU p l i p.rows.length = costZ p (l.getD i 0) := by unfold matU; rw [if_neg (by rw [hr.len]; omega)]
  rw [e]
  congr 1
  unfold dtp
  refine dt_congr2 fun r _ c _ => ?_
  unfold unitU
  by_cases hc : c < p.rows.length
  · rw [if_pos hc, if_pos hc]; unfold matU; rw [if_pos (by rw [hr.len]; exact hc)]
  · rw [if_neg hc, if_neg hc]
/-- Gains go straight with the costs. -/
theorem gain_line {e : List Int} {d n : Int} (hr : RightL p l) (h4 : p.rows.length ≤ 4) (hb : b.length = p.costs.length) (he : e.length = p.costs.length)
    (hz : ∀ j, e.getD j 0 = d * p.costs.getD j 0 + n * b.getD j 0) (j : Nat) :
    gk (costsOf p e) l j p.rows.length = d * gk p l j p.rows.length + n * gk (costsOf p b) l j p.rows.length := by
  have hc : ∀ j, costZ (costsOf p e) j = d * costZ p j + n * costZ (costsOf p b) j := by
    intro j
    unfold costZ costsOf
    simp only [hb, he]
    by_cases h : j < p.costs.length
    · rw [if_pos h, if_pos h, if_pos h, hz j]
    · rw [if_neg h, if_neg h, if_neg h]; simp
  have hy : ∀ i, i < p.rows.length → yk (costsOf p e) l i = d * yk p l i + n * yk (costsOf p b) l i := by
    intro i hi
    have Y : ∀ b' : List Int, b'.length = p.costs.length → yk (costsOf p b') l i = sumN (fun q => dtp (unitU (fun i j => hasZ p j (l.getD i 0)) p.rows.length q) p.rows.length i p.rows.length * costZ (costsOf p b') (l.getD q 0)) p.rows.length := by
      intro b' hb'
      have := yk_sum (costs_right hb' hr) h4 hi
      rw [show (fun i j => hasZ (costsOf p b') j (l.getD i 0)) = (fun i j => hasZ p j (l.getD i 0)) by funext i j; rw [costs_has hb']] at this
      exact this
    rw [Y e he, Y b hb, yk_sum hr h4 hi, ← sumN_mul, ← sumN_mul, ← sumN_add]
    refine sumN_congr fun q _ => ?_
    rw [hc]; grind
  unfold gk
  rw [costs_den he, costs_den hb, hc]
  have : sumN (fun i => yk (costsOf p e) l i * hasZ (costsOf p e) i j) p.rows.length = d * sumN (fun i => yk p l i * hasZ p i j) p.rows.length + n * sumN (fun i => yk (costsOf p b) l i * hasZ (costsOf p b) i j) p.rows.length := by
    rw [← sumN_mul, ← sumN_mul, ← sumN_add]
    refine sumN_congr fun i hi => ?_
    rw [hy i hi, costs_has he, costs_has hb]; grind
  rw [this]; grind
end
end Go.Proofs.Ytjcdkbalhleeeaa
