/-
  Plain laws of the determinant of up to four rows: no pivot, rows changed, rows for columns, Cramer's rule, bounds. No program in sight.
-/
import Derived.Test.YtjcdkbalhleeeaaDetS
namespace Go.Proofs.Ytjcdkbalhleeeaa

/-- The determinant of the first m rows and columns, and with one column in the place of another one. -/
def dtm (A : Nat → Nat → Int) (m : Nat) : Int := dt A (List.range m) (List.range m)
def dtp (A : Nat → Nat → Int) (m i j : Nat) : Int := dt A (List.range m) ((List.range m).set i j)

theorem lst_dtm (A : Nat → Nat → Int) (m : Nat) : lst A m = dtm A m := rfl
theorem ent_dtp (A : Nat → Nat → Int) {m i : Nat} (j : Nat) (h : i < m) : ent A m i j = dtp A m i j := by unfold ent; rw [if_pos h]; rfl

set_option maxHeartbeats 1000000 in
theorem no_pivot (A : Nat → Nat → Int) {m k : Nat} (hm : m ≤ 4) (hk : k < m) (hl : lst A k ≠ 0) (h : ∀ i, k ≤ i → i < m → ent A k i k = 0) : dtm A m = 0 := by
  unfold dtm
  rcases (show m = 1 ∨ m = 2 ∨ m = 3 ∨ m = 4 by omega) with rfl | rfl | rfl | rfl
  · obtain rfl : k = 0 := by omega
    have := h 0 (by omega) (by omega)
    simp [ent, dt1] at this
    rw [range1, dt1, this]
  · rcases (show k = 0 ∨ k = 1 by omega) with rfl | rfl
    · have h0 := h 0 (by omega) (by omega)
      have h1 := h 1 (by omega) (by omega)
      simp [ent, dt1] at h0 h1
      rw [range2, dt2, h0, h1]; simp
    · have h1 := h 1 (by omega) (by omega)
      simpa [ent, range2] using h1
  · rcases (show k = 0 ∨ k = 1 ∨ k = 2 by omega) with rfl | rfl | rfl
    · have h0 := h 0 (by omega) (by omega)
      have h1 := h 1 (by omega) (by omega)
      have h2 := h 2 (by omega) (by omega)
      simp [ent, dt1] at h0 h1 h2
      rw [range3, dt3, h0, h1, h2]; simp
    · have h1 := h 1 (by omega) (by omega)
      have h2 := h 2 (by omega) (by omega)
      simp [ent, lst, dt1, dt2] at h1 h2 hl
      have e : A 0 0 * dt A [0, 1, 2] [0, 1, 2] = (A 0 0 * A 1 1 - A 0 1 * A 1 0) * (A 0 0 * A 2 2 - A 0 2 * A 2 0) - (A 0 0 * A 2 1 - A 0 1 * A 2 0) * (A 0 0 * A 1 2 - A 0 2 * A 1 0) := by rw [dt3]; grind
      rw [h1, h2] at e
      simp at e
      rw [range3]
      rcases Int.mul_eq_zero.1 e with e | e
      · exact absurd e hl
      · exact e
    · have h2 := h 2 (by omega) (by omega)
      simpa [ent, range3, range2] using h2
  · rcases (show k = 0 ∨ k = 1 ∨ k = 2 ∨ k = 3 by omega) with rfl | rfl | rfl | rfl
    · have h0 := h 0 (by omega) (by omega)
      have h1 := h 1 (by omega) (by omega)
      have h2 := h 2 (by omega) (by omega)
      have h3 := h 3 (by omega) (by omega)
      simp [ent, dt1] at h0 h1 h2 h3
      rw [range4, dt4]
      simp only [dt3, h0, h1, h2, h3]
      grind
    · have h1 := h 1 (by omega) (by omega)
      have h2 := h 2 (by omega) (by omega)
      have h3 := h 3 (by omega) (by omega)
      simp [ent, lst, dt1, dt2] at h1 h2 h3 hl
      have e : A 0 0 * dt A [0, 1, 2, 3] [0, 1, 2, 3] =
          (A 0 0 * A 1 1 - A 0 1 * A 1 0) * dt A [0, 2, 3] [0, 2, 3] - (A 0 0 * A 2 1 - A 0 1 * A 2 0) * dt A [0, 1, 3] [0, 2, 3] + (A 0 0 * A 3 1 - A 0 1 * A 3 0) * dt A [0, 1, 2] [0, 2, 3] := by
        rw [dt4]; simp only [dt3]; grind
      rw [h1, h2, h3] at e
      simp at e
      rw [range4]
      rcases Int.mul_eq_zero.1 e with e | e
      · exact absurd e hl
      · exact e
    · have h2 := h 2 (by omega) (by omega)
      have h3 := h 3 (by omega) (by omega)
      simp [ent, lst, range2] at h2 h3 hl
      have e : dt A [0, 1] [0, 1] * dt A [0, 1, 2, 3] [0, 1, 2, 3] = dt A [0, 1, 2] [0, 1, 2] * dt A [0, 1, 3] [0, 1, 3] - dt A [0, 1, 3] [0, 1, 2] * dt A [0, 1, 2] [0, 1, 3] := by
        rw [dt4]; simp only [dt3, dt2]; grind
      rw [h2, h3] at e
      simp at e
      rw [range4]
      rcases Int.mul_eq_zero.1 e with e | e
      · exact absurd e hl
      · exact e
    · have h3 := h 3 (by omega) (by omega)
      simpa [ent, range3, range4] using h3

/-- Two rows changed. -/
def sw (k a i : Nat) : Nat := if i = k then a else if i = a then k else i
def swA (A : Nat → Nat → Int) (k a : Nat) : Nat → Nat → Int := fun i j => A (sw k a i) j

theorem dt_congr {A B : Nat → Nat → Int} : ∀ {rs : List Nat} (cs : List Nat), (∀ r ∈ rs, A r = B r) → dt A rs cs = dt B rs cs
  | [], _, _ => rfl
  | r :: rs, cs, h => by
    rw [dt, dt, h r (by simp)]
    have : dt A rs = dt B rs := funext fun cs => dt_congr cs fun r hr => h r (by simp [hr])
    rw [this]
theorem dtGo_ext {A : Nat → Int} {f g : List Nat → Int} (h : ∀ l, f l = g l) : ∀ (pre : List Nat) (s : Int) (cs : List Nat), dtGo A f pre s cs = dtGo A g pre s cs := by
  have : f = g := funext h
  subst this
  intros; rfl
theorem dt_rows {A : Nat → Nat → Int} {f : Nat → Nat} : ∀ {rs : List Nat} (cs : List Nat), dt (fun i j => A (f i) j) rs cs = dt A (rs.map f) cs
  | [], _ => rfl
  | r :: rs, cs => by
    rw [List.map_cons, dt, dt]
    exact dtGo_ext (fun l => dt_rows l) _ _ _
theorem ent_swap (A : Nat → Nat → Int) {k a i j : Nat} (ha : k ≤ a) (hi : k ≤ i) : ent (swA A k a) k i j = ent A k (sw k a i) j := by
  have hs : ¬ sw k a i < k := by unfold sw; split; omega; split <;> omega
  unfold ent
  rw [if_neg (by omega), if_neg hs]
  unfold swA
  rw [dt_rows, List.map_append]
  congr 1
  have : (List.range k).map (sw k a) = List.range k := by
    conv => rhs; rw [← List.map_id (List.range k)]
    apply List.map_congr_left
    intro x hx
    have : x < k := by simpa using hx
    unfold sw; simp; split; omega; split; omega; rfl
  rw [this]; rfl
theorem ent_swap_up (A : Nat → Nat → Int) {k a i j : Nat} (ha : k ≤ a) (hi : i < k) : ent (swA A k a) k i j = ent A k i j := by
  unfold ent
  rw [if_pos hi, if_pos hi]
  unfold swA
  rw [dt_rows]
  congr 1
  conv => rhs; rw [← List.map_id (List.range k)]
  apply List.map_congr_left
  intro x hx
  have : x < k := by simpa using hx
  unfold sw; simp; split; omega; split; omega; rfl
theorem lst_swap (A : Nat → Nat → Int) {k a : Nat} (ha : k ≤ a) : lst (swA A k a) k = lst A k := by
  unfold lst swA
  rw [dt_rows]
  congr 1
  conv => rhs; rw [← List.map_id (List.range k)]
  apply List.map_congr_left
  intro x hx
  have : x < k := by simpa using hx
  unfold sw; simp; split; omega; split; omega; rfl

theorem list_len2 {l : List Nat} (h : l.length = 2) : ∃ a b, l = [a, b] := by
  obtain _ | ⟨a, _ | ⟨b, _ | ⟨c, l⟩⟩⟩ := l <;> simp at h; exact ⟨a, b, rfl⟩
theorem list_len3 {l : List Nat} (h : l.length = 3) : ∃ a b c, l = [a, b, c] := by
  obtain _ | ⟨a, _ | ⟨b, _ | ⟨c, _ | ⟨d, l⟩⟩⟩⟩ := l <;> simp at h; exact ⟨a, b, c, rfl⟩
theorem list_len4 {l : List Nat} (h : l.length = 4) : ∃ a b c d, l = [a, b, c, d] := by
  obtain _ | ⟨a, _ | ⟨b, _ | ⟨c, _ | ⟨d, _ | ⟨e, l⟩⟩⟩⟩⟩ := l <;> simp at h; exact ⟨a, b, c, d, rfl⟩

set_option maxHeartbeats 1000000 in
theorem dt_swap (A : Nat → Nat → Int) {m k a : Nat} (hm : m ≤ 4) (hk : k < a) (ha : a < m) {cs : List Nat} (hc : cs.length = m) : dt (swA A k a) (List.range m) cs = -dt A (List.range m) cs := by
  unfold swA
  rw [dt_rows]
  rcases (show m = 2 ∨ m = 3 ∨ m = 4 by omega) with rfl | rfl | rfl
  · obtain ⟨c0, c1, rfl⟩ := list_len2 hc
    obtain ⟨rfl, rfl⟩ : k = 0 ∧ a = 1 := by omega
    simp [range2, sw, dt2]; grind
  · obtain ⟨c0, c1, c2, rfl⟩ := list_len3 hc
    rcases (show (k = 0 ∧ a = 1) ∨ (k = 0 ∧ a = 2) ∨ (k = 1 ∧ a = 2) by omega) with ⟨rfl, rfl⟩ | ⟨rfl, rfl⟩ | ⟨rfl, rfl⟩ <;> (simp [range3, sw, dt3]; grind)
  · obtain ⟨c0, c1, c2, c3, rfl⟩ := list_len4 hc
    rcases (show (k = 0 ∧ a = 1) ∨ (k = 0 ∧ a = 2) ∨ (k = 0 ∧ a = 3) ∨ (k = 1 ∧ a = 2) ∨ (k = 1 ∧ a = 3) ∨ (k = 2 ∧ a = 3) by omega) with ⟨rfl, rfl⟩ | ⟨rfl, rfl⟩ | ⟨rfl, rfl⟩ | ⟨rfl, rfl⟩ | ⟨rfl, rfl⟩ | ⟨rfl, rfl⟩ <;> (simp [range4, sw, dt4, dt3]; grind)

set_option maxHeartbeats 1000000 in
/-- Rows for columns. -/
theorem dt_flip (A : Nat → Nat → Int) {m : Nat} (hm : m ≤ 4) : dtm (fun i j => A j i) m = dtm A m := by
  unfold dtm
  rcases (show m = 0 ∨ m = 1 ∨ m = 2 ∨ m = 3 ∨ m = 4 by omega) with rfl | rfl | rfl | rfl | rfl
  · rfl
  · simp [dt1]
  · simp [range2, dt2]; grind
  · simp [range3, dt3]; grind
  · simp [range4, dt4, dt3]; grind

set_option maxHeartbeats 1000000 in
/-- Cramer's rule. -/
theorem cramer (A : Nat → Nat → Int) {m i : Nat} (j : Nat) (hm : m ≤ 4) (hi : i < m) : sumN (fun k => A i k * dtp A m k j) m = A i j * dtm A m := by
  unfold dtm dtp
  rcases (show m = 1 ∨ m = 2 ∨ m = 3 ∨ m = 4 by omega) with rfl | rfl | rfl | rfl
  · obtain rfl : i = 0 := by omega
    simp [sumN, dt1]; grind
  · rcases (show i = 0 ∨ i = 1 by omega) with rfl | rfl <;> (simp [sumN, range2, dt2]; grind)
  · rcases (show i = 0 ∨ i = 1 ∨ i = 2 by omega) with rfl | rfl | rfl <;> (simp [sumN, range3, dt3]; grind)
  · rcases (show i = 0 ∨ i = 1 ∨ i = 2 ∨ i = 3 by omega) with rfl | rfl | rfl | rfl <;> (simp [sumN, range4, dt4, dt3]; grind)
end Go.Proofs.Ytjcdkbalhleeeaa
