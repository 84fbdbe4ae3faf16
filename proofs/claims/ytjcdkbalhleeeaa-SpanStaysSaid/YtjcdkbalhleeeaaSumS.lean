/-
  Plain words: sums of whole numbers, and what lists come to, each number times another one. No program in sight.
-/
import Derived.Test.YtjcdkbalhleeeaaPrfS
namespace Go.Proofs.Ytjcdkbalhleeeaa

/-- The sum of f 0 .. f (n-1). -/
def sumN (f : Nat → Int) : Nat → Int
  | 0 => 0
  | n + 1 => sumN f n + f n

theorem sumN_congr {f g : Nat → Int} : ∀ {n : Nat}, (∀ i, i < n → f i = g i) → sumN f n = sumN g n
  | 0, _ => rfl
  | n + 1, h => by rw [sumN, sumN, sumN_congr fun i hi => h i (by omega), h n (by omega)]
theorem sumN_le {f g : Nat → Int} : ∀ {n : Nat}, (∀ i, i < n → f i ≤ g i) → sumN f n ≤ sumN g n
  | 0, _ => by simp [sumN]
  | n + 1, h => by
    rw [sumN, sumN]
    have := sumN_le (n := n) fun i hi => h i (by omega)
    have := h n (by omega)
    omega
theorem sumN_add {f g : Nat → Int} : ∀ {n : Nat}, sumN (fun i => f i + g i) n = sumN f n + sumN g n
  | 0 => rfl
  | n + 1 => by rw [sumN, sumN, sumN, sumN_add]; omega
theorem sumN_mul {f : Nat → Int} {c : Int} : ∀ {n : Nat}, sumN (fun i => c * f i) n = c * sumN f n
  | 0 => by simp [sumN]
  | n + 1 => by rw [sumN, sumN, sumN_mul, Int.mul_add]
theorem sumN_mul' {f : Nat → Int} {c : Int} : ∀ {n : Nat}, sumN (fun i => f i * c) n = sumN f n * c
  | 0 => by simp [sumN]
  | n + 1 => by rw [sumN, sumN, sumN_mul', Int.add_mul]
theorem sumN_zero : ∀ {n : Nat}, sumN (fun _ => 0) n = 0
  | 0 => rfl
  | n + 1 => by rw [sumN, sumN_zero]; rfl
theorem sumN_neg {f : Nat → Int} : ∀ {n : Nat}, sumN (fun i => -f i) n = -sumN f n
  | 0 => rfl
  | n + 1 => by rw [sumN, sumN, sumN_neg]; omega
theorem sumN_sub {f g : Nat → Int} : ∀ {n : Nat}, sumN (fun i => f i - g i) n = sumN f n - sumN g n
  | 0 => rfl
  | n + 1 => by rw [sumN, sumN, sumN, sumN_sub]; omega
theorem sumN_comm {f : Nat → Nat → Int} {m : Nat} : ∀ {n : Nat}, sumN (fun i => sumN (fun j => f i j) m) n = sumN (fun j => sumN (fun i => f i j) n) m
  | 0 => by simp only [sumN]; exact sumN_zero.symm
  | n + 1 => by simp only [sumN]; rw [sumN_comm, sumN_add]
theorem sumN_split {f : Nat → Int} {a : Nat} : ∀ {b : Nat}, sumN f (a + b) = sumN f a + sumN (fun i => f (a + i)) b
  | 0 => by simp [sumN]
  | b + 1 => by rw [← Nat.add_assoc, sumN, sumN, sumN_split]; omega

theorem dot_sum {a b : List Int} {n : Nat} (ha : a.length = n) (hb : b.length = n) : dot a b = sumN (fun k => a.getD k 0 * b.getD k 0) n := by
  have h : ∀ k, k ≤ n → dot (a.take k) b = sumN (fun k => a.getD k 0 * b.getD k 0) k := by
    intro k
    induction k with
    | zero => intro _; simp [dot, sumN]
    | succ k ih =>
      intro hk
      have h1 : k < a.length := by omega
      have h2 : k < b.length := by omega
      rw [dot_take h1 h2, ih (by omega), sumN]
      simp [List.getD, List.getElem?_eq_getElem h1, List.getElem?_eq_getElem h2]
  have := h n (Nat.le_refl _)
  rwa [List.take_of_length_le (by omega)] at this
theorem getD_map_range {f : Nat → Int} {n k : Nat} (h : k < n) : ((List.range n).map f).getD k 0 = f k := by
  simp [List.getD, h]
theorem nonneg_at {l : List Int} (h : nonneg l = true) (k : Nat) : 0 ≤ l.getD k 0 := by
  unfold nonneg at h
  rw [List.all_eq_true] at h
  by_cases hk : k < l.length
  · have := h l[k] (List.getElem_mem hk)
    simpa [List.getD, List.getElem?_eq_getElem hk] using this
  · simp [List.getD, List.getElem?_eq_none (Nat.le_of_not_lt hk)]
theorem getD_mosts {p : PG} {i : Nat} : (mosts p).getD i 0 = (p.rows.getD i ([], 0)).2 := by
  unfold mosts
  by_cases h : i < p.rows.length
  · simp [List.getD, List.getElem?_eq_getElem h]
  · simp [List.getD, List.getElem?_eq_none (Nat.le_of_not_lt h)]
/-- What the variables have in a row, as a sum. -/
theorem dot_row {p : PG} {i : Nat} (hp : mayPB p = true) (hi : i < p.rows.length) {x : List Int} (hx : x.length = p.costs.length) :
    dot (p.rows[i]).1 x = sumN (fun j => hasZ p i j * x.getD j 0) p.costs.length := by
  obtain ⟨h1, _, _⟩ := mayPB_row hp hi
  rw [dot_sum h1 hx]
  exact sumN_congr fun j hj => by rw [hasZ_var hi hj]
theorem dot_col {p : PG} {j : Nat} {y : List Int} (hy : y.length = p.rows.length) :
    dot (colZ p j) y = sumN (fun i => hasZ p i j * y.getD i 0) p.rows.length := by
  rw [dot_sum (length_colZ p j) hy]
  exact sumN_congr fun i hi => by unfold colZ; rw [getD_map_range hi]
end Go.Proofs.Ytjcdkbalhleeeaa
