/-
  Plain words for chapter 2: programs as lists, which may be, what a point is worth. No program in sight.
-/
import Derived.Test.YtjcdkbalhleeeaaFracS
namespace Go.Proofs.Ytjcdkbalhleeeaa

/-- A linear program: costs, and rows (what the variables have, and what they may be at most). -/
structure PG where
  costs : List Int
  rows : List (List Int × Int)

/-- May a row be, of n variables? -/
def rowB (n : Nat) (r : List Int × Int) : Bool := decide (r.1.length = n) && (smallB 12 [r.2] && smallB 12 r.1)
/-- May a program be? -/
def mayPB (p : PG) : Bool :=
  decide (1 ≤ p.costs.length) && (decide (p.costs.length ≤ 4) && (decide (1 ≤ p.rows.length) && (decide (p.rows.length ≤ 4) && (smallB 400 p.costs && p.rows.all (rowB p.costs.length)))))
/-- Numbers, each times another one, together. -/
def dot : List Int → List Int → Int
  | x :: a, y :: b => x * y + dot a b
  | _, _ => 0
/-- May a program be, and a point with so many numbers? -/
def fitsB (p : PG) (x : List Int) (d : Int) : Bool := mayPB p && (mayB x d && decide (x.length = p.costs.length))
/-- Are all numbers 0 or above? -/
def nonneg (l : List Int) : Bool := l.all fun n => decide (0 ≤ n)
/-- Does a point go? -/
def goesB (p : PG) (x : List Int) (d : Int) : Bool := fitsB p x d && (nonneg x && p.rows.all fun r => decide (dot r.1 x ≤ r.2 * d))

/-- What a point is worth: num, den, error. -/
def worN (p : PG) (x : List Int) (d : Int) : Int := if fitsB p x d then frN (dot p.costs x) d else 0
def worD (p : PG) (x : List Int) (d : Int) : Int := if fitsB p x d then ptD [dot p.costs x] d else 0
def worE (p : PG) (x : List Int) (d : Int) : Int := if fitsB p x d then ptE [dot p.costs x] d else 2

theorem dot_take {a b : List Int} {k : Nat} (h : k < a.length) (h' : k < b.length) : dot (a.take (k + 1)) b = dot (a.take k) b + a[k] * b[k] := by
  induction a generalizing b k with
  | nil => simp at h
  | cons x a ih =>
    cases b with
    | nil => simp at h'
    | cons y b =>
      cases k with
      | zero => simp [dot]
      | succ k =>
        simp only [List.take_succ_cons, dot, List.getElem_cons_succ]
        rw [ih (by simpa using h) (by simpa using h')]
        omega
theorem dot_bound {A B : Int} {a b : List Int} (ha : smallB A a = true) (hb : smallB B b = true) (hA : 0 ≤ A) (hB : 0 ≤ B) : -(a.length * (A * B)) ≤ dot a b ∧ dot a b ≤ a.length * (A * B) := by
  have hAB : 0 ≤ A * B := Int.mul_nonneg hA hB
  induction a generalizing b with
  | nil => simp [dot]
  | cons x a ih =>
    cases b with
    | nil =>
      have : (0 : Int) ≤ ((x :: a).length : Int) * (A * B) := Int.mul_nonneg (by omega) hAB
      simp only [dot]; omega
    | cons y b =>
      simp only [dot]
      have hx := smallB_mem ha (n := x) (by simp)
      have hy := smallB_mem hb (n := y) (by simp)
      have h1 := mul_bound x y A B hx.1 hx.2 hy.1 hy.2
      have h2 := ih (b := b) (smallB_iff.2 fun n hn => smallB_mem ha (by simp [hn])) (smallB_iff.2 fun n hn => smallB_mem hb (by simp [hn]))
      have e : ((x :: a).length : Int) * (A * B) = (a.length : Int) * (A * B) + A * B := by
        rw [List.length_cons, Int.natCast_add, Int.add_mul]; simp
      rw [e]
      omega
theorem dot_take_bound {A B : Int} {a b : List Int} (ha : smallB A a = true) (hb : smallB B b = true) (hA : 0 ≤ A) (hB : 0 ≤ B) (k : Nat) : -(a.length * (A * B)) ≤ dot (a.take k) b ∧ dot (a.take k) b ≤ a.length * (A * B) := by
  have h := dot_bound (a := a.take k) (b := b) (A := A) (B := B) (smallB_iff.2 fun n hn => smallB_mem ha (List.mem_of_mem_take hn)) hb hA hB
  have hl : ((a.take k).length : Int) * (A * B) ≤ (a.length : Int) * (A * B) :=
    Int.mul_le_mul_of_nonneg_right (by have := List.length_take_le' k a; omega) (Int.mul_nonneg hA hB)
  omega
theorem all_take {α : Type} {f : α → Bool} {l : List α} {k : Nat} (h : k < l.length) : (l.take (k + 1)).all f = ((l.take k).all f && f l[k]) := by
  rw [List.take_succ_eq_append_getElem h, List.all_append]; simp
theorem all_false {α : Type} {f : α → Bool} {l : List α} {k : Nat} (h : k < l.length) (hn : f l[k] = false) : l.all f = false := by
  rw [List.all_eq_false]; exact ⟨l[k], List.getElem_mem h, by simpa using hn⟩

theorem mayPB_iff {p : PG} : mayPB p = true ↔ 1 ≤ p.costs.length ∧ p.costs.length ≤ 4 ∧ 1 ≤ p.rows.length ∧ p.rows.length ≤ 4 ∧ smallB 400 p.costs = true ∧ p.rows.all (rowB p.costs.length) = true := by
  unfold mayPB; simp only [Bool.and_eq_true, decide_eq_true_eq]
theorem mayPB_row {p : PG} (h : mayPB p = true) {k : Nat} (hk : k < p.rows.length) : p.rows[k].1.length = p.costs.length ∧ (-12 ≤ p.rows[k].2 ∧ p.rows[k].2 ≤ 12) ∧ smallB 12 p.rows[k].1 = true := by
  have h6 := (mayPB_iff.1 h).2.2.2.2.2
  rw [List.all_eq_true] at h6
  have := h6 _ (List.getElem_mem hk)
  unfold rowB at this
  simp only [Bool.and_eq_true, decide_eq_true_eq, smallB_one] at this
  exact ⟨this.1, this.2.1, this.2.2⟩
theorem fitsB_iff {p : PG} {x : List Int} {d : Int} : fitsB p x d = true ↔ mayPB p = true ∧ mayB x d = true ∧ x.length = p.costs.length := by
  unfold fitsB; simp only [Bool.and_eq_true, decide_eq_true_eq]
theorem mayB_parts {l : List Int} {d : Int} (h : mayB l d = true) : 1 ≤ d ∧ d ≤ 1073741824 ∧ smallB 1073741824 l = true ∧ l.length ≤ 8 := by
  simp only [mayB, rightB, Bool.and_eq_true, decide_eq_true_eq] at h
  exact ⟨h.1.1, h.1.2.1, h.1.2.2.1, h.1.2.2.2⟩
end Go.Proofs.Ytjcdkbalhleeeaa
