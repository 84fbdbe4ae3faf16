/-
  Plain words and laws of linear programs, put together: no program in sight. No condition.
-/
import Derived.Lib.ItoaNum
import Derived.Lib.ParseIntB
import Derived.Lib.Join
import Derived.Lib.SplitLaws
/-
  Plain words for chapter 1: what the functions on fractions and points compute, as plain functions on lists of whole numbers. No program in sight; no condition.
-/
namespace Go.Proofs.YtjcdkbalhleeeabDoor

/-- Are all numbers from -m to m? -/
def smallB (m : Int) (l : List Int) : Bool := l.all fun n => decide (-m ≤ n) && decide (n ≤ m)
/-- The greatest number that divides den and all of l. -/
def comm (g : Nat) (l : List Int) : Nat := l.foldl (fun g n => Nat.gcd g n.natAbs) g
/-- Parts within their limits. -/
def rightB (l : List Int) (d : Int) : Bool := decide (1 ≤ d) && (decide (d ≤ 1073741824) && (smallB 1073741824 l && decide (l.length ≤ 8)))
/-- May a point be? -/
def mayB (l : List Int) (d : Int) : Bool := rightB l d && decide (comm d.natAbs l = 1)
/-- The divisor with den's sign. -/
def sgcd (l : List Int) (d : Int) : Int := if d < 0 then -(comm d.natAbs l : Int) else comm d.natAbs l
def divs (l : List Int) (g : Int) : List Int := l.map fun n => n.tdiv g
/-- A point's making: the error (0: none). -/
def ptE (l : List Int) (d : Int) : Int :=
  if d = 0 ∨ smallB 4611686018427387904 l = false ∨ smallB 4611686018427387904 [d] = false then 3
  else if rightB (divs l (sgcd l d)) (d.tdiv (sgcd l d)) then 0 else 1
def ptN (l : List Int) (d : Int) : List Int := if ptE l d = 0 then divs l (sgcd l d) else []
def ptD (l : List Int) (d : Int) : Int := if ptE l d = 0 then d.tdiv (sgcd l d) else 0
def frN (n d : Int) : Int := (ptN [n] d).headD 0
def lessB (a b c d : Int) : Bool := mayB [a] b && (mayB [c] d && decide (a * d < c * b))

theorem smallB_nil (m : Int) : smallB m [] = true := rfl
theorem smallB_take {m : Int} {l : List Int} {k : Nat} (h : k < l.length) : smallB m (l.take (k + 1)) = (smallB m (l.take k) && (decide (-m ≤ l[k]) && decide (l[k] ≤ m))) := by
  unfold smallB; rw [List.take_succ_eq_append_getElem h, List.all_append]; simp
theorem smallB_false {m : Int} {l : List Int} {k : Nat} (h : k < l.length) (hn : (decide (-m ≤ l[k]) && decide (l[k] ≤ m)) = false) : smallB m l = false := by
  unfold smallB; rw [List.all_eq_false]; exact ⟨l[k], List.getElem_mem h, by simpa using hn⟩
theorem smallB_at {m : Int} {l : List Int} (hs : smallB m l = true) {k : Nat} (h : k < l.length) : -m ≤ l[k] ∧ l[k] ≤ m := by
  unfold smallB at hs; rw [List.all_eq_true] at hs
  simpa using hs l[k] (List.getElem_mem h)
theorem smallB_mem {m : Int} {l : List Int} (hs : smallB m l = true) {n : Int} (h : n ∈ l) : -m ≤ n ∧ n ≤ m := by
  unfold smallB at hs; rw [List.all_eq_true] at hs
  simpa using hs n h
theorem smallB_iff {m : Int} {l : List Int} : smallB m l = true ↔ ∀ n ∈ l, -m ≤ n ∧ n ≤ m := by
  unfold smallB; rw [List.all_eq_true]; simp
theorem smallB_one (m d : Int) : smallB m [d] = (decide (-m ≤ d) && decide (d ≤ m)) := by simp [smallB]

theorem comm_take (g : Nat) {l : List Int} {k : Nat} (h : k < l.length) : comm g (l.take (k + 1)) = Nat.gcd (comm g (l.take k)) l[k].natAbs := by
  unfold comm; rw [List.take_succ_eq_append_getElem h, List.foldl_append]; rfl
theorem comm_cons (g : Nat) (n : Int) (l : List Int) : comm g (n :: l) = comm (Nat.gcd g n.natAbs) l := rfl
theorem comm_dvd (g : Nat) (l : List Int) : comm g l ∣ g ∧ ∀ n ∈ l, (comm g l : Int) ∣ n := by
  induction l generalizing g with
  | nil => exact ⟨Nat.dvd_refl _, by simp⟩
  | cons n l ih =>
    rw [comm_cons]
    obtain ⟨h1, h2⟩ := ih (Nat.gcd g n.natAbs)
    refine ⟨Nat.dvd_trans h1 (Nat.gcd_dvd_left _ _), ?_⟩
    intro x hx
    rcases List.mem_cons.1 hx with rfl | hx
    · exact Int.ofNat_dvd_left.2 (Nat.dvd_trans h1 (Nat.gcd_dvd_right _ _))
    · exact h2 x hx
theorem comm_great (g : Nat) (l : List Int) (d : Nat) (hg : d ∣ g) (hl : ∀ n ∈ l, (d : Int) ∣ n) : d ∣ comm g l := by
  induction l generalizing g with
  | nil => exact hg
  | cons n l ih =>
    rw [comm_cons]
    exact ih _ (Nat.dvd_gcd hg (Int.ofNat_dvd_left.1 (hl n (by simp)))) fun x hx => hl x (by simp [hx])
theorem comm_pos (g : Nat) (l : List Int) (hg : 0 < g) : 0 < comm g l :=
  Nat.pos_of_dvd_of_pos (comm_dvd g l).1 hg
theorem comm_le (g : Nat) (l : List Int) (hg : 0 < g) : comm g l ≤ g := Nat.le_of_dvd hg (comm_dvd g l).1
theorem comm_bound (g B : Nat) (l : List Int) (hg : g ≤ B) (hl : ∀ n ∈ l, n.natAbs ≤ B) : comm g l ≤ B := by
  induction l generalizing g with
  | nil => exact hg
  | cons n l ih =>
    rw [comm_cons]
    refine ih _ ?_ fun x hx => hl x (by simp [hx])
    rcases Nat.eq_zero_or_pos g with rfl | h0
    · rw [Nat.gcd_zero_left]; exact hl n (by simp)
    · exact Nat.le_trans (Nat.gcd_le_left _ h0) hg
/-- What is left when all are divided has nothing in common. -/
theorem comm_divs (l : List Int) (d : Int) (hd : d ≠ 0) : comm (d.tdiv (sgcd l d)).natAbs (divs l (sgcd l d)) = 1 := by
  have hp : 0 < d.natAbs := Int.natAbs_pos.2 hd
  have hg : 0 < comm d.natAbs l := comm_pos _ _ hp
  obtain ⟨h1, h2⟩ := comm_dvd d.natAbs l
  have hs : (sgcd l d).natAbs = comm d.natAbs l := by unfold sgcd; split <;> simp
  have hsd : (sgcd l d) ∣ d := by rw [← Int.natAbs_dvd_natAbs, hs]; exact h1
  have hsl : ∀ n ∈ l, sgcd l d ∣ n := fun n hn => by
    have := h2 n hn
    rw [Int.ofNat_dvd_left] at this
    rw [← Int.natAbs_dvd_natAbs, hs]; exact this
  have hs0 : sgcd l d ≠ 0 := fun h => by rw [h] at hs; simp at hs; omega
  generalize hk : comm (d.tdiv (sgcd l d)).natAbs (divs l (sgcd l d)) = k
  have hkd := comm_dvd (d.tdiv (sgcd l d)).natAbs (divs l (sgcd l d))
  rw [hk] at hkd
  have hdvd : ∀ x : Int, sgcd l d ∣ x → (k : Int) ∣ x.tdiv (sgcd l d) → ((k * comm d.natAbs l : Nat) : Int) ∣ x := by
    intro x hx hkx
    obtain ⟨y, rfl⟩ := hx
    rw [Int.mul_tdiv_cancel_left _ hs0] at hkx
    obtain ⟨z, rfl⟩ := hkx
    rw [← Int.natAbs_dvd_natAbs]
    refine ⟨z.natAbs, ?_⟩
    rw [Int.natAbs_mul, Int.natAbs_mul, hs, Int.natAbs_natCast, Int.natAbs_natCast]
    ac_rfl
  have hgreat : k * comm d.natAbs l ∣ comm d.natAbs l := by
    refine comm_great _ _ _ ?_ ?_
    · have := hdvd d hsd (Int.ofNat_dvd_left.2 hkd.1)
      rw [Int.ofNat_dvd_left] at this
      exact this
    · intro n hn
      exact hdvd n (hsl n hn) (hkd.2 _ (by unfold divs; exact List.mem_map_of_mem hn))
  have := Nat.le_of_dvd hg hgreat
  have hk0 : k ≠ 0 := by
    intro h
    subst h
    rw [Nat.zero_mul] at hgreat
    have := Nat.eq_zero_of_zero_dvd hgreat
    omega
  have : k * comm d.natAbs l ≤ 1 * comm d.natAbs l := by omega
  have := Nat.le_of_mul_le_mul_right this hg
  omega
theorem divs_neg (l : List Int) (g : Int) : divs l (-g) = (divs l g).map fun n => -n := by
  unfold divs; rw [List.map_map]; apply List.map_congr_left; intro n _; simp [Int.tdiv_neg]
theorem length_divs (l : List Int) (g : Int) : (divs l g).length = l.length := by simp [divs]
theorem sgcd_ne {l : List Int} {d : Int} (hd : d ≠ 0) : sgcd l d ≠ 0 := by
  have := comm_pos d.natAbs l (Int.natAbs_pos.2 hd)
  unfold sgcd; split <;> omega
theorem sgcd_bound {l : List Int} {d : Int} (h : -4611686018427387904 ≤ d) (h' : d ≤ 4611686018427387904) (hd : d ≠ 0) : -4611686018427387904 ≤ sgcd l d ∧ sgcd l d ≤ 4611686018427387904 := by
  have := comm_le d.natAbs l (Int.natAbs_pos.2 hd)
  unfold sgcd; split <;> omega
theorem mul_bound (a b A B : Int) (h1 : -A ≤ a) (h2 : a ≤ A) (h3 : -B ≤ b) (h4 : b ≤ B) : -(A * B) ≤ a * b ∧ a * b ≤ A * B := by
  have h : (a * b).natAbs ≤ A.natAbs * B.natAbs := by
    rw [Int.natAbs_mul]; exact Nat.mul_le_mul (by omega) (by omega)
  have hA : (0 : Int) ≤ A := by omega
  have hB : (0 : Int) ≤ B := by omega
  have e : (A.natAbs * B.natAbs : Nat) = (A * B).natAbs := (Int.natAbs_mul A B).symm
  have hp : 0 ≤ A * B := Int.mul_nonneg hA hB
  rw [e] at h
  omega
theorem tdiv_bound (B : Int) (n g : Int) (h : -B ≤ n) (h' : n ≤ B) : -B ≤ n.tdiv g ∧ n.tdiv g ≤ B := by
  have := Int.natAbs_tdiv_le_natAbs n g
  omega
theorem divs_take {l : List Int} {g : Int} {k : Nat} (h : k < l.length) : divs (l.take (k + 1)) g = divs (l.take k) g ++ [l[k].tdiv g] := by
  unfold divs; rw [List.take_succ_eq_append_getElem h, List.map_append]; rfl
end Go.Proofs.YtjcdkbalhleeeabDoor

/-
  Plain words for chapter 2: programs as lists, which may be, what a point is worth. No program in sight.
-/
namespace Go.Proofs.YtjcdkbalhleeeabDoor

/-- A linear program: costs, and rows (what the variables have, and what they may be at most). -/
structure PG where
  costs : List Int
  rows : List (List Int × Int)

/-- May a row be, of n variables? -/
def rowB (n : Nat) (r : List Int × Int) : Bool := decide (r.1.length = n) && (smallB 12 [r.2] && smallB 12 r.1)
/-- May a program be? -/
def mayPB (p : PG) : Bool :=
  decide (1 ≤ p.costs.length) && (decide (p.costs.length ≤ 4) && (decide (1 ≤ p.rows.length) && (decide (p.rows.length ≤ 4) && (smallB 400 p.costs && p.rows.all (rowB p.costs.length)))))
/-- Numbers, each times another one, together. -/
def dot : List Int → List Int → Int
  | x :: a, y :: b => x * y + dot a b
  | _, _ => 0
/-- May a program be, and a point with so many numbers? -/
def fitsB (p : PG) (x : List Int) (d : Int) : Bool := mayPB p && (mayB x d && decide (x.length = p.costs.length))
/-- Are all numbers 0 or above? -/
def nonneg (l : List Int) : Bool := l.all fun n => decide (0 ≤ n)
/-- Does a point go? -/
def goesB (p : PG) (x : List Int) (d : Int) : Bool := fitsB p x d && (nonneg x && p.rows.all fun r => decide (dot r.1 x ≤ r.2 * d))

/-- What a point is worth: num, den, error. -/
def worN (p : PG) (x : List Int) (d : Int) : Int := if fitsB p x d then frN (dot p.costs x) d else 0
def worD (p : PG) (x : List Int) (d : Int) : Int := if fitsB p x d then ptD [dot p.costs x] d else 0
def worE (p : PG) (x : List Int) (d : Int) : Int := if fitsB p x d then ptE [dot p.costs x] d else 2

theorem dot_take {a b : List Int} {k : Nat} (h : k < a.length) (h' : k < b.length) : dot (a.take (k + 1)) b = dot (a.take k) b + a[k] * b[k] := by
  induction a generalizing b k with
  | nil => simp at h
  | cons x a ih =>
    cases b with
    | nil => simp at h'
    | cons y b =>
      cases k with
      | zero => simp [dot]
      | succ k =>
        simp only [List.take_succ_cons, dot, List.getElem_cons_succ]
        rw [ih (by simpa using h) (by simpa using h')]
        omega
theorem dot_bound {A B : Int} {a b : List Int} (ha : smallB A a = true) (hb : smallB B b = true) (hA : 0 ≤ A) (hB : 0 ≤ B) : -(a.length * (A * B)) ≤ dot a b ∧ dot a b ≤ a.length * (A * B) := by
  have hAB : 0 ≤ A * B := Int.mul_nonneg hA hB
  induction a generalizing b with
  | nil => simp [dot]
  | cons x a ih =>
    cases b with
    | nil =>
      have : (0 : Int) ≤ ((x :: a).length : Int) * (A * B) := Int.mul_nonneg (by omega) hAB
      simp only [dot]; omega
    | cons y b =>
      simp only [dot]
      have hx := smallB_mem ha (n := x) (by simp)
      have hy := smallB_mem hb (n := y) (by simp)
      have h1 := mul_bound x y A B hx.1 hx.2 hy.1 hy.2
      have h2 := ih (b := b) (smallB_iff.2 fun n hn => smallB_mem ha (by simp [hn])) (smallB_iff.2 fun n hn => smallB_mem hb (by simp [hn]))
      have e : ((x :: a).length : Int) * (A * B) = (a.length : Int) * (A * B) + A * B := by
        rw [List.length_cons, Int.natCast_add, Int.add_mul]; simp
      rw [e]
      omega
theorem dot_take_bound {A B : Int} {a b : List Int} (ha : smallB A a = true) (hb : smallB B b = true) (hA : 0 ≤ A) (hB : 0 ≤ B) (k : Nat) : -(a.length * (A * B)) ≤ dot (a.take k) b ∧ dot (a.take k) b ≤ a.length * (A * B) := by
  have h := dot_bound (a := a.take k) (b := b) (A := A) (B := B) (smallB_iff.2 fun n hn => smallB_mem ha (List.mem_of_mem_take hn)) hb hA hB
  have hl : ((a.take k).length : Int) * (A * B) ≤ (a.length : Int) * (A * B) :=
    Int.mul_le_mul_of_nonneg_right (by have := List.length_take_le' k a; omega) (Int.mul_nonneg hA hB)
  omega
theorem all_take {α : Type} {f : α → Bool} {l : List α} {k : Nat} (h : k < l.length) : (l.take (k + 1)).all f = ((l.take k).all f && f l[k]) := by
  rw [List.take_succ_eq_append_getElem h, List.all_append]; simp
theorem all_false {α : Type} {f : α → Bool} {l : List α} {k : Nat} (h : k < l.length) (hn : f l[k] = false) : l.all f = false := by
  rw [List.all_eq_false]; exact ⟨l[k], List.getElem_mem h, by simpa using hn⟩

theorem mayPB_iff {p : PG} : mayPB p = true ↔ 1 ≤ p.costs.length ∧ p.costs.length ≤ 4 ∧ 1 ≤ p.rows.length ∧ p.rows.length ≤ 4 ∧ smallB 400 p.costs = true ∧ p.rows.all (rowB p.costs.length) = true := by
  unfold mayPB; simp only [Bool.and_eq_true, decide_eq_true_eq]
theorem mayPB_row {p : PG} (h : mayPB p = true) {k : Nat} (hk : k < p.rows.length) : p.rows[k].1.length = p.costs.length ∧ (-12 ≤ p.rows[k].2 ∧ p.rows[k].2 ≤ 12) ∧ smallB 12 p.rows[k].1 = true := by
  have h6 := (mayPB_iff.1 h).2.2.2.2.2
  rw [List.all_eq_true] at h6
  have := h6 _ (List.getElem_mem hk)
  unfold rowB at this
  simp only [Bool.and_eq_true, decide_eq_true_eq, smallB_one] at this
  exact ⟨this.1, this.2.1, this.2.2⟩
theorem fitsB_iff {p : PG} {x : List Int} {d : Int} : fitsB p x d = true ↔ mayPB p = true ∧ mayB x d = true ∧ x.length = p.costs.length := by
  unfold fitsB; simp only [Bool.and_eq_true, decide_eq_true_eq]
theorem mayB_parts {l : List Int} {d : Int} (h : mayB l d = true) : 1 ≤ d ∧ d ≤ 1073741824 ∧ smallB 1073741824 l = true ∧ l.length ≤ 8 := by
  simp only [mayB, rightB, Bool.and_eq_true, decide_eq_true_eq] at h
  exact ⟨h.1.1, h.1.2.1, h.1.2.2.1, h.1.2.2.2⟩
end Go.Proofs.YtjcdkbalhleeeabDoor

/-
  Plain words for chapter 9: numbers as text, a text's parts, a program's text, and the program of a text. No program in sight.
-/
namespace Go.Proofs.YtjcdkbalhleeeabDoor
open Go.Lib

/-- A text's parts between bytes c. -/
def cutB (c : UInt8) : List UInt8 → List (List UInt8)
  | [] => [[]]
  | b :: l => if b = c then [] :: cutB c l else (b :: (cutB c l).headD []) :: (cutB c l).tail

theorem cutB_ne (c : UInt8) (s : List UInt8) : cutB c s ≠ [] := by
  cases s with
  | nil => simp [cutB]
  | cons b l => rw [cutB]; split <;> simp
theorem cutB_length (c : UInt8) (s : List UInt8) : (cutB c s).length = s.count c + 1 := by
  induction s with
  | nil => simp [cutB]
  | cons b l ih =>
    rw [cutB]
    have h0 := cutB_ne c l
    have h1 : 0 < (cutB c l).length := List.length_pos_iff.2 h0
    split
    · next e => subst e; simp [ih]
    · next e => simp [e, ih]
theorem cutB_none {c : UInt8} {s : List UInt8} (h : c ∉ s) : cutB c s = [s] := by
  induction s with
  | nil => rfl
  | cons b l ih =>
    rw [cutB, if_neg (by intro e; exact h (by simp [e])), ih (by intro e; exact h (by simp [e]))]; rfl
theorem cutB_hit {c : UInt8} {a : List UInt8} (h : c ∉ a) (r : List UInt8) : cutB c (a ++ c :: r) = a :: cutB c r := by
  induction a with
  | nil => simp [cutB]
  | cons b l ih =>
    rw [List.cons_append, cutB, if_neg (by intro e; exact h (by simp [e])), ih (by intro e; exact h (by simp [e]))]; rfl
/-- One byte more at the end. -/
theorem cutB_snoc (c : UInt8) (s : List UInt8) (b : UInt8) : cutB c (s ++ [b]) = if b = c then cutB c s ++ [[]] else (cutB c s).dropLast ++ [(cutB c s).getLastD [] ++ [b]] := by
  induction s with
  | nil => by_cases e : b = c <;> simp [cutB, e]
  | cons x l ih =>
    rw [List.cons_append, cutB, cutB, ih]
    obtain ⟨h, t, ht⟩ := List.exists_cons_of_ne_nil (cutB_ne c l)
    rw [ht]
    by_cases e : b = c
    · by_cases e' : x = c <;> simp [e, e']
    · by_cases e' : x = c
      · simp [e, e']
      · cases t with
        | nil => simp [e, e']
        | cons y t => simp [e, e']
theorem join_cons2 (x y : List UInt8) (r : List (List UInt8)) (sep : List UInt8) : join (x :: y :: r) sep = x ++ sep ++ join (y :: r) sep := by
  rw [join_cons, join_cons]; simp [joinTail]
/-- The parts, joined again. -/
theorem join_cutB (c : UInt8) (s : List UInt8) : join (cutB c s) [c] = s := by
  induction s with
  | nil => simp [cutB, join_one]
  | cons b l ih =>
    rw [cutB]
    obtain ⟨h, t, ht⟩ := List.exists_cons_of_ne_nil (cutB_ne c l)
    rw [ht] at ih ⊢
    split
    · next e => rw [join_cons2, ih]; simp [e]
    · next e =>
      cases t with
      | nil => simp [join_one] at ih ⊢; exact ih
      | cons y t => rw [join_cons2] at ih; simp only [List.headD_cons, List.tail_cons]; rw [join_cons2, ← ih]; simp
/-- Parts without the byte, joined, are cut again. -/
theorem cutB_join {c : UInt8} : ∀ {l : List (List UInt8)}, l ≠ [] → (∀ x ∈ l, c ∉ x) → cutB c (join l [c]) = l
  | [], h, _ => absurd rfl h
  | [x], _, h => by rw [join_one]; exact cutB_none (h x (by simp))
  | x :: y :: r, _, h => by
    rw [join_cons2, List.append_assoc, List.singleton_append, cutB_hit (h x (by simp)), cutB_join (by simp) (fun z hz => h z (by simp [hz]))]

/-- The library's Split at one byte. -/
theorem splitK_cut (c : UInt8) : ∀ (n : Nat) (s : List UInt8), s.length ≤ n → splitK [c] 0 (s.count c) s = cutB c s := by
  intro n
  induction n with
  | zero => intro s h; have : s = [] := List.length_eq_zero_iff.1 (by omega); subst this; rfl
  | succ n ih =>
    intro s h
    by_cases hc : c ∈ s
    · obtain ⟨a, r, e, hn⟩ := List.eq_append_cons_of_mem hc
      rw [e, List.count_append, List.count_eq_zero_of_not_mem hn, List.count_cons_self, Nat.zero_add, splitK]
      have hi : index (a ++ c :: r) [c] = a.length := by
        refine index_first (by simp) (by simp [occAt]) ?_
        intro j hj
        rw [occAt]
        rw [List.drop_append_of_le_length (by omega)]
        have hd : a.drop j = a[j] :: a.drop (j + 1) := List.drop_eq_getElem_cons hj
        have : a[j] ≠ c := fun e => hn (e ▸ List.getElem_mem hj)
        rw [hd, List.cons_append, List.isPrefixOf, beq_eq_false_iff_ne.2 (Ne.symm this), Bool.false_and]
      rw [hi, if_neg (by simp), cutB_hit hn]
      simp only [Int.toNat_natCast, Nat.add_zero, List.length_singleton]
      rw [List.take_left, show (a ++ c :: r).drop (a.length + 1) = r by simp [List.drop_append], ih r (by rw [e] at h; simp at h; omega)]
    · rw [List.count_eq_zero_of_not_mem hc, cutB_none hc]; rfl

/-- A number's digits, with n ahead of them. -/
def digs : Nat → List UInt8 → Option Nat
  | n, [] => some n
  | n, c :: r => if 48 ≤ c.toNat ∧ c.toNat ≤ 57 then digs (10 * n + (c.toNat - 48)) r else none
/-- The text without its sign. -/
def bare (s : List UInt8) : List UInt8 := if s.head? = some 45 then s.tail else s
/-- Is its form no number's? -/
def odd (s : List UInt8) : Bool := decide ((bare s).length < 1 ∨ 6 < (bare s).length ∨ ((bare s).head? = some 48 ∧ (1 < (bare s).length ∨ s.head? = some 45)))
/-- The number of a text, as the document says it. -/
def numR (s : List UInt8) : Option Int :=
  if odd s = true then none else (digs 0 (bare s)).map (fun (n : Nat) => if s.head? = some 45 then -(n : Int) else (n : Int))
/-- The number of a text, as the program finds it. -/
def numP (s : List UInt8) : Option Int :=
  match parseIntB 64 s with
  | .ok n => if -999999 ≤ n ∧ n ≤ 999999 ∧ itoa n = s then some n else none
  | _ => none

theorem byte_eq {c : UInt8} (h : 48 ≤ c.toNat) (h' : c.toNat ≤ 57) : UInt8.ofNat (48 + (c.toNat - 48)) = c := by
  have : 48 + (c.toNat - 48) = c.toNat := by omega
  rw [this]; simp
theorem dec_step {a d : Nat} (ha : 0 < a) (hd : d < 10) : decDigits (10 * a + d) = decDigits a ++ [UInt8.ofNat (48 + d)] := by
  rw [decDigits, dif_neg (by omega), show (10 * a + d) / 10 = a by omega, show (10 * a + d) % 10 = d by omega]
theorem digs_dec : ∀ {t : List UInt8} {a n : Nat}, 0 < a → digs a t = some n → decDigits n = decDigits a ++ t ∧ a ≤ n
  | [], a, n, _, h => by simp [digs] at h; subst h; simp
  | c :: r, a, n, ha, h => by
    rw [digs] at h
    split at h
    · next hc =>
      have := digs_dec (a := 10 * a + (c.toNat - 48)) (by omega) h
      rw [dec_step ha (by omega), byte_eq hc.1 hc.2] at this
      exact ⟨by rw [this.1]; simp, by omega⟩
    · exact absurd h (by simp)
theorem digs_le : ∀ {t : List UInt8} {a n : Nat}, digs a t = some n → a ≤ n
  | [], a, n, h => by simp [digs] at h; omega
  | c :: r, a, n, h => by
    rw [digs] at h
    split at h
    · have := digs_le h; omega
    · exact absurd h (by simp)
theorem digs_pow : ∀ {t : List UInt8} {a n : Nat}, digs a t = some n → n < (a + 1) * 10 ^ t.length
  | [], a, n, h => by simp [digs] at h; simp; omega
  | c :: r, a, n, h => by
    rw [digs] at h
    split at h
    · have := digs_pow h
      have h1 : (10 * a + (c.toNat - 48) + 1) * 10 ^ r.length ≤ (10 * (a + 1)) * 10 ^ r.length := Nat.mul_le_mul_right _ (by omega)
      rw [List.length_cons, Nat.pow_succ]
      calc n < _ := this
        _ ≤ _ := h1
        _ = _ := by rw [Nat.mul_comm 10 (a + 1), Nat.mul_assoc, Nat.mul_comm 10]
    · exact absurd h (by simp)
theorem digs_parse {M : Nat} (hM : M ≤ 18446744073709551615) : ∀ {t : List UInt8} {a n : Nat}, digs a t = some n → n ≤ M → parseUintM M a t = .ok n
  | [], a, n, h, _ => by simp [digs] at h; rw [parseUintM, h]
  | c :: r, a, n, h, hn => by
    rw [digs] at h
    split at h
    · next hc =>
      have := digs_le h
      rw [parseUintM, if_pos hc, if_neg (by omega), if_neg (by omega), Nat.mul_comm a]
      exact digs_parse hM h hn
    · exact absurd h (by simp)
theorem digs_self (u : Nat) : ∀ (r : List UInt8), digs 0 (decDigits u ++ r) = digs u r := by
  induction u using Nat.strongRecOn with
  | ind u ih =>
    intro r
    rw [decDigits]
    split
    · next h =>
      have e : (UInt8.ofNat (48 + u)).toNat = 48 + u := by simp; omega
      rw [List.singleton_append, digs, if_pos (by omega), e]; congr 1; omega
    · next h =>
      have e : (UInt8.ofNat (48 + u % 10)).toNat = 48 + u % 10 := by simp; omega
      rw [List.append_assoc, ih (u / 10) (by omega), List.singleton_append, digs, if_pos (by omega), e]; congr 1; omega
theorem dec_head {u : Nat} (h : 0 < u) : ∃ c r, decDigits u = c :: r ∧ c ≠ 48 ∧ c ≠ 45 := by
  induction u using Nat.strongRecOn with
  | ind u ih =>
    rw [decDigits]
    split
    · next h' =>
      refine ⟨_, _, rfl, ?_, ?_⟩
      · intro e; have := congrArg UInt8.toNat e; simp at this; omega
      · intro e; have := congrArg UInt8.toNat e; simp at this; omega
    · next h' =>
      obtain ⟨c, r, e, h1, h2⟩ := ih (u / 10) (by omega) (by omega)
      exact ⟨c, r ++ _, by rw [e]; rfl, h1, h2⟩
theorem dec_bytes (u : Nat) : ∀ c ∈ decDigits u, 48 ≤ c.toNat ∧ c.toNat ≤ 57 := by
  induction u using Nat.strongRecOn with
  | ind u ih =>
    rw [decDigits]
    split
    · intro c hc; simp at hc; subst hc; simp; omega
    · intro c hc
      rw [List.mem_append] at hc
      rcases hc with hc | hc
      · exact ih _ (by omega) c hc
      · simp at hc; subst hc; simp; omega
theorem dec_len {u : Nat} (h : u ≤ 999999) : (decDigits u).length ≤ 6 ∧ 1 ≤ (decDigits u).length := by
  rw [decDigits_length]
  refine ⟨?_, nDigits_pos u⟩
  by_cases h1 : u < 10
  · rw [nDigits_small h1]; omega
  rw [nDigits_big h1]
  by_cases h2 : u / 10 < 10
  · rw [nDigits_small h2]; omega
  rw [nDigits_big h2]
  by_cases h3 : u / 10 / 10 < 10
  · rw [nDigits_small h3]; omega
  rw [nDigits_big h3]
  by_cases h4 : u / 10 / 10 / 10 < 10
  · rw [nDigits_small h4]; omega
  rw [nDigits_big h4]
  by_cases h5 : u / 10 / 10 / 10 / 10 < 10
  · rw [nDigits_small h5]; omega
  rw [nDigits_big h5, nDigits_small (by omega)]; omega

theorem itoa_neg {v : Int} (h : v < 0) : itoa v = 45 :: decDigits v.natAbs := by rw [itoa, if_pos h]
theorem itoa_pos {v : Int} (h : ¬ v < 0) : itoa v = decDigits v.toNat := by rw [itoa, if_neg h]

/-- The document's number of a number's text is it. -/
theorem numR_itoa {v : Int} (h : -999999 ≤ v) (h' : v ≤ 999999) : numR (itoa v) = some v := by
  by_cases hv : v < 0
  · rw [itoa_neg hv]
    obtain ⟨c, r, e, h1, h2⟩ := dec_head (u := v.natAbs) (by omega)
    have hl := dec_len (u := v.natAbs) (by omega)
    have hd := digs_self v.natAbs []
    rw [List.append_nil] at hd
    have ho : odd (45 :: decDigits v.natAbs) = false := by
      simp only [odd, bare, List.head?_cons, if_pos, List.tail_cons, decide_eq_false_iff_not]
      rw [e] at hl ⊢
      simp at hl ⊢
      exact ⟨by omega, h1⟩
    rw [numR, ho, if_neg (by simp), bare]
    simp only [List.head?_cons, if_pos, List.tail_cons, hd, digs]
    simp; omega
  · rw [itoa_pos hv]
    have hl := dec_len (u := v.toNat) (by omega)
    have hd := digs_self v.toNat []
    rw [List.append_nil] at hd
    have hh : (decDigits v.toNat).head? ≠ some 45 := by
      intro e
      obtain ⟨c, r, e'⟩ := List.exists_cons_of_ne_nil (l := decDigits v.toNat) (by intro e0; rw [e0] at hl; simp at hl)
      rw [e'] at e
      have := dec_bytes v.toNat 45 (by rw [e']; simp at e; simp [e])
      simp at this
    have hb : bare (decDigits v.toNat) = decDigits v.toNat := by rw [bare, if_neg hh]
    have ho : odd (decDigits v.toNat) = false := by
      simp only [odd, hb, decide_eq_false_iff_not]
      intro h3
      rcases h3 with h3 | h3 | ⟨h3, h4⟩
      · omega
      · omega
      · rcases h4 with h4 | h4
        · by_cases h0 : v.toNat = 0
          · rw [h0, decDigits_one (by omega)] at h4; simp at h4
          · obtain ⟨c, r, e, h5, _⟩ := dec_head (u := v.toNat) (by omega)
            rw [e] at h3; simp at h3; exact h5 h3
        · exact hh h4
    rw [numR, ho, if_neg (by simp), hb, hd]
    simp [digs, hh]; omega
/-- What the document reads as a number is a number's text, and the library reads it. -/
theorem numR_some {s : List UInt8} {v : Int} (h : numR s = some v) : itoa v = s ∧ -999999 ≤ v ∧ v ≤ 999999 ∧ parseIntB 64 s = .ok v := by
  unfold numR at h
  split at h
  · exact absurd h (by simp)
  next ho =>
  simp only [odd, decide_eq_true_eq] at ho
  rw [Option.map_eq_some_iff] at h
  obtain ⟨n, hn, hv⟩ := h
  have hp := digs_pow hn
  have h6 : 10 ^ (bare s).length ≤ 10 ^ 6 := Nat.pow_le_pow_right (by omega) (by omega)
  have hnn : n ≤ 999999 := by omega
  have hdec : decDigits n = bare s := by
    cases hb : bare s with
    | nil => rw [hb] at ho; simp at ho
    | cons c r =>
      rw [hb] at hn ho
      rw [digs] at hn
      split at hn
      · next hc =>
        by_cases h0 : c = 48
        · subst h0
          have : r = [] := by
            cases r with
            | nil => rfl
            | cons _ _ => simp at ho
          subst this
          simp [digs] at hn; subst hn
          rw [decDigits_one (by omega)]; rfl
        · have hc0 : c.toNat ≠ 48 := fun e => h0 (by have := byte_eq hc.1 hc.2; rw [e] at this; simpa using this.symm)
          have := (digs_dec (by omega) hn).1
          rw [this, Nat.mul_zero, Nat.zero_add, decDigits_one (by omega), byte_eq hc.1 hc.2]; rfl
      · exact absurd hn (by simp)
  have hM : (18446744073709551615 : Nat) = 2 ^ 64 - 1 := by decide
  have hpar : parseUintB 64 (bare s) = .ok n := by
    unfold parseUintB
    rw [if_neg (by intro e; rw [e] at ho; simp at ho)]
    exact digs_parse (M := 2 ^ 64 - 1) (by decide) hn (by omega)
  by_cases hs : s.head? = some 45
  · rw [if_pos hs] at hv
    cases s with
    | nil => simp at hs
    | cons c r =>
      simp at hs; subst hs
      have hb : bare (45 :: r) = r := by simp [bare]
      rw [hb] at hdec hpar ho
      have hn0 : 0 < n := by
        rcases Nat.eq_zero_or_pos n with e | e
        · subst e; rw [decDigits_one (by omega)] at hdec; rw [← hdec] at ho; simp at ho
        · exact e
      refine ⟨?_, by omega, by omega, ?_⟩
      · rw [← hv, itoa_neg (by omega), show (-(n : Int)).natAbs = n by omega, hdec]
      · simp only [parseIntB]
        simp [hpar, ← hv]; omega
  · rw [if_neg hs] at hv
    have hb : bare s = s := by rw [bare, if_neg hs]
    rw [hb] at hdec hpar ho
    refine ⟨?_, by omega, by omega, ?_⟩
    · rw [← hv, itoa_pos (by omega), show (n : Int).toNat = n by omega, hdec]
    · cases s with
      | nil => simp at ho
      | cons c r =>
        have hc := dec_bytes n c (by rw [hdec]; simp)
        simp only [parseIntB]
        rw [if_neg (by omega), hpar]
        simp only []
        rw [if_neg (by omega), if_neg (by omega), if_neg (by omega), hv]
/-- The program finds the document's number. -/
theorem numP_eq (s : List UInt8) : numP s = numR s := by
  cases h : numR s with
  | some v =>
    obtain ⟨h1, h2, h3, h4⟩ := numR_some h
    rw [numP, h4]; simp only []; rw [if_pos ⟨h2, h3, h1⟩]
  | none =>
    unfold numP
    split
    · next n hn =>
      split
      · next hc => rw [← hc.2.2, numR_itoa hc.1 hc.2.1] at h; exact absurd h (by simp)
      · rfl
    · rfl
end Go.Proofs.YtjcdkbalhleeeabDoor

/-
  Plain: a program's text, and what is read of a text, under chapter 9's words: a program's text is read as it, and a text that is a program's is its text. No program in sight.
-/
namespace Go.Proofs.YtjcdkbalhleeeabDoor
open Go.Lib

def mostW : List UInt8 := [109, 111, 115, 116]
def leW : List UInt8 := [60, 61]
/-- The first line, and a row's, as the document writes them. -/
def costT (cs : List Int) : List UInt8 := mostW ++ (cs.map fun n => 32 :: itoa n).flatten ++ [10]
def rowT (r : List Int × Int) : List UInt8 := (r.1.map fun n => itoa n ++ [32]).flatten ++ (leW ++ 32 :: itoa r.2) ++ [10]
/-- A program's text. -/
def textF (p : PG) : List UInt8 := costT p.costs ++ (p.rows.map rowT).flatten
/-- The first line, and a row's, as the program joins them. -/
def costL (cs : List Int) : List UInt8 := join (mostW :: cs.map itoa) [32]
def rowL (r : List Int × Int) : List UInt8 := join (r.1.map itoa ++ [leW, itoa r.2]) [32]

theorem costT_eq (cs : List Int) : costT cs = costL cs ++ [10] := by
  rw [costT, costL, join_cons, joinTail, List.map_map]; rfl
theorem rowT_eq (r : List Int × Int) : rowT r = rowL r ++ [10] := by
  rw [rowT, rowL]
  congr 1
  obtain ⟨l, m⟩ := r
  induction l with
  | nil => simp [join_cons2, join_one]
  | cons n l ih =>
    simp only [List.map_cons, List.flatten_cons, List.cons_append] at ih ⊢
    obtain ⟨x, y, e⟩ := List.exists_cons_of_ne_nil (l := l.map itoa ++ [leW, itoa m]) (by simp)
    rw [List.append_assoc, ih, e, join_cons2]
theorem itoa_bytes (v : Int) : ∀ c ∈ itoa v, c = 45 ∨ (48 ≤ c.toNat ∧ c.toNat ≤ 57) := by
  intro c hc
  by_cases h : v < 0
  · rw [itoa_neg h] at hc
    simp at hc
    rcases hc with hc | hc
    · exact Or.inl hc
    · exact Or.inr (dec_bytes _ c hc)
  · rw [itoa_pos h] at hc; exact Or.inr (dec_bytes _ c hc)
theorem itoa_not {v : Int} {c : UInt8} (h : c ≠ 45) (h' : c.toNat < 48) : c ∉ itoa v := fun hc => by
  rcases itoa_bytes v c hc with e | e
  · exact h e
  · omega

/-- The numbers of words. -/
def numsR : List (List UInt8) → Option (List Int)
  | [] => some []
  | w :: l => (numR w).bind fun n => (numsR l).map (n :: ·)
theorem numsR_snoc (l : List (List UInt8)) (w : List UInt8) : numsR (l ++ [w]) = (numsR l).bind fun v => (numR w).map fun n => v ++ [n] := by
  induction l with
  | nil => simp [numsR]; cases numR w <;> rfl
  | cons x l ih =>
    rw [List.cons_append, numsR, numsR, ih]
    cases numR x <;> cases numsR l <;> cases numR w <;> rfl
theorem numsR_none {l : List (List UInt8)} {k : Nat} (hk : k < l.length) (h : numR l[k] = none) : numsR l = none := by
  induction l generalizing k with
  | nil => simp at hk
  | cons x l ih =>
    rw [numsR]
    cases k with
    | zero => simp only [List.getElem_cons_zero] at h; rw [h]; rfl
    | succ k =>
      rw [ih (k := k) (by simpa using hk) (by simpa using h)]; cases numR x <;> rfl
theorem numsR_take {l : List (List UInt8)} {k : Nat} (hk : k < l.length) {v : List Int} {n : Int} (h : numsR (l.take k) = some v) (hn : numR l[k] = some n) : numsR (l.take (k + 1)) = some (v ++ [n]) := by
  rw [List.take_succ_eq_append_getElem hk, numsR_snoc, h, hn]; rfl
theorem numsR_itoa {l : List Int} (h : smallB 999999 l = true) : numsR (l.map itoa) = some l := by
  induction l with
  | nil => rfl
  | cons x l ih =>
    have hx := smallB_mem h (n := x) (by simp)
    rw [List.map_cons, numsR, numR_itoa hx.1 hx.2, ih (smallB_iff.2 fun n hn => smallB_mem h (by simp [hn]))]; rfl
theorem numsR_some : ∀ {l : List (List UInt8)} {v : List Int}, numsR l = some v → v.map itoa = l
  | [], v, h => by simp [numsR] at h; subst h; rfl
  | w :: l, v, h => by
    rw [numsR] at h
    cases hw : numR w with
    | none => rw [hw] at h; exact absurd h (by simp)
    | some n =>
      cases hl : numsR l with
      | none => rw [hw, hl] at h; exact absurd h (by simp)
      | some u =>
        rw [hw, hl] at h
        simp at h; subst h
        rw [List.map_cons, (numR_some hw).1, numsR_some hl]
theorem numsR_small : ∀ {l : List (List UInt8)} {v : List Int}, numsR l = some v → smallB 999999 v = true ∧ v.length = l.length
  | [], v, h => by simp [numsR] at h; subst h; exact ⟨rfl, rfl⟩
  | w :: l, v, h => by
    rw [numsR] at h
    cases hw : numR w with
    | none => rw [hw] at h; exact absurd h (by simp)
    | some n =>
      cases hl : numsR l with
      | none => rw [hw, hl] at h; exact absurd h (by simp)
      | some u =>
        rw [hw, hl] at h
        simp at h; subst h
        have h1 := numR_some hw
        have h2 := numsR_small hl
        refine ⟨smallB_iff.2 ?_, by simp [h2.2]⟩
        intro x hx
        rcases List.mem_cons.1 hx with e | e
        · exact e ▸ ⟨h1.2.1, h1.2.2.1⟩
        · exact smallB_mem h2.1 e

theorem numsR_one (w : List UInt8) : numsR [w] = (numR w).map fun n => [n] := by
  rw [numsR]; cases numR w <;> rfl
/-- The first line's costs, and another line's row. -/
def lineC (s : List UInt8) : Option (List Int) := if (cutB 32 s).headD [] = mostW then numsR (cutB 32 s).tail else none
def lineR (s : List UInt8) : Option (List Int × Int) :=
  if (cutB 32 s).length < 2 ∨ (cutB 32 s).getD ((cutB 32 s).length - 2) [] ≠ leW then none
  else (numsR ((cutB 32 s).take ((cutB 32 s).length - 2))).bind fun l => (numR ((cutB 32 s).getLastD [])).map fun m => (l, m)
theorem lineC_cost {cs : List Int} (h : smallB 999999 cs = true) : lineC (costL cs) = some cs := by
  have hc : cutB 32 (costL cs) = mostW :: cs.map itoa := by
    refine cutB_join (by simp) ?_
    intro x hx
    rcases List.mem_cons.1 hx with e | e
    · subst e; decide
    · obtain ⟨n, _, rfl⟩ := List.mem_map.1 e
      exact itoa_not (by decide) (by decide)
  rw [lineC, hc, List.headD_cons, if_pos rfl, List.tail_cons, numsR_itoa h]
theorem lineR_row {r : List Int × Int} (h : smallB 999999 r.1 = true) (h' : -999999 ≤ r.2 ∧ r.2 ≤ 999999) : lineR (rowL r) = some r := by
  have hc : cutB 32 (rowL r) = r.1.map itoa ++ [leW, itoa r.2] := by
    refine cutB_join (by simp) ?_
    intro x hx
    rcases List.mem_append.1 hx with e | e
    · obtain ⟨n, _, rfl⟩ := List.mem_map.1 e
      exact itoa_not (by decide) (by decide)
    · simp at e
      rcases e with e | e
      · subst e; decide
      · subst e; exact itoa_not (by decide) (by decide)
  have hl : (r.1.map itoa ++ [leW, itoa r.2]).length = (r.1.map itoa).length + 2 := by simp
  rw [lineR, hc, hl, if_neg, Nat.add_sub_cancel, List.take_left, numsR_itoa h]
  · have : (r.1.map itoa ++ [leW, itoa r.2]).getLastD [] = itoa r.2 := by simp
    rw [this, numR_itoa h'.1 h'.2]; rfl
  · simp [List.getD]
theorem lineC_some {s : List UInt8} {cs : List Int} (h : lineC s = some cs) : costL cs = s := by
  unfold lineC at h
  split at h
  · next e =>
    have hj := join_cutB 32 s
    obtain ⟨x, y, hc⟩ := List.exists_cons_of_ne_nil (cutB_ne 32 s)
    rw [hc] at e h hj
    simp at e; subst e
    rw [List.tail_cons] at h
    rw [costL, numsR_some h, hj]
  · exact absurd h (by simp)
theorem lineR_some {s : List UInt8} {r : List Int × Int} (h : lineR s = some r) : rowL r = s := by
  unfold lineR at h
  split at h
  · exact absurd h (by simp)
  next hn =>
  have hn2 : 2 ≤ (cutB 32 s).length := by
    rcases Nat.lt_or_ge (cutB 32 s).length 2 with e | e
    · exact absurd (Or.inl e) hn
    · exact e
  have hle : (cutB 32 s).getD ((cutB 32 s).length - 2) [] = leW := by
    rcases Classical.em ((cutB 32 s).getD ((cutB 32 s).length - 2) [] = leW) with e | e
    · exact e
    · exact absurd (Or.inr e) hn
  cases h1 : numsR ((cutB 32 s).take ((cutB 32 s).length - 2)) with
  | none => rw [h1] at h; exact absurd h (by simp)
  | some l =>
    cases h2 : numR ((cutB 32 s).getLastD []) with
    | none => rw [h1, h2] at h; exact absurd h (by simp)
    | some m =>
      rw [h1, h2] at h
      simp at h; subst h
      rw [rowL]
      simp only []
      rw [numsR_some h1, (numR_some h2).1, ← hle]
      conv => rhs; rw [← join_cutB 32 s]
      congr 1
      have hk : (cutB 32 s).length - 2 < (cutB 32 s).length := by omega
      have hk1 : (cutB 32 s).length - 2 + 1 < (cutB 32 s).length := by omega
      have e1 : (cutB 32 s).getD ((cutB 32 s).length - 2) [] = (cutB 32 s)[(cutB 32 s).length - 2] := by simp [List.getD, List.getElem?_eq_getElem hk]
      have e2 : (cutB 32 s).getLastD [] = (cutB 32 s)[(cutB 32 s).length - 2 + 1] := by
        rw [List.getLastD_eq_getLast?, List.getLast?_eq_getElem?, show (cutB 32 s).length - 1 = (cutB 32 s).length - 2 + 1 by omega, List.getElem?_eq_getElem hk1]; rfl
      rw [e1, e2]
      conv => rhs; rw [← List.take_append_drop ((cutB 32 s).length - 2) (cutB 32 s)]
      rw [List.drop_eq_getElem_cons hk, List.drop_eq_getElem_cons hk1, List.drop_of_length_le (by omega)]
theorem lineR_small {s : List UInt8} {r : List Int × Int} (h : lineR s = some r) : smallB 999999 r.1 = true ∧ -999999 ≤ r.2 ∧ r.2 ≤ 999999 ∧ r.1.length + 2 = (cutB 32 s).length := by
  unfold lineR at h
  split at h
  · exact absurd h (by simp)
  next hn =>
  cases h1 : numsR ((cutB 32 s).take ((cutB 32 s).length - 2)) with
  | none => rw [h1] at h; exact absurd h (by simp)
  | some l =>
    cases h2 : numR ((cutB 32 s).getLastD []) with
    | none => rw [h1, h2] at h; exact absurd h (by simp)
    | some m =>
      rw [h1, h2] at h
      simp at h; subst h
      have h3 := numsR_small h1
      have h4 := numR_some h2
      refine ⟨h3.1, h4.2.1, h4.2.2.1, ?_⟩
      simp only [h3.2, List.length_take]
      have : ¬ (cutB 32 s).length < 2 := fun e => hn (Or.inl e)
      omega

theorem lineR_short {s : List UInt8} (h : (cutB 32 s).length < 2) : lineR s = none := by unfold lineR; rw [if_pos (Or.inl h)]
theorem lineR_long {s : List UInt8} {m : Nat} (h : (cutB 32 s).length = m + 2) :
    lineR s = if (cutB 32 s)[m]'(by omega) = leW then (numsR ((cutB 32 s).take m)).bind fun l => (numR ((cutB 32 s)[m + 1]'(by omega))).map fun n => (l, n) else none := by
  have e3 : (cutB 32 s).length - 2 = m := by omega
  have e4 : (cutB 32 s).length - 1 = m + 1 := by omega
  have e1 : (cutB 32 s).getD ((cutB 32 s).length - 2) [] = (cutB 32 s)[m]'(by omega) := by
    rw [e3]; simp [List.getD, List.getElem?_eq_getElem (show m < (cutB 32 s).length by omega)]
  have e2 : (cutB 32 s).getLastD [] = (cutB 32 s)[m + 1]'(by omega) := by
    rw [List.getLastD_eq_getLast?, List.getLast?_eq_getElem?, e4, List.getElem?_eq_getElem (by omega)]; rfl
  unfold lineR
  rw [e1, e2, e3]
  by_cases hc : (cutB 32 s)[m]'(by omega) = leW
  · rw [if_neg (by rintro (q | q); · omega
                   · exact q hc), if_pos hc]
  · rw [if_pos (Or.inr hc), if_neg hc]
/-- The rows of lines; the program of lines: the first one has the costs. -/
def rowsP : List (List UInt8) → Option (List (List Int × Int))
  | [] => some []
  | s :: l => (lineR s).bind fun r => (rowsP l).map (r :: ·)
def takeP : List (List UInt8) → Option PG
  | [] => some ⟨[], []⟩
  | s :: l => (lineC s).bind fun cs => (rowsP l).map fun rs => ⟨cs, rs⟩
theorem rowsP_snoc (l : List (List UInt8)) (s : List UInt8) : rowsP (l ++ [s]) = (rowsP l).bind fun v => (lineR s).map fun r => v ++ [r] := by
  induction l with
  | nil => simp [rowsP]; cases lineR s <;> rfl
  | cons x l ih =>
    rw [List.cons_append, rowsP, rowsP, ih]
    cases lineR x <;> cases rowsP l <;> cases lineR s <;> rfl
theorem takeP_snoc (x : List UInt8) (l : List (List UInt8)) (s : List UInt8) : takeP (x :: l ++ [s]) = (takeP (x :: l)).bind fun q => (lineR s).map fun r => ⟨q.costs, q.rows ++ [r]⟩ := by
  rw [List.cons_append, takeP, takeP, rowsP_snoc]
  cases lineC x <;> cases rowsP l <;> cases lineR s <;> rfl
theorem takeP_one (s : List UInt8) : takeP [s] = (lineC s).map fun cs => ⟨cs, []⟩ := by
  simp [takeP, rowsP]; cases lineC s <;> rfl
/-- One line more. -/
theorem takeP_step {ls : List (List UInt8)} {k : Nat} (hk : k < ls.length) {q : PG} (h : takeP (ls.take k) = some q) (h0 : 0 < k) :
    takeP (ls.take (k + 1)) = (lineR ls[k]).map fun r => ⟨q.costs, q.rows ++ [r]⟩ := by
  obtain ⟨x, l, e⟩ := List.exists_cons_of_ne_nil (l := ls.take k) (by intro e; have := congrArg List.length e; rw [List.length_take, List.length_nil] at this; omega)
  rw [List.take_succ_eq_append_getElem hk, e, takeP_snoc, ← e, h]; rfl
theorem takeP_first {ls : List (List UInt8)} (hk : 0 < ls.length) : takeP (ls.take 1) = (lineC ls[0]).map fun cs => ⟨cs, []⟩ := by
  rw [List.take_succ_eq_append_getElem hk, List.take_zero, List.nil_append, takeP_one]
theorem takeP_prefix {ls : List (List UInt8)} : ∀ {k : Nat}, k < ls.length → (takeP (ls.take (k + 1))).isSome = true → (takeP (ls.take k)).isSome = true := by
  intro k hk h
  cases k with
  | zero => rfl
  | succ k =>
    obtain ⟨x, l, e⟩ := List.exists_cons_of_ne_nil (l := ls.take (k + 1)) (by intro e; have := congrArg List.length e; rw [List.length_take, List.length_nil] at this; omega)
    rw [List.take_succ_eq_append_getElem hk, e, takeP_snoc] at h
    rw [e]
    cases hq : takeP (x :: l) with
    | none => rw [hq] at h; exact absurd h (by simp)
    | some q => rfl
theorem takeP_all {ls : List (List UInt8)} {k j : Nat} (hk : k ≤ ls.length) (h : (takeP (ls.take k)).isSome = true) (hj : j ≤ k) : (takeP (ls.take j)).isSome = true := by
  induction k with
  | zero => have : j = 0 := by omega
            subst this; exact h
  | succ k ih =>
    rcases Nat.lt_or_ge j (k + 1) with e | e
    · exact ih (by omega) (takeP_prefix (by omega) h) (by omega)
    · have : j = k + 1 := by omega
      subst this; exact h

/-- What a text is read as: the program, what is wrong, and where. -/
def parF (s : List UInt8) : PG × Int × Nat :=
  match (List.range ((cutB 10 s).length - 1)).find? (fun k => (takeP ((cutB 10 s).take (k + 1))).isNone) with
  | some k => (⟨[], []⟩, 2, k)
  | none => match takeP ((cutB 10 s).take ((cutB 10 s).length - 1)) with
    | some q => if (cutB 10 s).getLastD [] = [] ∧ mayPB q = true then (q, 0, 0) else (⟨[], []⟩, 2, (cutB 10 s).length - 1)
    | none => (⟨[], []⟩, 2, (cutB 10 s).length - 1)
theorem parF_bad {s : List UInt8} {k : Nat} (hk : k < (cutB 10 s).length - 1) {q : PG} (h : takeP ((cutB 10 s).take k) = some q) (hn : takeP ((cutB 10 s).take (k + 1)) = none) : parF s = (⟨[], []⟩, 2, k) := by
  have : (List.range ((cutB 10 s).length - 1)).find? (fun k => (takeP ((cutB 10 s).take (k + 1))).isNone) = some k := by
    rw [List.find?_range_eq_some]
    refine ⟨by rw [hn]; rfl, by simpa using hk, ?_⟩
    intro j hj
    have := takeP_all (ls := cutB 10 s) (k := k) (j := j + 1) (by omega) (by rw [h]; rfl) (by omega)
    simp only [Bool.not_eq_true']
    cases h1 : takeP ((cutB 10 s).take (j + 1)) with
    | none => rw [h1] at this; exact absurd this (by simp)
    | some _ => rfl
  rw [parF, this]
theorem parF_end {s : List UInt8} {q : PG} (h : takeP ((cutB 10 s).take ((cutB 10 s).length - 1)) = some q) :
    parF s = if (cutB 10 s).getLastD [] = [] ∧ mayPB q = true then (q, 0, 0) else (⟨[], []⟩, 2, (cutB 10 s).length - 1) := by
  have : (List.range ((cutB 10 s).length - 1)).find? (fun k => (takeP ((cutB 10 s).take (k + 1))).isNone) = none := by
    rw [List.find?_range_eq_none]
    intro j hj
    have := takeP_all (ls := cutB 10 s) (k := (cutB 10 s).length - 1) (j := j + 1) (by omega) (by rw [h]; rfl) (by omega)
    simp only [Bool.not_eq_true']
    cases h1 : takeP ((cutB 10 s).take (j + 1)) with
    | none => rw [h1] at this; exact absurd this (by simp)
    | some _ => rfl
  rw [parF, this]; simp only [h]
theorem parF_cases (s : List UInt8) : (∃ q, parF s = (q, 0, 0) ∧ takeP ((cutB 10 s).take ((cutB 10 s).length - 1)) = some q ∧ (cutB 10 s).getLastD [] = [] ∧ mayPB q = true) ∨ (∃ k, parF s = (⟨[], []⟩, 2, k) ∧ k < (cutB 10 s).length) := by
  have hl := cutB_length 10 s
  unfold parF
  split
  · next k hk =>
    rw [List.find?_range_eq_some] at hk
    have := hk.2.1
    simp at this
    exact Or.inr ⟨k, rfl, by omega⟩
  · split
    · next q hq =>
      split
      · next h => exact Or.inl ⟨q, rfl, hq, h.1, h.2⟩
      · exact Or.inr ⟨_, rfl, by omega⟩
    · exact Or.inr ⟨_, rfl, by omega⟩

theorem rowsP_rows {rs : List (List Int × Int)} (h : ∀ r ∈ rs, smallB 999999 r.1 = true ∧ -999999 ≤ r.2 ∧ r.2 ≤ 999999) : rowsP (rs.map rowL) = some rs := by
  induction rs with
  | nil => rfl
  | cons r rs ih =>
    have hr := h r (by simp)
    rw [List.map_cons, rowsP, lineR_row hr.1 hr.2, ih (fun x hx => h x (by simp [hx]))]; rfl
theorem small_more {a b : Int} {l : List Int} (h : smallB a l = true) (hab : a ≤ b) : smallB b l = true :=
  smallB_iff.2 fun n hn => by have := smallB_mem h hn; omega
theorem join_bytes {c b : UInt8} : ∀ {l : List (List UInt8)}, (∀ x ∈ l, c ∉ x) → c ≠ b → c ∉ join l [b]
  | [], _, _ => by simp [join_nil]
  | [x], h, _ => by rw [join_one]; exact h x (by simp)
  | x :: y :: r, h, hb => by
    rw [join_cons2]
    have := join_bytes (c := c) (b := b) (l := y :: r) (fun z hz => h z (by simp [hz])) hb
    have hx := h x (by simp)
    simp [this, hx, hb]
theorem costL_no (cs : List Int) : (10 : UInt8) ∉ costL cs := by
  refine join_bytes ?_ (by decide)
  intro x hx
  rcases List.mem_cons.1 hx with e | e
  · subst e; decide
  · obtain ⟨n, _, rfl⟩ := List.mem_map.1 e
    exact itoa_not (by decide) (by decide)
theorem rowL_no (r : List Int × Int) : (10 : UInt8) ∉ rowL r := by
  refine join_bytes ?_ (by decide)
  intro x hx
  rcases List.mem_append.1 hx with e | e
  · obtain ⟨n, _, rfl⟩ := List.mem_map.1 e
    exact itoa_not (by decide) (by decide)
  · simp at e
    rcases e with e | e
    · subst e; decide
    · subst e; exact itoa_not (by decide) (by decide)
theorem cut_rows (rs : List (List Int × Int)) : cutB 10 (rs.map rowT).flatten = rs.map rowL ++ [[]] := by
  induction rs with
  | nil => rfl
  | cons r rs ih =>
    rw [List.map_cons, List.flatten_cons, rowT_eq, List.append_assoc, List.singleton_append, cutB_hit (rowL_no r), ih]; rfl
theorem cut_text (p : PG) : cutB 10 (textF p) = costL p.costs :: p.rows.map rowL ++ [[]] := by
  rw [textF, costT_eq, List.append_assoc, List.singleton_append, cutB_hit (costL_no _), cut_rows]; rfl
/-- A program's text is read as it. -/
theorem par_text {p : PG} (h : mayPB p = true) : parF (textF p) = (p, 0, 0) := by
  have hm := mayPB_iff.1 h
  have ht : takeP ((cutB 10 (textF p)).take ((cutB 10 (textF p)).length - 1)) = some p := by
    rw [cut_text]
    have hL : (costL p.costs :: p.rows.map rowL ++ [[]]).length - 1 = (costL p.costs :: p.rows.map rowL).length := by simp
    rw [hL, List.take_left, takeP,
      lineC_cost (small_more hm.2.2.2.2.1 (by decide)), rowsP_rows]
    · rfl
    · intro r hr
      obtain ⟨k, hk, rfl⟩ := List.getElem_of_mem hr
      have := mayPB_row h hk
      exact ⟨small_more this.2.2 (by decide), by omega, by omega⟩
  rw [parF_end ht, if_pos]
  exact ⟨by rw [cut_text, List.getLastD_concat], h⟩
/-- What is read as a program is its text. -/
theorem rowsP_some : ∀ {ls : List (List UInt8)} {rs : List (List Int × Int)}, rowsP ls = some rs → rs.map rowL = ls
  | [], rs, h => by simp [rowsP] at h; subst h; rfl
  | s :: l, rs, h => by
    rw [rowsP] at h
    cases hw : lineR s with
    | none => rw [hw] at h; exact absurd h (by simp)
    | some r =>
      cases hl : rowsP l with
      | none => rw [hw, hl] at h; exact absurd h (by simp)
      | some u =>
        rw [hw, hl] at h
        simp at h; subst h
        rw [List.map_cons, lineR_some hw, rowsP_some hl]
theorem text_lines {cs : List Int} {rs : List (List Int × Int)} : textF ⟨cs, rs⟩ = join (costL cs :: rs.map rowL ++ [[]]) [10] := by
  rw [← join_cutB 10 (textF ⟨cs, rs⟩), cut_text]
theorem text_par {s : List UInt8} (h : (parF s).2.1 = 0) : mayPB (parF s).1 = true ∧ textF (parF s).1 = s := by
  rcases parF_cases s with ⟨q, e, ht, hl, hm⟩ | ⟨k, e, _⟩
  · rw [e]
    refine ⟨hm, ?_⟩
    simp only []
    have hlast : cutB 10 s = (cutB 10 s).take ((cutB 10 s).length - 1) ++ [[]] := by
      have h0 := cutB_ne 10 s
      conv => lhs; rw [← List.dropLast_concat_getLast h0]
      rw [List.dropLast_eq_take]
      congr 2
      rw [List.getLastD_eq_getLast?, List.getLast?_eq_some_getLast h0] at hl
      simpa using hl
    have hm' := mayPB_iff.1 hm
    cases hc : (cutB 10 s).take ((cutB 10 s).length - 1) with
    | nil =>
      rw [hc, takeP] at ht
      simp at ht
      rw [← ht] at hm'
      simp at hm'
    | cons x l =>
      rw [hc] at ht hlast
      rw [takeP] at ht
      cases h1 : lineC x with
      | none => rw [h1] at ht; exact absurd ht (by simp)
      | some cs =>
        cases h2 : rowsP l with
        | none => rw [h1, h2] at ht; exact absurd ht (by simp)
        | some rs =>
          rw [h1, h2] at ht
          simp at ht
          rw [← ht, text_lines, lineC_some h1, rowsP_some h2, ← hlast, join_cutB]
  · rw [e] at h; exact absurd h (by simp)
theorem text_ne (p : PG) : textF p ≠ [] := by rw [textF, costT]; simp [mostW]
theorem known_text : (parF [109, 111, 115, 116, 32, 49, 10, 50, 32, 60, 61, 32, 51, 10]).1.rows.length = 1 := by
  have e : textF ⟨[1], [([2], 3)]⟩ = [109, 111, 115, 116, 32, 49, 10, 50, 32, 60, 61, 32, 51, 10] := by
    simp [textF, costT, rowT, mostW, leW, itoa_pos, decDigits_one]
  rw [← e, par_text (by decide)]; rfl
theorem dec_lens : ∀ (k u : Nat), u < 10 ^ (k + 1) → (decDigits u).length ≤ k + 1 := by
  intro k
  induction k with
  | zero => intro u h; rw [decDigits_one (by omega)]; simp
  | succ k ih =>
    intro u h
    rw [decDigits]
    split
    · simp
    · have := ih (u / 10) (by rw [Nat.pow_succ] at h; omega)
      simp; omega
theorem itoa_len {n : Int} (h1 : -9223372036854775808 ≤ n) (h2 : n ≤ 9223372036854775807) : (itoa n).length ≤ 21 := by
  by_cases h : n < 0
  · rw [itoa_neg h]
    have := dec_lens 19 n.natAbs (by omega)
    simp; omega
  · rw [itoa_pos h]
    have := dec_lens 19 n.toNat (by omega)
    omega
theorem join_len {k : Nat} {b : UInt8} : ∀ {xs : List (List UInt8)}, (∀ x ∈ xs, x.length ≤ k) → (join xs [b]).length ≤ xs.length * (k + 1)
  | [], _ => by simp [join_nil]
  | [x], h => by rw [join_one]; have := h x (by simp); simp; omega
  | x :: y :: r, h => by
    have := join_len (b := b) (xs := y :: r) (fun z hz => h z (by simp [hz]))
    have hx := h x (by simp)
    rw [join_cons2, List.length_cons, Nat.succ_mul]
    simp only [List.length_append, List.length_singleton] at this ⊢
    omega
theorem small_itoa {m : Int} {l : List Int} (hm : m ≤ 999999) (h : smallB m l = true) : ∀ x ∈ l.map itoa, x.length ≤ 21 := by
  intro x hx
  obtain ⟨n, hn, rfl⟩ := List.mem_map.1 hx
  have := smallB_mem h hn
  exact itoa_len (by omega) (by omega)
theorem costL_len {cs : List Int} (h : smallB 400 cs = true) (hl : cs.length ≤ 4) : (costL cs).length ≤ 120 := by
  have := join_len (k := 21) (b := 32) (xs := mostW :: cs.map itoa) (by
    intro x hx
    rcases List.mem_cons.1 hx with e | e
    · subst e; decide
    · exact small_itoa (by decide) h x e)
  unfold costL
  simp at this ⊢; omega
theorem rowL_len {r : List Int × Int} (h : smallB 12 r.1 = true) (h' : -12 ≤ r.2 ∧ r.2 ≤ 12) (hl : r.1.length ≤ 4) : (rowL r).length ≤ 150 := by
  have := join_len (k := 21) (b := 32) (xs := r.1.map itoa ++ [leW, itoa r.2]) (by
    intro x hx
    rcases List.mem_append.1 hx with e | e
    · exact small_itoa (by decide) h x e
    · simp at e
      rcases e with e | e
      · subst e; decide
      · subst e; exact itoa_len (by omega) (by omega))
  unfold rowL
  simp at this ⊢; omega
theorem costT_len {cs : List Int} (h : smallB 400 cs = true) (hl : cs.length ≤ 4) : (costT cs).length ≤ 121 := by
  rw [costT_eq]; have := costL_len h hl; simp; omega
theorem rowsT_len {p : PG} (h : mayPB p = true) (k : Nat) (hk : k ≤ p.rows.length) : (((p.rows.take k).map rowT).flatten).length ≤ k * 151 := by
  induction k with
  | zero => simp
  | succ k ih =>
    have hr := mayPB_row h (k := k) (by omega)
    have h4 := mayPB_iff.1 h
    have := rowL_len hr.2.2 hr.2.1 (by omega)
    rw [List.take_succ_eq_append_getElem (by omega), List.map_append, List.flatten_append, List.length_append]
    have := ih (by omega)
    have e : ([p.rows[k]].map rowT).flatten = rowL p.rows[k] ++ [10] := by simp [rowT_eq]
    rw [e, List.length_append, List.length_singleton]
    omega
theorem rowsT_take {p : PG} {k : Nat} (hk : k < p.rows.length) : ((p.rows.take (k + 1)).map rowT).flatten = ((p.rows.take k).map rowT).flatten ++ (rowL p.rows[k] ++ [10]) := by
  rw [List.take_succ_eq_append_getElem hk, List.map_append, List.flatten_append]
  simp [rowT_eq]
theorem cut_step {c : UInt8} {s : List UInt8} {k f : Nat} (hk : k < s.length) (hf : f ≤ k) (hd : (s.take k).drop f = (cutB c (s.take k)).getLastD []) :
    (s[k] = c → (cutB c (s.take (k + 1))).dropLast = (cutB c (s.take k)).dropLast ++ [(s.take k).drop f] ∧ (s.take (k + 1)).drop (k + 1) = (cutB c (s.take (k + 1))).getLastD []) ∧
    (s[k] ≠ c → (cutB c (s.take (k + 1))).dropLast = (cutB c (s.take k)).dropLast ∧ (s.take (k + 1)).drop f = (cutB c (s.take (k + 1))).getLastD []) := by
  have hl : (s.take k).length = k := by rw [List.length_take]; omega
  rw [List.take_succ_eq_append_getElem hk, cutB_snoc]
  refine ⟨fun h => ?_, fun h => ?_⟩
  · rw [if_pos h, List.dropLast_concat, List.getLastD_concat, hd]
    refine ⟨?_, ?_⟩
    · have h0 := cutB_ne c (s.take k)
      conv => lhs; rw [← List.dropLast_concat_getLast h0]
      rw [List.getLastD_eq_getLast?, List.getLast?_eq_some_getLast h0]; rfl
    · rw [List.drop_eq_nil_iff]; simp; omega
  · rw [if_neg h, List.dropLast_concat, List.getLastD_concat, ← hd, List.drop_append_of_le_length (by omega)]
    exact ⟨rfl, rfl⟩
theorem cut_end {c : UInt8} {s : List UInt8} {f : Nat} (hd : s.drop f = (cutB c s).getLastD []) : (cutB c s).dropLast ++ [s.drop f] = cutB c s := by
  have h0 := cutB_ne c s
  rw [hd, List.getLastD_eq_getLast?, List.getLast?_eq_some_getLast h0]
  exact List.dropLast_concat_getLast h0
theorem cut_small {c : UInt8} {s : List UInt8} : (cutB c s).length ≤ s.length + 1 := by
  rw [cutB_length]; have := List.count_le_length (a := c) (l := s); omega
theorem cut_parts {c : UInt8} : ∀ {s : List UInt8}, ∀ x ∈ cutB c s, x.length ≤ s.length := by
  intro s
  induction s with
  | nil => intro x hx; simp [cutB] at hx; subst hx; simp
  | cons b l ih =>
    intro x hx
    rw [cutB] at hx
    split at hx
    · rcases List.mem_cons.1 hx with e | e
      · subst e; simp
      · have := ih x e; simp; omega
    · obtain ⟨h, t, ht⟩ := List.exists_cons_of_ne_nil (cutB_ne c l)
      rw [ht] at hx ih
      simp only [List.headD_cons, List.tail_cons, List.mem_cons] at hx
      rcases hx with e | e
      · subst e; have := ih h (by simp); simp; omega
      · have := ih x (by simp [e]); simp; omega
theorem digs_snoc (l : List UInt8) (c : UInt8) : ∀ a, digs a (l ++ [c]) = (digs a l).bind fun m => if 48 ≤ c.toNat ∧ c.toNat ≤ 57 then some (10 * m + (c.toNat - 48)) else none := by
  induction l with
  | nil => intro a; simp [digs]
  | cons x l ih =>
    intro a
    rw [List.cons_append, digs, digs]
    split
    · exact ih _
    · rfl
theorem digs_take {t : List UInt8} {k m : Nat} (hk : k < t.length) (h : digs 0 (t.take k) = some m) (hc : 48 ≤ (t[k]).toNat ∧ (t[k]).toNat ≤ 57) : digs 0 (t.take (k + 1)) = some (10 * m + ((t[k]).toNat - 48)) := by
  rw [List.take_succ_eq_append_getElem hk, digs_snoc, h]; simp [hc]
theorem digs_bad : ∀ {t : List UInt8} {k : Nat} (a : Nat) (hk : k < t.length), ¬ (48 ≤ (t[k]).toNat ∧ (t[k]).toNat ≤ 57) → digs a t = none
  | [], k, _, hk, _ => by simp at hk
  | c :: r, 0, a, _, h => by rw [digs, if_neg (by simpa using h)]
  | c :: r, k + 1, a, hk, h => by
    rw [digs]
    split
    · exact digs_bad _ (by simpa using hk) (by simpa using h)
    · rfl
theorem digs_small {t : List UInt8} {m : Nat} (h : digs 0 t = some m) (hl : t.length ≤ 6) : m < 1000000 := by
  have := digs_pow h
  have h6 : 10 ^ t.length ≤ 10 ^ 6 := Nat.pow_le_pow_right (by omega) hl
  omega
/-- A line's beginning: what stands before its k-th number. -/
theorem costs_take {cs : List Int} {k : Nat} (hk : k < cs.length) : ((cs.take (k + 1)).map fun n => 32 :: itoa n).flatten = ((cs.take k).map fun n => 32 :: itoa n).flatten ++ [32] ++ itoa cs[k] := by
  rw [List.take_succ_eq_append_getElem hk, List.map_append, List.flatten_append]; simp
theorem ofs_take {cs : List Int} {k : Nat} (hk : k < cs.length) : ((cs.take (k + 1)).map fun n => itoa n ++ [32]).flatten = ((cs.take k).map fun n => itoa n ++ [32]).flatten ++ itoa cs[k] ++ [32] := by
  rw [List.take_succ_eq_append_getElem hk, List.map_append, List.flatten_append]; simp
theorem rowT_take {rs : List (List Int × Int)} {k : Nat} (hk : k < rs.length) : ((rs.take (k + 1)).map rowT).flatten = ((rs.take k).map rowT).flatten ++ (((rs[k]).1.map fun n => itoa n ++ [32]).flatten ++ [60, 61, 32] ++ itoa (rs[k]).2 ++ [10]) := by
  rw [List.take_succ_eq_append_getElem hk, List.map_append, List.flatten_append]
  simp [rowT, leW]
end Go.Proofs.YtjcdkbalhleeeabDoor

/-
  Plain words for chapters 3 (what a column has, is worth) and 4 (what proves an answer). No program in sight.
-/
namespace Go.Proofs.YtjcdkbalhleeeabDoor

/-- What a column has in a row. -/
def hasZ (p : PG) (i j : Nat) : Int := if j < p.costs.length then ((p.rows.getD i ([], 0)).1.getD j 0) else if j - p.costs.length = i then 1 else 0
/-- What a column is worth. -/
def costZ (p : PG) (j : Nat) : Int := if j < p.costs.length then p.costs.getD j 0 else 0
/-- What a column has in all rows. -/
def colZ (p : PG) (j : Nat) : List Int := (List.range p.rows.length).map fun i => hasZ p i j
def mosts (p : PG) : List Int := p.rows.map fun r => r.2

/-- An answer. -/
structure AN where
  kind : Int
  xs : List Int
  xd : Int
  ys : List Int
  yd : Int
  rs : List Int
  rd : Int
  wn : Int
  wd : Int

def emptyB (l : List Int) (d : Int) : Bool := decide (l.length = 0) && decide (d = 0)
def aboveB (l : List Int) (d : Int) (n : Nat) : Bool := mayB l d && (decide (l.length = n) && nonneg l)
def coversB (p : PG) (ys : List Int) (t : Int) : Bool := (List.range p.costs.length).all fun j => decide (costZ p j * t ≤ dot (colZ p j) ys)
def bestB (p : PG) (a : AN) : Bool :=
  emptyB a.rs a.rd && (goesB p a.xs a.xd && (aboveB a.ys a.yd p.rows.length && (coversB p a.ys a.yd &&
    (decide (worE p a.xs a.xd = 0) && (decide (ptE [dot (mosts p) a.ys] a.yd = 0) && ((decide (worN p a.xs a.xd = a.wn) && decide (worD p a.xs a.xd = a.wd)) && (decide (frN (dot (mosts p) a.ys) a.yd = worN p a.xs a.xd) && decide (ptD [dot (mosts p) a.ys] a.yd = worD p a.xs a.xd))))))))
def endlessB (p : PG) (a : AN) : Bool :=
  emptyB a.ys a.yd && ((decide (a.wn = 0) && decide (a.wd = 0)) && (goesB p a.xs a.xd && (aboveB a.rs a.rd p.costs.length && (decide (a.rd = 1) &&
    (p.rows.all (fun r => decide (dot r.1 a.rs ≤ 0)) && decide (0 < dot p.costs a.rs))))))
def nothingB (p : PG) (a : AN) : Bool :=
  emptyB a.xs a.xd && (emptyB a.rs a.rd && ((decide (a.wn = 0) && decide (a.wd = 0)) && (aboveB a.ys a.yd p.rows.length && (decide (a.yd = 1) && (coversB p a.ys 0 && decide (dot (mosts p) a.ys < 0))))))
def holdsB (p : PG) (a : AN) : Bool :=
  mayPB p && (if a.kind = 1 then bestB p a else if a.kind = 2 then endlessB p a else if a.kind = 3 then nothingB p a else false)

theorem length_colZ (p : PG) (j : Nat) : (colZ p j).length = p.rows.length := by simp [colZ]
theorem length_mosts (p : PG) : (mosts p).length = p.rows.length := by simp [mosts]
theorem hasZ_var {p : PG} {i j : Nat} (hi : i < p.rows.length) (hj : j < p.costs.length) : hasZ p i j = (p.rows[i]).1.getD j 0 := by
  simp [hasZ, hj, List.getD, List.getElem?_eq_getElem hi]
theorem hasZ_bound {p : PG} (hp : mayPB p = true) (i j : Nat) : -12 ≤ hasZ p i j ∧ hasZ p i j ≤ 12 := by
  unfold hasZ
  split
  · rename_i hj
    by_cases hi : i < p.rows.length
    · obtain ⟨hl, _, hs⟩ := mayPB_row hp hi
      have hj' : j < (p.rows[i]).1.length := by omega
      have := smallB_at hs hj'
      simpa [List.getD, List.getElem?_eq_getElem hi, List.getElem?_eq_getElem hj'] using this
    · have : p.rows[i]? = none := List.getElem?_eq_none (by omega)
      simp [List.getD, this]
  · split <;> omega
theorem costZ_bound {p : PG} (hp : mayPB p = true) (j : Nat) : -400 ≤ costZ p j ∧ costZ p j ≤ 400 := by
  unfold costZ
  split
  · rename_i hj
    have := smallB_at (mayPB_iff.1 hp).2.2.2.2.1 hj
    simpa [List.getD, List.getElem?_eq_getElem hj] using this
  · omega
theorem colZ_small {p : PG} (hp : mayPB p = true) (j : Nat) : smallB 12 (colZ p j) = true := by
  rw [smallB_iff]; intro n hn
  simp only [colZ, List.mem_map] at hn
  obtain ⟨i, _, rfl⟩ := hn
  exact hasZ_bound hp i j
theorem mosts_small {p : PG} (hp : mayPB p = true) : smallB 12 (mosts p) = true := by
  rw [smallB_iff]; intro n hn
  simp only [mosts, List.mem_map] at hn
  obtain ⟨r, hr, rfl⟩ := hn
  obtain ⟨i, hi, rfl⟩ := List.mem_iff_getElem.1 hr
  exact (mayPB_row hp hi).2.1
theorem aboveB_iff {l : List Int} {d : Int} {n : Nat} : aboveB l d n = true ↔ mayB l d = true ∧ l.length = n ∧ nonneg l = true := by
  unfold aboveB; simp only [Bool.and_eq_true, decide_eq_true_eq]
end Go.Proofs.YtjcdkbalhleeeabDoor

/-
  Plain words: sums of whole numbers, and what lists come to, each number times another one. No program in sight.
-/
namespace Go.Proofs.YtjcdkbalhleeeabDoor

/-- The sum of f 0 .. f (n-1). -/
def sumN (f : Nat → Int) : Nat → Int
  | 0 => 0
  | n + 1 => sumN f n + f n

theorem sumN_congr {f g : Nat → Int} : ∀ {n : Nat}, (∀ i, i < n → f i = g i) → sumN f n = sumN g n
  | 0, _ => rfl
  | n + 1, h => by rw [sumN, sumN, sumN_congr fun i hi => h i (by omega), h n (by omega)]
theorem sumN_le {f g : Nat → Int} : ∀ {n : Nat}, (∀ i, i < n → f i ≤ g i) → sumN f n ≤ sumN g n
  | 0, _ => by simp [sumN]
  | n + 1, h => by
    rw [sumN, sumN]
    have := sumN_le (n := n) fun i hi => h i (by omega)
    have := h n (by omega)
    omega
theorem sumN_add {f g : Nat → Int} : ∀ {n : Nat}, sumN (fun i => f i + g i) n = sumN f n + sumN g n
  | 0 => rfl
  | n + 1 => by rw [sumN, sumN, sumN, sumN_add]; omega
theorem sumN_mul {f : Nat → Int} {c : Int} : ∀ {n : Nat}, sumN (fun i => c * f i) n = c * sumN f n
  | 0 => by simp [sumN]
  | n + 1 => by rw [sumN, sumN, sumN_mul, Int.mul_add]
theorem sumN_mul' {f : Nat → Int} {c : Int} : ∀ {n : Nat}, sumN (fun i => f i * c) n = sumN f n * c
  | 0 => by simp [sumN]
  | n + 1 => by rw [sumN, sumN, sumN_mul', Int.add_mul]
theorem sumN_zero : ∀ {n : Nat}, sumN (fun _ => 0) n = 0
  | 0 => rfl
  | n + 1 => by rw [sumN, sumN_zero]; rfl
theorem sumN_neg {f : Nat → Int} : ∀ {n : Nat}, sumN (fun i => -f i) n = -sumN f n
  | 0 => rfl
  | n + 1 => by rw [sumN, sumN, sumN_neg]; omega
theorem sumN_sub {f g : Nat → Int} : ∀ {n : Nat}, sumN (fun i => f i - g i) n = sumN f n - sumN g n
  | 0 => rfl
  | n + 1 => by rw [sumN, sumN, sumN, sumN_sub]; omega
theorem sumN_comm {f : Nat → Nat → Int} {m : Nat} : ∀ {n : Nat}, sumN (fun i => sumN (fun j => f i j) m) n = sumN (fun j => sumN (fun i => f i j) n) m
  | 0 => by simp only [sumN]; exact sumN_zero.symm
  | n + 1 => by simp only [sumN]; rw [sumN_comm, sumN_add]
theorem sumN_split {f : Nat → Int} {a : Nat} : ∀ {b : Nat}, sumN f (a + b) = sumN f a + sumN (fun i => f (a + i)) b
  | 0 => by simp [sumN]
  | b + 1 => by rw [← Nat.add_assoc, sumN, sumN, sumN_split]; omega

theorem dot_sum {a b : List Int} {n : Nat} (ha : a.length = n) (hb : b.length = n) : dot a b = sumN (fun k => a.getD k 0 * b.getD k 0) n := by
  have h : ∀ k, k ≤ n → dot (a.take k) b = sumN (fun k => a.getD k 0 * b.getD k 0) k := by
    intro k
    induction k with
    | zero => intro _; simp [dot, sumN]
    | succ k ih =>
      intro hk
      have h1 : k < a.length := by omega
      have h2 : k < b.length := by omega
      rw [dot_take h1 h2, ih (by omega), sumN]
      simp [List.getD, List.getElem?_eq_getElem h1, List.getElem?_eq_getElem h2]
  have := h n (Nat.le_refl _)
  rwa [List.take_of_length_le (by omega)] at this
theorem getD_map_range {f : Nat → Int} {n k : Nat} (h : k < n) : ((List.range n).map f).getD k 0 = f k := by
  simp [List.getD, h]
theorem nonneg_at {l : List Int} (h : nonneg l = true) (k : Nat) : 0 ≤ l.getD k 0 := by
  unfold nonneg at h
  rw [List.all_eq_true] at h
  by_cases hk : k < l.length
  · have := h l[k] (List.getElem_mem hk)
    simpa [List.getD, List.getElem?_eq_getElem hk] using this
  · simp [List.getD, List.getElem?_eq_none (Nat.le_of_not_lt hk)]
theorem getD_mosts {p : PG} {i : Nat} : (mosts p).getD i 0 = (p.rows.getD i ([], 0)).2 := by
  unfold mosts
  by_cases h : i < p.rows.length
  · simp [List.getD, List.getElem?_eq_getElem h]
  · simp [List.getD, List.getElem?_eq_none (Nat.le_of_not_lt h)]
/-- What the variables have in a row, as a sum. -/
theorem dot_row {p : PG} {i : Nat} (hp : mayPB p = true) (hi : i < p.rows.length) {x : List Int} (hx : x.length = p.costs.length) :
    dot (p.rows[i]).1 x = sumN (fun j => hasZ p i j * x.getD j 0) p.costs.length := by
  obtain ⟨h1, _, _⟩ := mayPB_row hp hi
  rw [dot_sum h1 hx]
  exact sumN_congr fun j hj => by rw [hasZ_var hi hj]
theorem dot_col {p : PG} {j : Nat} {y : List Int} (hy : y.length = p.rows.length) :
    dot (colZ p j) y = sumN (fun i => hasZ p i j * y.getD i 0) p.rows.length := by
  rw [dot_sum (length_colZ p j) hy]
  exact sumN_congr fun i hi => by unfold colZ; rw [getD_map_range hi]
end Go.Proofs.YtjcdkbalhleeeabDoor

/-
  Plain words: the determinant by the first row's numbers, and what holds of it for up to four rows. No program in sight.
-/
namespace Go.Proofs.YtjcdkbalhleeeabDoor

/-- The determinant of some rows and columns, by the first row's numbers. s is the sign of the next one. -/
def dtGo (A : Nat → Int) (rest : List Nat → Int) (pre : List Nat) (s : Int) : List Nat → Int
  | [] => 0
  | c :: cs => s * A c * rest (pre ++ cs) + dtGo A rest (pre ++ [c]) (-s) cs
def dt (A : Nat → Nat → Int) : List Nat → List Nat → Int
  | [], _ => 1
  | r :: rs, cs => dtGo (A r) (dt A rs) [] 1 cs

theorem dt2 (A : Nat → Nat → Int) (r0 r1 c0 c1 : Nat) : dt A [r0, r1] [c0, c1] = A r0 c0 * A r1 c1 - A r0 c1 * A r1 c0 := by
  simp [dt, dtGo]; grind
theorem dt1 (A : Nat → Nat → Int) (r0 c0 : Nat) : dt A [r0] [c0] = A r0 c0 := by
  simp [dt, dtGo]
theorem dt3 (A : Nat → Nat → Int) (r0 r1 r2 c0 c1 c2 : Nat) : dt A [r0, r1, r2] [c0, c1, c2] =
    A r0 c0 * (A r1 c1 * A r2 c2 - A r1 c2 * A r2 c1) - A r0 c1 * (A r1 c0 * A r2 c2 - A r1 c2 * A r2 c0) + A r0 c2 * (A r1 c0 * A r2 c1 - A r1 c1 * A r2 c0) := by
  simp [dt, dtGo]; grind
theorem dt4 (A : Nat → Nat → Int) (r0 r1 r2 r3 c0 c1 c2 c3 : Nat) : dt A [r0, r1, r2, r3] [c0, c1, c2, c3] =
    A r0 c0 * dt A [r1, r2, r3] [c1, c2, c3] - A r0 c1 * dt A [r1, r2, r3] [c0, c2, c3] + A r0 c2 * dt A [r1, r2, r3] [c0, c1, c3] - A r0 c3 * dt A [r1, r2, r3] [c0, c1, c2] := by
  rw [dt]; simp [dtGo]; grind

/-- What stands at a place behind k steps. -/
def ent (A : Nat → Nat → Int) (k i j : Nat) : Int :=
  if i < k then dt A (List.range k) ((List.range k).set i j) else dt A (List.range k ++ [i]) (List.range k ++ [j])
def lst (A : Nat → Nat → Int) (k : Nat) : Int := dt A (List.range k) (List.range k)

theorem ent_zero (A : Nat → Nat → Int) (i j : Nat) : ent A 0 i j = A i j := by simp [ent, dt1]
theorem lst_zero (A : Nat → Nat → Int) : lst A 0 = 1 := rfl

theorem range1 : List.range 1 = [0] := rfl
theorem range2 : List.range 2 = [0, 1] := rfl
theorem range3 : List.range 3 = [0, 1, 2] := rfl
theorem range4 : List.range 4 = [0, 1, 2, 3] := rfl

theorem lst_ent (A : Nat → Nat → Int) (k : Nat) : lst A (k + 1) = ent A k k k := by
  unfold lst ent
  rw [if_neg (by omega), List.range_succ]
theorem ent_pivot (A : Nat → Nat → Int) (k j : Nat) : ent A (k + 1) k j = ent A k k j := by
  unfold ent
  rw [if_pos (by omega), if_neg (by omega), List.range_succ]
  congr 1
  simp

set_option maxHeartbeats 2000000 in
/-- One step, each row but the pivot's. -/
theorem ent_step (A : Nat → Nat → Int) {k i : Nat} (j : Nat) (hk : k < 4) (hi : i < 4) (hne : i ≠ k) :
    ent A k i j * ent A k k k - ent A k i k * ent A k k j = lst A k * ent A (k + 1) i j := by
  rcases (show k = 0 ∨ k = 1 ∨ k = 2 ∨ k = 3 by omega) with rfl | rfl | rfl | rfl
  · simp only [ent, lst, range1, List.range_zero, List.nil_append, dt1, show ¬ i < 0 by omega, show ¬ (0 : Nat) < 0 by omega, show ¬ i < 0 + 1 by omega, if_false, dt, Nat.zero_add, List.cons_append, dt2]
    grind
  · rcases (show i = 0 ∨ i ≥ 2 by omega) with rfl | hi'
    · simp [ent, lst, range2, dt1, dt2]
      grind
    · simp [ent, lst, range2, dt1, dt2, dt3, show i ≠ 0 by omega, show ¬ i < 2 by omega]
      grind
  · rcases (show i = 0 ∨ i = 1 ∨ i = 3 by omega) with rfl | rfl | rfl
    · simp [ent, lst, range2, range3, dt2, dt3]
      grind
    · simp [ent, lst, range2, range3, dt2, dt3]
      grind
    · simp [ent, lst, range2, range3, dt2, dt3, dt4]
      grind
  · rcases (show i = 0 ∨ i = 1 ∨ i = 2 by omega) with rfl | rfl | rfl
    · simp [ent, lst, range3, range4, dt3, dt4]
      grind
    · simp [ent, lst, range3, range4, dt3, dt4]
      grind
    · simp [ent, lst, range3, range4, dt3, dt4]
      grind
end Go.Proofs.YtjcdkbalhleeeabDoor

/-
  Plain laws of the determinant of up to four rows: no pivot, rows changed, rows for columns, Cramer's rule, bounds. No program in sight.
-/
namespace Go.Proofs.YtjcdkbalhleeeabDoor

/-- The determinant of the first m rows and columns, and with one column in the place of another one. -/
def dtm (A : Nat → Nat → Int) (m : Nat) : Int := dt A (List.range m) (List.range m)
def dtp (A : Nat → Nat → Int) (m i j : Nat) : Int := dt A (List.range m) ((List.range m).set i j)

theorem lst_dtm (A : Nat → Nat → Int) (m : Nat) : lst A m = dtm A m := rfl
theorem ent_dtp (A : Nat → Nat → Int) {m i : Nat} (j : Nat) (h : i < m) : ent A m i j = dtp A m i j := by unfold ent; rw [if_pos h]; rfl

set_option maxHeartbeats 1000000 in
theorem no_pivot (A : Nat → Nat → Int) {m k : Nat} (hm : m ≤ 4) (hk : k < m) (hl : lst A k ≠ 0) (h : ∀ i, k ≤ i → i < m → ent A k i k = 0) : dtm A m = 0 := by
  unfold dtm
  rcases (show m = 1 ∨ m = 2 ∨ m = 3 ∨ m = 4 by omega) with rfl | rfl | rfl | rfl
  · obtain rfl : k = 0 := by omega
    have := h 0 (by omega) (by omega)
    simp [ent, dt1] at this
    rw [range1, dt1, this]
  · rcases (show k = 0 ∨ k = 1 by omega) with rfl | rfl
    · have h0 := h 0 (by omega) (by omega)
      have h1 := h 1 (by omega) (by omega)
      simp [ent, dt1] at h0 h1
      rw [range2, dt2, h0, h1]; simp
    · have h1 := h 1 (by omega) (by omega)
      simpa [ent, range2] using h1
  · rcases (show k = 0 ∨ k = 1 ∨ k = 2 by omega) with rfl | rfl | rfl
    · have h0 := h 0 (by omega) (by omega)
      have h1 := h 1 (by omega) (by omega)
      have h2 := h 2 (by omega) (by omega)
      simp [ent, dt1] at h0 h1 h2
      rw [range3, dt3, h0, h1, h2]; simp
    · have h1 := h 1 (by omega) (by omega)
      have h2 := h 2 (by omega) (by omega)
      simp [ent, lst, dt1, dt2] at h1 h2 hl
      have e : A 0 0 * dt A [0, 1, 2] [0, 1, 2] = (A 0 0 * A 1 1 - A 0 1 * A 1 0) * (A 0 0 * A 2 2 - A 0 2 * A 2 0) - (A 0 0 * A 2 1 - A 0 1 * A 2 0) * (A 0 0 * A 1 2 - A 0 2 * A 1 0) := by rw [dt3]; grind
      rw [h1, h2] at e
      simp at e
      rw [range3]
      rcases Int.mul_eq_zero.1 e with e | e
      · exact absurd e hl
      · exact e
    · have h2 := h 2 (by omega) (by omega)
      simpa [ent, range3, range2] using h2
  · rcases (show k = 0 ∨ k = 1 ∨ k = 2 ∨ k = 3 by omega) with rfl | rfl | rfl | rfl
    · have h0 := h 0 (by omega) (by omega)
      have h1 := h 1 (by omega) (by omega)
      have h2 := h 2 (by omega) (by omega)
      have h3 := h 3 (by omega) (by omega)
      simp [ent, dt1] at h0 h1 h2 h3
      rw [range4, dt4]
      simp only [dt3, h0, h1, h2, h3]
      grind
    · have h1 := h 1 (by omega) (by omega)
      have h2 := h 2 (by omega) (by omega)
      have h3 := h 3 (by omega) (by omega)
      simp [ent, lst, dt1, dt2] at h1 h2 h3 hl
      have e : A 0 0 * dt A [0, 1, 2, 3] [0, 1, 2, 3] =
          (A 0 0 * A 1 1 - A 0 1 * A 1 0) * dt A [0, 2, 3] [0, 2, 3] - (A 0 0 * A 2 1 - A 0 1 * A 2 0) * dt A [0, 1, 3] [0, 2, 3] + (A 0 0 * A 3 1 - A 0 1 * A 3 0) * dt A [0, 1, 2] [0, 2, 3] := by
        rw [dt4]; simp only [dt3]; grind
      rw [h1, h2, h3] at e
      simp at e
      rw [range4]
      rcases Int.mul_eq_zero.1 e with e | e
      · exact absurd e hl
      · exact e
    · have h2 := h 2 (by omega) (by omega)
      have h3 := h 3 (by omega) (by omega)
      simp [ent, lst, range2] at h2 h3 hl
      have e : dt A [0, 1] [0, 1] * dt A [0, 1, 2, 3] [0, 1, 2, 3] = dt A [0, 1, 2] [0, 1, 2] * dt A [0, 1, 3] [0, 1, 3] - dt A [0, 1, 3] [0, 1, 2] * dt A [0, 1, 2] [0, 1, 3] := by
        rw [dt4]; simp only [dt3, dt2]; grind
      rw [h2, h3] at e
      simp at e
      rw [range4]
      rcases Int.mul_eq_zero.1 e with e | e
      · exact absurd e hl
      · exact e
    · have h3 := h 3 (by omega) (by omega)
      simpa [ent, range3, range4] using h3

/-- Two rows changed. -/
def sw (k a i : Nat) : Nat := if i = k then a else if i = a then k else i
def swA (A : Nat → Nat → Int) (k a : Nat) : Nat → Nat → Int := fun i j => A (sw k a i) j

theorem dt_congr {A B : Nat → Nat → Int} : ∀ {rs : List Nat} (cs : List Nat), (∀ r ∈ rs, A r = B r) → dt A rs cs = dt B rs cs
  | [], _, _ => rfl
  | r :: rs, cs, h => by
    rw [dt, dt, h r (by simp)]
    have : dt A rs = dt B rs := funext fun cs => dt_congr cs fun r hr => h r (by simp [hr])
    rw [this]
theorem dtGo_ext {A : Nat → Int} {f g : List Nat → Int} (h : ∀ l, f l = g l) : ∀ (pre : List Nat) (s : Int) (cs : List Nat), dtGo A f pre s cs = dtGo A g pre s cs := by
  have : f = g := funext h
  subst this
  intros; rfl
theorem dt_rows {A : Nat → Nat → Int} {f : Nat → Nat} : ∀ {rs : List Nat} (cs : List Nat), dt (fun i j => A (f i) j) rs cs = dt A (rs.map f) cs
  | [], _ => rfl
  | r :: rs, cs => by
    rw [List.map_cons, dt, dt]
    exact dtGo_ext (fun l => dt_rows l) _ _ _
theorem ent_swap (A : Nat → Nat → Int) {k a i j : Nat} (ha : k ≤ a) (hi : k ≤ i) : ent (swA A k a) k i j = ent A k (sw k a i) j := by
  have hs : ¬ sw k a i < k := by unfold sw; split; omega; split <;> omega
  unfold ent
  rw [if_neg (by omega), if_neg hs]
  unfold swA
  rw [dt_rows, List.map_append]
  congr 1
  have : (List.range k).map (sw k a) = List.range k := by
    conv => rhs; rw [← List.map_id (List.range k)]
    apply List.map_congr_left
    intro x hx
    have : x < k := by simpa using hx
    unfold sw; simp; split; omega; split; omega; rfl
  rw [this]; rfl
theorem ent_swap_up (A : Nat → Nat → Int) {k a i j : Nat} (ha : k ≤ a) (hi : i < k) : ent (swA A k a) k i j = ent A k i j := by
  unfold ent
  rw [if_pos hi, if_pos hi]
  unfold swA
  rw [dt_rows]
  congr 1
  conv => rhs; rw [← List.map_id (List.range k)]
  apply List.map_congr_left
  intro x hx
  have : x < k := by simpa using hx
  unfold sw; simp; split; omega; split; omega; rfl
theorem lst_swap (A : Nat → Nat → Int) {k a : Nat} (ha : k ≤ a) : lst (swA A k a) k = lst A k := by
  unfold lst swA
  rw [dt_rows]
  congr 1
  conv => rhs; rw [← List.map_id (List.range k)]
  apply List.map_congr_left
  intro x hx
  have : x < k := by simpa using hx
  unfold sw; simp; split; omega; split; omega; rfl

theorem list_len2 {l : List Nat} (h : l.length = 2) : ∃ a b, l = [a, b] := by
  obtain _ | ⟨a, _ | ⟨b, _ | ⟨c, l⟩⟩⟩ := l <;> simp at h; exact ⟨a, b, rfl⟩
theorem list_len3 {l : List Nat} (h : l.length = 3) : ∃ a b c, l = [a, b, c] := by
  obtain _ | ⟨a, _ | ⟨b, _ | ⟨c, _ | ⟨d, l⟩⟩⟩⟩ := l <;> simp at h; exact ⟨a, b, c, rfl⟩
theorem list_len4 {l : List Nat} (h : l.length = 4) : ∃ a b c d, l = [a, b, c, d] := by
  obtain _ | ⟨a, _ | ⟨b, _ | ⟨c, _ | ⟨d, _ | ⟨e, l⟩⟩⟩⟩⟩ := l <;> simp at h; exact ⟨a, b, c, d, rfl⟩

set_option maxHeartbeats 1000000 in
theorem dt_swap (A : Nat → Nat → Int) {m k a : Nat} (hm : m ≤ 4) (hk : k < a) (ha : a < m) {cs : List Nat} (hc : cs.length = m) : dt (swA A k a) (List.range m) cs = -dt A (List.range m) cs := by
  unfold swA
  rw [dt_rows]
  rcases (show m = 2 ∨ m = 3 ∨ m = 4 by omega) with rfl | rfl | rfl
  · obtain ⟨c0, c1, rfl⟩ := list_len2 hc
    obtain ⟨rfl, rfl⟩ : k = 0 ∧ a = 1 := by omega
    simp [range2, sw, dt2]; grind
  · obtain ⟨c0, c1, c2, rfl⟩ := list_len3 hc
    rcases (show (k = 0 ∧ a = 1) ∨ (k = 0 ∧ a = 2) ∨ (k = 1 ∧ a = 2) by omega) with ⟨rfl, rfl⟩ | ⟨rfl, rfl⟩ | ⟨rfl, rfl⟩ <;> (simp [range3, sw, dt3]; grind)
  · obtain ⟨c0, c1, c2, c3, rfl⟩ := list_len4 hc
    rcases (show (k = 0 ∧ a = 1) ∨ (k = 0 ∧ a = 2) ∨ (k = 0 ∧ a = 3) ∨ (k = 1 ∧ a = 2) ∨ (k = 1 ∧ a = 3) ∨ (k = 2 ∧ a = 3) by omega) with ⟨rfl, rfl⟩ | ⟨rfl, rfl⟩ | ⟨rfl, rfl⟩ | ⟨rfl, rfl⟩ | ⟨rfl, rfl⟩ | ⟨rfl, rfl⟩ <;> (simp [range4, sw, dt4, dt3]; grind)

set_option maxHeartbeats 1000000 in
/-- Rows for columns. -/
theorem dt_flip (A : Nat → Nat → Int) {m : Nat} (hm : m ≤ 4) : dtm (fun i j => A j i) m = dtm A m := by
  unfold dtm
  rcases (show m = 0 ∨ m = 1 ∨ m = 2 ∨ m = 3 ∨ m = 4 by omega) with rfl | rfl | rfl | rfl | rfl
  · rfl
  · simp [dt1]
  · simp [range2, dt2]; grind
  · simp [range3, dt3]; grind
  · simp [range4, dt4, dt3]; grind

set_option maxHeartbeats 1000000 in
/-- Cramer's rule. -/
theorem cramer (A : Nat → Nat → Int) {m i : Nat} (j : Nat) (hm : m ≤ 4) (hi : i < m) : sumN (fun k => A i k * dtp A m k j) m = A i j * dtm A m := by
  unfold dtm dtp
  rcases (show m = 1 ∨ m = 2 ∨ m = 3 ∨ m = 4 by omega) with rfl | rfl | rfl | rfl
  · obtain rfl : i = 0 := by omega
    simp [sumN, dt1]; grind
  · rcases (show i = 0 ∨ i = 1 by omega) with rfl | rfl <;> (simp [sumN, range2, dt2]; grind)
  · rcases (show i = 0 ∨ i = 1 ∨ i = 2 by omega) with rfl | rfl | rfl <;> (simp [sumN, range3, dt3]; grind)
  · rcases (show i = 0 ∨ i = 1 ∨ i = 2 ∨ i = 3 by omega) with rfl | rfl | rfl | rfl <;> (simp [sumN, range4, dt4, dt3]; grind)
end Go.Proofs.YtjcdkbalhleeeabDoor

/-
  Plain words for chapter 3: what columns come to; bounds. No program in sight.
-/
namespace Go.Proofs.YtjcdkbalhleeeabDoor

/-- Numbers within a bound that the column gives. -/
def Within (A : Nat → Nat → Int) (b : Nat → Int) : Prop := ∀ i c, (-b c ≤ A i c ∧ A i c ≤ b c) ∧ 0 ≤ b c

theorem mul_within {x y B C : Int} (hx : -B ≤ x ∧ x ≤ B) (hy : -C ≤ y ∧ y ≤ C) : -(B * C) ≤ x * y ∧ x * y ≤ B * C := mul_bound x y B C hx.1 hx.2 hy.1 hy.2
theorem dt2_within {A : Nat → Nat → Int} {b : Nat → Int} (h : Within A b) (r0 r1 c0 c1 : Nat) : -(2 * (b c0 * b c1)) ≤ dt A [r0, r1] [c0, c1] ∧ dt A [r0, r1] [c0, c1] ≤ 2 * (b c0 * b c1) := by
  rw [dt2]
  have h1 := mul_within (h r0 c0).1 (h r1 c1).1
  have h2 := mul_within (h r0 c1).1 (h r1 c0).1
  rw [Int.mul_comm (b c1) (b c0)] at h2
  omega
theorem dt3_by (A : Nat → Nat → Int) (r0 r1 r2 c0 c1 c2 : Nat) : dt A [r0, r1, r2] [c0, c1, c2] =
    A r0 c0 * dt A [r1, r2] [c1, c2] - A r0 c1 * dt A [r1, r2] [c0, c2] + A r0 c2 * dt A [r1, r2] [c0, c1] := by rw [dt3, dt2, dt2, dt2]
theorem dt3_within {A : Nat → Nat → Int} {b : Nat → Int} (h : Within A b) (r0 r1 r2 c0 c1 c2 : Nat) :
    -(6 * (b c0 * (b c1 * b c2))) ≤ dt A [r0, r1, r2] [c0, c1, c2] ∧ dt A [r0, r1, r2] [c0, c1, c2] ≤ 6 * (b c0 * (b c1 * b c2)) := by
  rw [dt3_by]
  have h1 := mul_within (h r0 c0).1 (dt2_within h r1 r2 c1 c2)
  have h2 := mul_within (h r0 c1).1 (dt2_within h r1 r2 c0 c2)
  have h3 := mul_within (h r0 c2).1 (dt2_within h r1 r2 c0 c1)
  rw [show b c0 * (2 * (b c1 * b c2)) = 2 * (b c0 * (b c1 * b c2)) by ac_rfl] at h1
  rw [show b c1 * (2 * (b c0 * b c2)) = 2 * (b c0 * (b c1 * b c2)) by ac_rfl] at h2
  rw [show b c2 * (2 * (b c0 * b c1)) = 2 * (b c0 * (b c1 * b c2)) by ac_rfl] at h3
  omega
theorem dt4_within {A : Nat → Nat → Int} {b : Nat → Int} (h : Within A b) (r0 r1 r2 r3 c0 c1 c2 c3 : Nat) :
    -(24 * (b c0 * (b c1 * (b c2 * b c3)))) ≤ dt A [r0, r1, r2, r3] [c0, c1, c2, c3] ∧ dt A [r0, r1, r2, r3] [c0, c1, c2, c3] ≤ 24 * (b c0 * (b c1 * (b c2 * b c3))) := by
  rw [dt4]
  have h1 := mul_within (h r0 c0).1 (dt3_within h r1 r2 r3 c1 c2 c3)
  have h2 := mul_within (h r0 c1).1 (dt3_within h r1 r2 r3 c0 c2 c3)
  have h3 := mul_within (h r0 c2).1 (dt3_within h r1 r2 r3 c0 c1 c3)
  have h4 := mul_within (h r0 c3).1 (dt3_within h r1 r2 r3 c0 c1 c2)
  rw [show b c0 * (6 * (b c1 * (b c2 * b c3))) = 6 * (b c0 * (b c1 * (b c2 * b c3))) by ac_rfl] at h1
  rw [show b c1 * (6 * (b c0 * (b c2 * b c3))) = 6 * (b c0 * (b c1 * (b c2 * b c3))) by ac_rfl] at h2
  rw [show b c2 * (6 * (b c0 * (b c1 * b c3))) = 6 * (b c0 * (b c1 * (b c2 * b c3))) by ac_rfl] at h3
  rw [show b c3 * (6 * (b c0 * (b c1 * b c2))) = 6 * (b c0 * (b c1 * (b c2 * b c3))) by ac_rfl] at h4
  omega

/-- Entries up to 12, and up to 400 in the last column. -/
def Small (A : Nat → Nat → Int) (m : Nat) : Prop := ∀ i j, (-400 ≤ A i j ∧ A i j ≤ 400) ∧ (j < m → -12 ≤ A i j ∧ A i j ≤ 12)
theorem Small.swA {A : Nat → Nat → Int} {m : Nat} (h : Small A m) (k a : Nat) : Small (swA A k a) m := fun i j => h (sw k a i) j
theorem Small.within {A : Nat → Nat → Int} {m k : Nat} (h : Small A m) (hk : k ≤ m) : Within A (fun c => if c < k then 12 else 400) := fun i c => by
  have := h i c
  by_cases hc : c < k
  · simp only [hc, if_true]; exact ⟨this.2 (by omega), by omega⟩
  · simp only [hc, if_false]; exact ⟨this.1, by omega⟩

set_option maxHeartbeats 1000000 in
theorem ent_within {A : Nat → Nat → Int} {m k i : Nat} (j : Nat) (h : Small A m) (hm : m ≤ 4) (hk : k ≤ m) (hi : i < m) : -16588800 ≤ ent A k i j ∧ ent A k i j ≤ 16588800 := by
  have hw := h.within hk
  have hb : (if j < k then (12 : Int) else 400) ≤ 400 ∧ 0 ≤ (if j < k then (12 : Int) else 400) := by split <;> omega
  unfold ent
  split
  · rename_i hik
    rcases (show k = 1 ∨ k = 2 ∨ k = 3 ∨ k = 4 by omega) with rfl | rfl | rfl | rfl
    · obtain rfl : i = 0 := by omega
      simp only [range1, List.set, dt1]
      have := (h 0 j).1
      omega
    · rcases (show i = 0 ∨ i = 1 by omega) with rfl | rfl
      · have := dt2_within hw 0 1 j 1
        simp only [range2, List.set]
        simp only [show (1 : Nat) < 2 by omega, if_true] at this
        omega
      · have := dt2_within hw 0 1 0 j
        simp only [range2, List.set]
        simp only [show (0 : Nat) < 2 by omega, if_true] at this
        omega
    · rcases (show i = 0 ∨ i = 1 ∨ i = 2 by omega) with rfl | rfl | rfl
      · have := dt3_within hw 0 1 2 j 1 2
        simp only [range3, List.set]
        simp only [show (1 : Nat) < 3 by omega, show (2 : Nat) < 3 by omega, if_true] at this
        omega
      · have := dt3_within hw 0 1 2 0 j 2
        simp only [range3, List.set]
        simp only [show (0 : Nat) < 3 by omega, show (2 : Nat) < 3 by omega, if_true] at this
        omega
      · have := dt3_within hw 0 1 2 0 1 j
        simp only [range3, List.set]
        simp only [show (0 : Nat) < 3 by omega, show (1 : Nat) < 3 by omega, if_true] at this
        omega
    · rcases (show i = 0 ∨ i = 1 ∨ i = 2 ∨ i = 3 by omega) with rfl | rfl | rfl | rfl
      · have := dt4_within hw 0 1 2 3 j 1 2 3
        simp only [range4, List.set]
        simp only [show (1 : Nat) < 4 by omega, show (2 : Nat) < 4 by omega, show (3 : Nat) < 4 by omega, if_true] at this
        omega
      · have := dt4_within hw 0 1 2 3 0 j 2 3
        simp only [range4, List.set]
        simp only [show (0 : Nat) < 4 by omega, show (2 : Nat) < 4 by omega, show (3 : Nat) < 4 by omega, if_true] at this
        omega
      · have := dt4_within hw 0 1 2 3 0 1 j 3
        simp only [range4, List.set]
        simp only [show (0 : Nat) < 4 by omega, show (1 : Nat) < 4 by omega, show (3 : Nat) < 4 by omega, if_true] at this
        omega
      · have := dt4_within hw 0 1 2 3 0 1 2 j
        simp only [range4, List.set]
        simp only [show (0 : Nat) < 4 by omega, show (1 : Nat) < 4 by omega, show (2 : Nat) < 4 by omega, if_true] at this
        omega
  · rcases (show k = 0 ∨ k = 1 ∨ k = 2 ∨ k = 3 by omega) with rfl | rfl | rfl | rfl
    · simp only [List.range_zero, List.nil_append, dt1]
      have := (h i j).1
      omega
    · have := dt2_within hw 0 i 0 j
      simp only [range1, List.cons_append, List.nil_append]
      simp only [show (0 : Nat) < 1 by omega, if_true] at this
      omega
    · have := dt3_within hw 0 1 i 0 1 j
      simp only [range2, List.cons_append, List.nil_append]
      simp only [show (0 : Nat) < 2 by omega, show (1 : Nat) < 2 by omega, if_true] at this
      omega
    · have := dt4_within hw 0 1 2 i 0 1 2 j
      simp only [range3, List.cons_append, List.nil_append]
      simp only [show (0 : Nat) < 3 by omega, show (1 : Nat) < 3 by omega, show (2 : Nat) < 3 by omega, if_true] at this
      omega
theorem dtp_within {A : Nat → Nat → Int} {m i : Nat} (j : Nat) (h : Small A m) (hm : m ≤ 4) (hi : i < m) : -16588800 ≤ dtp A m i j ∧ dtp A m i j ≤ 16588800 := by
  rw [← ent_dtp A j hi]; exact ent_within j h hm (Nat.le_refl _) hi
theorem dtm_within {A : Nat → Nat → Int} {m : Nat} (h : Small A m) (hm : m ≤ 4) : -497664 ≤ dtm A m ∧ dtm A m ≤ 497664 := by
  have hw := h.within (Nat.le_refl m)
  unfold dtm
  rcases (show m = 0 ∨ m = 1 ∨ m = 2 ∨ m = 3 ∨ m = 4 by omega) with rfl | rfl | rfl | rfl | rfl
  · simp [dt]
  · have := (h 0 0).2 (by omega)
    simp only [range1, dt1]; omega
  · have := dt2_within hw 0 1 0 1
    simp at this
    rw [range2]; omega
  · have := dt3_within hw 0 1 2 0 1 2
    simp at this
    rw [range3]; omega
  · have := dt4_within hw 0 1 2 3 0 1 2 3
    simp at this
    rw [range4]; omega

/-! What columns come to. -/
/-- A corner. -/
structure CO where
  xs : List Int
  xd : Int
  ys : List Int
  yd : Int
  gs : List Int
  gd : Int

/-- The equations of the columns, with what the rows may be at most behind them; and of the rows, with what the columns are worth. -/
def matD (p : PG) (l : List Nat) (i j : Nat) : Int := if j < l.length then hasZ p i (l.getD j 0) else (mosts p).getD i 0
def matU (p : PG) (l : List Nat) (i j : Nat) : Int := if j < l.length then hasZ p j (l.getD i 0) else costZ p (l.getD i 0)
def denZ (p : PG) (l : List Nat) : Int := dtm (matD p l) p.rows.length
def xk (p : PG) (l : List Nat) (k : Nat) : Int := dtp (matD p l) p.rows.length k p.rows.length
def yk (p : PG) (l : List Nat) (k : Nat) : Int := dtp (matU p l) p.rows.length k p.rows.length
/-- Numbers put into their places among N, of the first n of l. -/
def putAll (l : List Nat) (v : Nat → Int) (N n : Nat) : List Int := (List.range n).foldl (fun a k => a.set (l.getD k 0) (v k)) (List.replicate N 0)
def xall (p : PG) (l : List Nat) : List Int := putAll l (xk p l) (p.costs.length + p.rows.length) p.rows.length
def yall (p : PG) (l : List Nat) : List Int := (List.range p.rows.length).map (yk p l)
def gk (p : PG) (l : List Nat) (j n : Nat) : Int := costZ p j * denZ p l - sumN (fun i => yk p l i * hasZ p i j) n
def gall (p : PG) (l : List Nat) : List Int := (List.range (p.costs.length + p.rows.length)).map fun j => gk p l j p.rows.length
/-- Are columns as many as rows, rising, of all columns? -/
def risingB (last : Int) (n : Nat) : List Int → Bool
  | [] => true
  | j :: l => decide (last < j) && (decide (j < n) && risingB j n l)
def rightA (p : PG) (l : List Int) : Bool := decide (l.length = p.rows.length) && risingB (-1) (p.costs.length + p.rows.length) l
def nats (l : List Int) : List Nat := l.map Int.toNat
def lookE (p : PG) (l : List Int) : Int := if mayPB p = false then 2 else if rightA p l = false then 3 else if denZ p (nats l) = 0 then 4 else 0
def lookC (p : PG) (l : List Int) : CO :=
  if lookE p l = 0 then
    ⟨ptN (xall p (nats l)) (denZ p (nats l)), ptD (xall p (nats l)) (denZ p (nats l)), ptN (yall p (nats l)) (denZ p (nats l)), ptD (yall p (nats l)) (denZ p (nats l)), ptN (gall p (nats l)) (denZ p (nats l)), ptD (gall p (nats l)) (denZ p (nats l))⟩
  else ⟨[], 0, [], 0, [], 0⟩

theorem length_putAll (l : List Nat) (v : Nat → Int) (N n : Nat) : (putAll l v N n).length = N := by
  unfold putAll
  induction n with
  | zero => simp
  | succ n ih => rw [List.range_succ, List.foldl_append]; simpa using ih
theorem putAll_succ (l : List Nat) (v : Nat → Int) (N n : Nat) : putAll l v N (n + 1) = (putAll l v N n).set (l.getD n 0) (v n) := by
  unfold putAll; rw [List.range_succ, List.foldl_append]; rfl
theorem gk_succ (p : PG) (l : List Nat) (j n : Nat) : gk p l j (n + 1) = gk p l j n - yk p l n * hasZ p n j := by unfold gk; rw [sumN]; omega
theorem gk_zero (p : PG) (l : List Nat) (j : Nat) : gk p l j 0 = costZ p j * denZ p l := by unfold gk; simp [sumN]

theorem mosts_at_bound {p : PG} (hp : mayPB p = true) (i : Nat) : -12 ≤ (mosts p).getD i 0 ∧ (mosts p).getD i 0 ≤ 12 := by
  by_cases h : i < (mosts p).length
  · have := smallB_at (mosts_small hp) h
    simpa [List.getD, List.getElem?_eq_getElem h] using this
  · simp [List.getD, List.getElem?_eq_none (Nat.le_of_not_lt h)]
theorem matD_small {p : PG} {l : List Nat} (hp : mayPB p = true) : Small (matD p l) l.length := fun i j => by
  unfold matD
  have h1 := hasZ_bound hp i (l.getD j 0)
  have h2 := mosts_at_bound hp i
  by_cases hj : j < l.length
  · rw [if_pos hj]; omega
  · rw [if_neg hj]; omega
theorem matU_small {p : PG} {l : List Nat} (hp : mayPB p = true) : Small (matU p l) l.length := fun i j => by
  unfold matU
  have h1 := hasZ_bound hp j (l.getD i 0)
  have h2 := costZ_bound hp (l.getD i 0)
  by_cases hj : j < l.length
  · rw [if_pos hj]; omega
  · rw [if_neg hj]; omega
theorem dt_congr2 {A B : Nat → Nat → Int} : ∀ {rs cs : List Nat}, (∀ r ∈ rs, ∀ c ∈ cs, A r c = B r c) → dt A rs cs = dt B rs cs
  | [], _, _ => rfl
  | r :: rs, cs, h => by
    rw [dt, dt]
    have gen : ∀ (cs' pre : List Nat) (s : Int), (∀ c ∈ pre ++ cs', c ∈ cs) → dtGo (A r) (dt A rs) pre s cs' = dtGo (B r) (dt B rs) pre s cs' := by
      intro cs'
      induction cs' with
      | nil => intros; rfl
      | cons c cs' ih =>
        intro pre s hm
        rw [dtGo, dtGo, h r (by simp) c (hm c (by simp)), dt_congr2 (A := A) (B := B) (rs := rs) (cs := pre ++ cs') fun r' hr c' hc' => h r' (by simp [hr]) c' (hm c' (by
          rcases List.mem_append.1 hc' with h | h
          · simp [h]
          · simp [h]))]
        rw [ih (pre ++ [c]) (-s) (by simpa using hm)]
    exact gen cs [] 1 (by simp)
/-- Both ways the divisor is one. -/
theorem den_flip {p : PG} {l : List Nat} (hl : l.length = p.rows.length) (h4 : p.rows.length ≤ 4) : dtm (matU p l) p.rows.length = denZ p l := by
  unfold denZ
  rw [← dt_flip (matD p l) h4]
  unfold dtm
  refine dt_congr2 fun r hr c hc => ?_
  have hr' : r < p.rows.length := by simpa using hr
  have hc' : c < p.rows.length := by simpa using hc
  simp only [matU, matD]
  rw [if_pos (by omega), if_pos (by omega)]
theorem den_bound {p : PG} {l : List Nat} (hp : mayPB p = true) (hl : l.length = p.rows.length) : -497664 ≤ denZ p l ∧ denZ p l ≤ 497664 := by
  have h4 := (mayPB_iff.1 hp).2.2.2.1
  unfold denZ
  exact dtm_within (hl ▸ matD_small hp) h4
theorem xk_bound {p : PG} {l : List Nat} (hp : mayPB p = true) (hl : l.length = p.rows.length) {k : Nat} (hk : k < p.rows.length) : -16588800 ≤ xk p l k ∧ xk p l k ≤ 16588800 := by
  have h4 := (mayPB_iff.1 hp).2.2.2.1
  exact dtp_within _ (hl ▸ matD_small hp) h4 hk
theorem yk_bound {p : PG} {l : List Nat} (hp : mayPB p = true) (hl : l.length = p.rows.length) {k : Nat} (hk : k < p.rows.length) : -16588800 ≤ yk p l k ∧ yk p l k ≤ 16588800 := by
  have h4 := (mayPB_iff.1 hp).2.2.2.1
  exact dtp_within _ (hl ▸ matU_small hp) h4 hk
theorem gk_bound {p : PG} {l : List Nat} (hp : mayPB p = true) (hl : l.length = p.rows.length) (j : Nat) {n : Nat} (hn : n ≤ p.rows.length) : -995328000 ≤ gk p l j n ∧ gk p l j n ≤ 995328000 := by
  have h4 := (mayPB_iff.1 hp).2.2.2.1
  have hd := den_bound hp hl
  have hc := costZ_bound hp j
  have h1 := mul_bound (costZ p j) (denZ p l) 400 497664 hc.1 hc.2 hd.1 hd.2
  have h2 : ∀ n, n ≤ p.rows.length → -(n * 199065600 : Int) ≤ sumN (fun i => yk p l i * hasZ p i j) n ∧ sumN (fun i => yk p l i * hasZ p i j) n ≤ n * 199065600 := by
    intro n
    induction n with
    | zero => intro _; simp [sumN]
    | succ n ih =>
      intro hn
      have hy := yk_bound hp hl (k := n) (by omega)
      have hh := hasZ_bound hp n j
      have h3 := mul_bound (yk p l n) (hasZ p n j) 16588800 12 hy.1 hy.2 hh.1 hh.2
      have := ih (by omega)
      rw [sumN]
      push_cast
      omega
  have := h2 n hn
  have hn4 : (n : Int) ≤ 4 := by omega
  unfold gk
  omega
end Go.Proofs.YtjcdkbalhleeeabDoor

/-
  Plain law for FracMakes: the fraction of twice both, and of both below 0, is the same. No program in sight; the numbers are within 2^32.
-/
namespace Go.Proofs.YtjcdkbalhleeeabDoor

theorem ptE_of {l : List Int} {d : Int} (h0 : d ≠ 0) (h1 : smallB 4611686018427387904 l = true) (h2 : -4611686018427387904 ≤ d ∧ d ≤ 4611686018427387904) :
    ptE l d = if rightB (divs l (sgcd l d)) (d.tdiv (sgcd l d)) then 0 else 1 := by
  unfold ptE
  rw [if_neg]
  simp [h0, h1, smallB_one, h2.1, h2.2]
theorem frN_eq {n d : Int} (h : ptE [n] d = 0) : frN n d = n.tdiv (sgcd [n] d) := by simp [frN, ptN, h, divs]
theorem ptD_eq {l : List Int} {d : Int} (h : ptE l d = 0) : ptD l d = d.tdiv (sgcd l d) := by simp [ptD, h]
theorem sgcd_dvd {l : List Int} {d : Int} : sgcd l d ∣ d ∧ ∀ n ∈ l, sgcd l d ∣ n := by
  obtain ⟨h1, h2⟩ := comm_dvd d.natAbs l
  have hs : (sgcd l d).natAbs = comm d.natAbs l := by unfold sgcd; split <;> simp
  refine ⟨by rw [← Int.natAbs_dvd_natAbs, hs]; exact h1, fun n hn => ?_⟩
  have := h2 n hn
  rw [Int.ofNat_dvd_left] at this
  rw [← Int.natAbs_dvd_natAbs, hs]; exact this
theorem sgcd_neg {n d : Int} (hd : d ≠ 0) : sgcd [-n] (-d) = -sgcd [n] d := by
  unfold sgcd comm
  simp only [List.foldl, Int.natAbs_neg]
  by_cases h : d < 0
  · rw [if_neg (by omega), if_pos h]; simp
  · rw [if_pos (by omega), if_neg h]
theorem sgcd_two {n d : Int} : sgcd [2 * n] (2 * d) = 2 * sgcd [n] d := by
  unfold sgcd comm
  simp only [List.foldl, Int.natAbs_mul]
  rw [show (2 : Int).natAbs = 2 from rfl, Nat.gcd_mul_left]
  by_cases h : d < 0
  · rw [if_pos (by omega), if_pos h]; simp [Int.mul_neg]
  · rw [if_neg (by omega), if_neg h]; simp
theorem tdiv_two (n g : Int) : (2 * n).tdiv (2 * g) = n.tdiv g := Int.mul_tdiv_mul_of_pos _ _ (by omega)
theorem sgcd_sign {l : List Int} {d : Int} (hd : d ≠ 0) : 0 < d.tdiv (sgcd l d) := by
  have hg := comm_pos d.natAbs l (Int.natAbs_pos.2 hd)
  obtain ⟨k, hk⟩ := (sgcd_dvd (l := l) (d := d)).1
  have h0 := sgcd_ne (l := l) hd
  have e : d.tdiv (sgcd l d) = k := by
    rw [show d.tdiv (sgcd l d) = (sgcd l d * k).tdiv (sgcd l d) by rw [← hk]]; exact Int.mul_tdiv_cancel_left _ h0
  rw [e]
  by_cases h : d < 0
  · have hs : sgcd l d = -(comm d.natAbs l : Int) := by unfold sgcd; rw [if_pos h]
    rw [hs] at hk
    rcases Int.lt_trichotomy k 0 with hk0 | hk0 | hk0
    · have := Int.mul_pos_of_neg_of_neg (show -(comm d.natAbs l : Int) < 0 by omega) hk0
      omega
    · subst hk0; simp at hk; omega
    · exact hk0
  · have hs : sgcd l d = (comm d.natAbs l : Int) := by unfold sgcd; rw [if_neg h]
    rw [hs] at hk
    rcases Int.lt_trichotomy k 0 with hk0 | hk0 | hk0
    · have := Int.mul_neg_of_pos_of_neg (show 0 < (comm d.natAbs l : Int) by omega) hk0
      omega
    · subst hk0; simp at hk; omega
    · exact hk0
/-- The fraction's parts stand to each other as the numbers do. -/
theorem sgcd_cross {n d : Int} (hd : d ≠ 0) : n.tdiv (sgcd [n] d) * d = n * d.tdiv (sgcd [n] d) := by
  have h0 := sgcd_ne (l := [n]) hd
  obtain ⟨⟨k, hk⟩, h2⟩ := sgcd_dvd (l := [n]) (d := d)
  obtain ⟨j, hj⟩ := h2 n (by simp)
  generalize sgcd [n] d = g at *
  subst hk hj
  rw [Int.mul_tdiv_cancel_left _ h0, Int.mul_tdiv_cancel_left _ h0]
  ac_rfl
theorem mayB_pt {l : List Int} {d : Int} (h : ptE l d = 0) : mayB (ptN l d) (ptD l d) = true := by
  have hc : d ≠ 0 ∧ rightB (divs l (sgcd l d)) (d.tdiv (sgcd l d)) = true := by
    unfold ptE at h
    split at h
    · omega
    · rename_i hh
      split at h
      · rename_i hr; exact ⟨fun e => hh (Or.inl e), hr⟩
      · omega
  unfold mayB ptN ptD
  rw [h, if_pos rfl, if_pos rfl, comm_divs l d hc.1, hc.2]
  rfl

structure FracSame (n d n' d' : Int) : Prop where
  he : ptE [n'] d' = ptE [n] d
  hn : frN n' d' = frN n d
  hd : ptD [n'] d' = ptD [n] d
theorem same_of {n d n' d' : Int} (h0 : d ≠ 0) (h0' : d' ≠ 0) (h1 : -4611686018427387904 ≤ n ∧ n ≤ 4611686018427387904) (h1' : -4611686018427387904 ≤ n' ∧ n' ≤ 4611686018427387904)
    (h2 : -4611686018427387904 ≤ d ∧ d ≤ 4611686018427387904) (h2' : -4611686018427387904 ≤ d' ∧ d' ≤ 4611686018427387904)
    (hn : n'.tdiv (sgcd [n'] d') = n.tdiv (sgcd [n] d)) (hd : d'.tdiv (sgcd [n'] d') = d.tdiv (sgcd [n] d)) : FracSame n d n' d' := by
  have he : ptE [n'] d' = ptE [n] d := by
    rw [ptE_of h0 (by rw [smallB_one]; simp [h1]) h2, ptE_of h0' (by rw [smallB_one]; simp [h1']) h2', hd]
    simp [divs, hn]
  refine ⟨he, ?_, ?_⟩
  · unfold frN ptN; rw [he]; simp only [divs, List.map_cons, List.map_nil, hn]
  · unfold ptD; rw [he, hd]
theorem same_two {n d : Int} (h0 : d ≠ 0) (h1 : -2147483648 ≤ n ∧ n ≤ 2147483648) (h2 : -2147483648 ≤ d ∧ d ≤ 2147483648) : FracSame n d (2 * n) (2 * d) :=
  same_of h0 (by omega) (by omega) (by omega) (by omega) (by omega) (by rw [sgcd_two, tdiv_two]) (by rw [sgcd_two, tdiv_two])
theorem same_neg {n d : Int} (h0 : d ≠ 0) (h1 : -2147483648 ≤ n ∧ n ≤ 2147483648) (h2 : -2147483648 ≤ d ∧ d ≤ 2147483648) : FracSame n d (-n) (-d) :=
  same_of h0 (by omega) (by omega) (by omega) (by omega) (by omega) (by rw [sgcd_neg h0, Int.neg_tdiv, Int.tdiv_neg]; omega) (by rw [sgcd_neg h0, Int.neg_tdiv, Int.tdiv_neg]; omega)
theorem ptE_one {n d : Int} (h0 : d ≠ 0) (h1 : -2147483648 ≤ n ∧ n ≤ 2147483648) (h2 : -2147483648 ≤ d ∧ d ≤ 2147483648) (he : ptE [n] d ≠ 0) : ptE [n] d = 1 := by
  rw [ptE_of h0 (by rw [smallB_one]; simp; omega) (by omega)] at he ⊢
  split at he
  · omega
  · rename_i h; rw [if_neg h]
theorem frac_good {n d : Int} (h0 : d ≠ 0) (he : ptE [n] d = 0) :
    frN n d * d = n * ptD [n] d ∧ 0 < ptD [n] d ∧ mayB [frN n d] (ptD [n] d) = true ∧ -1073741824 ≤ frN n d ∧ frN n d ≤ 1073741824 ∧ ptD [n] d ≤ 1073741824 := by
  have hm := mayB_pt he
  have hN : ptN [n] d = [frN n d] := by unfold frN ptN; rw [if_pos he]; simp [divs]
  rw [hN] at hm
  refine ⟨by rw [frN_eq he, ptD_eq he]; exact sgcd_cross h0, by rw [ptD_eq he]; exact sgcd_sign h0, hm, ?_⟩
  simp [mayB, rightB, smallB] at hm
  omega
end Go.Proofs.YtjcdkbalhleeeabDoor

/-
  Plain laws of corners: the equations hold, gains of a corner's own columns are 0, both worths are one. No program in sight.
-/
namespace Go.Proofs.YtjcdkbalhleeeabDoor

/-! Columns that are right. -/
theorem rising_parts {last : Int} {n : Nat} {l : List Int} (h : risingB last n l = true) : (∀ j ∈ l, last < j ∧ j < n) ∧ l.Pairwise (· < ·) := by
  induction l generalizing last with
  | nil => simp
  | cons j l ih =>
    simp only [risingB, Bool.and_eq_true, decide_eq_true_eq] at h
    obtain ⟨h1, h2, h3⟩ := h
    obtain ⟨g1, g2⟩ := ih h3
    refine ⟨fun x hx => ?_, List.pairwise_cons.2 ⟨fun x hx => (g1 x hx).1, g2⟩⟩
    rcases List.mem_cons.1 hx with rfl | hx
    · exact ⟨h1, h2⟩
    · have := g1 x hx; omega
structure RightL (p : PG) (l : List Nat) : Prop where
  len : l.length = p.rows.length
  lt : ∀ j ∈ l, j < p.costs.length + p.rows.length
  pw : l.Pairwise (· < ·)
theorem right_nats {p : PG} {l : List Int} (h : rightA p l = true) : RightL p (nats l) ∧ l = (nats l).map Int.ofNat := by
  simp only [rightA, Bool.and_eq_true, decide_eq_true_eq] at h
  obtain ⟨h1, h2⟩ := h
  obtain ⟨g1, g2⟩ := rising_parts h2
  have e : l = (nats l).map Int.ofNat := by
    unfold nats
    rw [List.map_map]
    conv => lhs; rw [← List.map_id l]
    apply List.map_congr_left
    intro x hx
    have := (g1 x hx).1
    simp; omega
  refine ⟨⟨by unfold nats; simpa using h1, ?_, ?_⟩, e⟩
  · intro j hj
    simp only [nats, List.mem_map] at hj
    obtain ⟨x, hx, rfl⟩ := hj
    have := g1 x hx; omega
  · unfold nats
    rw [List.pairwise_map]
    refine List.Pairwise.imp_of_mem ?_ g2
    intro a b ha hb hab
    have := g1 a ha; have := g1 b hb; omega
theorem RightL.at_lt {p : PG} {l : List Nat} (h : RightL p l) {k : Nat} (hk : k < l.length) : l.getD k 0 < p.costs.length + p.rows.length := by
  have := h.lt l[k] (List.getElem_mem hk)
  simpa [List.getD, List.getElem?_eq_getElem hk] using this
theorem RightL.ne {p : PG} {l : List Nat} (h : RightL p l) {i k : Nat} (hi : i < k) (hk : k < l.length) : l.getD i 0 < l.getD k 0 := by
  have := List.pairwise_iff_getElem.1 h.pw i k (by omega) hk hi
  simpa [List.getD, List.getElem?_eq_getElem hk, List.getElem?_eq_getElem (show i < l.length by omega)] using this

/-! Numbers put into places. -/
theorem getD_set {a : List Int} {i j : Nat} {x : Int} (h : i < a.length) : (a.set i x).getD j 0 = if j = i then x else a.getD j 0 := by
  simp only [List.getD, List.getElem?_set]
  by_cases e : i = j
  · subst e; simp [h]
  · rw [if_neg e, if_neg (fun h => e h.symm)]
theorem sumN_set {f : Nat → Int} {a : List Int} {i : Nat} {x : Int} (h : i < a.length) : ∀ n, sumN (fun j => f j * (a.set i x).getD j 0) n = sumN (fun j => f j * a.getD j 0) n + if i < n then f i * (x - a.getD i 0) else 0
  | 0 => by simp [sumN]
  | n + 1 => by
    rw [sumN, sumN, sumN_set h n, getD_set h]
    by_cases e : n = i
    · subst e; rw [if_pos rfl, if_neg (by omega), if_pos (by omega), Int.mul_sub]; omega
    · rw [if_neg e]
      by_cases e' : i < n
      · rw [if_pos e', if_pos (by omega)]; omega
      · rw [if_neg e', if_neg (by omega)]; omega
theorem putAll_zero {l : List Nat} {v : Nat → Int} {N n j : Nat} (h : ∀ k, k < n → l.getD k 0 ≠ j) : (putAll l v N n).getD j 0 = 0 := by
  induction n with
  | zero => simp [putAll, List.getD, List.getElem?_replicate]; split <;> rfl
  | succ n ih =>
    rw [putAll_succ]
    by_cases hl : l.getD n 0 < N
    · rw [getD_set (by rw [length_putAll]; exact hl), if_neg (fun e => h n (by omega) e.symm)]
      exact ih fun k hk => h k (by omega)
    · rw [List.set_eq_of_length_le (by rw [length_putAll]; omega)]
      exact ih fun k hk => h k (by omega)
theorem putAll_at {p : PG} {l : List Nat} (hr : RightL p l) {v : Nat → Int} {n k : Nat} (hk : k < n) (hn : n ≤ l.length) : (putAll l v (p.costs.length + p.rows.length) n).getD (l.getD k 0) 0 = v k := by
  induction n with
  | zero => omega
  | succ n ih =>
    rw [putAll_succ, getD_set (by rw [length_putAll]; exact hr.at_lt (by omega))]
    by_cases e : k = n
    · subst e; rw [if_pos rfl]
    · rw [if_neg (by have := hr.ne (i := k) (k := n) (by omega) (by omega); omega)]
      exact ih (by omega) (by omega)
theorem sum_putAll {p : PG} {l : List Nat} (hr : RightL p l) {v f : Nat → Int} : ∀ {n : Nat}, n ≤ l.length →
    sumN (fun j => f j * (putAll l v (p.costs.length + p.rows.length) n).getD j 0) (p.costs.length + p.rows.length) = sumN (fun k => f (l.getD k 0) * v k) n
  | 0, _ => by
    refine Eq.trans (sumN_congr (g := fun _ => 0) fun j _ => ?_) sumN_zero
    rw [putAll_zero (by omega)]; simp
  | n + 1, hn => by
    simp only [putAll_succ]
    have hlt := hr.at_lt (k := n) (by omega)
    rw [sumN_set (by rw [length_putAll]; exact hlt), sum_putAll hr (by omega), if_pos hlt, sumN]
    rw [putAll_zero (fun k hk => by have := hr.ne (i := k) (k := n) hk (by omega); omega)]
    simp

/-! The equations, ahead of all division. -/
section
variable {p : PG} {l : List Nat}
theorem sum_has_x (hr : RightL p l) (h4 : p.rows.length ≤ 4) {i : Nat} (hi : i < p.rows.length) :
    sumN (fun j => hasZ p i j * (xall p l).getD j 0) (p.costs.length + p.rows.length) = (mosts p).getD i 0 * denZ p l := by
  unfold xall
  rw [sum_putAll hr (by rw [hr.len]; exact Nat.le_refl _)]
  have := cramer (matD p l) p.rows.length h4 hi
  unfold denZ xk
  rw [show matD p l i p.rows.length = (mosts p).getD i 0 by unfold matD; rw [if_neg (by rw [hr.len]; omega)]] at this
  rw [← this]
  refine sumN_congr fun k hk => ?_
  unfold matD
  rw [if_pos (by rw [hr.len]; exact hk)]
theorem sum_has_y (hr : RightL p l) (h4 : p.rows.length ≤ 4) {k : Nat} (hk : k < p.rows.length) :
    sumN (fun i => yk p l i * hasZ p i (l.getD k 0)) p.rows.length = costZ p (l.getD k 0) * denZ p l := by
  have := cramer (matU p l) p.rows.length h4 hk
  rw [show matU p l k p.rows.length = costZ p (l.getD k 0) by unfold matU; rw [if_neg (by rw [hr.len]; omega)], den_flip hr.len h4] at this
  rw [← this]
  refine sumN_congr fun i hi => ?_
  rw [show matU p l k i = hasZ p i (l.getD k 0) by unfold matU; rw [if_pos (by rw [hr.len]; exact hi)], Int.mul_comm]
  rfl
theorem gain_own (hr : RightL p l) (h4 : p.rows.length ≤ 4) {k : Nat} (hk : k < p.rows.length) : gk p l (l.getD k 0) p.rows.length = 0 := by
  unfold gk; rw [sum_has_y hr h4 hk]; omega
/-- What the columns are worth is what the rows are. -/
theorem worth_both (hr : RightL p l) (h4 : p.rows.length ≤ 4) (hd : denZ p l ≠ 0) :
    sumN (fun j => costZ p j * (xall p l).getD j 0) (p.costs.length + p.rows.length) = sumN (fun i => (mosts p).getD i 0 * yk p l i) p.rows.length := by
  refine Int.eq_of_mul_eq_mul_right hd ?_
  have e1 : sumN (fun j => costZ p j * (xall p l).getD j 0) (p.costs.length + p.rows.length) = sumN (fun k => costZ p (l.getD k 0) * xk p l k) p.rows.length := by
    unfold xall; rw [sum_putAll hr (by rw [hr.len]; exact Nat.le_refl _)]
  rw [e1, ← sumN_mul', ← sumN_mul']
  have e2 : sumN (fun k => costZ p (l.getD k 0) * xk p l k * denZ p l) p.rows.length = sumN (fun k => sumN (fun i => yk p l i * hasZ p i (l.getD k 0) * xk p l k) p.rows.length) p.rows.length := by
    refine sumN_congr fun k hk => ?_
    rw [sumN_mul', sum_has_y hr h4 hk]; ac_rfl
  rw [e2, ← sumN_comm (f := fun i k => yk p l i * hasZ p i (l.getD k 0) * xk p l k)]
  refine sumN_congr fun i hi => ?_
  have := sum_has_x hr h4 hi
  unfold xall at this
  rw [sum_putAll hr (by rw [hr.len]; exact Nat.le_refl _)] at this
  have e3 : sumN (fun k => yk p l i * hasZ p i (l.getD k 0) * xk p l k) p.rows.length = yk p l i * sumN (fun k => hasZ p i (l.getD k 0) * xk p l k) p.rows.length := by
    rw [← sumN_mul]; exact sumN_congr fun k _ => Int.mul_assoc _ _ _
  rw [e3, this]; ac_rfl
end

/-! Divided. -/
theorem pt_ok {l : List Int} {d : Int} (hd : d ≠ 0) (hb : -1073741824 ≤ d ∧ d ≤ 1073741824) (hl : smallB 1073741824 l = true) (h8 : l.length ≤ 8) : ptE l d = 0 := by
  have hs : smallB 4611686018427387904 l = true := smallB_iff.2 fun n hn => by have := smallB_mem hl hn; omega
  rw [ptE_of hd hs (by omega), if_pos]
  have h1 := sgcd_sign (l := l) hd
  have h2 := tdiv_bound 1073741824 d (sgcd l d) hb.1 hb.2
  have h3 : smallB 1073741824 (divs l (sgcd l d)) = true := smallB_iff.2 fun n hn => by
    simp only [divs, List.mem_map] at hn
    obtain ⟨x, hx, rfl⟩ := hn
    have := smallB_mem hl hx
    exact tdiv_bound 1073741824 x _ this.1 this.2
  simp only [rightB, Bool.and_eq_true, decide_eq_true_eq, length_divs]
  exact ⟨by omega, by omega, h3, h8⟩
/-- Numbers divided are what they were, divided. -/
theorem pt_parts {l : List Int} {d : Int} (h : ptE l d = 0) : ∃ g : Int, g ≠ 0 ∧ d = g * ptD l d ∧ (∀ j, l.getD j 0 = g * (ptN l d).getD j 0) ∧ (ptN l d).length = l.length ∧ 0 < ptD l d := by
  have h0 : d ≠ 0 := fun e => by subst e; simp [ptE] at h
  obtain ⟨h1, h2⟩ := sgcd_dvd (l := l) (d := d)
  refine ⟨sgcd l d, sgcd_ne h0, ?_, ?_, ?_, ?_⟩
  · rw [ptD_eq h]; exact (Int.mul_tdiv_cancel' h1).symm
  · intro j
    simp only [ptN, h, if_true, divs]
    by_cases hj : j < l.length
    · simp only [List.getD, List.getElem?_map, List.getElem?_eq_getElem hj, Option.map_some, Option.getD_some]
      exact (Int.mul_tdiv_cancel' (h2 _ (List.getElem_mem hj))).symm
    · simp [List.getD, List.getElem?_eq_none (Nat.le_of_not_lt hj)]
  · simp [ptN, h, length_divs]
  · rw [ptD_eq h]; exact sgcd_sign h0

theorem smallB_getD {m : Int} {l : List Int} (hm : 0 ≤ m) : smallB m l = true ↔ ∀ j, -m ≤ l.getD j 0 ∧ l.getD j 0 ≤ m := by
  rw [smallB_iff]
  constructor
  · intro h j
    by_cases hj : j < l.length
    · have := h l[j] (List.getElem_mem hj); simpa [List.getD, List.getElem?_eq_getElem hj] using this
    · simp [List.getD, List.getElem?_eq_none (Nat.le_of_not_lt hj)]; omega
  · intro h n hn
    obtain ⟨j, hj, rfl⟩ := List.mem_iff_getElem.1 hn
    have := h j; simpa [List.getD, List.getElem?_eq_getElem hj] using this

theorem xall_at {p : PG} {l : List Nat} (hr : RightL p l) {k : Nat} (hk : k < p.rows.length) : (xall p l).getD (l.getD k 0) 0 = xk p l k := by
  unfold xall; exact putAll_at hr hk (by rw [hr.len]; exact Nat.le_refl _)
theorem xall_off {p : PG} {l : List Nat} (hr : RightL p l) {j : Nat} (hj : j ∉ l) : (xall p l).getD j 0 = 0 := by
  unfold xall
  refine putAll_zero fun k hk e => hj ?_
  have hk' : k < l.length := by rw [hr.len]; exact hk
  rw [← e]
  simp only [List.getD, List.getElem?_eq_getElem hk', Option.getD_some]
  exact List.getElem_mem hk'
theorem xall_small {p : PG} {l : List Nat} (hp : mayPB p = true) (hr : RightL p l) : smallB 1073741824 (xall p l) = true := by
  rw [smallB_getD (by omega)]
  intro j
  by_cases hj : j ∈ l
  · obtain ⟨k, hk, rfl⟩ := List.mem_iff_getElem.1 hj
    have hk' : k < p.rows.length := by rw [← hr.len]; exact hk
    have := xall_at hr hk'
    simp only [List.getD, List.getElem?_eq_getElem hk, Option.getD_some] at this ⊢
    rw [this]
    have := xk_bound hp hr.len hk'
    omega
  · rw [xall_off hr hj]; omega
theorem yall_at {p : PG} {l : List Nat} {k : Nat} (hk : k < p.rows.length) : (yall p l).getD k 0 = yk p l k := by unfold yall; rw [getD_map_range hk]
theorem gall_at {p : PG} {l : List Nat} {j : Nat} (hj : j < p.costs.length + p.rows.length) : (gall p l).getD j 0 = gk p l j p.rows.length := by unfold gall; rw [getD_map_range hj]
theorem yall_small {p : PG} {l : List Nat} (hp : mayPB p = true) (hr : RightL p l) : smallB 1073741824 (yall p l) = true := by
  rw [smallB_iff]; intro n hn
  simp only [yall, List.mem_map, List.mem_range] at hn
  obtain ⟨k, hk, rfl⟩ := hn
  have := yk_bound hp hr.len hk; omega
theorem gall_small {p : PG} {l : List Nat} (hp : mayPB p = true) (hr : RightL p l) : smallB 1073741824 (gall p l) = true := by
  rw [smallB_iff]; intro n hn
  simp only [gall, List.mem_map, List.mem_range] at hn
  obtain ⟨j, _, rfl⟩ := hn
  have := gk_bound hp hr.len j (Nat.le_refl _); omega

/-- A corner of columns that have one way: what they come to, and what stands of it. -/
structure Corn (p : PG) (l : List Nat) (c : CO) (gx gy gg : Int) : Prop where
  hp : mayPB p = true
  hr : RightL p l
  hd : denZ p l ≠ 0
  nx : gx ≠ 0
  ny : gy ≠ 0
  ng : gg ≠ 0
  dx : denZ p l = gx * c.xd
  dy : denZ p l = gy * c.yd
  dg : denZ p l = gg * c.gd
  px : 0 < c.xd
  py : 0 < c.yd
  pg : 0 < c.gd
  lx : c.xs.length = p.costs.length + p.rows.length
  ly : c.ys.length = p.rows.length
  lg : c.gs.length = p.costs.length + p.rows.length
  x : ∀ j, (xall p l).getD j 0 = gx * c.xs.getD j 0
  y : ∀ j, (yall p l).getD j 0 = gy * c.ys.getD j 0
  g : ∀ j, (gall p l).getD j 0 = gg * c.gs.getD j 0
  mx : mayB c.xs c.xd = true
  my : mayB c.ys c.yd = true
  mg : mayB c.gs c.gd = true

theorem look_corn {p : PG} {l : List Int} (h : lookE p l = 0) : ∃ gx gy gg, Corn p (nats l) (lookC p l) gx gy gg := by
  have h' := h
  unfold lookE at h
  split at h
  · omega
  split at h
  · omega
  split at h
  · omega
  rename_i h1 h2 h3
  have hp : mayPB p = true := by simpa using h1
  obtain ⟨hr, _⟩ := right_nats (p := p) (l := l) (by simpa using h2)
  obtain ⟨k1, k2, k3, k4, _, _⟩ := mayPB_iff.1 hp
  have hb := den_bound hp hr.len
  have ex : ptE (xall p (nats l)) (denZ p (nats l)) = 0 := pt_ok h3 (by omega) (xall_small hp hr) (by unfold xall; rw [length_putAll]; omega)
  have ey : ptE (yall p (nats l)) (denZ p (nats l)) = 0 := pt_ok h3 (by omega) (yall_small hp hr) (by unfold yall; simp; omega)
  have eg : ptE (gall p (nats l)) (denZ p (nats l)) = 0 := pt_ok h3 (by omega) (gall_small hp hr) (by unfold gall; simp; omega)
  obtain ⟨gx, a1, a2, a3, a4, a5⟩ := pt_parts ex
  obtain ⟨gy, b1, b2, b3, b4, b5⟩ := pt_parts ey
  obtain ⟨gg, c1, c2, c3, c4, c5⟩ := pt_parts eg
  refine ⟨gx, gy, gg, ?_⟩
  unfold lookC
  rw [if_pos h']
  exact ⟨hp, hr, h3, a1, b1, c1, a2, b2, c2, a5, b5, c5, by rw [a4]; unfold xall; rw [length_putAll], by rw [b4]; unfold yall; simp, by rw [c4]; unfold gall; simp, a3, b3, c3, mayB_pt ex, mayB_pt ey, mayB_pt eg⟩

section
variable {p : PG} {l : List Nat} {c : CO} {gx gy gg : Int}
theorem Corn.rows4 (h : Corn p l c gx gy gg) : p.rows.length ≤ 4 := (mayPB_iff.1 h.hp).2.2.2.1
/-- Each row's equation. -/
theorem Corn.row (h : Corn p l c gx gy gg) {i : Nat} (hi : i < p.rows.length) :
    sumN (fun j => hasZ p i j * c.xs.getD j 0) (p.costs.length + p.rows.length) = (mosts p).getD i 0 * c.xd := by
  have := sum_has_x h.hr h.rows4 hi
  rw [h.dx] at this
  have e : sumN (fun j => hasZ p i j * (xall p l).getD j 0) (p.costs.length + p.rows.length) = gx * sumN (fun j => hasZ p i j * c.xs.getD j 0) (p.costs.length + p.rows.length) := by
    rw [← sumN_mul]; exact sumN_congr fun j _ => by rw [h.x j]; ac_rfl
  rw [e] at this
  refine Int.eq_of_mul_eq_mul_left h.nx ?_
  rw [this]; ac_rfl
theorem Corn.row' (h : Corn p l c gx gy gg) {i : Nat} (hi : i < p.rows.length) :
    dot (p.rows[i]).1 (c.xs.take p.costs.length) + c.xs.getD (p.costs.length + i) 0 = (p.rows[i]).2 * c.xd := by
  have := h.row hi
  have hm : (mosts p).getD i 0 = (p.rows[i]).2 := by rw [getD_mosts]; simp [List.getD, List.getElem?_eq_getElem hi]
  rw [hm] at this
  rw [← this, sumN_split, dot_row h.hp hi (by rw [List.length_take, h.lx]; omega)]
  congr 1
  · refine sumN_congr fun j hj => ?_
    simp [List.getD, hj]
  · have key : ∀ n, sumN (fun r => hasZ p i (p.costs.length + r) * c.xs.getD (p.costs.length + r) 0) n = if i < n then c.xs.getD (p.costs.length + i) 0 else 0 := by
      intro n
      induction n with
      | zero => simp [sumN]
      | succ n ih =>
        rw [sumN, ih]
        have e : hasZ p i (p.costs.length + n) = if n = i then 1 else 0 := by
          unfold hasZ; rw [if_neg (by omega)]
          by_cases e : n = i
          · rw [if_pos (by omega), if_pos e]
          · rw [if_neg (by omega), if_neg e]
        rw [e]
        by_cases e : n = i
        · subst e; rw [if_neg (by omega), if_pos rfl, if_pos (by omega)]; omega
        · rw [if_neg e]
          by_cases e' : i < n
          · rw [if_pos e', if_pos (by omega)]; omega
          · rw [if_neg e', if_neg (by omega)]; omega
    rw [key, if_pos hi]
theorem Corn.gain_own (h : Corn p l c gx gy gg) {k : Nat} (hk : k < p.rows.length) : c.gs.getD (l.getD k 0) 0 = 0 := by
  have h1 := h.g (l.getD k 0)
  rw [gall_at (h.hr.at_lt (by rw [h.hr.len]; exact hk)), Go.Proofs.YtjcdkbalhleeeabDoor.gain_own h.hr h.rows4 hk] at h1
  rcases Int.mul_eq_zero.1 h1.symm with e | e
  · exact absurd e h.ng
  · exact e
theorem sum_costZ {p : PG} {f : Nat → Int} : sumN (fun j => costZ p j * f j) (p.costs.length + p.rows.length) = sumN (fun j => p.costs.getD j 0 * f j) p.costs.length := by
  rw [sumN_split]
  have h1 : sumN (fun i => costZ p (p.costs.length + i) * f (p.costs.length + i)) p.rows.length = 0 := by
    rw [← sumN_zero (n := p.rows.length)]
    refine sumN_congr fun i _ => ?_
    unfold costZ; rw [if_neg (by omega)]; simp
  rw [h1, Int.add_zero]
  refine sumN_congr fun j hj => ?_
  unfold costZ; rw [if_pos hj]
theorem Corn.worth (h : Corn p l c gx gy gg) : dot p.costs (c.xs.take p.costs.length) * c.yd = dot (mosts p) c.ys * c.xd := by
  have := worth_both h.hr h.rows4 h.hd
  rw [sum_costZ] at this
  have e1 : sumN (fun j => p.costs.getD j 0 * (xall p l).getD j 0) p.costs.length = gx * dot p.costs (c.xs.take p.costs.length) := by
    rw [dot_sum (n := p.costs.length) rfl (by rw [List.length_take, h.lx]; omega), ← sumN_mul]
    refine sumN_congr fun j hj => ?_
    rw [h.x j]
    have : (c.xs.take p.costs.length).getD j 0 = c.xs.getD j 0 := by simp [List.getD, hj]
    rw [this]; ac_rfl
  have e2 : sumN (fun i => (mosts p).getD i 0 * yk p l i) p.rows.length = gy * dot (mosts p) c.ys := by
    rw [dot_sum (length_mosts p) h.ly, ← sumN_mul]
    refine sumN_congr fun i hi => ?_
    have := h.y i
    rw [yall_at hi] at this
    rw [this]; ac_rfl
  rw [e1, e2] at this
  have hgg : gx * gy ≠ 0 := fun e => by
    rcases Int.mul_eq_zero.1 e with e | e
    · exact h.nx e
    · exact h.ny e
  refine Int.eq_of_mul_eq_mul_left hgg ?_
  have d1 := h.dx
  have d2 := h.dy
  calc gx * gy * (dot p.costs (c.xs.take p.costs.length) * c.yd) = (gx * dot p.costs (c.xs.take p.costs.length)) * (gy * c.yd) := by ac_rfl
    _ = (gy * dot (mosts p) c.ys) * (gx * c.xd) := by rw [this, ← d1, ← d2]
    _ = gx * gy * (dot (mosts p) c.ys * c.xd) := by ac_rfl
end
end Go.Proofs.YtjcdkbalhleeeabDoor

/-
  Plain words for chapter 7: how far a corner stays best, by the program and by the document; and that both are one. No program in sight.
-/
namespace Go.Proofs.YtjcdkbalhleeeabDoor

/-- An end of a span. -/
structure EN where
  op : Bool
  n : Int
  d : Int
deriving DecidableEq
/-- A span that becomes narrower. -/
structure NW where
  fr : EN
  to : EN
  no : Bool
deriving DecidableEq
def openE : EN := ⟨true, 0, 0⟩
def zeroE : EN := ⟨false, 0, 0⟩
def endE (n d : Int) : EN := ⟨false, frN n d, ptD [n] d⟩
/-- The program's step: a, and t times b, to be 0 or below. -/
def belowZ (s : NW) (a b : Int) : NW :=
  if b = 0 then ⟨s.fr, s.to, s.no || decide (0 < a)⟩
  else if 0 < b ∧ (s.to.op = true ∨ lessB (frN (-a) b) (ptD [-a] b) s.to.n s.to.d = true) then ⟨s.fr, endE (-a) b, s.no⟩
  else if b < 0 ∧ (s.fr.op = true ∨ lessB s.fr.n s.fr.d (frN (-a) b) (ptD [-a] b) = true) then ⟨endE (-a) b, s.to, s.no⟩
  else s
/-- The document's comparison. -/
def cmpZ (a b c d : Int) : Int := a * d - c * b
/-- The document's step: a, and t times b, to be 0 or above. -/
def aboveZ (s : NW) (a b : Int) : NW :=
  if b = 0 then ⟨s.fr, s.to, s.no || decide (a < 0)⟩
  else
    let s1 : NW := if 0 < b ∧ (s.fr.op = true ∨ 0 < cmpZ (frN (0 - a) b) (ptD [0 - a] b) s.fr.n s.fr.d) then ⟨endE (0 - a) b, s.to, s.no⟩ else s
    if b < 0 ∧ (s1.to.op = true ∨ cmpZ (frN (0 - a) b) (ptD [0 - a] b) s1.to.n s1.to.d < 0) then ⟨s1.fr, endE (0 - a) b, s1.no⟩ else s1
def wholeN : NW := ⟨openE, openE, false⟩
/-- All narrowed, of the first k. -/
def ofZ (f g : Nat → Int) (k : Nat) : NW := (List.range k).foldl (fun s j => belowZ s (f j) (g j)) wholeN
def upZ (f g : Nat → Int) (k : Nat) : NW := (List.range k).foldl (fun s j => aboveZ s (f j) (g j)) wholeN
/-- The program's ends: the error (4: none), and both. -/
def endsE (s : NW) : Int := if s.no = true ∨ (s.fr.op = false ∧ s.to.op = false ∧ lessB s.to.n s.to.d s.fr.n s.fr.d = true) then 4 else 0
def endsF (s : NW) : EN := if endsE s = 0 then s.fr else zeroE
def endsT (s : NW) : EN := if endsE s = 0 then s.to else zeroE
/-- The document's: is there one? -/
def someZ (s : NW) : Bool := !(s.no || (!s.fr.op && (!s.to.op && decide (0 < cmpZ s.fr.n s.fr.d s.to.n s.to.d))))

/-- An end that is open, or a fraction that may be. -/
def EOk (e : EN) : Prop := e.op = true ∨ mayB [e.n] e.d = true
def NOk (s : NW) : Prop := EOk s.fr ∧ EOk s.to

theorem less_cmp {a b c d : Int} (h1 : mayB [a] b = true) (h2 : mayB [c] d = true) : lessB a b c d = true ↔ cmpZ a b c d < 0 := by
  simp only [lessB, h1, h2, cmpZ, Bool.true_and, decide_eq_true_eq]; omega
theorem ptE_neg {n d : Int} (hd : d ≠ 0) : ptE [-n] (-d) = ptE [n] d ∧ frN (-n) (-d) = frN n d ∧ ptD [-n] (-d) = ptD [n] d := by
  have hs := sgcd_neg (n := n) hd
  have e1 : divs [-n] (sgcd [-n] (-d)) = divs [n] (sgcd [n] d) := by rw [hs]; simp [divs]
  have e2 : (-d).tdiv (sgcd [-n] (-d)) = d.tdiv (sgcd [n] d) := by rw [hs]; simp
  have h1 : ∀ x : Int, (smallB 4611686018427387904 [-x] = false ↔ smallB 4611686018427387904 [x] = false) := by
    intro x; rw [smallB_one, smallB_one]; simp; omega
  have hE : ptE [-n] (-d) = ptE [n] d := by
    unfold ptE
    rw [e1, e2]
    have : (-d = 0 ∨ smallB 4611686018427387904 [-n] = false ∨ smallB 4611686018427387904 [-d] = false) ↔ (d = 0 ∨ smallB 4611686018427387904 [n] = false ∨ smallB 4611686018427387904 [d] = false) := by
      rw [h1, h1]; constructor <;> (rintro (q | q | q); exact Or.inl (by omega); exact Or.inr (Or.inl q); exact Or.inr (Or.inr q))
    simp only [this]
  refine ⟨hE, ?_, ?_⟩
  · unfold frN ptN; rw [hE, e1]
  · unfold ptD; rw [hE, e2]
theorem may_end {n d : Int} (h : ptE [n] d = 0) : mayB [frN n d] (ptD [n] d) = true := by
  have hN : ptN [n] d = [frN n d] := by unfold frN ptN; rw [if_pos h]; simp [divs]
  have := mayB_pt h
  rwa [hN] at this

/-- Both steps are one. -/
theorem step_one {s : NW} {a b : Int} (hs : NOk s) (h : b ≠ 0 → ptE [-a] b = 0) : aboveZ s (0 - a) (0 - b) = belowZ s a b ∧ NOk (belowZ s a b) := by
  obtain ⟨h1, h2⟩ := hs
  by_cases hb : b = 0
  · subst hb
    unfold aboveZ belowZ
    simp only [Int.sub_zero, if_true]
    refine ⟨?_, h1, h2⟩
    congr 2
    rw [decide_eq_decide]; omega
  have hE := h hb
  obtain ⟨n1, n2, n3⟩ := ptE_neg (n := -a) hb
  have eN : frN (0 - (0 - a)) (0 - b) = frN (-a) b := by rw [← n2]; congr 1 <;> omega
  have eD : ptD [0 - (0 - a)] (0 - b) = ptD [-a] b := by rw [← n3]; congr 1 <;> first | omega | (congr 1; omega)
  have hm := may_end hE
  have eE : endE (0 - (0 - a)) (0 - b) = endE (-a) b := by unfold endE; rw [eN, eD]
  have cmp1 : (s.to.op = true ∨ lessB (frN (-a) b) (ptD [-a] b) s.to.n s.to.d = true) ↔ (s.to.op = true ∨ cmpZ (frN (-a) b) (ptD [-a] b) s.to.n s.to.d < 0) := by
    rcases h2 with q | q
    · simp [q]
    · rw [less_cmp hm q]
  have cmp2 : (s.fr.op = true ∨ lessB s.fr.n s.fr.d (frN (-a) b) (ptD [-a] b) = true) ↔ (s.fr.op = true ∨ 0 < cmpZ (frN (-a) b) (ptD [-a] b) s.fr.n s.fr.d) := by
    rcases h1 with q | q
    · simp [q]
    · rw [less_cmp q hm]; unfold cmpZ; constructor <;> (rintro (w | w); exact Or.inl w; exact Or.inr (by omega))
  have hok : EOk (endE (-a) b) := Or.inr hm
  unfold aboveZ belowZ
  rw [if_neg (by omega), if_neg hb]
  simp only [eN, eD, eE]
  simp only [cmp1, cmp2]
  by_cases hp : 0 < b
  · have hb1 : ¬ 0 < 0 - b := by omega
    have hb2 : 0 - b < 0 := by omega
    have hb3 : ¬ b < 0 := by omega
    simp only [hp, hb1, hb2, hb3, true_and, false_and, if_false]
    by_cases c : s.to.op = true ∨ cmpZ (frN (-a) b) (ptD [-a] b) s.to.n s.to.d < 0
    · rw [if_pos c]; exact ⟨h1, hok⟩
    · rw [if_neg c]; exact ⟨h1, h2⟩
  · have hb1 : 0 < 0 - b := by omega
    have hb2 : ¬ 0 - b < 0 := by omega
    have hb3 : b < 0 := by omega
    simp only [hp, hb1, hb2, hb3, true_and, false_and, if_false]
    by_cases c : s.fr.op = true ∨ 0 < cmpZ (frN (-a) b) (ptD [-a] b) s.fr.n s.fr.d
    · rw [if_pos c]; exact ⟨hok, h2⟩
    · rw [if_neg c]; exact ⟨h1, h2⟩
theorem ofZ_succ (f g : Nat → Int) (k : Nat) : ofZ f g (k + 1) = belowZ (ofZ f g k) (f k) (g k) := by unfold ofZ; rw [List.range_succ, List.foldl_append]; rfl
theorem upZ_succ (f g : Nat → Int) (k : Nat) : upZ f g (k + 1) = aboveZ (upZ f g k) (f k) (g k) := by unfold upZ; rw [List.range_succ, List.foldl_append]; rfl
theorem of_up {f g f' g' : Nat → Int} {k : Nat} (hf : ∀ j, j < k → f' j = 0 - f j) (hg : ∀ j, j < k → g' j = 0 - g j) (hp : ∀ j, j < k → g j ≠ 0 → ptE [-(f j)] (g j) = 0) : upZ f' g' k = ofZ f g k ∧ NOk (ofZ f g k) := by
  induction k with
  | zero => exact ⟨rfl, Or.inl rfl, Or.inl rfl⟩
  | succ k ih =>
    obtain ⟨e, hok⟩ := ih (fun j hj => hf j (by omega)) (fun j hj => hg j (by omega)) (fun j hj => hp j (by omega))
    rw [upZ_succ, ofZ_succ, e, hf k (by omega), hg k (by omega)]
    exact step_one hok (hp k (by omega))
theorem ends_some {s : NW} (h : NOk s) : endsE s = 0 ↔ someZ s = true := by
  obtain ⟨h1, h2⟩ := h
  unfold endsE someZ
  cases hn : s.no
  · cases hf : s.fr.op
    · cases ht : s.to.op
      · have m1 : mayB [s.fr.n] s.fr.d = true := by rcases h1 with q | q; rw [hf] at q; simp at q; exact q
        have m2 : mayB [s.to.n] s.to.d = true := by rcases h2 with q | q; rw [ht] at q; simp at q; exact q
        have := less_cmp m2 m1
        simp only [this]
        unfold cmpZ
        simp
        try omega
      · simp
    · simp
  · simp

/-! What a span says. -/
/-- A number n / d lies within a span. -/
def inE (s : NW) (n d : Int) : Prop := s.no = false ∧ (s.fr.op = true ∨ s.fr.n * d ≤ n * s.fr.d) ∧ (s.to.op = true ∨ n * s.to.d ≤ s.to.n * d)
theorem frac_pos {n d : Int} (h : ptE [n] d = 0) : 0 < ptD [n] d ∧ frN n d * d = n * ptD [n] d := ⟨(fr_cross' h).2, (fr_cross' h).1⟩
where fr_cross' {n d : Int} (h : ptE [n] d = 0) : frN n d * d = n * ptD [n] d ∧ 0 < ptD [n] d := by
        have h0 : d ≠ 0 := fun e => by subst e; simp [ptE] at h
        rw [frN_eq h, ptD_eq h]
        exact ⟨sgcd_cross h0, sgcd_sign h0⟩
def EPos (e : EN) : Prop := e.op = true ∨ 0 < e.d
def NPos (s : NW) : Prop := EPos s.fr ∧ EPos s.to
theorem NOk.pos {s : NW} (h : NOk s) : NPos s := by
  have key : ∀ e, EOk e → EPos e := fun e h => by
    rcases h with q | q
    · exact Or.inl q
    · right
      simp only [mayB, rightB, Bool.and_eq_true, decide_eq_true_eq] at q
      omega
  exact ⟨key _ h.1, key _ h.2⟩
/-- a d + n b ≤ 0, held against the fraction of -a and b. -/
theorem at_end {a b n d : Int} (hE : ptE [-a] b = 0) :
    (0 < b → (a * d + n * b ≤ 0 ↔ n * ptD [-a] b ≤ frN (-a) b * d)) ∧ (b < 0 → (a * d + n * b ≤ 0 ↔ frN (-a) b * d ≤ n * ptD [-a] b)) := by
  obtain ⟨hp, hc⟩ := frac_pos hE
  generalize frN (-a) b = N at *
  generalize ptD [-a] b = D at *
  -- N b = -a D
  have key : (a * d + n * b) * D = (n * D - N * d) * b := by grind
  constructor
  · intro hb
    constructor
    · intro h
      have h1 : (a * d + n * b) * D ≤ 0 := Int.mul_nonpos_of_nonpos_of_nonneg h (by omega)
      rw [key] at h1
      by_cases q : n * D ≤ N * d
      · exact q
      · have := Int.mul_pos (show 0 < n * D - N * d by omega) hb; omega
    · intro h
      have h1 : (n * D - N * d) * b ≤ 0 := Int.mul_nonpos_of_nonpos_of_nonneg (by omega) (by omega)
      rw [← key] at h1
      by_cases q : a * d + n * b ≤ 0
      · exact q
      · have := Int.mul_pos (show 0 < a * d + n * b by omega) hp; omega
  · intro hb
    constructor
    · intro h
      have h1 : (a * d + n * b) * D ≤ 0 := Int.mul_nonpos_of_nonpos_of_nonneg h (by omega)
      rw [key] at h1
      by_cases q : N * d ≤ n * D
      · exact q
      · have := Int.mul_pos_of_neg_of_neg (show n * D - N * d < 0 by omega) hb; omega
    · intro h
      have h1 : (n * D - N * d) * b ≤ 0 := Int.mul_nonpos_of_nonneg_of_nonpos (by omega) (by omega)
      rw [← key] at h1
      by_cases q : a * d + n * b ≤ 0
      · exact q
      · have := Int.mul_pos (show 0 < a * d + n * b by omega) hp; omega
theorem cross_le {a b c d n e : Int} (hb : 0 < b) (hd : 0 < d) (he : 0 < e) : a * d ≤ c * b → n * b ≤ a * e → n * d ≤ c * e := by
  intro h1 h2
  have k1 : n * d * b ≤ c * e * b := by
    have a1 := Int.mul_le_mul_of_nonneg_right h2 (show 0 ≤ d by omega)
    have a2 := Int.mul_le_mul_of_nonneg_right h1 (show 0 ≤ e by omega)
    have e1 : n * b * d = n * d * b := by ac_rfl
    have e2 : a * e * d = a * d * e := by ac_rfl
    have e3 : c * b * e = c * e * b := by ac_rfl
    omega
  exact Int.le_of_mul_le_mul_right k1 hb
theorem step_in {s : NW} {a b n d : Int} (hs : NOk s) (h : b ≠ 0 → ptE [-a] b = 0) (hd : 0 < d) : inE (belowZ s a b) n d ↔ inE s n d ∧ a * d + n * b ≤ 0 := by
  have hP := hs.pos
  obtain ⟨h1, h2⟩ := hs
  by_cases hb : b = 0
  · subst hb
    unfold belowZ inE
    simp only [if_true, Bool.or_eq_false_iff, decide_eq_false_iff_not, Int.mul_zero, Int.add_zero]
    have : (¬ 0 < a) ↔ a * d ≤ 0 := by
      constructor
      · intro q; exact Int.mul_nonpos_of_nonpos_of_nonneg (by omega) (by omega)
      · intro q r; have := Int.mul_pos r hd; omega
    rw [this]
    constructor
    · rintro ⟨⟨x, y⟩, z⟩; exact ⟨⟨x, z⟩, y⟩
    · rintro ⟨⟨x, z⟩, y⟩; exact ⟨⟨x, y⟩, z⟩
  have hE := h hb
  have hm := may_end hE
  obtain ⟨hp, _⟩ := frac_pos hE
  obtain ⟨k1, k2⟩ := at_end (n := n) (d := d) hE
  unfold belowZ
  rw [if_neg hb]
  by_cases hpos : 0 < b
  · have hnn : ¬ b < 0 := by omega
    simp only [hpos, hnn, true_and, false_and, if_false]
    rw [k1 hpos]
    by_cases c : s.to.op = true ∨ lessB (frN (-a) b) (ptD [-a] b) s.to.n s.to.d = true
    · rw [if_pos c]
      unfold inE endE
      simp only [Bool.false_eq_true, false_or]
      constructor
      · rintro ⟨x, y, z⟩
        refine ⟨⟨x, y, ?_⟩, z⟩
        rcases c with c | c
        · exact Or.inl c
        · rcases h2 with q | q
          · exact Or.inl q
          · right
            rw [less_cmp hm q] at c
            have hq : 0 < s.to.d := by simp only [mayB, rightB, Bool.and_eq_true, decide_eq_true_eq] at q; omega
            exact cross_le hp hq hd (by unfold cmpZ at c; omega) z
      · rintro ⟨⟨x, y, _⟩, z⟩; exact ⟨x, y, z⟩
    · rw [if_neg c]
      unfold inE
      constructor
      · rintro ⟨x, y, z⟩
        refine ⟨⟨x, y, z⟩, ?_⟩
        have c1 : ¬ s.to.op = true := fun q => c (Or.inl q)
        rcases z with z | z
        · exact absurd z c1
        · have q : mayB [s.to.n] s.to.d = true := by rcases h2 with q | q; exact absurd q c1; exact q
          have hq : 0 < s.to.d := by rcases hP.2 with w | w; exact absurd w c1; exact w
          have c2 : ¬ cmpZ (frN (-a) b) (ptD [-a] b) s.to.n s.to.d < 0 := fun w => c (Or.inr ((less_cmp hm q).2 w))
          exact cross_le hq hp hd (by unfold cmpZ at c2; omega) z
      · rintro ⟨x, _⟩; exact x
  · have hneg : b < 0 := by omega
    simp only [hpos, hneg, true_and, false_and, if_false]
    rw [k2 hneg]
    have cl : ∀ {a b c d n e : Int}, 0 < b → 0 < d → 0 < e → c * b ≤ a * d → a * e ≤ n * b → c * e ≤ n * d := by
      intro a b c d n e hb hd he h1 h2
      have k1 : c * e * b ≤ n * d * b := by
        have a1 := Int.mul_le_mul_of_nonneg_right h2 (show 0 ≤ d by omega)
        have a2 := Int.mul_le_mul_of_nonneg_right h1 (show 0 ≤ e by omega)
        have e1 : n * b * d = n * d * b := by ac_rfl
        have e2 : a * e * d = a * d * e := by ac_rfl
        have e3 : c * b * e = c * e * b := by ac_rfl
        omega
      exact Int.le_of_mul_le_mul_right k1 hb
    by_cases c : s.fr.op = true ∨ lessB s.fr.n s.fr.d (frN (-a) b) (ptD [-a] b) = true
    · rw [if_pos c]
      unfold inE endE
      simp only [Bool.false_eq_true, false_or]
      constructor
      · rintro ⟨x, y, z⟩
        refine ⟨⟨x, ?_, z⟩, y⟩
        rcases c with c | c
        · exact Or.inl c
        · rcases h1 with q | q
          · exact Or.inl q
          · right
            rw [less_cmp q hm] at c
            have hq : 0 < s.fr.d := by simp only [mayB, rightB, Bool.and_eq_true, decide_eq_true_eq] at q; omega
            exact cl hp hq hd (by unfold cmpZ at c; omega) y
      · rintro ⟨⟨x, _, z⟩, y⟩; exact ⟨x, y, z⟩
    · rw [if_neg c]
      unfold inE
      constructor
      · rintro ⟨x, y, z⟩
        refine ⟨⟨x, y, z⟩, ?_⟩
        have c1 : ¬ s.fr.op = true := fun q => c (Or.inl q)
        rcases y with y | y
        · exact absurd y c1
        · have q : mayB [s.fr.n] s.fr.d = true := by rcases h1 with q | q; exact absurd q c1; exact q
          have hq : 0 < s.fr.d := by rcases hP.1 with w | w; exact absurd w c1; exact w
          have c2 : ¬ cmpZ s.fr.n s.fr.d (frN (-a) b) (ptD [-a] b) < 0 := fun w => c (Or.inr ((less_cmp q hm).2 w))
          exact cl hq hp hd (by unfold cmpZ at c2; omega) y
      · rintro ⟨x, _⟩; exact x
theorem of_in {f g : Nat → Int} {n d : Int} (hd : 0 < d) {k : Nat} (hp : ∀ j, j < k → g j ≠ 0 → ptE [-(f j)] (g j) = 0) : inE (ofZ f g k) n d ↔ ∀ j, j < k → f j * d + n * g j ≤ 0 := by
  induction k with
  | zero => simp [ofZ, inE, wholeN, openE]
  | succ k ih =>
    have hok := (of_up (f := f) (g := g) (f' := fun j => 0 - f j) (g' := fun j => 0 - g j) (k := k) (fun _ _ => rfl) (fun _ _ => rfl) (fun j hj => hp j (by omega))).2
    rw [ofZ_succ, step_in hok (hp k (by omega)) hd, ih fun j hj => hp j (by omega)]
    constructor
    · rintro ⟨h1, h2⟩ j hj
      by_cases e : j = k
      · subst e; exact h2
      · exact h1 j (by omega)
    · intro h; exact ⟨fun j hj => h j (by omega), h k (by omega)⟩
/-- Within both ends, where there are such: what the program tells. -/
theorem ends_in {s : NW} (hs : NOk s) {n d : Int} (hd : 0 < d) : (endsE s = 0 ∧ ((endsF s).op = true ∨ 0 ≤ cmpZ n d (endsF s).n (endsF s).d) ∧ ((endsT s).op = true ∨ cmpZ n d (endsT s).n (endsT s).d ≤ 0)) ↔ inE s n d := by
  have hP := hs.pos
  have hsm := ends_some hs
  by_cases h0 : endsE s = 0
  · unfold endsF endsT
    rw [if_pos h0, if_pos h0]
    unfold inE cmpZ
    have hno : s.no = false := by
      unfold endsE at h0
      split at h0
      · omega
      · rename_i q; cases hh : s.no; rfl; exact absurd (Or.inl hh) q
    constructor
    · rintro ⟨_, x, y⟩
      exact ⟨hno, x.imp id (fun q => by omega), y.imp id (fun q => by omega)⟩
    · rintro ⟨_, x, y⟩
      exact ⟨h0, x.imp id (fun q => by omega), y.imp id (fun q => by omega)⟩
  · refine ⟨fun h => absurd h.1 h0, fun h => ?_⟩
    exfalso
    unfold inE at h
    obtain ⟨x, y, z⟩ := h
    unfold endsE at h0
    split at h0
    rotate_left
    · exact h0 rfl
    rename_i q
    rcases q with q | ⟨q1, q2, q3⟩
    · rw [x] at q; simp at q
    · rw [q1] at y; rw [q2] at z
      simp at y z
      obtain ⟨⟨o1, o2⟩⟩ := (show Nonempty (EOk s.fr ∧ EOk s.to) from ⟨hs.1, hs.2⟩)
      have m1 : mayB [s.fr.n] s.fr.d = true := by rcases o1 with w | w; rw [q1] at w; simp at w; exact w
      have m2 : mayB [s.to.n] s.to.d = true := by rcases o2 with w | w; rw [q2] at w; simp at w; exact w
      rw [less_cmp m2 m1] at q3
      unfold cmpZ at q3
      have d1 : 0 < s.fr.d := by rcases hP.1 with w | w; rw [q1] at w; simp at w; exact w
      have d2 : 0 < s.to.d := by rcases hP.2 with w | w; rw [q2] at w; simp at w; exact w
      -- fr d ≤ n frd ; n tod ≤ to d ; to frd < fr tod
      have k1 := Int.mul_le_mul_of_nonneg_right y (show 0 ≤ s.to.d by omega)
      have k2 := Int.mul_le_mul_of_nonneg_right z (show 0 ≤ s.fr.d by omega)
      have k3 := Int.mul_lt_mul_of_pos_right (show s.to.n * s.fr.d < s.fr.n * s.to.d by omega) hd
      have e1 : s.fr.n * d * s.to.d = s.fr.n * s.to.d * d := by ac_rfl
      have e2 : n * s.fr.d * s.to.d = n * s.to.d * s.fr.d := by ac_rfl
      have e3 : s.to.n * d * s.fr.d = s.to.n * s.fr.d * d := by ac_rfl
      omega
end Go.Proofs.YtjcdkbalhleeeabDoor

/-
  Plain laws of spans: what is divided is small enough, and gains go straight as costs grow. No program in sight.
-/
namespace Go.Proofs.YtjcdkbalhleeeabDoor

/-- A fraction that stands as small numbers do is one that may be. -/
theorem pt_like {n d a b : Int} (hd : d ≠ 0) (hb : b ≠ 0) (h : n * b = a * d) (hn : -4611686018427387904 ≤ n ∧ n ≤ 4611686018427387904) (hd2 : -4611686018427387904 ≤ d ∧ d ≤ 4611686018427387904)
    (ha : -1073741824 ≤ a ∧ a ≤ 1073741824) (hb2 : -1073741824 ≤ b ∧ b ≤ 1073741824) : ptE [n] d = 0 := by
  have hs : smallB 4611686018427387904 [n] = true := by rw [smallB_one]; simp; omega
  rw [ptE_of hd hs hd2, if_pos]
  have h1 := sgcd_sign (l := [n]) hd
  have h0 := sgcd_ne (l := [n]) hd
  obtain ⟨g1, g2⟩ := sgcd_dvd (l := [n]) (d := d)
  have e1 : sgcd [n] d * d.tdiv (sgcd [n] d) = d := Int.mul_tdiv_cancel' g1
  have e2 : sgcd [n] d * n.tdiv (sgcd [n] d) = n := Int.mul_tdiv_cancel' (g2 n (by simp))
  have hc := comm_divs [n] d hd
  have hc' : Nat.gcd (d.tdiv (sgcd [n] d)).natAbs (n.tdiv (sgcd [n] d)).natAbs = 1 := by simpa [comm, divs] using hc
  simp only [rightB, Bool.and_eq_true, decide_eq_true_eq, length_divs]
  simp only [divs, List.map_cons, List.map_nil, smallB_one, Bool.and_eq_true, decide_eq_true_eq, List.length_cons, List.length_nil]
  generalize sgcd [n] d = g at *
  generalize d.tdiv g = D at *
  generalize n.tdiv g = N at *
  have hND : N * b = a * D := by
    have : g * (N * b) = g * (a * D) := by
      rw [show g * (N * b) = g * N * b by ac_rfl, e2, h, ← e1]; ac_rfl
    exact Int.eq_of_mul_eq_mul_left h0 this
  have hDb : D.natAbs ∣ b.natAbs := by
    refine (Nat.Coprime.dvd_of_dvd_mul_left (show Nat.Coprime D.natAbs N.natAbs from hc') ?_)
    rw [← Int.natAbs_mul, hND, Int.natAbs_mul]
    exact Nat.dvd_mul_left _ _
  have hNa : N.natAbs ∣ a.natAbs := by
    refine (Nat.Coprime.dvd_of_dvd_mul_right (show Nat.Coprime N.natAbs D.natAbs from by rw [Nat.coprime_comm]; exact hc') ?_)
    rw [← Int.natAbs_mul, ← hND, Int.natAbs_mul]
    exact Nat.dvd_mul_right _ _
  have hD1 := Nat.le_of_dvd (by omega) hDb
  have hN1 : N.natAbs ≤ a.natAbs := by
    by_cases h : a = 0
    · subst h
      have : N * b = 0 := by rw [hND]; simp
      rcases Int.mul_eq_zero.1 this with q | q
      · subst q; simp
      · exact absurd q hb
    · exact Nat.le_of_dvd (by omega) hNa
  omega

/-- Two corners with one divisor: what the one is, by the other one, may be. -/
theorem span_pt {A B den gA gB u v dA dB : Int} (nA : gA ≠ 0) (nB : gB ≠ 0) (hA : A = gA * u) (hB : B = gB * v) (eA : den = gA * dA) (eB : den = gB * dB)
    (bA : -1073741824 ≤ A ∧ A ≤ 1073741824) (bB : -1073741824 ≤ B ∧ B ≤ 1073741824)
    (bu : -1073741824 ≤ u ∧ u ≤ 1073741824) (bv : -1073741824 ≤ v ∧ v ≤ 1073741824) (bdA : -1073741824 ≤ dA ∧ dA ≤ 1073741824) (bdB : -1073741824 ≤ dB ∧ dB ≤ 1073741824)
    (h : v * dA ≠ 0) : ptE [-(u * dB)] (v * dA) = 0 := by
  have m1 := mul_bound u dB 1073741824 1073741824 bu.1 bu.2 bdB.1 bdB.2
  have m2 := mul_bound v dA 1073741824 1073741824 bv.1 bv.2 bdA.1 bdA.2
  have hB0 : B ≠ 0 := fun e => by
    rw [e] at hB
    rcases Int.mul_eq_zero.1 hB.symm with q | q
    · exact nB q
    · rw [q] at h; simp at h
  refine pt_like (a := -A) (b := B) h hB0 ?_ (by omega) (by omega) (by omega) bB
  -- -(u dB) B = -A (v dA), by den
  have e : gA * gB * (u * dB * B) = gA * gB * (A * (v * dA)) := by
    calc gA * gB * (u * dB * B) = (gA * u) * (gB * dB) * B := by ac_rfl
      _ = A * den * B := by rw [← hA, ← eB]
      _ = A * (gA * dA) * (gB * v) := by rw [← eA, ← hB]
      _ = gA * gB * (A * (v * dA)) := by ac_rfl
  have hg : gA * gB ≠ 0 := fun q => by
    rcases Int.mul_eq_zero.1 q with q | q
    · exact nA q
    · exact nB q
  have := Int.eq_of_mul_eq_mul_left hg e
  rw [Int.neg_mul, Int.neg_mul, this]

/-! The last column, expanded. -/
def unitU (A : Nat → Nat → Int) (m i : Nat) (r c : Nat) : Int := if c < m then A r c else if r = i then 1 else 0
set_option maxHeartbeats 4000000 in
theorem dtp_expand (A : Nat → Nat → Int) {m k : Nat} (hm : m ≤ 4) (hk : k < m) : dtp A m k m = sumN (fun i => dtp (unitU A m i) m k m * A i m) m := by
  unfold dtp
  rcases (show m = 1 ∨ m = 2 ∨ m = 3 ∨ m = 4 by omega) with rfl | rfl | rfl | rfl
  · obtain rfl : k = 0 := by omega
    simp [sumN, dt1, unitU]
  · rcases (show k = 0 ∨ k = 1 by omega) with rfl | rfl <;> (simp [sumN, range2, dt2, unitU]; try grind)
  · rcases (show k = 0 ∨ k = 1 ∨ k = 2 by omega) with rfl | rfl | rfl <;> (simp [sumN, range3, dt3, unitU]; try grind)
  · rcases (show k = 0 ∨ k = 1 ∨ k = 2 ∨ k = 3 by omega) with rfl | rfl | rfl | rfl <;> (simp [sumN, range4, dt4, dt3, unitU]; try grind)

/-! Other costs, same rows. -/
def costsOf (p : PG) (by_ : List Int) : PG := ⟨by_, p.rows⟩
section
variable {p : PG} {b : List Int} {l : List Nat}
theorem costs_has (h : b.length = p.costs.length) (i j : Nat) : hasZ (costsOf p b) i j = hasZ p i j := by unfold hasZ costsOf; simp only [h]
theorem costs_right (h : b.length = p.costs.length) (hr : RightL p l) : RightL (costsOf p b) l := ⟨hr.len, fun j hj => by have := hr.lt j hj; show j < b.length + p.rows.length; omega, hr.pw⟩
theorem costs_den (h : b.length = p.costs.length) : denZ (costsOf p b) l = denZ p l := by
  unfold denZ
  have e : matD (costsOf p b) l = matD p l := by
    funext i j; unfold matD; rw [costs_has h]; rfl
  rw [e]; rfl
theorem costs_may (h : b.length = p.costs.length) (hp : mayPB p = true) (hs : smallB 400 b = true) : mayPB (costsOf p b) = true := by
  obtain ⟨h1, h2, h3, h4, h5, h6⟩ := mayPB_iff.1 hp
  exact mayPB_iff.2 ⟨by show 1 ≤ b.length; omega, by show b.length ≤ 4; omega, h3, h4, hs, by show p.rows.all (rowB b.length) = true; rw [h]; exact h6⟩
theorem costs_E (h : b.length = p.costs.length) (hs : smallB 400 b = true) {at_ : List Int} (he : lookE p at_ = 0) : lookE (costsOf p b) at_ = 0 := by
  unfold lookE at he ⊢
  split at he
  · omega
  rename_i h1
  split at he
  · omega
  rename_i h2
  split at he
  · omega
  rename_i h3
  rw [if_neg (by rw [costs_may h (by simpa using h1) hs]; simp), if_neg, if_neg (by rw [costs_den h]; exact h3)]
  have : rightA (costsOf p b) at_ = rightA p at_ := by unfold rightA costsOf; simp only [h]
  rw [this]; exact h2
/-- What a row is worth, off the columns' worths. -/
theorem yk_sum (hr : RightL p l) (h4 : p.rows.length ≤ 4) {k : Nat} (hk : k < p.rows.length) : yk p l k = sumN (fun i => dtp (unitU (fun i j => hasZ p j (l.getD i 0)) p.rows.length i) p.rows.length k p.rows.length * costZ p (l.getD i 0)) p.rows.length := by
  unfold yk
  rw [dtp_expand _ h4 hk]
  refine sumN_congr fun i hi => ?_
  have e : matU p l i p.rows.length = costZ p (l.getD i 0) := by unfold matU; rw [if_neg (by rw [hr.len]; omega)]
  rw [e]
  congr 1
  unfold dtp
  refine dt_congr2 fun r _ c _ => ?_
  unfold unitU
  by_cases hc : c < p.rows.length
  · rw [if_pos hc, if_pos hc]; unfold matU; rw [if_pos (by rw [hr.len]; exact hc)]
  · rw [if_neg hc, if_neg hc]
/-- Gains go straight with the costs. -/
theorem gain_line {e : List Int} {d n : Int} (hr : RightL p l) (h4 : p.rows.length ≤ 4) (hb : b.length = p.costs.length) (he : e.length = p.costs.length)
    (hz : ∀ j, e.getD j 0 = d * p.costs.getD j 0 + n * b.getD j 0) (j : Nat) :
    gk (costsOf p e) l j p.rows.length = d * gk p l j p.rows.length + n * gk (costsOf p b) l j p.rows.length := by
  have hc : ∀ j, costZ (costsOf p e) j = d * costZ p j + n * costZ (costsOf p b) j := by
    intro j
    unfold costZ costsOf
    simp only [hb, he]
    by_cases h : j < p.costs.length
    · rw [if_pos h, if_pos h, if_pos h, hz j]
    · rw [if_neg h, if_neg h, if_neg h]; simp
  have hy : ∀ i, i < p.rows.length → yk (costsOf p e) l i = d * yk p l i + n * yk (costsOf p b) l i := by
    intro i hi
    have Y : ∀ b' : List Int, b'.length = p.costs.length → yk (costsOf p b') l i = sumN (fun q => dtp (unitU (fun i j => hasZ p j (l.getD i 0)) p.rows.length q) p.rows.length i p.rows.length * costZ (costsOf p b') (l.getD q 0)) p.rows.length := by
      intro b' hb'
      have := yk_sum (costs_right hb' hr) h4 hi
      rw [show (fun i j => hasZ (costsOf p b') j (l.getD i 0)) = (fun i j => hasZ p j (l.getD i 0)) by funext i j; rw [costs_has hb']] at this
      exact this
    rw [Y e he, Y b hb, yk_sum hr h4 hi, ← sumN_mul, ← sumN_mul, ← sumN_add]
    refine sumN_congr fun q _ => ?_
    rw [hc]; grind
  unfold gk
  rw [costs_den he, costs_den hb, hc]
  have : sumN (fun i => yk (costsOf p e) l i * hasZ (costsOf p e) i j) p.rows.length = d * sumN (fun i => yk p l i * hasZ p i j) p.rows.length + n * sumN (fun i => yk (costsOf p b) l i * hasZ (costsOf p b) i j) p.rows.length := by
    rw [← sumN_mul, ← sumN_mul, ← sumN_add]
    refine sumN_congr fun i hi => ?_
    rw [hy i hi, costs_has he, costs_has hb]; grind
  rw [this]; grind
end
end Go.Proofs.YtjcdkbalhleeeabDoor

/-
  Plain words: a program with other mosts of its rows. No program in sight.
-/
namespace Go.Proofs.YtjcdkbalhleeeabDoor

/-- The rows with other mosts, of the first k. -/
def rowsK (p : PG) (b : List Int) (k : Nat) : List (List Int × Int) := (List.range k).map fun i => ((p.rows.getD i ([], 0)).1, b.getD i 0)
def mostsOf (p : PG) (b : List Int) : PG := ⟨p.costs, rowsK p b p.rows.length⟩
section
variable {p : PG} {b : List Int} {l : List Nat}
theorem rowsK_len (p : PG) (b : List Int) (k : Nat) : (rowsK p b k).length = k := by simp [rowsK]
theorem mostsOf_len (p : PG) (b : List Int) : (mostsOf p b).rows.length = p.rows.length := rowsK_len _ _ _
theorem rowsK_at (p : PG) (b : List Int) {k i : Nat} (h : i < k) : (rowsK p b k).getD i ([], 0) = ((p.rows.getD i ([], 0)).1, b.getD i 0) := by simp [rowsK, List.getD, h]
theorem mostsOf_has (p : PG) (b : List Int) (i j : Nat) : hasZ (mostsOf p b) i j = hasZ p i j := by
  unfold hasZ
  show (if j < p.costs.length then ((rowsK p b p.rows.length).getD i ([], 0)).1.getD j 0 else if j - p.costs.length = i then 1 else 0) = _
  by_cases hi : i < p.rows.length
  · rw [rowsK_at p b hi]
  · have e1 : (rowsK p b p.rows.length).getD i ([], 0) = ([], 0) := by simp [List.getD, List.getElem?_eq_none (show (rowsK p b p.rows.length).length ≤ i by rw [rowsK_len]; omega)]
    have e2 : p.rows.getD i ([], 0) = ([], 0) := by simp [List.getD, List.getElem?_eq_none (show p.rows.length ≤ i by omega)]
    rw [e1, e2]
theorem mostsOf_den (p : PG) (b : List Int) (hl : l.length = p.rows.length) : denZ (mostsOf p b) l = denZ p l := by
  unfold denZ dtm
  rw [mostsOf_len]
  refine dt_congr2 fun r hr c hc => ?_
  have hc' : c < p.rows.length := by simpa using hc
  unfold matD
  rw [if_pos (by omega), if_pos (by omega), mostsOf_has]
theorem mostsOf_may (hp : mayPB p = true) (hb : b.length = p.rows.length) (hs : smallB 12 b = true) : mayPB (mostsOf p b) = true := by
  obtain ⟨h1, h2, h3, h4, h5, h6⟩ := mayPB_iff.1 hp
  refine mayPB_iff.2 ⟨h1, h2, by rw [mostsOf_len]; exact h3, by rw [mostsOf_len]; exact h4, h5, ?_⟩
  show (rowsK p b p.rows.length).all (rowB p.costs.length) = true
  rw [List.all_eq_true]
  intro r hr
  simp only [rowsK, List.mem_map, List.mem_range] at hr
  obtain ⟨i, hi, rfl⟩ := hr
  obtain ⟨a1, a2, a3⟩ := mayPB_row hp hi
  have e : p.rows.getD i ([], 0) = p.rows[i] := by simp [List.getD, List.getElem?_eq_getElem hi]
  have hbi : -12 ≤ b.getD i 0 ∧ b.getD i 0 ≤ 12 := by
    have := smallB_at hs (k := i) (by omega)
    simpa [List.getD, List.getElem?_eq_getElem (show i < b.length by omega)] using this
  rw [e]
  unfold rowB
  simp only [Bool.and_eq_true, decide_eq_true_eq]
  exact ⟨a1, by rw [smallB_one]; simp; exact hbi, a3⟩
theorem mostsOf_E (hb : b.length = p.rows.length) (hs : smallB 12 b = true) {at_ : List Int} (he : lookE p at_ = 0) : lookE (mostsOf p b) at_ = 0 := by
  unfold lookE at he ⊢
  split at he
  · omega
  rename_i h1
  split at he
  · omega
  rename_i h2
  split at he
  · omega
  rename_i h3
  have hr := (right_nats (p := p) (l := at_) (by simpa using h2)).1
  rw [if_neg (by rw [mostsOf_may (by simpa using h1) hb hs]; simp), if_neg, if_neg (by rw [mostsOf_den p b hr.len]; exact h3)]
  have : rightA (mostsOf p b) at_ = rightA p at_ := by unfold rightA; rw [mostsOf_len]; rfl
  rw [this]; exact h2
/-- Each division along the line of mosts goes. -/
theorem mosts_made {c d : CO} {g1 g2 g3 g4 g5 g6 : Int} (hc : Corn p l c g1 g2 g3) (hd : Corn (mostsOf p b) l d g4 g5 g6) (j : Nat) (h : -1 * d.xs.getD j 0 * c.xd ≠ 0) :
    ptE [-(-1 * c.xs.getD j 0 * d.xd)] (-1 * d.xs.getD j 0 * c.xd) = 0 := by
  have b1 := (smallB_getD (l := c.xs) (m := 1073741824) (by omega)).1 (mayB_parts hc.mx).2.2.1 j
  have b2 := (smallB_getD (l := d.xs) (m := 1073741824) (by omega)).1 (mayB_parts hd.mx).2.2.1 j
  have h1 := mayB_parts hc.mx
  have h2 := mayB_parts hd.mx
  have e1 := hc.x j
  have e2 := hd.x j
  have k1 := (smallB_getD (l := xall p l) (m := 1073741824) (by omega)).1 (xall_small hc.hp hc.hr) j
  have k2 := (smallB_getD (l := xall (mostsOf p b) l) (m := 1073741824) (by omega)).1 (xall_small hd.hp hd.hr) j
  have dd : denZ p l = g4 * d.xd := by rw [← mostsOf_den p b hc.hr.len]; exact hd.dx
  -- the corner's numbers with their signs changed
  have := span_pt (A := -(xall p l).getD j 0) (B := -(xall (mostsOf p b) l).getD j 0) (u := -c.xs.getD j 0) (v := -d.xs.getD j 0) (dA := c.xd) (dB := d.xd) hc.nx hd.nx (by rw [e1]; grind) (by rw [e2]; grind) hc.dx dd
    (by omega) (by omega) (by omega) (by omega) (by omega) (by omega) (by intro e; apply h; rw [← e]; grind)
  rw [show -(-1 * c.xs.getD j 0 * d.xd) = -(-c.xs.getD j 0 * d.xd) by grind, show -1 * d.xs.getD j 0 * c.xd = -d.xs.getD j 0 * c.xd by grind]
  exact this
end
end Go.Proofs.YtjcdkbalhleeeabDoor
