/-
  Plain words and laws of linear programs, put together: no program in sight. No condition.
-/
import Derived.Lib.ItoaNum
import Derived.Lib.ParseIntB
import Derived.Lib.Join
import Derived.Lib.SplitLaws
/-
  Plain words for chapter 1: what the functions on fractions and points compute, as plain functions on lists of whole numbers. No program in sight; no condition.
-/
namespace Go.Proofs.YtjcdkbalhleeeabDoor

/-- Are all numbers from -m to m? -/
def smallB (m : Int) (l : List Int) : Bool := l.all fun n => decide (-m ≤ n) && decide (n ≤ m)
/-- The greatest number that divides den and all of l. -/
def comm (g : Nat) (l : List Int) : Nat := l.foldl (fun g n => Nat.gcd g n.natAbs) g
/-- Parts within their limits. -/
def rightB (l : List Int) (d : Int) : Bool := decide (1 ≤ d) && (decide (d ≤ 1073741824) && (smallB 1073741824 l && decide (l.length ≤ 8)))
/-- May a point be? -/
def mayB (l : List Int) (d : Int) : Bool := rightB l d && decide (comm d.natAbs l = 1)
/-- The divisor with den's sign. -/
def sgcd (l : List Int) (d : Int) : Int := if d < 0 then -(comm d.natAbs l : Int) else comm d.natAbs l
def divs (l : List Int) (g : Int) : List Int := l.map fun n => n.tdiv g
/-- A point's making: the error (0: none). -/
def ptE (l : List Int) (d : Int) : Int :=
  if d = 0 ∨ smallB 4611686018427387904 l = false ∨ smallB 4611686018427387904 [d] = false then 3
  else if rightB (divs l (sgcd l d)) (d.tdiv (sgcd l d)) then 0 else 1
def ptN (l : List Int) (d : Int) : List Int := if ptE l d = 0 then divs l (sgcd l d) else []
def ptD (l : List Int) (d : Int) : Int := if ptE l d = 0 then d.tdiv (sgcd l d) else 0
def frN (n d : Int) : Int := (ptN [n] d).headD 0
def lessB (a b c d : Int) : Bool := mayB [a] b && (mayB [c] d && decide (a * d < c * b))

theorem smallB_nil (m : Int) : smallB m [] = true := rfl
theorem smallB_take {m : Int} {l : List Int} {k : Nat} (h : k < l.length) : smallB m (l.take (k + 1)) = (smallB m (l.take k) && (decide (-m ≤ l[k]) && decide (l[k] ≤ m))) := by
  unfold smallB; rw [List.take_succ_eq_append_getElem h, List.all_append]; simp
theorem smallB_false {m : Int} {l : List Int} {k : Nat} (h : k < l.length) (hn : (decide (-m ≤ l[k]) && decide (l[k] ≤ m)) = false) : smallB m l = false := by
  unfold smallB; rw [List.all_eq_false]; exact ⟨l[k], List.getElem_mem h, by simpa using hn⟩
theorem smallB_at {m : Int} {l : List Int} (hs : smallB m l = true) {k : Nat} (h : k < l.length) : -m ≤ l[k] ∧ l[k] ≤ m := by
  unfold smallB at hs; rw [List.all_eq_true] at hs
  simpa using hs l[k] (List.getElem_mem h)
theorem smallB_mem {m : Int} {l : List Int} (hs : smallB m l = true) {n : Int} (h : n ∈ l) : -m ≤ n ∧ n ≤ m := by
  unfold smallB at hs; rw [List.all_eq_true] at hs
  simpa using hs n h
theorem smallB_iff {m : Int} {l : List Int} : smallB m l = true ↔ ∀ n ∈ l, -m ≤ n ∧ n ≤ m := by
  unfold smallB; rw [List.all_eq_true]; simp
theorem smallB_one (m d : Int) : smallB m [d] = (decide (-m ≤ d) && decide (d ≤ m)) := by simp [smallB]

theorem comm_take (g : Nat) {l : List Int} {k : Nat} (h : k < l.length) : comm g (l.take (k + 1)) = Nat.gcd (comm g (l.take k)) l[k].natAbs := by
  unfold comm; rw [List.take_succ_eq_append_getElem h, List.foldl_append]; rfl
theorem comm_cons (g : Nat) (n : Int) (l : List Int) : comm g (n :: l) = comm (Nat.gcd g n.natAbs) l := rfl
theorem comm_dvd (g : Nat) (l : List Int) : comm g l ∣ g ∧ ∀ n ∈ l, (comm g l : Int) ∣ n := by
  induction l generalizing g with
  | nil => exact ⟨Nat.dvd_refl _, by simp⟩
  | cons n l ih =>
    rw [comm_cons]
    obtain ⟨h1, h2⟩ := ih (Nat.gcd g n.natAbs)
    refine ⟨Nat.dvd_trans h1 (Nat.gcd_dvd_left _ _), ?_⟩
    intro x hx
    rcases List.mem_cons.1 hx with rfl | hx
    · exact Int.ofNat_dvd_left.2 (Nat.dvd_trans h1 (Nat.gcd_dvd_right _ _))
    · exact h2 x hx
theorem comm_great (g : Nat) (l : List Int) (d : Nat) (hg : d ∣ g) (hl : ∀ n ∈ l, (d : Int) ∣ n) : d ∣ comm g l := by
  induction l generalizing g with
  | nil => exact hg
  | cons n l ih =>
    rw [comm_cons]
    exact ih _ (Nat.dvd_gcd hg (Int.ofNat_dvd_left.1 (hl n (by simp)))) fun x hx => hl x (by simp [hx])
theorem comm_pos (g : Nat) (l : List Int) (hg : 0 < g) : 0 < comm g l :=
  Nat.pos_of_dvd_of_pos (comm_dvd g l).1 hg
theorem comm_le (g : Nat) (l : List Int) (hg : 0 < g) : comm g l ≤ g := Nat.le_of_dvd hg (comm_dvd g l).1
theorem comm_bound (g B : Nat) (l : List Int) (hg : g ≤ B) (hl : ∀ n ∈ l, n.natAbs ≤ B) : comm g l ≤ B := by
  induction l generalizing g with
  | nil => exact hg
  | cons n l ih =>
    rw [comm_cons]
    refine ih _ ?_ fun x hx => hl x (by simp [hx])
    rcases Nat.eq_zero_or_pos g with rfl | h0
    · rw [Nat.gcd_zero_left]; exact hl n (by simp)
    · exact Nat.le_trans (Nat.gcd_le_left _ h0) hg
/-- What is left when all are divided has nothing in common. -/
theorem comm_divs (l : List Int) (d : Int) (hd : d ≠ 0) : comm (d.tdiv (sgcd l d)).natAbs (divs l (sgcd l d)) = 1 := by
  have hp : 0 < d.natAbs := Int.natAbs_pos.2 hd
  have hg : 0 < comm d.natAbs l := comm_pos _ _ hp
  obtain ⟨h1, h2⟩ := comm_dvd d.natAbs l
  have hs : (sgcd l d).natAbs = comm d.natAbs l := by unfold sgcd; split <;> simp
  have hsd : (sgcd l d) ∣ d := by rw [← Int.natAbs_dvd_natAbs, hs]; exact h1
  have hsl : ∀ n ∈ l, sgcd l d ∣ n := fun n hn => by
    have := h2 n hn
    rw [Int.ofNat_dvd_left] at this
    rw [← Int.natAbs_dvd_natAbs, hs]; exact this
  have hs0 : sgcd l d ≠ 0 := fun h => by rw [h] at hs; simp at hs; omega
  generalize hk : comm (d.tdiv (sgcd l d)).natAbs (divs l (sgcd l d)) = k
  have hkd := comm_dvd (d.tdiv (sgcd l d)).natAbs (divs l (sgcd l d))
  rw [hk] at hkd
  have hdvd : ∀ x : Int, sgcd l d ∣ x → (k : Int) ∣ x.tdiv (sgcd l d) → ((k * comm d.natAbs l : Nat) : Int) ∣ x := by
    intro x hx hkx
    obtain ⟨y, rfl⟩ := hx
    rw [Int.mul_tdiv_cancel_left _ hs0] at hkx
    obtain ⟨z, rfl⟩ := hkx
    rw [← Int.natAbs_dvd_natAbs]
    refine ⟨z.natAbs, ?_⟩
    rw [Int.natAbs_mul, Int.natAbs_mul, hs, Int.natAbs_natCast, Int.natAbs_natCast]
    ac_rfl
  have hgreat : k * comm d.natAbs l ∣ comm d.natAbs l := by
    refine comm_great _ _ _ ?_ ?_
    · have := hdvd d hsd (Int.ofNat_dvd_left.2 hkd.1)
      rw [Int.ofNat_dvd_left] at this
      exact this
    · intro n hn
      exact hdvd n (hsl n hn) (hkd.2 _ (by unfold divs; exact List.mem_map_of_mem hn))
  have := Nat.le_of_dvd hg hgreat
  have hk0 : k ≠ 0 := by
    intro h
    subst h
    rw [Nat.zero_mul] at hgreat
    have := Nat.eq_zero_of_zero_dvd hgreat
    omega
  have : k * comm d.natAbs l ≤ 1 * comm d.natAbs l := by omega
  have := Nat.le_of_mul_le_mul_right this hg
  omega
theorem divs_neg (l : List Int) (g : Int) : divs l (-g) = (divs l g).map fun n => -n := by
  unfold divs; rw [List.map_map]; apply List.map_congr_left; intro n _; simp [Int.tdiv_neg]
theorem length_divs (l : List Int) (g : Int) : (divs l g).length = l.length := by simp [divs]
theorem sgcd_ne {l : List Int} {d : Int} (hd : d ≠ 0) : sgcd l d ≠ 0 := by
  have := comm_pos d.natAbs l (Int.natAbs_pos.2 hd)
  unfold sgcd; split <;> omega
theorem sgcd_bound {l : List Int} {d : Int} (h : -4611686018427387904 ≤ d) (h' : d ≤ 4611686018427387904) (hd : d ≠ 0) : -4611686018427387904 ≤ sgcd l d ∧ sgcd l d ≤ 4611686018427387904 := by
  have := comm_le d.natAbs l (Int.natAbs_pos.2 hd)
  unfold sgcd; split <;> omega
theorem mul_bound (a b A B : Int) (h1 : -A ≤ a) (h2 : a ≤ A) (h3 : -B ≤ b) (h4 : b ≤ B) : -(A * B) ≤ a * b ∧ a * b ≤ A * B := by
  have h : (a * b).natAbs ≤ A.natAbs * B.natAbs := by
    rw [Int.natAbs_mul]; exact Nat.mul_le_mul (by omega) (by omega)
  have hA : (0 : Int) ≤ A := by omega
  have hB : (0 : Int) ≤ B := by omega
  have e : (A.natAbs * B.natAbs : Nat) = (A * B).natAbs := (Int.natAbs_mul A B).symm
  have hp : 0 ≤ A * B := Int.mul_nonneg hA hB
  rw [e] at h
  omega
theorem tdiv_bound (B : Int) (n g : Int) (h : -B ≤ n) (h' : n ≤ B) : -B ≤ n.tdiv g ∧ n.tdiv g ≤ B := by
  have := Int.natAbs_tdiv_le_natAbs n g
  omega
theorem divs_take {l : List Int} {g : Int} {k : Nat} (h : k < l.length) : divs (l.take (k + 1)) g = divs (l.take k) g ++ [l[k].tdiv g] := by
  unfold divs; rw [List.take_succ_eq_append_getElem h, List.map_append]; rfl
end Go.Proofs.YtjcdkbalhleeeabDoor

/-
  Plain words for chapter 2: programs as lists, which may be, what a point is worth. No program in sight.
-/
namespace Go.Proofs.YtjcdkbalhleeeabDoor

/-- A linear program: costs, and rows (what the variables have, and what they may be at most). -/
structure PG where
  costs : List Int
  rows : List (List Int × Int)

/-- May a row be, of n variables? -/
def rowB (n : Nat) (r : List Int × Int) : Bool := decide (r.1.length = n) && (smallB 12 [r.2] && smallB 12 r.1)
/-- May a program be? -/
def mayPB (p : PG) : Bool :=
  decide (1 ≤ p.costs.length) && (decide (p.costs.length ≤ 4) && (decide (1 ≤ p.rows.length) && (decide (p.rows.length ≤ 4) && (smallB 400 p.costs && p.rows.all (rowB p.costs.length)))))
/-- Numbers, each times another one, together. -/
def dot : List Int → List Int → Int
  | x :: a, y :: b => x * y + dot a b
  | _, _ => 0
/-- May a program be, and a point with so many numbers? -/
def fitsB (p : PG) (x : List Int) (d : Int) : Bool := mayPB p && (mayB x d && decide (x.length = p.costs.length))
/-- Are all numbers 0 or above? -/
def nonneg (l : List Int) : Bool := l.all fun n => decide (0 ≤ n)
/-- Does a point go? -/
def goesB (p : PG) (x : List Int) (d : Int) : Bool := fitsB p x d && (nonneg x && p.rows.all fun r => decide (dot r.1 x ≤ r.2 * d))

/-- What a point is worth: num, den, error. -/
def worN (p : PG) (x : List Int) (d : Int) : Int := if fitsB p x d then frN (dot p.costs x) d else 0
def worD (p : PG) (x : List Int) (d : Int) : Int := if fitsB p x d then ptD [dot p.costs x] d else 0
def worE (p : PG) (x : List Int) (d : Int) : Int := if fitsB p x d then ptE [dot p.costs x] d else 2

theorem dot_take {a b : List Int} {k : Nat} (h : k < a.length) (h' : k < b.length) : dot (a.take (k + 1)) b = dot (a.take k) b + a[k] * b[k] := by
  induction a generalizing b k with
  | nil => simp at h
  | cons x a ih =>
    cases b with
    | nil => simp at h'
    | cons y b =>
      cases k with
      | zero => simp [dot]
      | succ k =>
        simp only [List.take_succ_cons, dot, List.getElem_cons_succ]
        rw [ih (by simpa using h) (by simpa using h')]
        omega
theorem dot_bound {A B : Int} {a b : List Int} (ha : smallB A a = true) (hb : smallB B b = true) (hA : 0 ≤ A) (hB : 0 ≤ B) : -(a.length * (A * B)) ≤ dot a b ∧ dot a b ≤ a.length * (A * B) := by
  have hAB : 0 ≤ A * B := Int.mul_nonneg hA hB
  induction a generalizing b with
  | nil => simp [dot]
  | cons x a ih =>
    cases b with
    | nil =>
      have : (0 : Int) ≤ ((x :: a).length : Int) * (A * B) := Int.mul_nonneg (by omega) hAB
      simp only [dot]; omega
    | cons y b =>
      simp only [dot]
      have hx := smallB_mem ha (n := x) (by simp)
      have hy := smallB_mem hb (n := y) (by simp)
      have h1 := mul_bound x y A B hx.1 hx.2 hy.1 hy.2
      have h2 := ih (b := b) (smallB_iff.2 fun n hn => smallB_mem ha (by simp [hn])) (smallB_iff.2 fun n hn => smallB_mem hb (by simp [hn]))
      have e : ((x :: a).length : Int) * (A * B) = (a.length : Int) * (A * B) + A * B := by
        rw [List.length_cons, Int.natCast_add, Int.add_mul]; simp
      rw [e]
      omega
theorem dot_take_bound {A B : Int} {a b : List Int} (ha : smallB A a = true) (hb : smallB B b = true) (hA : 0 ≤ A) (hB : 0 ≤ B) (k : Nat) : -(a.length * (A * B)) ≤ dot (a.take k) b ∧ dot (a.take k) b ≤ a.length * (A * B) := by
  have h := dot_bound (a := a.take k) (b := b) (A := A) (B := B) (smallB_iff.2 fun n hn => smallB_mem ha (List.mem_of_mem_take hn)) hb hA hB
  have hl : ((a.take k).length : Int) * (A * B) ≤ (a.length : Int) * (A * B) :=
    Int.mul_le_mul_of_nonneg_right (by have := List.length_take_le' k a; omega) (Int.mul_nonneg hA hB)
  omega
theorem all_take {α : Type} {f : α → Bool} {l : List α} {k : Nat} (h : k < l.length) : (l.take (k + 1)).all f = ((l.take k).all f && f l[k]) := by
  rw [List.take_succ_eq_append_getElem h, List.all_append]; simp
theorem all_false {α : Type} {f : α → Bool} {l : List α} {k : Nat} (h : k < l.length) (hn : f l[k] = false) : l.all f = false := by
  rw [List.all_eq_false]; exact ⟨l[k], List.getElem_mem h, by simpa using hn⟩

theorem mayPB_iff {p : PG} : mayPB p = true ↔ 1 ≤ p.costs.length ∧ p.costs.length ≤ 4 ∧ 1 ≤ p.rows.length ∧ p.rows.length ≤ 4 ∧ smallB 400 p.costs = true ∧ p.rows.all (rowB p.costs.length) = true := by
  unfold mayPB; simp only [Bool.and_eq_true, decide_eq_true_eq]
theorem mayPB_row {p : PG} (h : mayPB p = true) {k : Nat} (hk : k < p.rows.length) : p.rows[k].1.length = p.costs.length ∧ (-12 ≤ p.rows[k].2 ∧ p.rows[k].2 ≤ 12) ∧ smallB 12 p.rows[k].1 = true := by
  have h6 := (mayPB_iff.1 h).2.2.2.2.2
  rw [List.all_eq_true] at h6
  have := h6 _ (List.getElem_mem hk)
  unfold rowB at this
  simp only [Bool.and_eq_true, decide_eq_true_eq, smallB_one] at this
  exact ⟨this.1, this.2.1, this.2.2⟩
theorem fitsB_iff {p : PG} {x : List Int} {d : Int} : fitsB p x d = true ↔ mayPB p = true ∧ mayB x d = true ∧ x.length = p.costs.length := by
  unfold fitsB; simp only [Bool.and_eq_true, decide_eq_true_eq]
theorem mayB_parts {l : List Int} {d : Int} (h : mayB l d = true) : 1 ≤ d ∧ d ≤ 1073741824 ∧ smallB 1073741824 l = true ∧ l.length ≤ 8 := by
  simp only [mayB, rightB, Bool.and_eq_true, decide_eq_true_eq] at h
  exact ⟨h.1.1, h.1.2.1, h.1.2.2.1, h.1.2.2.2⟩
end Go.Proofs.YtjcdkbalhleeeabDoor

/-
  Plain words for chapter 9: numbers as text, a text's parts, a program's text, and the program of a text. No program in sight.
-/
namespace Go.Proofs.YtjcdkbalhleeeabDoor
open Go.Lib

/-- A text's parts between bytes c. -/
def cutB (c : UInt8) : List UInt8 → List (List UInt8)
  | [] => [[]]
  | b :: l => if b = c then [] :: cutB c l else (b :: (cutB c l).headD []) :: (cutB c l).tail

theorem cutB_ne (c : UInt8) (s : List UInt8) : cutB c s ≠ [] := by
  cases s with
  | nil => simp [cutB]
  | cons b l => rw [cutB]; split <;> simp
theorem cutB_length (c : UInt8) (s : List UInt8) : (cutB c s).length = s.count c + 1 := by
  induction s with
  | nil => simp [cutB]
  | cons b l ih =>
    rw [cutB]
    have h0 := cutB_ne c l
    have h1 : 0 < (cutB c l).length := List.length_pos_iff.2 h0
    split
    · next e => subst e; simp [ih]
    · next e => simp [e, ih]
theorem cutB_none {c : UInt8} {s : List UInt8} (h : c ∉ s) : cutB c s = [s] := by
  induction s with
  | nil => rfl
  | cons b l ih =>
    rw [cutB, if_neg (by intro e; exact h (by simp [e])), ih (by intro e; exact h (by simp [e]))]; rfl
theorem cutB_hit {c : UInt8} {a : List UInt8} (h : c ∉ a) (r : List UInt8) : cutB c (a ++ c :: r) = a :: cutB c r := by
  induction a with
  | nil => simp [cutB]
  | cons b l ih =>
    rw [List.cons_append, cutB, if_neg (by intro e; exact h (by simp [e])), ih (by intro e; exact h (by simp [e]))]; rfl
/-- One byte more at the end. -/
theorem cutB_snoc (c : UInt8) (s : List UInt8) (b : UInt8) : cutB c (s ++ [b]) = if b = c then cutB c s ++ [[]] else (cutB c s).dropLast ++ [(cutB c s).getLastD [] ++ [b]] := by
  induction s with
  | nil => by_cases e : b = c <;> simp [cutB, e]
  | cons x l ih =>
    rw [List.cons_append, cutB, cutB, ih]
    obtain ⟨h, t, ht⟩ := List.exists_cons_of_ne_nil (cutB_ne c l)
    rw [ht]
    by_cases e : b = c
    · by_cases e' : x = c <;> simp [e, e']
    · by_cases e' : x = c
      · simp [e, e']
      · cases t with
        | nil => simp [e, e']
        | cons y t => simp [e, e']
theorem join_cons2 (x y : List UInt8) (r : List (List UInt8)) (sep : List UInt8) : join (x :: y :: r) sep = x ++ sep ++ join (y :: r) sep := by
  rw [join_cons, join_cons]; simp [joinTail]
/-- The parts, joined again. -/
theorem join_cutB (c : UInt8) (s : List UInt8) : join (cutB c s) [c] = s := by
  induction s with
  | nil => simp [cutB, join_one]
  | cons b l ih =>
    rw [cutB]
    obtain ⟨h, t, ht⟩ := List.exists_cons_of_ne_nil (cutB_ne c l)
    rw [ht] at ih ⊢
    split
    · next e => rw [join_cons2, ih]; simp [e]
    · next e =>
      cases t with
      | nil => simp [join_one] at ih ⊢; exact ih
      | cons y t => rw [join_cons2] at ih; simp only [List.headD_cons, List.tail_cons]; rw [join_cons2, ← ih]; simp
/-- Parts without the byte, joined, are cut again. -/
theorem cutB_join {c : UInt8} : ∀ {l : List (List UInt8)}, l ≠ [] → (∀ x ∈ l, c ∉ x) → cutB c (join l [c]) = l
  | [], h, _ => absurd rfl h
  | [x], _, h => by rw [join_one]; exact cutB_none (h x (by simp))
  | x :: y :: r, _, h => by
    rw [join_cons2, List.append_assoc, List.singleton_append, cutB_hit (h x (by simp)), cutB_join (by simp) (fun z hz => h z (by simp [hz]))]

/-- The library's Split at one byte. -/
theorem splitK_cut (c : UInt8) : ∀ (n : Nat) (s : List UInt8), s.length ≤ n → splitK [c] 0 (s.count c) s = cutB c s := by
  intro n
  induction n with
  | zero => intro s h; have : s = [] := List.length_eq_zero_iff.1 (by omega); subst this; rfl
  | succ n ih =>
    intro s h
    by_cases hc : c ∈ s
    · obtain ⟨a, r, e, hn⟩ := List.eq_append_cons_of_mem hc
      rw [e, List.count_append, List.count_eq_zero_of_not_mem hn, List.count_cons_self, Nat.zero_add, splitK]
      have hi : index (a ++ c :: r) [c] = a.length := by
        refine index_first (by simp) (by simp [occAt]) ?_
        intro j hj
        rw [occAt]
        rw [List.drop_append_of_le_length (by omega)]
        have hd : a.drop j = a[j] :: a.drop (j + 1) := List.drop_eq_getElem_cons hj
        have : a[j] ≠ c := fun e => hn (e ▸ List.getElem_mem hj)
        rw [hd, List.cons_append, List.isPrefixOf, beq_eq_false_iff_ne.2 (Ne.symm this), Bool.false_and]
      rw [hi, if_neg (by simp), cutB_hit hn]
      simp only [Int.toNat_natCast, Nat.add_zero, List.length_singleton]
      rw [List.take_left, show (a ++ c :: r).drop (a.length + 1) = r by simp [List.drop_append], ih r (by rw [e] at h; simp at h; omega)]
    · rw [List.count_eq_zero_of_not_mem hc, cutB_none hc]; rfl

/-- A number's digits, with n ahead of them. -/
def digs : Nat → List UInt8 → Option Nat
  | n, [] => some n
  | n, c :: r => if 48 ≤ c.toNat ∧ c.toNat ≤ 57 then digs (10 * n + (c.toNat - 48)) r else none
/-- The text without its sign. -/
def bare (s : List UInt8) : List UInt8 := if s.head? = some 45 then s.tail else s
/-- Is its form no number's? -/
def odd (s : List UInt8) : Bool := decide ((bare s).length < 1 ∨ 6 < (bare s).length ∨ ((bare s).head? = some 48 ∧ (1 < (bare s).length ∨ s.head? = some 45)))
/-- The number of a text, as the document says it. -/
def numR (s : List UInt8) : Option Int :=
  if odd s = true then none else (digs 0 (bare s)).map (fun (n : Nat) => if s.head? = some 45 then -(n : Int) else (n : Int))
/-- The number of a text, as the program finds it. -/
def numP (s : List UInt8) : Option Int :=
  match parseIntB 64 s with
  | .ok n => if -999999 ≤ n ∧ n ≤ 999999 ∧ itoa n = s then some n else none
  | _ => none

theorem byte_eq {c : UInt8} (h : 48 ≤ c.toNat) (h' : c.toNat ≤ 57) : UInt8.ofNat (48 + (c.toNat - 48)) = c := by
  have : 48 + (c.toNat - 48) = c.toNat := by omega
  rw [this]; simp
theorem dec_step {a d : Nat} (ha : 0 < a) (hd : d < 10) : decDigits (10 * a + d) = decDigits a ++ [UInt8.ofNat (48 + d)] := by
  rw [decDigits, dif_neg (by omega), show (10 * a + d) / 10 = a by omega, show (10 * a + d) % 10 = d by omega]
theorem digs_dec : ∀ {t : List UInt8} {a n : Nat}, 0 < a → digs a t = some n → decDigits n = decDigits a ++ t ∧ a ≤ n
  | [], a, n, _, h => by simp [digs] at h; subst h; simp
  | c :: r, a, n, ha, h => by
    rw [digs] at h
    split at h
    · next hc =>
      have := digs_dec (a := 10 * a + (c.toNat - 48)) (by omega) h
      rw [dec_step ha (by omega), byte_eq hc.1 hc.2] at this
      exact ⟨by rw [this.1]; simp, by omega⟩
    · exact absurd h (by simp)
theorem digs_le : ∀ {t : List UInt8} {a n : Nat}, digs a t = some n → a ≤ n
  | [], a, n, h => by simp [digs] at h; omega
  | c :: r, a, n, h => by
    rw [digs] at h
    split at h
    · have := digs_le h; omega
    · exact absurd h (by simp)
theorem digs_pow : ∀ {t : List UInt8} {a n : Nat}, digs a t = some n → n < (a + 1) * 10 ^ t.length
  | [], a, n, h => by simp [digs] at h; simp; omega
  | c :: r, a, n, h => by
    rw [digs] at h
    split at h
    · have := digs_pow h
      have h1 : (10 * a + (c.toNat - 48) + 1) * 10 ^ r.length ≤ (10 * (a + 1)) * 10 ^ r.length := Nat.mul_le_mul_right _ (by omega)
      rw [List.length_cons, Nat.pow_succ]
      calc n < _ := this
        _ ≤ _ := h1
        _ = _ := by rw [Nat.mul_comm 10 (a + 1), Nat.mul_assoc, Nat.mul_comm 10]
    · exact absurd h (by simp)
theorem digs_parse {M : Nat} (hM : M ≤ 18446744073709551615) : ∀ {t : List UInt8} {a n : Nat}, digs a t = some n → n ≤ M → parseUintM M a t = .ok n
  | [], a, n, h, _ => by simp [digs] at h; rw [parseUintM, h]
  | c :: r, a, n, h, hn => by
    rw [digs] at h
    split at h
    · next hc =>
      have := digs_le h
      rw [parseUintM, if_pos hc, if_neg (by omega), if_neg (by omega), Nat.mul_comm a]
      exact digs_parse hM h hn
    · exact absurd h (by simp)
theorem digs_self (u : Nat) : ∀ (r : List UInt8), digs 0 (decDigits u ++ r) = digs u r := by
  induction u using Nat.strongRecOn with
  | ind u ih =>
    intro r
    rw [decDigits]
    split
    · next h =>
      have e : (UInt8.ofNat (48 + u)).toNat = 48 + u := by simp; omega
      rw [List.singleton_append, digs, if_pos (by omega), e]; congr 1; omega
    · next h =>
      have e : (UInt8.ofNat (48 + u % 10)).toNat = 48 + u % 10 := by simp; omega
      rw [List.append_assoc, ih (u / 10) (by omega), List.singleton_append, digs, if_pos (by omega), e]; congr 1; omega
theorem dec_head {u : Nat} (h : 0 < u) : ∃ c r, decDigits u = c :: r ∧ c ≠ 48 ∧ c ≠ 45 := by
  induction u using Nat.strongRecOn with
  | ind u ih =>
    rw [decDigits]
    split
    · next h' =>
      refine ⟨_, _, rfl, ?_, ?_⟩
      · intro e; have := congrArg UInt8.toNat e; simp at this; omega
      · intro e; have := congrArg UInt8.toNat e; simp at this; omega
    · next h' =>
      obtain ⟨c, r, e, h1, h2⟩ := ih (u / 10) (by omega) (by omega)
      exact ⟨c, r ++ _, by rw [e]; rfl, h1, h2⟩
theorem dec_bytes (u : Nat) : ∀ c ∈ decDigits u, 48 ≤ c.toNat ∧ c.toNat ≤ 57 := by
  induction u using Nat.strongRecOn with
  | ind u ih =>
    rw [decDigits]
    split
    · intro c hc; simp at hc; subst hc; simp; omega
    · intro c hc
      rw [List.mem_append] at hc
      rcases hc with hc | hc
      · exact ih _ (by omega) c hc
      · simp at hc; subst hc; simp; omega
theorem dec_len {u : Nat} (h : u ≤ 999999) : (decDigits u).length ≤ 6 ∧ 1 ≤ (decDigits u).length := by
  rw [decDigits_length]
  refine ⟨?_, nDigits_pos u⟩
  by_cases h1 : u < 10
  · rw [nDigits_small h1]; omega
  rw [nDigits_big h1]
  by_cases h2 : u / 10 < 10
  · rw [nDigits_small h2]; omega
  rw [nDigits_big h2]
  by_cases h3 : u / 10 / 10 < 10
  · rw [nDigits_small h3]; omega
  rw [nDigits_big h3]
  by_cases h4 : u / 10 / 10 / 10 < 10
  · rw [nDigits_small h4]; omega
  rw [nDigits_big h4]
  by_cases h5 : u / 10 / 10 / 10 / 10 < 10
  · rw [nDigits_small h5]; omega
  rw [nDigits_big h5, nDigits_small (by omega)]; omega

theorem itoa_neg {v : Int} (h : v < 0) : itoa v = 45 :: decDigits v.natAbs := by rw [itoa, if_pos h]
theorem itoa_pos {v : Int} (h : ¬ v < 0) : itoa v = decDigits v.toNat := by rw [itoa, if_neg h]

/-- The document's number of a number's text is it. -/
theorem numR_itoa {v : Int} (h : -999999 ≤ v) (h' : v ≤ 999999) : numR (itoa v) = some v := by
  by_cases hv : v < 0
  · rw [itoa_neg hv]
    obtain ⟨c, r, e, h1, h2⟩ := dec_head (u := v.natAbs) (by omega)
    have hl := dec_len (u := v.natAbs) (by omega)
    have hd := digs_self v.natAbs []
    rw [List.append_nil] at hd
    have ho : odd (45 :: decDigits v.natAbs) = false := by
      simp only [odd, bare, List.head?_cons, if_pos, List.tail_cons, decide_eq_false_iff_not]
      rw [e] at hl ⊢
      simp at hl ⊢
      exact ⟨by omega, h1⟩
    rw [numR, ho, if_neg (by simp), bare]
    simp only [List.head?_cons, if_pos, List.tail_cons, hd, digs]
    simp; omega
  · rw [itoa_pos hv]
    have hl := dec_len (u := v.toNat) (by omega)
    have hd := digs_self v.toNat []
    rw [List.append_nil] at hd
    have hh : (decDigits v.toNat).head? ≠ some 45 := by
      intro e
      obtain ⟨c, r, e'⟩ := List.exists_cons_of_ne_nil (l := decDigits v.toNat) (by intro e0; rw [e0] at hl; simp at hl)
      rw [e'] at e
      have := dec_bytes v.toNat 45 (by rw [e']; simp at e; simp [e])
      simp at this
    have hb : bare (decDigits v.toNat) = decDigits v.toNat := by rw [bare, if_neg hh]
    have ho : odd (decDigits v.toNat) = false := by
      simp only [odd, hb, decide_eq_false_iff_not]
      intro h3
      rcases h3 with h3 | h3 | ⟨h3, h4⟩
      · omega
      · omega
      · rcases h4 with h4 | h4
        · by_cases h0 : v.toNat = 0
          · rw [h0, decDigits_one (by omega)] at h4; simp at h4
          · obtain ⟨c, r, e, h5, _⟩ := dec_head (u := v.toNat) (by omega)
            rw [e] at h3; simp at h3; exact h5 h3
        · exact hh h4
    rw [numR, ho, if_neg (by simp), hb, hd]
    simp [digs, hh]; omega
/-- What the document reads as a number is a number's text, and the library reads it. -/
theorem numR_some {s : List UInt8} {v : Int} (h : numR s = some v) : itoa v = s ∧ -999999 ≤ v ∧ v ≤ 999999 ∧ parseIntB 64 s = .ok v := by
  unfold numR at h
  split at h
  · exact absurd h (by simp)
  next ho =>
  simp only [odd, decide_eq_true_eq] at ho
  rw [Option.map_eq_some_iff] at h
  obtain ⟨n, hn, hv⟩ := h
  have hp := digs_pow hn
  have h6 : 10 ^ (bare s).length ≤ 10 ^ 6 := Nat.pow_le_pow_right (by omega) (by omega)
  have hnn : n ≤ 999999 := by omega
  have hdec : decDigits n = bare s := by
    cases hb : bare s with
    | nil => rw [hb] at ho; simp at ho
    | cons c r =>
      rw [hb] at hn ho
      rw [digs] at hn
      split at hn
      · next hc =>
        by_cases h0 : c = 48
        · subst h0
          have : r = [] := by
            cases r with
            | nil => rfl
            | cons _ _ => simp at ho
          subst this
          simp [digs] at hn; subst hn
          rw [decDigits_one (by omega)]; rfl
        · have hc0 : c.toNat ≠ 48 := fun e => h0 (by have := byte_eq hc.1 hc.2; rw [e] at this; simpa using this.symm)
          have := (digs_dec (by omega) hn).1
          rw [this, Nat.mul_zero, Nat.zero_add, decDigits_one (by omega), byte_eq hc.1 hc.2]; rfl
      · exact absurd hn (by simp)
  have hM : (18446744073709551615 : Nat) = 2 ^ 64 - 1 := by decide
  have hpar : parseUintB 64 (bare s) = .ok n := by
    unfold parseUintB
    rw [if_neg (by intro e; rw [e] at ho; simp at ho)]
    exact digs_parse (M := 2 ^ 64 - 1) (by decide) hn (by omega)
  by_cases hs : s.head? = some 45
  · rw [if_pos hs] at hv
    cases s with
    | nil => simp at hs
    | cons c r =>
      simp at hs; subst hs
      have hb : bare (45 :: r) = r := by simp [bare]
      rw [hb] at hdec hpar ho
      have hn0 : 0 < n := by
        rcases Nat.eq_zero_or_pos n with e | e
        · subst e; rw [decDigits_one (by omega)] at hdec; rw [← hdec] at ho; simp at ho
        · exact e
      refine ⟨?_, by omega, by omega, ?_⟩
      · rw [← hv, itoa_neg (by omega), show (-(n : Int)).natAbs = n by omega, hdec]
      · simp only [parseIntB]
        simp [hpar, ← hv]; omega
  · rw [if_neg hs] at hv
    have hb : bare s = s := by rw [bare, if_neg hs]
    rw [hb] at hdec hpar ho
    refine ⟨?_, by omega, by omega, ?_⟩
    · rw [← hv, itoa_pos (by omega), show (n : Int).toNat = n by omega, hdec]
    · cases s with
      | nil => simp at ho
      | cons c r =>
        have hc := dec_bytes n c (by rw [hdec]; simp)
        simp only [parseIntB]
        rw [if_neg (by omega), hpar]
        simp only []
        rw [if_neg (by omega), if_neg (by omega), if_neg (by omega), hv]
/-- The program finds the document's number. -/
theorem numP_eq (s : List UInt8) : numP s = numR s := by
  cases h : numR s with
  | some v =>
    obtain ⟨h1, h2, h3, h4⟩ := numR_some h
    rw [numP, h4]; simp only []; rw [if_pos ⟨h2, h3, h1⟩]
  | none =>
    unfold numP
    split
    · next n hn =>
      split
      · next hc => rw [← hc.2.2, numR_itoa hc.1 hc.2.1] at h; exact absurd h (by simp)
      · rfl
    · rfl
end Go.Proofs.YtjcdkbalhleeeabDoor

/-
  Plain: a program's text, and what is read of a text, under chapter 9's words: a program's text is read as it, and a text that is a program's is its text. No program in sight.
-/
namespace Go.Proofs.YtjcdkbalhleeeabDoor
open Go.Lib

def mostW : List UInt8 := [109, 111, 115, 116]
def leW : List UInt8 := [60, 61]
/-- The first line, and a row's, as the document writes them. -/
def costT (cs : List Int) : List UInt8 := mostW ++ (cs.map fun n => 32 :: itoa n).flatten ++ [10]
def rowT (r : List Int × Int) : List UInt8 := (r.1.map fun n => itoa n ++ [32]).flatten ++ (leW ++ 32 :: itoa r.2) ++ [10]
/-- A program's text. -/
def textF (p : PG) : List UInt8 := costT p.costs ++ (p.rows.map rowT).flatten
/-- The first line, and a row's, as the program joins them. -/
def costL (cs : List Int) : List UInt8 := join (mostW :: cs.map itoa) [32]
def rowL (r : List Int × Int) : List UInt8 := join (r.1.map itoa ++ [leW, itoa r.2]) [32]

theorem costT_eq (cs : List Int) : costT cs = costL cs ++ [10] := by
  rw [costT, costL, join_cons, joinTail, List.map_map]; rfl
theorem rowT_eq (r : List Int × Int) : rowT r = rowL r ++ [10] := by
  rw [rowT, rowL]
  congr 1
  obtain ⟨l, m⟩ := r
  induction l with
  | nil => simp [join_cons2, join_one]
  | cons n l ih =>
    simp only [List.map_cons, List.flatten_cons, List.cons_append] at ih ⊢
    obtain ⟨x, y, e⟩ := List.exists_cons_of_ne_nil (l := l.map itoa ++ [leW, itoa m]) (by simp)
    rw [List.append_assoc, ih, e, join_cons2]
theorem itoa_bytes (v : Int) : ∀ c ∈ itoa v, c = 45 ∨ (48 ≤ c.toNat ∧ c.toNat ≤ 57) := by
  intro c hc
  by_cases h : v < 0
  · rw [itoa_neg h] at hc
    simp at hc
    rcases hc with hc | hc
    · exact Or.inl hc
    · exact Or.inr (dec_bytes _ c hc)
  · rw [itoa_pos h] at hc; exact Or.inr (dec_bytes _ c hc)
theorem itoa_not {v : Int} {c : UInt8} (h : c ≠ 45) (h' : c.toNat < 48) : c ∉ itoa v := fun hc => by
  rcases itoa_bytes v c hc with e | e
  · exact h e
  · omega

/-- The numbers of words. -/
def numsR : List (List UInt8) → Option (List Int)
  | [] => some []
  | w :: l => (numR w).bind fun n => (numsR l).map (n :: ·)
theorem numsR_snoc (l : List (List UInt8)) (w : List UInt8) : numsR (l ++ [w]) = (numsR l).bind fun v => (numR w).map fun n => v ++ [n] := by
  induction l with
  | nil => simp [numsR]; cases numR w <;> rfl
  | cons x l ih =>
    rw [List.cons_append, numsR, numsR, ih]
    cases numR x <;> cases numsR l <;> cases numR w <;> rfl
theorem numsR_none {l : List (List UInt8)} {k : Nat} (hk : k < l.length) (h : numR l[k] = none) : numsR l = none := by
  induction l generalizing k with
  | nil => simp at hk
  | cons x l ih =>
    rw [numsR]
    cases k with
    | zero => simp only [List.getElem_cons_zero] at h; rw [h]; rfl
    | succ k =>
      rw [ih (k := k) (by simpa using hk) (by simpa using h)]; cases numR x <;> rfl
theorem numsR_take {l : List (List UInt8)} {k : Nat} (hk : k < l.length) {v : List Int} {n : Int} (h : numsR (l.take k) = some v) (hn : numR l[k] = some n) : numsR (l.take (k + 1)) = some (v ++ [n]) := by
  rw [List.take_succ_eq_append_getElem hk, numsR_snoc, h, hn]; rfl
theorem numsR_itoa {l : List Int} (h : smallB 999999 l = true) : numsR (l.map itoa) = some l := by
  induction l with
  | nil => rfl
  | cons x l ih =>
    have hx := smallB_mem h (n := x) (by simp)
    rw [List.map_cons, numsR, numR_itoa hx.1 hx.2, ih (smallB_iff.2 fun n hn => smallB_mem h (by simp [hn]))]; rfl
theorem numsR_some : ∀ {l : List (List UInt8)} {v : List Int}, numsR l = some v → v.map itoa = l
  | [], v, h => by simp [numsR] at h; subst h; rfl
  | w :: l, v, h => by
    rw [numsR] at h
    cases hw : numR w with
    | none => rw [hw] at h; exact absurd h (by simp)
    | some n =>
      cases hl : numsR l with
      | none => rw [hw, hl] at h; exact absurd h (by simp)
      | some u =>
        rw [hw, hl] at h
        simp at h; subst h
        rw [List.map_cons, (numR_some hw).1, numsR_some hl]
theorem numsR_small : ∀ {l : List (List UInt8)} {v : List Int}, numsR l = some v → smallB 999999 v = true ∧ v.length = l.length
  | [], v, h => by simp [numsR] at h; subst h; exact ⟨rfl, rfl⟩
  | w :: l, v, h => by
    rw [numsR] at h
    cases hw : numR w with
    | none => rw [hw] at h; exact absurd h (by simp)
    | some n =>
      cases hl : numsR l with
      | none => rw [hw, hl] at h; exact absurd h (by simp)
      | some u =>
        rw [hw, hl] at h
        simp at h; subst h
        have h1 := numR_some hw
        have h2 := numsR_small hl
        refine ⟨smallB_iff.2 ?_, by simp [h2.2]⟩
        intro x hx
        rcases List.mem_cons.1 hx with e | e
        · exact e ▸ ⟨h1.2.1, h1.2.2.1⟩
        · exact smallB_mem h2.1 e

theorem numsR_one (w : List UInt8) : numsR [w] = (numR w).map fun n => [n] := by
  rw [numsR]; cases numR w <;> rfl
/-- The first line's costs, and another line's row. -/
def lineC (s : List UInt8) : Option (List Int) := if (cutB 32 s).headD [] = mostW then numsR (cutB 32 s).tail else none
def lineR (s : List UInt8) : Option (List Int × Int) :=
  if (cutB 32 s).length < 2 ∨ (cutB 32 s).getD ((cutB 32 s).length - 2) [] ≠ leW then none
  else (numsR ((cutB 32 s).take ((cutB 32 s).length - 2))).bind fun l => (numR ((cutB 32 s).getLastD [])).map fun m => (l, m)
theorem lineC_cost {cs : List Int} (h : smallB 999999 cs = true) : lineC (costL cs) = some cs := by
  have hc : cutB 32 (costL cs) = mostW :: cs.map itoa := by
    refine cutB_join (by simp) ?_
    intro x hx
    rcases List.mem_cons.1 hx with e | e
    · subst e; decide
    · obtain ⟨n, _, rfl⟩ := List.mem_map.1 e
      exact itoa_not (by decide) (by decide)
  rw [lineC, hc, List.headD_cons, if_pos rfl, List.tail_cons, numsR_itoa h]
theorem lineR_row {r : List Int × Int} (h : smallB 999999 r.1 = true) (h' : -999999 ≤ r.2 ∧ r.2 ≤ 999999) : lineR (rowL r) = some r := by
  have hc : cutB 32 (rowL r) = r.1.map itoa ++ [leW, itoa r.2] := by
    refine cutB_join (by simp) ?_
    intro x hx
    rcases List.mem_append.1 hx with e | e
    · obtain ⟨n, _, rfl⟩ := List.mem_map.1 e
      exact itoa_not (by decide) (by decide)
    · simp at e
      rcases e with e | e
      · subst e; decide
      · subst e; exact itoa_not (by decide) (by decide)
  have hl : (r.1.map itoa ++ [leW, itoa r.2]).length = (r.1.map itoa).length + 2 := by simp
  rw [lineR, hc, hl, if_neg, Nat.add_sub_cancel, List.take_left, numsR_itoa h]
  · have : (r.1.map itoa ++ [leW, itoa r.2]).getLastD [] = itoa r.2 := by simp
    rw [this, numR_itoa h'.1 h'.2]; rfl
  · simp [List.getD]
theorem lineC_some {s : List UInt8} {cs : List Int} (h : lineC s = some cs) : costL cs = s := by
  unfold lineC at h
  split at h
  · next e =>
    have hj := join_cutB 32 s
    obtain ⟨x, y, hc⟩ := List.exists_cons_of_ne_nil (cutB_ne 32 s)
    rw [hc] at e h hj
    simp at e; subst e
    rw [List.tail_cons] at h
    rw [costL, numsR_some h, hj]
  · exact absurd h (by simp)
theorem lineR_some {s : List UInt8} {r : List Int × Int} (h : lineR s = some r) : rowL r = s := by
  unfold lineR at h
  split at h
  · exact absurd h (by simp)
  next hn =>
  have hn2 : 2 ≤ (cutB 32 s).length := by
    rcases Nat.lt_or_ge (cutB 32 s).length 2 with e | e
    · exact absurd (Or.inl e) hn
    · exact e
  have hle : (cutB 32 s).getD ((cutB 32 s).length - 2) [] = leW := by
    rcases Classical.em ((cutB 32 s).getD ((cutB 32 s).length - 2) [] = leW) with e | e
    · exact e
    · exact absurd (Or.inr e) hn
  cases h1 : numsR ((cutB 32 s).take ((cutB 32 s).length - 2)) with
  | none => rw [h1] at h; exact absurd h (by simp)
  | some l =>
    cases h2 : numR ((cutB 32 s).getLastD []) with
    | none => rw [h1, h2] at h; exact absurd h (by simp)
    | some m =>
      rw [h1, h2] at h
      simp at h; subst h
      rw [rowL]
      simp only []
      rw [numsR_some h1, (numR_some h2).1, ← hle]
      conv => rhs; rw [← join_cutB 32 s]
      congr 1
      have hk : (cutB 32 s).length - 2 < (cutB 32 s).length := by omega
      have hk1 : (cutB 32 s).length - 2 + 1 < (cutB 32 s).length := by omega
      have e1 : (cutB 32 s).getD ((cutB 32 s).length - 2) [] = (cutB 32 s)[(cutB 32 s).length - 2] := by simp [List.getD, List.getElem?_eq_getElem hk]
      have e2 : (cutB 32 s).getLastD [] = (cutB 32 s)[(cutB 32 s).length - 2 + 1] := by
        rw [List.getLastD_eq_getLast?, List.getLast?_eq_getElem?, show (cutB 32 s).length - 1 = (cutB 32 s).length - 2 + 1 by omega, List.getElem?_eq_getElem hk1]; rfl
      rw [e1, e2]
      conv => rhs; rw [← List.take_append_drop ((cutB 32 s).length - 2) (cutB 32 s)]
      rw [List.drop_eq_getElem_cons hk, List.drop_eq_getElem_cons hk1, List.drop_of_length_le (by omega)]
theorem lineR_small {s : List UInt8} {r : List Int × Int} (h : lineR s = some r) : smallB 999999 r.1 = true ∧ -999999 ≤ r.2 ∧ r.2 ≤ 999999 ∧ r.1.length + 2 = (cutB 32 s).length := by
  unfold lineR at h
  split at h
  · exact absurd h (by simp)
  next hn =>
  cases h1 : numsR ((cutB 32 s).take ((cutB 32 s).length - 2)) with
  | none => rw [h1] at h; exact absurd h (by simp)
  | some l =>
    cases h2 : numR ((cutB 32 s).getLastD []) with
    | none => rw [h1, h2] at h; exact absurd h (by simp)
    | some m =>
      rw [h1, h2] at h
      simp at h; subst h
      have h3 := numsR_small h1
      have h4 := numR_some h2
      refine ⟨h3.1, h4.2.1, h4.2.2.1, ?_⟩
      simp only [h3.2, List.length_take]
      have : ¬ (cutB 32 s).length < 2 := fun e => hn (Or.inl e)
      omega

theorem lineR_short {s : List UInt8} (h : (cutB 32 s).length < 2) : lineR s = none := by unfold lineR; rw [if_pos (Or.inl h)]
theorem lineR_long {s : List UInt8} {m : Nat} (h : (cutB 32 s).length = m + 2) :
    lineR s = if (cutB 32 s)[m]'(by omega) = leW then (numsR ((cutB 32 s).take m)).bind fun l => (numR ((cutB 32 s)[m + 1]'(by omega))).map fun n => (l, n) else none := by
  have e3 : (cutB 32 s).length - 2 = m := by omega
  have e4 : (cutB 32 s).length - 1 = m + 1 := by omega
  have e1 : (cutB 32 s).getD ((cutB 32 s).length - 2) [] = (cutB 32 s)[m]'(by omega) := by
    rw [e3]; simp [List.getD, List.getElem?_eq_getElem (show m < (cutB 32 s).length by omega)]
  have e2 : (cutB 32 s).getLastD [] = (cutB 32 s)[m + 1]'(by omega) := by
    rw [List.getLastD_eq_getLast?, List.getLast?_eq_getElem?, e4, List.getElem?_eq_getElem (by omega)]; rfl
  unfold lineR
  rw [e1, e2, e3]
  by_cases hc : (cutB 32 s)[m]'(by omega) = leW
  · rw [if_neg (by rintro (q | q); · omega
                   · exact q hc), if_pos hc]
  · rw [if_pos (Or.inr hc), if_neg hc]
/-- The rows of lines; the program of lines: the first one has the costs. -/
def rowsP : List (List UInt8) → Option (List (List Int × Int))
  | [] => some []
  | s :: l => (lineR s).bind fun r => (rowsP l).map (r :: ·)
def takeP : List (List UInt8) → Option PG
  | [] => some ⟨[], []⟩
  | s :: l => (lineC s).bind fun cs => (rowsP l).map fun rs => ⟨cs, rs⟩
theorem rowsP_snoc (l : List (List UInt8)) (s : List UInt8) : rowsP (l ++ [s]) = (rowsP l).bind fun v => (lineR s).map fun r => v ++ [r] := by
  induction l with
  | nil => simp [rowsP]; cases lineR s <;> rfl
  | cons x l ih =>
    rw [List.cons_append, rowsP, rowsP, ih]
    cases lineR x <;> cases rowsP l <;> cases lineR s <;> rfl
theorem takeP_snoc (x : List UInt8) (l : List (List UInt8)) (s : List UInt8) : takeP (x :: l ++ [s]) = (takeP (x :: l)).bind fun q => (lineR s).map fun r => ⟨q.costs, q.rows ++ [r]⟩ := by
  rw [List.cons_append, takeP, takeP, rowsP_snoc]
  cases lineC x <;> cases rowsP l <;> cases lineR s <;> rfl
theorem takeP_one (s : List UInt8) : takeP [s] = (lineC s).map fun cs => ⟨cs, []⟩ := by
  simp [takeP, rowsP]; cases lineC s <;> rfl
/-- One line more. -/
theorem takeP_step {ls : List (List UInt8)} {k : Nat} (hk : k < ls.length) {q : PG} (h : takeP (ls.take k) = some q) (h0 : 0 < k) :
    takeP (ls.take (k + 1)) = (lineR ls[k]).map fun r => ⟨q.costs, q.rows ++ [r]⟩ := by
  obtain ⟨x, l, e⟩ := List.exists_cons_of_ne_nil (l := ls.take k) (by intro e; have := congrArg List.length e; rw [List.length_take, List.length_nil] at this; omega)
  rw [List.take_succ_eq_append_getElem hk, e, takeP_snoc, ← e, h]; rfl
theorem takeP_first {ls : List (List UInt8)} (hk : 0 < ls.length) : takeP (ls.take 1) = (lineC ls[0]).map fun cs => ⟨cs, []⟩ := by
  rw [List.take_succ_eq_append_getElem hk, List.take_zero, List.nil_append, takeP_one]
theorem takeP_prefix {ls : List (List UInt8)} : ∀ {k : Nat}, k < ls.length → (takeP (ls.take (k + 1))).isSome = true → (takeP (ls.take k)).isSome = true := by
  intro k hk h
  cases k with
  | zero => rfl
  | succ k =>
    obtain ⟨x, l, e⟩ := List.exists_cons_of_ne_nil (l := ls.take (k + 1)) (by intro e; have := congrArg List.length e; rw [List.length_take, List.length_nil] at this; omega)
    rw [List.take_succ_eq_append_getElem hk, e, takeP_snoc] at h
    rw [e]
    cases hq : takeP (x :: l) with
    | none => rw [hq] at h; exact absurd h (by simp)
    | some q => rfl
theorem takeP_all {ls : List (List UInt8)} {k j : Nat} (hk : k ≤ ls.length) (h : (takeP (ls.take k)).isSome = true) (hj : j ≤ k) : (takeP (ls.take j)).isSome = true := by
  induction k with
  | zero => have : j = 0 := by omega
            subst this; exact h
  | succ k ih =>
    rcases Nat.lt_or_ge j (k + 1) with e | e
    · exact ih (by omega) (takeP_prefix (by omega) h) (by omega)
    · have : j = k + 1 := by omega
      subst this; exact h

/-- What a text is read as: the program, what is wrong, and where. -/
def parF (s : List UInt8) : PG × Int × Nat :=
  match (List.range ((cutB 10 s).length - 1)).find? (fun k => (takeP ((cutB 10 s).take (k + 1))).isNone) with
  | some k => (⟨[], []⟩, 2, k)
  | none => match takeP ((cutB 10 s).take ((cutB 10 s).length - 1)) with
    | some q => if (cutB 10 s).getLastD [] = [] ∧ mayPB q = true then (q, 0, 0) else (⟨[], []⟩, 2, (cutB 10 s).length - 1)
    | none => (⟨[], []⟩, 2, (cutB 10 s).length - 1)
theorem parF_bad {s : List UInt8} {k : Nat} (hk : k < (cutB 10 s).length - 1) {q : PG} (h : takeP ((cutB 10 s).take k) = some q) (hn : takeP ((cutB 10 s).take (k + 1)) = none) : parF s = (⟨[], []⟩, 2, k) := by
  have : (List.range ((cutB 10 s).length - 1)).find? (fun k => (takeP ((cutB 10 s).take (k + 1))).isNone) = some k := by
    rw [List.find?_range_eq_some]
    refine ⟨by rw [hn]; rfl, by simpa using hk, ?_⟩
    intro j hj
    have := takeP_all (ls := cutB 10 s) (k := k) (j := j + 1) (by omega) (by rw [h]; rfl) (by omega)
    simp only [Bool.not_eq_true']
    cases h1 : takeP ((cutB 10 s).take (j + 1)) with
    | none => rw [h1] at this; exact absurd this (by simp)
    | some _ => rfl
  rw [parF, this]
theorem parF_end {s : List UInt8} {q : PG} (h : takeP ((cutB 10 s).take ((cutB 10 s).length - 1)) = some q) :
    parF s = if (cutB 10 s).getLastD [] = [] ∧ mayPB q = true then (q, 0, 0) else (⟨[], []⟩, 2, (cutB 10 s).length - 1) := by
  have : (List.range ((cutB 10 s).length - 1)).find? (fun k => (takeP ((cutB 10 s).take (k + 1))).isNone) = none := by
    rw [List.find?_range_eq_none]
    intro j hj
    have := takeP_all (ls := cutB 10 s) (k := (cutB 10 s).length - 1) (j := j + 1) (by omega) (by rw [h]; rfl) (by omega)
    simp only [Bool.not_eq_true']
    cases h1 : takeP ((cutB 10 s).take (j + 1)) with
    | none => rw [h1] at this; exact absurd this (by simp)
    | some _ => rfl
  rw [parF, this]; simp only [h]
theorem parF_cases (s : List UInt8) : (∃ q, parF s = (q, 0, 0) ∧ takeP ((cutB 10 s).take ((cutB 10 s).length - 1)) = some q ∧ (cutB 10 s).getLastD [] = [] ∧ mayPB q = true) ∨ (∃ k, parF s = (⟨[], []⟩, 2, k) ∧ k < (cutB 10 s).length) := by
  have hl := cutB_length 10 s
  unfold parF
  split
  · next k hk =>
    rw [List.find?_range_eq_some] at hk
    have := hk.2.1
    simp at this
    exact Or.inr ⟨k, rfl, by omega⟩
  · split
    · next q hq =>
      split
      · next h => exact Or.inl ⟨q, rfl, hq, h.1, h.2⟩
      · exact Or.inr ⟨_, rfl, by omega⟩
    · exact Or.inr ⟨_, rfl, by omega⟩

theorem rowsP_rows {rs : List (List Int × Int)} (h : ∀ r ∈ rs, smallB 999999 r.1 = true ∧ -999999 ≤ r.2 ∧ r.2 ≤ 999999) : rowsP (rs.map rowL) = some rs := by
  induction rs with
  | nil => rfl
  | cons r rs ih =>
    have hr := h r (by simp)
    rw [List.map_cons, rowsP, lineR_row hr.1 hr.2, ih (fun x hx => h x (by simp [hx]))]; rfl
theorem small_more {a b : Int} {l : List Int} (h : smallB a l = true) (hab : a ≤ b) : smallB b l = true :=
  smallB_iff.2 fun n hn => by have := smallB_mem h hn; omega
theorem join_bytes {c b : UInt8} : ∀ {l : List (List UInt8)}, (∀ x ∈ l, c ∉ x) → c ≠ b → c ∉ join l [b]
  | [], _, _ => by simp [join_nil]
  | [x], h, _ => by rw [join_one]; exact h x (by simp)
  | x :: y :: r, h, hb => by
    rw [join_cons2]
    have := join_bytes (c := c) (b := b) (l := y :: r) (fun z hz => h z (by simp [hz])) hb
    have hx := h x (by simp)
    simp [this, hx, hb]
theorem costL_no (cs : List Int) : (10 : UInt8) ∉ costL cs := by
  refine join_bytes ?_ (by decide)
  intro x hx
  rcases List.mem_cons.1 hx with e | e
  · subst e; decide
  · obtain ⟨n, _, rfl⟩ := List.mem_map.1 e
    exact itoa_not (by decide) (by decide)
theorem rowL_no (r : List Int × Int) : (10 : UInt8) ∉ rowL r := by
  refine join_bytes ?_ (by decide)
  intro x hx
  rcases List.mem_append.1 hx with e | e
  · obtain ⟨n, _, rfl⟩ := List.mem_map.1 e
    exact itoa_not (by decide) (by decide)
  · simp at e
    rcases e with e | e
    · subst e; decide
    · subst e; exact itoa_not (by decide) (by decide)
theorem cut_rows (rs : List (List Int × Int)) : cutB 10 (rs.map rowT).flatten = rs.map rowL ++ [[]] := by
  induction rs with
  | nil => rfl
  | cons r rs ih =>
    rw [List.map_cons, List.flatten_cons, rowT_eq, List.append_assoc, List.singleton_append, cutB_hit (rowL_no r), ih]; rfl
theorem cut_text (p : PG) : cutB 10 (textF p) = costL p.costs :: p.rows.map rowL ++ [[]] := by
  rw [textF, costT_eq, List.append_assoc, List.singleton_append, cutB_hit (costL_no _), cut_rows]; rfl
/-- A program's text is read as it. -/
theorem par_text {p : PG} (h : mayPB p = true) : parF (textF p) = (p, 0, 0) := by
  have hm := mayPB_iff.1 h
  have ht : takeP ((cutB 10 (textF p)).take ((cutB 10 (textF p)).length - 1)) = some p := by
    rw [cut_text]
    have hL : (costL p.costs :: p.rows.map rowL ++ [[]]).length - 1 = (costL p.costs :: p.rows.map rowL).length := by simp
    rw [hL, List.take_left, takeP,
      lineC_cost (small_more hm.2.2.2.2.1 (by decide)), rowsP_rows]
    · rfl
    · intro r hr
      obtain ⟨k, hk, rfl⟩ := List.getElem_of_mem hr
      have := mayPB_row h hk
      exact ⟨small_more this.2.2 (by decide), by omega, by omega⟩
  rw [parF_end ht, if_pos]
  exact ⟨by rw [cut_text, List.getLastD_concat], h⟩
/-- What is read as a program is its text. -/
theorem rowsP_some : ∀ {ls : List (List UInt8)} {rs : List (List Int × Int)}, rowsP ls = some rs → rs.map rowL = ls
  | [], rs, h => by simp [rowsP] at h; subst h; rfl
  | s :: l, rs, h => by
    rw [rowsP] at h
    cases hw : lineR s with
    | none => rw [hw] at h; exact absurd h (by simp)
    | some r =>
      cases hl : rowsP l with
      | none => rw [hw, hl] at h; exact absurd h (by simp)
      | some u =>
        rw [hw, hl] at h
        simp at h; subst h
        rw [List.map_cons, lineR_some hw, rowsP_some hl]
theorem text_lines {cs : List Int} {rs : List (List Int × Int)} : textF ⟨cs, rs⟩ = join (costL cs :: rs.map rowL ++ [[]]) [10] := by
  rw [← join_cutB 10 (textF ⟨cs, rs⟩), cut_text]
theorem text_par {s : List UInt8} (h : (parF s).2.1 = 0) : mayPB (parF s).1 = true ∧ textF (parF s).1 = s := by
  rcases parF_cases s with ⟨q, e, ht, hl, hm⟩ | ⟨k, e, _⟩
  · rw [e]
    refine ⟨hm, ?_⟩
    simp only []
    have hlast : cutB 10 s = (cutB 10 s).take ((cutB 10 s).length - 1) ++ [[]] := by
      have h0 := cutB_ne 10 s
      conv => lhs; rw [← List.dropLast_concat_getLast h0]
      rw [List.dropLast_eq_take]
      congr 2
      rw [List.getLastD_eq_getLast?, List.getLast?_eq_some_getLast h0] at hl
      simpa using hl
    have hm' := mayPB_iff.1 hm
    cases hc : (cutB 10 s).take ((cutB 10 s).length - 1) with
    | nil =>
      rw [hc, takeP] at ht
      simp at ht
      rw [← ht] at hm'
      simp at hm'
    | cons x l =>
      rw [hc] at ht hlast
      rw [takeP] at ht
      cases h1 : lineC x with
      | none => rw [h1] at ht; exact absurd ht (by simp)
      | some cs =>
        cases h2 : rowsP l with
        | none => rw [h1, h2] at ht; exact absurd ht (by simp)
        | some rs =>
          rw [h1, h2] at ht
          simp at ht
          rw [← ht, text_lines, lineC_some h1, rowsP_some h2, ← hlast, join_cutB]
  · rw [e] at h; exact absurd h (by simp)
theorem text_ne (p : PG) : textF p ≠ [] := by rw [textF, costT]; simp [mostW]
theorem known_text : (parF [109, 111, 115, 116, 32, 49, 10, 50, 32, 60, 61, 32, 51, 10]).1.rows.length = 1 := by
  have e : textF ⟨[1], [([2], 3)]⟩ = [109, 111, 115, 116, 32, 49, 10, 50, 32, 60, 61, 32, 51, 10] := by
    simp [textF, costT, rowT, mostW, leW, itoa_pos, decDigits_one]
  rw [← e, par_text (by decide)]; rfl
theorem dec_lens : ∀ (k u : Nat), u < 10 ^ (k + 1) → (decDigits u).length ≤ k + 1 := by
  intro k
  induction k with
  | zero => intro u h; rw [decDigits_one (by omega)]; simp
  | succ k ih =>
    intro u h
    rw [decDigits]
    split
    · simp
    · have := ih (u / 10) (by rw [Nat.pow_succ] at h; omega)
      simp; omega
theorem itoa_len {n : Int} (h1 : -9223372036854775808 ≤ n) (h2 : n ≤ 9223372036854775807) : (itoa n).length ≤ 21 := by
  by_cases h : n < 0
  · rw [itoa_neg h]
    have := dec_lens 19 n.natAbs (by omega)
    simp; omega
  · rw [itoa_pos h]
    have := dec_lens 19 n.toNat (by omega)
    omega
theorem join_len {k : Nat} {b : UInt8} : ∀ {xs : List (List UInt8)}, (∀ x ∈ xs, x.length ≤ k) → (join xs [b]).length ≤ xs.length * (k + 1)
  | [], _ => by simp [join_nil]
  | [x], h => by rw [join_one]; have := h x (by simp); simp; omega
  | x :: y :: r, h => by
    have := join_len (b := b) (xs := y :: r) (fun z hz => h z (by simp [hz]))
    have hx := h x (by simp)
    rw [join_cons2, List.length_cons, Nat.succ_mul]
    simp only [List.length_append, List.length_singleton] at this ⊢
    omega
theorem small_itoa {m : Int} {l : List Int} (hm : m ≤ 999999) (h : smallB m l = true) : ∀ x ∈ l.map itoa, x.length ≤ 21 := by
  intro x hx
  obtain ⟨n, hn, rfl⟩ := List.mem_map.1 hx
  have := smallB_mem h hn
  exact itoa_len (by omega) (by omega)
theorem costL_len {cs : List Int} (h : smallB 400 cs = true) (hl : cs.length ≤ 4) : (costL cs).length ≤ 120 := by
  have := join_len (k := 21) (b := 32) (xs := mostW :: cs.map itoa) (by
    intro x hx
    rcases List.mem_cons.1 hx with e | e
    · subst e; decide
    · exact small_itoa (by decide) h x e)
  unfold costL
  simp at this ⊢; omega
theorem rowL_len {r : List Int × Int} (h : smallB 12 r.1 = true) (h' : -12 ≤ r.2 ∧ r.2 ≤ 12) (hl : r.1.length ≤ 4) : (rowL r).length ≤ 150 := by
  have := join_len (k := 21) (b := 32) (xs := r.1.map itoa ++ [leW, itoa r.2]) (by
    intro x hx
    rcases List.mem_append.1 hx with e | e
    · exact small_itoa (by decide) h x e
    · simp at e
      rcases e with e | e
      · subst e; decide
      · subst e; exact itoa_len (by omega) (by omega))
  unfold rowL
  simp at this ⊢; omega
theorem costT_len {cs : List Int} (h : smallB 400 cs = true) (hl : cs.length ≤ 4) : (costT cs).length ≤ 121 := by
  rw [costT_eq]; have := costL_len h hl; simp; omega
theorem rowsT_len {p : PG} (h : mayPB p = true) (k : Nat) (hk : k ≤ p.rows.length) : (((p.rows.take k).map rowT).flatten).length ≤ k * 151 := by
  induction k with
  | zero => simp
  | succ k ih =>
    have hr := mayPB_row h (k := k) (by omega)
    have h4 := mayPB_iff.1 h
    have := rowL_len hr.2.2 hr.2.1 (by omega)
    rw [List.take_succ_eq_append_getElem (by omega), List.map_append, List.flatten_append, List.length_append]
    have := ih (by omega)
    have e : ([p.rows[k]].map rowT).flatten = rowL p.rows[k] ++ [10] := by simp [rowT_eq]
    rw [e, List.length_append, List.length_singleton]
    omega
theorem rowsT_take {p : PG} {k : Nat} (hk : k < p.rows.length) : ((p.rows.take (k + 1)).map rowT).flatten = ((p.rows.take k).map rowT).flatten ++ (rowL p.rows[k] ++ [10]) := by
  rw [List.take_succ_eq_append_getElem hk, List.map_append, List.flatten_append]
  simp [rowT_eq]
theorem cut_step {c : UInt8} {s : List UInt8} {k f : Nat} (hk : k < s.length) (hf : f ≤ k) (hd : (s.take k).drop f = (cutB c (s.take k)).getLastD []) :
    (s[k] = c → (cutB c (s.take (k + 1))).dropLast = (cutB c (s.take k)).dropLast ++ [(s.take k).drop f] ∧ (s.take (k + 1)).drop (k + 1) = (cutB c (s.take (k + 1))).getLastD []) ∧
    (s[k] ≠ c → (cutB c (s.take (k + 1))).dropLast = (cutB c (s.take k)).dropLast ∧ (s.take (k + 1)).drop f = (cutB c (s.take (k + 1))).getLastD []) := by
  have hl : (s.take k).length = k := by rw [List.length_take]; omega
  rw [List.take_succ_eq_append_getElem hk, cutB_snoc]
  refine ⟨fun h => ?_, fun h => ?_⟩
  · rw [if_pos h, List.dropLast_concat, List.getLastD_concat, hd]
    refine ⟨?_, ?_⟩
    · have h0 := cutB_ne c (s.take k)
      conv => lhs; rw [← List.dropLast_concat_getLast h0]
      rw [List.getLastD_eq_getLast?, List.getLast?_eq_some_getLast h0]; rfl
    · rw [List.drop_eq_nil_iff]; simp; omega
  · rw [if_neg h, List.dropLast_concat, List.getLastD_concat, ← hd, List.drop_append_of_le_length (by omega)]
    exact ⟨rfl, rfl⟩
theorem cut_end {c : UInt8} {s : List UInt8} {f : Nat} (hd : s.drop f = (cutB c s).getLastD []) : (cutB c s).dropLast ++ [s.drop f] = cutB c s := by
  have h0 := cutB_ne c s
  rw [hd, List.getLastD_eq_getLast?, List.getLast?_eq_some_getLast h0]
  exact List.dropLast_concat_getLast h0
theorem cut_small {c : UInt8} {s : List UInt8} : (cutB c s).length ≤ s.length + 1 := by
  rw [cutB_length]; have := List.count_le_length (a := c) (l := s); omega
theorem cut_parts {c : UInt8} : ∀ {s : List UInt8}, ∀ x ∈ cutB c s, x.length ≤ s.length := by
  intro s
  induction s with
  | nil => intro x hx; simp [cutB] at hx; subst hx; simp
  | cons b l ih =>
    intro x hx
    rw [cutB] at hx
    split at hx
    · rcases List.mem_cons.1 hx with e | e
      · subst e; simp
      · have := ih x e; simp; omega
    · obtain ⟨h, t, ht⟩ := List.exists_cons_of_ne_nil (cutB_ne c l)
      rw [ht] at hx ih
      simp only [List.headD_cons, List.tail_cons, List.mem_cons] at hx
      rcases hx with e | e
      · subst e; have := ih h (by simp); simp; omega
      · have := ih x (by simp [e]); simp; omega
theorem digs_snoc (l : List UInt8) (c : UInt8) : ∀ a, digs a (l ++ [c]) = (digs a l).bind fun m => if 48 ≤ c.toNat ∧ c.toNat ≤ 57 then some (10 * m + (c.toNat - 48)) else none := by
  induction l with
  | nil => intro a; simp [digs]
  | cons x l ih =>
    intro a
    rw [List.cons_append, digs, digs]
    split
    · exact ih _
    · rfl
theorem digs_take {t : List UInt8} {k m : Nat} (hk : k < t.length) (h : digs 0 (t.take k) = some m) (hc : 48 ≤ (t[k]).toNat ∧ (t[k]).toNat ≤ 57) : digs 0 (t.take (k + 1)) = some (10 * m + ((t[k]).toNat - 48)) := by
  rw [List.take_succ_eq_append_getElem hk, digs_snoc, h]; simp [hc]
theorem digs_bad : ∀ {t : List UInt8} {k : Nat} (a : Nat) (hk : k < t.length), ¬ (48 ≤ (t[k]).toNat ∧ (t[k]).toNat ≤ 57) → digs a t = none
  | [], k, _, hk, _ => by simp at hk
  | c :: r, 0, a, _, h => by rw [digs, if_neg (by simpa using h)]
  | c :: r, k + 1, a, hk, h => by
    rw [digs]
    split
    · exact digs_bad _ (by simpa using hk) (by simpa using h)
    · rfl
theorem digs_small {t : List UInt8} {m : Nat} (h : digs 0 t = some m) (hl : t.length ≤ 6) : m < 1000000 := by
  have := digs_pow h
  have h6 : 10 ^ t.length ≤ 10 ^ 6 := Nat.pow_le_pow_right (by omega) hl
  omega
/-- A line's beginning: what stands before its k-th number. -/
theorem costs_take {cs : List Int} {k : Nat} (hk : k < cs.length) : ((cs.take (k + 1)).map fun n => 32 :: itoa n).flatten = ((cs.take k).map fun n => 32 :: itoa n).flatten ++ [32] ++ itoa cs[k] := by
  rw [List.take_succ_eq_append_getElem hk, List.map_append, List.flatten_append]; simp
theorem ofs_take {cs : List Int} {k : Nat} (hk : k < cs.length) : ((cs.take (k + 1)).map fun n => itoa n ++ [32]).flatten = ((cs.take k).map fun n => itoa n ++ [32]).flatten ++ itoa cs[k] ++ [32] := by
  rw [List.take_succ_eq_append_getElem hk, List.map_append, List.flatten_append]; simp
theorem rowT_take {rs : List (List Int × Int)} {k : Nat} (hk : k < rs.length) : ((rs.take (k + 1)).map rowT).flatten = ((rs.take k).map rowT).flatten ++ (((rs[k]).1.map fun n => itoa n ++ [32]).flatten ++ [60, 61, 32] ++ itoa (rs[k]).2 ++ [10]) := by
  rw [List.take_succ_eq_append_getElem hk, List.map_append, List.flatten_append]
  simp [rowT, leW]
end Go.Proofs.YtjcdkbalhleeeabDoor
