/-
  Contracts of functions and plain laws that later parts of the proof use. The conditions stand in each theorem.
-/

namespace Go.Proofs.YtjcdkbalhleeeaaGreatDoor

/-- Are all numbers from -m to m? -/
def smallB (m : Int) (l : List Int) : Bool := l.all fun n => decide (-m ≤ n) && decide (n ≤ m)
/-- The greatest number that divides den and all of l. -/
def comm (g : Nat) (l : List Int) : Nat := l.foldl (fun g n => Nat.gcd g n.natAbs) g
/-- Parts within their limits. -/
def rightB (l : List Int) (d : Int) : Bool := decide (1 ≤ d) && (decide (d ≤ 1073741824) && (smallB 1073741824 l && decide (l.length ≤ 8)))
/-- May a point be? -/
def mayB (l : List Int) (d : Int) : Bool := rightB l d && decide (comm d.natAbs l = 1)
/-- The divisor with den's sign. -/
def sgcd (l : List Int) (d : Int) : Int := if d < 0 then -(comm d.natAbs l : Int) else comm d.natAbs l
def divs (l : List Int) (g : Int) : List Int := l.map fun n => n.tdiv g
/-- A point's making: the error (0: none). -/
def ptE (l : List Int) (d : Int) : Int :=
  if d = 0 ∨ smallB 4611686018427387904 l = false ∨ smallB 4611686018427387904 [d] = false then 3
  else if rightB (divs l (sgcd l d)) (d.tdiv (sgcd l d)) then 0 else 1
def ptN (l : List Int) (d : Int) : List Int := if ptE l d = 0 then divs l (sgcd l d) else []
def ptD (l : List Int) (d : Int) : Int := if ptE l d = 0 then d.tdiv (sgcd l d) else 0
def frN (n d : Int) : Int := (ptN [n] d).headD 0
def lessB (a b c d : Int) : Bool := mayB [a] b && (mayB [c] d && decide (a * d < c * b))

theorem smallB_take {m : Int} {l : List Int} {k : Nat} (h : k < l.length) : smallB m (l.take (k + 1)) = (smallB m (l.take k) && (decide (-m ≤ l[k]) && decide (l[k] ≤ m))) := by
  unfold smallB; rw [List.take_succ_eq_append_getElem h, List.all_append]; simp
theorem smallB_false {m : Int} {l : List Int} {k : Nat} (h : k < l.length) (hn : (decide (-m ≤ l[k]) && decide (l[k] ≤ m)) = false) : smallB m l = false := by
  unfold smallB; rw [List.all_eq_false]; exact ⟨l[k], List.getElem_mem h, by simpa using hn⟩
theorem smallB_at {m : Int} {l : List Int} (hs : smallB m l = true) {k : Nat} (h : k < l.length) : -m ≤ l[k] ∧ l[k] ≤ m := by
  unfold smallB at hs; rw [List.all_eq_true] at hs
  simpa using hs l[k] (List.getElem_mem h)
theorem smallB_mem {m : Int} {l : List Int} (hs : smallB m l = true) {n : Int} (h : n ∈ l) : -m ≤ n ∧ n ≤ m := by
  unfold smallB at hs; rw [List.all_eq_true] at hs
  simpa using hs n h
theorem smallB_iff {m : Int} {l : List Int} : smallB m l = true ↔ ∀ n ∈ l, -m ≤ n ∧ n ≤ m := by
  unfold smallB; rw [List.all_eq_true]; simp
theorem smallB_one (m d : Int) : smallB m [d] = (decide (-m ≤ d) && decide (d ≤ m)) := by simp [smallB]

theorem comm_take (g : Nat) {l : List Int} {k : Nat} (h : k < l.length) : comm g (l.take (k + 1)) = Nat.gcd (comm g (l.take k)) l[k].natAbs := by
  unfold comm; rw [List.take_succ_eq_append_getElem h, List.foldl_append]; rfl
theorem comm_cons (g : Nat) (n : Int) (l : List Int) : comm g (n :: l) = comm (Nat.gcd g n.natAbs) l := rfl
theorem comm_dvd (g : Nat) (l : List Int) : comm g l ∣ g ∧ ∀ n ∈ l, (comm g l : Int) ∣ n := by
  induction l generalizing g with
  | nil => exact ⟨Nat.dvd_refl _, by simp⟩
  | cons n l ih =>
    rw [comm_cons]
    obtain ⟨h1, h2⟩ := ih (Nat.gcd g n.natAbs)
    refine ⟨Nat.dvd_trans h1 (Nat.gcd_dvd_left _ _), ?_⟩
    intro x hx
    rcases List.mem_cons.1 hx with rfl | hx
    · exact Int.ofNat_dvd_left.2 (Nat.dvd_trans h1 (Nat.gcd_dvd_right _ _))
    · exact h2 x hx
theorem comm_great (g : Nat) (l : List Int) (d : Nat) (hg : d ∣ g) (hl : ∀ n ∈ l, (d : Int) ∣ n) : d ∣ comm g l := by
  induction l generalizing g with
  | nil => exact hg
  | cons n l ih =>
    rw [comm_cons]
    exact ih _ (Nat.dvd_gcd hg (Int.ofNat_dvd_left.1 (hl n (by simp)))) fun x hx => hl x (by simp [hx])
theorem comm_pos (g : Nat) (l : List Int) (hg : 0 < g) : 0 < comm g l :=
  Nat.pos_of_dvd_of_pos (comm_dvd g l).1 hg
theorem comm_le (g : Nat) (l : List Int) (hg : 0 < g) : comm g l ≤ g := Nat.le_of_dvd hg (comm_dvd g l).1
theorem comm_bound (g B : Nat) (l : List Int) (hg : g ≤ B) (hl : ∀ n ∈ l, n.natAbs ≤ B) : comm g l ≤ B := by
  induction l generalizing g with
  | nil => exact hg
  | cons n l ih =>
    rw [comm_cons]
    refine ih _ ?_ fun x hx => hl x (by simp [hx])
    rcases Nat.eq_zero_or_pos g with rfl | h0
    · rw [Nat.gcd_zero_left]; exact hl n (by simp)
    · exact Nat.le_trans (Nat.gcd_le_left _ h0) hg
/-- What is left when all are divided has nothing in common. -/
theorem comm_divs (l : List Int) (d : Int) (hd : d ≠ 0) : comm (d.tdiv (sgcd l d)).natAbs (divs l (sgcd l d)) = 1 := by
  have hp : 0 < d.natAbs := Int.natAbs_pos.2 hd
  have hg : 0 < comm d.natAbs l := comm_pos _ _ hp
  obtain ⟨h1, h2⟩ := comm_dvd d.natAbs l
  have hs : (sgcd l d).natAbs = comm d.natAbs l := by unfold sgcd; split <;> simp
  have hsd : (sgcd l d) ∣ d := by rw [← Int.natAbs_dvd_natAbs, hs]; exact h1
  have hsl : ∀ n ∈ l, sgcd l d ∣ n := fun n hn => by
    have := h2 n hn
    rw [Int.ofNat_dvd_left] at this
    rw [← Int.natAbs_dvd_natAbs, hs]; exact this
  have hs0 : sgcd l d ≠ 0 := fun h => by rw [h] at hs; simp at hs; omega
  generalize hk : comm (d.tdiv (sgcd l d)).natAbs (divs l (sgcd l d)) = k
  have hkd := comm_dvd (d.tdiv (sgcd l d)).natAbs (divs l (sgcd l d))
  rw [hk] at hkd
  have hdvd : ∀ x : Int, sgcd l d ∣ x → (k : Int) ∣ x.tdiv (sgcd l d) → ((k * comm d.natAbs l : Nat) : Int) ∣ x := by
    intro x hx hkx
    obtain ⟨y, rfl⟩ := hx
    rw [Int.mul_tdiv_cancel_left _ hs0] at hkx
    obtain ⟨z, rfl⟩ := hkx
    rw [← Int.natAbs_dvd_natAbs]
    refine ⟨z.natAbs, ?_⟩
    rw [Int.natAbs_mul, Int.natAbs_mul, hs, Int.natAbs_natCast, Int.natAbs_natCast]
    ac_rfl
  have hgreat : k * comm d.natAbs l ∣ comm d.natAbs l := by
    refine comm_great _ _ _ ?_ ?_
    · have := hdvd d hsd (Int.ofNat_dvd_left.2 hkd.1)
      rw [Int.ofNat_dvd_left] at this
      exact this
    · intro n hn
      exact hdvd n (hsl n hn) (hkd.2 _ (by unfold divs; exact List.mem_map_of_mem hn))
  have := Nat.le_of_dvd hg hgreat
  have hk0 : k ≠ 0 := by
    intro h
    subst h
    rw [Nat.zero_mul] at hgreat
    have := Nat.eq_zero_of_zero_dvd hgreat
    omega
  have : k * comm d.natAbs l ≤ 1 * comm d.natAbs l := by omega
  have := Nat.le_of_mul_le_mul_right this hg
  omega
theorem length_divs (l : List Int) (g : Int) : (divs l g).length = l.length := by simp [divs]
theorem sgcd_ne {l : List Int} {d : Int} (hd : d ≠ 0) : sgcd l d ≠ 0 := by
  have := comm_pos d.natAbs l (Int.natAbs_pos.2 hd)
  unfold sgcd; split <;> omega
theorem mul_bound (a b A B : Int) (h1 : -A ≤ a) (h2 : a ≤ A) (h3 : -B ≤ b) (h4 : b ≤ B) : -(A * B) ≤ a * b ∧ a * b ≤ A * B := by
  have h : (a * b).natAbs ≤ A.natAbs * B.natAbs := by
    rw [Int.natAbs_mul]; exact Nat.mul_le_mul (by omega) (by omega)
  have hA : (0 : Int) ≤ A := by omega
  have hB : (0 : Int) ≤ B := by omega
  have e : (A.natAbs * B.natAbs : Nat) = (A * B).natAbs := (Int.natAbs_mul A B).symm
  have hp : 0 ≤ A * B := Int.mul_nonneg hA hB
  rw [e] at h
  omega
theorem tdiv_bound (B : Int) (n g : Int) (h : -B ≤ n) (h' : n ≤ B) : -B ≤ n.tdiv g ∧ n.tdiv g ≤ B := by
  have := Int.natAbs_tdiv_le_natAbs n g
  omega
theorem divs_take {l : List Int} {g : Int} {k : Nat} (h : k < l.length) : divs (l.take (k + 1)) g = divs (l.take k) g ++ [l[k].tdiv g] := by
  unfold divs; rw [List.take_succ_eq_append_getElem h, List.map_append]; rfl
end Go.Proofs.YtjcdkbalhleeeaaGreatDoor

namespace Go.Proofs.YtjcdkbalhleeeaaGreatDoor

/-- A linear program: costs, and rows (what the variables have, and what they may be at most). -/
structure PG where
  costs : List Int
  rows : List (List Int × Int)

/-- May a row be, of n variables? -/
def rowB (n : Nat) (r : List Int × Int) : Bool := decide (r.1.length = n) && (smallB 12 [r.2] && smallB 12 r.1)
/-- May a program be? -/
def mayPB (p : PG) : Bool :=
  decide (1 ≤ p.costs.length) && (decide (p.costs.length ≤ 4) && (decide (1 ≤ p.rows.length) && (decide (p.rows.length ≤ 4) && (smallB 400 p.costs && p.rows.all (rowB p.costs.length)))))
/-- Numbers, each times another one, together. -/
def dot : List Int → List Int → Int
  | x :: a, y :: b => x * y + dot a b
  | _, _ => 0
/-- May a program be, and a point with so many numbers? -/
def fitsB (p : PG) (x : List Int) (d : Int) : Bool := mayPB p && (mayB x d && decide (x.length = p.costs.length))
/-- Are all numbers 0 or above? -/
def nonneg (l : List Int) : Bool := l.all fun n => decide (0 ≤ n)
/-- Does a point go? -/
def goesB (p : PG) (x : List Int) (d : Int) : Bool := fitsB p x d && (nonneg x && p.rows.all fun r => decide (dot r.1 x ≤ r.2 * d))

/-- What a point is worth: num, den, error. -/
def worN (p : PG) (x : List Int) (d : Int) : Int := if fitsB p x d then frN (dot p.costs x) d else 0
def worD (p : PG) (x : List Int) (d : Int) : Int := if fitsB p x d then ptD [dot p.costs x] d else 0
def worE (p : PG) (x : List Int) (d : Int) : Int := if fitsB p x d then ptE [dot p.costs x] d else 2

theorem dot_take {a b : List Int} {k : Nat} (h : k < a.length) (h' : k < b.length) : dot (a.take (k + 1)) b = dot (a.take k) b + a[k] * b[k] := by
  induction a generalizing b k with
  | nil => simp at h
  | cons x a ih =>
    cases b with
    | nil => simp at h'
    | cons y b =>
      cases k with
      | zero => simp [dot]
      | succ k =>
        simp only [List.take_succ_cons, dot, List.getElem_cons_succ]
        rw [ih (by simpa using h) (by simpa using h')]
        omega
theorem dot_bound {A B : Int} {a b : List Int} (ha : smallB A a = true) (hb : smallB B b = true) (hA : 0 ≤ A) (hB : 0 ≤ B) : -(a.length * (A * B)) ≤ dot a b ∧ dot a b ≤ a.length * (A * B) := by
  have hAB : 0 ≤ A * B := Int.mul_nonneg hA hB
  induction a generalizing b with
  | nil => simp [dot]
  | cons x a ih =>
    cases b with
    | nil =>
      have : (0 : Int) ≤ ((x :: a).length : Int) * (A * B) := Int.mul_nonneg (by omega) hAB
      simp only [dot]; omega
    | cons y b =>
      simp only [dot]
      have hx := smallB_mem ha (n := x) (by simp)
      have hy := smallB_mem hb (n := y) (by simp)
      have h1 := mul_bound x y A B hx.1 hx.2 hy.1 hy.2
      have h2 := ih (b := b) (smallB_iff.2 fun n hn => smallB_mem ha (by simp [hn])) (smallB_iff.2 fun n hn => smallB_mem hb (by simp [hn]))
      have e : ((x :: a).length : Int) * (A * B) = (a.length : Int) * (A * B) + A * B := by
        rw [List.length_cons, Int.natCast_add, Int.add_mul]; simp
      rw [e]
      omega
theorem dot_take_bound {A B : Int} {a b : List Int} (ha : smallB A a = true) (hb : smallB B b = true) (hA : 0 ≤ A) (hB : 0 ≤ B) (k : Nat) : -(a.length * (A * B)) ≤ dot (a.take k) b ∧ dot (a.take k) b ≤ a.length * (A * B) := by
  have h := dot_bound (a := a.take k) (b := b) (A := A) (B := B) (smallB_iff.2 fun n hn => smallB_mem ha (List.mem_of_mem_take hn)) hb hA hB
  have hl : ((a.take k).length : Int) * (A * B) ≤ (a.length : Int) * (A * B) :=
    Int.mul_le_mul_of_nonneg_right (by have := List.length_take_le' k a; omega) (Int.mul_nonneg hA hB)
  omega
theorem all_take {α : Type} {f : α → Bool} {l : List α} {k : Nat} (h : k < l.length) : (l.take (k + 1)).all f = ((l.take k).all f && f l[k]) := by
  rw [List.take_succ_eq_append_getElem h, List.all_append]; simp
theorem all_false {α : Type} {f : α → Bool} {l : List α} {k : Nat} (h : k < l.length) (hn : f l[k] = false) : l.all f = false := by
  rw [List.all_eq_false]; exact ⟨l[k], List.getElem_mem h, by simpa using hn⟩

theorem mayPB_iff {p : PG} : mayPB p = true ↔ 1 ≤ p.costs.length ∧ p.costs.length ≤ 4 ∧ 1 ≤ p.rows.length ∧ p.rows.length ≤ 4 ∧ smallB 400 p.costs = true ∧ p.rows.all (rowB p.costs.length) = true := by
  unfold mayPB; simp only [Bool.and_eq_true, decide_eq_true_eq]
theorem mayPB_row {p : PG} (h : mayPB p = true) {k : Nat} (hk : k < p.rows.length) : p.rows[k].1.length = p.costs.length ∧ (-12 ≤ p.rows[k].2 ∧ p.rows[k].2 ≤ 12) ∧ smallB 12 p.rows[k].1 = true := by
  have h6 := (mayPB_iff.1 h).2.2.2.2.2
  rw [List.all_eq_true] at h6
  have := h6 _ (List.getElem_mem hk)
  unfold rowB at this
  simp only [Bool.and_eq_true, decide_eq_true_eq, smallB_one] at this
  exact ⟨this.1, this.2.1, this.2.2⟩
theorem fitsB_iff {p : PG} {x : List Int} {d : Int} : fitsB p x d = true ↔ mayPB p = true ∧ mayB x d = true ∧ x.length = p.costs.length := by
  unfold fitsB; simp only [Bool.and_eq_true, decide_eq_true_eq]
theorem mayB_parts {l : List Int} {d : Int} (h : mayB l d = true) : 1 ≤ d ∧ d ≤ 1073741824 ∧ smallB 1073741824 l = true ∧ l.length ≤ 8 := by
  simp only [mayB, rightB, Bool.and_eq_true, decide_eq_true_eq] at h
  exact ⟨h.1.1, h.1.2.1, h.1.2.2.1, h.1.2.2.2⟩
end Go.Proofs.YtjcdkbalhleeeaaGreatDoor

namespace Go.Proofs.YtjcdkbalhleeeaaGreatDoor

/-- What a column has in a row. -/
def hasZ (p : PG) (i j : Nat) : Int := if j < p.costs.length then ((p.rows.getD i ([], 0)).1.getD j 0) else if j - p.costs.length = i then 1 else 0
/-- What a column is worth. -/
def costZ (p : PG) (j : Nat) : Int := if j < p.costs.length then p.costs.getD j 0 else 0
/-- What a column has in all rows. -/
def colZ (p : PG) (j : Nat) : List Int := (List.range p.rows.length).map fun i => hasZ p i j
def mosts (p : PG) : List Int := p.rows.map fun r => r.2

/-- An answer. -/
structure AN where
  kind : Int
  xs : List Int
  xd : Int
  ys : List Int
  yd : Int
  rs : List Int
  rd : Int
  wn : Int
  wd : Int

def emptyB (l : List Int) (d : Int) : Bool := decide (l.length = 0) && decide (d = 0)
def aboveB (l : List Int) (d : Int) (n : Nat) : Bool := mayB l d && (decide (l.length = n) && nonneg l)
def coversB (p : PG) (ys : List Int) (t : Int) : Bool := (List.range p.costs.length).all fun j => decide (costZ p j * t ≤ dot (colZ p j) ys)
def bestB (p : PG) (a : AN) : Bool :=
  emptyB a.rs a.rd && (goesB p a.xs a.xd && (aboveB a.ys a.yd p.rows.length && (coversB p a.ys a.yd &&
    (decide (worE p a.xs a.xd = 0) && (decide (ptE [dot (mosts p) a.ys] a.yd = 0) && ((decide (worN p a.xs a.xd = a.wn) && decide (worD p a.xs a.xd = a.wd)) && (decide (frN (dot (mosts p) a.ys) a.yd = worN p a.xs a.xd) && decide (ptD [dot (mosts p) a.ys] a.yd = worD p a.xs a.xd))))))))
def endlessB (p : PG) (a : AN) : Bool :=
  emptyB a.ys a.yd && ((decide (a.wn = 0) && decide (a.wd = 0)) && (goesB p a.xs a.xd && (aboveB a.rs a.rd p.costs.length && (decide (a.rd = 1) &&
    (p.rows.all (fun r => decide (dot r.1 a.rs ≤ 0)) && decide (0 < dot p.costs a.rs))))))
def nothingB (p : PG) (a : AN) : Bool :=
  emptyB a.xs a.xd && (emptyB a.rs a.rd && ((decide (a.wn = 0) && decide (a.wd = 0)) && (aboveB a.ys a.yd p.rows.length && (decide (a.yd = 1) && (coversB p a.ys 0 && decide (dot (mosts p) a.ys < 0))))))
def holdsB (p : PG) (a : AN) : Bool :=
  mayPB p && (if a.kind = 1 then bestB p a else if a.kind = 2 then endlessB p a else if a.kind = 3 then nothingB p a else false)

theorem length_colZ (p : PG) (j : Nat) : (colZ p j).length = p.rows.length := by simp [colZ]
theorem length_mosts (p : PG) : (mosts p).length = p.rows.length := by simp [mosts]
theorem hasZ_var {p : PG} {i j : Nat} (hi : i < p.rows.length) (hj : j < p.costs.length) : hasZ p i j = (p.rows[i]).1.getD j 0 := by
  simp [hasZ, hj, List.getD, List.getElem?_eq_getElem hi]
theorem hasZ_bound {p : PG} (hp : mayPB p = true) (i j : Nat) : -12 ≤ hasZ p i j ∧ hasZ p i j ≤ 12 := by
  unfold hasZ
  split
  · rename_i hj
    by_cases hi : i < p.rows.length
    · obtain ⟨hl, _, hs⟩ := mayPB_row hp hi
      have hj' : j < (p.rows[i]).1.length := by omega
      have := smallB_at hs hj'
      simpa [List.getD, List.getElem?_eq_getElem hi, List.getElem?_eq_getElem hj'] using this
    · have : p.rows[i]? = none := List.getElem?_eq_none (by omega)
      simp [List.getD, this]
  · split <;> omega
theorem costZ_bound {p : PG} (hp : mayPB p = true) (j : Nat) : -400 ≤ costZ p j ∧ costZ p j ≤ 400 := by
  unfold costZ
  split
  · rename_i hj
    have := smallB_at (mayPB_iff.1 hp).2.2.2.2.1 hj
    simpa [List.getD, List.getElem?_eq_getElem hj] using this
  · omega
theorem mosts_small {p : PG} (hp : mayPB p = true) : smallB 12 (mosts p) = true := by
  rw [smallB_iff]; intro n hn
  simp only [mosts, List.mem_map] at hn
  obtain ⟨r, hr, rfl⟩ := hn
  obtain ⟨i, hi, rfl⟩ := List.mem_iff_getElem.1 hr
  exact (mayPB_row hp hi).2.1
theorem aboveB_iff {l : List Int} {d : Int} {n : Nat} : aboveB l d n = true ↔ mayB l d = true ∧ l.length = n ∧ nonneg l = true := by
  unfold aboveB; simp only [Bool.and_eq_true, decide_eq_true_eq]
end Go.Proofs.YtjcdkbalhleeeaaGreatDoor

namespace Go.Proofs.YtjcdkbalhleeeaaGreatDoor

/-- The sum of f 0 .. f (n-1). -/
def sumN (f : Nat → Int) : Nat → Int
  | 0 => 0
  | n + 1 => sumN f n + f n

theorem sumN_congr {f g : Nat → Int} : ∀ {n : Nat}, (∀ i, i < n → f i = g i) → sumN f n = sumN g n
  | 0, _ => rfl
  | n + 1, h => by rw [sumN, sumN, sumN_congr fun i hi => h i (by omega), h n (by omega)]
theorem sumN_add {f g : Nat → Int} : ∀ {n : Nat}, sumN (fun i => f i + g i) n = sumN f n + sumN g n
  | 0 => rfl
  | n + 1 => by rw [sumN, sumN, sumN, sumN_add]; omega
theorem sumN_mul {f : Nat → Int} {c : Int} : ∀ {n : Nat}, sumN (fun i => c * f i) n = c * sumN f n
  | 0 => by simp [sumN]
  | n + 1 => by rw [sumN, sumN, sumN_mul, Int.mul_add]
theorem sumN_mul' {f : Nat → Int} {c : Int} : ∀ {n : Nat}, sumN (fun i => f i * c) n = sumN f n * c
  | 0 => by simp [sumN]
  | n + 1 => by rw [sumN, sumN, sumN_mul', Int.add_mul]
theorem sumN_zero : ∀ {n : Nat}, sumN (fun _ => 0) n = 0
  | 0 => rfl
  | n + 1 => by rw [sumN, sumN_zero]; rfl
theorem sumN_comm {f : Nat → Nat → Int} {m : Nat} : ∀ {n : Nat}, sumN (fun i => sumN (fun j => f i j) m) n = sumN (fun j => sumN (fun i => f i j) n) m
  | 0 => by simp only [sumN]; exact sumN_zero.symm
  | n + 1 => by simp only [sumN]; rw [sumN_comm, sumN_add]
theorem sumN_split {f : Nat → Int} {a : Nat} : ∀ {b : Nat}, sumN f (a + b) = sumN f a + sumN (fun i => f (a + i)) b
  | 0 => by simp [sumN]
  | b + 1 => by rw [← Nat.add_assoc, sumN, sumN, sumN_split]; omega

theorem dot_sum {a b : List Int} {n : Nat} (ha : a.length = n) (hb : b.length = n) : dot a b = sumN (fun k => a.getD k 0 * b.getD k 0) n := by
  have h : ∀ k, k ≤ n → dot (a.take k) b = sumN (fun k => a.getD k 0 * b.getD k 0) k := by
    intro k
    induction k with
    | zero => intro _; simp [dot, sumN]
    | succ k ih =>
      intro hk
      have h1 : k < a.length := by omega
      have h2 : k < b.length := by omega
      rw [dot_take h1 h2, ih (by omega), sumN]
      simp [List.getD, List.getElem?_eq_getElem h1, List.getElem?_eq_getElem h2]
  have := h n (Nat.le_refl _)
  rwa [List.take_of_length_le (by omega)] at this
theorem getD_map_range {f : Nat → Int} {n k : Nat} (h : k < n) : ((List.range n).map f).getD k 0 = f k := by
  simp [List.getD, h]
theorem nonneg_at {l : List Int} (h : nonneg l = true) (k : Nat) : 0 ≤ l.getD k 0 := by
  unfold nonneg at h
  rw [List.all_eq_true] at h
  by_cases hk : k < l.length
  · have := h l[k] (List.getElem_mem hk)
    simpa [List.getD, List.getElem?_eq_getElem hk] using this
  · simp [List.getD, List.getElem?_eq_none (Nat.le_of_not_lt hk)]
theorem getD_mosts {p : PG} {i : Nat} : (mosts p).getD i 0 = (p.rows.getD i ([], 0)).2 := by
  unfold mosts
  by_cases h : i < p.rows.length
  · simp [List.getD, List.getElem?_eq_getElem h]
  · simp [List.getD, List.getElem?_eq_none (Nat.le_of_not_lt h)]
/-- What the variables have in a row, as a sum. -/
theorem dot_row {p : PG} {i : Nat} (hp : mayPB p = true) (hi : i < p.rows.length) {x : List Int} (hx : x.length = p.costs.length) :
    dot (p.rows[i]).1 x = sumN (fun j => hasZ p i j * x.getD j 0) p.costs.length := by
  obtain ⟨h1, _, _⟩ := mayPB_row hp hi
  rw [dot_sum h1 hx]
  exact sumN_congr fun j hj => by rw [hasZ_var hi hj]
theorem dot_col {p : PG} {j : Nat} {y : List Int} (hy : y.length = p.rows.length) :
    dot (colZ p j) y = sumN (fun i => hasZ p i j * y.getD i 0) p.rows.length := by
  rw [dot_sum (length_colZ p j) hy]
  exact sumN_congr fun i hi => by unfold colZ; rw [getD_map_range hi]
end Go.Proofs.YtjcdkbalhleeeaaGreatDoor

namespace Go.Proofs.YtjcdkbalhleeeaaGreatDoor

/-- The determinant of some rows and columns, by the first row's numbers. s is the sign of the next one. -/
def dtGo (A : Nat → Int) (rest : List Nat → Int) (pre : List Nat) (s : Int) : List Nat → Int
  | [] => 0
  | c :: cs => s * A c * rest (pre ++ cs) + dtGo A rest (pre ++ [c]) (-s) cs
def dt (A : Nat → Nat → Int) : List Nat → List Nat → Int
  | [], _ => 1
  | r :: rs, cs => dtGo (A r) (dt A rs) [] 1 cs

theorem dt2 (A : Nat → Nat → Int) (r0 r1 c0 c1 : Nat) : dt A [r0, r1] [c0, c1] = A r0 c0 * A r1 c1 - A r0 c1 * A r1 c0 := by
  simp [dt, dtGo]; grind
theorem dt1 (A : Nat → Nat → Int) (r0 c0 : Nat) : dt A [r0] [c0] = A r0 c0 := by
  simp [dt, dtGo]
theorem dt3 (A : Nat → Nat → Int) (r0 r1 r2 c0 c1 c2 : Nat) : dt A [r0, r1, r2] [c0, c1, c2] =
    A r0 c0 * (A r1 c1 * A r2 c2 - A r1 c2 * A r2 c1) - A r0 c1 * (A r1 c0 * A r2 c2 - A r1 c2 * A r2 c0) + A r0 c2 * (A r1 c0 * A r2 c1 - A r1 c1 * A r2 c0) := by
  simp [dt, dtGo]; grind
theorem dt4 (A : Nat → Nat → Int) (r0 r1 r2 r3 c0 c1 c2 c3 : Nat) : dt A [r0, r1, r2, r3] [c0, c1, c2, c3] =
    A r0 c0 * dt A [r1, r2, r3] [c1, c2, c3] - A r0 c1 * dt A [r1, r2, r3] [c0, c2, c3] + A r0 c2 * dt A [r1, r2, r3] [c0, c1, c3] - A r0 c3 * dt A [r1, r2, r3] [c0, c1, c2] := by
  rw [dt]; simp [dtGo]; grind

/-- What stands at a place behind k steps. -/
def ent (A : Nat → Nat → Int) (k i j : Nat) : Int :=
  if i < k then dt A (List.range k) ((List.range k).set i j) else dt A (List.range k ++ [i]) (List.range k ++ [j])
def lst (A : Nat → Nat → Int) (k : Nat) : Int := dt A (List.range k) (List.range k)

theorem ent_zero (A : Nat → Nat → Int) (i j : Nat) : ent A 0 i j = A i j := by simp [ent, dt1]
theorem lst_zero (A : Nat → Nat → Int) : lst A 0 = 1 := rfl

theorem range1 : List.range 1 = [0] := rfl
theorem range2 : List.range 2 = [0, 1] := rfl
theorem range3 : List.range 3 = [0, 1, 2] := rfl
theorem range4 : List.range 4 = [0, 1, 2, 3] := rfl

theorem lst_ent (A : Nat → Nat → Int) (k : Nat) : lst A (k + 1) = ent A k k k := by
  unfold lst ent
  rw [if_neg (by omega), List.range_succ]
theorem ent_pivot (A : Nat → Nat → Int) (k j : Nat) : ent A (k + 1) k j = ent A k k j := by
  unfold ent
  rw [if_pos (by omega), if_neg (by omega), List.range_succ]
  congr 1
  simp

set_option maxHeartbeats 2000000 in
/-- One step, each row but the pivot's. -/
theorem ent_step (A : Nat → Nat → Int) {k i : Nat} (j : Nat) (hk : k < 4) (hi : i < 4) (hne : i ≠ k) :
    ent A k i j * ent A k k k - ent A k i k * ent A k k j = lst A k * ent A (k + 1) i j := by
  rcases (show k = 0 ∨ k = 1 ∨ k = 2 ∨ k = 3 by omega) with rfl | rfl | rfl | rfl
  · simp only [ent, lst, range1, List.range_zero, List.nil_append, dt1, show ¬ i < 0 by omega, show ¬ (0 : Nat) < 0 by omega, show ¬ i < 0 + 1 by omega, if_false, dt, Nat.zero_add, List.cons_append, dt2]
    grind
  · rcases (show i = 0 ∨ i ≥ 2 by omega) with rfl | hi'
    · simp [ent, lst, range2, dt1, dt2]
      grind
    · simp [ent, lst, range2, dt1, dt2, dt3, show i ≠ 0 by omega, show ¬ i < 2 by omega]
      grind
  · rcases (show i = 0 ∨ i = 1 ∨ i = 3 by omega) with rfl | rfl | rfl
    · simp [ent, lst, range2, range3, dt2, dt3]
      grind
    · simp [ent, lst, range2, range3, dt2, dt3]
      grind
    · simp [ent, lst, range2, range3, dt2, dt3, dt4]
      grind
  · rcases (show i = 0 ∨ i = 1 ∨ i = 2 by omega) with rfl | rfl | rfl
    · simp [ent, lst, range3, range4, dt3, dt4]
      grind
    · simp [ent, lst, range3, range4, dt3, dt4]
      grind
    · simp [ent, lst, range3, range4, dt3, dt4]
      grind
end Go.Proofs.YtjcdkbalhleeeaaGreatDoor

namespace Go.Proofs.YtjcdkbalhleeeaaGreatDoor

/-- The determinant of the first m rows and columns, and with one column in the place of another one. -/
def dtm (A : Nat → Nat → Int) (m : Nat) : Int := dt A (List.range m) (List.range m)
def dtp (A : Nat → Nat → Int) (m i j : Nat) : Int := dt A (List.range m) ((List.range m).set i j)

theorem ent_dtp (A : Nat → Nat → Int) {m i : Nat} (j : Nat) (h : i < m) : ent A m i j = dtp A m i j := by unfold ent; rw [if_pos h]; rfl

set_option maxHeartbeats 1000000 in
theorem no_pivot (A : Nat → Nat → Int) {m k : Nat} (hm : m ≤ 4) (hk : k < m) (hl : lst A k ≠ 0) (h : ∀ i, k ≤ i → i < m → ent A k i k = 0) : dtm A m = 0 := by
  unfold dtm
  rcases (show m = 1 ∨ m = 2 ∨ m = 3 ∨ m = 4 by omega) with rfl | rfl | rfl | rfl
  · obtain rfl : k = 0 := by omega
    have := h 0 (by omega) (by omega)
    simp [ent, dt1] at this
    rw [range1, dt1, this]
  · rcases (show k = 0 ∨ k = 1 by omega) with rfl | rfl
    · have h0 := h 0 (by omega) (by omega)
      have h1 := h 1 (by omega) (by omega)
      simp [ent, dt1] at h0 h1
      rw [range2, dt2, h0, h1]; simp
    · have h1 := h 1 (by omega) (by omega)
      simpa [ent, range2] using h1
  · rcases (show k = 0 ∨ k = 1 ∨ k = 2 by omega) with rfl | rfl | rfl
    · have h0 := h 0 (by omega) (by omega)
      have h1 := h 1 (by omega) (by omega)
      have h2 := h 2 (by omega) (by omega)
      simp [ent, dt1] at h0 h1 h2
      rw [range3, dt3, h0, h1, h2]; simp
    · have h1 := h 1 (by omega) (by omega)
      have h2 := h 2 (by omega) (by omega)
      simp [ent, lst, dt1, dt2] at h1 h2 hl
      have e : A 0 0 * dt A [0, 1, 2] [0, 1, 2] = (A 0 0 * A 1 1 - A 0 1 * A 1 0) * (A 0 0 * A 2 2 - A 0 2 * A 2 0) - (A 0 0 * A 2 1 - A 0 1 * A 2 0) * (A 0 0 * A 1 2 - A 0 2 * A 1 0) := by rw [dt3]; grind
      rw [h1, h2] at e
      simp at e
      rw [range3]
      rcases Int.mul_eq_zero.1 e with e | e
      · exact absurd e hl
      · exact e
    · have h2 := h 2 (by omega) (by omega)
      simpa [ent, range3, range2] using h2
  · rcases (show k = 0 ∨ k = 1 ∨ k = 2 ∨ k = 3 by omega) with rfl | rfl | rfl | rfl
    · have h0 := h 0 (by omega) (by omega)
      have h1 := h 1 (by omega) (by omega)
      have h2 := h 2 (by omega) (by omega)
      have h3 := h 3 (by omega) (by omega)
      simp [ent, dt1] at h0 h1 h2 h3
      rw [range4, dt4]
      simp only [dt3, h0, h1, h2, h3]
      grind
    · have h1 := h 1 (by omega) (by omega)
      have h2 := h 2 (by omega) (by omega)
      have h3 := h 3 (by omega) (by omega)
      simp [ent, lst, dt1, dt2] at h1 h2 h3 hl
      have e : A 0 0 * dt A [0, 1, 2, 3] [0, 1, 2, 3] =
          (A 0 0 * A 1 1 - A 0 1 * A 1 0) * dt A [0, 2, 3] [0, 2, 3] - (A 0 0 * A 2 1 - A 0 1 * A 2 0) * dt A [0, 1, 3] [0, 2, 3] + (A 0 0 * A 3 1 - A 0 1 * A 3 0) * dt A [0, 1, 2] [0, 2, 3] := by
        rw [dt4]; simp only [dt3]; grind
      rw [h1, h2, h3] at e
      simp at e
      rw [range4]
      rcases Int.mul_eq_zero.1 e with e | e
      · exact absurd e hl
      · exact e
    · have h2 := h 2 (by omega) (by omega)
      have h3 := h 3 (by omega) (by omega)
      simp [ent, lst, range2] at h2 h3 hl
      have e : dt A [0, 1] [0, 1] * dt A [0, 1, 2, 3] [0, 1, 2, 3] = dt A [0, 1, 2] [0, 1, 2] * dt A [0, 1, 3] [0, 1, 3] - dt A [0, 1, 3] [0, 1, 2] * dt A [0, 1, 2] [0, 1, 3] := by
        rw [dt4]; simp only [dt3, dt2]; grind
      rw [h2, h3] at e
      simp at e
      rw [range4]
      rcases Int.mul_eq_zero.1 e with e | e
      · exact absurd e hl
      · exact e
    · have h3 := h 3 (by omega) (by omega)
      simpa [ent, range3, range4] using h3

/-- Two rows changed. -/
def sw (k a i : Nat) : Nat := if i = k then a else if i = a then k else i
def swA (A : Nat → Nat → Int) (k a : Nat) : Nat → Nat → Int := fun i j => A (sw k a i) j

theorem dtGo_ext {A : Nat → Int} {f g : List Nat → Int} (h : ∀ l, f l = g l) : ∀ (pre : List Nat) (s : Int) (cs : List Nat), dtGo A f pre s cs = dtGo A g pre s cs := by
  have : f = g := funext h
  subst this
  intros; rfl
theorem dt_rows {A : Nat → Nat → Int} {f : Nat → Nat} : ∀ {rs : List Nat} (cs : List Nat), dt (fun i j => A (f i) j) rs cs = dt A (rs.map f) cs
  | [], _ => rfl
  | r :: rs, cs => by
    rw [List.map_cons, dt, dt]
    exact dtGo_ext (fun l => dt_rows l) _ _ _
theorem ent_swap (A : Nat → Nat → Int) {k a i j : Nat} (ha : k ≤ a) (hi : k ≤ i) : ent (swA A k a) k i j = ent A k (sw k a i) j := by
  have hs : ¬ sw k a i < k := by unfold sw; split; omega; split <;> omega
  unfold ent
  rw [if_neg (by omega), if_neg hs]
  unfold swA
  rw [dt_rows, List.map_append]
  congr 1
  have : (List.range k).map (sw k a) = List.range k := by
    conv => rhs; rw [← List.map_id (List.range k)]
    apply List.map_congr_left
    intro x hx
    have : x < k := by simpa using hx
    unfold sw; simp; split; omega; split; omega; rfl
  rw [this]; rfl
theorem ent_swap_up (A : Nat → Nat → Int) {k a i j : Nat} (ha : k ≤ a) (hi : i < k) : ent (swA A k a) k i j = ent A k i j := by
  unfold ent
  rw [if_pos hi, if_pos hi]
  unfold swA
  rw [dt_rows]
  congr 1
  conv => rhs; rw [← List.map_id (List.range k)]
  apply List.map_congr_left
  intro x hx
  have : x < k := by simpa using hx
  unfold sw; simp; split; omega; split; omega; rfl
theorem lst_swap (A : Nat → Nat → Int) {k a : Nat} (ha : k ≤ a) : lst (swA A k a) k = lst A k := by
  unfold lst swA
  rw [dt_rows]
  congr 1
  conv => rhs; rw [← List.map_id (List.range k)]
  apply List.map_congr_left
  intro x hx
  have : x < k := by simpa using hx
  unfold sw; simp; split; omega; split; omega; rfl

theorem list_len2 {l : List Nat} (h : l.length = 2) : ∃ a b, l = [a, b] := by
  obtain _ | ⟨a, _ | ⟨b, _ | ⟨c, l⟩⟩⟩ := l <;> simp at h; exact ⟨a, b, rfl⟩
theorem list_len3 {l : List Nat} (h : l.length = 3) : ∃ a b c, l = [a, b, c] := by
  obtain _ | ⟨a, _ | ⟨b, _ | ⟨c, _ | ⟨d, l⟩⟩⟩⟩ := l <;> simp at h; exact ⟨a, b, c, rfl⟩
theorem list_len4 {l : List Nat} (h : l.length = 4) : ∃ a b c d, l = [a, b, c, d] := by
  obtain _ | ⟨a, _ | ⟨b, _ | ⟨c, _ | ⟨d, _ | ⟨e, l⟩⟩⟩⟩⟩ := l <;> simp at h; exact ⟨a, b, c, d, rfl⟩

set_option maxHeartbeats 1000000 in
theorem dt_swap (A : Nat → Nat → Int) {m k a : Nat} (hm : m ≤ 4) (hk : k < a) (ha : a < m) {cs : List Nat} (hc : cs.length = m) : dt (swA A k a) (List.range m) cs = -dt A (List.range m) cs := by
  unfold swA
  rw [dt_rows]
  rcases (show m = 2 ∨ m = 3 ∨ m = 4 by omega) with rfl | rfl | rfl
  · obtain ⟨c0, c1, rfl⟩ := list_len2 hc
    obtain ⟨rfl, rfl⟩ : k = 0 ∧ a = 1 := by omega
    simp [range2, sw, dt2]; grind
  · obtain ⟨c0, c1, c2, rfl⟩ := list_len3 hc
    rcases (show (k = 0 ∧ a = 1) ∨ (k = 0 ∧ a = 2) ∨ (k = 1 ∧ a = 2) by omega) with ⟨rfl, rfl⟩ | ⟨rfl, rfl⟩ | ⟨rfl, rfl⟩ <;> (simp [range3, sw, dt3]; grind)
  · obtain ⟨c0, c1, c2, c3, rfl⟩ := list_len4 hc
    rcases (show (k = 0 ∧ a = 1) ∨ (k = 0 ∧ a = 2) ∨ (k = 0 ∧ a = 3) ∨ (k = 1 ∧ a = 2) ∨ (k = 1 ∧ a = 3) ∨ (k = 2 ∧ a = 3) by omega) with ⟨rfl, rfl⟩ | ⟨rfl, rfl⟩ | ⟨rfl, rfl⟩ | ⟨rfl, rfl⟩ | ⟨rfl, rfl⟩ | ⟨rfl, rfl⟩ <;> (simp [range4, sw, dt4, dt3]; grind)

set_option maxHeartbeats 1000000 in
/-- Rows for columns. -/
theorem dt_flip (A : Nat → Nat → Int) {m : Nat} (hm : m ≤ 4) : dtm (fun i j => A j i) m = dtm A m := by
  unfold dtm
  rcases (show m = 0 ∨ m = 1 ∨ m = 2 ∨ m = 3 ∨ m = 4 by omega) with rfl | rfl | rfl | rfl | rfl
  · rfl
  · simp [dt1]
  · simp [range2, dt2]; grind
  · simp [range3, dt3]; grind
  · simp [range4, dt4, dt3]; grind

set_option maxHeartbeats 1000000 in
/-- Cramer's rule. -/
theorem cramer (A : Nat → Nat → Int) {m i : Nat} (j : Nat) (hm : m ≤ 4) (hi : i < m) : sumN (fun k => A i k * dtp A m k j) m = A i j * dtm A m := by
  unfold dtm dtp
  rcases (show m = 1 ∨ m = 2 ∨ m = 3 ∨ m = 4 by omega) with rfl | rfl | rfl | rfl
  · obtain rfl : i = 0 := by omega
    simp [sumN, dt1]; grind
  · rcases (show i = 0 ∨ i = 1 by omega) with rfl | rfl <;> (simp [sumN, range2, dt2]; grind)
  · rcases (show i = 0 ∨ i = 1 ∨ i = 2 by omega) with rfl | rfl | rfl <;> (simp [sumN, range3, dt3]; grind)
  · rcases (show i = 0 ∨ i = 1 ∨ i = 2 ∨ i = 3 by omega) with rfl | rfl | rfl | rfl <;> (simp [sumN, range4, dt4, dt3]; grind)
end Go.Proofs.YtjcdkbalhleeeaaGreatDoor

namespace Go.Proofs.YtjcdkbalhleeeaaGreatDoor

/-- Numbers within a bound that the column gives. -/
def Within (A : Nat → Nat → Int) (b : Nat → Int) : Prop := ∀ i c, (-b c ≤ A i c ∧ A i c ≤ b c) ∧ 0 ≤ b c

theorem mul_within {x y B C : Int} (hx : -B ≤ x ∧ x ≤ B) (hy : -C ≤ y ∧ y ≤ C) : -(B * C) ≤ x * y ∧ x * y ≤ B * C := mul_bound x y B C hx.1 hx.2 hy.1 hy.2
theorem dt2_within {A : Nat → Nat → Int} {b : Nat → Int} (h : Within A b) (r0 r1 c0 c1 : Nat) : -(2 * (b c0 * b c1)) ≤ dt A [r0, r1] [c0, c1] ∧ dt A [r0, r1] [c0, c1] ≤ 2 * (b c0 * b c1) := by
  rw [dt2]
  have h1 := mul_within (h r0 c0).1 (h r1 c1).1
  have h2 := mul_within (h r0 c1).1 (h r1 c0).1
  rw [Int.mul_comm (b c1) (b c0)] at h2
  omega
theorem dt3_by (A : Nat → Nat → Int) (r0 r1 r2 c0 c1 c2 : Nat) : dt A [r0, r1, r2] [c0, c1, c2] =
    A r0 c0 * dt A [r1, r2] [c1, c2] - A r0 c1 * dt A [r1, r2] [c0, c2] + A r0 c2 * dt A [r1, r2] [c0, c1] := by rw [dt3, dt2, dt2, dt2]
theorem dt3_within {A : Nat → Nat → Int} {b : Nat → Int} (h : Within A b) (r0 r1 r2 c0 c1 c2 : Nat) :
    -(6 * (b c0 * (b c1 * b c2))) ≤ dt A [r0, r1, r2] [c0, c1, c2] ∧ dt A [r0, r1, r2] [c0, c1, c2] ≤ 6 * (b c0 * (b c1 * b c2)) := by
  rw [dt3_by]
  have h1 := mul_within (h r0 c0).1 (dt2_within h r1 r2 c1 c2)
  have h2 := mul_within (h r0 c1).1 (dt2_within h r1 r2 c0 c2)
  have h3 := mul_within (h r0 c2).1 (dt2_within h r1 r2 c0 c1)
  rw [show b c0 * (2 * (b c1 * b c2)) = 2 * (b c0 * (b c1 * b c2)) by ac_rfl] at h1
  rw [show b c1 * (2 * (b c0 * b c2)) = 2 * (b c0 * (b c1 * b c2)) by ac_rfl] at h2
  rw [show b c2 * (2 * (b c0 * b c1)) = 2 * (b c0 * (b c1 * b c2)) by ac_rfl] at h3
  omega
theorem dt4_within {A : Nat → Nat → Int} {b : Nat → Int} (h : Within A b) (r0 r1 r2 r3 c0 c1 c2 c3 : Nat) :
    -(24 * (b c0 * (b c1 * (b c2 * b c3)))) ≤ dt A [r0, r1, r2, r3] [c0, c1, c2, c3] ∧ dt A [r0, r1, r2, r3] [c0, c1, c2, c3] ≤ 24 * (b c0 * (b c1 * (b c2 * b c3))) := by
  rw [dt4]
  have h1 := mul_within (h r0 c0).1 (dt3_within h r1 r2 r3 c1 c2 c3)
  have h2 := mul_within (h r0 c1).1 (dt3_within h r1 r2 r3 c0 c2 c3)
  have h3 := mul_within (h r0 c2).1 (dt3_within h r1 r2 r3 c0 c1 c3)
  have h4 := mul_within (h r0 c3).1 (dt3_within h r1 r2 r3 c0 c1 c2)
  rw [show b c0 * (6 * (b c1 * (b c2 * b c3))) = 6 * (b c0 * (b c1 * (b c2 * b c3))) by ac_rfl] at h1
  rw [show b c1 * (6 * (b c0 * (b c2 * b c3))) = 6 * (b c0 * (b c1 * (b c2 * b c3))) by ac_rfl] at h2
  rw [show b c2 * (6 * (b c0 * (b c1 * b c3))) = 6 * (b c0 * (b c1 * (b c2 * b c3))) by ac_rfl] at h3
  rw [show b c3 * (6 * (b c0 * (b c1 * b c2))) = 6 * (b c0 * (b c1 * (b c2 * b c3))) by ac_rfl] at h4
  omega

/-- Entries up to 12, and up to 400 in the last column. -/
def Small (A : Nat → Nat → Int) (m : Nat) : Prop := ∀ i j, (-400 ≤ A i j ∧ A i j ≤ 400) ∧ (j < m → -12 ≤ A i j ∧ A i j ≤ 12)
theorem Small.swA {A : Nat → Nat → Int} {m : Nat} (h : Small A m) (k a : Nat) : Small (swA A k a) m := fun i j => h (sw k a i) j
theorem Small.within {A : Nat → Nat → Int} {m k : Nat} (h : Small A m) (hk : k ≤ m) : Within A (fun c => if c < k then 12 else 400) := fun i c => by
  have := h i c
  by_cases hc : c < k
  · simp only [hc, if_true]; exact ⟨this.2 (by omega), by omega⟩
  · simp only [hc, if_false]; exact ⟨this.1, by omega⟩

set_option maxHeartbeats 1000000 in
theorem ent_within {A : Nat → Nat → Int} {m k i : Nat} (j : Nat) (h : Small A m) (hm : m ≤ 4) (hk : k ≤ m) (hi : i < m) : -16588800 ≤ ent A k i j ∧ ent A k i j ≤ 16588800 := by
  have hw := h.within hk
  have hb : (if j < k then (12 : Int) else 400) ≤ 400 ∧ 0 ≤ (if j < k then (12 : Int) else 400) := by split <;> omega
  unfold ent
  split
  · rename_i hik
    rcases (show k = 1 ∨ k = 2 ∨ k = 3 ∨ k = 4 by omega) with rfl | rfl | rfl | rfl
    · obtain rfl : i = 0 := by omega
      simp only [range1, List.set, dt1]
      have := (h 0 j).1
      omega
    · rcases (show i = 0 ∨ i = 1 by omega) with rfl | rfl
      · have := dt2_within hw 0 1 j 1
        simp only [range2, List.set]
        simp only [show (1 : Nat) < 2 by omega, if_true] at this
        omega
      · have := dt2_within hw 0 1 0 j
        simp only [range2, List.set]
        simp only [show (0 : Nat) < 2 by omega, if_true] at this
        omega
    · rcases (show i = 0 ∨ i = 1 ∨ i = 2 by omega) with rfl | rfl | rfl
      · have := dt3_within hw 0 1 2 j 1 2
        simp only [range3, List.set]
        simp only [show (1 : Nat) < 3 by omega, show (2 : Nat) < 3 by omega, if_true] at this
        omega
      · have := dt3_within hw 0 1 2 0 j 2
        simp only [range3, List.set]
        simp only [show (0 : Nat) < 3 by omega, show (2 : Nat) < 3 by omega, if_true] at this
        omega
      · have := dt3_within hw 0 1 2 0 1 j
        simp only [range3, List.set]
        simp only [show (0 : Nat) < 3 by omega, show (1 : Nat) < 3 by omega, if_true] at this
        omega
    · rcases (show i = 0 ∨ i = 1 ∨ i = 2 ∨ i = 3 by omega) with rfl | rfl | rfl | rfl
      · have := dt4_within hw 0 1 2 3 j 1 2 3
        simp only [range4, List.set]
        simp only [show (1 : Nat) < 4 by omega, show (2 : Nat) < 4 by omega, show (3 : Nat) < 4 by omega, if_true] at this
        omega
      · have := dt4_within hw 0 1 2 3 0 j 2 3
        simp only [range4, List.set]
        simp only [show (0 : Nat) < 4 by omega, show (2 : Nat) < 4 by omega, show (3 : Nat) < 4 by omega, if_true] at this
        omega
      · have := dt4_within hw 0 1 2 3 0 1 j 3
        simp only [range4, List.set]
        simp only [show (0 : Nat) < 4 by omega, show (1 : Nat) < 4 by omega, show (3 : Nat) < 4 by omega, if_true] at this
        omega
      · have := dt4_within hw 0 1 2 3 0 1 2 j
        simp only [range4, List.set]
        simp only [show (0 : Nat) < 4 by omega, show (1 : Nat) < 4 by omega, show (2 : Nat) < 4 by omega, if_true] at this
        omega
  · rcases (show k = 0 ∨ k = 1 ∨ k = 2 ∨ k = 3 by omega) with rfl | rfl | rfl | rfl
    · simp only [List.range_zero, List.nil_append, dt1]
      have := (h i j).1
      omega
    · have := dt2_within hw 0 i 0 j
      simp only [range1, List.cons_append, List.nil_append]
      simp only [show (0 : Nat) < 1 by omega, if_true] at this
      omega
    · have := dt3_within hw 0 1 i 0 1 j
      simp only [range2, List.cons_append, List.nil_append]
      simp only [show (0 : Nat) < 2 by omega, show (1 : Nat) < 2 by omega, if_true] at this
      omega
    · have := dt4_within hw 0 1 2 i 0 1 2 j
      simp only [range3, List.cons_append, List.nil_append]
      simp only [show (0 : Nat) < 3 by omega, show (1 : Nat) < 3 by omega, show (2 : Nat) < 3 by omega, if_true] at this
      omega
theorem dtp_within {A : Nat → Nat → Int} {m i : Nat} (j : Nat) (h : Small A m) (hm : m ≤ 4) (hi : i < m) : -16588800 ≤ dtp A m i j ∧ dtp A m i j ≤ 16588800 := by
  rw [← ent_dtp A j hi]; exact ent_within j h hm (Nat.le_refl _) hi
theorem dtm_within {A : Nat → Nat → Int} {m : Nat} (h : Small A m) (hm : m ≤ 4) : -497664 ≤ dtm A m ∧ dtm A m ≤ 497664 := by
  have hw := h.within (Nat.le_refl m)
  unfold dtm
  rcases (show m = 0 ∨ m = 1 ∨ m = 2 ∨ m = 3 ∨ m = 4 by omega) with rfl | rfl | rfl | rfl | rfl
  · simp [dt]
  · have := (h 0 0).2 (by omega)
    simp only [range1, dt1]; omega
  · have := dt2_within hw 0 1 0 1
    simp at this
    rw [range2]; omega
  · have := dt3_within hw 0 1 2 0 1 2
    simp at this
    rw [range3]; omega
  · have := dt4_within hw 0 1 2 3 0 1 2 3
    simp at this
    rw [range4]; omega

/-! What columns come to. -/
/-- A corner. -/
structure CO where
  xs : List Int
  xd : Int
  ys : List Int
  yd : Int
  gs : List Int
  gd : Int

/-- The equations of the columns, with what the rows may be at most behind them; and of the rows, with what the columns are worth. -/
def matD (p : PG) (l : List Nat) (i j : Nat) : Int := if j < l.length then hasZ p i (l.getD j 0) else (mosts p).getD i 0
def matU (p : PG) (l : List Nat) (i j : Nat) : Int := if j < l.length then hasZ p j (l.getD i 0) else costZ p (l.getD i 0)
def denZ (p : PG) (l : List Nat) : Int := dtm (matD p l) p.rows.length
def xk (p : PG) (l : List Nat) (k : Nat) : Int := dtp (matD p l) p.rows.length k p.rows.length
def yk (p : PG) (l : List Nat) (k : Nat) : Int := dtp (matU p l) p.rows.length k p.rows.length
/-- Numbers put into their places among N, of the first n of l. -/
def putAll (l : List Nat) (v : Nat → Int) (N n : Nat) : List Int := (List.range n).foldl (fun a k => a.set (l.getD k 0) (v k)) (List.replicate N 0)
def xall (p : PG) (l : List Nat) : List Int := putAll l (xk p l) (p.costs.length + p.rows.length) p.rows.length
def yall (p : PG) (l : List Nat) : List Int := (List.range p.rows.length).map (yk p l)
def gk (p : PG) (l : List Nat) (j n : Nat) : Int := costZ p j * denZ p l - sumN (fun i => yk p l i * hasZ p i j) n
def gall (p : PG) (l : List Nat) : List Int := (List.range (p.costs.length + p.rows.length)).map fun j => gk p l j p.rows.length
/-- Are columns as many as rows, rising, of all columns? -/
def risingB (last : Int) (n : Nat) : List Int → Bool
  | [] => true
  | j :: l => decide (last < j) && (decide (j < n) && risingB j n l)
def rightA (p : PG) (l : List Int) : Bool := decide (l.length = p.rows.length) && risingB (-1) (p.costs.length + p.rows.length) l
def nats (l : List Int) : List Nat := l.map Int.toNat
def lookE (p : PG) (l : List Int) : Int := if mayPB p = false then 2 else if rightA p l = false then 3 else if denZ p (nats l) = 0 then 4 else 0
def lookC (p : PG) (l : List Int) : CO :=
  if lookE p l = 0 then
    ⟨ptN (xall p (nats l)) (denZ p (nats l)), ptD (xall p (nats l)) (denZ p (nats l)), ptN (yall p (nats l)) (denZ p (nats l)), ptD (yall p (nats l)) (denZ p (nats l)), ptN (gall p (nats l)) (denZ p (nats l)), ptD (gall p (nats l)) (denZ p (nats l))⟩
  else ⟨[], 0, [], 0, [], 0⟩

theorem length_putAll (l : List Nat) (v : Nat → Int) (N n : Nat) : (putAll l v N n).length = N := by
  unfold putAll
  induction n with
  | zero => simp
  | succ n ih => rw [List.range_succ, List.foldl_append]; simpa using ih
theorem putAll_succ (l : List Nat) (v : Nat → Int) (N n : Nat) : putAll l v N (n + 1) = (putAll l v N n).set (l.getD n 0) (v n) := by
  unfold putAll; rw [List.range_succ, List.foldl_append]; rfl
theorem gk_succ (p : PG) (l : List Nat) (j n : Nat) : gk p l j (n + 1) = gk p l j n - yk p l n * hasZ p n j := by unfold gk; rw [sumN]; omega
theorem gk_zero (p : PG) (l : List Nat) (j : Nat) : gk p l j 0 = costZ p j * denZ p l := by unfold gk; simp [sumN]

theorem mosts_at_bound {p : PG} (hp : mayPB p = true) (i : Nat) : -12 ≤ (mosts p).getD i 0 ∧ (mosts p).getD i 0 ≤ 12 := by
  by_cases h : i < (mosts p).length
  · have := smallB_at (mosts_small hp) h
    simpa [List.getD, List.getElem?_eq_getElem h] using this
  · simp [List.getD, List.getElem?_eq_none (Nat.le_of_not_lt h)]
theorem matD_small {p : PG} {l : List Nat} (hp : mayPB p = true) : Small (matD p l) l.length := fun i j => by
  unfold matD
  have h1 := hasZ_bound hp i (l.getD j 0)
  have h2 := mosts_at_bound hp i
  by_cases hj : j < l.length
  · rw [if_pos hj]; omega
  · rw [if_neg hj]; omega
theorem matU_small {p : PG} {l : List Nat} (hp : mayPB p = true) : Small (matU p l) l.length := fun i j => by
  unfold matU
  have h1 := hasZ_bound hp j (l.getD i 0)
  have h2 := costZ_bound hp (l.getD i 0)
  by_cases hj : j < l.length
  · rw [if_pos hj]; omega
  · rw [if_neg hj]; omega
theorem dt_congr2 {A B : Nat → Nat → Int} : ∀ {rs cs : List Nat}, (∀ r ∈ rs, ∀ c ∈ cs, A r c = B r c) → dt A rs cs = dt B rs cs
  | [], _, _ => rfl
  | r :: rs, cs, h => by
    rw [dt, dt]
    have gen : ∀ (cs' pre : List Nat) (s : Int), (∀ c ∈ pre ++ cs', c ∈ cs) → dtGo (A r) (dt A rs) pre s cs' = dtGo (B r) (dt B rs) pre s cs' := by
      intro cs'
      induction cs' with
      | nil => intros; rfl
      | cons c cs' ih =>
        intro pre s hm
        rw [dtGo, dtGo, h r (by simp) c (hm c (by simp)), dt_congr2 (A := A) (B := B) (rs := rs) (cs := pre ++ cs') fun r' hr c' hc' => h r' (by simp [hr]) c' (hm c' (by
          rcases List.mem_append.1 hc' with h | h
          · simp [h]
          · simp [h]))]
        rw [ih (pre ++ [c]) (-s) (by simpa using hm)]
    exact gen cs [] 1 (by simp)
/-- Both ways the divisor is one. -/
theorem den_flip {p : PG} {l : List Nat} (hl : l.length = p.rows.length) (h4 : p.rows.length ≤ 4) : dtm (matU p l) p.rows.length = denZ p l := by
  unfold denZ
  rw [← dt_flip (matD p l) h4]
  unfold dtm
  refine dt_congr2 fun r hr c hc => ?_
  have hr' : r < p.rows.length := by simpa using hr
  have hc' : c < p.rows.length := by simpa using hc
  simp only [matU, matD]
  rw [if_pos (by omega), if_pos (by omega)]
theorem den_bound {p : PG} {l : List Nat} (hp : mayPB p = true) (hl : l.length = p.rows.length) : -497664 ≤ denZ p l ∧ denZ p l ≤ 497664 := by
  have h4 := (mayPB_iff.1 hp).2.2.2.1
  unfold denZ
  exact dtm_within (hl ▸ matD_small hp) h4
theorem xk_bound {p : PG} {l : List Nat} (hp : mayPB p = true) (hl : l.length = p.rows.length) {k : Nat} (hk : k < p.rows.length) : -16588800 ≤ xk p l k ∧ xk p l k ≤ 16588800 := by
  have h4 := (mayPB_iff.1 hp).2.2.2.1
  exact dtp_within _ (hl ▸ matD_small hp) h4 hk
theorem yk_bound {p : PG} {l : List Nat} (hp : mayPB p = true) (hl : l.length = p.rows.length) {k : Nat} (hk : k < p.rows.length) : -16588800 ≤ yk p l k ∧ yk p l k ≤ 16588800 := by
  have h4 := (mayPB_iff.1 hp).2.2.2.1
  exact dtp_within _ (hl ▸ matU_small hp) h4 hk
theorem gk_bound {p : PG} {l : List Nat} (hp : mayPB p = true) (hl : l.length = p.rows.length) (j : Nat) {n : Nat} (hn : n ≤ p.rows.length) : -995328000 ≤ gk p l j n ∧ gk p l j n ≤ 995328000 := by
  have h4 := (mayPB_iff.1 hp).2.2.2.1
  have hd := den_bound hp hl
  have hc := costZ_bound hp j
  have h1 := mul_bound (costZ p j) (denZ p l) 400 497664 hc.1 hc.2 hd.1 hd.2
  have h2 : ∀ n, n ≤ p.rows.length → -(n * 199065600 : Int) ≤ sumN (fun i => yk p l i * hasZ p i j) n ∧ sumN (fun i => yk p l i * hasZ p i j) n ≤ n * 199065600 := by
    intro n
    induction n with
    | zero => intro _; simp [sumN]
    | succ n ih =>
      intro hn
      have hy := yk_bound hp hl (k := n) (by omega)
      have hh := hasZ_bound hp n j
      have h3 := mul_bound (yk p l n) (hasZ p n j) 16588800 12 hy.1 hy.2 hh.1 hh.2
      have := ih (by omega)
      rw [sumN]
      push_cast
      omega
  have := h2 n hn
  have hn4 : (n : Int) ≤ 4 := by omega
  unfold gk
  omega
end Go.Proofs.YtjcdkbalhleeeaaGreatDoor

namespace Go.Proofs.YtjcdkbalhleeeaaGreatDoor

theorem ptE_of {l : List Int} {d : Int} (h0 : d ≠ 0) (h1 : smallB 4611686018427387904 l = true) (h2 : -4611686018427387904 ≤ d ∧ d ≤ 4611686018427387904) :
    ptE l d = if rightB (divs l (sgcd l d)) (d.tdiv (sgcd l d)) then 0 else 1 := by
  unfold ptE
  rw [if_neg]
  simp [h0, h1, smallB_one, h2.1, h2.2]
theorem frN_eq {n d : Int} (h : ptE [n] d = 0) : frN n d = n.tdiv (sgcd [n] d) := by simp [frN, ptN, h, divs]
theorem ptD_eq {l : List Int} {d : Int} (h : ptE l d = 0) : ptD l d = d.tdiv (sgcd l d) := by simp [ptD, h]
theorem sgcd_dvd {l : List Int} {d : Int} : sgcd l d ∣ d ∧ ∀ n ∈ l, sgcd l d ∣ n := by
  obtain ⟨h1, h2⟩ := comm_dvd d.natAbs l
  have hs : (sgcd l d).natAbs = comm d.natAbs l := by unfold sgcd; split <;> simp
  refine ⟨by rw [← Int.natAbs_dvd_natAbs, hs]; exact h1, fun n hn => ?_⟩
  have := h2 n hn
  rw [Int.ofNat_dvd_left] at this
  rw [← Int.natAbs_dvd_natAbs, hs]; exact this
theorem sgcd_neg {n d : Int} (hd : d ≠ 0) : sgcd [-n] (-d) = -sgcd [n] d := by
  unfold sgcd comm
  simp only [List.foldl, Int.natAbs_neg]
  by_cases h : d < 0
  · rw [if_neg (by omega), if_pos h]; simp
  · rw [if_pos (by omega), if_neg h]
theorem sgcd_sign {l : List Int} {d : Int} (hd : d ≠ 0) : 0 < d.tdiv (sgcd l d) := by
  have hg := comm_pos d.natAbs l (Int.natAbs_pos.2 hd)
  obtain ⟨k, hk⟩ := (sgcd_dvd (l := l) (d := d)).1
  have h0 := sgcd_ne (l := l) hd
  have e : d.tdiv (sgcd l d) = k := by
    rw [show d.tdiv (sgcd l d) = (sgcd l d * k).tdiv (sgcd l d) by rw [← hk]]; exact Int.mul_tdiv_cancel_left _ h0
  rw [e]
  by_cases h : d < 0
  · have hs : sgcd l d = -(comm d.natAbs l : Int) := by unfold sgcd; rw [if_pos h]
    rw [hs] at hk
    rcases Int.lt_trichotomy k 0 with hk0 | hk0 | hk0
    · have := Int.mul_pos_of_neg_of_neg (show -(comm d.natAbs l : Int) < 0 by omega) hk0
      omega
    · subst hk0; simp at hk; omega
    · exact hk0
  · have hs : sgcd l d = (comm d.natAbs l : Int) := by unfold sgcd; rw [if_neg h]
    rw [hs] at hk
    rcases Int.lt_trichotomy k 0 with hk0 | hk0 | hk0
    · have := Int.mul_neg_of_pos_of_neg (show 0 < (comm d.natAbs l : Int) by omega) hk0
      omega
    · subst hk0; simp at hk; omega
    · exact hk0
/-- The fraction's parts stand to each other as the numbers do. -/
theorem sgcd_cross {n d : Int} (hd : d ≠ 0) : n.tdiv (sgcd [n] d) * d = n * d.tdiv (sgcd [n] d) := by
  have h0 := sgcd_ne (l := [n]) hd
  obtain ⟨⟨k, hk⟩, h2⟩ := sgcd_dvd (l := [n]) (d := d)
  obtain ⟨j, hj⟩ := h2 n (by simp)
  generalize sgcd [n] d = g at *
  subst hk hj
  rw [Int.mul_tdiv_cancel_left _ h0, Int.mul_tdiv_cancel_left _ h0]
  ac_rfl
theorem mayB_pt {l : List Int} {d : Int} (h : ptE l d = 0) : mayB (ptN l d) (ptD l d) = true := by
  have hc : d ≠ 0 ∧ rightB (divs l (sgcd l d)) (d.tdiv (sgcd l d)) = true := by
    unfold ptE at h
    split at h
    · omega
    · rename_i hh
      split at h
      · rename_i hr; exact ⟨fun e => hh (Or.inl e), hr⟩
      · omega
  unfold mayB ptN ptD
  rw [h, if_pos rfl, if_pos rfl, comm_divs l d hc.1, hc.2]
  rfl

structure FracSame (n d n' d' : Int) : Prop where
  he : ptE [n'] d' = ptE [n] d
  hn : frN n' d' = frN n d
  hd : ptD [n'] d' = ptD [n] d
theorem frac_good {n d : Int} (h0 : d ≠ 0) (he : ptE [n] d = 0) :
    frN n d * d = n * ptD [n] d ∧ 0 < ptD [n] d ∧ mayB [frN n d] (ptD [n] d) = true ∧ -1073741824 ≤ frN n d ∧ frN n d ≤ 1073741824 ∧ ptD [n] d ≤ 1073741824 := by
  have hm := mayB_pt he
  have hN : ptN [n] d = [frN n d] := by unfold frN ptN; rw [if_pos he]; simp [divs]
  rw [hN] at hm
  refine ⟨by rw [frN_eq he, ptD_eq he]; exact sgcd_cross h0, by rw [ptD_eq he]; exact sgcd_sign h0, hm, ?_⟩
  simp [mayB, rightB, smallB] at hm
  omega
end Go.Proofs.YtjcdkbalhleeeaaGreatDoor
