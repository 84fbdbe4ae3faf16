/-
  Contracts of functions and plain laws that later parts of the proof use. The conditions stand in each theorem.
-/

namespace Go.Proofs.YtjcdkbalhleeeaaGreatDoor
def smallB (m : Int) (l : List Int) : Bool := l.all fun n => decide (-m ≤ n) && decide (n ≤ m)
def comm (g : Nat) (l : List Int) : Nat := l.foldl (fun g n => Nat.gcd g n.natAbs) g
def rightB (l : List Int) (d : Int) : Bool := decide (1 ≤ d) && (decide (d ≤ 1073741824) && (smallB 1073741824 l && decide (l.length ≤ 8)))
def mayB (l : List Int) (d : Int) : Bool := rightB l d && decide (comm d.natAbs l = 1)
def sgcd (l : List Int) (d : Int) : Int := if d < 0 then -(comm d.natAbs l : Int) else comm d.natAbs l
def divs (l : List Int) (g : Int) : List Int := l.map fun n => n.tdiv g
def ptE (l : List Int) (d : Int) : Int :=
 if d = 0 ∨ smallB 4611686018427387904 l = false ∨ smallB 4611686018427387904 [d] = false then 3
 else if rightB (divs l (sgcd l d)) (d.tdiv (sgcd l d)) then 0 else 1
def ptN (l : List Int) (d : Int) : List Int := if ptE l d = 0 then divs l (sgcd l d) else []
def ptD (l : List Int) (d : Int) : Int := if ptE l d = 0 then d.tdiv (sgcd l d) else 0
def frN (n d : Int) : Int := (ptN [n] d).headD 0
def lessB (a b c d : Int) : Bool := mayB [a] b && (mayB [c] d && decide (a * d < c * b))
theorem smallB_take {m : Int} {l : List Int} {k : Nat} (h : k < l.length) : smallB m (l.take (k + 1)) = (smallB m (l.take k) && (decide (-m ≤ l[k]) && decide (l[k] ≤ m))) := by
 unfold smallB; rw [List.take_succ_eq_append_getElem h, List.all_append]; simp
theorem smallB_false {m : Int} {l : List Int} {k : Nat} (h : k < l.length) (hn : (decide (-m ≤ l[k]) && decide (l[k] ≤ m)) = false) : smallB m l = false := by
 unfold smallB; rw [List.all_eq_false]; exact ⟨l[k], List.getElem_mem h, by simpa using hn⟩
theorem smallB_at {m : Int} {l : List Int} (hs : smallB m l = true) {k : Nat} (h : k < l.length) : -m ≤ l[k] ∧ l[k] ≤ m := by
 unfold smallB at hs; rw [List.all_eq_true] at hs
 simpa using hs l[k] (List.getElem_mem h)
theorem smallB_mem {m : Int} {l : List Int} (hs : smallB m l = true) {n : Int} (h : n ∈ l) : -m ≤ n ∧ n ≤ m := by
 unfold smallB at hs; rw [List.all_eq_true] at hs
 simpa using hs n h
theorem smallB_iff {m : Int} {l : List Int} : smallB m l = true ↔ ∀ n ∈ l, -m ≤ n ∧ n ≤ m := by
 unfold smallB; rw [List.all_eq_true]; simp
theorem smallB_one (m d : Int) : smallB m [d] = (decide (-m ≤ d) && decide (d ≤ m)) := by simp [smallB]
theorem comm_take (g : Nat) {l : List Int} {k : Nat} (h : k < l.length) : comm g (l.take (k + 1)) = Nat.gcd (comm g (l.take k)) l[k].natAbs := by
 unfold comm; rw [List.take_succ_eq_append_getElem h, List.foldl_append]; rfl
theorem comm_cons (g : Nat) (n : Int) (l : List Int) : comm g (n :: l) = comm (Nat.gcd g n.natAbs) l := rfl
theorem comm_dvd (g : Nat) (l : List Int) : comm g l ∣ g ∧ ∀ n ∈ l, (comm g l : Int) ∣ n := by
 induction l generalizing g with
 | nil => exact ⟨Nat.dvd_refl _, by simp⟩
 | cons n l ih =>
  rw [comm_cons]
  obtain ⟨h1, h2⟩ := ih (Nat.gcd g n.natAbs)
  refine ⟨Nat.dvd_trans h1 (Nat.gcd_dvd_left _ _), ?_⟩
  intro x hx
  rcases List.mem_cons.1 hx with rfl | hx
  ·exact Int.ofNat_dvd_left.2 (Nat.dvd_trans h1 (Nat.gcd_dvd_right _ _))
  ·exact h2 x hx
theorem comm_great (g : Nat) (l : List Int) (d : Nat) (hg : d ∣ g) (hl : ∀ n ∈ l, (d : Int) ∣ n) : d ∣ comm g l := by
 induction l generalizing g with
 | nil => exact hg
 | cons n l ih =>
  rw [comm_cons]
  exact ih _ (Nat.dvd_gcd hg (Int.ofNat_dvd_left.1 (hl n (by simp)))) fun x hx => hl x (by simp [hx])
theorem comm_pos (g : Nat) (l : List Int) (hg : 0 < g) : 0 < comm g l :=
 Nat.pos_of_dvd_of_pos (comm_dvd g l).1 hg
theorem comm_le (g : Nat) (l : List Int) (hg : 0 < g) : comm g l ≤ g := Nat.le_of_dvd hg (comm_dvd g l).1
theorem comm_bound (g B : Nat) (l : List Int) (hg : g ≤ B) (hl : ∀ n ∈ l, n.natAbs ≤ B) : comm g l ≤ B := by
 induction l generalizing g with
 | nil => exact hg
 | cons n l ih =>
  rw [comm_cons]
  refine ih _ ?_ fun x hx => hl x (by simp [hx])
  rcases Nat.eq_zero_or_pos g with rfl | h0
  ·rw [Nat.gcd_zero_left]; exact hl n (by simp)
  ·exact Nat.le_trans (Nat.gcd_le_left _ h0) hg
theorem comm_divs (l : List Int) (d : Int) (hd : d ≠ 0) : comm (d.tdiv (sgcd l d)).natAbs (divs l (sgcd l d)) = 1 := by
 have hp : 0 < d.natAbs := Int.natAbs_pos.2 hd
 have hg : 0 < comm d.natAbs l := comm_pos _ _ hp
 obtain ⟨h1, h2⟩ := comm_dvd d.natAbs l
 have hs : (sgcd l d).natAbs = comm d.natAbs l := by unfold sgcd; split <;> simp
 have hsd : (sgcd l d) ∣ d := by rw [← Int.natAbs_dvd_natAbs, hs]; exact h1
 have hsl : ∀ n ∈ l, sgcd l d ∣ n := fun n hn => by
  have := h2 n hn
  rw [Int.ofNat_dvd_left] at this
  rw [← Int.natAbs_dvd_natAbs, hs]; exact this
 have hs0 : sgcd l d ≠ 0 := fun h => by rw [h] at hs; simp at hs; omega
 generalize hk : comm (d.tdiv (sgcd l d)).natAbs (divs l (sgcd l d)) = k
 have hkd := comm_dvd (d.tdiv (sgcd l d)).natAbs (divs l (sgcd l d))
 rw [hk] at hkd
 have hdvd : ∀ x : Int, sgcd l d ∣ x → (k : Int) ∣ x.tdiv (sgcd l d) → ((k * comm d.natAbs l : Nat) : Int) ∣ x := by
  intro x hx hkx
  obtain ⟨y, rfl⟩ := hx
  rw [Int.mul_tdiv_cancel_left _ hs0] at hkx
  obtain ⟨z, rfl⟩ := hkx
  rw [← Int.natAbs_dvd_natAbs]
  refine ⟨z.natAbs, ?_⟩
  rw [Int.natAbs_mul, Int.natAbs_mul, hs, Int.natAbs_natCast, Int.natAbs_natCast]
  ac_rfl
 have hgreat : k * comm d.natAbs l ∣ comm d.natAbs l := by
  refine comm_great _ _ _ ?_ ?_
  ·have := hdvd d hsd (Int.ofNat_dvd_left.2 hkd.1)
   rw [Int.ofNat_dvd_left] at this
   exact this
  ·intro n hn
   exact hdvd n (hsl n hn) (hkd.2 _ (by unfold divs; exact List.mem_map_of_mem hn))
 have := Nat.le_of_dvd hg hgreat
 have hk0 : k ≠ 0 := by
  intro h
  subst h
  rw [Nat.zero_mul] at hgreat
  have := Nat.eq_zero_of_zero_dvd hgreat
  omega
 have : k * comm d.natAbs l ≤ 1 * comm d.natAbs l := by omega
 have := Nat.le_of_mul_le_mul_right this hg
 omega
theorem length_divs (l : List Int) (g : Int) : (divs l g).length = l.length := by simp [divs]
theorem sgcd_ne {l : List Int} {d : Int} (hd : d ≠ 0) : sgcd l d ≠ 0 := by
 have := comm_pos d.natAbs l (Int.natAbs_pos.2 hd)
 unfold sgcd; split <;> omega
theorem mul_bound (a b A B : Int) (h1 : -A ≤ a) (h2 : a ≤ A) (h3 : -B ≤ b) (h4 : b ≤ B) : -(A * B) ≤ a * b ∧ a * b ≤ A * B := by
 have h : (a * b).natAbs ≤ A.natAbs * B.natAbs := by
  rw [Int.natAbs_mul]; exact Nat.mul_le_mul (by omega) (by omega)
 have hA : (0 : Int) ≤ A := by omega
 have hB : (0 : Int) ≤ B := by omega
 have e : (A.natAbs * B.natAbs : Nat) = (A * B).natAbs := (Int.natAbs_mul A B).symm
 have hp : 0 ≤ A * B := Int.mul_nonneg hA hB
 rw [e] at h
 omega
theorem tdiv_bound (B : Int) (n g : Int) (h : -B ≤ n) (h' : n ≤ B) : -B ≤ n.tdiv g ∧ n.tdiv g ≤ B := by
 have := Int.natAbs_tdiv_le_natAbs n g
 omega
theorem divs_take {l : List Int} {g : Int} {k : Nat} (h : k < l.length) : divs (l.take (k + 1)) g = divs (l.take k) g ++ [l[k].tdiv g] := by
 unfold divs; rw [List.take_succ_eq_append_getElem h, List.map_append]; rfl
end Go.Proofs.YtjcdkbalhleeeaaGreatDoor

namespace Go.Proofs.YtjcdkbalhleeeaaGreatDoor
structure PG where
 costs : List Int
 rows : List (List Int × Int)
def rowB (n : Nat) (r : List Int × Int) : Bool := decide (r.1.length = n) && (smallB 12 [r.2] && smallB 12 r.1)
def mayPB (p : PG) : Bool :=
 decide (1 ≤ p.costs.length) && (decide (p.costs.length ≤ 4) && (decide (1 ≤ p.rows.length) && (decide (p.rows.length ≤ 4) && (smallB 400 p.costs && p.rows.all (rowB p.costs.length)))))
def dot : List Int → List Int → Int
 | x :: a, y :: b => x * y + dot a b
 | _, _ => 0
def fitsB (p : PG) (x : List Int) (d : Int) : Bool := mayPB p && (mayB x d && decide (x.length = p.costs.length))
def nonneg (l : List Int) : Bool := l.all fun n => decide (0 ≤ n)
def goesB (p : PG) (x : List Int) (d : Int) : Bool := fitsB p x d && (nonneg x && p.rows.all fun r => decide (dot r.1 x ≤ r.2 * d))
def worN (p : PG) (x : List Int) (d : Int) : Int := if fitsB p x d then frN (dot p.costs x) d else 0
def worD (p : PG) (x : List Int) (d : Int) : Int := if fitsB p x d then ptD [dot p.costs x] d else 0
def worE (p : PG) (x : List Int) (d : Int) : Int := if fitsB p x d then ptE [dot p.costs x] d else 2
theorem dot_take {a b : List Int} {k : Nat} (h : k < a.length) (h' : k < b.length) : dot (a.take (k + 1)) b = dot (a.take k) b + a[k] * b[k] := by
 induction a generalizing b k with
 | nil => simp at h
 | cons x a ih =>
  cases b with
  | nil => simp at h'
  | cons y b =>
   cases k with
   | zero => simp [dot]
   | succ k =>
    simp only [List.take_succ_cons, dot, List.getElem_cons_succ]
    rw [ih (by simpa using h) (by simpa using h')]
    omega
theorem dot_bound {A B : Int} {a b : List Int} (ha : smallB A a = true) (hb : smallB B b = true) (hA : 0 ≤ A) (hB : 0 ≤ B) : -(a.length * (A * B)) ≤ dot a b ∧ dot a b ≤ a.length * (A * B) := by
 have hAB : 0 ≤ A * B := Int.mul_nonneg hA hB
 induction a generalizing b with
 | nil => simp [dot]
 | cons x a ih =>
  cases b with
  | nil =>
   have : (0 : Int) ≤ ((x :: a).length : Int) * (A * B) := Int.mul_nonneg (by omega) hAB
   simp only [dot]; omega
  | cons y b =>
   simp only [dot]
   have hx := smallB_mem ha (n := x) (by simp)
   have hy := smallB_mem hb (n := y) (by simp)
   have h1 := mul_bound x y A B hx.1 hx.2 hy.1 hy.2
   have h2 := ih (b := b) (smallB_iff.2 fun n hn => smallB_mem ha (by simp [hn])) (smallB_iff.2 fun n hn => smallB_mem hb (by simp [hn]))
   have e : ((x :: a).length : Int) * (A * B) = (a.length : Int) * (A * B) + A * B := by
    rw [List.length_cons, Int.natCast_add, Int.add_mul]; simp
   rw [e]
   omega
theorem dot_take_bound {A B : Int} {a b : List Int} (ha : smallB A a = true) (hb : smallB B b = true) (hA : 0 ≤ A) (hB : 0 ≤ B) (k : Nat) : -(a.length * (A * B)) ≤ dot (a.take k) b ∧ dot (a.take k) b ≤ a.length * (A * B) := by
 have h := dot_bound (a := a.take k) (b := b) (A := A) (B := B) (smallB_iff.2 fun n hn => smallB_mem ha (List.mem_of_mem_take hn)) hb hA hB
 have hl : ((a.take k).length : Int) * (A * B) ≤ (a.length : Int) * (A * B) :=
  Int.mul_le_mul_of_nonneg_right (by have := List.length_take_le' k a; omega) (Int.mul_nonneg hA hB)
 omega
theorem all_take {α : Type} {f : α → Bool} {l : List α} {k : Nat} (h : k < l.length) : (l.take (k + 1)).all f = ((l.take k).all f && f l[k]) := by
 rw [List.take_succ_eq_append_getElem h, List.all_append]; simp
theorem all_false {α : Type} {f : α → Bool} {l : List α} {k : Nat} (h : k < l.length) (hn : f l[k] = false) : l.all f = false := by
 rw [List.all_eq_false]; exact ⟨l[k], List.getElem_mem h, by simpa using hn⟩
theorem mayPB_iff {p : PG} : mayPB p = true ↔ 1 ≤ p.costs.length ∧ p.costs.length ≤ 4 ∧ 1 ≤ p.rows.length ∧ p.rows.length ≤ 4 ∧ smallB 400 p.costs = true ∧ p.rows.all (rowB p.costs.length) = true := by
 unfold mayPB; simp only [Bool.and_eq_true, decide_eq_true_eq]
theorem mayPB_row {p : PG} (h : mayPB p = true) {k : Nat} (hk : k < p.rows.length) : p.rows[k].1.length = p.costs.length ∧ (-12 ≤ p.rows[k].2 ∧ p.rows[k].2 ≤ 12) ∧ smallB 12 p.rows[k].1 = true := by
 have h6 := (mayPB_iff.1 h).2.2.2.2.2
 rw [List.all_eq_true] at h6
 have := h6 _ (List.getElem_mem hk)
 unfold rowB at this
 simp only [Bool.and_eq_true, decide_eq_true_eq, smallB_one] at this
 exact ⟨this.1, this.2.1, this.2.2⟩
theorem fitsB_iff {p : PG} {x : List Int} {d : Int} : fitsB p x d = true ↔ mayPB p = true ∧ mayB x d = true ∧ x.length = p.costs.length := by
 unfold fitsB; simp only [Bool.and_eq_true, decide_eq_true_eq]
theorem mayB_parts {l : List Int} {d : Int} (h : mayB l d = true) : 1 ≤ d ∧ d ≤ 1073741824 ∧ smallB 1073741824 l = true ∧ l.length ≤ 8 := by
 simp only [mayB, rightB, Bool.and_eq_true, decide_eq_true_eq] at h
 exact ⟨h.1.1, h.1.2.1, h.1.2.2.1, h.1.2.2.2⟩
end Go.Proofs.YtjcdkbalhleeeaaGreatDoor

namespace Go.Proofs.YtjcdkbalhleeeaaGreatDoor
def hasZ (p : PG) (i j : Nat) : Int := if j < p.costs.length then ((p.rows.getD i ([], 0)).1.getD j 0) else if j - p.costs.length = i then 1 else 0
def costZ (p : PG) (j : Nat) : Int := if j < p.costs.length then p.costs.getD j 0 else 0
def colZ (p : PG) (j : Nat) : List Int := (List.range p.rows.length).map fun i => hasZ p i j
def mosts (p : PG) : List Int := p.rows.map fun r => r.2
structure AN where
 kind : Int
 xs : List Int
 xd : Int
 ys : List Int
 yd : Int
 rs : List Int
 rd : Int
 wn : Int
 wd : Int
def emptyB (l : List Int) (d : Int) : Bool := decide (l.length = 0) && decide (d = 0)
def aboveB (l : List Int) (d : Int) (n : Nat) : Bool := mayB l d && (decide (l.length = n) && nonneg l)
def coversB (p : PG) (ys : List Int) (t : Int) : Bool := (List.range p.costs.length).all fun j => decide (costZ p j * t ≤ dot (colZ p j) ys)
def bestB (p : PG) (a : AN) : Bool :=
 emptyB a.rs a.rd && (goesB p a.xs a.xd && (aboveB a.ys a.yd p.rows.length && (coversB p a.ys a.yd &&
  (decide (worE p a.xs a.xd = 0) && (decide (ptE [dot (mosts p) a.ys] a.yd = 0) && ((decide (worN p a.xs a.xd = a.wn) && decide (worD p a.xs a.xd = a.wd)) && (decide (frN (dot (mosts p) a.ys) a.yd = worN p a.xs a.xd) && decide (ptD [dot (mosts p) a.ys] a.yd = worD p a.xs a.xd))))))))
def endlessB (p : PG) (a : AN) : Bool :=
 emptyB a.ys a.yd && ((decide (a.wn = 0) && decide (a.wd = 0)) && (goesB p a.xs a.xd && (aboveB a.rs a.rd p.costs.length && (decide (a.rd = 1) &&
  (p.rows.all (fun r => decide (dot r.1 a.rs ≤ 0)) && decide (0 < dot p.costs a.rs))))))
def nothingB (p : PG) (a : AN) : Bool :=
 emptyB a.xs a.xd && (emptyB a.rs a.rd && ((decide (a.wn = 0) && decide (a.wd = 0)) && (aboveB a.ys a.yd p.rows.length && (decide (a.yd = 1) && (coversB p a.ys 0 && decide (dot (mosts p) a.ys < 0))))))
def holdsB (p : PG) (a : AN) : Bool :=
 mayPB p && (if a.kind = 1 then bestB p a else if a.kind = 2 then endlessB p a else if a.kind = 3 then nothingB p a else false)
theorem length_colZ (p : PG) (j : Nat) : (colZ p j).length = p.rows.length := by simp [colZ]
theorem length_mosts (p : PG) : (mosts p).length = p.rows.length := by simp [mosts]
theorem hasZ_var {p : PG} {i j : Nat} (hi : i < p.rows.length) (hj : j < p.costs.length) : hasZ p i j = (p.rows[i]).1.getD j 0 := by
 simp [hasZ, hj, List.getD, List.getElem?_eq_getElem hi]
theorem hasZ_bound {p : PG} (hp : mayPB p = true) (i j : Nat) : -12 ≤ hasZ p i j ∧ hasZ p i j ≤ 12 := by
 unfold hasZ
 split
 ·rename_i hj
  by_cases hi : i < p.rows.length
  ·obtain ⟨hl, _, hs⟩ := mayPB_row hp hi
   have hj' : j < (p.rows[i]).1.length := by omega
   have := smallB_at hs hj'
   simpa [List.getD, List.getElem?_eq_getElem hi, List.getElem?_eq_getElem hj'] using this
  ·have : p.rows[i]? = none := List.getElem?_eq_none (by omega)
   simp [List.getD, this]
 ·split <;> omega
theorem costZ_bound {p : PG} (hp : mayPB p = true) (j : Nat) : -400 ≤ costZ p j ∧ costZ p j ≤ 400 := by
 unfold costZ
 split
 ·rename_i hj
  have := smallB_at (mayPB_iff.1 hp).2.2.2.2.1 hj
  simpa [List.getD, List.getElem?_eq_getElem hj] using this
 ·omega
theorem mosts_small {p : PG} (hp : mayPB p = true) : smallB 12 (mosts p) = true := by
 rw [smallB_iff]; intro n hn
 simp only [mosts, List.mem_map] at hn
 obtain ⟨r, hr, rfl⟩ := hn
 obtain ⟨i, hi, rfl⟩ := List.mem_iff_getElem.1 hr
 exact (mayPB_row hp hi).2.1
theorem aboveB_iff {l : List Int} {d : Int} {n : Nat} : aboveB l d n = true ↔ mayB l d = true ∧ l.length = n ∧ nonneg l = true := by
 unfold aboveB; simp only [Bool.and_eq_true, decide_eq_true_eq]
end Go.Proofs.YtjcdkbalhleeeaaGreatDoor

namespace Go.Proofs.YtjcdkbalhleeeaaGreatDoor
def sumN (f : Nat → Int) : Nat → Int
 | 0 => 0
 | n + 1 => sumN f n + f n
theorem sumN_congr {f g : Nat → Int} : ∀ {n : Nat}, (∀ i, i < n → f i = g i) → sumN f n = sumN g n
 | 0, _ => rfl
 | n + 1, h => by rw [sumN, sumN, sumN_congr fun i hi => h i (by omega), h n (by omega)]
theorem sumN_add {f g : Nat → Int} : ∀ {n : Nat}, sumN (fun i => f i + g i) n = sumN f n + sumN g n
 | 0 => rfl
 | n + 1 => by rw [sumN, sumN, sumN, sumN_add]; omega
theorem sumN_mul {f : Nat → Int} {c : Int} : ∀ {n : Nat}, sumN (fun i => c * f i) n = c * sumN f n
 | 0 => by simp [sumN]
 | n + 1 => by rw [sumN, sumN, sumN_mul, Int.mul_add]
theorem sumN_mul' {f : Nat → Int} {c : Int} : ∀ {n : Nat}, sumN (fun i => f i * c) n = sumN f n * c
 | 0 => by simp [sumN]
 | n + 1 => by rw [sumN, sumN, sumN_mul', Int.add_mul]
theorem sumN_zero : ∀ {n : Nat}, sumN (fun _ => 0) n = 0
 | 0 => rfl
 | n + 1 => by rw [sumN, sumN_zero]; rfl
theorem sumN_comm {f : Nat → Nat → Int} {m : Nat} : ∀ {n : Nat}, sumN (fun i => sumN (fun j => f i j) m) n = sumN (fun j => sumN (fun i => f i j) n) m
 | 0 => by simp only [sumN]; exact sumN_zero.symm
 | n + 1 => by simp only [sumN]; rw [sumN_comm, sumN_add]
theorem sumN_split {f : Nat → Int} {a : Nat} : ∀ {b : Nat}, sumN f (a + b) = sumN f a + sumN (fun i => f (a + i)) b
 | 0 => by simp [sumN]
 | b + 1 => by rw [← Nat.add_assoc, sumN, sumN, sumN_split]; omega
theorem dot_sum {a b : List Int} {n : Nat} (ha : a.length = n) (hb : b.length = n) : dot a b = sumN (fun k => a.getD k 0 * b.getD k 0) n := by
 have h : ∀ k, k ≤ n → dot (a.take k) b = sumN (fun k => a.getD k 0 * b.getD k 0) k := by
  intro k
  induction k with
  | zero => intro _; simp [dot, sumN]
  | succ k ih =>
   intro hk
   have h1 : k < a.length := by omega
   have h2 : k < b.length := by omega
   rw [dot_take h1 h2, ih (by omega), sumN]
   simp [List.getD, List.getElem?_eq_getElem h1, List.getElem?_eq_getElem h2]
 have := h n (Nat.le_refl _)
 rwa [List.take_of_length_le (by omega)] at this
theorem getD_map_range {f : Nat → Int} {n k : Nat} (h : k < n) : ((List.range n).map f).getD k 0 = f k := by
 simp [List.getD, h]
theorem nonneg_at {l : List Int} (h : nonneg l = true) (k : Nat) : 0 ≤ l.getD k 0 := by
 unfold nonneg at h
 rw [List.all_eq_true] at h
 by_cases hk : k < l.length
 ·have := h l[k] (List.getElem_mem hk)
  simpa [List.getD, List.getElem?_eq_getElem hk] using this
 ·simp [List.getD, List.getElem?_eq_none (Nat.le_of_not_lt hk)]
theorem getD_mosts {p : PG} {i : Nat} : (mosts p).getD i 0 = (p.rows.getD i ([], 0)).2 := by
 unfold mosts
 by_cases h : i < p.rows.length
 ·simp [List.getD, List.getElem?_eq_getElem h]
 ·simp [List.getD, List.getElem?_eq_none (Nat.le_of_not_lt h)]
theorem dot_row {p : PG} {i : Nat} (hp : mayPB p = true) (hi : i < p.rows.length) {x : List Int} (hx : x.length = p.costs.length) :
    dot (p.rows[i]).1 x = sumN (fun j => hasZ p i j * x.getD j 0) p.costs.length := by
 obtain ⟨h1, _, _⟩ := mayPB_row hp hi
 rw [dot_sum h1 hx]
 exact sumN_congr fun j hj => by rw [hasZ_var hi hj]
theorem dot_col {p : PG} {j : Nat} {y : List Int} (hy : y.length = p.rows.length) :
    dot (colZ p j) y = sumN (fun i => hasZ p i j * y.getD i 0) p.rows.length := by
 rw [dot_sum (length_colZ p j) hy]
 exact sumN_congr fun i hi => by unfold colZ; rw [getD_map_range hi]
end Go.Proofs.YtjcdkbalhleeeaaGreatDoor

namespace Go.Proofs.YtjcdkbalhleeeaaGreatDoor
def dtGo (A : Nat → Int) (rest : List Nat → Int) (pre : List Nat) (s : Int) : List Nat → Int
 | [] => 0
 | c :: cs => s * A c * rest (pre ++ cs) + dtGo A rest (pre ++ [c]) (-s) cs
def dt (A : Nat → Nat → Int) : List Nat → List Nat → Int
 | [], _ => 1
 | r :: rs, cs => dtGo (A r) (dt A rs) [] 1 cs
theorem dt2 (A : Nat → Nat → Int) (r0 r1 c0 c1 : Nat) : dt A [r0, r1] [c0, c1] = A r0 c0 * A r1 c1 - A r0 c1 * A r1 c0 := by
 simp [dt, dtGo]; grind
theorem dt1 (A : Nat → Nat → Int) (r0 c0 : Nat) : dt A [r0] [c0] = A r0 c0 := by
 simp [dt, dtGo]
theorem dt3 (A : Nat → Nat → Int) (r0 r1 r2 c0 c1 c2 : Nat) : dt A [r0, r1, r2] [c0, c1, c2] =
    A r0 c0 * (A r1 c1 * A r2 c2 - A r1 c2 * A r2 c1) - A r0 c1 * (A r1 c0 * A r2 c2 - A r1 c2 * A r2 c0) + A r0 c2 * (A r1 c0 * A r2 c1 - A r1 c1 * A r2 c0) := by
 simp [dt, dtGo]; grind
theorem dt4 (A : Nat → Nat → Int) (r0 r1 r2 r3 c0 c1 c2 c3 : Nat) : dt A [r0, r1, r2, r3] [c0, c1, c2, c3] =
    A r0 c0 * dt A [r1, r2, r3] [c1, c2, c3] - A r0 c1 * dt A [r1, r2, r3] [c0, c2, c3] + A r0 c2 * dt A [r1, r2, r3] [c0, c1, c3] - A r0 c3 * dt A [r1, r2, r3] [c0, c1, c2] := by
 rw [dt]; simp [dtGo]; grind
def ent (A : Nat → Nat → Int) (k i j : Nat) : Int :=
 if i < k then dt A (List.range k) ((List.range k).set i j) else dt A (List.range k ++ [i]) (List.range k ++ [j])
def lst (A : Nat → Nat → Int) (k : Nat) : Int := dt A (List.range k) (List.range k)
theorem ent_zero (A : Nat → Nat → Int) (i j : Nat) : ent A 0 i j = A i j := by simp [ent, dt1]
theorem lst_zero (A : Nat → Nat → Int) : lst A 0 = 1 := rfl
theorem range1 : List.range 1 = [0] := rfl
theorem range2 : List.range 2 = [0, 1] := rfl
theorem range3 : List.range 3 = [0, 1, 2] := rfl
theorem range4 : List.range 4 = [0, 1, 2, 3] := rfl
theorem lst_ent (A : Nat → Nat → Int) (k : Nat) : lst A (k + 1) = ent A k k k := by
 unfold lst ent
 rw [if_neg (by omega), List.range_succ]
theorem ent_pivot (A : Nat → Nat → Int) (k j : Nat) : ent A (k + 1) k j = ent A k k j := by
 unfold ent
 rw [if_pos (by omega), if_neg (by omega), List.range_succ]
 congr 1
 simp
set_option maxHeartbeats 2000000 in
theorem ent_step (A : Nat → Nat → Int) {k i : Nat} (j : Nat) (hk : k < 4) (hi : i < 4) (hne : i ≠ k) :
    ent A k i j * ent A k k k - ent A k i k * ent A k k j = lst A k * ent A (k + 1) i j := by
 rcases (show k = 0 ∨ k = 1 ∨ k = 2 ∨ k = 3 by omega) with rfl | rfl | rfl | rfl
 ·simp only [ent, lst, range1, List.range_zero, List.nil_append, dt1, show ¬ i < 0 by omega, show ¬ (0 : Nat) < 0 by omega, show ¬ i < 0 + 1 by omega, if_false, dt, Nat.zero_add, List.cons_append, dt2]
  grind
 ·rcases (show i = 0 ∨ i ≥ 2 by omega) with rfl | hi'
  ·simp [ent, lst, range2, dt1, dt2]
   grind
  ·simp [ent, lst, range2, dt1, dt2, dt3, show i ≠ 0 by omega, show ¬ i < 2 by omega]
   grind
 ·rcases (show i = 0 ∨ i = 1 ∨ i = 3 by omega) with rfl | rfl | rfl
  ·simp [ent, lst, range2, range3, dt2, dt3]
   grind
  ·simp [ent, lst, range2, range3, dt2, dt3]
   grind
  ·simp [ent, lst, range2, range3, dt2, dt3, dt4]
   grind
 ·rcases (show i = 0 ∨ i = 1 ∨ i = 2 by omega) with rfl | rfl | rfl
  ·simp [ent, lst, range3, range4, dt3, dt4]
   grind
  ·simp [ent, lst, range3, range4, dt3, dt4]
   grind
  ·simp [ent, lst, range3, range4, dt3, dt4]
   grind
end Go.Proofs.YtjcdkbalhleeeaaGreatDoor

namespace Go.Proofs.YtjcdkbalhleeeaaGreatDoor
def dtm (A : Nat → Nat → Int) (m : Nat) : Int := dt A (List.range m) (List.range m)
def dtp (A : Nat → Nat → Int) (m i j : Nat) : Int := dt A (List.range m) ((List.range m).set i j)
theorem ent_dtp (A : Nat → Nat → Int) {m i : Nat} (j : Nat) (h : i < m) : ent A m i j = dtp A m i j := by unfold ent; rw [if_pos h]; rfl
set_option maxHeartbeats 1000000 in
theorem no_pivot (A : Nat → Nat → Int) {m k : Nat} (hm : m ≤ 4) (hk : k < m) (hl : lst A k ≠ 0) (h : ∀ i, k ≤ i → i < m → ent A k i k = 0) : dtm A m = 0 := by
 unfold dtm
 rcases (show m = 1 ∨ m = 2 ∨ m = 3 ∨ m = 4 by omega) with rfl | rfl | rfl | rfl
 ·obtain rfl : k = 0 := by omega
  have := h 0 (by omega) (by omega)
  simp [ent, dt1] at this
  rw [range1, dt1, this]
 ·rcases (show k = 0 ∨ k = 1 by omega) with rfl | rfl
  ·have h0 := h 0 (by omega) (by omega)
   have h1 := h 1 (by omega) (by omega)
   simp [ent, dt1] at h0 h1
   rw [range2, dt2, h0, h1]; simp
  ·have h1 := h 1 (by omega) (by omega)
   simpa [ent, range2] using h1
 ·rcases (show k = 0 ∨ k = 1 ∨ k = 2 by omega) with rfl | rfl | rfl
  ·have h0 := h 0 (by omega) (by omega)
   have h1 := h 1 (by omega) (by omega)
   have h2 := h 2 (by omega) (by omega)
   simp [ent, dt1] at h0 h1 h2
   rw [range3, dt3, h0, h1, h2]; simp
  ·have h1 := h 1 (by omega) (by omega)
   have h2 := h 2 (by omega) (by omega)
   simp [ent, lst, dt1, dt2] at h1 h2 hl
   have e : A 0 0 * dt A [0, 1, 2] [0, 1, 2] = (A 0 0 * A 1 1 - A 0 1 * A 1 0) * (A 0 0 * A 2 2 - A 0 2 * A 2 0) - (A 0 0 * A 2 1 - A 0 1 * A 2 0) * (A 0 0 * A 1 2 - A 0 2 * A 1 0) := by rw [dt3]; grind
   rw [h1, h2] at e
   simp at e
   rw [range3]
   rcases Int.mul_eq_zero.1 e with e | e
   ·exact absurd e hl
   ·exact e
  ·have h2 := h 2 (by omega) (by omega)
   simpa [ent, range3, range2] using h2
 ·rcases (show k = 0 ∨ k = 1 ∨ k = 2 ∨ k = 3 by omega) with rfl | rfl | rfl | rfl
  ·have h0 := h 0 (by omega) (by omega)
   have h1 := h 1 (by omega) (by omega)
   have h2 := h 2 (by omega) (by omega)
   have h3 := h 3 (by omega) (by omega)
   simp [ent, dt1] at h0 h1 h2 h3
   rw [range4, dt4]
   simp only [dt3, h0, h1, h2, h3]
   grind
  ·have h1 := h 1 (by omega) (by omega)
   have h2 := h 2 (by omega) (by omega)
   have h3 := h 3 (by omega) (by omega)
   simp [ent, lst, dt1, dt2] at h1 h2 h3 hl
   have e : A 0 0 * dt A [0, 1, 2, 3] [0, 1, 2, 3] =
       (A 0 0 * A 1 1 - A 0 1 * A 1 0) * dt A [0, 2, 3] [0, 2, 3] - (A 0 0 * A 2 1 - A 0 1 * A 2 0) * dt A [0, 1, 3] [0, 2, 3] + (A 0 0 * A 3 1 - A 0 1 * A 3 0) * dt A [0, 1, 2] [0, 2, 3] := by
    rw [dt4]; simp only [dt3]; grind
   rw [h1, h2, h3] at e
   simp at e
   rw [range4]
   rcases Int.mul_eq_zero.1 e with e | e
   ·exact absurd e hl
   ·exact e
  ·have h2 := h 2 (by omega) (by omega)
   have h3 := h 3 (by omega) (by omega)
   simp [ent, lst, range2] at h2 h3 hl
   have e : dt A [0, 1] [0, 1] * dt A [0, 1, 2, 3] [0, 1, 2, 3] = dt A [0, 1, 2] [0, 1, 2] * dt A [0, 1, 3] [0, 1, 3] - dt A [0, 1, 3] [0, 1, 2] * dt A [0, 1, 2] [0, 1, 3] := by
    rw [dt4]; simp only [dt3, dt2]; grind
   rw [h2, h3] at e
   simp at e
   rw [range4]
   rcases Int.mul_eq_zero.1 e with e | e
   ·exact absurd e hl
   ·exact e
  ·have h3 := h 3 (by omega) (by omega)
   simpa [ent, range3, range4] using h3
def sw (k a i : Nat) : Nat := if i = k then a else if i = a then k else i
def swA (A : Nat → Nat → Int) (k a : Nat) : Nat → Nat → Int := fun i j => A (sw k a i) j
theorem dtGo_ext {A : Nat → Int} {f g : List Nat → Int} (h : ∀ l, f l = g l) : ∀ (pre : List Nat) (s : Int) (cs : List Nat), dtGo A f pre s cs = dtGo A g pre s cs := by
 have : f = g := funext h
 subst this
 intros; rfl
theorem dt_rows {A : Nat → Nat → Int} {f : Nat → Nat} : ∀ {rs : List Nat} (cs : List Nat), dt (fun i j => A (f i) j) rs cs = dt A (rs.map f) cs
 | [], _ => rfl
 | r :: rs, cs => by
  rw [List.map_cons, dt, dt]
  exact dtGo_ext (fun l => dt_rows l) _ _ _
theorem ent_swap (A : Nat → Nat → Int) {k a i j : Nat} (ha : k ≤ a) (hi : k ≤ i) : ent (swA A k a) k i j = ent A k (sw k a i) j := by
 have hs : ¬ sw k a i < k := by unfold sw; split; omega; split <;> omega
 unfold ent
 rw [if_neg (by omega), if_neg hs]
 unfold swA
 rw [dt_rows, List.map_append]
 congr 1
 have : (List.range k).map (sw k a) = List.range k := by
  conv => rhs; rw [← List.map_id (List.range k)]
  apply List.map_congr_left
  intro x hx
  have : x < k := by simpa using hx
  unfold sw; simp; split; omega; split; omega; rfl
 rw [this]; rfl
theorem ent_swap_up (A : Nat → Nat → Int) {k a i j : Nat} (ha : k ≤ a) (hi : i < k) : ent (swA A k a) k i j = ent A k i j := by
 unfold ent
 rw [if_pos hi, if_pos hi]
 unfold swA
 rw [dt_rows]
 congr 1
 conv => rhs; rw [← List.map_id (List.range k)]
 apply List.map_congr_left
 intro x hx
 have : x < k := by simpa using hx
 unfold sw; simp; split; omega; split; omega; rfl
theorem lst_swap (A : Nat → Nat → Int) {k a : Nat} (ha : k ≤ a) : lst (swA A k a) k = lst A k := by
 unfold lst swA
 rw [dt_rows]
 congr 1
 conv => rhs; rw [← List.map_id (List.range k)]
 apply List.map_congr_left
 intro x hx
 have : x < k := by simpa using hx
 unfold sw; simp; split; omega; split; omega; rfl
theorem list_len2 {l : List Nat} (h : l.length = 2) : ∃ a b, l = [a, b] := by
 obtain _ | ⟨a, _ | ⟨b, _ | ⟨c, l⟩⟩⟩ := l <;> simp at h; exact ⟨a, b, rfl⟩
theorem list_len3 {l : List Nat} (h : l.length = 3) : ∃ a b c, l = [a, b, c] := by
 obtain _ | ⟨a, _ | ⟨b, _ | ⟨c, _ | ⟨d, l⟩⟩⟩⟩ := l <;> simp at h; exact ⟨a, b, c, rfl⟩
theorem list_len4 {l : List Nat} (h : l.length = 4) : ∃ a b c d, l = [a, b, c, d] := by
 obtain _ | ⟨a, _ | ⟨b, _ | ⟨c, _ | ⟨d, _ | ⟨e, l⟩⟩⟩⟩⟩ := l <;> simp at h; exact ⟨a, b, c, d, rfl⟩
set_option maxHeartbeats 1000000 in
theorem dt_swap (A : Nat → Nat → Int) {m k a : Nat} (hm : m ≤ 4) (hk : k < a) (ha : a < m) {cs : List Nat} (hc : cs.length = m) : dt (swA A k a) (List.range m) cs = -dt A (List.range m) cs := by
 unfold swA
 rw [dt_rows]
 rcases (show m = 2 ∨ m = 3 ∨ m = 4 by omega) with rfl | rfl | rfl
 ·obtain ⟨c0, c1, rfl⟩ := list_len2 hc
  obtain ⟨rfl, rfl⟩ : k = 0 ∧ a = 1 := by omega
  simp [range2, sw, dt2]; grind
 ·obtain ⟨c0, c1, c2, rfl⟩ := list_len3 hc
  rcases (show (k = 0 ∧ a = 1) ∨ (k = 0 ∧ a = 2) ∨ (k = 1 ∧ a = 2) by omega) with ⟨rfl, rfl⟩ | ⟨rfl, rfl⟩ | ⟨rfl, rfl⟩ <;> (simp [range3, sw, dt3]; grind)
 ·obtain ⟨c0, c1, c2, c3, rfl⟩ := list_len4 hc
  rcases (show (k = 0 ∧ a = 1) ∨ (k = 0 ∧ a = 2) ∨ (k = 0 ∧ a = 3) ∨ (k = 1 ∧ a = 2) ∨ (k = 1 ∧ a = 3) ∨ (k = 2 ∧ a = 3) by omega) with ⟨rfl, rfl⟩ | ⟨rfl, rfl⟩ | ⟨rfl, rfl⟩ | ⟨rfl, rfl⟩ | ⟨rfl, rfl⟩ | ⟨rfl, rfl⟩ <;> (simp [range4, sw, dt4, dt3]; grind)
set_option maxHeartbeats 1000000 in
theorem dt_flip (A : Nat → Nat → Int) {m : Nat} (hm : m ≤ 4) : dtm (fun i j => A j i) m = dtm A m := by
 unfold dtm
 rcases (show m = 0 ∨ m = 1 ∨ m = 2 ∨ m = 3 ∨ m = 4 by omega) with rfl | rfl | rfl | rfl | rfl
 ·rfl
 ·simp [dt1]
 ·simp [range2, dt2]; grind
 ·simp [range3, dt3]; grind
 ·simp [range4, dt4, dt3]; grind
set_option maxHeartbeats 1000000 in
theorem cramer (A : Nat → Nat → Int) {m i : Nat} (j : Nat) (hm : m ≤ 4) (hi : i < m) : sumN (fun k => A i k * dtp A m k j) m = A i j * dtm A m := by
 unfold dtm dtp
 rcases (show m = 1 ∨ m = 2 ∨ m = 3 ∨ m = 4 by omega) with rfl | rfl | rfl | rfl
 ·obtain rfl : i = 0 := by omega
  simp [sumN, dt1]; grind
 ·rcases (show i = 0 ∨ i = 1 by omega) with rfl | rfl <;> (simp [sumN, range2, dt2]; grind)
 ·rcases (show i = 0 ∨ i = 1 ∨ i = 2 by omega) with rfl | rfl | rfl <;> (simp [sumN, range3, dt3]; grind)
 ·rcases (show i = 0 ∨ i = 1 ∨ i = 2 ∨ i = 3 by omega) with rfl | rfl | rfl | rfl <;> (simp [sumN, range4, dt4, dt3]; grind)
end Go.Proofs.YtjcdkbalhleeeaaGreatDoor

namespace Go.Proofs.YtjcdkbalhleeeaaGreatDoor
def Within (A : Nat → Nat → Int) (b : Nat → Int) : Prop := ∀ i c, (-b c ≤ A i c ∧ A i c ≤ b c) ∧ 0 ≤ b c
theorem mul_within {x y B C : Int} (hx : -B ≤ x ∧ x ≤ B) (hy : -C ≤ y ∧ y ≤ C) : -(B * C) ≤ x * y ∧ x * y ≤ B * C := mul_bound x y B C hx.1 hx.2 hy.1 hy.2
theorem dt2_within {A : Nat → Nat → Int} {b : Nat → Int} (h : Within A b) (r0 r1 c0 c1 : Nat) : -(2 * (b c0 * b c1)) ≤ dt A [r0, r1] [c0, c1] ∧ dt A [r0, r1] [c0, c1] ≤ 2 * (b c0 * b c1) := by
 rw [dt2]
 have h1 := mul_within (h r0 c0).1 (h r1 c1).1
 have h2 := mul_within (h r0 c1).1 (h r1 c0).1
 rw [Int.mul_comm (b c1) (b c0)] at h2
 omega
theorem dt3_by (A : Nat → Nat → Int) (r0 r1 r2 c0 c1 c2 : Nat) : dt A [r0, r1, r2] [c0, c1, c2] =
    A r0 c0 * dt A [r1, r2] [c1, c2] - A r0 c1 * dt A [r1, r2] [c0, c2] + A r0 c2 * dt A [r1, r2] [c0, c1] := by rw [dt3, dt2, dt2, dt2]
theorem dt3_within {A : Nat → Nat → Int} {b : Nat → Int} (h : Within A b) (r0 r1 r2 c0 c1 c2 : Nat) :
    -(6 * (b c0 * (b c1 * b c2))) ≤ dt A [r0, r1, r2] [c0, c1, c2] ∧ dt A [r0, r1, r2] [c0, c1, c2] ≤ 6 * (b c0 * (b c1 * b c2)) := by
 rw [dt3_by]
 have h1 := mul_within (h r0 c0).1 (dt2_within h r1 r2 c1 c2)
 have h2 := mul_within (h r0 c1).1 (dt2_within h r1 r2 c0 c2)
 have h3 := mul_within (h r0 c2).1 (dt2_within h r1 r2 c0 c1)
 rw [show b c0 * (2 * (b c1 * b c2)) = 2 * (b c0 * (b c1 * b c2)) by ac_rfl] at h1
 rw [show b c1 * (2 * (b c0 * b c2)) = 2 * (b c0 * (b c1 * b c2)) by ac_rfl] at h2
 rw [show b c2 * (2 * (b c0 * b c1)) = 2 * (b c0 * (b c1 * b c2)) by ac_rfl] at h3
 omega
theorem dt4_within {A : Nat → Nat → Int} {b : Nat → Int} (h : Within A b) (r0 r1 r2 r3 c0 c1 c2 c3 : Nat) :
    -(24 * (b c0 * (b c1 * (b c2 * b c3)))) ≤ dt A [r0, r1, r2, r3] [c0, c1, c2, c3] ∧ dt A [r0, r1, r2, r3] [c0, c1, c2, c3] ≤ 24 * (b c0 * (b c1 * (b c2 * b c3))) := by
 rw [dt4]
 have h1 := mul_within (h r0 c0).1 (dt3_within h r1 r2 r3 c1 c2 c3)
 have h2 := mul_within (h r0 c1).1 (dt3_within h r1 r2 r3 c0 c2 c3)
 have h3 := mul_within (h r0 c2).1 (dt3_within h r1 r2 r3 c0 c1 c3)
 have h4 := mul_within (h r0 c3).1 (dt3_within h r1 r2 r3 c0 c1 c2)
 rw [show b c0 * (6 * (b c1 * (b c2 * b c3))) = 6 * (b c0 * (b c1 * (b c2 * b c3))) by ac_rfl] at h1
 rw [show b c1 * (6 * (b c0 * (b c2 * b c3))) = 6 * (b c0 * (b c1 * (b c2 * b c3))) by ac_rfl] at h2
 rw [show b c2 * (6 * (b c0 * (b c1 * b c3))) = 6 * (b c0 * (b c1 * (b c2 * b c3))) by ac_rfl] at h3
 rw [show b c3 * (6 * (b c0 * (b c1 * b c2))) = 6 * (b c0 * (b c1 * (b c2 * b c3))) by ac_rfl] at h4
 omega
def Small (A : Nat → Nat → Int) (m : Nat) : Prop := ∀ i j, (-400 ≤ A i j ∧ A i j ≤ 400) ∧ (j < m → -12 ≤ A i j ∧ A i j ≤ 12)
theorem Small.swA {A : Nat → Nat → Int} {m : Nat} (h : Small A m) (k a : Nat) : Small (swA A k a) m := fun i j => h (sw k a i) j
theorem Small.within {A : Nat → Nat → Int} {m k : Nat} (h : Small A m) (hk : k ≤ m) : Within A (fun c => if c < k then 12 else 400) := fun i c => by
 have := h i c
 by_cases hc : c < k
 ·simp only [hc, if_true]; exact ⟨this.2 (by omega), by omega⟩
 ·simp only [hc, if_false]; exact ⟨this.1, by omega⟩
set_option maxHeartbeats 1000000 in
theorem ent_within {A : Nat → Nat → Int} {m k i : Nat} (j : Nat) (h : Small A m) (hm : m ≤ 4) (hk : k ≤ m) (hi : i < m) : -16588800 ≤ ent A k i j ∧ ent A k i j ≤ 16588800 := by
 have hw := h.within hk
 have hb : (if j < k then (12 : Int) else 400) ≤ 400 ∧ 0 ≤ (if j < k then (12 : Int) else 400) := by split <;> omega
 unfold ent
 split
 ·rename_i hik
  rcases (show k = 1 ∨ k = 2 ∨ k = 3 ∨ k = 4 by omega) with rfl | rfl | rfl | rfl
  ·obtain rfl : i = 0 := by omega
   simp only [range1, List.set, dt1]
   have := (h 0 j).1
   omega
  ·rcases (show i = 0 ∨ i = 1 by omega) with rfl | rfl
   ·have := dt2_within hw 0 1 j 1
    simp only [range2, List.set]
    simp only [show (1 : Nat) < 2 by omega, if_true] at this
    omega
   ·have := dt2_within hw 0 1 0 j
    simp only [range2, List.set]
    simp only [show (0 : Nat) < 2 by omega, if_true] at this
    omega
  ·rcases (show i = 0 ∨ i = 1 ∨ i = 2 by omega) with rfl | rfl | rfl
   ·have := dt3_within hw 0 1 2 j 1 2
    simp only [range3, List.set]
    simp only [show (1 : Nat) < 3 by omega, show (2 : Nat) < 3 by omega, if_true] at this
    omega
   ·have := dt3_within hw 0 1 2 0 j 2
    simp only [range3, List.set]
    simp only [show (0 : Nat) < 3 by omega, show (2 : Nat) < 3 by omega, if_true] at this
    omega
   ·have := dt3_within hw 0 1 2 0 1 j
    simp only [range3, List.set]
    simp only [show (0 : Nat) < 3 by omega, show (1 : Nat) < 3 by omega, if_true] at this
    omega
  ·rcases (show i = 0 ∨ i = 1 ∨ i = 2 ∨ i = 3 by omega) with rfl | rfl | rfl | rfl
   ·have := dt4_within hw 0 1 2 3 j 1 2 3
    simp only [range4, List.set]
    simp only [show (1 : Nat) < 4 by omega, show (2 : Nat) < 4 by omega, show (3 : Nat) < 4 by omega, if_true] at this
    omega
   ·have := dt4_within hw 0 1 2 3 0 j 2 3
    simp only [range4, List.set]
    simp only [show (0 : Nat) < 4 by omega, show (2 : Nat) < 4 by omega, show (3 : Nat) < 4 by omega, if_true] at this
    omega
   ·have := dt4_within hw 0 1 2 3 0 1 j 3
    simp only [range4, List.set]
    simp only [show (0 : Nat) < 4 by omega, show (1 : Nat) < 4 by omega, show (3 : Nat) < 4 by omega, if_true] at this
    omega
   ·have := dt4_within hw 0 1 2 3 0 1 2 j
    simp only [range4, List.set]
    simp only [show (0 : Nat) < 4 by omega, show (1 : Nat) < 4 by omega, show (2 : Nat) < 4 by omega, if_true] at this
    omega
 ·rcases (show k = 0 ∨ k = 1 ∨ k = 2 ∨ k = 3 by omega) with rfl | rfl | rfl | rfl
  ·simp only [List.range_zero, List.nil_append, dt1]
   have := (h i j).1
   omega
  ·have := dt2_within hw 0 i 0 j
   simp only [range1, List.cons_append, List.nil_append]
   simp only [show (0 : Nat) < 1 by omega, if_true] at this
   omega
  ·have := dt3_within hw 0 1 i 0 1 j
   simp only [range2, List.cons_append, List.nil_append]
   simp only [show (0 : Nat) < 2 by omega, show (1 : Nat) < 2 by omega, if_true] at this
   omega
  ·have := dt4_within hw 0 1 2 i 0 1 2 j
   simp only [range3, List.cons_append, List.nil_append]
   simp only [show (0 : Nat) < 3 by omega, show (1 : Nat) < 3 by omega, show (2 : Nat) < 3 by omega, if_true] at this
   omega
theorem dtp_within {A : Nat → Nat → Int} {m i : Nat} (j : Nat) (h : Small A m) (hm : m ≤ 4) (hi : i < m) : -16588800 ≤ dtp A m i j ∧ dtp A m i j ≤ 16588800 := by
 rw [← ent_dtp A j hi]; exact ent_within j h hm (Nat.le_refl _) hi
theorem dtm_within {A : Nat → Nat → Int} {m : Nat} (h : Small A m) (hm : m ≤ 4) : -497664 ≤ dtm A m ∧ dtm A m ≤ 497664 := by
 have hw := h.within (Nat.le_refl m)
 unfold dtm
 rcases (show m = 0 ∨ m = 1 ∨ m = 2 ∨ m = 3 ∨ m = 4 by omega) with rfl | rfl | rfl | rfl | rfl
 ·simp [dt]
 ·have := (h 0 0).2 (by omega)
  simp only [range1, dt1]; omega
 ·have := dt2_within hw 0 1 0 1
  simp at this
  rw [range2]; omega
 ·have := dt3_within hw 0 1 2 0 1 2
  simp at this
  rw [range3]; omega
 ·have := dt4_within hw 0 1 2 3 0 1 2 3
  simp at this
  rw [range4]; omega
structure CO where
 xs : List Int
 xd : Int
 ys : List Int
 yd : Int
 gs : List Int
 gd : Int
def matD (p : PG) (l : List Nat) (i j : Nat) : Int := if j < l.length then hasZ p i (l.getD j 0) else (mosts p).getD i 0
def matU (p : PG) (l : List Nat) (i j : Nat) : Int := if j < l.length then hasZ p j (l.getD i 0) else costZ p (l.getD i 0)
def denZ (p : PG) (l : List Nat) : Int := dtm (matD p l) p.rows.length
def xk (p : PG) (l : List Nat) (k : Nat) : Int := dtp (matD p l) p.rows.length k p.rows.length
def yk (p : PG) (l : List Nat) (k : Nat) : Int := dtp (matU p l) p.rows.length k p.rows.length
def putAll (l : List Nat) (v : Nat → Int) (N n : Nat) : List Int := (List.range n).foldl (fun a k => a.set (l.getD k 0) (v k)) (List.replicate N 0)
def xall (p : PG) (l : List Nat) : List Int := putAll l (xk p l) (p.costs.length + p.rows.length) p.rows.length
def yall (p : PG) (l : List Nat) : List Int := (List.range p.rows.length).map (yk p l)
def gk (p : PG) (l : List Nat) (j n : Nat) : Int := costZ p j * denZ p l - sumN (fun i => yk p l i * hasZ p i j) n
def gall (p : PG) (l : List Nat) : List Int := (List.range (p.costs.length + p.rows.length)).map fun j => gk p l j p.rows.length
def risingB (last : Int) (n : Nat) : List Int → Bool
 | [] => true
 | j :: l => decide (last < j) && (decide (j < n) && risingB j n l)
def rightA (p : PG) (l : List Int) : Bool := decide (l.length = p.rows.length) && risingB (-1) (p.costs.length + p.rows.length) l
def nats (l : List Int) : List Nat := l.map Int.toNat
def lookE (p : PG) (l : List Int) : Int := if mayPB p = false then 2 else if rightA p l = false then 3 else if denZ p (nats l) = 0 then 4 else 0
def lookC (p : PG) (l : List Int) : CO :=
 if lookE p l = 0 then
  ⟨ptN (xall p (nats l)) (denZ p (nats l)), ptD (xall p (nats l)) (denZ p (nats l)), ptN (yall p (nats l)) (denZ p (nats l)), ptD (yall p (nats l)) (denZ p (nats l)), ptN (gall p (nats l)) (denZ p (nats l)), ptD (gall p (nats l)) (denZ p (nats l))⟩
 else ⟨[], 0, [], 0, [], 0⟩
theorem length_putAll (l : List Nat) (v : Nat → Int) (N n : Nat) : (putAll l v N n).length = N := by
 unfold putAll
 induction n with
 | zero => simp
 | succ n ih => rw [List.range_succ, List.foldl_append]; simpa using ih
theorem putAll_succ (l : List Nat) (v : Nat → Int) (N n : Nat) : putAll l v N (n + 1) = (putAll l v N n).set (l.getD n 0) (v n) := by
 unfold putAll; rw [List.range_succ, List.foldl_append]; rfl
theorem gk_succ (p : PG) (l : List Nat) (j n : Nat) : gk p l j (n + 1) = gk p l j n - yk p l n * hasZ p n j := by unfold gk; rw [sumN]; omega
theorem gk_zero (p : PG) (l : List Nat) (j : Nat) : gk p l j 0 = costZ p j * denZ p l := by unfold gk; simp [sumN]
theorem mosts_at_bound {p : PG} (hp : mayPB p = true) (i : Nat) : -12 ≤ (mosts p).getD i 0 ∧ (mosts p).getD i 0 ≤ 12 := by
 by_cases h : i < (mosts p).length
 ·have := smallB_at (mosts_small hp) h
  simpa [List.getD, List.getElem?_eq_getElem h] using this
 ·simp [List.getD, List.getElem?_eq_none (Nat.le_of_not_lt h)]
theorem matD_small {p : PG} {l : List Nat} (hp : mayPB p = true) : Small (matD p l) l.length := fun i j => by
 unfold matD
 have h1 := hasZ_bound hp i (l.getD j 0)
 have h2 := mosts_at_bound hp i
 by_cases hj : j < l.length
 ·rw [if_pos hj]; omega
 ·rw [if_neg hj]; omega
theorem matU_small {p : PG} {l : List Nat} (hp : mayPB p = true) : Small (matU p l) l.length := fun i j => by
 unfold matU
 have h1 := hasZ_bound hp j (l.getD i 0)
 have h2 := costZ_bound hp (l.getD i 0)
 by_cases hj : j < l.length
 ·rw [if_pos hj]; omega
 ·rw [if_neg hj]; omega
theorem dt_congr2 {A B : Nat → Nat → Int} : ∀ {rs cs : List Nat}, (∀ r ∈ rs, ∀ c ∈ cs, A r c = B r c) → dt A rs cs = dt B rs cs
 | [], _, _ => rfl
 | r :: rs, cs, h => by
  rw [dt, dt]
  have gen : ∀ (cs' pre : List Nat) (s : Int), (∀ c ∈ pre ++ cs', c ∈ cs) → dtGo (A r) (dt A rs) pre s cs' = dtGo (B r) (dt B rs) pre s cs' := by
   intro cs'
   induction cs' with
   | nil => intros; rfl
   | cons c cs' ih =>
    intro pre s hm
    rw [dtGo, dtGo, h r (by simp) c (hm c (by simp)), dt_congr2 (A := A) (B := B) (rs := rs) (cs := pre ++ cs') fun r' hr c' hc' => h r' (by simp [hr]) c' (hm c' (by
     rcases List.mem_append.1 hc' with h | h
     ·simp [h]
     ·simp [h]))]
    rw [ih (pre ++ [c]) (-s) (by simpa using hm)]
  exact gen cs [] 1 (by simp)
theorem den_flip {p : PG} {l : List Nat} (hl : l.length = p.rows.length) (h4 : p.rows.length ≤ 4) : dtm (matU p l) p.rows.length = denZ p l := by
 unfold denZ
 rw [← dt_flip (matD p l) h4]
 unfold dtm
 refine dt_congr2 fun r hr c hc => ?_
 have hr' : r < p.rows.length := by simpa using hr
 have hc' : c < p.rows.length := by simpa using hc
 simp only [matU, matD]
 rw [if_pos (by omega), if_pos (by omega)]
theorem den_bound {p : PG} {l : List Nat} (hp : mayPB p = true) (hl : l.length = p.rows.length) : -497664 ≤ denZ p l ∧ denZ p l ≤ 497664 := by
 have h4 := (mayPB_iff.1 hp).2.2.2.1
 unfold denZ
 exact dtm_within (hl ▸ matD_small hp) h4
theorem xk_bound {p : PG} {l : List Nat} (hp : mayPB p = true) (hl : l.length = p.rows.length) {k : Nat} (hk : k < p.rows.length) : -16588800 ≤ xk p l k ∧ xk p l k ≤ 16588800 := by
 have h4 := (mayPB_iff.1 hp).2.2.2.1
 exact dtp_within _ (hl ▸ matD_small hp) h4 hk
theorem yk_bound {p : PG} {l : List Nat} (hp : mayPB p = true) (hl : l.length = p.rows.length) {k : Nat} (hk : k < p.rows.length) : -16588800 ≤ yk p l k ∧ yk p l k ≤ 16588800 := by
 have h4 := (mayPB_iff.1 hp).2.2.2.1
 exact dtp_within _ (hl ▸ matU_small hp) h4 hk
theorem gk_bound {p : PG} {l : List Nat} (hp : mayPB p = true) (hl : l.length = p.rows.length) (j : Nat) {n : Nat} (hn : n ≤ p.rows.length) : -995328000 ≤ gk p l j n ∧ gk p l j n ≤ 995328000 := by
 have h4 := (mayPB_iff.1 hp).2.2.2.1
 have hd := den_bound hp hl
 have hc := costZ_bound hp j
 have h1 := mul_bound (costZ p j) (denZ p l) 400 497664 hc.1 hc.2 hd.1 hd.2
 have h2 : ∀ n, n ≤ p.rows.length → -(n * 199065600 : Int) ≤ sumN (fun i => yk p l i * hasZ p i j) n ∧ sumN (fun i => yk p l i * hasZ p i j) n ≤ n * 199065600 := by
  intro n
  induction n with
  | zero => intro _; simp [sumN]
  | succ n ih =>
   intro hn
   have hy := yk_bound hp hl (k := n) (by omega)
   have hh := hasZ_bound hp n j
   have h3 := mul_bound (yk p l n) (hasZ p n j) 16588800 12 hy.1 hy.2 hh.1 hh.2
   have := ih (by omega)
   rw [sumN]
   push_cast
   omega
 have := h2 n hn
 have hn4 : (n : Int) ≤ 4 := by omega
 unfold gk
 omega
end Go.Proofs.YtjcdkbalhleeeaaGreatDoor

namespace Go.Proofs.YtjcdkbalhleeeaaGreatDoor
theorem ptE_of {l : List Int} {d : Int} (h0 : d ≠ 0) (h1 : smallB 4611686018427387904 l = true) (h2 : -4611686018427387904 ≤ d ∧ d ≤ 4611686018427387904) :
    ptE l d = if rightB (divs l (sgcd l d)) (d.tdiv (sgcd l d)) then 0 else 1 := by
 unfold ptE
 rw [if_neg]
 simp [h0, h1, smallB_one, h2.1, h2.2]
theorem frN_eq {n d : Int} (h : ptE [n] d = 0) : frN n d = n.tdiv (sgcd [n] d) := by simp [frN, ptN, h, divs]
theorem ptD_eq {l : List Int} {d : Int} (h : ptE l d = 0) : ptD l d = d.tdiv (sgcd l d) := by simp [ptD, h]
theorem sgcd_dvd {l : List Int} {d : Int} : sgcd l d ∣ d ∧ ∀ n ∈ l, sgcd l d ∣ n := by
 obtain ⟨h1, h2⟩ := comm_dvd d.natAbs l
 have hs : (sgcd l d).natAbs = comm d.natAbs l := by unfold sgcd; split <;> simp
 refine ⟨by rw [← Int.natAbs_dvd_natAbs, hs]; exact h1, fun n hn => ?_⟩
 have := h2 n hn
 rw [Int.ofNat_dvd_left] at this
 rw [← Int.natAbs_dvd_natAbs, hs]; exact this
theorem sgcd_neg {n d : Int} (hd : d ≠ 0) : sgcd [-n] (-d) = -sgcd [n] d := by
 unfold sgcd comm
 simp only [List.foldl, Int.natAbs_neg]
 by_cases h : d < 0
 ·rw [if_neg (by omega), if_pos h]; simp
 ·rw [if_pos (by omega), if_neg h]
theorem sgcd_sign {l : List Int} {d : Int} (hd : d ≠ 0) : 0 < d.tdiv (sgcd l d) := by
 have hg := comm_pos d.natAbs l (Int.natAbs_pos.2 hd)
 obtain ⟨k, hk⟩ := (sgcd_dvd (l := l) (d := d)).1
 have h0 := sgcd_ne (l := l) hd
 have e : d.tdiv (sgcd l d) = k := by
  rw [show d.tdiv (sgcd l d) = (sgcd l d * k).tdiv (sgcd l d) by rw [← hk]]; exact Int.mul_tdiv_cancel_left _ h0
 rw [e]
 by_cases h : d < 0
 ·have hs : sgcd l d = -(comm d.natAbs l : Int) := by unfold sgcd; rw [if_pos h]
  rw [hs] at hk
  rcases Int.lt_trichotomy k 0 with hk0 | hk0 | hk0
  ·have := Int.mul_pos_of_neg_of_neg (show -(comm d.natAbs l : Int) < 0 by omega) hk0
   omega
  ·subst hk0; simp at hk; omega
  ·exact hk0
 ·have hs : sgcd l d = (comm d.natAbs l : Int) := by unfold sgcd; rw [if_neg h]
  rw [hs] at hk
  rcases Int.lt_trichotomy k 0 with hk0 | hk0 | hk0
  ·have := Int.mul_neg_of_pos_of_neg (show 0 < (comm d.natAbs l : Int) by omega) hk0
   omega
  ·subst hk0; simp at hk; omega
  ·exact hk0
theorem sgcd_cross {n d : Int} (hd : d ≠ 0) : n.tdiv (sgcd [n] d) * d = n * d.tdiv (sgcd [n] d) := by
 have h0 := sgcd_ne (l := [n]) hd
 obtain ⟨⟨k, hk⟩, h2⟩ := sgcd_dvd (l := [n]) (d := d)
 obtain ⟨j, hj⟩ := h2 n (by simp)
 generalize sgcd [n] d = g at *
 subst hk hj
 rw [Int.mul_tdiv_cancel_left _ h0, Int.mul_tdiv_cancel_left _ h0]
 ac_rfl
theorem mayB_pt {l : List Int} {d : Int} (h : ptE l d = 0) : mayB (ptN l d) (ptD l d) = true := by
 have hc : d ≠ 0 ∧ rightB (divs l (sgcd l d)) (d.tdiv (sgcd l d)) = true := by
  unfold ptE at h
  split at h
  ·omega
  ·rename_i hh
   split at h
   ·rename_i hr; exact ⟨fun e => hh (Or.inl e), hr⟩
   ·omega
 unfold mayB ptN ptD
 rw [h, if_pos rfl, if_pos rfl, comm_divs l d hc.1, hc.2]
 rfl
structure FracSame (n d n' d' : Int) : Prop where
 he : ptE [n'] d' = ptE [n] d
 hn : frN n' d' = frN n d
 hd : ptD [n'] d' = ptD [n] d
theorem frac_good {n d : Int} (h0 : d ≠ 0) (he : ptE [n] d = 0) :
    frN n d * d = n * ptD [n] d ∧ 0 < ptD [n] d ∧ mayB [frN n d] (ptD [n] d) = true ∧ -1073741824 ≤ frN n d ∧ frN n d ≤ 1073741824 ∧ ptD [n] d ≤ 1073741824 := by
 have hm := mayB_pt he
 have hN : ptN [n] d = [frN n d] := by unfold frN ptN; rw [if_pos he]; simp [divs]
 rw [hN] at hm
 refine ⟨by rw [frN_eq he, ptD_eq he]; exact sgcd_cross h0, by rw [ptD_eq he]; exact sgcd_sign h0, hm, ?_⟩
 simp [mayB, rightB, smallB] at hm
 omega
end Go.Proofs.YtjcdkbalhleeeaaGreatDoor

namespace Go.Proofs.YtjcdkbalhleeeaaGreatDoor
theorem rising_parts {last : Int} {n : Nat} {l : List Int} (h : risingB last n l = true) : (∀ j ∈ l, last < j ∧ j < n) ∧ l.Pairwise (· < ·) := by
 induction l generalizing last with
 | nil => simp
 | cons j l ih =>
  simp only [risingB, Bool.and_eq_true, decide_eq_true_eq] at h
  obtain ⟨h1, h2, h3⟩ := h
  obtain ⟨g1, g2⟩ := ih h3
  refine ⟨fun x hx => ?_, List.pairwise_cons.2 ⟨fun x hx => (g1 x hx).1, g2⟩⟩
  rcases List.mem_cons.1 hx with rfl | hx
  ·exact ⟨h1, h2⟩
  ·have := g1 x hx; omega
structure RightL (p : PG) (l : List Nat) : Prop where
 len : l.length = p.rows.length
 lt : ∀ j ∈ l, j < p.costs.length + p.rows.length
 pw : l.Pairwise (· < ·)
theorem right_nats {p : PG} {l : List Int} (h : rightA p l = true) : RightL p (nats l) ∧ l = (nats l).map Int.ofNat := by
 simp only [rightA, Bool.and_eq_true, decide_eq_true_eq] at h
 obtain ⟨h1, h2⟩ := h
 obtain ⟨g1, g2⟩ := rising_parts h2
 have e : l = (nats l).map Int.ofNat := by
  unfold nats
  rw [List.map_map]
  conv => lhs; rw [← List.map_id l]
  apply List.map_congr_left
  intro x hx
  have := (g1 x hx).1
  simp; omega
 refine ⟨⟨by unfold nats; simpa using h1, ?_, ?_⟩, e⟩
 ·intro j hj
  simp only [nats, List.mem_map] at hj
  obtain ⟨x, hx, rfl⟩ := hj
  have := g1 x hx; omega
 ·unfold nats
  rw [List.pairwise_map]
  refine List.Pairwise.imp_of_mem ?_ g2
  intro a b ha hb hab
  have := g1 a ha; have := g1 b hb; omega
theorem RightL.at_lt {p : PG} {l : List Nat} (h : RightL p l) {k : Nat} (hk : k < l.length) : l.getD k 0 < p.costs.length + p.rows.length := by
 have := h.lt l[k] (List.getElem_mem hk)
 simpa [List.getD, List.getElem?_eq_getElem hk] using this
theorem RightL.ne {p : PG} {l : List Nat} (h : RightL p l) {i k : Nat} (hi : i < k) (hk : k < l.length) : l.getD i 0 < l.getD k 0 := by
 have := List.pairwise_iff_getElem.1 h.pw i k (by omega) hk hi
 simpa [List.getD, List.getElem?_eq_getElem hk, List.getElem?_eq_getElem (show i < l.length by omega)] using this
theorem getD_set {a : List Int} {i j : Nat} {x : Int} (h : i < a.length) : (a.set i x).getD j 0 = if j = i then x else a.getD j 0 := by
 simp only [List.getD, List.getElem?_set]
 by_cases e : i = j
 ·subst e; simp [h]
 ·rw [if_neg e, if_neg (fun h => e h.symm)]
theorem sumN_set {f : Nat → Int} {a : List Int} {i : Nat} {x : Int} (h : i < a.length) : ∀ n, sumN (fun j => f j * (a.set i x).getD j 0) n = sumN (fun j => f j * a.getD j 0) n + if i < n then f i * (x - a.getD i 0) else 0
 | 0 => by simp [sumN]
 | n + 1 => by
  rw [sumN, sumN, sumN_set h n, getD_set h]
  by_cases e : n = i
  ·subst e; rw [if_pos rfl, if_neg (by omega), if_pos (by omega), Int.mul_sub]; omega
  ·rw [if_neg e]
   by_cases e' : i < n
   ·rw [if_pos e', if_pos (by omega)]; omega
   ·rw [if_neg e', if_neg (by omega)]; omega
theorem putAll_zero {l : List Nat} {v : Nat → Int} {N n j : Nat} (h : ∀ k, k < n → l.getD k 0 ≠ j) : (putAll l v N n).getD j 0 = 0 := by
 induction n with
 | zero => simp [putAll, List.getD, List.getElem?_replicate]; split <;> rfl
 | succ n ih =>
  rw [putAll_succ]
  by_cases hl : l.getD n 0 < N
  ·rw [getD_set (by rw [length_putAll]; exact hl), if_neg (fun e => h n (by omega) e.symm)]
   exact ih fun k hk => h k (by omega)
  ·rw [List.set_eq_of_length_le (by rw [length_putAll]; omega)]
   exact ih fun k hk => h k (by omega)
theorem putAll_at {p : PG} {l : List Nat} (hr : RightL p l) {v : Nat → Int} {n k : Nat} (hk : k < n) (hn : n ≤ l.length) : (putAll l v (p.costs.length + p.rows.length) n).getD (l.getD k 0) 0 = v k := by
 induction n with
 | zero => omega
 | succ n ih =>
  rw [putAll_succ, getD_set (by rw [length_putAll]; exact hr.at_lt (by omega))]
  by_cases e : k = n
  ·subst e; rw [if_pos rfl]
  ·rw [if_neg (by have := hr.ne (i := k) (k := n) (by omega) (by omega); omega)]
   exact ih (by omega) (by omega)
theorem sum_putAll {p : PG} {l : List Nat} (hr : RightL p l) {v f : Nat → Int} : ∀ {n : Nat}, n ≤ l.length →
    sumN (fun j => f j * (putAll l v (p.costs.length + p.rows.length) n).getD j 0) (p.costs.length + p.rows.length) = sumN (fun k => f (l.getD k 0) * v k) n
 | 0, _ => by
  refine Eq.trans (sumN_congr (g := fun _ => 0) fun j _ => ?_) sumN_zero
  rw [putAll_zero (by omega)]; simp
 | n + 1, hn => by
  simp only [putAll_succ]
  have hlt := hr.at_lt (k := n) (by omega)
  rw [sumN_set (by rw [length_putAll]; exact hlt), sum_putAll hr (by omega), if_pos hlt, sumN]
  rw [putAll_zero (fun k hk => by have := hr.ne (i := k) (k := n) hk (by omega); omega)]
  simp
section
variable {p : PG} {l : List Nat}
theorem sum_has_x (hr : RightL p l) (h4 : p.rows.length ≤ 4) {i : Nat} (hi : i < p.rows.length) :
    sumN (fun j => hasZ p i j * (xall p l).getD j 0) (p.costs.length + p.rows.length) = (mosts p).getD i 0 * denZ p l := by
 unfold xall
 rw [sum_putAll hr (by rw [hr.len]; exact Nat.le_refl _)]
 have := cramer (matD p l) p.rows.length h4 hi
 unfold denZ xk
 rw [show matD p l i p.rows.length = (mosts p).getD i 0 by unfold matD; rw [if_neg (by rw [hr.len]; omega)]] at this
 rw [← this]
 refine sumN_congr fun k hk => ?_
 unfold matD
 rw [if_pos (by rw [hr.len]; exact hk)]
theorem sum_has_y (hr : RightL p l) (h4 : p.rows.length ≤ 4) {k : Nat} (hk : k < p.rows.length) :
    sumN (fun i => yk p l i * hasZ p i (l.getD k 0)) p.rows.length = costZ p (l.getD k 0) * denZ p l := by
 have := cramer (matU p l) p.rows.length h4 hk
 rw [show matU p l k p.rows.length = costZ p (l.getD k 0) by unfold matU; rw [if_neg (by rw [hr.len]; omega)], den_flip hr.len h4] at this
 rw [← this]
 refine sumN_congr fun i hi => ?_
 rw [show matU p l k i = hasZ p i (l.getD k 0) by unfold matU; rw [if_pos (by rw [hr.len]; exact hi)], Int.mul_comm]
 rfl
theorem gain_own (hr : RightL p l) (h4 : p.rows.length ≤ 4) {k : Nat} (hk : k < p.rows.length) : gk p l (l.getD k 0) p.rows.length = 0 := by
 unfold gk; rw [sum_has_y hr h4 hk]; omega
theorem worth_both (hr : RightL p l) (h4 : p.rows.length ≤ 4) (hd : denZ p l ≠ 0) :
    sumN (fun j => costZ p j * (xall p l).getD j 0) (p.costs.length + p.rows.length) = sumN (fun i => (mosts p).getD i 0 * yk p l i) p.rows.length := by
 refine Int.eq_of_mul_eq_mul_right hd ?_
 have e1 : sumN (fun j => costZ p j * (xall p l).getD j 0) (p.costs.length + p.rows.length) = sumN (fun k => costZ p (l.getD k 0) * xk p l k) p.rows.length := by
  unfold xall; rw [sum_putAll hr (by rw [hr.len]; exact Nat.le_refl _)]
 rw [e1, ← sumN_mul', ← sumN_mul']
 have e2 : sumN (fun k => costZ p (l.getD k 0) * xk p l k * denZ p l) p.rows.length = sumN (fun k => sumN (fun i => yk p l i * hasZ p i (l.getD k 0) * xk p l k) p.rows.length) p.rows.length := by
  refine sumN_congr fun k hk => ?_
  rw [sumN_mul', sum_has_y hr h4 hk]; ac_rfl
 rw [e2, ← sumN_comm (f := fun i k => yk p l i * hasZ p i (l.getD k 0) * xk p l k)]
 refine sumN_congr fun i hi => ?_
 have := sum_has_x hr h4 hi
 unfold xall at this
 rw [sum_putAll hr (by rw [hr.len]; exact Nat.le_refl _)] at this
 have e3 : sumN (fun k => yk p l i * hasZ p i (l.getD k 0) * xk p l k) p.rows.length = yk p l i * sumN (fun k => hasZ p i (l.getD k 0) * xk p l k) p.rows.length := by
  rw [← sumN_mul]; exact sumN_congr fun k _ => Int.mul_assoc _ _ _
 rw [e3, this]; ac_rfl
end
theorem pt_ok {l : List Int} {d : Int} (hd : d ≠ 0) (hb : -1073741824 ≤ d ∧ d ≤ 1073741824) (hl : smallB 1073741824 l = true) (h8 : l.length ≤ 8) : ptE l d = 0 := by
 have hs : smallB 4611686018427387904 l = true := smallB_iff.2 fun n hn => by have := smallB_mem hl hn; omega
 rw [ptE_of hd hs (by omega), if_pos]
 have h1 := sgcd_sign (l := l) hd
 have h2 := tdiv_bound 1073741824 d (sgcd l d) hb.1 hb.2
 have h3 : smallB 1073741824 (divs l (sgcd l d)) = true := smallB_iff.2 fun n hn => by
  simp only [divs, List.mem_map] at hn
  obtain ⟨x, hx, rfl⟩ := hn
  have := smallB_mem hl hx
  exact tdiv_bound 1073741824 x _ this.1 this.2
 simp only [rightB, Bool.and_eq_true, decide_eq_true_eq, length_divs]
 exact ⟨by omega, by omega, h3, h8⟩
theorem pt_parts {l : List Int} {d : Int} (h : ptE l d = 0) : ∃ g : Int, g ≠ 0 ∧ d = g * ptD l d ∧ (∀ j, l.getD j 0 = g * (ptN l d).getD j 0) ∧ (ptN l d).length = l.length ∧ 0 < ptD l d := by
 have h0 : d ≠ 0 := fun e => by subst e; simp [ptE] at h
 obtain ⟨h1, h2⟩ := sgcd_dvd (l := l) (d := d)
 refine ⟨sgcd l d, sgcd_ne h0, ?_, ?_, ?_, ?_⟩
 ·rw [ptD_eq h]; exact (Int.mul_tdiv_cancel' h1).symm
 ·intro j
  simp only [ptN, h, if_true, divs]
  by_cases hj : j < l.length
  ·simp only [List.getD, List.getElem?_map, List.getElem?_eq_getElem hj, Option.map_some, Option.getD_some]
   exact (Int.mul_tdiv_cancel' (h2 _ (List.getElem_mem hj))).symm
  ·simp [List.getD, List.getElem?_eq_none (Nat.le_of_not_lt hj)]
 ·simp [ptN, h, length_divs]
 ·rw [ptD_eq h]; exact sgcd_sign h0
theorem smallB_getD {m : Int} {l : List Int} (hm : 0 ≤ m) : smallB m l = true ↔ ∀ j, -m ≤ l.getD j 0 ∧ l.getD j 0 ≤ m := by
 rw [smallB_iff]
 constructor
 ·intro h j
  by_cases hj : j < l.length
  ·have := h l[j] (List.getElem_mem hj); simpa [List.getD, List.getElem?_eq_getElem hj] using this
  ·simp [List.getD, List.getElem?_eq_none (Nat.le_of_not_lt hj)]; omega
 ·intro h n hn
  obtain ⟨j, hj, rfl⟩ := List.mem_iff_getElem.1 hn
  have := h j; simpa [List.getD, List.getElem?_eq_getElem hj] using this
theorem xall_at {p : PG} {l : List Nat} (hr : RightL p l) {k : Nat} (hk : k < p.rows.length) : (xall p l).getD (l.getD k 0) 0 = xk p l k := by
 unfold xall; exact putAll_at hr hk (by rw [hr.len]; exact Nat.le_refl _)
theorem xall_off {p : PG} {l : List Nat} (hr : RightL p l) {j : Nat} (hj : j ∉ l) : (xall p l).getD j 0 = 0 := by
 unfold xall
 refine putAll_zero fun k hk e => hj ?_
 have hk' : k < l.length := by rw [hr.len]; exact hk
 rw [← e]
 simp only [List.getD, List.getElem?_eq_getElem hk', Option.getD_some]
 exact List.getElem_mem hk'
theorem xall_small {p : PG} {l : List Nat} (hp : mayPB p = true) (hr : RightL p l) : smallB 1073741824 (xall p l) = true := by
 rw [smallB_getD (by omega)]
 intro j
 by_cases hj : j ∈ l
 ·obtain ⟨k, hk, rfl⟩ := List.mem_iff_getElem.1 hj
  have hk' : k < p.rows.length := by rw [← hr.len]; exact hk
  have := xall_at hr hk'
  simp only [List.getD, List.getElem?_eq_getElem hk, Option.getD_some] at this ⊢
  rw [this]
  have := xk_bound hp hr.len hk'
  omega
 ·rw [xall_off hr hj]; omega
theorem yall_at {p : PG} {l : List Nat} {k : Nat} (hk : k < p.rows.length) : (yall p l).getD k 0 = yk p l k := by unfold yall; rw [getD_map_range hk]
theorem gall_at {p : PG} {l : List Nat} {j : Nat} (hj : j < p.costs.length + p.rows.length) : (gall p l).getD j 0 = gk p l j p.rows.length := by unfold gall; rw [getD_map_range hj]
theorem yall_small {p : PG} {l : List Nat} (hp : mayPB p = true) (hr : RightL p l) : smallB 1073741824 (yall p l) = true := by
 rw [smallB_iff]; intro n hn
 simp only [yall, List.mem_map, List.mem_range] at hn
 obtain ⟨k, hk, rfl⟩ := hn
 have := yk_bound hp hr.len hk; omega
theorem gall_small {p : PG} {l : List Nat} (hp : mayPB p = true) (hr : RightL p l) : smallB 1073741824 (gall p l) = true := by
 rw [smallB_iff]; intro n hn
 simp only [gall, List.mem_map, List.mem_range] at hn
 obtain ⟨j, _, rfl⟩ := hn
 have := gk_bound hp hr.len j (Nat.le_refl _); omega
structure Corn (p : PG) (l : List Nat) (c : CO) (gx gy gg : Int) : Prop where
 hp : mayPB p = true
 hr : RightL p l
 hd : denZ p l ≠ 0
 nx : gx ≠ 0
 ny : gy ≠ 0
 ng : gg ≠ 0
 dx : denZ p l = gx * c.xd
 dy : denZ p l = gy * c.yd
 dg : denZ p l = gg * c.gd
 px : 0 < c.xd
 py : 0 < c.yd
 pg : 0 < c.gd
 lx : c.xs.length = p.costs.length + p.rows.length
 ly : c.ys.length = p.rows.length
 lg : c.gs.length = p.costs.length + p.rows.length
 x : ∀ j, (xall p l).getD j 0 = gx * c.xs.getD j 0
 y : ∀ j, (yall p l).getD j 0 = gy * c.ys.getD j 0
 g : ∀ j, (gall p l).getD j 0 = gg * c.gs.getD j 0
 mx : mayB c.xs c.xd = true
 my : mayB c.ys c.yd = true
 mg : mayB c.gs c.gd = true
theorem look_corn {p : PG} {l : List Int} (h : lookE p l = 0) : ∃ gx gy gg, Corn p (nats l) (lookC p l) gx gy gg := by
 have h' := h
 unfold lookE at h
 split at h
 ·omega
 split at h
 ·omega
 split at h
 ·omega
 rename_i h1 h2 h3
 have hp : mayPB p = true := by simpa using h1
 obtain ⟨hr, _⟩ := right_nats (p := p) (l := l) (by simpa using h2)
 obtain ⟨k1, k2, k3, k4, _, _⟩ := mayPB_iff.1 hp
 have hb := den_bound hp hr.len
 have ex : ptE (xall p (nats l)) (denZ p (nats l)) = 0 := pt_ok h3 (by omega) (xall_small hp hr) (by unfold xall; rw [length_putAll]; omega)
 have ey : ptE (yall p (nats l)) (denZ p (nats l)) = 0 := pt_ok h3 (by omega) (yall_small hp hr) (by unfold yall; simp; omega)
 have eg : ptE (gall p (nats l)) (denZ p (nats l)) = 0 := pt_ok h3 (by omega) (gall_small hp hr) (by unfold gall; simp; omega)
 obtain ⟨gx, a1, a2, a3, a4, a5⟩ := pt_parts ex
 obtain ⟨gy, b1, b2, b3, b4, b5⟩ := pt_parts ey
 obtain ⟨gg, c1, c2, c3, c4, c5⟩ := pt_parts eg
 refine ⟨gx, gy, gg, ?_⟩
 unfold lookC
 rw [if_pos h']
 exact ⟨hp, hr, h3, a1, b1, c1, a2, b2, c2, a5, b5, c5, by rw [a4]; unfold xall; rw [length_putAll], by rw [b4]; unfold yall; simp, by rw [c4]; unfold gall; simp, a3, b3, c3, mayB_pt ex, mayB_pt ey, mayB_pt eg⟩
section
variable {p : PG} {l : List Nat} {c : CO} {gx gy gg : Int}
theorem Corn.rows4 (h : Corn p l c gx gy gg) : p.rows.length ≤ 4 := (mayPB_iff.1 h.hp).2.2.2.1
theorem Corn.row (h : Corn p l c gx gy gg) {i : Nat} (hi : i < p.rows.length) :
    sumN (fun j => hasZ p i j * c.xs.getD j 0) (p.costs.length + p.rows.length) = (mosts p).getD i 0 * c.xd := by
 have := sum_has_x h.hr h.rows4 hi
 rw [h.dx] at this
 have e : sumN (fun j => hasZ p i j * (xall p l).getD j 0) (p.costs.length + p.rows.length) = gx * sumN (fun j => hasZ p i j * c.xs.getD j 0) (p.costs.length + p.rows.length) := by
  rw [← sumN_mul]; exact sumN_congr fun j _ => by rw [h.x j]; ac_rfl
 rw [e] at this
 refine Int.eq_of_mul_eq_mul_left h.nx ?_
 rw [this]; ac_rfl
theorem Corn.row' (h : Corn p l c gx gy gg) {i : Nat} (hi : i < p.rows.length) :
    dot (p.rows[i]).1 (c.xs.take p.costs.length) + c.xs.getD (p.costs.length + i) 0 = (p.rows[i]).2 * c.xd := by
 have := h.row hi
 have hm : (mosts p).getD i 0 = (p.rows[i]).2 := by rw [getD_mosts]; simp [List.getD, List.getElem?_eq_getElem hi]
 rw [hm] at this
 rw [← this, sumN_split, dot_row h.hp hi (by rw [List.length_take, h.lx]; omega)]
 congr 1
 ·refine sumN_congr fun j hj => ?_
  simp [List.getD, hj]
 ·have key : ∀ n, sumN (fun r => hasZ p i (p.costs.length + r) * c.xs.getD (p.costs.length + r) 0) n = if i < n then c.xs.getD (p.costs.length + i) 0 else 0 := by
    intro n
    induction n with
    | zero => simp [sumN]
    | succ n ih =>
     rw [sumN, ih]
     have e : hasZ p i (p.costs.length + n) = if n = i then 1 else 0 := by
      unfold hasZ; rw [if_neg (by omega)]
      by_cases e : n = i
      ·rw [if_pos (by omega), if_pos e]
      ·rw [if_neg (by omega), if_neg e]
     rw [e]
     by_cases e : n = i
     ·subst e; rw [if_neg (by omega), if_pos rfl, if_pos (by omega)]; omega
     ·rw [if_neg e]
      by_cases e' : i < n
      ·rw [if_pos e', if_pos (by omega)]; omega
      ·rw [if_neg e', if_neg (by omega)]; omega
  rw [key, if_pos hi]
theorem Corn.gain_own (h : Corn p l c gx gy gg) {k : Nat} (hk : k < p.rows.length) : c.gs.getD (l.getD k 0) 0 = 0 := by
 have h1 := h.g (l.getD k 0)
 rw [gall_at (h.hr.at_lt (by rw [h.hr.len]; exact hk)), Go.Proofs.YtjcdkbalhleeeaaGreatDoor.gain_own h.hr h.rows4 hk] at h1
 rcases Int.mul_eq_zero.1 h1.symm with e | e
 ·exact absurd e h.ng
 ·exact e
theorem sum_costZ {p : PG} {f : Nat → Int} : sumN (fun j => costZ p j * f j) (p.costs.length + p.rows.length) = sumN (fun j => p.costs.getD j 0 * f j) p.costs.length := by
 rw [sumN_split]
 have h1 : sumN (fun i => costZ p (p.costs.length + i) * f (p.costs.length + i)) p.rows.length = 0 := by
  rw [← sumN_zero (n := p.rows.length)]
  refine sumN_congr fun i _ => ?_
  unfold costZ; rw [if_neg (by omega)]; simp
 rw [h1, Int.add_zero]
 refine sumN_congr fun j hj => ?_
 unfold costZ; rw [if_pos hj]
theorem Corn.worth (h : Corn p l c gx gy gg) : dot p.costs (c.xs.take p.costs.length) * c.yd = dot (mosts p) c.ys * c.xd := by
 have := worth_both h.hr h.rows4 h.hd
 rw [sum_costZ] at this
 have e1 : sumN (fun j => p.costs.getD j 0 * (xall p l).getD j 0) p.costs.length = gx * dot p.costs (c.xs.take p.costs.length) := by
  rw [dot_sum (n := p.costs.length) rfl (by rw [List.length_take, h.lx]; omega), ← sumN_mul]
  refine sumN_congr fun j hj => ?_
  rw [h.x j]
  have : (c.xs.take p.costs.length).getD j 0 = c.xs.getD j 0 := by simp [List.getD, hj]
  rw [this]; ac_rfl
 have e2 : sumN (fun i => (mosts p).getD i 0 * yk p l i) p.rows.length = gy * dot (mosts p) c.ys := by
  rw [dot_sum (length_mosts p) h.ly, ← sumN_mul]
  refine sumN_congr fun i hi => ?_
  have := h.y i
  rw [yall_at hi] at this
  rw [this]; ac_rfl
 rw [e1, e2] at this
 have hgg : gx * gy ≠ 0 := fun e => by
  rcases Int.mul_eq_zero.1 e with e | e
  ·exact h.nx e
  ·exact h.ny e
 refine Int.eq_of_mul_eq_mul_left hgg ?_
 have d1 := h.dx
 have d2 := h.dy
 calc gx * gy * (dot p.costs (c.xs.take p.costs.length) * c.yd) = (gx * dot p.costs (c.xs.take p.costs.length)) * (gy * c.yd) := by ac_rfl
  _ = (gy * dot (mosts p) c.ys) * (gx * c.xd) := by rw [this, ← d1, ← d2]
  _ = gx * gy * (dot (mosts p) c.ys * c.xd) := by ac_rfl
end
end Go.Proofs.YtjcdkbalhleeeaaGreatDoor

namespace Go.Proofs.YtjcdkbalhleeeaaGreatDoor
def sumR (f : Nat → Rat) : Nat → Rat
 | 0 => 0
 | n + 1 => sumR f n + f n
theorem sumR_congr {f g : Nat → Rat} : ∀ {n : Nat}, (∀ i, i < n → f i = g i) → sumR f n = sumR g n
 | 0, _ => rfl
 | n + 1, h => by rw [sumR, sumR, sumR_congr fun i hi => h i (by omega), h n (by omega)]
theorem sumR_add {f g : Nat → Rat} : ∀ {n : Nat}, sumR (fun i => f i + g i) n = sumR f n + sumR g n
 | 0 => by simp [sumR]; grind
 | n + 1 => by simp only [sumR]; rw [sumR_add]; grind
theorem sumR_mul {f : Nat → Rat} {c : Rat} : ∀ {n : Nat}, sumR (fun i => c * f i) n = c * sumR f n
 | 0 => by simp [sumR]
 | n + 1 => by simp only [sumR]; rw [sumR_mul]; grind
theorem sumR_zero : ∀ {n : Nat}, sumR (fun _ => 0) n = 0
 | 0 => rfl
 | n + 1 => by rw [sumR, sumR_zero]; grind
theorem sumR_comm {f : Nat → Nat → Rat} {m : Nat} : ∀ {n : Nat}, sumR (fun i => sumR (fun j => f i j) m) n = sumR (fun j => sumR (fun i => f i j) n) m
 | 0 => by simp only [sumR]; exact sumR_zero.symm
 | n + 1 => by simp only [sumR]; rw [sumR_comm, sumR_add]
theorem sumR_one {f : Nat → Rat} {r : Nat} : ∀ {n : Nat}, r < n → (∀ j, j < n → j ≠ r → f j = 0) → sumR f n = f r
 | 0, h, _ => by omega
 | n + 1, h, hz => by
  rw [sumR]
  by_cases e : r = n
  ·subst e
   have : sumR f r = 0 := (sumR_congr fun j hj => hz j (by omega) (by omega)).trans sumR_zero
   rw [this]; grind
  ·rw [sumR_one (by omega) fun j hj => hz j (by omega), hz n (by omega) (by omega)]; grind
theorem sumR_pos {f : Nat → Rat} : ∀ {n : Nat}, 0 < sumR f n → ∃ j, j < n ∧ 0 < f j
 | 0, h => by simp [sumR] at h
 | n + 1, h => by
  by_cases e : 0 < f n
  ·exact ⟨n, by omega, e⟩
  ·rw [sumR] at h
   obtain ⟨j, hj, hp⟩ := sumR_pos (f := f) (n := n) (by grind)
   exact ⟨j, by omega, hp⟩
structure Piv (m N : Nat) (A : Nat → Nat → Rat) (c : Nat → Rat) (l l' : List Nat) (x x' g d y : Nat → Rat) (r s : Nat) (t : Rat) : Prop where
 rin : r ∉ l
 rN : r < N
 sin : s ∈ l
 lN : ∀ j ∈ l, j < N
 mem : ∀ j, j ∈ l' ↔ (j ∈ l ∧ j ≠ s) ∨ j = r
 gy : ∀ j, j < N → g j = c j - sumR (fun i => y i * A i j) m
 g0 : ∀ j ∈ l, g j = 0
 gr : 0 < g r
 glt : ∀ j, j < r → g j ≤ 0
 dk : ∀ i, i < m → sumR (fun j => A i j * d j) N = 0
 dr : d r = 1
 doff : ∀ j, j ∉ l → j ≠ r → d j = 0
 ds : d s < 0
 t0 : 0 ≤ t
 tx : x s = t * -(d s)
 tmin : ∀ j ∈ l, d j < 0 → t * -(d j) ≤ x j ∧ (t * -(d j) = x j → s ≤ j)
 xoff : ∀ j, j ∉ l → x j = 0
 step : ∀ j, x' j = x j + t * d j
section
variable {m N : Nat} {A : Nat → Nat → Rat} {c : Nat → Rat} {l l' l2 l2' : List Nat} {x x' g d y x2 x2' g2 d2 y2 : Nat → Rat} {r s r2 s2 : Nat} {t t2 : Rat}
theorem Piv.worth (h : Piv m N A c l l' x x' g d y r s t) {g2 y2 : Nat → Rat} (hg : ∀ j, j < N → g2 j = c j - sumR (fun i => y2 i * A i j) m) : sumR (fun j => c j * d j) N = sumR (fun j => g2 j * d j) N := by
 have e : sumR (fun j => c j * d j) N = sumR (fun j => g2 j * d j + sumR (fun i => y2 i * (A i j * d j)) m) N := by
  refine sumR_congr fun j hj => ?_
  have h1 : sumR (fun i => y2 i * (A i j * d j)) m = d j * sumR (fun i => y2 i * A i j) m := by
   rw [← sumR_mul]; exact sumR_congr fun i _ => by grind
  rw [h1, hg j hj]; grind
 rw [e, sumR_add, ← sumR_comm (f := fun i j => y2 i * (A i j * d j))]
 have h2 : sumR (fun i => sumR (fun j => y2 i * (A i j * d j)) N) m = 0 := by
  refine (sumR_congr fun i hi => ?_).trans sumR_zero
  rw [sumR_mul, h.dk i hi]; grind
 rw [h2]; grind
theorem Piv.gain (h : Piv m N A c l l' x x' g d y r s t) : sumR (fun j => c j * d j) N = g r := by
 rw [h.worth h.gy, sumR_one h.rN]
 ·rw [h.dr]; grind
 ·intro j _ hjr
  by_cases hl : j ∈ l
  ·rw [h.g0 j hl]; grind
  ·rw [h.doff j hl hjr]; grind
theorem Piv.rises (h : Piv m N A c l l' x x' g d y r s t) : sumR (fun j => c j * x' j) N = sumR (fun j => c j * x j) N + t * g r := by
 rw [← h.gain, ← sumR_mul, ← sumR_add]
 exact sumR_congr fun j _ => by rw [h.step j]; grind
theorem turn_up {P : Nat → Prop} {i k : Nat} (hik : i ≤ k) (h0 : ¬ P i) (h1 : P k) : ∃ e, i ≤ e ∧ e < k ∧ ¬ P e ∧ P (e + 1) := by
 obtain ⟨n, rfl⟩ : ∃ n, k = i + n := ⟨k - i, by omega⟩
 induction n with
 | zero => exact absurd h1 h0
 | succ n ih =>
  by_cases hp : P (i + n)
  ·obtain ⟨e, a, b, c, d⟩ := ih (by omega) hp; exact ⟨e, a, by omega, c, d⟩
  ·exact ⟨i + n, by omega, by omega, hp, h1⟩
theorem bland {L : Nat → List Nat} {X G D Y : Nat → Nat → Rat} {R S : Nat → Nat} {T : Nat → Rat} {a b : Nat} (hab : a < b)
    (hs : ∀ i, a ≤ i → i < b → Piv m N A c (L i) (L (i + 1)) (X i) (X (i + 1)) (G i) (D i) (Y i) (R i) (S i) (T i))
    (hL : ∀ j, j ∈ L a ↔ j ∈ L b) (hX : ∀ j, X b j = X a j) (hXo : ∀ i, a ≤ i → i ≤ b → ∀ j, j ∉ L i → X i j = 0) : False := by
 have mono : ∀ n, a + n ≤ b → sumR (fun j => c j * X a j) N ≤ sumR (fun j => c j * X (a + n) j) N := by
  intro n
  induction n with
  | zero => intro _; simp
  | succ n ih =>
   intro hn
   have h := hs (a + n) (by omega) (by omega)
   have := h.rises
   have h1 := Rat.mul_nonneg h.t0 (show 0 ≤ G (a + n) (R (a + n)) by have := h.gr; grind)
   have := ih (by omega)
   rw [show a + (n + 1) = a + n + 1 by omega]
   grind
 have mono2 : ∀ n, a + n ≤ b → sumR (fun j => c j * X (b - n) j) N ≤ sumR (fun j => c j * X b j) N := by
  intro n
  induction n with
  | zero => intro _; simp
  | succ n ih =>
   intro hn
   have h := hs (b - (n + 1)) (by omega) (by omega)
   have := h.rises
   have h1 := Rat.mul_nonneg h.t0 (show 0 ≤ G (b - (n + 1)) (R (b - (n + 1))) by have := h.gr; grind)
   have h2 := ih (by omega)
   rw [show b - (n + 1) + 1 = b - n by omega] at this
   grind
 have hw : sumR (fun j => c j * X b j) N = sumR (fun j => c j * X a j) N := sumR_congr fun j _ => by rw [hX j]
 have ht : ∀ i, a ≤ i → i < b → T i = 0 := by
  intro i h1 h2
  have h := hs i h1 h2
  have e := h.rises
  have m1 := mono (i - a) (by omega)
  have m2 := mono2 (b - (i + 1)) (by omega)
  rw [show a + (i - a) = i by omega] at m1
  rw [show b - (b - (i + 1)) = i + 1 by omega] at m2
  have hg := h.gr
  have h0 := h.t0
  have hle : T i * G i (R i) ≤ 0 := by grind
  rcases Rat.le_iff_lt_or_eq.1 h0 with hp | he
  ·have := Rat.mul_pos hp hg; grind
  ·exact he.symm
 have hx : ∀ n, a + n ≤ b → ∀ j, X (a + n) j = X a j := by
  intro n
  induction n with
  | zero => intro _ j; rfl
  | succ n ih =>
   intro hn j
   have := (hs (a + n) (by omega) (by omega)).step j
   rw [ht (a + n) (by omega) (by omega), ih (by omega) j] at this
   rw [show a + (n + 1) = a + n + 1 by omega, this]; grind
 have hx' : ∀ i, a ≤ i → i ≤ b → ∀ j, X i j = X a j := fun i h1 h2 j => by have := hx (i - a) (by omega) j; rwa [show a + (i - a) = i by omega] at this
 let F : Nat → Prop := fun j => (∃ i, a ≤ i ∧ i ≤ b ∧ j ∈ L i) ∧ (∃ i, a ≤ i ∧ i ≤ b ∧ j ∉ L i)
 have hF0 : ∀ j, F j → X a j = 0 := by
  rintro j ⟨_, i, h1, h2, h3⟩
  rw [← hx' i h1 h2 j]; exact hXo i h1 h2 j h3
 have hin : ∀ j, F j → ∃ i, a ≤ i ∧ i < b ∧ R i = j := by
  rintro j ⟨⟨i, h1, h2, h3⟩, k, h4, h5, h6⟩
  have key : ∀ i k, a ≤ k → k ≤ i → i ≤ b → j ∉ L k → j ∈ L i → ∃ e, a ≤ e ∧ e < b ∧ R e = j := by
   intro i k hk hki hi h0 h1
   obtain ⟨e, e1, e2, e3, e4⟩ := turn_up (P := fun i => j ∈ L i) hki h0 h1
   refine ⟨e, by omega, by omega, ?_⟩
   have := ((hs e (by omega) (by omega)).mem j).1 e4
   rcases this with ⟨q, _⟩ | q
   ·exact absurd q e3
   ·exact q.symm
  by_cases ha : j ∈ L a
  ·exact key b k h4 h5 (Nat.le_refl _) h6 ((hL j).1 ha)
  ·exact key i a (Nat.le_refl _) h1 h2 ha h3
 have hout : ∀ j, F j → ∃ i, a ≤ i ∧ i < b ∧ S i = j := by
  rintro j ⟨⟨i, h1, h2, h3⟩, k, h4, h5, h6⟩
  have key : ∀ i k, a ≤ k → k ≤ i → i ≤ b → j ∈ L k → j ∉ L i → ∃ e, a ≤ e ∧ e < b ∧ S e = j := by
   intro i k hk hki hi h0 h1
   obtain ⟨e, e1, e2, e3, e4⟩ := turn_up (P := fun i => j ∉ L i) hki (fun h => h h0) h1
   refine ⟨e, by omega, by omega, ?_⟩
   have hje : j ∈ L e := Classical.byContradiction e3
   apply Classical.byContradiction
   intro hne
   exact e4 (((hs e (by omega) (by omega)).mem j).2 (Or.inl ⟨hje, fun q => hne q.symm⟩))
  by_cases ha : j ∈ L a
  ·exact key k a (Nat.le_refl _) h4 h5 ha h6
  ·exact key b i h1 h2 (Nat.le_refl _) h3 (fun q => ha ((hL j).2 q))
 have hFN : ∀ j, F j → j < N := by
  intro j hj
  obtain ⟨i, h1, h2, rfl⟩ := hin j hj
  exact (hs i h1 h2).rN
 have hFR : F (R a) := by
  have h := hs a (Nat.le_refl _) hab
  exact ⟨⟨a + 1, by omega, by omega, (h.mem _).2 (Or.inr rfl)⟩, a, by omega, by omega, h.rin⟩
 obtain ⟨q, hq, hmax⟩ : ∃ q, F q ∧ ∀ j, F j → j ≤ q := by
  have : ∀ n, (∃ j, F j ∧ N ≤ j + n) → ∃ q, F q ∧ ∀ j, F j → j ≤ q := by
   intro n
   induction n with
   | zero => rintro ⟨j, h1, h2⟩; have := hFN j h1; omega
   | succ n ih =>
    rintro ⟨j, h1, h2⟩
    by_cases hh : ∃ k, F k ∧ N ≤ k + n
    ·exact ih hh
    ·refine ⟨j, h1, fun k hk => ?_⟩
     apply Classical.byContradiction
     intro hlt
     exact hh ⟨k, hk, by omega⟩
  exact this N ⟨_, hFR, by omega⟩
 obtain ⟨i, hi1, hi2, hiS⟩ := hout q hq
 obtain ⟨k, hk1, hk2, hkR⟩ := hin q hq
 have hD := hs i hi1 hi2
 have hE := hs k hk1 hk2
 have hpos : 0 < sumR (fun j => G k j * D i j) N := by
  rw [← hD.worth hE.gy, hD.gain]; exact hD.gr
 obtain ⟨j, hjN, hj⟩ := sumR_pos hpos
 have hg0 : G k j ≠ 0 := fun e => by rw [e] at hj; grind
 have hd0 : D i j ≠ 0 := fun e => by rw [e] at hj; grind
 have hjE : j ∉ L k := fun h => hg0 (hE.g0 j h)
 have hjD : j ∈ L i ∨ j = R i := by
  apply Classical.byContradiction
  intro h
  exact hd0 (hD.doff j (fun q => h (Or.inl q)) (fun q => h (Or.inr q)))
 have hjF : F j := by
  refine ⟨?_, k, by omega, by omega, hjE⟩
  rcases hjD with h | h
  ·exact ⟨i, by omega, by omega, h⟩
  ·exact ⟨i + 1, by omega, by omega, (hD.mem j).2 (Or.inr h)⟩
 have hjq := hmax j hjF
 have hdq : D i q < 0 := by rw [← hiS]; exact hD.ds
 have hgq : 0 < G k q := by rw [← hkR]; exact hE.gr
 by_cases e : j = q
 ·subst e
  have := Rat.mul_pos hgq (show 0 < -(D i j) by grind)
  grind
 ·have hlt : j < R k := by omega
  have hgj := hE.glt j hlt
  have hdj : D i j < 0 := by
   apply Classical.byContradiction
   intro h
   have := Rat.mul_nonneg (show 0 ≤ -(G k j) by grind) (show 0 ≤ D i j by grind)
   grind
  have hjl : j ∈ L i := by
   rcases hjD with h | h
   ·exact h
   ·rw [h, hD.dr] at hdj; grind
  have hmin := (hD.tmin j hjl hdj).2
  rw [ht i hi1 hi2, hx' i hi1 (by omega) j, hF0 j hjF] at hmin
  have := hmin (by grind)
  omega
end
theorem pig : ∀ (n : Nat) (f : Nat → Nat), (∀ i, i ≤ n → f i < n) → ∃ i j, i < j ∧ j ≤ n ∧ f i = f j := by
 intro n
 induction n with
 | zero => intro f h; have := h 0 (by omega); omega
 | succ n ih =>
  intro f h
  by_cases hx : ∃ i, i ≤ n ∧ f i = f (n + 1)
  ·obtain ⟨i, hi, e⟩ := hx; exact ⟨i, n + 1, by omega, by omega, e⟩
  ·have hne : ∀ i, i ≤ n → f i ≠ f (n + 1) := fun i hi e => hx ⟨i, hi, e⟩
   obtain ⟨i, j, hij, hj, e⟩ := ih (fun i => if f i = n then f (n + 1) else f i) (fun i hi => by
    have := h i (by omega); have := h (n + 1) (by omega); have := hne i hi
    split <;> omega)
   refine ⟨i, j, hij, by omega, ?_⟩
   have h1 := hne i (by omega); have h2 := hne j (by omega)
   split at e <;> split at e <;> omega
end Go.Proofs.YtjcdkbalhleeeaaGreatDoor

namespace Go.Proofs.YtjcdkbalhleeeaaGreatDoor
theorem dtGo_map {A : Nat → Int} {f : Nat → Nat} {g h : List Nat → Int} (hg : ∀ l, g l = h (l.map f)) : ∀ (cs pre : List Nat) (s : Int), dtGo (fun j => A (f j)) g pre s cs = dtGo A h (pre.map f) s (cs.map f)
 | [], _, _ => rfl
 | c :: cs, pre, s => by
  rw [dtGo, List.map_cons, dtGo, hg, dtGo_map hg cs, List.map_append, List.map_append]; rfl
theorem dt_cols {A : Nat → Nat → Int} {f : Nat → Nat} : ∀ {rs : List Nat} (cs : List Nat), dt (fun i j => A i (f j)) rs cs = dt A rs (cs.map f)
 | [], _ => rfl
 | r :: rs, cs => by
  rw [dt, dt]
  exact dtGo_map (fun l => dt_cols l) cs [] 1
set_option maxHeartbeats 1000000 in
theorem dt_adj (A : Nat → Nat → Int) {rs u v : List Nat} {a b : Nat} (h4 : rs.length ≤ 4) (hl : (u ++ a :: b :: v).length = rs.length) : dt A rs (u ++ a :: b :: v) = -dt A rs (u ++ b :: a :: v) := by
 simp at hl
 rcases (show rs.length = 2 ∨ rs.length = 3 ∨ rs.length = 4 by omega) with h | h | h
 ·obtain ⟨r0, r1, rfl⟩ := list_len2 h
  obtain rfl : u = [] := List.eq_nil_of_length_eq_zero (by omega)
  obtain rfl : v = [] := List.eq_nil_of_length_eq_zero (by simp at hl; first | omega | simp [hl])
  simp [dt2]; grind
 ·obtain ⟨r0, r1, r2, rfl⟩ := list_len3 h
  rcases u with _ | ⟨u0, u⟩
  ·obtain ⟨v0, rfl⟩ : ∃ v0, v = [v0] := List.length_eq_one_iff.1 (by simp at hl; omega)
   simp [dt3]; grind
  ·obtain rfl : u = [] := List.eq_nil_of_length_eq_zero (by simp at hl; omega)
   obtain rfl : v = [] := List.eq_nil_of_length_eq_zero (by simp at hl; omega)
   simp [dt3]; grind
 ·obtain ⟨r0, r1, r2, r3, rfl⟩ := list_len4 h
  rcases u with _ | ⟨u0, _ | ⟨u1, u⟩⟩
  ·obtain ⟨v0, v1, rfl⟩ := list_len2 (l := v) (by simp at hl; omega)
   simp [dt4, dt3]; grind
  ·obtain ⟨v0, rfl⟩ : ∃ v0, v = [v0] := List.length_eq_one_iff.1 (by simp at hl; omega)
   simp [dt4, dt3]; grind
  ·obtain rfl : u = [] := List.eq_nil_of_length_eq_zero (by simp at hl; omega)
   obtain rfl : v = [] := List.eq_nil_of_length_eq_zero (by simp at hl; omega)
   simp [dt4, dt3]; grind
theorem dt_ins (A : Nat → Nat → Int) {rs w : List Nat} {r : Nat} (h4 : rs.length ≤ 4) (hl : w.length + 1 = rs.length) : ∀ i, i ≤ w.length → (dt A rs (w.take i ++ r :: w.drop i)).natAbs = (dt A rs (r :: w)).natAbs := by
 intro i
 induction i with
 | zero => intro _; rfl
 | succ i ih =>
  intro hi
  rw [← ih (by omega)]
  have h1 : i < w.length := by omega
  rw [List.take_succ_eq_append_getElem h1, List.append_assoc, List.singleton_append, dt_adj A h4 (by simp; omega), Int.natAbs_neg]
  rw [← List.drop_eq_getElem_cons h1]
def insN (w : List Nat) (r : Nat) : List Nat := w.takeWhile (fun j => decide (j < r)) ++ r :: w.dropWhile (fun j => decide (j < r))
theorem insN_take (w : List Nat) (r : Nat) : insN w r = w.take (w.takeWhile (fun j => decide (j < r))).length ++ r :: w.drop (w.takeWhile (fun j => decide (j < r))).length := by
 unfold insN
 have h : w.takeWhile (fun j => decide (j < r)) ++ w.dropWhile (fun j => decide (j < r)) = w := List.takeWhile_append_dropWhile
 have gen : ∀ a b w : List Nat, a ++ b = w → w.take a.length = a ∧ w.drop a.length = b := by rintro a b _ rfl; simp
 obtain ⟨h1, h2⟩ := gen _ _ _ h
 rw [h1, h2]
theorem mem_insN {w : List Nat} {r j : Nat} : j ∈ insN w r ↔ j ∈ w ∨ j = r := by
 have h : w.takeWhile (fun j => decide (j < r)) ++ w.dropWhile (fun j => decide (j < r)) = w := List.takeWhile_append_dropWhile
 unfold insN
 conv => rhs; rw [← h]
 simp only [List.mem_append, List.mem_cons]
 constructor
 ·rintro (h | h | h)
  ·exact Or.inl (Or.inl h)
  ·exact Or.inr h
  ·exact Or.inl (Or.inr h)
 ·rintro ((h | h) | h)
  ·exact Or.inl h
  ·exact Or.inr (Or.inr h)
  ·exact Or.inr (Or.inl h)
theorem length_insN (w : List Nat) (r : Nat) : (insN w r).length = w.length + 1 := by
 rw [insN_take]; simp; omega
theorem insN_pw {w : List Nat} {r : Nat} (h : w.Pairwise (· < ·)) (hr : r ∉ w) : (insN w r).Pairwise (· < ·) := by
 induction w with
 | nil => simp [insN]
 | cons a w ih =>
  rw [List.pairwise_cons] at h
  have har : a ≠ r := fun e => hr (by simp [e])
  by_cases hlt : a < r
  ·have e : insN (a :: w) r = a :: insN w r := by simp [insN, hlt]
   rw [e, List.pairwise_cons]
   refine ⟨fun x hx => ?_, ih h.2 (fun q => hr (by simp [q]))⟩
   rcases mem_insN.1 hx with q | q
   ·exact h.1 x q
   ·omega
  ·have e : insN (a :: w) r = r :: a :: w := by simp [insN, hlt]
   rw [e, List.pairwise_cons, List.pairwise_cons]
   refine ⟨fun x hx => ?_, h.1, h.2⟩
   rcases List.mem_cons.1 hx with q | q
   ·omega
   ·have := h.1 x q; omega
def qOf (p : PG) (r : Nat) : PG := ⟨p.costs, (List.range p.rows.length).map fun i => ((p.rows.getD i ([], 0)).1, hasZ p i r)⟩
theorem qOf_len (p : PG) (r : Nat) : (qOf p r).rows.length = p.rows.length := by simp [qOf]
theorem qOf_row (p : PG) (r : Nat) {i : Nat} (h : i < p.rows.length) : (qOf p r).rows.getD i ([], 0) = ((p.rows.getD i ([], 0)).1, hasZ p i r) := by simp [qOf, List.getD, h]
theorem qOf_has (p : PG) (r i j : Nat) : hasZ (qOf p r) i j = hasZ p i j := by
 unfold hasZ
 simp only [show (qOf p r).costs = p.costs from rfl]
 by_cases h : i < p.rows.length
 ·rw [qOf_row p r h]
 ·have e1 : (qOf p r).rows.getD i ([], 0) = ([], 0) := by simp [qOf, List.getD, h]
  have e2 : p.rows.getD i ([], 0) = ([], 0) := by simp [List.getD, List.getElem?_eq_none (Nat.le_of_not_lt h)]
  rw [e1, e2]
theorem qOf_most (p : PG) (r : Nat) {i : Nat} (h : i < p.rows.length) : (mosts (qOf p r)).getD i 0 = hasZ p i r := by rw [getD_mosts, qOf_row p r h]
theorem qOf_may {p : PG} (hp : mayPB p = true) (r : Nat) : mayPB (qOf p r) = true := by
 obtain ⟨h1, h2, h3, h4, h5, h6⟩ := mayPB_iff.1 hp
 refine mayPB_iff.2 ⟨h1, h2, by rw [qOf_len]; exact h3, by rw [qOf_len]; exact h4, h5, ?_⟩
 rw [List.all_eq_true]
 intro x hx
 simp only [qOf, List.mem_map, List.mem_range] at hx
 obtain ⟨i, hi, rfl⟩ := hx
 obtain ⟨k1, k2, k3⟩ := mayPB_row hp hi
 have hb := hasZ_bound hp i r
 unfold rowB
 simp only [Bool.and_eq_true, decide_eq_true_eq, smallB_one]
 refine ⟨?_, ⟨by simpa using hb.1, by simpa using hb.2⟩, ?_⟩
 ·show (p.rows.getD i ([], 0)).1.length = p.costs.length
  simpa [List.getD, List.getElem?_eq_getElem hi] using k1
 ·simpa [List.getD, List.getElem?_eq_getElem hi] using k3
theorem qOf_right {p : PG} {l : List Nat} (h : RightL p l) (r : Nat) : RightL (qOf p r) l := ⟨by rw [qOf_len]; exact h.len, fun j hj => by rw [qOf_len]; exact h.lt j hj, h.pw⟩
theorem qOf_den {p : PG} {l : List Nat} (h : l.length = p.rows.length) (r : Nat) : denZ (qOf p r) l = denZ p l := by
 unfold denZ dtm
 rw [qOf_len]
 refine dt_congr2 fun i hi j hj => ?_
 have hj' : j < p.rows.length := by simpa using hj
 unfold matD
 rw [if_pos (by omega), if_pos (by omega), qOf_has]
def ints (l : List Nat) : List Int := l.map Int.ofNat
theorem nats_ints (l : List Nat) : nats (ints l) = l := by unfold nats ints; rw [List.map_map]; conv => rhs; rw [← List.map_id l]
                                                           apply List.map_congr_left; intro x _; simp
theorem rising_ints {last : Int} {n : Nat} {l : List Nat} (h : ∀ j ∈ l, last < j ∧ j < n) (hp : l.Pairwise (· < ·)) : risingB last n (ints l) = true := by
 induction l generalizing last with
 | nil => rfl
 | cons a l ih =>
  rw [List.pairwise_cons] at hp
  have := h a (by simp)
  simp only [ints, List.map_cons, risingB, Bool.and_eq_true, decide_eq_true_eq]
  refine ⟨by simpa using this.1, by simp; omega, ih (fun j hj => ⟨?_, (h j (by simp [hj])).2⟩) hp.2⟩
  have := hp.1 j hj; simp; omega
theorem right_ints {p : PG} {l : List Nat} (h : RightL p l) : rightA p (ints l) = true := by
 simp only [rightA, Bool.and_eq_true, decide_eq_true_eq]
 exact ⟨by unfold ints; simpa using h.len, rising_ints (fun j hj => ⟨by omega, h.lt j hj⟩) h.pw⟩
theorem look_ints {p : PG} {l : List Nat} (hp : mayPB p = true) (h : RightL p l) (hd : denZ p l ≠ 0) : lookE p (ints l) = 0 := by
 unfold lookE; rw [if_neg (by simp [hp]), if_neg (by simp [right_ints h]), nats_ints, if_neg hd]
def inZ (gs : List Int) : Option Nat := gs.findIdx? (fun n => decide (0 < n))
def nearB (xs : List Int) (l : List Nat) (less : List Int) (k : Nat) : Option Nat → Bool
 | none => true
 | some q => decide (xs.getD (l.getD k 0) 0 * less.getD q 0 < xs.getD (l.getD q 0) 0 * less.getD k 0)
def outZ (xs : List Int) (l : List Nat) (less : List Int) (n : Nat) : Option Nat :=
 (List.range n).foldl (fun o k => if 0 < less.getD k 0 ∧ nearB xs l less k o = true then some k else o) none
def lookN (p : PG) (l : List Nat) : CO := lookC p (ints l)
def lessZ (p : PG) (l : List Nat) (r : Nat) : List Int := l.map fun j => (lookN (qOf p r) l).xs.getD j 0
def nxtZ (p : PG) (l : List Nat) : Option (List Nat) :=
 match inZ (lookN p l).gs with
 | none => none
 | some r => match outZ (lookN p l).xs l (lessZ p l r) l.length with
  | none => none
  | some k => some (insN (l.eraseIdx k) r)
def kindZ (p : PG) (l : List Nat) : Int :=
 match inZ (lookN p l).gs with
 | none => 1
 | some r => match outZ (lookN p l).xs l (lessZ p l r) l.length with
  | none => 2
  | some _ => 0
theorem inZ_some {gs : List Int} {r : Nat} (h : inZ gs = some r) : r < gs.length ∧ 0 < gs.getD r 0 ∧ ∀ j, j < r → gs.getD j 0 ≤ 0 := by
 unfold inZ at h
 rw [List.findIdx?_eq_some_iff_getElem] at h
 obtain ⟨h1, h2, h3⟩ := h
 refine ⟨h1, by simpa [List.getD, List.getElem?_eq_getElem h1] using h2, fun j hj => ?_⟩
 have := h3 j hj
 have hj' : j < gs.length := by omega
 simp at this
 simpa [List.getD, List.getElem?_eq_getElem hj'] using this
theorem inZ_none {gs : List Int} (h : inZ gs = none) : ∀ j, gs.getD j 0 ≤ 0 := by
 unfold inZ at h
 rw [List.findIdx?_eq_none_iff] at h
 intro j
 by_cases hj : j < gs.length
 ·have := h gs[j] (List.getElem_mem hj)
  simp at this
  simpa [List.getD, List.getElem?_eq_getElem hj] using this
 ·simp [List.getD, List.getElem?_eq_none (Nat.le_of_not_lt hj)]
theorem outZ_succ (xs : List Int) (l : List Nat) (less : List Int) (n : Nat) : outZ xs l less (n + 1) =
    if 0 < less.getD n 0 ∧ nearB xs l less n (outZ xs l less n) = true then some n else outZ xs l less n := by
 unfold outZ; rw [List.range_succ, List.foldl_append]; rfl
theorem outZ_none {xs : List Int} {l : List Nat} {less : List Int} : ∀ {n : Nat}, outZ xs l less n = none ↔ ∀ k, k < n → less.getD k 0 ≤ 0
 | 0 => by simp [outZ]
 | n + 1 => by
  rw [outZ_succ]
  constructor
  ·intro h
   split at h
   ·simp at h
   ·rename_i hh
    rw [h] at hh
    have := outZ_none.1 h
    intro k hk
    by_cases e : k = n
    ·subst e; simp [nearB] at hh; exact hh
    ·exact this k (by omega)
  ·intro h
   rw [if_neg (fun q => by have := h n (by omega); omega)]
   exact outZ_none.2 fun k hk => h k (by omega)
theorem outZ_some {xs : List Int} {l : List Nat} {less : List Int} (hx : ∀ j, 0 ≤ xs.getD j 0) : ∀ {n q : Nat}, outZ xs l less n = some q →
    q < n ∧ 0 < less.getD q 0 ∧ ∀ k, k < n → 0 < less.getD k 0 → xs.getD (l.getD q 0) 0 * less.getD k 0 ≤ xs.getD (l.getD k 0) 0 * less.getD q 0 ∧ (xs.getD (l.getD q 0) 0 * less.getD k 0 = xs.getD (l.getD k 0) 0 * less.getD q 0 → q ≤ k)
 | 0, q, h => by simp [outZ] at h
 | n + 1, q, h => by
  rw [outZ_succ] at h
  split at h
  ·rename_i hh
   obtain ⟨h1, h2⟩ := hh
   simp at h
   subst h
   refine ⟨by omega, h1, fun k hk hp => ?_⟩
   by_cases e : k = n
   ·subst e; exact ⟨by omega, fun _ => Nat.le_refl _⟩
   ·cases ho : outZ xs l less n with
    | none => have := outZ_none.1 ho k (by omega); omega
    | some q =>
     rw [ho] at h2
     simp only [nearB, decide_eq_true_eq] at h2
     obtain ⟨a1, a2, a3⟩ := outZ_some hx ho
     obtain ⟨b1, b2⟩ := a3 k (by omega) hp
     have c1 := Int.mul_lt_mul_of_pos_right h2 hp
     have c2 := Int.mul_le_mul_of_nonneg_right b1 (show 0 ≤ less.getD n 0 by omega)
     have c3 : xs.getD (l.getD n 0) 0 * less.getD k 0 * less.getD q 0 < xs.getD (l.getD k 0) 0 * less.getD n 0 * less.getD q 0 := by
      have e1 : xs.getD (l.getD n 0) 0 * less.getD q 0 * less.getD k 0 = xs.getD (l.getD n 0) 0 * less.getD k 0 * less.getD q 0 := by ac_rfl
      have e2 : xs.getD (l.getD q 0) 0 * less.getD n 0 * less.getD k 0 = xs.getD (l.getD q 0) 0 * less.getD k 0 * less.getD n 0 := by ac_rfl
      have e3 : xs.getD (l.getD k 0) 0 * less.getD q 0 * less.getD n 0 = xs.getD (l.getD k 0) 0 * less.getD n 0 * less.getD q 0 := by ac_rfl
      omega
     have := Int.lt_of_mul_lt_mul_right c3 (by omega)
     exact ⟨by omega, fun e => by omega⟩
  ·rename_i hh
   obtain ⟨a1, a2, a3⟩ := outZ_some hx h
   refine ⟨by omega, a2, fun k hk hp => ?_⟩
   by_cases e : k = n
   ·subst e
    rw [h] at hh
    simp only [nearB, decide_eq_true_eq] at hh
    have : ¬ (xs.getD (l.getD k 0) 0 * less.getD q 0 < xs.getD (l.getD q 0) 0 * less.getD k 0) := fun q => hh ⟨hp, q⟩
    exact ⟨by omega, fun _ => by omega⟩
   ·exact a3 k (by omega) hp
end Go.Proofs.YtjcdkbalhleeeaaGreatDoor
