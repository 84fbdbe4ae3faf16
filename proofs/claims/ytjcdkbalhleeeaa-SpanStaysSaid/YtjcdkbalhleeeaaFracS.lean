/-
  Plain words for chapter 1: what the functions on fractions and points compute, as plain functions on lists of whole numbers. No program in sight; no condition.
-/
namespace Go.Proofs.Ytjcdkbalhleeeaa

/-- Are all numbers from -m to m? -/
def smallB (m : Int) (l : List Int) : Bool := l.all fun n => decide (-m ≤ n) && decide (n ≤ m)
/-- The greatest number that divides den and all of l. -/
def comm (g : Nat) (l : List Int) : Nat := l.foldl (fun g n => Nat.gcd g n.natAbs) g
/-- Parts within their limits. -/
def rightB (l : List Int) (d : Int) : Bool := decide (1 ≤ d) && (decide (d ≤ 1073741824) && (smallB 1073741824 l && decide (l.length ≤ 8)))
/-- May a point be? -/
def mayB (l : List Int) (d : Int) : Bool := rightB l d && decide (comm d.natAbs l = 1)
/-- The divisor with den's sign. -/
def sgcd (l : List Int) (d : Int) : Int := if d < 0 then -(comm d.natAbs l : Int) else comm d.natAbs l
def divs (l : List Int) (g : Int) : List Int := l.map fun n => n.tdiv g
/-- A point's making: the error (0: none). -/
def ptE (l : List Int) (d : Int) : Int :=
  if d = 0 ∨ smallB 4611686018427387904 l = false ∨ smallB 4611686018427387904 [d] = false then 3
  else if rightB (divs l (sgcd l d)) (d.tdiv (sgcd l d)) then 0 else 1
def ptN (l : List Int) (d : Int) : List Int := if ptE l d = 0 then divs l (sgcd l d) else []
def ptD (l : List Int) (d : Int) : Int := if ptE l d = 0 then d.tdiv (sgcd l d) else 0
def frN (n d : Int) : Int := (ptN [n] d).headD 0
def lessB (a b c d : Int) : Bool := mayB [a] b && (mayB [c] d && decide (a * d < c * b))

theorem smallB_nil (m : Int) : smallB m [] = true := rfl
theorem smallB_take {m : Int} {l : List Int} {k : Nat} (h : k < l.length) : smallB m (l.take (k + 1)) = (smallB m (l.take k) && (decide (-m ≤ l[k]) && decide (l[k] ≤ m))) := by
  unfold smallB; rw [List.take_succ_eq_append_getElem h, List.all_append]; simp
theorem smallB_false {m : Int} {l : List Int} {k : Nat} (h : k < l.length) (hn : (decide (-m ≤ l[k]) && decide (l[k] ≤ m)) = false) : smallB m l = false := by
  unfold smallB; rw [List.all_eq_false]; exact ⟨l[k], List.getElem_mem h, by simpa using hn⟩
theorem smallB_at {m : Int} {l : List Int} (hs : smallB m l = true) {k : Nat} (h : k < l.length) : -m ≤ l[k] ∧ l[k] ≤ m := by
  unfold smallB at hs; rw [List.all_eq_true] at hs
  simpa using hs l[k] (List.getElem_mem h)
theorem smallB_mem {m : Int} {l : List Int} (hs : smallB m l = true) {n : Int} (h : n ∈ l) : -m ≤ n ∧ n ≤ m := by
  unfold smallB at hs; rw [List.all_eq_true] at hs
  simpa using hs n h
theorem smallB_iff {m : Int} {l : List Int} : smallB m l = true ↔ ∀ n ∈ l, -m ≤ n ∧ n ≤ m := by
  unfold smallB; rw [List.all_eq_true]; simp
theorem smallB_one (m d : Int) : smallB m [d] = (decide (-m ≤ d) && decide (d ≤ m)) := by simp [smallB]

theorem comm_take (g : Nat) {l : List Int} {k : Nat} (h : k < l.length) : comm g (l.take (k + 1)) = Nat.gcd (comm g (l.take k)) l[k].natAbs := by
  unfold comm; rw [List.take_succ_eq_append_getElem h, List.foldl_append]; rfl
theorem comm_cons (g : Nat) (n : Int) (l : List Int) : comm g (n :: l) = comm (Nat.gcd g n.natAbs) l := rfl
theorem comm_dvd (g : Nat) (l : List Int) : comm g l ∣ g ∧ ∀ n ∈ l, (comm g l : Int) ∣ n := by
  induction l generalizing g with
  | nil => exact ⟨Nat.dvd_refl _, by simp⟩
  | cons n l ih =>
    rw [comm_cons]
    obtain ⟨h1, h2⟩ := ih (Nat.gcd g n.natAbs)
    refine ⟨Nat.dvd_trans h1 (Nat.gcd_dvd_left _ _), ?_⟩
    intro x hx
    rcases List.mem_cons.1 hx with rfl | hx
    · exact Int.ofNat_dvd_left.2 (Nat.dvd_trans h1 (Nat.gcd_dvd_right _ _))
    · exact h2 x hx
theorem comm_great (g : Nat) (l : List Int) (d : Nat) (hg : d ∣ g) (hl : ∀ n ∈ l, (d : Int) ∣ n) : d ∣ comm g l := by
  induction l generalizing g with
  | nil => exact hg
  | cons n l ih =>
    rw [comm_cons]
    exact ih _ (Nat.dvd_gcd hg (Int.ofNat_dvd_left.1 (hl n (by simp)))) fun x hx => hl x (by simp [hx])
theorem comm_pos (g : Nat) (l : List Int) (hg : 0 < g) : 0 < comm g l :=
  Nat.pos_of_dvd_of_pos (comm_dvd g l).1 hg
theorem comm_le (g : Nat) (l : List Int) (hg : 0 < g) : comm g l ≤ g := Nat.le_of_dvd hg (comm_dvd g l).1
theorem comm_bound (g B : Nat) (l : List Int) (hg : g ≤ B) (hl : ∀ n ∈ l, n.natAbs ≤ B) : comm g l ≤ B := by
  induction l generalizing g with
  | nil => exact hg
  | cons n l ih =>
    rw [comm_cons]
    refine ih _ ?_ fun x hx => hl x (by simp [hx])
    rcases Nat.eq_zero_or_pos g with rfl | h0
    · rw [Nat.gcd_zero_left]; exact hl n (by simp)
    · exact Nat.le_trans (Nat.gcd_le_left _ h0) hg
/-- What is left when all are divided has nothing in common. -/
theorem comm_divs (l : List Int) (d : Int) (hd : d ≠ 0) : comm (d.tdiv (sgcd l d)).natAbs (divs l (sgcd l d)) = 1 := by
  have hp : 0 < d.natAbs := Int.natAbs_pos.2 hd
  have hg : 0 < comm d.natAbs l := comm_pos _ _ hp
  obtain ⟨h1, h2⟩ := comm_dvd d.natAbs l
  have hs : (sgcd l d).natAbs = comm d.natAbs l := by unfold sgcd; split <;> simp
  have hsd : (sgcd l d) ∣ d := by rw [← Int.natAbs_dvd_natAbs, hs]; exact h1
  have hsl : ∀ n ∈ l, sgcd l d ∣ n := fun n hn => by
    have := h2 n hn
    rw [Int.ofNat_dvd_left] at this
    rw [← Int.natAbs_dvd_natAbs, hs]; exact this
  have hs0 : sgcd l d ≠ 0 := fun h => by rw [h] at hs; simp at hs; omega
  generalize hk : comm (d.tdiv (sgcd l d)).natAbs (divs l (sgcd l d)) = k
  have hkd := comm_dvd (d.tdiv (sgcd l d)).natAbs (divs l (sgcd l d))
  rw [hk] at hkd
  have hdvd : ∀ x : Int, sgcd l d ∣ x → (k : Int) ∣ x.tdiv (sgcd l d) → ((k * comm d.natAbs l : Nat) : Int) ∣ x := by
    intro x hx hkx
    obtain ⟨y, rfl⟩ := hx
    rw [Int.mul_tdiv_cancel_left _ hs0] at hkx
    obtain ⟨z, rfl⟩ := hkx
    rw [← Int.natAbs_dvd_natAbs]
    refine ⟨z.natAbs, ?_⟩
    rw [Int.natAbs_mul, Int.natAbs_mul, hs, Int.natAbs_natCast, Int.natAbs_natCast]
    ac_rfl
  have hgreat : k * comm d.natAbs l ∣ comm d.natAbs l := by
    refine comm_great _ _ _ ?_ ?_
    · have := hdvd d hsd (Int.ofNat_dvd_left.2 hkd.1)
      rw [Int.ofNat_dvd_left] at this
      exact this
    · intro n hn
      exact hdvd n (hsl n hn) (hkd.2 _ (by unfold divs; exact List.mem_map_of_mem hn))
  have := Nat.le_of_dvd hg hgreat
  have hk0 : k ≠ 0 := by
    intro h
    subst h
    rw [Nat.zero_mul] at hgreat
    have := Nat.eq_zero_of_zero_dvd hgreat
    omega
  have : k * comm d.natAbs l ≤ 1 * comm d.natAbs l := by omega
  have := Nat.le_of_mul_le_mul_right this hg
  omega
theorem divs_neg (l : List Int) (g : Int) : divs l (-g) = (divs l g).map fun n => -n := by
  unfold divs; rw [List.map_map]; apply List.map_congr_left; intro n _; simp [Int.tdiv_neg]
theorem length_divs (l : List Int) (g : Int) : (divs l g).length = l.length := by simp [divs]
theorem sgcd_ne {l : List Int} {d : Int} (hd : d ≠ 0) : sgcd l d ≠ 0 := by
  have := comm_pos d.natAbs l (Int.natAbs_pos.2 hd)
  unfold sgcd; split <;> omega
theorem sgcd_bound {l : List Int} {d : Int} (h : -4611686018427387904 ≤ d) (h' : d ≤ 4611686018427387904) (hd : d ≠ 0) : -4611686018427387904 ≤ sgcd l d ∧ sgcd l d ≤ 4611686018427387904 := by
  have := comm_le d.natAbs l (Int.natAbs_pos.2 hd)
  unfold sgcd; split <;> omega
theorem mul_bound (a b A B : Int) (h1 : -A ≤ a) (h2 : a ≤ A) (h3 : -B ≤ b) (h4 : b ≤ B) : -(A * B) ≤ a * b ∧ a * b ≤ A * B := by
  have h : (a * b).natAbs ≤ A.natAbs * B.natAbs := by
    rw [Int.natAbs_mul]; exact Nat.mul_le_mul (by omega) (by omega)
  have hA : (0 : Int) ≤ A := by omega
  have hB : (0 : Int) ≤ B := by omega
  have e : (A.natAbs * B.natAbs : Nat) = (A * B).natAbs := (Int.natAbs_mul A B).symm
  have hp : 0 ≤ A * B := Int.mul_nonneg hA hB
  rw [e] at h
  omega
theorem tdiv_bound (B : Int) (n g : Int) (h : -B ≤ n) (h' : n ≤ B) : -B ≤ n.tdiv g ∧ n.tdiv g ≤ B := by
  have := Int.natAbs_tdiv_le_natAbs n g
  omega
theorem divs_take {l : List Int} {g : Int} {k : Nat} (h : k < l.length) : divs (l.take (k + 1)) g = divs (l.take k) g ++ [l[k].tdiv g] := by
  unfold divs; rw [List.take_succ_eq_append_getElem h, List.map_append]; rfl
end Go.Proofs.Ytjcdkbalhleeeaa
