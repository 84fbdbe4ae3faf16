/-
  Plain words: the determinant by the first row's numbers, and what holds of it for up to four rows. No program in sight.
-/
import Derived.Test.YtjcdkbalhleeeaaSumS
namespace Go.Proofs.Ytjcdkbalhleeeaa

/-- The determinant of some rows and columns, by the first row's numbers. s is the sign of the next one. -/
def dtGo (A : Nat → Int) (rest : List Nat → Int) (pre : List Nat) (s : Int) : List Nat → Int
  | [] => 0
  | c :: cs => s * A c * rest (pre ++ cs) + dtGo A rest (pre ++ [c]) (-s) cs
def dt (A : Nat → Nat → Int) : List Nat → List Nat → Int
  | [], _ => 1
  | r :: rs, cs => dtGo (A r) (dt A rs) [] 1 cs

theorem dt2 (A : Nat → Nat → Int) (r0 r1 c0 c1 : Nat) : dt A [r0, r1] [c0, c1] = A r0 c0 * A r1 c1 - A r0 c1 * A r1 c0 := by
  simp [dt, dtGo]; grind
theorem dt1 (A : Nat → Nat → Int) (r0 c0 : Nat) : dt A [r0] [c0] = A r0 c0 := by
  simp [dt, dtGo]
theorem dt3 (A : Nat → Nat → Int) (r0 r1 r2 c0 c1 c2 : Nat) : dt A [r0, r1, r2] [c0, c1, c2] =
    A r0 c0 * (A r1 c1 * A r2 c2 - A r1 c2 * A r2 c1) - A r0 c1 * (A r1 c0 * A r2 c2 - A r1 c2 * A r2 c0) + A r0 c2 * (A r1 c0 * A r2 c1 - A r1 c1 * A r2 c0) := by
  simp [dt, dtGo]; grind
theorem dt4 (A : Nat → Nat → Int) (r0 r1 r2 r3 c0 c1 c2 c3 : Nat) : dt A [r0, r1, r2, r3] [c0, c1, c2, c3] =
    A r0 c0 * dt A [r1, r2, r3] [c1, c2, c3] - A r0 c1 * dt A [r1, r2, r3] [c0, c2, c3] + A r0 c2 * dt A [r1, r2, r3] [c0, c1, c3] - A r0 c3 * dt A [r1, r2, r3] [c0, c1, c2] := by
  rw [dt]; simp [dtGo]; grind

/-- What stands at a place behind k steps. -/
def ent (A : Nat → Nat → Int) (k i j : Nat) : Int :=
  if i < k then dt A (List.range k) ((List.range k).set i j) else dt A (List.range k ++ [i]) (List.range k ++ [j])
def lst (A : Nat → Nat → Int) (k : Nat) : Int := dt A (List.range k) (List.range k)

theorem ent_zero (A : Nat → Nat → Int) (i j : Nat) : ent A 0 i j = A i j := by simp [ent, dt1]
theorem lst_zero (A : Nat → Nat → Int) : lst A 0 = 1 := rfl

theorem range1 : List.range 1 = [0] := rfl
theorem range2 : List.range 2 = [0, 1] := rfl
theorem range3 : List.range 3 = [0, 1, 2] := rfl
theorem range4 : List.range 4 = [0, 1, 2, 3] := rfl

theorem lst_ent (A : Nat → Nat → Int) (k : Nat) : lst A (k + 1) = ent A k k k := by
  unfold lst ent
  rw [if_neg (by omega), List.range_succ]
theorem ent_pivot (A : Nat → Nat → Int) (k j : Nat) : ent A (k + 1) k j = ent A k k j := by
  unfold ent
  rw [if_pos (by omega), if_neg (by omega), List.range_succ]
  congr 1
  simp

set_option maxHeartbeats 2000000 in
/-- One step, each row but the pivot's. -/
theorem ent_step (A : Nat → Nat → Int) {k i : Nat} (j : Nat) (hk : k < 4) (hi : i < 4) (hne : i ≠ k) :
    ent A k i j * ent A k k k - ent A k i k * ent A k k j = lst A k * ent A (k + 1) i j := by
  rcases (show k = 0 ∨ k = 1 ∨ k = 2 ∨ k = 3 by omega) with rfl | rfl | rfl | rfl
  · simp only [ent, lst, range1, List.range_zero, List.nil_append, dt1, show ¬ i < 0 by omega, show ¬ (0 : Nat) < 0 by omega, show ¬ i < 0 + 1 by omega, if_false, dt, Nat.zero_add, List.cons_append, dt2]
    grind
  · rcases (show i = 0 ∨ i ≥ 2 by omega) with rfl | hi'
    · simp [ent, lst, range2, dt1, dt2]
      grind
    · simp [ent, lst, range2, dt1, dt2, dt3, show i ≠ 0 by omega, show ¬ i < 2 by omega]
      grind
  · rcases (show i = 0 ∨ i = 1 ∨ i = 3 by omega) with rfl | rfl | rfl
    · simp [ent, lst, range2, range3, dt2, dt3]
      grind
    · simp [ent, lst, range2, range3, dt2, dt3]
      grind
    · simp [ent, lst, range2, range3, dt2, dt3, dt4]
      grind
  · rcases (show i = 0 ∨ i = 1 ∨ i = 2 by omega) with rfl | rfl | rfl
    · simp [ent, lst, range3, range4, dt3, dt4]
      grind
    · simp [ent, lst, range3, range4, dt3, dt4]
      grind
    · simp [ent, lst, range3, range4, dt3, dt4]
      grind
end Go.Proofs.Ytjcdkbalhleeeaa
