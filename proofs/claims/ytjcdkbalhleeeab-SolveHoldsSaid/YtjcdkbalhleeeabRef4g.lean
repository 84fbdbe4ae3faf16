/-
  Walk: the document's Holds computes what the plain words say.
-/
import Derived.Test.YtjcdkbalhleeeabRef4c
import Derived.Test.YtjcdkbalhleeeabRef4f
import Derived.Test.YtjcdkbalhleeeabRef4n
namespace Go.Proofs.Ytjcdkbalhleeeab
open Go.RowKit

theorem ref4_Holds (A : Option Addr) (c : Nat) (A2 : Option Addr) (c2 : Nat) (p : PG) (X : Option Addr) (cx : Nat) (Y : Option Addr) (cy : Nat) (R : Option Addr) (cr : Nat) (a : AN) (w : World)
    (hp : Pg w A c A2 c2 p) (ha : An w X cx Y cy R cr a) :
    Calls Try.prog 24 #[.agg #[.slice A p.costs.length c, .slice A2 p.rows.length c2],
      .agg #[.int .i64 a.kind, .slice X a.xs.length cx, .int .i64 a.xd, .slice Y a.ys.length cy, .int .i64 a.yd, .slice R a.rs.length cr, .int .i64 a.rd, .int .i64 a.wn, .int .i64 a.wd]] w
      fun e w' => e = .returned (.bool (holdsB p a)) ∧ Below w.heap.size w w' := by
  obtain ⟨kd, xs, xd, ys, yd, rs, rd, wn, wd⟩ := a
  obtain ⟨hx, hy, hr⟩ := ha
  simp only at hx hy hr ⊢
  cases hm : mayPB p with
  | false =>
    rw [show holdsB p ⟨kd, xs, xd, ys, yd, rs, rd, wn, wd⟩ = false by simp [holdsB, hm]]
    exact ref4_no _ _ _ _ _ _ _ _ _ _ _ _ _ _ _ _ _ _ _ _ _ hp hm
  | true =>
  by_cases h1 : kd = 1
  · subst h1
    rw [show holdsB p ⟨1, xs, xd, ys, yd, rs, rd, wn, wd⟩ = bestB p ⟨1, xs, xd, ys, yd, rs, rd, wn, wd⟩ by simp [holdsB, hm]]
    by_cases hw : wn = 0
    · subst hw
      cases q1 : emptyB rs rd with
      | false => rw [show bestB p ⟨1, xs, xd, ys, yd, rs, rd, 0, wd⟩ = false by simp [bestB, q1]]; refine ref4_B1z A c A2 c2 p X cx Y cy R cr xs xd ys yd rs rd wd w ?_ ?_ ?_ ?_ ?_ ?_ <;> assumption
      | true =>
      cases q2 : goesB p xs xd with
      | false => rw [show bestB p ⟨1, xs, xd, ys, yd, rs, rd, 0, wd⟩ = false by simp [bestB, q2]]; refine ref4_B2z A c A2 c2 p X cx Y cy R cr xs xd ys yd rs rd wd w ?_ ?_ ?_ ?_ ?_ ?_ ?_ <;> assumption
      | true =>
      cases q4 : aboveB ys yd p.rows.length with
      | false => rw [show bestB p ⟨1, xs, xd, ys, yd, rs, rd, 0, wd⟩ = false by simp [bestB, q4]]; refine ref4_B3z A c A2 c2 p X cx Y cy R cr xs xd ys yd rs rd wd w ?_ ?_ ?_ ?_ ?_ ?_ ?_ ?_ <;> assumption
      | true => refine ref4_B4z A c A2 c2 p X cx Y cy R cr xs xd ys yd rs rd wd w ?_ ?_ ?_ ?_ ?_ ?_ ?_ ?_ <;> assumption
    · have hz : (wn == 0) = false := by simpa using hw
      cases q1 : emptyB rs rd with
      | false => rw [show bestB p ⟨1, xs, xd, ys, yd, rs, rd, wn, wd⟩ = false by simp [bestB, q1]]; refine ref4_B1n A c A2 c2 p X cx Y cy R cr xs xd ys yd rs rd wn wd w ?_ ?_ ?_ ?_ ?_ ?_ ?_ <;> assumption
      | true =>
      cases q2 : goesB p xs xd with
      | false => rw [show bestB p ⟨1, xs, xd, ys, yd, rs, rd, wn, wd⟩ = false by simp [bestB, q2]]; refine ref4_B2n A c A2 c2 p X cx Y cy R cr xs xd ys yd rs rd wn wd w ?_ ?_ ?_ ?_ ?_ ?_ ?_ ?_ <;> assumption
      | true =>
      cases q4 : aboveB ys yd p.rows.length with
      | false => rw [show bestB p ⟨1, xs, xd, ys, yd, rs, rd, wn, wd⟩ = false by simp [bestB, q4]]; refine ref4_B3n A c A2 c2 p X cx Y cy R cr xs xd ys yd rs rd wn wd w ?_ ?_ ?_ ?_ ?_ ?_ ?_ ?_ ?_ <;> assumption
      | true => refine ref4_B4n A c A2 c2 p X cx Y cy R cr xs xd ys yd rs rd wn wd w ?_ ?_ ?_ ?_ ?_ ?_ ?_ ?_ ?_ <;> assumption
  by_cases h2 : kd = 2
  · subst h2
    rw [show holdsB p ⟨2, xs, xd, ys, yd, rs, rd, wn, wd⟩ = endlessB p ⟨2, xs, xd, ys, yd, rs, rd, wn, wd⟩ by simp [holdsB, hm]]
    cases q1 : emptyB ys yd with
    | false =>
      rw [show endlessB p ⟨2, xs, xd, ys, yd, rs, rd, wn, wd⟩ = false by simp [endlessB, q1]]
      by_cases hw : wn = 0
      · subst hw; refine ref4_E1z A c A2 c2 p X cx Y cy R cr xs xd ys yd rs rd wd w ?_ ?_ ?_ ?_ ?_ ?_ <;> assumption
      · have hz : (wn == 0) = false := by simpa using hw
        refine ref4_E1n A c A2 c2 p X cx Y cy R cr xs xd ys yd rs rd wn wd w ?_ ?_ ?_ ?_ ?_ ?_ ?_ <;> assumption
    | true =>
    by_cases hw : wn = 0
    rotate_left
    · have hz : (wn == 0) = false := by simpa using hw
      rw [show endlessB p ⟨2, xs, xd, ys, yd, rs, rd, wn, wd⟩ = false by simp [endlessB, hw]]
      refine ref4_E2n A c A2 c2 p X cx Y cy R cr xs xd ys yd rs rd wn wd w ?_ ?_ ?_ ?_ ?_ ?_ ?_ <;> assumption
    subst hw
    by_cases hw : wd = 0
    rotate_left
    · have hz : (wd == 0) = false := by simpa using hw
      rw [show endlessB p ⟨2, xs, xd, ys, yd, rs, rd, 0, wd⟩ = false by simp [endlessB, hw]]
      refine ref4_E2z A c A2 c2 p X cx Y cy R cr xs xd ys yd rs rd wd w ?_ ?_ ?_ ?_ ?_ ?_ ?_ <;> assumption
    subst hw
    cases q2 : goesB p xs xd with
    | false => rw [show endlessB p ⟨2, xs, xd, ys, yd, rs, rd, 0, 0⟩ = false by simp [endlessB, q2]]; refine ref4_E3 A c A2 c2 p X cx Y cy R cr xs xd ys yd rs rd w ?_ ?_ ?_ ?_ ?_ ?_ ?_ <;> assumption
    | true =>
    cases q4 : aboveB rs rd p.costs.length with
    | false => rw [show endlessB p ⟨2, xs, xd, ys, yd, rs, rd, 0, 0⟩ = false by simp [endlessB, q4]]; refine ref4_E4 A c A2 c2 p X cx Y cy R cr xs xd ys yd rs rd w ?_ ?_ ?_ ?_ ?_ ?_ ?_ ?_ <;> assumption
    | true =>
    by_cases h5 : rd = 1
    rotate_left
    · have hz : (rd == 1) = false := by simpa using h5
      rw [show endlessB p ⟨2, xs, xd, ys, yd, rs, rd, 0, 0⟩ = false by simp [endlessB, h5]]
      refine ref4_E5 A c A2 c2 p X cx Y cy R cr xs xd ys yd rs rd w ?_ ?_ ?_ ?_ ?_ ?_ ?_ ?_ ?_ <;> assumption
    subst h5
    rw [show endlessB p ⟨2, xs, xd, ys, yd, rs, 1, 0, 0⟩ = (p.rows.all (fun r => decide (dot r.1 rs ≤ 0)) && decide (0 < dot p.costs rs)) by simp [endlessB, q1, q2, q4]]
    refine ref4_E6 A c A2 c2 p X cx Y cy R cr xs xd ys yd rs w ?_ ?_ ?_ ?_ ?_ ?_ ?_ ?_ <;> assumption
  by_cases h3 : kd = 3
  · subst h3
    rw [show holdsB p ⟨3, xs, xd, ys, yd, rs, rd, wn, wd⟩ = nothingB p ⟨3, xs, xd, ys, yd, rs, rd, wn, wd⟩ by simp [holdsB, hm]]
    cases q1 : emptyB xs xd with
    | false =>
      rw [show nothingB p ⟨3, xs, xd, ys, yd, rs, rd, wn, wd⟩ = false by simp [nothingB, q1]]
      by_cases hw : wn = 0
      · subst hw; refine ref4_N1z A c A2 c2 p X cx Y cy R cr xs xd ys yd rs rd wd w ?_ ?_ ?_ ?_ ?_ ?_ <;> assumption
      · have hz : (wn == 0) = false := by simpa using hw
        refine ref4_N1n A c A2 c2 p X cx Y cy R cr xs xd ys yd rs rd wn wd w ?_ ?_ ?_ ?_ ?_ ?_ ?_ <;> assumption
    | true =>
    cases q2 : emptyB rs rd with
    | false =>
      rw [show nothingB p ⟨3, xs, xd, ys, yd, rs, rd, wn, wd⟩ = false by simp [nothingB, q2]]
      by_cases hw : wn = 0
      · subst hw; refine ref4_N2z A c A2 c2 p X cx Y cy R cr xs xd ys yd rs rd wd w ?_ ?_ ?_ ?_ ?_ ?_ ?_ <;> assumption
      · have hz : (wn == 0) = false := by simpa using hw
        refine ref4_N2n A c A2 c2 p X cx Y cy R cr xs xd ys yd rs rd wn wd w ?_ ?_ ?_ ?_ ?_ ?_ ?_ ?_ <;> assumption
    | true =>
    by_cases hw : wn = 0
    rotate_left
    · have hz : (wn == 0) = false := by simpa using hw
      rw [show nothingB p ⟨3, xs, xd, ys, yd, rs, rd, wn, wd⟩ = false by simp [nothingB, hw]]
      refine ref4_N3n A c A2 c2 p X cx Y cy R cr xs xd ys yd rs rd wn wd w ?_ ?_ ?_ ?_ ?_ ?_ ?_ ?_ <;> assumption
    subst hw
    by_cases hw : wd = 0
    rotate_left
    · have hz : (wd == 0) = false := by simpa using hw
      rw [show nothingB p ⟨3, xs, xd, ys, yd, rs, rd, 0, wd⟩ = false by simp [nothingB, hw]]
      refine ref4_N3z A c A2 c2 p X cx Y cy R cr xs xd ys yd rs rd wd w ?_ ?_ ?_ ?_ ?_ ?_ ?_ ?_ <;> assumption
    subst hw
    cases q4 : aboveB ys yd p.rows.length with
    | false => rw [show nothingB p ⟨3, xs, xd, ys, yd, rs, rd, 0, 0⟩ = false by simp [nothingB, q4]]; refine ref4_N4 A c A2 c2 p X cx Y cy R cr xs xd ys yd rs rd w ?_ ?_ ?_ ?_ ?_ ?_ ?_ ?_ <;> assumption
    | true =>
    by_cases h5 : yd = 1
    rotate_left
    · have hz : (yd == 1) = false := by simpa using h5
      rw [show nothingB p ⟨3, xs, xd, ys, yd, rs, rd, 0, 0⟩ = false by simp [nothingB, h5]]
      refine ref4_N5 A c A2 c2 p X cx Y cy R cr xs xd ys yd rs rd w ?_ ?_ ?_ ?_ ?_ ?_ ?_ ?_ ?_ <;> assumption
    subst h5
    rw [show nothingB p ⟨3, xs, xd, ys, 1, rs, rd, 0, 0⟩ = (coversB p ys 0 && decide (dot (mosts p) ys < 0)) by simp [nothingB, q1, q2, q4]]
    refine ref4_N6 A c A2 c2 p X cx Y cy R cr xs xd ys rs rd w ?_ ?_ ?_ ?_ ?_ ?_ ?_ ?_ <;> assumption
  rw [show holdsB p ⟨kd, xs, xd, ys, yd, rs, rd, wn, wd⟩ = false by simp [holdsB, h1, h2, h3]]
  by_cases hw : wn = 0
  · subst hw; refine ref4_H0z A c A2 c2 p X cx Y cy R cr kd xs xd ys yd rs rd wd w ?_ ?_ ?_ ?_ ?_ ?_ ?_ ?_ <;> assumption
  · have hz : (wn == 0) = false := by simpa using hw
    refine ref4_H0n A c A2 c2 p X cx Y cy R cr kd xs xd ys yd rs rd wn wd w ?_ ?_ ?_ ?_ ?_ ?_ ?_ ?_ ?_ <;> assumption
end Go.Proofs.Ytjcdkbalhleeeab
