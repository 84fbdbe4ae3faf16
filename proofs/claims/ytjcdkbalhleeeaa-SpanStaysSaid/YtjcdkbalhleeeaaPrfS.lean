/-
  Plain words for chapters 3 (what a column has, is worth) and 4 (what proves an answer). No program in sight.
-/
import Derived.Test.YtjcdkbalhleeeaaLayS
namespace Go.Proofs.Ytjcdkbalhleeeaa

/-- What a column has in a row. -/
def hasZ (p : PG) (i j : Nat) : Int := if j < p.costs.length then ((p.rows.getD i ([], 0)).1.getD j 0) else if j - p.costs.length = i then 1 else 0
/-- What a column is worth. -/
def costZ (p : PG) (j : Nat) : Int := if j < p.costs.length then p.costs.getD j 0 else 0
/-- What a column has in all rows. -/
def colZ (p : PG) (j : Nat) : List Int := (List.range p.rows.length).map fun i => hasZ p i j
def mosts (p : PG) : List Int := p.rows.map fun r => r.2

/-- An answer. -/
structure AN where
  kind : Int
  xs : List Int
  xd : Int
  ys : List Int
  yd : Int
  rs : List Int
  rd : Int
  wn : Int
  wd : Int

def emptyB (l : List Int) (d : Int) : Bool := decide (l.length = 0) && decide (d = 0)
def aboveB (l : List Int) (d : Int) (n : Nat) : Bool := mayB l d && (decide (l.length = n) && nonneg l)
def coversB (p : PG) (ys : List Int) (t : Int) : Bool := (List.range p.costs.length).all fun j => decide (costZ p j * t ≤ dot (colZ p j) ys)
def bestB (p : PG) (a : AN) : Bool :=
  emptyB a.rs a.rd && (goesB p a.xs a.xd && (aboveB a.ys a.yd p.rows.length && (coversB p a.ys a.yd &&
    (decide (worE p a.xs a.xd = 0) && (decide (ptE [dot (mosts p) a.ys] a.yd = 0) && ((decide (worN p a.xs a.xd = a.wn) && decide (worD p a.xs a.xd = a.wd)) && (decide (frN (dot (mosts p) a.ys) a.yd = worN p a.xs a.xd) && decide (ptD [dot (mosts p) a.ys] a.yd = worD p a.xs a.xd))))))))
def endlessB (p : PG) (a : AN) : Bool :=
  emptyB a.ys a.yd && ((decide (a.wn = 0) && decide (a.wd = 0)) && (goesB p a.xs a.xd && (aboveB a.rs a.rd p.costs.length && (decide (a.rd = 1) &&
    (p.rows.all (fun r => decide (dot r.1 a.rs ≤ 0)) && decide (0 < dot p.costs a.rs))))))
def nothingB (p : PG) (a : AN) : Bool :=
  emptyB a.xs a.xd && (emptyB a.rs a.rd && ((decide (a.wn = 0) && decide (a.wd = 0)) && (aboveB a.ys a.yd p.rows.length && (decide (a.yd = 1) && (coversB p a.ys 0 && decide (dot (mosts p) a.ys < 0))))))
def holdsB (p : PG) (a : AN) : Bool :=
  mayPB p && (if a.kind = 1 then bestB p a else if a.kind = 2 then endlessB p a else if a.kind = 3 then nothingB p a else false)

theorem length_colZ (p : PG) (j : Nat) : (colZ p j).length = p.rows.length := by simp [colZ]
theorem length_mosts (p : PG) : (mosts p).length = p.rows.length := by simp [mosts]
theorem hasZ_var {p : PG} {i j : Nat} (hi : i < p.rows.length) (hj : j < p.costs.length) : hasZ p i j = (p.rows[i]).1.getD j 0 := by
  simp [hasZ, hj, List.getD, List.getElem?_eq_getElem hi]
theorem hasZ_bound {p : PG} (hp : mayPB p = true) (i j : Nat) : -12 ≤ hasZ p i j ∧ hasZ p i j ≤ 12 := by
  unfold hasZ
  split
  · rename_i hj
    by_cases hi : i < p.rows.length
    · obtain ⟨hl, _, hs⟩ := mayPB_row hp hi
      have hj' : j < (p.rows[i]).1.length := by omega
      have := smallB_at hs hj'
      simpa [List.getD, List.getElem?_eq_getElem hi, List.getElem?_eq_getElem hj'] using this
    · have : p.rows[i]? = none := List.getElem?_eq_none (by omega)
      simp [List.getD, this]
  · split <;> omega
theorem costZ_bound {p : PG} (hp : mayPB p = true) (j : Nat) : -400 ≤ costZ p j ∧ costZ p j ≤ 400 := by
  unfold costZ
  split
  · rename_i hj
    have := smallB_at (mayPB_iff.1 hp).2.2.2.2.1 hj
    simpa [List.getD, List.getElem?_eq_getElem hj] using this
  · omega
theorem colZ_small {p : PG} (hp : mayPB p = true) (j : Nat) : smallB 12 (colZ p j) = true := by
  rw [smallB_iff]; intro n hn
  simp only [colZ, List.mem_map] at hn
  obtain ⟨i, _, rfl⟩ := hn
  exact hasZ_bound hp i j
theorem mosts_small {p : PG} (hp : mayPB p = true) : smallB 12 (mosts p) = true := by
  rw [smallB_iff]; intro n hn
  simp only [mosts, List.mem_map] at hn
  obtain ⟨r, hr, rfl⟩ := hn
  obtain ⟨i, hi, rfl⟩ := List.mem_iff_getElem.1 hr
  exact (mayPB_row hp hi).2.1
theorem aboveB_iff {l : List Int} {d : Int} {n : Nat} : aboveB l d n = true ↔ mayB l d = true ∧ l.length = n ∧ nonneg l = true := by
  unfold aboveB; simp only [Bool.and_eq_true, decide_eq_true_eq]
end Go.Proofs.Ytjcdkbalhleeeaa
