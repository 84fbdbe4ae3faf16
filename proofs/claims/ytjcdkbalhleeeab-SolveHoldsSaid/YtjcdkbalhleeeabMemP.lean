/-
  Words for memory: a slice of rows (each a slice of numbers, and a number) reads as a list; a program.
-/
import Derived.Test.YtjcdkbalhleeeabMem
import Derived.Test.YtjcdkbalhleeeabPlainA
namespace Go.Proofs.Ytjcdkbalhleeeab
open Go.RowKit

/-- The rows' slice reads as these rows. -/
structure Rw (w : World) (A : Option Addr) (c : Nat) (rs : List (List Int × Int)) : Prop where
  le : rs.length ≤ c
  cap : c ≤ 9223372036854775807
  small : rs.length ≤ 17592186044416
  cells : 0 < rs.length → ∃ ad, A = some ad ∧ ∀ (j : Nat) (hj : j < rs.length), ∃ A' c', w.cell? (ad.add (j * 2)) = some (.slice A' rs[j].1.length c') ∧ w.cell? ⟨(ad.add (j * 2)).block, (ad.add (j * 2)).off + 1, none⟩ = some (.int .i64 rs[j].2) ∧ Rd w A' c' rs[j].1
section
variable {w w' : World} {A : Option Addr} {c : Nat} {rs : List (List Int × Int)}
theorem Rw.keep (h : Rw w A c rs) (hk : ∀ p : Addr, p.block < w.heap.size → w'.cell? p = w.cell? p) : Rw w' A c rs :=
  ⟨h.le, h.cap, h.small, fun hl => by
    obtain ⟨ad, e, hc⟩ := h.cells hl
    refine ⟨ad, e, fun j hj => ?_⟩
    obtain ⟨A', c', h1, h2, h3⟩ := hc j hj
    exact ⟨A', c', (hk _ (World.block_lt_of_cell? _ _ h1)).trans h1, (hk _ (World.block_lt_of_cell? _ _ h2)).trans h2, h3.keep hk⟩⟩
theorem Rw.below (h : Rw w A c rs) (hb : Below w.heap.size w w') : Rw w' A c rs := h.keep fun _ hp => hb.cell hp
theorem Rw.hop {w1 : World} (h : Rw w A c rs) (hl : Below w.heap.size w w1) (hb : Below w1.heap.size w1 w') : Rw w' A c rs := (h.below hl).below hb
theorem Rw.at_ (h : Rw w A c rs) {k : Nat} (hk : k < rs.length) : ∃ ad A' c', A = some ad ∧ w.cell? (ad.add (k * 2)) = some (.slice A' rs[k].1.length c') ∧ w.cell? ⟨(ad.add (k * 2)).block, (ad.add (k * 2)).off + 1, none⟩ = some (.int .i64 rs[k].2) ∧ Rd w A' c' rs[k].1 := by
  obtain ⟨ad, e, hc⟩ := h.cells (by omega)
  obtain ⟨A', c', h1, h2, h3⟩ := hc k hk
  exact ⟨ad, A', c', e, h1, h2, h3⟩
end
/-- A program's two slices read as it. -/
structure Pg (w : World) (A : Option Addr) (c : Nat) (A2 : Option Addr) (c2 : Nat) (p : PG) : Prop where
  costs : Rd w A c p.costs
  rows : Rw w A2 c2 p.rows
section
variable {w w' : World} {A A2 : Option Addr} {c c2 : Nat} {p : PG}
theorem Pg.below (h : Pg w A c A2 c2 p) (hb : Below w.heap.size w w') : Pg w' A c A2 c2 p := ⟨h.costs.below hb, h.rows.below hb⟩
theorem Pg.hop {w1 : World} (h : Pg w A c A2 c2 p) (hl : Below w.heap.size w w1) (hb : Below w1.heap.size w1 w') : Pg w' A c A2 c2 p := (h.below hl).below hb
end
end Go.Proofs.Ytjcdkbalhleeeab
