/-
  Words for memory: a slice of rows that the call makes, each of two cells. No condition.
-/
import Derived.Test.YtjcdkbalhleeeabMemP
import Derived.Test.YtjcdkbalhleeeabPlainA
namespace Go.Proofs.Ytjcdkbalhleeeab
open Go.RowKit

theorem und_rowsT : Try.prog.underlying 23 = some (.slice 36) := by kernel_rfl
theorem inf_rowT : (Try.prog.info? 36).map (fun i => (i.zero, i.size, i.bytes)) = some (some (.agg #[.slice none 0 0, .int .i64 0]), 2, 32) := by kernel_rfl
/-- The rows' cells, of the first k. -/
def rowCells (As : Nat → Option Addr) (cs : Nat → Nat) (p : PG) (b : List Int) : Nat → List Value
  | 0 => []
  | k + 1 => rowCells As cs p b k ++ [.slice (As k) (p.rows.getD k ([], 0)).1.length (cs k), .int .i64 (b.getD k 0)]
theorem rowCells_len (As : Nat → Option Addr) (cs : Nat → Nat) (p : PG) (b : List Int) (k : Nat) : (rowCells As cs p b k).length = k * 2 := by
  induction k with
  | zero => rfl
  | succ k ih => rw [rowCells, List.length_append, ih]; simp; omega
theorem rowCells_at (As : Nat → Option Addr) (cs : Nat → Nat) (p : PG) (b : List Int) {k i : Nat} (h : i < k) :
    (rowCells As cs p b k)[i * 2]? = some (.slice (As i) (p.rows.getD i ([], 0)).1.length (cs i)) ∧ (rowCells As cs p b k)[i * 2 + 1]? = some (.int .i64 (b.getD i 0)) := by
  induction k with
  | zero => omega
  | succ k ih =>
    have hl := rowCells_len As cs p b k
    rw [rowCells]
    by_cases e : i = k
    · subst e
      rw [List.getElem?_append_right (by omega), List.getElem?_append_right (by omega), hl]
      simp
    · obtain ⟨h1, h2⟩ := ih (by omega)
      rw [List.getElem?_append_left (by omega), List.getElem?_append_left (by omega)]
      exact ⟨h1, h2⟩
/-- They read as the rows. -/
theorem rows_read {w : World} {base g cap k : Nat} {As : Nat → Option Addr} {cs : Nat → Nat} {p : PG} {b : List Int}
    (h : w.ownsRow base 36 2 (.slice (some ⟨g, 0, none⟩) k cap) k (rowCells As cs p b k)) (hk : k ≤ 1000) (hr : ∀ i, i < k → Rd w (As i) (cs i) (p.rows.getD i ([], 0)).1) :
    Rw w (some ⟨g, 0, none⟩) cap (rowsK p b k) := by
  have hcap : k ≤ cap ∧ cap ≤ 9223372036854775807 := by
    rcases h.2 with ⟨e, _⟩ | ⟨g', cap', cur, e, hb, hg, h1, h2, _⟩
    · injection e with e1; cases e1
    · injection e with e1 e2 e3
      subst e3
      exact ⟨h1, by unfold maxLen at h2; omega⟩
  refine ⟨by rw [rowsK_len]; exact hcap.1, hcap.2, by rw [rowsK_len]; omega, fun _ => ⟨_, rfl, fun j hj => ?_⟩⟩
  have hj' : j < k := by rwa [rowsK_len] at hj
  obtain ⟨c1, c2⟩ := rowCells_at As cs p b hj'
  have e1 : ∀ q, (⟨g, 0, none⟩ : Addr).add q = ⟨g, q, none⟩ := fun q => by unfold Addr.add; split <;> simp_all
  have d1 := h.cells (g := g) rfl (j * 2) _ c1
  have d2 := h.cells (g := g) rfl (j * 2 + 1) _ c2
  rw [e1] at d1 d2
  have er : (rowsK p b k)[j] = ((p.rows.getD j ([], 0)).1, b.getD j 0) := by
    have := rowsK_at p b hj'
    rwa [List.getD, List.getElem?_eq_getElem hj, Option.getD_some] at this
  rw [e1, er]
  exact ⟨As j, cs j, d1, d2, hr j hj'⟩
/-- The slices of a program's rows, one by one. -/
theorem Rw.all {w : World} {A : Option Addr} {c : Nat} {rs : List (List Int × Int)} (h : Rw w A c rs) (h0 : 0 < rs.length) :
    ∃ (ad : Addr) (As : Nat → Option Addr) (cs : Nat → Nat), A = some ad ∧ ∀ j, j < rs.length → w.cell? (ad.add (j * 2)) = some (.slice (As j) (rs.getD j ([], 0)).1.length (cs j)) ∧
      w.cell? ⟨(ad.add (j * 2)).block, (ad.add (j * 2)).off + 1, none⟩ = some (.int .i64 (rs.getD j ([], 0)).2) ∧ Rd w (As j) (cs j) (rs.getD j ([], 0)).1 := by
  obtain ⟨ad, e, hc⟩ := h.cells h0
  have key : ∀ j, ∃ x : Option Addr × Nat, j < rs.length → w.cell? (ad.add (j * 2)) = some (.slice x.1 (rs.getD j ([], 0)).1.length x.2) ∧
      w.cell? ⟨(ad.add (j * 2)).block, (ad.add (j * 2)).off + 1, none⟩ = some (.int .i64 (rs.getD j ([], 0)).2) ∧ Rd w x.1 x.2 (rs.getD j ([], 0)).1 := fun j => by
    by_cases hj : j < rs.length
    · obtain ⟨A', c', h1, h2, h3⟩ := hc j hj
      refine ⟨(A', c'), fun _ => ?_⟩
      have er : rs.getD j ([], 0) = rs[j] := by simp [List.getD, List.getElem?_eq_getElem hj]
      rw [er]
      exact ⟨h1, h2, h3⟩
    · exact ⟨(none, 0), fun q => absurd q hj⟩
  exact ⟨ad, fun j => (Classical.choose (key j)).1, fun j => (Classical.choose (key j)).2, e, fun j hj => Classical.choose_spec (key j) hj⟩
theorem news2 {w : World} {b : Nat} {u v : Value} {t : TypeId} (h : Blk w b t #[u, v]) : ∀ (j : Nat) (x : Value), [u, v][j]? = some x → w.cell? ((⟨b, 0, none⟩ : Addr).add j) = some x :=
  fun j x hx => World.news_of_block (cs := #[u, v]) h j x hx
section
variable {ops : Array Oper} {o : Oper} {a : Act} {w : World} {Q : Exit → Act → World → Prop}
theorem step_appRow {K : Act → World → Prop} {E' : Prop} (hgd : o.guard = none) (s x : Operand)
    (ho : o.op = .call { callee := .builtin .append, args := #[s, x], argTypes := #[23, 23] })
    (base : Nat) (v : Value) (n : Nat) (xs : List Value) (u1 u2 : Value) (hs : a.eval s = v) (hown : w.ownsRow base 36 2 v n xs)
    (b c : Nat) (hx : a.eval x = .slice (some ⟨b, 0, none⟩) 1 c) (hb : ∀ (j : Nat) (x : Value), [u1, u2][j]? = some x → w.cell? ((⟨b, 0, none⟩ : Addr).add j) = some x) (h1 : u1.oneCell' = true) (h2 : u2.oneCell' = true)
    (hn : n ≤ 100) (hbase : base ≤ w.heap.size)
    (h : ∀ g cap w', w'.ownsRow base 36 2 (.slice (some ⟨g, 0, none⟩) (n + 1) cap) (n + 1) (xs ++ [u1, u2]) → w.grownBy w' v.ownBlock → (v.ownBlock = some g ∨ g = w.heap.size) → g < w'.heap.size → K (a.put o.dst (.slice (some ⟨g, 0, none⟩) (n + 1) cap)) w') :
    if Region.wanted o (yielded ops a.tmps) = true then Oper.wp Try.prog o a w K Q else E' := by
  obtain ⟨i, hi, hz0, hz1, hz2⟩ := info_parts inf_rowT
  exact step_append_lies w hgd s x 23 ho base 36 i _ 2 32 und_rowsT hi hz0 hz1 hz2 rfl (by omega) v n xs hs hown _ 1 c [u1, u2] hx rfl hb (by simp [h1, h2]) (by omega) (by unfold maxLen; omega) (by omega) hbase _ rfl h
end
end Go.Proofs.Ytjcdkbalhleeeab
