/-
  Plain words: a program with other mosts of its rows. No program in sight.
-/
import Derived.Test.YtjcdkbalhleeeaaSpanL
namespace Go.Proofs.Ytjcdkbalhleeeaa

/-- The rows with other mosts, of the first k. -/
def rowsK (p : PG) (b : List Int) (k : Nat) : List (List Int × Int) := (List.range k).map fun i => ((p.rows.getD i ([], 0)).1, b.getD i 0)
def mostsOf (p : PG) (b : List Int) : PG := ⟨p.costs, rowsK p b p.rows.length⟩
section
variable {p : PG} {b : List Int} {l : List Nat}
theorem rowsK_len (p : PG) (b : List Int) (k : Nat) : (rowsK p b k).length = k := by simp [rowsK]
theorem mostsOf_len (p : PG) (b : List Int) : (mostsOf p b).rows.length = p.rows.length := rowsK_len _ _ _
theorem rowsK_at (p : PG) (b : List Int) {k i : Nat} (h : i < k) : (rowsK p b k).getD i ([], 0) = ((p.rows.getD i ([], 0)).1, b.getD i 0) := by simp [rowsK, List.getD, h]
theorem mostsOf_has (p : PG) (b : List Int) (i j : Nat) : hasZ (mostsOf p b) i j = hasZ p i j := by
  unfold hasZ
  show (if j < p.costs.length then ((rowsK p b p.rows.length).getD i ([], 0)).1.getD j 0 else if j - p.costs.length = i then 1 else 0) = _
  by_cases hi : i < p.rows.length
  · rw [rowsK_at p b hi]
  · have e1 : (rowsK p b p.rows.length).getD i ([], 0) = ([], 0) := by simp [List.getD, List.getElem?_eq_none (show (rowsK p b p.rows.length).length ≤ i by rw [rowsK_len]; omega)]
    have e2 : p.rows.getD i ([], 0) = ([], 0) := by simp [List.getD, List.getElem?_eq_none (show p.rows.length ≤ i by omega)]
    rw [e1, e2]
theorem mostsOf_den (p : PG) (b : List Int) (hl : l.length = p.rows.length) : denZ (mostsOf p b) l = denZ p l := by
  unfold denZ dtm
  rw [mostsOf_len]
  refine dt_congr2 fun r hr c hc => ?_
  have hc' : c < p.rows.length := by simpa using hc
  unfold matD
  rw [if_pos (by omega), if_pos (by omega), mostsOf_has]
theorem mostsOf_may (hp : mayPB p = true) (hb : b.length = p.rows.length) (hs : smallB 12 b = true) : mayPB (mostsOf p b) = true := by
  obtain ⟨h1, h2, h3, h4, h5, h6⟩ := mayPB_iff.1 hp
  refine mayPB_iff.2 ⟨h1, h2, by rw [mostsOf_len]; exact h3, by rw [mostsOf_len]; exact h4, h5, ?_⟩
  show (rowsK p b p.rows.length).all (rowB p.costs.length) = true
  rw [List.all_eq_true]
  intro r hr
  simp only [rowsK, List.mem_map, List.mem_range] at hr
  obtain ⟨i, hi, rfl⟩ := hr
  obtain ⟨a1, a2, a3⟩ := mayPB_row hp hi
  have e : p.rows.getD i ([], 0) = p.rows[i] := by simp [List.getD, List.getElem?_eq_getElem hi]
  have hbi : -12 ≤ b.getD i 0 ∧ b.getD i 0 ≤ 12 := by
    have := smallB_at hs (k := i) (by omega)
    simpa [List.getD, List.getElem?_eq_getElem (show i < b.length by omega)] using this
  rw [e]
  unfold rowB
  simp only [Bool.and_eq_true, decide_eq_true_eq]
  exact ⟨a1, by rw [smallB_one]; simp; exact hbi, a3⟩
theorem mostsOf_E (hb : b.length = p.rows.length) (hs : smallB 12 b = true) {at_ : List Int} (he : lookE p at_ = 0) : lookE (mostsOf p b) at_ = 0 := by
  unfold lookE at he ⊢
  split at he
  · omega
  rename_i h1
  split at he
  · omega
  rename_i h2
  split at he
  · omega
  rename_i h3
  have hr := (right_nats (p := p) (l := at_) (by simpa using h2)).1
  rw [if_neg (by rw [mostsOf_may (by simpa using h1) hb hs]; simp), if_neg, if_neg (by rw [mostsOf_den p b hr.len]; exact h3)]
  have : rightA (mostsOf p b) at_ = rightA p at_ := by unfold rightA; rw [mostsOf_len]; rfl
  rw [this]; exact h2
/-- Each division along the line of mosts goes. -/
theorem mosts_made {c d : CO} {g1 g2 g3 g4 g5 g6 : Int} (hc : Corn p l c g1 g2 g3) (hd : Corn (mostsOf p b) l d g4 g5 g6) (j : Nat) (h : -1 * d.xs.getD j 0 * c.xd ≠ 0) :
    ptE [-(-1 * c.xs.getD j 0 * d.xd)] (-1 * d.xs.getD j 0 * c.xd) = 0 := by
  have b1 := (smallB_getD (l := c.xs) (m := 1073741824) (by omega)).1 (mayB_parts hc.mx).2.2.1 j
  have b2 := (smallB_getD (l := d.xs) (m := 1073741824) (by omega)).1 (mayB_parts hd.mx).2.2.1 j
  have h1 := mayB_parts hc.mx
  have h2 := mayB_parts hd.mx
  have e1 := hc.x j
  have e2 := hd.x j
  have k1 := (smallB_getD (l := xall p l) (m := 1073741824) (by omega)).1 (xall_small hc.hp hc.hr) j
  have k2 := (smallB_getD (l := xall (mostsOf p b) l) (m := 1073741824) (by omega)).1 (xall_small hd.hp hd.hr) j
  have dd : denZ p l = g4 * d.xd := by rw [← mostsOf_den p b hc.hr.len]; exact hd.dx
  -- the corner's numbers with their signs changed
  have := span_pt (A := -(xall p l).getD j 0) (B := -(xall (mostsOf p b) l).getD j 0) (u := -c.xs.getD j 0) (v := -d.xs.getD j 0) (dA := c.xd) (dB := d.xd) hc.nx hd.nx (by rw [e1]; grind) (by rw [e2]; grind) hc.dx dd
    (by omega) (by omega) (by omega) (by omega) (by omega) (by omega) (by intro e; apply h; rw [← e]; grind)
  rw [show -(-1 * c.xs.getD j 0 * d.xd) = -(-c.xs.getD j 0 * d.xd) by grind, show -1 * d.xs.getD j 0 * c.xd = -d.xs.getD j 0 * c.xd by grind]
  exact this
end
end Go.Proofs.Ytjcdkbalhleeeaa
