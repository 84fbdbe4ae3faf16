/-
  Words for memory: a slice of slices that the call makes row by row. No condition.
-/
import Derived.Test.YtjcdkbalhleeeabAppN
import Derived.Test.YtjcdkbalhleeeabPlainA
namespace Go.Proofs.Ytjcdkbalhleeeab
open Go.RowKit

/-- The call's own slice of rows: its values, and each row reads. -/
def RowsOwn (w : World) (base : Nat) (v : Value) (k : Nat) (rs : List (List Int)) : Prop :=
  rs.length = k ∧ ∃ vs : List Value, vs.length = k ∧ w.ownsRow base 22 1 v k vs ∧
    ∀ j, j < k → ∃ A' c', vs[j]? = some (.slice A' (rs.getD j []).length c') ∧ Rd w A' c' (rs.getD j []) ∧ (0 < (rs.getD j []).length → ∀ ad, A' = some ad → some ad.block ≠ v.ownBlock)
section
variable {w w' : World} {base k : Nat} {v : Value} {rs : List (List Int)}
theorem RowsOwn.nil (w : World) (base : Nat) : RowsOwn w base (.slice none 0 0) 0 [] := ⟨rfl, [], rfl, World.ownsRow_nil _ _ _ _, fun j hj => by omega⟩
theorem RowsOwn.below (h : RowsOwn w base v k rs) (hb : Below w.heap.size w w') : RowsOwn w' base v k rs := by
  obtain ⟨h1, vs, h2, h3, h4⟩ := h
  refine ⟨h1, vs, h2, own_below h3 hb, fun j hj => ?_⟩
  obtain ⟨A', c', a, b, c⟩ := h4 j hj
  exact ⟨A', c', a, b.below hb, c⟩
theorem Rd.grown {A : Option Addr} {c : Nat} {l : List Int} {row : Option Nat} (h : Rd w A c l) (hg : w.grownBy w' row) (hd : 0 < l.length → ∀ ad, A = some ad → some ad.block ≠ row) : Rd w' A c l := by
  refine ⟨h.le, h.cap, h.small, fun hl => ?_⟩
  simp only [List.length_map] at hl
  obtain ⟨ad, e, hc⟩ := h.cells (by simpa using hl)
  refine ⟨ad, e, fun j u hu => ?_⟩
  have hcu := hc j u hu
  have hlt := World.block_lt_of_cell? _ _ hcu
  have hn := hd hl ad e
  rw [← hcu]
  have hb := hg.block (ad.add j).block hlt (by rw [block_add]; exact hn)
  unfold World.cell?
  rw [hb]
theorem RowsOwn.push (h1 : rs.length = k) {vs : List Value} (h2 : vs.length = k)
    (h4 : ∀ j, j < k → ∃ A' c', vs[j]? = some (.slice A' (rs.getD j []).length c') ∧ Rd w A' c' (rs.getD j []) ∧ (0 < (rs.getD j []).length → ∀ ad, A' = some ad → some ad.block ≠ v.ownBlock))
    {A : Option Addr} {c : Nat} {r : List Int} (hr : Rd w A c r) (hd : 0 < r.length → ∀ ad, A = some ad → some ad.block ≠ v.ownBlock)
    {g cap : Nat} (hown : w'.ownsRow base 22 1 (.slice (some ⟨g, 0, none⟩) (k + 1) cap) (k + 1) (vs ++ [.slice A r.length c])) (hg : w.grownBy w' v.ownBlock) (hat : v.ownBlock = some g ∨ g = w.heap.size) :
    RowsOwn w' base (.slice (some ⟨g, 0, none⟩) (k + 1) cap) (k + 1) (rs ++ [r]) := by
  have key : ∀ {A : Option Addr} {c : Nat} {l : List Int}, Rd w A c l → (0 < l.length → ∀ ad, A = some ad → some ad.block ≠ v.ownBlock) → 0 < l.length → ∀ ad, A = some ad → some ad.block ≠ (Value.slice (some ⟨g, 0, none⟩) (k + 1) cap).ownBlock := by
    intro A c l hr hd hl ad e
    subst e
    show some ad.block ≠ some g
    rcases hat with q | q
    · rw [← q]; exact hd hl ad rfl
    · obtain ⟨ad', e', hc⟩ := hr.cells (by simpa using hl)
      cases e'
      have h0 := World.block_lt_of_cell? _ _ (hc 0 (.int .i64 l[0]) (by simp [List.getElem?_eq_getElem hl]))
      rw [block_add] at h0
      intro e; injection e with e; omega
  refine ⟨by simp [h1], _, by simp [h2], hown, fun j hj => ?_⟩
  by_cases e : j = k
  · subst e
    refine ⟨A, c, ?_, ?_, ?_⟩
    · rw [List.getElem?_append_right (by omega), h2]; simp [List.getD, h1]
    · have : (rs ++ [r]).getD j [] = r := by simp [List.getD, ← h1]
      rw [this]; exact hr.grown hg hd
    · have : (rs ++ [r]).getD j [] = r := by simp [List.getD, ← h1]
      rw [this]; exact key hr hd
  · obtain ⟨A', c', a, b, d⟩ := h4 j (by omega)
    have e2 : (rs ++ [r]).getD j [] = rs.getD j [] := by simp only [List.getD]; rw [List.getElem?_append_left (by omega)]
    rw [e2]
    refine ⟨A', c', ?_, b.grown hg d, key b d⟩
    rw [List.getElem?_append_left (by omega)]; exact a
theorem RowsOwn.reads (h : RowsOwn w base v k rs) (hk : k ≤ 1000) : ∃ A c, v = .slice A k c ∧ Rm w A c rs := by
  obtain ⟨h1, vs, h2, h3, h4⟩ := h
  subst h1
  rcases h3.2 with ⟨rfl, hn⟩ | ⟨g, cap, cur, rfl, hb, hg, hnc, hcm, hcs, htake⟩
  · exact ⟨none, 0, by rw [hn], ⟨by omega, by omega, fun h => by omega⟩⟩
  · refine ⟨_, _, rfl, ⟨hnc, by unfold maxLen at hcm; omega, fun _ => ⟨_, rfl, fun j hj => ?_⟩⟩⟩
    obtain ⟨A', c', a, b, _⟩ := h4 j hj
    have e : rs.getD j [] = rs[j] := by simp [List.getD, List.getElem?_eq_getElem hj]
    rw [e] at a b
    exact ⟨A', c', h3.cells (g := g) rfl j _ a, b⟩
end

/-! The document's determinant. -/
def sg : Nat → Int
  | 0 => 1
  | k + 1 => 0 - sg k
/-- The rows but the first one, without one column. -/
def mino (l : List (List Int)) (k : Nat) : List (List Int) := (l.drop 1).map fun r => r.take k ++ r.drop (k + 1)
def detF : Nat → List (List Int) → Int
  | 0, _ => 1
  | n + 1, l => sumN (fun k => sg k * (l.getD 0 []).getD k 0 * detF n (mino l k)) (n + 1)
end Go.Proofs.Ytjcdkbalhleeeab
