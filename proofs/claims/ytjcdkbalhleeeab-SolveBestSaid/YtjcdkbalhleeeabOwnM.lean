/-
  Words for memory: a slice of the call's own, of rows of the call's own: it is made row by row, and handed to one who writes in it. No condition.
-/
import Derived.Test.YtjcdkbalhleeeabAppR
import Derived.Test.YtjcdkbalhleeeabPlainA
namespace Go.Proofs.Ytjcdkbalhleeeab
open Go.RowKit

section
variable {w w' : World} {base n : Nat} {e : TypeId} {v : Value} {xs : List Value}
theorem own_same (h : w.ownsRow base e 1 v n xs) (hs : ∀ b, v.ownBlock = some b → w'.heap[b]? = w.heap[b]?) : w'.ownsRow base e 1 v n xs := by
  refine ⟨h.1, ?_⟩
  rcases h.2 with q | ⟨g, cap, cur, rfl, hb, hg, r⟩
  · exact .inl q
  · exact .inr ⟨g, cap, cur, rfl, hb, (hs g rfl).trans hg, r⟩
theorem own_weak {base' : Nat} (h : w.ownsRow base e 1 v n xs) (hb : base' ≤ base) : w.ownsRow base' e 1 v n xs := by
  refine ⟨h.1, ?_⟩
  rcases h.2 with q | ⟨g, cap, cur, rfl, hb', hg, r⟩
  · exact .inl q
  · exact .inr ⟨g, cap, cur, rfl, by omega, hg, r⟩
theorem own_cell' {g cap : Nat} (h : w.ownsRow base e 1 (.slice (some ⟨g, 0, none⟩) n cap) n xs) (j : Nat) (u : Value) (hu : xs[j]? = some u) : w.cell? ⟨g, j, none⟩ = some u := by
  have := h.cells (g := g) rfl j u hu
  rwa [addz] at this
theorem own_free' {g cap : Nat} (h : w.ownsRow base e 1 (.slice (some ⟨g, 0, none⟩) n cap) n xs) (j : Nat) : w.frozen? ⟨g, j, none⟩ = false := by
  rcases h.2 with ⟨e, _⟩ | ⟨g', cap', cur, e, hb, hg, _⟩
  · injection e with e1; cases e1
  · injection e with e1
    injection e1 with e1; injection e1 with e1
    subst e1
    exact Blk.frozen (w := w) hg j
theorem own_caps {g cap : Nat} (h : w.ownsRow base e 1 (.slice (some ⟨g, 0, none⟩) n cap) n xs) : n ≤ cap ∧ cap ≤ 9223372036854775807 := by
  rcases h.2 with ⟨e, _⟩ | ⟨g', cap', cur, e, hb, hg, h1, h2, _⟩
  · injection e with e1; cases e1
  · injection e with e1 e2 e3
    subst e3
    exact ⟨h1, by unfold maxLen at h2; omega⟩
/-- A slice that owns something is somewhere. -/
theorem own_some (h : w.ownsRow base e 1 v n xs) (hn : n ≠ 0) : ∃ g c, v = .slice (some ⟨g, 0, none⟩) n c := by
  rcases h.2 with ⟨_, q⟩ | ⟨g, cap, cur, q, _⟩
  · exact absurd q hn
  · exact ⟨g, cap, q⟩
/-- One cell of an own row stored. -/
theorem own_put {g cap : Nat} (h : w.ownsRow base e 1 (.slice (some ⟨g, 0, none⟩) n cap) n xs) (k : Nat) (u : Value) :
    (w.setCell ⟨g, k, none⟩ u).ownsRow base e 1 (.slice (some ⟨g, 0, none⟩) n cap) n (xs.set k u) := by
  obtain ⟨hx, hr⟩ := h
  refine ⟨by simpa using hx, Or.inr ?_⟩
  rcases hr with ⟨q, _⟩ | ⟨g', cap', cur, q, hb, hg, hnc, hcm, hcs, htake⟩
  · injection q with e1; cases e1
  · injection q with e1 e2 e3
    injection e1 with e1; injection e1 with e1
    subst e1 e3
    refine ⟨g, cap, cur.setIfInBounds k u, rfl, hb, ?_, hnc, hcm, by simpa using hcs, ?_⟩
    · exact Blk.set0 (w := w) (t := e) hg k _
    · rw [Array.toList_setIfInBounds, List.take_set, htake]
end

/-- A slice of the call's own, of k rows of n numbers, each of the call's own. -/
structure RowsM (w : World) (base : Nat) (v : Value) (k n : Nat) (g c : Nat → Nat) (M : Nat → Nat → Int) : Prop where
  own : w.ownsRow base 22 1 v k ((List.range k).map fun i => Value.slice (some ⟨g i, 0, none⟩) n (c i))
  row : ∀ i, i < k → w.ownsRow base 2 1 (.slice (some ⟨g i, 0, none⟩) n (c i)) n ((List.range n).map fun j => Value.int .i64 (M i j))
  inj : ∀ i j, i < k → j < k → g i = g j → i = j
  ne : ∀ i, i < k → v.ownBlock ≠ some (g i)
/-- Its blocks. -/
def rowsS (v : Value) (k : Nat) (g : Nat → Nat) (b : Nat) : Prop := v.ownBlock = some b ∨ ∃ i, i < k ∧ g i = b
section
variable {w w' : World} {base k n : Nat} {v : Value} {g c : Nat → Nat} {M : Nat → Nat → Int}
theorem RowsM.nil (w : World) (base n : Nat) (g c : Nat → Nat) (M : Nat → Nat → Int) : RowsM w base (.slice none 0 0) 0 n g c M :=
  ⟨World.ownsRow_nil _ _ _ _, fun i hi => by omega, fun i j hi => by omega, fun i hi => by omega⟩
theorem RowsM.lt (h : RowsM w base v k n g c M) {b : Nat} (hb : rowsS v k g b) : base ≤ b ∧ b < w.heap.size := by
  rcases hb with hb | ⟨i, hi, rfl⟩
  · exact h.own.lt b hb
  · exact (h.row i hi).lt (g i) rfl
theorem RowsM.same (h : RowsM w base v k n g c M) (hs : ∀ b, rowsS v k g b → w'.heap[b]? = w.heap[b]?) : RowsM w' base v k n g c M :=
  ⟨own_same h.own fun b hb => hs b (.inl hb), fun i hi => own_same (h.row i hi) fun b hb => hs b (.inr ⟨i, hi, by injection hb⟩), h.inj, h.ne⟩
theorem RowsM.below (h : RowsM w base v k n g c M) {B : Nat} (hb : Below B w w') (hB : w.heap.size ≤ B) : RowsM w' base v k n g c M :=
  h.same fun b hb' => hb.block b (by have := h.lt hb'; omega)
theorem RowsM.grown (h : RowsM w base v k n g c M) {row : Option Nat} (hg : w.grownBy w' row) (hr : ∀ b, row = some b → ¬ rowsS v k g b) : RowsM w' base v k n g c M :=
  h.same fun b hb => hg.block b (h.lt hb).2 fun q => hr b q.symm hb
/-- One row more: the row lies apart, and stays; the slice has grown. -/
theorem RowsM.push (h : RowsM w base v k n g c M) {r cr o cap : Nat}
    (hr : w.ownsRow base 2 1 (.slice (some ⟨r, 0, none⟩) n cr) n ((List.range n).map fun j => Value.int .i64 (M k j))) (hn : ¬ rowsS v k g r)
    (hown : w'.ownsRow base 22 1 (.slice (some ⟨o, 0, none⟩) (k + 1) cap) (k + 1) (((List.range k).map fun i => Value.slice (some ⟨g i, 0, none⟩) n (c i)) ++ [.slice (some ⟨r, 0, none⟩) n cr]))
    (hg : w.grownBy w' v.ownBlock) (hat : v.ownBlock = some o ∨ o = w.heap.size) :
    RowsM w' base (.slice (some ⟨o, 0, none⟩) (k + 1) cap) (k + 1) n (fun i => if i = k then r else g i) (fun i => if i = k then cr else c i) M := by
  have hlt : r < w.heap.size := (hr.lt r rfl).2
  have ho : ∀ i, i < k → o ≠ g i := fun i hi e => by
    rcases hat with q | q
    · exact h.ne i hi (by rw [q, e])
    · have := ((h.row i hi).lt (g i) rfl).2; omega
  have hor : o ≠ r := fun e => by
    rcases hat with q | q
    · exact hn (.inl (by rw [q, e]))
    · omega
  refine ⟨?_, fun i hi => ?_, fun i j hi hj e => ?_, fun i hi => ?_⟩
  · have e1 : ((List.range (k + 1)).map fun i => Value.slice (some ⟨if i = k then r else g i, 0, none⟩) n (if i = k then cr else c i)) = ((List.range k).map fun i => Value.slice (some ⟨g i, 0, none⟩) n (c i)) ++ [.slice (some ⟨r, 0, none⟩) n cr] := by
      rw [List.range_succ, List.map_append]
      congr 1
      · apply List.map_congr_left
        intro i hi
        have : i < k := by simpa using hi
        rw [if_neg (by omega), if_neg (by omega)]
      · simp
    show w'.ownsRow base 22 1 _ _ ((List.range (k + 1)).map fun i => Value.slice (some ⟨if i = k then r else g i, 0, none⟩) n (if i = k then cr else c i))
    rw [e1]; exact hown
  · by_cases e : i = k
    · subst e
      simp only [if_true]
      exact own_same hr fun b hb => hg.block b (hr.lt b hb).2 fun q => hn (.inl (q.symm.trans hb.symm))
    · simp only [e, if_false]
      have hik : i < k := by omega
      exact own_same (h.row i hik) fun b hb => hg.block b ((h.row i hik).lt b hb).2 fun q => h.ne i hik (q.symm.trans hb.symm)
  · by_cases e1 : i = k <;> by_cases e2 : j = k <;> simp only [e1, e2, if_true, if_false] at e
    · omega
    · exact absurd (.inr ⟨j, by omega, e.symm⟩) hn
    · exact absurd (.inr ⟨i, by omega, e⟩) hn
    · exact h.inj i j (by omega) (by omega) e
  · show (some o : Option Nat) ≠ some (if i = k then r else g i)
    intro q
    injection q with q
    by_cases e : i = k
    · rw [if_pos e] at q; exact hor q
    · rw [if_neg e] at q; exact ho i (by omega) q
theorem RowsM.S_push {r o cap : Nat} {b : Nat} (hb : rowsS (.slice (some ⟨o, 0, none⟩) (k + 1) cap) (k + 1) (fun i => if i = k then r else g i) b) : b = o ∨ b = r ∨ rowsS v k g b := by
  rcases hb with hb | ⟨i, hi, rfl⟩
  · left; exact (Option.some.inj hb).symm
  · by_cases e : i = k
    · right; left; simp [e]
    · right; right; exact .inr ⟨i, by omega, by simp [e]⟩
theorem RowsM.mat {O cap m : Nat} (h : RowsM w base (.slice (some ⟨O, 0, none⟩) m cap) m n g c M) : Mat w O g c m n M :=
  ⟨fun i hi => own_cell' h.own i _ (by simp [hi]), fun i _ => own_free' h.own i, fun i j hi hj => own_cell' (h.row i hi) j _ (by simp [hj]), fun i j hi _ => own_free' (h.row i hi) j,
   fun i hi => own_caps (h.row i hi), h.inj, fun i hi e => h.ne i hi (by show some O = _; rw [e]), fun i hi => ((h.row i hi).lt (g i) rfl).2, (h.own.lt O rfl).2⟩
end

theorem und_i64s' : Try.prog.underlying 22 = some (.slice 2) := by kernel_rfl
set_option maxRecDepth 100000 in
/-- Made: n numbers, all 0. -/
theorem made_i64 (w : World) (n : Nat) (z : Int) (hz : z = n) (hn : n ≤ 1000) : (Instr.makeSlice 22 (.int .i64 z) (.int .i64 z)).run Try.prog w = .ok (.slice (some ⟨w.heap.size, 0, none⟩) n n) (w.alloc (.cells (Array.replicate n (Value.int .i64 0)) 2)) := by
  subst hz
  obtain ⟨i, hi, hz0, hz1, hz2⟩ := info_parts inf_i64
  have := run_make (P := Try.prog) w 22 2 i _ und_i64s' hi hz0 .i64 .i64 n n (by omega) (Int.le_refl _) (by rw [hz2]; omega) (by omega)
  rw [this, hz1]
  simp only [Int.toNat_natCast, Nat.mul_one]
  congr 3
  simp only [madeCells, Value.cells]
  apply Array.ext_getElem?
  intro j
  by_cases hj : j < n
  · simp [hj, Nat.mod_one]
  · simp [hj]
theorem own_made (w : World) (base n g : Nat) (hg : g = w.heap.size) (hb : base ≤ g) (hn : n ≤ 1000) : (w.alloc (.cells (Array.replicate n (Value.int .i64 0)) 2)).ownsRow base 2 1 (.slice (some ⟨g, 0, none⟩) n n) n ((List.replicate n (0 : Int)).map (Value.int .i64)) := by
  subst hg
  refine ⟨by simp, Or.inr ⟨_, n, _, rfl, hb, heap_alloc_new w _, Nat.le_refl _, by unfold maxLen; omega, by simp, by simp⟩⟩
end Go.Proofs.Ytjcdkbalhleeeab
