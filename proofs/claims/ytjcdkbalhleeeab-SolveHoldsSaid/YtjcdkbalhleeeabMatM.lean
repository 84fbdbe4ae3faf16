/-
  Words for memory: a slice of slices of the call's own, each row in a block of its own: it reads as a matrix, and is written in place. No condition.
-/
import Derived.Test.YtjcdkbalhleeeabMem
import Derived.Test.YtjcdkbalhleeeabPlainA
namespace Go.Proofs.Ytjcdkbalhleeeab
open Go.RowKit

/-- Outer block O, rows in blocks g i with room c i: n cells a row, m rows. -/
structure Mat (w : World) (O : Nat) (g c : Nat → Nat) (m n : Nat) (M : Nat → Nat → Int) : Prop where
  out : ∀ i, i < m → w.cell? ⟨O, i, none⟩ = some (.slice (some ⟨g i, 0, none⟩) n (c i))
  ofree : ∀ i, i < m → w.frozen? ⟨O, i, none⟩ = false
  row : ∀ i j, i < m → j < n → w.cell? ⟨g i, j, none⟩ = some (.int .i64 (M i j))
  free : ∀ i j, i < m → j < n → w.frozen? ⟨g i, j, none⟩ = false
  le : ∀ i, i < m → n ≤ c i ∧ c i ≤ 9223372036854775807
  inj : ∀ i j, i < m → j < m → g i = g j → i = j
  ne : ∀ i, i < m → g i ≠ O
  lt : ∀ i, i < m → g i < w.heap.size
  olt : O < w.heap.size

/-- Only these blocks have turned, and new ones have come. -/
structure Turned (S : Nat → Prop) (w w' : World) : Prop where
  os : w'.os = w.os
  tape : w'.tape = w.tape
  output : w'.output = w.output
  size : w.heap.size ≤ w'.heap.size
  block : ∀ k, k < w.heap.size → ¬ S k → w'.heap[k]? = w.heap[k]?
theorem Turned.refl (S : Nat → Prop) (w : World) : Turned S w w := ⟨rfl, rfl, rfl, Nat.le_refl _, fun _ _ _ => rfl⟩
theorem Turned.trans {S : Nat → Prop} {a b c : World} (h : Turned S a b) (k : Turned S b c) : Turned S a c :=
  ⟨k.os.trans h.os, k.tape.trans h.tape, k.output.trans h.output, Nat.le_trans h.size k.size, fun i hi hs => (k.block i (Nat.lt_of_lt_of_le hi h.size) hs).trans (h.block i hi hs)⟩
theorem Turned.drewN {S : Nat → Prop} {a w : World} (h : Turned S a w) (n : Nat) : Turned S a (w.drewN n) := ⟨h.os, h.tape, h.output, h.size, h.block⟩
theorem Turned.drew {S : Nat → Prop} {a w : World} (h : Turned S a w) : Turned S a w.drew := ⟨h.os, h.tape, h.output, h.size, h.block⟩
theorem Turned.alloc {S : Nat → Prop} {a w : World} (h : Turned S a w) (o : Obj) : Turned S a (w.alloc o) :=
  h.trans ⟨rfl, rfl, rfl, by simp, fun k hk _ => Below.heap_alloc _ _ _ hk⟩
theorem Turned.setCell {S : Nat → Prop} {a w : World} (h : Turned S a w) {p : Addr} (hp : S p.block) (u : Value) : Turned S a (w.setCell p u) :=
  h.trans ⟨rfl, rfl, rfl, by simp [World.setCell], fun k _ hs => Below.heap_setCell _ _ _ _ (fun e => hs (e ▸ hp))⟩
theorem Turned.of_below {S : Nat → Prop} {a b : World} (h : Below a.heap.size a b) : Turned S a b := ⟨h.os, h.tape, h.output, h.size, fun k hk _ => h.block k hk⟩
theorem Turned.below {S : Nat → Prop} {a b : World} (h : Turned S a b) {B : Nat} (hB : B ≤ a.heap.size) (hS : ∀ k, S k → B ≤ k) : Below B a b :=
  ⟨h.os, h.tape, h.output, h.size, fun k hk => h.block k (by omega) (fun q => by have := hS k q; omega)⟩
theorem Turned.grown {S : Nat → Prop} {a w w' : World} {row : Option Nat} (h : Turned S a w) (hg : w.grownBy w' row) (hr : ∀ k, row = some k → a.heap.size ≤ k) : Turned S a w' :=
  ⟨hg.os.trans h.os, hg.tape.trans h.tape, hg.output.trans h.output, Nat.le_trans h.size hg.size, fun k hk hs => (hg.block k (Nat.lt_of_lt_of_le hk h.size) (fun e => by have := hr k e.symm; omega)).trans (h.block k hk hs)⟩

section
variable {w w' : World} {O : Nat} {g c : Nat → Nat} {m n : Nat} {M : Nat → Nat → Int}
theorem Mat.congr (h : Mat w O g c m n M) {M' : Nat → Nat → Int} (e : ∀ i j, i < m → j < n → M i j = M' i j) : Mat w O g c m n M' :=
  ⟨h.out, h.ofree, fun i j hi hj => by rw [← e i j hi hj]; exact h.row i j hi hj, h.free, h.le, h.inj, h.ne, h.lt, h.olt⟩
theorem Mat.drewN (h : Mat w O g c m n M) (k : Nat) : Mat (w.drewN k) O g c m n M := ⟨h.out, h.ofree, h.row, h.free, h.le, h.inj, h.ne, h.lt, h.olt⟩
theorem Mat.drew (h : Mat w O g c m n M) : Mat w.drew O g c m n M := ⟨h.out, h.ofree, h.row, h.free, h.le, h.inj, h.ne, h.lt, h.olt⟩
theorem Mat.below (h : Mat w O g c m n M) (hb : Below w.heap.size w w') : Mat w' O g c m n M :=
  ⟨fun i hi => (hb.cell (p := ⟨O, i, none⟩) h.olt).trans (h.out i hi), fun i hi => (hb.frozen (p := ⟨O, i, none⟩) h.olt).trans (h.ofree i hi),
   fun i j hi hj => (hb.cell (p := ⟨g i, j, none⟩) (h.lt i hi)).trans (h.row i j hi hj), fun i j hi hj => (hb.frozen (p := ⟨g i, j, none⟩) (h.lt i hi)).trans (h.free i j hi hj),
   h.le, h.inj, h.ne, fun i hi => Nat.lt_of_lt_of_le (h.lt i hi) hb.size, Nat.lt_of_lt_of_le h.olt hb.size⟩
/-- One number stored. -/
theorem Mat.put (h : Mat w O g c m n M) {i j : Nat} (hi : i < m) (hj : j < n) (z : Int) : Mat (w.setCell ⟨g i, j, none⟩ (.int .i64 z)) O g c m n (fun i' j' => if i' = i ∧ j' = j then z else M i' j') := by
  refine ⟨fun i' hi' => ?_, fun i' hi' => ?_, fun i' j' hi' hj' => ?_, fun i' j' hi' hj' => ?_, h.le, h.inj, h.ne, fun i' hi' => by simpa using h.lt i' hi', by simpa using h.olt⟩
  · rw [World.cell?_setCell_other w _ _ _ (fun e => h.ne i hi (by injection e with e1))]; exact h.out i' hi'
  · rw [World.frozen?_setCell]; exact h.ofree i' hi'
  · by_cases e : i' = i ∧ j' = j
    · obtain ⟨rfl, rfl⟩ := e
      rw [if_pos ⟨rfl, rfl⟩]
      exact World.cell?_setCell_same' w _ _ (by rw [h.row _ _ hi' hj']; rfl)
    · rw [if_neg e, World.cell?_setCell_other w _ _ _ (fun q => e (by injection q with q1 q2; exact ⟨(h.inj _ _ hi hi' (by omega)).symm, by omega⟩))]
      exact h.row i' j' hi' hj'
  · rw [World.frozen?_setCell]; exact h.free i' j' hi' hj'
/-- Two rows changed. -/
theorem sw_lt {k a m i : Nat} (hk : k < m) (ha : a < m) (hi : i < m) : sw k a i < m := by unfold sw; split; exact ha; split; exact hk; exact hi
theorem sw_inj {k a i j : Nat} (h : sw k a i = sw k a j) : i = j := by unfold sw at h; split at h <;> split at h <;> (try split at h) <;> (try split at h) <;> omega
theorem Mat.swap (h : Mat w O g c m n M) {k a : Nat} (hk : k < m) (ha : a < m) (hka : k ≠ a) :
    Mat ((w.setCell ⟨O, k, none⟩ (.slice (some ⟨g a, 0, none⟩) n (c a))).setCell ⟨O, a, none⟩ (.slice (some ⟨g k, 0, none⟩) n (c k))) O (fun i => g (sw k a i)) (fun i => c (sw k a i)) m n (fun i j => M (sw k a i) j) := by
  refine ⟨fun i hi => ?_, fun i hi => ?_, fun i j hi hj => ?_, fun i j hi hj => ?_, fun i hi => h.le _ (sw_lt hk ha hi), fun i j hi hj e => sw_inj (h.inj _ _ (sw_lt hk ha hi) (sw_lt hk ha hj) e), fun i hi => h.ne _ (sw_lt hk ha hi), fun i hi => by simpa using h.lt _ (sw_lt hk ha hi), by simpa using h.olt⟩
  · have hc : ((w.setCell ⟨O, k, none⟩ (.slice (some ⟨g a, 0, none⟩) n (c a))).cell? ⟨O, a, none⟩).isSome = true := by
      rw [World.cell?_setCell_other w _ _ _ (fun e => hka (by injection e)), h.out a ha]; rfl
    by_cases e1 : i = a
    · subst e1
      rw [World.cell?_setCell_same' _ _ _ hc]
      unfold sw; rw [if_neg (by omega), if_pos rfl]
    · rw [World.cell?_setCell_other _ _ _ _ (fun e => e1 (by injection e with _ e2; omega))]
      by_cases e2 : i = k
      · subst e2
        rw [World.cell?_setCell_same' w _ _ (by rw [h.out i hi]; rfl)]
        unfold sw; rw [if_pos rfl]
      · rw [World.cell?_setCell_other _ _ _ _ (fun e => e2 (by injection e with _ e3; omega)), h.out i hi]
        unfold sw; rw [if_neg e2, if_neg e1]
  · rw [World.frozen?_setCell, World.frozen?_setCell]; exact h.ofree i hi
  · have hn := h.ne _ (sw_lt hk ha hi)
    rw [World.cell?_setCell_other _ _ _ _ (fun e => hn (by injection e with e1; exact e1.symm)), World.cell?_setCell_other _ _ _ _ (fun e => hn (by injection e with e1; exact e1.symm))]
    exact h.row _ j (sw_lt hk ha hi) hj
  · rw [World.frozen?_setCell, World.frozen?_setCell]; exact h.free _ j (sw_lt hk ha hi) hj
end
end Go.Proofs.Ytjcdkbalhleeeab
