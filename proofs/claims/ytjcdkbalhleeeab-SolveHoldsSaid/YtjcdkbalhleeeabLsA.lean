/-
  Words for memory: a slice of slices of whole numbers, that reads as a list of lists, and one that the call makes. No condition.
-/
import Derived.Test.YtjcdkbalhleeeabJAppN
namespace Go.Proofs.Ytjcdkbalhleeeab
open Go.RowKit

theorem und_intss : Try.prog.underlying 27 = some (.slice 26) := by kernel_rfl
theorem inf_intS : (Try.prog.info? 26).map (fun i => (i.zero, i.size, i.bytes)) = some (some (.slice none 0 0), 1, 24) := by kernel_rfl

/-- A slice of slices reads as a list of lists. -/
structure Ls (w : World) (A : Option Addr) (c : Nat) (ls : List (List Int)) : Prop where
  le : ls.length ≤ c
  cap : c ≤ 9223372036854775807
  small : ls.length ≤ 100000
  cells : 0 < ls.length → ∃ ad, A = some ad ∧ ∀ j, j < ls.length → ∃ A' c', w.cell? (ad.add j) = some (.slice A' (ls.getD j []).length c') ∧ Rd w A' c' (ls.getD j [])
section
variable {w w' : World} {A : Option Addr} {c : Nat} {ls : List (List Int)}
theorem Ls.below (h : Ls w A c ls) (hb : Below w.heap.size w w') : Ls w' A c ls :=
  ⟨h.le, h.cap, h.small, fun h0 => by
    obtain ⟨ad, e, hc⟩ := h.cells h0
    exact ⟨ad, e, fun j hj => by
      obtain ⟨A', c', h1, h2⟩ := hc j hj
      exact ⟨A', c', (hb.cell (World.block_lt_of_cell? _ _ h1)).trans h1, h2.below hb⟩⟩⟩
theorem Ls.nil (w : World) : Ls w none 0 [] := ⟨by simp, by omega, by simp, fun h => by simp at h⟩
/-- One element of it. -/
theorem Ls.at_ (h : Ls w A c ls) {k : Nat} (hk : k < ls.length) : ∃ ad A' c', A = some ad ∧ w.cell? (ad.add k) = some (.slice A' (ls.getD k []).length c') ∧ Rd w A' c' (ls.getD k []) := by
  obtain ⟨ad, e, hc⟩ := h.cells (by omega)
  obtain ⟨A', c', h1, h2⟩ := hc k hk
  exact ⟨ad, A', c', e, h1, h2⟩
end

/-- A slice of slices that the call makes, of the first k. -/
structure LsB (w : World) (base : Nat) (v : Value) (k : Nat) (As : Nat → Option Addr) (cs : Nat → Nat) (f : Nat → List Int) : Prop where
  own : w.ownsRow base 26 1 v k ((List.range k).map fun i => Value.slice (As i) (f i).length (cs i))
  rd : ∀ i, i < k → Rd w (As i) (cs i) (f i)
  ne : ∀ i, i < k → ∀ ad, As i = some ad → v.ownBlock ≠ some ad.block
section
variable {w w' : World} {base k : Nat} {v : Value} {As : Nat → Option Addr} {cs : Nat → Nat} {f : Nat → List Int}
theorem LsB.nil (w : World) (base : Nat) (As : Nat → Option Addr) (cs : Nat → Nat) (f : Nat → List Int) : LsB w base (.slice none 0 0) 0 As cs f :=
  ⟨World.ownsRow_nil _ _ _ _, fun i hi => by omega, fun i hi => by omega⟩
theorem LsB.below (h : LsB w base v k As cs f) (hb : Below w.heap.size w w') : LsB w' base v k As cs f :=
  ⟨own_below h.own hb, fun i hi => (h.rd i hi).below hb, h.ne⟩
theorem Rd.grown' {A : Option Addr} {c : Nat} {l : List Int} {row : Option Nat} (h : Rd w A c l) (hg : w.grownBy w' row) (hr : ∀ ad, A = some ad → row ≠ some ad.block) : Rd w' A c l :=
  h.same fun ad e hlt => hg.block _ hlt fun q => hr ad e q.symm
/-- One more. -/
theorem LsB.push (h : LsB w base v k As cs f) {A : Option Addr} {c o cap : Nat} (hr : Rd w A c (f k)) (hn : ∀ ad, A = some ad → v.ownBlock ≠ some ad.block) (hlt : ∀ ad, A = some ad → ad.block < w.heap.size)
    (hlts : ∀ i, i < k → ∀ ad, As i = some ad → ad.block < w.heap.size)
    (hown : w'.ownsRow base 26 1 (.slice (some ⟨o, 0, none⟩) (k + 1) cap) (k + 1) (((List.range k).map fun i => Value.slice (As i) (f i).length (cs i)) ++ [.slice A (f k).length c]))
    (hg : w.grownBy w' v.ownBlock) (hat : v.ownBlock = some o ∨ o = w.heap.size) :
    LsB w' base (.slice (some ⟨o, 0, none⟩) (k + 1) cap) (k + 1) (fun i => if i = k then A else As i) (fun i => if i = k then c else cs i) f := by
  refine ⟨?_, fun i hi => ?_, fun i hi ad e => ?_⟩
  · have e1 : ((List.range (k + 1)).map fun i => Value.slice (if i = k then A else As i) (f i).length (if i = k then c else cs i)) = ((List.range k).map fun i => Value.slice (As i) (f i).length (cs i)) ++ [.slice A (f k).length c] := by
      rw [List.range_succ, List.map_append]
      congr 1
      · apply List.map_congr_left
        intro i hi
        have : i < k := by simpa using hi
        rw [if_neg (by omega), if_neg (by omega)]
      · simp
    show w'.ownsRow base 26 1 _ _ ((List.range (k + 1)).map fun i => Value.slice (if i = k then A else As i) (f i).length (if i = k then c else cs i))
    rw [e1]; exact hown
  · by_cases e : i = k
    · subst e; simp only [if_true]; exact hr.grown' hg hn
    · simp only [e, if_false]; exact (h.rd i (by omega)).grown' hg (h.ne i (by omega))
  · have key : ∀ ad : Addr, ad.block < w.heap.size → v.ownBlock ≠ some ad.block → (Value.slice (some ⟨o, 0, none⟩) (k + 1) cap).ownBlock ≠ some ad.block := by
      intro ad h1 h2 q
      have q' : o = ad.block := Option.some.inj q
      rcases hat with w | w
      · exact h2 (w.trans q)
      · omega
    by_cases e' : i = k
    · subst e'; simp only [if_true] at e; exact key ad (hlt ad e) (hn ad e)
    · simp only [e', if_false] at e; exact key ad (hlts i (by omega) ad e) (h.ne i (by omega) ad e)
theorem LsB.read {g cap : Nat} (h : LsB w base (.slice (some ⟨g, 0, none⟩) k cap) k As cs f) (hk : k ≤ 100000) : Ls w (some ⟨g, 0, none⟩) cap ((List.range k).map f) := by
  have hc := own_caps h.own
  refine ⟨by simpa using hc.1, hc.2, by simpa using hk, fun _ => ⟨_, rfl, fun j hj => ?_⟩⟩
  have hj' : j < k := by simpa using hj
  have e : ((List.range k).map f).getD j [] = f j := by simp [List.getD, hj']
  rw [e]
  refine ⟨As j, cs j, ?_, h.rd j hj'⟩
  have h1 := own_cell' h.own j (.slice (As j) (f j).length (cs j)) (by simp [hj'])
  have e1 : (⟨g, 0, none⟩ : Addr).add j = ⟨g, j, none⟩ := by unfold Addr.add; split <;> simp_all
  rw [e1]; exact h1
end
section
variable {ops : Array Oper} {rest : List Oper} {o : Oper} {a : Act} {w : World} {Q : Exit → Act → World → Prop}
set_option maxRecDepth 100000 in
/-- One more slice behind. -/
theorem list_appS (hgd : o.guard = none) (s x : Operand) (ho : o.op = .call { callee := .builtin .append, args := #[s, x], argTypes := #[27, 27] })
    (base : Nat) (v : Value) (n : Nat) (xs : List Value) (u : Value) (hs : a.eval s = v) (hown : w.ownsRow base 26 1 v n xs)
    (b c : Nat) (hx : a.eval x = .slice (some ⟨b, 0, none⟩) 1 c) (hb : w.cell? ⟨b, 0, none⟩ = some u) (hu : u.oneCell' = true) (hn : n ≤ 100000) (hbase : base ≤ w.heap.size)
    (h : ∀ g cap w', w'.ownsRow base 26 1 (.slice (some ⟨g, 0, none⟩) (n + 1) cap) (n + 1) (xs ++ [u]) → w.grownBy w' v.ownBlock → (v.ownBlock = some g ∨ g = w.heap.size) → g < w'.heap.size → wpList Try.prog ops Q rest (a.put o.dst (.slice (some ⟨g, 0, none⟩) (n + 1) cap)) w') :
    wpList Try.prog ops Q (o :: rest) a w :=
  list_app1 hgd s x 27 26 (.slice none 0 0) 24 und_intss inf_intS rfl ho base v n xs u hs hown b c hx hb hu (by unfold maxLen; omega) (by omega) hbase h
end
end Go.Proofs.Ytjcdkbalhleeeab
