/-
  Words for memory: any number of new elements behind a slice of the call's own; slices of slices that are read. No condition.
-/
import Derived.Test.YtjcdkbalhleeeabMatM
namespace Go.Proofs.Ytjcdkbalhleeeab
open Go.RowKit

section
variable {ops : Array Oper} {rest : List Oper} {o : Oper} {a : Act} {w : World} {Q : Exit → Act → World → Prop}
theorem list_appM (hgd : o.guard = none) (s x : Operand) (T E : TypeId) (z : Value) (bytes : Nat) (hT : Try.prog.underlying T = some (.slice E))
    (hI : (Try.prog.info? E).map (fun i => (i.zero, i.size, i.bytes)) = some (some z, 1, bytes)) (hz : z.cells.size = 1)
    (ho : o.op = .call { callee := .builtin .append, args := #[s, x], argTypes := #[T, T] })
    (base : Nat) (v : Value) (n : Nat) (xs : List Value) (hs : a.eval s = v) (hown : w.ownsRow base E 1 v n xs) (hv : v ≠ .slice none 0 0)
    (A : Option Addr) (m c : Nat) (news : List Value) (hx : a.eval x = .slice A m c) (hl : news.length = m) (h0 : A = none → m = 0 ∧ c = 0) (hnews : Cells w A news) (h1 : ∀ u ∈ news, u.oneCell' = true)
    (h63 : n + m ≤ maxLen) (hbytes : (n + m) * bytes ≤ 140737488355328) (hbase : base ≤ w.heap.size)
    (h : ∀ g cap w', w'.ownsRow base E 1 (.slice (some ⟨g, 0, none⟩) (n + m) cap) (n + m) (xs ++ news) → w.grownBy w' v.ownBlock → (v.ownBlock = some g ∨ g = w.heap.size) → g < w'.heap.size → wpList Try.prog ops Q rest (a.put o.dst (.slice (some ⟨g, 0, none⟩) (n + m) cap)) w') :
    wpList Try.prog ops Q (o :: rest) a w := by
  obtain ⟨i, hi, hz0, hz1, hz2⟩ := info_parts hI
  by_cases hm : m = 0
  · subst hm
    obtain rfl : news = [] := List.eq_nil_of_length_eq_zero hl
    have hown' := hown
    rcases hown.2 with ⟨rfl, hn⟩ | ⟨g, cap, cur, rfl, hb, hg, hnc, hcm, hcs, htake⟩
    · subst hn; exact absurd rfl hv
    · have hlt := (hown.lt g rfl).2
      refine wpList_append_fits_any w hgd s x T ho base E i 1 hT hi hz1 g n cap xs hs hown' A 0 c [] hx (by simp) h0 (fun ad _ j u hu => by simp at hu) (by simp) (by omega) fun w' h2 h3 => ?_
      exact h g cap w' h2 h3 (Or.inl rfl) (Nat.lt_of_lt_of_le hlt h3.size)
  · obtain ⟨ad, rfl, hc⟩ := hnews (by omega)
    exact wpList_append_lies w hgd s x T ho base E i z 1 bytes hT hi hz0 hz1 hz2 hz (by omega) v n xs hs hown ad m c news hx (by omega) hc h1 (by omega) h63 hbytes hbase _ rfl h
end
theorem und_rows : Try.prog.underlying 87 = some (.slice 22) := by kernel_rfl
theorem inf_ints : (Try.prog.info? 22).map (fun i => (i.zero, i.size, i.bytes)) = some (some (.slice none 0 0), 1, 24) := by kernel_rfl

theorem addz (b j : Nat) : (⟨b, 0, none⟩ : Addr).add j = ⟨b, j, none⟩ := by unfold Addr.add; split <;> simp_all
/-- A slice of slices of numbers reads as rows. -/
structure Rm (w : World) (A : Option Addr) (c : Nat) (rs : List (List Int)) : Prop where
  le : rs.length ≤ c
  cap : c ≤ 9223372036854775807
  cells : 0 < rs.length → ∃ ad, A = some ad ∧ ∀ (j : Nat) (hj : j < rs.length), ∃ A' c', w.cell? (ad.add j) = some (.slice A' rs[j].length c') ∧ Rd w A' c' rs[j]
section
variable {w w' : World} {A : Option Addr} {c : Nat} {rs : List (List Int)}
theorem Rm.keep (h : Rm w A c rs) (hk : ∀ p : Addr, p.block < w.heap.size → w'.cell? p = w.cell? p) : Rm w' A c rs :=
  ⟨h.le, h.cap, fun hl => by
    obtain ⟨ad, e, hc⟩ := h.cells hl
    refine ⟨ad, e, fun j hj => ?_⟩
    obtain ⟨A', c', h1, h2⟩ := hc j hj
    exact ⟨A', c', (hk _ (World.block_lt_of_cell? w _ h1)).trans h1, h2.keep hk⟩⟩
theorem Rm.below (h : Rm w A c rs) (hb : Below w.heap.size w w') : Rm w' A c rs := h.keep fun _ hp => hb.cell hp
theorem Rm.at_ (h : Rm w A c rs) {k : Nat} (hk : k < rs.length) : ∃ ad A' c', A = some ad ∧ w.cell? (ad.add k) = some (.slice A' rs[k].length c') ∧ Rd w A' c' rs[k] := by
  obtain ⟨ad, e, hc⟩ := h.cells (by omega)
  obtain ⟨A', c', h1, h2⟩ := hc k hk
  exact ⟨ad, A', c', e, h1, h2⟩
/-- A matrix reads as its rows. -/
theorem Mat.reads {O : Nat} {g c : Nat → Nat} {m n : Nat} {M : Nat → Nat → Int} (h : Mat w O g c m n M) {c0 : Nat} (h1 : m ≤ c0) (h2 : c0 ≤ 9223372036854775807) (h3 : n ≤ 17592186044416) :
    Rm w (some ⟨O, 0, none⟩) c0 ((List.range m).map fun i => (List.range n).map fun j => M i j) := by
  refine ⟨by simpa using h1, h2, fun _ => ⟨_, rfl, fun j hj => ?_⟩⟩
  have hj' : j < m := by simpa using hj
  refine ⟨some ⟨g j, 0, none⟩, c j, ?_, ?_⟩
  · rw [addz]; simpa using h.out j hj'
  · simp only [List.getElem_map, List.getElem_range]
    refine ⟨by simpa using (h.le j hj').1, (h.le j hj').2, by simpa using h3, fun _ => ⟨_, rfl, fun q u hu => ?_⟩⟩
    simp only [List.getElem?_map, Option.map_eq_some_iff] at hu
    obtain ⟨_, ⟨q', hq', rfl⟩, rfl⟩ := hu
    have hqn : q < n := by
      have := (List.getElem?_eq_some_iff.1 hq').1; simpa using this
    have e : q' = q := by
      have := (List.getElem?_eq_some_iff.1 hq').2; simpa using this.symm
    subst e
    rw [addz]; exact h.row j q' hj' hqn
end
end Go.Proofs.Ytjcdkbalhleeeab
