/-
  Words for append of many elements at any slice. No condition.
-/
import Derived.Test.YtjcdkbalhleeeabDoorMem
namespace Go.Proofs.YtjcdkbalhleeeabDoor
open Go.RowKit

section
variable {ops : Array Oper} {rest : List Oper} {o : Oper} {a : Act} {w : World} {Q : Exit → Act → World → Prop}
theorem list_appG (hgd : o.guard = none) (s x : Operand) (T E : TypeId) (z : Value) (bytes : Nat) (hT : Tryd.prog.underlying T = some (.slice E))
    (hI : (Tryd.prog.info? E).map (fun i => (i.zero, i.size, i.bytes)) = some (some z, 1, bytes)) (hz : z.cells.size = 1)
    (ho : o.op = .call { callee := .builtin .append, args := #[s, x], argTypes := #[T, T] })
    (base : Nat) (v : Value) (n : Nat) (xs : List Value) (hs : a.eval s = v) (hown : w.ownsRow base E 1 v n xs) (hv : v ≠ .slice none 0 0)
    (A : Option Addr) (m c : Nat) (news : List Value) (hx : a.eval x = .slice A m c) (hl : news.length = m) (h0 : A = none → m = 0 ∧ c = 0) (hnews : Cells w A news) (h1 : ∀ u ∈ news, u.oneCell' = true)
    (h63 : n + m ≤ maxLen) (hbytes : (n + m) * bytes ≤ 140737488355328) (hbase : base ≤ w.heap.size)
    (h : ∀ g cap w', w'.ownsRow base E 1 (.slice (some ⟨g, 0, none⟩) (n + m) cap) (n + m) (xs ++ news) → w.grownBy w' v.ownBlock → (v.ownBlock = some g ∨ g = w.heap.size) → g < w'.heap.size → wpList Tryd.prog ops Q rest (a.put o.dst (.slice (some ⟨g, 0, none⟩) (n + m) cap)) w') :
    wpList Tryd.prog ops Q (o :: rest) a w := by
  obtain ⟨i, hi, hz0, hz1, hz2⟩ := info_parts hI
  by_cases hm : m = 0
  · subst hm
    obtain rfl : news = [] := List.eq_nil_of_length_eq_zero hl
    have hown' := hown
    rcases hown.2 with ⟨rfl, hn⟩ | ⟨g, cap, cur, rfl, hb, hg, hnc, hcm, hcs, htake⟩
    · subst hn; exact absurd rfl hv
    · have hlt := (hown.lt g rfl).2
      refine wpList_append_fits_any w hgd s x T ho base E i 1 hT hi hz1 g n cap xs hs hown' A 0 c [] hx (by simp) h0 (fun ad _ j u hu => by simp at hu) (by simp) (by omega) fun w' h2 h3 => ?_
      exact h g cap w' h2 h3 (Or.inl rfl) (Nat.lt_of_lt_of_le hlt h3.size)
  · obtain ⟨ad, rfl, hc⟩ := hnews (by omega)
    exact wpList_append_lies w hgd s x T ho base E i z 1 bytes hT hi hz0 hz1 hz2 hz (by omega) v n xs hs hown ad m c news hx (by omega) hc h1 (by omega) h63 hbytes hbase _ rfl h
end
theorem addzG (b j : Nat) : (⟨b, 0, none⟩ : Addr).add j = ⟨b, j, none⟩ := by unfold Addr.add; split <;> simp_all
end Go.Proofs.YtjcdkbalhleeeabDoor
