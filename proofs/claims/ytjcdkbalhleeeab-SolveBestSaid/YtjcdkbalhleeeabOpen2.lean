/-
  A program that a law is handed, opened to plain lists. No condition but the form's own reach.
-/
import Derived.Test.YtjcdkbalhleeeabOpen
import Derived.Test.YtjcdkbalhleeeabMemP
namespace Go.Proofs.Ytjcdkbalhleeeab
open Go.RowKit Go.WideShapes Go.ChangeShapes Go.Deep

theorem weights_all {H : Type} {P : Program} {e : TypeId} {l : List (DataW H)} {d : DataW H} (h : d ∈ l) : ∀ n ∈ d.weights P e, n ∈ DataW.weightsAll P e l := by
  induction l with
  | nil => simp at h
  | cons x l ih =>
    intro n hn
    simp only [DataW.weightsAll, List.mem_append]
    rcases List.mem_cons.1 h with rfl | h
    · exact Or.inl hn
    · exact Or.inr (ih h n hn)
theorem sized_elem {H : Type} {P : Program} {t e : TypeId} {l s : List (DataW H)} (ht : P.underlying t = some (.slice e)) (h : Sized P t (.slice l s)) {d : DataW H} (hd : d ∈ l) : Sized P e d := fun n hn =>
  h n (by simp only [DataW.weights, ht, List.mem_cons, List.mem_append]; exact Or.inr (Or.inl (weights_all hd n hn)))

theorem cells_row : Try.prog.cellsOf 36 = 2 := by kernel_rfl
theorem bytes_row : Try.prog.bytesOf 36 = 32 := by kernel_rfl
theorem cells_rows : Try.prog.cellsOf 23 = 1 := by kernel_rfl
theorem cells_prog : Try.prog.cellsOf 25 = 2 := by kernel_rfl

section
variable {H : Type} {enc : TypeId × Value → H} {w : World} {n : Nat}

theorem add_one (a : Addr) : a.add 1 = ⟨a.block, a.off + 1, none⟩ := rfl
theorem add_zero' (a : Addr) : a.add 0 = a := rfl

set_option maxRecDepth 100000 in
/-- A slice of rows, off its cells. -/
theorem rd_rows {cs : List Value} {x : DataW H × List MemPlace} (h : DataW.trod enc Try.prog w 0 (fun _ => true) true n 23 cs = some x) (hs : Sized Try.prog 23 x.1) :
    ∃ A c rs, cs = [.slice A rs.length c] ∧ Rw w A c rs := by
  rcases open_slice Try.underlying23 h with ⟨rfl, rfl⟩ | ⟨a, len, cap, m, fuel, D, Pl, rfl, hb, hl, hm, hmm, rfl, hi⟩
  · exact ⟨none, 0, [], rfl, ⟨by simp, by omega, by simp, fun h => by simp at h⟩⟩
  · simp only [if_true] at hmm
    subst hmm
    have hsz : (m * 32 : Nat) ≤ reachBytes := by
      have := hs ((len + (m - len)) * Try.prog.bytesOf 36) (by simp [DataW.weights, Try.underlying23])
      rw [bytes_row] at this
      rwa [show len + (m - len) = m from by omega] at this
    have hr : reachBytes ≤ 140737488351232 := by decide
    have hrow : ∀ i, i < len → ∃ r : List Int × Int, ∃ A' c', w.cell? (a.add (i * 2)) = some (.slice A' r.1.length c') ∧ w.cell? ⟨(a.add (i * 2)).block, (a.add (i * 2)).off + 1, none⟩ = some (.int .i64 r.2) ∧ Rd w A' c' r.1 := by
      intro i hil
      obtain ⟨cs', hc, ht⟩ := hi i (by omega)
      rw [cells_row] at hc
      have hsi : Sized Try.prog 36 (D i) := sized_elem Try.underlying23 hs (List.mem_map_of_mem (by simpa using hil))
      obtain ⟨y0, y1, k, hk, h0, h1, s0, _⟩ := rd_two Try.underlying36 ht hsi
      obtain ⟨u, v, rfl⟩ := list2 (hk.trans cells_row)
      simp only [cells_int64, cells_ints] at h0 h1
      obtain ⟨A', c', l, ha, hr, _⟩ := rd_ints Try.underlying22 Try.underlying2 cells_int64 bytes_int64 h0 s0
      obtain ⟨z, hz, _⟩ := rd_int Try.underlying2 h1
      simp at ha hz
      subst ha hz
      obtain ⟨_, _, hat⟩ := World.cells?_some hc
      exact ⟨(l, z), A', c', by have := hat 0 (by omega); rw [add_zero'] at this; simpa using this, by simpa [add_one] using hat 1 (by omega), hr⟩
    obtain ⟨f, hf⟩ := choose_lt hrow
    refine ⟨some a, m, (List.range len).map f, by simp, ⟨by simpa using hl, by unfold maxLen at hm; omega, by simp; omega, fun _ => ⟨a, rfl, fun j hj => ?_⟩⟩⟩
    have hj' : j < len := by simpa using hj
    simpa using hf j hj'

set_option maxRecDepth 100000 in
/-- A program, off its cells. -/
theorem rd_prog {cs : List Value} {x : DataW H × List MemPlace} (h : DataW.trod enc Try.prog w 0 (fun _ => true) true n 25 cs = some x) (hs : Sized Try.prog 25 x.1) :
    ∃ A c A2 c2 p, cs = [.slice A p.costs.length c, .slice A2 p.rows.length c2] ∧ Pg w A c A2 c2 p := by
  obtain ⟨y0, y1, m, hl, h0, h1, s0, s1⟩ := rd_two Try.underlying25 h hs
  obtain ⟨u, v, rfl⟩ := list2 (hl.trans cells_prog)
  simp only [cells_rows, cells_ints] at h0 h1
  obtain ⟨A, c, l, ha, hr, _⟩ := rd_ints Try.underlying22 Try.underlying2 cells_int64 bytes_int64 h0 s0
  obtain ⟨A2, c2, rs, hb, hrs⟩ := rd_rows h1 s1
  simp at ha hb
  exact ⟨A, c, A2, c2, ⟨l, rs⟩, by rw [ha, hb], ⟨hr, hrs⟩⟩

set_option maxRecDepth 100000 in
theorem op_prog {r : Reach} {b0 : Nat} {v : Value} {d : DataW H} {p : List MemPlace} (hv : Value.okWide Try.prog w r b0 25 v) (h : DataW.Trod enc Try.prog w 0 (fun _ => true) true 25 v d p) (hs : Sized Try.prog 25 d) :
    ∃ A c A2 c2 q, v = .agg #[.slice A q.costs.length c, .slice A2 q.rows.length c2] ∧ Pg w A c A2 c2 q := by
  obtain ⟨⟨cs⟩, rfl, hl⟩ := okWide_struct Try.underlying25 hv
  obtain ⟨fuel, hf⟩ := h
  obtain ⟨A, c, A2, c2, q, hcs, hq⟩ := rd_prog hf hs
  simp [Value.cells] at hcs
  exact ⟨A, c, A2, c2, q, by rw [hcs], hq⟩
end
end Go.Proofs.Ytjcdkbalhleeeab
