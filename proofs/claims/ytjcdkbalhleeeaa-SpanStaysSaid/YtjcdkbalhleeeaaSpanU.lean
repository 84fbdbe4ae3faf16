/-
  Plain: the document's steps narrow as the program's do, of costs.
-/
import Derived.Test.YtjcdkbalhleeeaaSpan3
import Derived.Test.YtjcdkbalhleeeaaRefB
namespace Go.Proofs.Ytjcdkbalhleeeaa

/-- The document's numbers: below 0 where the program's are above. -/
def upN (p : PG) (l : List Int) (b : List Int) : NW := upZ (fun j => 0 - fN 1 (lookC p l).gs (lookC (costsOf p b) l).gd j) (fun j => 0 - fN 1 (lookC (costsOf p b) l).gs (lookC p l).gd j) (lookC p l).gs.length
/-- Both narrow alike. -/
theorem costs_up {p : PG} {l : List Int} {b : List Int} (h0 : lookE p l = 0) (hb : b.length = p.costs.length) (hs : smallB 400 b = true) (k : Nat) (hk : k ≤ (lookC p l).gs.length) :
    upZ (fun j => 0 - fN 1 (lookC p l).gs (lookC (costsOf p b) l).gd j) (fun j => 0 - fN 1 (lookC (costsOf p b) l).gs (lookC p l).gd j) k = ofZ (fN 1 (lookC p l).gs (lookC (costsOf p b) l).gd) (fN 1 (lookC (costsOf p b) l).gs (lookC p l).gd) k ∧
      NOk (ofZ (fN 1 (lookC p l).gs (lookC (costsOf p b) l).gd) (fN 1 (lookC (costsOf p b) l).gs (lookC p l).gd) k) := by
  obtain ⟨_, _, _, hc⟩ := look_corn h0
  obtain ⟨_, _, _, hd⟩ := look_corn (costs_E hb hs h0)
  refine of_up (fun _ _ => rfl) (fun _ _ => rfl) fun j hj h => ?_
  have hjn : j < p.costs.length + p.rows.length := by rw [hc.lg] at hk; omega
  have := span_made hb hc hd j hjn (by unfold gZ; intro e; apply h; unfold fN; rw [Int.one_mul]; exact e)
  unfold fN
  rw [Int.one_mul, Int.one_mul]
  exact this


theorem mayB_parts2 {n d : Int} (h : mayB [n] d = true) : 1 ≤ d ∧ d ≤ 1073741824 ∧ (-1073741824 ≤ n ∧ n ≤ 1073741824) ∧ True := by
  simp only [mayB, rightB, Bool.and_eq_true, decide_eq_true_eq, smallB_one] at h
  exact ⟨h.1.1, h.1.2.1, h.1.2.2.1, trivial⟩
end Go.Proofs.Ytjcdkbalhleeeaa
