/-
  Plain words and laws of linear programs, put together: no program in sight. No condition.
-/
import Derived.Test.YtjcdkbalhleeeabPlainA
/-
  Plain: the program whose rows may be at most what a column has; a sort of rising columns with one more. No program in sight.
-/
namespace Go.Proofs.Ytjcdkbalhleeeab

/-- What a column has, row by row. -/
def colP (p : PG) (r : Nat) : List Int := (List.range p.rows.length).map fun i => hasZ p i r
theorem colP_len (p : PG) (r : Nat) : (colP p r).length = p.rows.length := by simp [colP]
theorem colP_at (p : PG) (r : Nat) {i : Nat} (h : i < p.rows.length) : (colP p r).getD i 0 = hasZ p i r := by simp [colP, List.getD, h]
theorem qOf_mosts (p : PG) (r : Nat) : qOf p r = mostsOf p (colP p r) := by
  unfold qOf mostsOf rowsK
  congr 1
  refine List.map_congr_left fun i hi => ?_
  rw [colP_at p r (List.mem_range.1 hi)]
theorem colP_small {p : PG} (hp : mayPB p = true) (r : Nat) : smallB 12 (colP p r) = true := by
  unfold smallB colP
  rw [List.all_eq_true]
  intro x hx
  simp only [List.mem_map, List.mem_range] at hx
  obtain ⟨i, hi, rfl⟩ := hx
  have := hasZ_bound hp i r
  simp
  omega
theorem qOf_E {p : PG} {l : List Int} (h : lookE p l = 0) (r : Nat) : lookE (qOf p r) l = 0 := by
  have hp : mayPB p = true := by
    unfold lookE at h
    split at h
    · omega
    · rename_i g; simpa using g
  rw [qOf_mosts]
  exact mostsOf_E (colP_len p r) (colP_small hp r) h

theorem sort_ins {w : List Nat} {r : Nat} (h : w.Pairwise (· < ·)) (hr : r ∉ w) : (ints w ++ [(r : Int)]).mergeSort (fun x y => decide (x ≤ y)) = ints (insN w r) := by
  have hp : (insN w r).Pairwise (· < ·) := insN_pw h hr
  have hperm : (ints w ++ [(r : Int)]).Perm (ints (insN w r)) := by
    unfold insN ints
    have e : w.takeWhile (fun j => decide (j < r)) ++ w.dropWhile (fun j => decide (j < r)) = w := List.takeWhile_append_dropWhile
    conv => lhs; rw [← e]
    rw [List.map_append, List.map_append, List.map_cons, List.append_assoc]
    refine List.Perm.append_left _ ?_
    exact (List.perm_append_comm (l₁ := _) (l₂ := [(r : Int)]))
  have hs : (ints (insN w r)).Pairwise (fun a b : Int => a ≤ b) := by
    unfold ints
    rw [List.pairwise_map]
    exact hp.imp fun {a b} q => by simp; omega
  have h1 := List.pairwise_mergeSort (le := fun x y : Int => decide (x ≤ y)) (by intro a b c; simp; omega) (by intro a b; simp; omega) (ints w ++ [(r : Int)])
  have h2 : ((ints w ++ [(r : Int)]).mergeSort fun x y => decide (x ≤ y)).Perm (ints (insN w r)) := (List.mergeSort_perm _ _).trans hperm
  refine List.Perm.eq_of_pairwise (le := fun a b : Int => a ≤ b) ?_ (h1.imp fun {a b} q => by simpa using q) hs h2
  intro a b _ _ x y
  exact Int.le_antisymm x y
theorem ints_erase : ∀ (l : List Nat) (k : Nat), (ints l).eraseIdx k = ints (l.eraseIdx k)
  | [], _ => rfl
  | _ :: _, 0 => rfl
  | a :: l, k + 1 => by
    show Int.ofNat a :: (ints l).eraseIdx k = Int.ofNat a :: ints (l.eraseIdx k)
    rw [ints_erase l k]
end Go.Proofs.Ytjcdkbalhleeeab
