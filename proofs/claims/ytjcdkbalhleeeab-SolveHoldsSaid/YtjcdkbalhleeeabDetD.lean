/-
  Plain: the document's determinant of rows is dt; rows with one column changed. No program in sight but the words of AppR, Put3.
-/
import Derived.Test.YtjcdkbalhleeeabPut3
import Derived.Test.YtjcdkbalhleeeabPlainA
namespace Go.Proofs.Ytjcdkbalhleeeab

theorem dtGo_sum {f : Nat → Int} {R : List Nat → Int} : ∀ (cs pre : List Nat) (s : Int), dtGo f R pre s cs = sumN (fun k => s * sg k * f (cs.getD k 0) * R (pre ++ (cs.take k ++ cs.drop (k + 1)))) cs.length
  | [], _, _ => rfl
  | c :: cs, pre, s => by
    rw [dtGo, dtGo_sum cs, List.length_cons, Nat.add_comm, sumN_split]
    have e1 : sumN (fun k => s * sg k * f ((c :: cs).getD k 0) * R (pre ++ ((c :: cs).take k ++ (c :: cs).drop (k + 1)))) 1 = s * f c * R (pre ++ cs) := by
      simp [sumN, sg]
    rw [e1]
    congr 1
    refine sumN_congr fun i _ => ?_
    rw [Nat.add_comm 1 i]
    simp only [sg, List.getD_cons_succ, List.take_succ_cons, List.drop_succ_cons, List.cons_append]
    rw [show pre ++ c :: (cs.take i ++ cs.drop (i + 1)) = pre ++ [c] ++ (cs.take i ++ cs.drop (i + 1)) by simp]
    grind
theorem detF_dt (A : Nat → Nat → Int) : ∀ (n : Nat) (rs cs : List Nat), rs.length = n → cs.length = n → detF n (rs.map fun r => cs.map fun c => A r c) = dt A rs cs
  | 0, rs, cs, h, _ => by
    obtain rfl : rs = [] := List.eq_nil_of_length_eq_zero h
    rfl
  | n + 1, [], cs, h, _ => by simp at h
  | n + 1, r :: rs, cs, h1, h2 => by
    rw [dt, dtGo_sum, detF, h2]
    refine sumN_congr fun k hk => ?_
    have hkc : k < cs.length := by omega
    have e1 : ((((r :: rs).map fun r => cs.map fun c => A r c).getD 0 []).getD k 0) = A r (cs.getD k 0) := by
      simp [List.getD, List.getElem?_eq_getElem hkc]
    have e2 : mino ((r :: rs).map fun r => cs.map fun c => A r c) k = rs.map fun r => (cs.take k ++ cs.drop (k + 1)).map fun c => A r c := by
      unfold mino
      simp only [List.map_cons, List.drop_succ_cons, List.drop_zero, List.map_map]
      apply List.map_congr_left
      intro x _
      simp [List.map_take, List.map_drop]
    rw [e1, e2, detF_dt A n rs _ (by simpa using h1) (by rw [List.length_append, List.length_take, List.length_drop]; omega)]
    simp [Int.one_mul]
/-- A square of numbers as rows. -/
def sq (A : Nat → Nat → Int) (m : Nat) : List (List Int) := (List.range m).map fun i => (List.range m).map fun j => A i j
theorem detF_sq (A : Nat → Nat → Int) (m : Nat) : detF m (sq A m) = dtm A m := by
  unfold sq dtm
  exact detF_dt A m _ _ (by simp) (by simp)
theorem putF_sq (A : Nat → Nat → Int) {m k : Nat} (col : List Int) (hc : ∀ i, i < m → col.getD i 0 = A i m) : detF m (putF (sq A m) k col) = dtp A m k m := by
  have e : putF (sq A m) k col = (List.range m).map fun i => ((List.range m).set k m).map fun j => A i j := by
    unfold putF
    rw [show (sq A m).length = m by simp [sq]]
    apply List.map_congr_left
    intro i hi
    have hi' : i < m := by simpa using hi
    rw [hc i hi', List.map_set]
    congr 1
    simp [sq, List.getD, hi']
  rw [e]
  unfold dtp
  exact detF_dt A m _ _ (by simp) (by simp)
theorem sq_small {A : Nat → Nat → Int} {m : Nat} (h : Small A m) : SmallR (sq A m) := by
  intro r hr
  simp only [sq, List.mem_map] at hr
  obtain ⟨i, _, rfl⟩ := hr
  rw [smallB_iff]
  intro n hn
  simp only [List.mem_map] at hn
  obtain ⟨j, _, rfl⟩ := hn
  exact (h i j).1
theorem putF_small {l : List (List Int)} {k : Nat} {col : List Int} (h : SmallR l) (hc : smallB 400 col = true) : SmallR (putF l k col) := by
  intro r hr
  simp only [putF, List.mem_map] at hr
  obtain ⟨i, hi, rfl⟩ := hr
  rw [smallB_iff]
  intro n hn
  rcases List.mem_or_eq_of_mem_set hn with q | q
  · by_cases hil : i < l.length
    · have e : l.getD i [] = l[i] := by simp [List.getD, List.getElem?_eq_getElem hil]
      rw [e] at q
      exact smallB_mem (h _ (List.getElem_mem hil)) q
    · simp at hi; omega
  · rw [q]
    by_cases hj : i < col.length
    · have := smallB_at hc hj; simpa [List.getD, List.getElem?_eq_getElem hj] using this
    · simp [List.getD, List.getElem?_eq_none (Nat.le_of_not_lt hj)]
end Go.Proofs.Ytjcdkbalhleeeab
