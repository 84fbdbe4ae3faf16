/-
  Plain law for FracMakes: the fraction of twice both, and of both below 0, is the same. No program in sight; the numbers are within 2^32.
-/
import Derived.Test.YtjcdkbalhleeeaaFracS
namespace Go.Proofs.Ytjcdkbalhleeeaa

theorem ptE_of {l : List Int} {d : Int} (h0 : d ≠ 0) (h1 : smallB 4611686018427387904 l = true) (h2 : -4611686018427387904 ≤ d ∧ d ≤ 4611686018427387904) :
    ptE l d = if rightB (divs l (sgcd l d)) (d.tdiv (sgcd l d)) then 0 else 1 := by
  unfold ptE
  rw [if_neg]
  simp [h0, h1, smallB_one, h2.1, h2.2]
theorem frN_eq {n d : Int} (h : ptE [n] d = 0) : frN n d = n.tdiv (sgcd [n] d) := by simp [frN, ptN, h, divs]
theorem ptD_eq {l : List Int} {d : Int} (h : ptE l d = 0) : ptD l d = d.tdiv (sgcd l d) := by simp [ptD, h]
theorem sgcd_dvd {l : List Int} {d : Int} : sgcd l d ∣ d ∧ ∀ n ∈ l, sgcd l d ∣ n := by
  obtain ⟨h1, h2⟩ := comm_dvd d.natAbs l
  have hs : (sgcd l d).natAbs = comm d.natAbs l := by unfold sgcd; split <;> simp
  refine ⟨by rw [← Int.natAbs_dvd_natAbs, hs]; exact h1, fun n hn => ?_⟩
  have := h2 n hn
  rw [Int.ofNat_dvd_left] at this
  rw [← Int.natAbs_dvd_natAbs, hs]; exact this
theorem sgcd_neg {n d : Int} (hd : d ≠ 0) : sgcd [-n] (-d) = -sgcd [n] d := by
  unfold sgcd comm
  simp only [List.foldl, Int.natAbs_neg]
  by_cases h : d < 0
  · rw [if_neg (by omega), if_pos h]; simp
  · rw [if_pos (by omega), if_neg h]
theorem sgcd_two {n d : Int} : sgcd [2 * n] (2 * d) = 2 * sgcd [n] d := by
  unfold sgcd comm
  simp only [List.foldl, Int.natAbs_mul]
  rw [show (2 : Int).natAbs = 2 from rfl, Nat.gcd_mul_left]
  by_cases h : d < 0
  · rw [if_pos (by omega), if_pos h]; simp [Int.mul_neg]
  · rw [if_neg (by omega), if_neg h]; simp
theorem tdiv_two (n g : Int) : (2 * n).tdiv (2 * g) = n.tdiv g := Int.mul_tdiv_mul_of_pos _ _ (by omega)
theorem sgcd_sign {l : List Int} {d : Int} (hd : d ≠ 0) : 0 < d.tdiv (sgcd l d) := by
  have hg := comm_pos d.natAbs l (Int.natAbs_pos.2 hd)
  obtain ⟨k, hk⟩ := (sgcd_dvd (l := l) (d := d)).1
  have h0 := sgcd_ne (l := l) hd
  have e : d.tdiv (sgcd l d) = k := by
    rw [show d.tdiv (sgcd l d) = (sgcd l d * k).tdiv (sgcd l d) by rw [← hk]]; exact Int.mul_tdiv_cancel_left _ h0
  rw [e]
  by_cases h : d < 0
  · have hs : sgcd l d = -(comm d.natAbs l : Int) := by unfold sgcd; rw [if_pos h]
    rw [hs] at hk
    rcases Int.lt_trichotomy k 0 with hk0 | hk0 | hk0
    · have := Int.mul_pos_of_neg_of_neg (show -(comm d.natAbs l : Int) < 0 by omega) hk0
      omega
    · subst hk0; simp at hk; omega
    · exact hk0
  · have hs : sgcd l d = (comm d.natAbs l : Int) := by unfold sgcd; rw [if_neg h]
    rw [hs] at hk
    rcases Int.lt_trichotomy k 0 with hk0 | hk0 | hk0
    · have := Int.mul_neg_of_pos_of_neg (show 0 < (comm d.natAbs l : Int) by omega) hk0
      omega
    · subst hk0; simp at hk; omega
    · exact hk0
/-- The fraction's parts stand to each other as the numbers do. -/
theorem sgcd_cross {n d : Int} (hd : d ≠ 0) : n.tdiv (sgcd [n] d) * d = n * d.tdiv (sgcd [n] d) := by
  have h0 := sgcd_ne (l := [n]) hd
  obtain ⟨⟨k, hk⟩, h2⟩ := sgcd_dvd (l := [n]) (d := d)
  obtain ⟨j, hj⟩ := h2 n (by simp)
  generalize sgcd [n] d = g at *
  subst hk hj
  rw [Int.mul_tdiv_cancel_left _ h0, Int.mul_tdiv_cancel_left _ h0]
  ac_rfl
theorem mayB_pt {l : List Int} {d : Int} (h : ptE l d = 0) : mayB (ptN l d) (ptD l d) = true := by
  have hc : d ≠ 0 ∧ rightB (divs l (sgcd l d)) (d.tdiv (sgcd l d)) = true := by
    unfold ptE at h
    split at h
    · omega
    · rename_i hh
      split at h
      · rename_i hr; exact ⟨fun e => hh (Or.inl e), hr⟩
      · omega
  unfold mayB ptN ptD
  rw [h, if_pos rfl, if_pos rfl, comm_divs l d hc.1, hc.2]
  rfl

structure FracSame (n d n' d' : Int) : Prop where
  he : ptE [n'] d' = ptE [n] d
  hn : frN n' d' = frN n d
  hd : ptD [n'] d' = ptD [n] d
theorem same_of {n d n' d' : Int} (h0 : d ≠ 0) (h0' : d' ≠ 0) (h1 : -4611686018427387904 ≤ n ∧ n ≤ 4611686018427387904) (h1' : -4611686018427387904 ≤ n' ∧ n' ≤ 4611686018427387904)
    (h2 : -4611686018427387904 ≤ d ∧ d ≤ 4611686018427387904) (h2' : -4611686018427387904 ≤ d' ∧ d' ≤ 4611686018427387904)
    (hn : n'.tdiv (sgcd [n'] d') = n.tdiv (sgcd [n] d)) (hd : d'.tdiv (sgcd [n'] d') = d.tdiv (sgcd [n] d)) : FracSame n d n' d' := by
  have he : ptE [n'] d' = ptE [n] d := by
    rw [ptE_of h0 (by rw [smallB_one]; simp [h1]) h2, ptE_of h0' (by rw [smallB_one]; simp [h1']) h2', hd]
    simp [divs, hn]
  refine ⟨he, ?_, ?_⟩
  · unfold frN ptN; rw [he]; simp only [divs, List.map_cons, List.map_nil, hn]
  · unfold ptD; rw [he, hd]
theorem same_two {n d : Int} (h0 : d ≠ 0) (h1 : -2147483648 ≤ n ∧ n ≤ 2147483648) (h2 : -2147483648 ≤ d ∧ d ≤ 2147483648) : FracSame n d (2 * n) (2 * d) :=
  same_of h0 (by omega) (by omega) (by omega) (by omega) (by omega) (by rw [sgcd_two, tdiv_two]) (by rw [sgcd_two, tdiv_two])
theorem same_neg {n d : Int} (h0 : d ≠ 0) (h1 : -2147483648 ≤ n ∧ n ≤ 2147483648) (h2 : -2147483648 ≤ d ∧ d ≤ 2147483648) : FracSame n d (-n) (-d) :=
  same_of h0 (by omega) (by omega) (by omega) (by omega) (by omega) (by rw [sgcd_neg h0, Int.neg_tdiv, Int.tdiv_neg]; omega) (by rw [sgcd_neg h0, Int.neg_tdiv, Int.tdiv_neg]; omega)
theorem ptE_one {n d : Int} (h0 : d ≠ 0) (h1 : -2147483648 ≤ n ∧ n ≤ 2147483648) (h2 : -2147483648 ≤ d ∧ d ≤ 2147483648) (he : ptE [n] d ≠ 0) : ptE [n] d = 1 := by
  rw [ptE_of h0 (by rw [smallB_one]; simp; omega) (by omega)] at he ⊢
  split at he
  · omega
  · rename_i h; rw [if_neg h]
theorem frac_good {n d : Int} (h0 : d ≠ 0) (he : ptE [n] d = 0) :
    frN n d * d = n * ptD [n] d ∧ 0 < ptD [n] d ∧ mayB [frN n d] (ptD [n] d) = true ∧ -1073741824 ≤ frN n d ∧ frN n d ≤ 1073741824 ∧ ptD [n] d ≤ 1073741824 := by
  have hm := mayB_pt he
  have hN : ptN [n] d = [frN n d] := by unfold frN ptN; rw [if_pos he]; simp [divs]
  rw [hN] at hm
  refine ⟨by rw [frN_eq he, ptD_eq he]; exact sgcd_cross h0, by rw [ptD_eq he]; exact sgcd_sign h0, hm, ?_⟩
  simp [mayB, rightB, smallB] at hm
  omega
end Go.Proofs.Ytjcdkbalhleeeaa
