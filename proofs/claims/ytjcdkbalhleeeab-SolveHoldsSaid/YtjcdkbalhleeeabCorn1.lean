/-
  Walks: corner.rising, Cost, the document's Has, Cost, Right compute what the plain words say.
-/
import Derived.Test.YtjcdkbalhleeeabJRefA
import Derived.Test.YtjcdkbalhleeeabPrf1
import Derived.Test.YtjcdkbalhleeeabPlainA
namespace Go.Proofs.Ytjcdkbalhleeeab
open Go.RowKit

/-- The last of some columns, or what was ahead. -/
def lastZ (last : Int) (l : List Int) (k : Nat) : Int := if k = 0 then last else l.getD (k - 1) 0
theorem rising_take {last : Int} {n : Nat} {l : List Int} {k : Nat} (h : k < l.length) : risingB last n (l.take (k + 1)) = (risingB last n (l.take k) && (decide (lastZ last l k < l[k]) && decide (l[k] < n))) := by
  induction l generalizing last k with
  | nil => simp at h
  | cons j l ih =>
    cases k with
    | zero => simp [risingB, lastZ]
    | succ k =>
      simp only [List.take_succ_cons, risingB, List.getElem_cons_succ]
      rw [ih (by simpa using h)]
      have e : lastZ j l k = lastZ last (j :: l) (k + 1) := by
        unfold lastZ
        rw [if_neg (show ¬ k + 1 = 0 by omega)]
        cases k with
        | zero => simp
        | succ k => rw [if_neg (by omega)]; simp
      rw [e]
      simp only [Bool.and_assoc]
theorem rising_pre {last : Int} {n : Nat} {l : List Int} (k : Nat) (h : risingB last n (l.take k) = false) : risingB last n l = false := by
  induction l generalizing last k with
  | nil => simpa using h
  | cons j l ih =>
    cases k with
    | zero => simp [risingB] at h
    | succ k =>
      simp only [List.take_succ_cons, risingB, Bool.and_eq_false_iff] at h ⊢
      rcases h with h | h | h
      · exact Or.inl h
      · exact Or.inr (Or.inl h)
      · exact Or.inr (Or.inr (ih k h))
theorem rising_at {last : Int} {n : Nat} {l : List Int} {k : Nat} (h : risingB last n l = true) (hk : k < l.length) : last < l[k] ∧ l[k] < n := (rising_parts h).1 _ (List.getElem_mem hk)
theorem lastZ_succ {last : Int} {l : List Int} {k : Nat} (h : k < l.length) : lastZ last l (k + 1) = l[k] := by
  unfold lastZ; rw [if_neg (by omega)]; simp [List.getD, List.getElem?_eq_getElem h]

theorem corner_rising (A : Option Addr) (l : List Int) (c : Nat) (n : Nat) (w : World) (hr : Rd w A c l) :
    Calls Try.prog 43 #[.slice A l.length c, .int .i64 n] w fun e w' => e = .returned (.bool (risingB (-1) n l)) ∧ w' = w := by
  have HR := Lib.hid hr
  obtain ⟨hl, hc, hsm, _⟩ := hr
  go_enter Try.func43, Try.ntmps43
  go_wp2_with fail
  go_loop [5, 10] (fun s i => ∃ k : Nat, k ≤ l.length ∧ i = .int .i64 k ∧ s = .int .i64 (lastZ (-1) l k) ∧ risingB (-1) n (l.take k) = true) (fun _ i => l.length - (intOf i).toNat)
  case atStart => exact ⟨0, by omega, rfl, rfl, rfl⟩
  case round =>
    obtain ⟨k, hk, rfl, rfl, hs⟩ := hrel
    have HS := Lib.hid hs
    clear hs
    by_cases hlt : k < l.length
    · obtain ⟨ad, rfl, hc1⟩ := HR.out.at_ hlt
      have HT := Lib.hid (rising_take (last := -1) (n := n) hlt)
      have HL := Lib.hid (lastZ_succ (last := -1) hlt)
      have HP := Lib.hid (rising_pre (last := -1) (n := n) (l := l) (k + 1))
      generalize lastZ (-1) l k = la at *
      by_cases h1 : l[k] ≤ la
      · go_wp2_with fail
        go_ret
        exact ⟨ret_bool (by rw [HP.out (by rw [HT.out]; simp; omega)]), rfl⟩
      · by_cases h2 : l[k] < n
        · go_wp2_with fail
          go_round
          case rel => exact ⟨k + 1, by omega, by go_num, by rw [HL.out], by rw [HT.out, HS.out]; simp; omega⟩
          case measure => simp [intOf]; omega
        · go_wp2_with fail
          go_ret
          exact ⟨ret_bool (by rw [HP.out (by rw [HT.out]; simp; omega)]), rfl⟩
    · obtain rfl : k = l.length := by omega
      go_wp2_with fail
      go_ret
      exact ⟨ret_bool (by have := HS.out; rw [List.take_length] at this; rw [this]), rfl⟩

theorem corner_Cost (A : Option Addr) (c : Nat) (A2 : Option Addr) (c2 : Nat) (p : PG) (j : Nat) (w : World) (hp : Pg w A c A2 c2 p) :
    Calls Try.prog 45 #[.agg #[.slice A p.costs.length c, .slice A2 p.rows.length c2], .int .i64 j] w fun e w' => e = .returned (.int .i64 (costZ p j)) ∧ Below w.heap.size w w' := by
  have HP := Lib.hid hp
  obtain ⟨⟨hl, hc, hsm, _⟩, ⟨hl2, hc2, hsm2, _⟩⟩ := hp
  by_cases h1 : j < p.costs.length
  · obtain ⟨ad, rfl, he1⟩ := HP.out.costs.at_ h1
    have hadl := World.block_lt_of_cell? _ _ he1
    have hv : costZ p j = p.costs[j] := by simp [costZ, h1, List.getD, List.getElem?_eq_getElem h1]
    rw [hv]
    clear hv
    have hi1 : (j : Int) < (p.costs.length : Int) := by omega
    go_enter Try.func45, Try.ntmps45
    go_wp2_with fail
    go_ret
    exact ⟨rfl, (by (repeat (any_goals (first | exact Below.refl _ _ | refine below_drewN ?_ _ | refine Below.drew ?_ | refine Below.alloc ?_ ?_ _ | refine Below.setCell ?_ ?_ _))); all_goals (first | omega | (simp; done) | (simp; omega)))⟩
  · have hv : costZ p j = 0 := by simp [costZ, h1]
    rw [hv]
    clear hv
    go_enter Try.func45, Try.ntmps45
    go_wp2_with fail
    go_ret
    exact ⟨rfl, (by (repeat (any_goals (first | exact Below.refl _ _ | refine below_drewN ?_ _ | refine Below.drew ?_ | refine Below.alloc ?_ ?_ _ | refine Below.setCell ?_ ?_ _))); all_goals (first | omega | (simp; done) | (simp; omega)))⟩
theorem ref3_Cost (A : Option Addr) (c : Nat) (A2 : Option Addr) (c2 : Nat) (p : PG) (j : Nat) (w : World) (hp : Pg w A c A2 c2 p) :
    Calls Try.prog 84 #[.agg #[.slice A p.costs.length c, .slice A2 p.rows.length c2], .int .i64 j] w fun e w' => e = .returned (.int .i64 (costZ p j)) ∧ Below w.heap.size w w' := by
  have HP := Lib.hid hp
  obtain ⟨⟨hl, hc, hsm, _⟩, ⟨hl2, hc2, hsm2, _⟩⟩ := hp
  by_cases h1 : j < p.costs.length
  · obtain ⟨ad, rfl, he1⟩ := HP.out.costs.at_ h1
    have hadl := World.block_lt_of_cell? _ _ he1
    have hv : costZ p j = p.costs[j] := by simp [costZ, h1, List.getD, List.getElem?_eq_getElem h1]
    rw [hv]
    clear hv
    have hi1 : (j : Int) < (p.costs.length : Int) := by omega
    go_enter Try.func84, Try.ntmps84
    go_wp2_with fail
    go_ret
    exact ⟨rfl, (by (repeat (any_goals (first | exact Below.refl _ _ | refine below_drewN ?_ _ | refine Below.drew ?_ | refine Below.alloc ?_ ?_ _ | refine Below.setCell ?_ ?_ _))); all_goals (first | omega | (simp; done) | (simp; omega)))⟩
  · have hv : costZ p j = 0 := by simp [costZ, h1]
    rw [hv]
    clear hv
    go_enter Try.func84, Try.ntmps84
    go_wp2_with fail
    go_ret
    exact ⟨rfl, (by (repeat (any_goals (first | exact Below.refl _ _ | refine below_drewN ?_ _ | refine Below.drew ?_ | refine Below.alloc ?_ ?_ _ | refine Below.setCell ?_ ?_ _))); all_goals (first | omega | (simp; done) | (simp; omega)))⟩

theorem ref3_Has (A : Option Addr) (c : Nat) (A2 : Option Addr) (c2 : Nat) (p : PG) (i j : Nat) (w : World) (hp : Pg w A c A2 c2 p) (hm : mayPB p = true) (hi : i < p.rows.length) (hj : j < 1000000) :
    Calls Try.prog 83 #[.agg #[.slice A p.costs.length c, .slice A2 p.rows.length c2], .int .i64 i, .int .i64 j] w fun e w' => e = .returned (.int .i64 (hasZ p i j)) ∧ Below w.heap.size w w' := by
  have HP := Lib.hid hp
  obtain ⟨⟨hl, hc, hsm, _⟩, ⟨hl2, hc2, hsm2, _⟩⟩ := hp
  have HM := Lib.hid hm
  clear hm
  by_cases h1 : j < p.costs.length
  · obtain ⟨ad, A', c', rfl, hd1, hd2, hr⟩ := HP.out.rows.at_ hi
    obtain ⟨hq1, _, _⟩ := mayPB_row HM.out hi
    have hjl : j < p.rows[i].1.length := by omega
    obtain ⟨ad', rfl, he1⟩ := hr.at_ hjl
    have hadl := World.block_lt_of_cell? _ _ hd1
    have hadl' := World.block_lt_of_cell? _ _ he1
    have hv : hasZ p i j = p.rows[i].1[j] := by
      rw [hasZ_var hi h1]; simp [List.getD, List.getElem?_eq_getElem hjl]
    rw [hv]
    clear hv hr hd2 hq1
    have hi0 : (i : Int) < (p.rows.length : Int) := by omega
    have hi1 : (j : Int) < (p.rows[i].1.length : Int) := by omega
    go_enter Try.func83, Try.ntmps83
    go_wp2_with fail
    go_ret
    exact ⟨rfl, (by (repeat (any_goals (first | exact Below.refl _ _ | refine below_drewN ?_ _ | refine Below.drew ?_ | refine Below.alloc ?_ ?_ _ | refine Below.setCell ?_ ?_ _))); all_goals (first | omega | (simp; done) | (simp; omega)))⟩
  · by_cases h2 : j - p.costs.length = i
    · have hv : hasZ p i j = 1 := by simp [hasZ, h1, h2]
      have hz : ((j : Int) == ((p.costs.length : Int) + (i : Int))) = true := by simp; omega
      rw [hv]
      clear hv h2
      go_enter Try.func83, Try.ntmps83
      go_wp2_with fail
      go_ret
      exact ⟨rfl, (by (repeat (any_goals (first | exact Below.refl _ _ | refine below_drewN ?_ _ | refine Below.drew ?_ | refine Below.alloc ?_ ?_ _ | refine Below.setCell ?_ ?_ _))); all_goals (first | omega | (simp; done) | (simp; omega)))⟩
    · have hv : hasZ p i j = 0 := by simp [hasZ, h1, h2]
      have hz : ((j : Int) == ((p.costs.length : Int) + (i : Int))) = false := by simp; omega
      rw [hv]
      clear hv h2
      go_enter Try.func83, Try.ntmps83
      go_wp2_with fail
      go_ret
      exact ⟨rfl, (by (repeat (any_goals (first | exact Below.refl _ _ | refine below_drewN ?_ _ | refine Below.drew ?_ | refine Below.alloc ?_ ?_ _ | refine Below.setCell ?_ ?_ _))); all_goals (first | omega | (simp; done) | (simp; omega)))⟩
end Go.Proofs.Ytjcdkbalhleeeab
