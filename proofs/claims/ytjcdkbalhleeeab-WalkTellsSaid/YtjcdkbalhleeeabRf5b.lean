/-
  Walk: the document's Ints compares columns.
-/
import Derived.Test.YtjcdkbalhleeeabLookK
namespace Go.Proofs.Ytjcdkbalhleeeab
open Go.RowKit

theorem list_eqD {a b : List Int} (h : a.length = b.length) (h2 : ∀ j, j < a.length → a.getD j 0 = b.getD j 0) : a = b := by
  refine List.ext_getElem h fun j h3 h4 => ?_
  have := h2 j h3
  simpa [List.getD, List.getElem?_eq_getElem h3, List.getElem?_eq_getElem h4] using this
set_option maxRecDepth 100000 in
theorem ints_same (A : Option Addr) (a : List Int) (ca : Nat) (B : Option Addr) (b : List Int) (cb n : Nat) (w : World) (ha : Rd w A ca a) (hb : Rd w B cb b) (h1 : a.length = n) (h2 : b.length = n) :
    Calls Try.prog 12 #[.slice A n ca, .slice B n cb] w fun e w' => e = .returned (.bool (decide (a = b))) ∧ ∃ n, w' = w.drewN n := by
  have HA := Lib.hid ha
  have HB := Lib.hid hb
  have HLN := Lib.hid h1
  have HNN := Lib.hid h2
  have hac := ha.cap
  have hbc := hb.cap
  have hal : n ≤ ca := h1 ▸ ha.le
  have hbl : n ≤ cb := h2 ▸ hb.le
  have hns : n ≤ 17592186044416 := h1 ▸ ha.small
  clear ha hb h1 h2
  go_enter Try.func12, Try.ntmps12
  go_wp2_with fail
  go_loopw [5] (fun i wx => ∃ k m : Nat, k ≤ n ∧ i = .int .i64 k ∧ wx = w.drewN m ∧ Hid (∀ j, j < k → a.getD j 0 = b.getD j 0)) (fun i _ => n - (intOf i).toNat)
  case atStart => exact ⟨0, 0, by omega, rfl, rfl, Lib.hid fun j hj => by omega⟩
  case round =>
    obtain ⟨k, m, hk, rfl, rfl, hsame⟩ := hrel
    by_cases hlt : k < n
    · obtain ⟨aa, rfl, hca⟩ := HA.out.getD_at (k := k) (by rw [HLN.out]; exact hlt)
      obtain ⟨ab, rfl, hcb⟩ := HB.out.getD_at (k := k) (by rw [HNN.out]; exact hlt)
      have hla := World.block_lt_of_cell? _ _ hca
      have hlb := World.block_lt_of_cell? _ _ hcb
      have hi0 : (k : Int) < (n : Int) := by omega
      by_cases hab : a.getD k 0 = b.getD k 0
      · have HSM := Lib.hid (show ∀ j, j < k + 1 → a.getD j 0 = b.getD j 0 from fun j hj => by
          by_cases e : j = k
          · subst e; exact hab
          · exact hsame.out j (by omega))
        rw [← hab] at hcb
        clear hab hsame
        generalize a.getD k 0 = x at *
        go_wp2_with fail
        go_quiet (fail)
        go_wp2_with fail
        go_roundw
        case rel => exact ⟨k + 1, _, by omega, by go_num, by first | rfl | (rw [World.drewN_drewN]), HSM⟩
        case measure => simp [intOf]; omega
      · have HNE := Lib.hid (show decide (a = b) = false by
          rw [decide_eq_false_iff_not]; intro e; exact hab (by rw [e]))
        have hd : (a.getD k 0 != b.getD k 0) = true := by simpa using hab
        clear hab hsame
        generalize a.getD k 0 = x at *
        generalize b.getD k 0 = y at *
        go_wp2_with fail
        go_quiet (fail)
        go_wp2_with fail
        go_ret
        exact ⟨by rw [HNE.out]; rfl, _, by first | rfl | (rw [World.drewN_drewN])⟩
    · obtain rfl : k = n := by omega
      have HEQ := Lib.hid (show decide (a = b) = true by
        rw [decide_eq_true_iff]
        exact list_eqD (HLN.out.trans HNN.out.symm) fun j hj => hsame.out j (by rw [← HLN.out]; exact hj))
      clear hsame
      go_wp2_with fail
      go_ret
      exact ⟨by rw [HEQ.out]; rfl, _, rfl⟩
set_option maxRecDepth 100000 in
theorem ref5_Ints (A : Option Addr) (a : List Int) (ca : Nat) (B : Option Addr) (b : List Int) (cb : Nat) (w : World) (ha : Rd w A ca a) (hb : Rd w B cb b) :
    Calls Try.prog 12 #[.slice A a.length ca, .slice B b.length cb] w fun e w' => e = .returned (.bool (decide (a = b))) ∧ ∃ n, w' = w.drewN n := by
  by_cases hlen : a.length = b.length
  · have := ints_same A a ca B b cb b.length w ha hb hlen rfl
    rw [← hlen] at this ⊢
    exact this
  · obtain ⟨hal, hac, has, _⟩ := ha
    obtain ⟨hbl, hbc, hbs, _⟩ := hb
    have HNE := Lib.hid (show decide (a = b) = false by
      rw [decide_eq_false_iff_not]; intro e; exact hlen (by rw [e]))
    have hd : (a.length != b.length) = true := by simpa using hlen
    rw [HNE.out]
    clear hlen
    generalize a.length = na at *
    generalize b.length = nb at *
    go_enter Try.func12, Try.ntmps12
    go_wp2_with fail
    go_ret
    exact ⟨rfl, 0, rfl⟩
end Go.Proofs.Ytjcdkbalhleeeab
