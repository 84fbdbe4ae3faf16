/-
  Walks of the reference of chapter 1 (first part): size, common, All, within, MayPoint, May compute what the plain words say.
-/
import Derived.Test.YtjcdkbalhleeeabFrac3
namespace Go.Proofs.Ytjcdkbalhleeeab
open Go.RowKit

theorem ref1_size (n : Int) (w : World) (h : -9223372036854775807 ≤ n) (h' : n ≤ 9223372036854775807) :
    Calls Try.prog 120 #[.int .i64 n] w fun e w' => e = .returned (.int .i64 n.natAbs) ∧ w = w' := by
  by_cases h0 : n < 0
  · have e : (n.natAbs : Int) = -n := by omega
    rw [e]
    clear e
    go_enter Try.func120, Try.ntmps120
    go_wp2_with fail
    go_ret
    exact ⟨ret_int (by simp), rfl⟩
  · have e : (n.natAbs : Int) = n := by omega
    rw [e]
    clear e
    go_enter Try.func120, Try.ntmps120
    go_wp2_with fail
    go_ret
    exact ⟨rfl, rfl⟩

theorem ref1_common (k : Nat) : ∀ (a b : Nat) (w : World), b ≤ k → a ≤ 4611686018427387904 → b ≤ 4611686018427387904 →
    Calls Try.prog 145 #[.int .i64 a, .int .i64 b] w fun e w' => e = .returned (.int .i64 (Nat.gcd a b)) ∧ w = w' := by
  induction k with
  | zero =>
    intro a b w hk ha hb
    obtain rfl : b = 0 := by omega
    go_enter Try.func145, Try.ntmps145
    go_wp2_with fail
    go_ret
    exact ⟨ret_int (by simp), rfl⟩
  | succ k ih =>
    intro a b w hk ha hb
    have IH := Lib.hid ih
    clear ih
    by_cases h0 : b = 0
    · subst h0
      go_enter Try.func145, Try.ntmps145
      go_wp2_with fail
      go_ret
      exact ⟨ret_int (by simp), rfl⟩
    · have hz : ((b : Int) == 0) = false := by simp; omega
      have hm : a % b < b := Nat.mod_lt _ (by omega)
      have he : Nat.gcd a b = Nat.gcd b (a % b) := by rw [Nat.gcd_comm, Nat.gcd_rec, Nat.gcd_comm]
      rw [he]
      clear he
      go_enter Try.func145, Try.ntmps145
      go_wp2_with fail
      rw [show ((a : Int) % (b : Int)) = ((a % b : Nat) : Int) from by simp]
      refine (IH.out b (a % b) _ (by omega) (by omega) (by omega)).mono ?_
      rintro e w' ⟨rfl, rfl⟩
      go_wp2_with fail
      go_ret
      exact ⟨rfl, rfl⟩
theorem ref1_commonI (a b : Int) (w : World) (ha : 0 ≤ a) (hb : 0 ≤ b) (ha' : a ≤ 4611686018427387904) (hb' : b ≤ 4611686018427387904) :
    Calls Try.prog 145 #[.int .i64 a, .int .i64 b] w fun e w' => e = .returned (.int .i64 (Nat.gcd a.natAbs b.natAbs)) ∧ w = w' := by
  obtain ⟨a, rfl⟩ := Int.eq_ofNat_of_zero_le ha
  obtain ⟨b, rfl⟩ := Int.eq_ofNat_of_zero_le hb
  exact ref1_common b a b w (Nat.le_refl _) (by omega) (by omega)

theorem ref1_All (A : Option Addr) (l : List Int) (c : Nat) (d : Nat) (w : World) (hd : d ≤ 4611686018427387904) (hs : smallB 4611686018427387904 l = true) (hr : Rd w A c l) :
    Calls Try.prog 121 #[.slice A l.length c, .int .i64 d] w fun e w' => e = .returned (.int .i64 (comm d l)) ∧ w = w' := by
  have HR := Lib.hid hr
  obtain ⟨hl, hc, hsm, _⟩ := hr
  have HB := Lib.hid (show ∀ n ∈ l, n.natAbs ≤ 4611686018427387904 from fun n hn => by have := smallB_mem hs hn; omega)
  have HS := Lib.hid hs
  clear hs
  go_enter Try.func121, Try.ntmps121
  go_wp2_with fail
  go_loop [5, 6] (fun g i => ∃ k : Nat, k ≤ l.length ∧ g = .int .i64 (comm d (l.take k)) ∧ i = .int .i64 k) (fun _ i => l.length - (intOf i).toNat)
  case atStart => exact ⟨0, by omega, rfl, rfl⟩
  case round =>
    obtain ⟨k, hk, rfl, rfl⟩ := hrel
    have hb1 : comm d (l.take k) ≤ 4611686018427387904 := comm_bound _ _ _ hd fun x hx => HB.out x (List.mem_of_mem_take hx)
    by_cases hlt : k < l.length
    · obtain ⟨ad, rfl, hc1⟩ := HR.out.at_ hlt
      obtain ⟨hb2, hb3⟩ := smallB_at HS.out hlt
      have HT := Lib.hid (comm_take d hlt)
      go_wp2_with fail
      refine (ref1_size _ _ (by omega) (by omega)).mono ?_
      rintro e w' ⟨rfl, rfl⟩
      go_wp2_with fail
      refine (ref1_commonI _ _ _ (by omega) (by omega) (by omega) (by omega)).mono ?_
      rintro e w' ⟨rfl, rfl⟩
      go_wp2_with fail
      go_round
      case rel => exact ⟨k + 1, by omega, by rw [HT.out]; try simp, by go_num⟩
      case measure => simp [intOf]; omega
    · obtain rfl : k = l.length := by omega
      go_wp2_with fail
      go_ret
      exact ⟨ret_int (by simp), rfl⟩

theorem ref1_AllI (A : Option Addr) (l : List Int) (c : Nat) (d : Int) (w : World) (h0 : 0 ≤ d) (hd : d ≤ 4611686018427387904) (hs : smallB 4611686018427387904 l = true) (hr : Rd w A c l) :
    Calls Try.prog 121 #[.slice A l.length c, .int .i64 d] w fun e w' => e = .returned (.int .i64 (comm d.natAbs l)) ∧ w = w' := by
  obtain ⟨d, rfl⟩ := Int.eq_ofNat_of_zero_le h0
  exact ref1_All A l c d w (by omega) hs hr

theorem ref1_within (A : Option Addr) (l : List Int) (c : Nat) (m : Int) (w : World) (hm : 0 ≤ m) (hm' : m ≤ 4611686018427387904) (hr : Rd w A c l) :
    Calls Try.prog 119 #[.slice A l.length c, .int .i64 m] w fun e w' => e = .returned (.bool (smallB m l)) ∧ w = w' := by
  have HR := Lib.hid hr
  obtain ⟨hl, hc, hsm, _⟩ := hr
  go_enter Try.func119, Try.ntmps119
  go_wp2_with fail
  go_loop [5] (fun i => ∃ k : Nat, k ≤ l.length ∧ smallB m (l.take k) = true ∧ i = .int .i64 k) (fun i => l.length - (intOf i).toNat)
  case atStart => exact ⟨0, by omega, by simp [smallB], rfl⟩
  case round =>
    obtain ⟨k, hk, hs, rfl⟩ := hrel
    have HS := Lib.hid hs
    clear hs
    by_cases hlt : k < l.length
    · obtain ⟨ad, rfl, hc1⟩ := HR.out.at_ hlt
      have HT := Lib.hid (smallB_take (m := m) hlt)
      have HF := Lib.hid (smallB_false (m := m) hlt)
      by_cases h1 : l[k] < -m
      · go_wp2_with fail
        go_ret
        exact ⟨ret_bool (HF.out (by simp; omega)).symm, rfl⟩
      · by_cases h2 : m < l[k]
        · go_wp2_with fail
          go_ret
          exact ⟨ret_bool (HF.out (by simp; omega)).symm, rfl⟩
        · go_wp2_with fail
          go_round
          case rel => exact ⟨k + 1, by omega, by rw [HT.out, HS.out]; simp; omega, by go_num⟩
          case measure => simp [intOf]; omega
    · obtain rfl : k = l.length := by omega
      go_wp2_with fail
      go_ret
      exact ⟨ret_bool (by rw [← HS.out, List.take_length]), rfl⟩
theorem ref1_within1 (A : Option Addr) (n : Int) (c : Nat) (m : Int) (w : World) (hm : 0 ≤ m) (hm' : m ≤ 4611686018427387904) (hr : Rd w A c [n]) :
    Calls Try.prog 119 #[.slice A 1 c, .int .i64 m] w fun e w' => e = .returned (.bool (smallB m [n])) ∧ w = w' := ref1_within A [n] c m w hm hm' hr

theorem ref1_MayPoint (A : Option Addr) (l : List Int) (c : Nat) (d : Int) (w : World) (hr : Rd w A c l) :
    Calls Try.prog 113 #[.agg #[.slice A l.length c, .int .i64 d]] w fun e w' => e = .returned (.bool (mayB l d)) ∧ Below w.heap.size w w' := by
  have HR := Lib.hid hr
  obtain ⟨hl, hc, hsm, _⟩ := hr
  by_cases h1 : d < 1
  · have hv : mayB l d = false := by simp [mayB, rightB]; omega
    rw [hv]
    clear hv
    go_enter Try.func113, Try.ntmps113
    go_wp2_with fail
    go_ret
    exact ⟨rfl, (by (repeat (any_goals (first | exact Below.refl _ _ | refine below_drewN ?_ _ | refine Below.drew ?_ | refine Below.alloc ?_ ?_ _ | refine Below.setCell ?_ ?_ _))); all_goals (first | omega | (simp; done) | (simp; omega)))⟩
  by_cases h2 : 1073741824 < d
  · have hv : mayB l d = false := by simp [mayB, rightB]; omega
    rw [hv]
    clear hv
    go_enter Try.func113, Try.ntmps113
    go_wp2_with fail
    go_ret
    exact ⟨rfl, (by (repeat (any_goals (first | exact Below.refl _ _ | refine below_drewN ?_ _ | refine Below.drew ?_ | refine Below.alloc ?_ ?_ _ | refine Below.setCell ?_ ?_ _))); all_goals (first | omega | (simp; done) | (simp; omega)))⟩
  cases hs : smallB 1073741824 l with
  | false =>
    have hv : mayB l d = false := by simp [mayB, rightB, hs]
    rw [hv]
    clear hv
    go_enter Try.func113, Try.ntmps113
    go_wp2_with fail
    refine (ref1_within _ _ _ _ _ (by omega) (by omega) (by exact HR.out.alloc _)).mono ?_
    rintro e w' ⟨rfl, rfl⟩
    rw [hs]
    go_wp2_with fail
    go_ret
    exact ⟨rfl, (by (repeat (any_goals (first | exact Below.refl _ _ | refine below_drewN ?_ _ | refine Below.drew ?_ | refine Below.alloc ?_ ?_ _ | refine Below.setCell ?_ ?_ _))); all_goals (first | omega | (simp; done) | (simp; omega)))⟩
  | true =>
    have hz := Lib.hid (show smallB 4611686018427387904 l = true by rw [smallB_iff]; intro n hn; have := smallB_mem hs hn; omega)
    by_cases h3 : l.length ≤ 8
    · have hv : mayB l d = ((comm d.natAbs l : Int) == 1) := by rw [Bool.eq_iff_iff]; simp [mayB, rightB, hs]; omega
      rw [hv]
      clear hv
      go_enter Try.func113, Try.ntmps113
      go_wp2_with fail
      refine (ref1_within _ _ _ _ _ (by omega) (by omega) (by exact HR.out.alloc _)).mono ?_
      rintro e w' ⟨rfl, rfl⟩
      rw [hs]
      go_wp2_with fail
      refine (ref1_AllI _ _ _ _ _ (by omega) (by omega) hz.out (by exact HR.out.alloc _)).mono ?_
      rintro e w' ⟨rfl, rfl⟩
      go_wp2_with fail
      go_ret
      exact ⟨rfl, (by (repeat (any_goals (first | exact Below.refl _ _ | refine below_drewN ?_ _ | refine Below.drew ?_ | refine Below.alloc ?_ ?_ _ | refine Below.setCell ?_ ?_ _))); all_goals (first | omega | (simp; done) | (simp; omega)))⟩
    · have hv : mayB l d = false := by simp [mayB, rightB, hs]; omega
      rw [hv]
      clear hv
      go_enter Try.func113, Try.ntmps113
      go_wp2_with fail
      refine (ref1_within _ _ _ _ _ (by omega) (by omega) (by exact HR.out.alloc _)).mono ?_
      rintro e w' ⟨rfl, rfl⟩
      rw [hs]
      go_wp2_with fail
      go_ret
      exact ⟨ret_bool (by simp <;> omega), (by (repeat (any_goals (first | exact Below.refl _ _ | refine below_drewN ?_ _ | refine Below.drew ?_ | refine Below.alloc ?_ ?_ _ | refine Below.setCell ?_ ?_ _))); all_goals (first | omega | (simp; done) | (simp; omega)))⟩
theorem ref1_MayPoint1 (A : Option Addr) (n : Int) (c : Nat) (d : Int) (w : World) (hr : Rd w A c [n]) :
    Calls Try.prog 113 #[.agg #[.slice A 1 c, .int .i64 d]] w fun e w' => e = .returned (.bool (mayB [n] d)) ∧ Below w.heap.size w w' := ref1_MayPoint A [n] c d w hr
end Go.Proofs.Ytjcdkbalhleeeab
