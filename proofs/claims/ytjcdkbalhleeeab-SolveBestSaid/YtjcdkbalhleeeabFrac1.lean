/-
  Walks: frac.gcd, small, common, right compute what the plain words say. Conditions: the numbers are within 2^62.
-/
import Derived.Test.YtjcdkbalhleeeabMem
import Derived.Test.YtjcdkbalhleeeabPlainA
namespace Go.Proofs.Ytjcdkbalhleeeab
open Go.RowKit

theorem frac_gcd (a b : Nat) (w : World) (ha' : a ≤ 4611686018427387904) (hb' : b ≤ 4611686018427387904) :
    Calls Try.prog 133 #[.int .i64 a, .int .i64 b] w fun e w' => e = .returned (.int .i64 (Nat.gcd a b)) ∧ ∃ n, w' = w.drewN n := by
  go_enter Try.func133, Try.ntmps133
  go_wp2
  go_loopw [0, 1] (fun x y wr => ∃ c d : Nat, c ≤ 4611686018427387904 ∧ d ≤ 4611686018427387904 ∧ Nat.gcd c d = Nat.gcd a b ∧ x = .int .i64 c ∧ y = .int .i64 d ∧ ∃ n, wr = w.drewN n) (fun _ y _ => (intOf y).toNat)
  case atStart => exact ⟨a, b, ha', hb', rfl, rfl, rfl, 0, rfl⟩
  case round =>
    obtain ⟨c, d, hc, hd, hg, rfl, rfl, n, rfl⟩ := hrel
    have HG := Lib.hid hg
    clear hg
    by_cases h0 : d = 0
    · subst h0
      go_wp2
      go_ret
      exact ⟨ret_int (by rw [← HG.out]; simp), _, rfl⟩
    · have hz' : ((d : Int) != 0) = true := by simp; omega
      have hm : c % d < d := Nat.mod_lt _ (by omega)
      go_wp2
      go_region
      all_goals
        go_wp2
        go_roundw
        case rel => exact ⟨d, c % d, hd, by omega, by rw [← HG.out, Nat.gcd_comm c d, Nat.gcd_rec d c, Nat.gcd_comm], rfl, by simp, n + 1, rfl⟩
        case measure => simp [intOf]; omega

theorem frac_gcdI (a b : Int) (w : World) (ha : 0 ≤ a) (hb : 0 ≤ b) (ha' : a ≤ 4611686018427387904) (hb' : b ≤ 4611686018427387904) :
    Calls Try.prog 133 #[.int .i64 a, .int .i64 b] w fun e w' => e = .returned (.int .i64 (Nat.gcd a.natAbs b.natAbs)) ∧ ∃ n, w' = w.drewN n := by
  obtain ⟨a, rfl⟩ := Int.eq_ofNat_of_zero_le ha
  obtain ⟨b, rfl⟩ := Int.eq_ofNat_of_zero_le hb
  exact frac_gcd a b w (by omega) (by omega)

theorem frac_small (m : Int) (A : Option Addr) (l : List Int) (c : Nat) (w : World) (hm : 0 ≤ m) (hm' : m ≤ 4611686018427387904) (hr : Rd w A c l) :
    Calls Try.prog 95 #[.int .i64 m, .slice A l.length c] w fun e w' => e = .returned (.bool (smallB m l)) ∧ ∃ n, w' = w.drewN n := by
  obtain ⟨hl, hc, hsm, hr⟩ := hr
  go_enter Try.func95, Try.ntmps95
  go_wp2
  go_loop [9] (fun i => ∃ k : Nat, k ≤ l.length ∧ smallB m (l.take k) = true ∧ i = .int .i64 k) (fun i => l.length - (intOf i).toNat)
  case atStart => exact ⟨0, by omega, by simp [smallB], rfl⟩
  case round =>
    obtain ⟨k, hk, hs, rfl⟩ := hrel
    have HS := Lib.hid hs
    clear hs
    by_cases hlt : k < l.length
    · obtain ⟨ad, rfl, hc1⟩ := hr.at_ (k := k) (by simpa using hlt)
      rw [List.getElem_map] at hc1
      clear hr
      have HT := Lib.hid (smallB_take (m := m) hlt)
      have HF := Lib.hid (smallB_false (m := m) hlt)
      by_cases h1 : l[k] < -m
      · go_wp2
        go_ret
        exact ⟨ret_bool (HF.out (by simp; omega)).symm, 0, rfl⟩
      · by_cases h2 : m < l[k]
        · go_wp2
          go_ret
          exact ⟨ret_bool (HF.out (by simp; omega)).symm, 0, rfl⟩
        · go_wp2
          go_round
          case rel => exact ⟨k + 1, by omega, by rw [HT.out, HS.out]; simp; omega, by go_num⟩
          case measure => simp [intOf]; omega
    · obtain rfl : k = l.length := by omega
      go_wp2
      go_ret
      exact ⟨ret_bool (by rw [← HS.out, List.take_length]), 0, rfl⟩

theorem frac_common (d : Nat) (A : Option Addr) (l : List Int) (c : Nat) (w : World) (hd : d ≤ 4611686018427387904) (hs : smallB 4611686018427387904 l = true) (hr : Rd w A c l) :
    Calls Try.prog 96 #[.int .i64 d, .slice A l.length c] w fun e w' => e = .returned (.int .i64 (comm d l)) ∧ ∃ n, w' = w.drewN n := by
  obtain ⟨hl, hc, hsm, hr⟩ := hr
  have hbd : ∀ n ∈ l, n.natAbs ≤ 4611686018427387904 := fun n hn => by have := smallB_mem hs hn; omega
  have HB := Lib.hid hbd
  have HS := Lib.hid hs
  clear hs hbd
  go_enter Try.func96, Try.ntmps96
  go_wp2
  go_loopw [0, 9] (fun x i wr => ∃ k : Nat, k ≤ l.length ∧ x = .int .i64 (comm d (l.take k)) ∧ i = .int .i64 k ∧ ∃ n, wr = w.drewN n) (fun _ i _ => l.length - (intOf i).toNat)
  case atStart => exact ⟨0, by omega, rfl, rfl, 0, rfl⟩
  case round =>
    obtain ⟨k, hk, rfl, rfl, n, rfl⟩ := hrel
    have hb1 : comm d (l.take k) ≤ 4611686018427387904 := comm_bound _ _ _ hd fun x hx => HB.out x (List.mem_of_mem_take hx)
    by_cases hlt : k < l.length
    · obtain ⟨ad, rfl, hc1⟩ := hr.at_ (k := k) (by simpa using hlt)
      rw [List.getElem_map] at hc1
      clear hr
      have hb2 := smallB_at HS.out hlt
      obtain ⟨hb2, hb3⟩ := hb2
      have HT := Lib.hid (comm_take d hlt)
      go_wp2_with (go_at_call 133; refine (frac_gcdI _ _ _ (by omega) (by omega) (by omega) (by omega)).mono ?_; rintro e w' ⟨rfl, n', rfl⟩)
      all_goals
        go_roundw
        case rel => exact ⟨k + 1, by omega, by rw [HT.out]; (try split) <;> simp, by go_num, _, rfl⟩
        case measure => simp [intOf]; omega
    · obtain rfl : k = l.length := by omega
      go_wp2
      go_ret
      exact ⟨ret_int (by rw [List.take_length]), _, rfl⟩

theorem frac_commonI (d : Int) (A : Option Addr) (l : List Int) (c : Nat) (w : World) (h0 : 0 ≤ d) (hd : d ≤ 4611686018427387904) (hs : smallB 4611686018427387904 l = true) (hr : Rd w A c l) :
    Calls Try.prog 96 #[.int .i64 d, .slice A l.length c] w fun e w' => e = .returned (.int .i64 (comm d.natAbs l)) ∧ ∃ n, w' = w.drewN n := by
  obtain ⟨d, rfl⟩ := Int.eq_ofNat_of_zero_le h0
  exact frac_common d A l c w (by omega) hs hr
end Go.Proofs.Ytjcdkbalhleeeab
