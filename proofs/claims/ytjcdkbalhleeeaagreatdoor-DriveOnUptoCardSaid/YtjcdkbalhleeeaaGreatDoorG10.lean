/-
  Contracts of functions and plain laws that later parts of the proof use. The conditions stand in each theorem.
-/
import Derived.Test.YtjcdkbalhleeeaaGreatDoorG09
import Derived.Test.YtjcdkbalhleeeaaGreatDoorG08
import Derived.Test.YtjcdkbalhleeeaaGreatDoorG01
namespace Go.Proofs.YtjcdkbalhleeeaaGreatDoor
open Go.RowKit

theorem layout_within (m : Int) (A : Option Addr) (l : List Int) (c : Nat) (w : World) (hm : 0 ≤ m) (hm' : m ≤ 4611686018427387904) (hr : Rd w A c l) :
    Calls Tryz.prog 31 #[.int .i64 m, .slice A l.length c] w fun e w' => e = .returned (.bool (smallB m l)) ∧ ∃ n, w' = w.drewN n := by
  obtain ⟨hl, hc, hsm, hr⟩ := hr
  go_enter Tryz.func31, Tryz.ntmps31
  go_wp2
  go_loop [9] (fun i => ∃ k : Nat, k ≤ l.length ∧ smallB m (l.take k) = true ∧ i = .int .i64 k) (fun i => l.length - (intOf i).toNat)
  case atStart => exact ⟨0, by omega, by simp [smallB], rfl⟩
  case round =>
    obtain ⟨k, hk, hs, rfl⟩ := hrel
    have HS := Lib.hid hs
    clear hs
    by_cases hlt : k < l.length
    · obtain ⟨ad, rfl, hc1⟩ := hr.at_ (k := k) (by simpa using hlt)
      rw [List.getElem_map] at hc1
      clear hr
      have HT := Lib.hid (smallB_take (m := m) hlt)
      have HF := Lib.hid (smallB_false (m := m) hlt)
      by_cases h1 : l[k] < -m
      · go_wp2
        go_ret
        exact ⟨ret_bool (HF.out (by simp; omega)).symm, 0, rfl⟩
      · by_cases h2 : m < l[k]
        · go_wp2
          go_ret
          exact ⟨ret_bool (HF.out (by simp; omega)).symm, 0, rfl⟩
        · go_wp2
          go_round
          case rel => exact ⟨k + 1, by omega, by rw [HT.out, HS.out]; simp; omega, by go_num⟩
          case measure => simp [intOf]; omega
    · obtain rfl : k = l.length := by omega
      go_wp2
      go_ret
      exact ⟨ret_bool (by rw [← HS.out, List.take_length]), 0, rfl⟩

theorem layout_within1 (m : Int) (A : Option Addr) (n : Int) (c : Nat) (w : World) (hm : 0 ≤ m) (hm' : m ≤ 4611686018427387904) (hr : Rd w A c [n]) :
    Calls Tryz.prog 31 #[.int .i64 m, .slice A 1 c] w fun e w' => e = .returned (.bool (smallB m [n])) ∧ ∃ n, w' = w.drewN n := layout_within m A [n] c w hm hm' hr

theorem layout_Dot0 (A : Option Addr) (a : List Int) (c : Nat) (B : Option Addr) (b : List Int) (c' : Nat) (X Y : Int) (w : World) (hr : Rd w A c a) (hr' : Rd w B c' b) (hlen : a.length ≤ b.length)
    (hX : 0 ≤ X) (hY : 0 ≤ Y) (ha : smallB X a = true) (hb : smallB Y b = true) (h8 : a.length * (X * Y) ≤ 4611686018427387904) :
    Calls Tryz.prog 84 #[.slice A a.length c, .slice B b.length c'] w fun e w' => e = .returned (.int .i64 (dot a b)) ∧ w' = w := by
  have HR := Lib.hid hr
  have HR' := Lib.hid hr'
  obtain ⟨hl, hc, hsm, _⟩ := hr
  obtain ⟨hl', hc', hsm', _⟩ := hr'
  have HA := Lib.hid ha
  have HB := Lib.hid hb
  have HD := Lib.hid (dot_take_bound ha hb hX hY)
  clear ha hb
  go_enter Tryz.func84, Tryz.ntmps84
  go_wp2_with fail
  go_loop [5, 10] (fun s i => ∃ k : Nat, k ≤ a.length ∧ s = .int .i64 (dot (a.take k) b) ∧ i = .int .i64 k) (fun _ i => a.length - (intOf i).toNat)
  case atStart => exact ⟨0, by omega, rfl, rfl⟩
  case round =>
    obtain ⟨k, hk, rfl, rfl⟩ := hrel
    by_cases hlt : k < a.length
    · have hlt' : k < b.length := by omega
      obtain ⟨ad, rfl, hc1⟩ := HR.out.at_ hlt
      obtain ⟨ad', rfl, hc2⟩ := HR'.out.at_ hlt'
      have hi0 : (k : Int) < (b.length : Int) := by omega
      have h1 := HD.out k
      have h2 := HD.out (k + 1)
      have HT := Lib.hid (dot_take hlt hlt')
      rw [HT.out] at h2
      have hx := smallB_at HA.out hlt
      have hy := smallB_at HB.out hlt'
      have h3 := mul_bound _ _ X Y hx.1 hx.2 hy.1 hy.2
      have h4 : X * Y ≤ a.length * (X * Y) := by
        have h0 : (1 : Int) * (X * Y) ≤ a.length * (X * Y) := Int.mul_le_mul_of_nonneg_right (by omega) (Int.mul_nonneg hX hY)
        omega
      obtain ⟨h3a, h3b⟩ := h3
      obtain ⟨h1a, h1b⟩ := h1
      obtain ⟨h2a, h2b⟩ := h2
      have g1 : -4611686018427387904 ≤ a[k] * b[k] := by omega
      have g2 : a[k] * b[k] ≤ 4611686018427387904 := by omega
      have g3 : -4611686018427387904 ≤ dot (a.take k) b + a[k] * b[k] := by omega
      have g4 : dot (a.take k) b + a[k] * b[k] ≤ 4611686018427387904 := by omega
      clear h3a h3b h1a h1b h2a h2b h4 h8
      go_wp2_with fail
      go_round
      case rel => exact ⟨k + 1, by omega, by rw [HT.out], by go_num⟩
      case measure => simp [intOf]; omega
    · obtain rfl : k = a.length := by omega
      go_wp2_with fail
      go_ret
      exact ⟨ret_int (by simp), rfl⟩

theorem layout_Dot (A : Option Addr) (a : List Int) (c : Nat) (B : Option Addr) (b : List Int) (c' : Nat) (X Y : Int) (w : World) (hr : Rd w A c a) (hr' : Rd w B c' b) (hlen : a.length ≤ b.length)
    (hX : 0 ≤ X) (hY : 0 ≤ Y) (ha : smallB X a = true) (hb : smallB Y b = true) (h8 : a.length * (X * Y) ≤ 4611686018427387904) :
    Calls Tryz.prog 84 #[.slice A a.length c, .slice B b.length c'] w fun e w' => e = .returned (.int .i64 (dot a b)) ∧ ∃ n, w' = w.drewN n :=
  (layout_Dot0 A a c B b c' X Y w hr hr' hlen hX hY ha hb h8).mono fun _ _ h => ⟨h.1, 0, h.2⟩

theorem layout_May (A : Option Addr) (c : Nat) (A2 : Option Addr) (c2 : Nat) (p : PG) (w : World) (hp : Pg w A c A2 c2 p) :
    Calls Tryz.prog 16 #[.agg #[.slice A p.costs.length c, .slice A2 p.rows.length c2]] w fun e w' => e = .returned (.bool (mayPB p)) ∧ Below w.heap.size w w' := by
  have HP := Lib.hid hp
  obtain ⟨⟨hl, hc, hsm, _⟩, ⟨hl2, hc2, hsm2, _⟩⟩ := hp
  by_cases hn1 : p.costs.length < 1
  · have hv : mayPB p = false := by
      rw [Bool.eq_false_iff]; intro h; have := mayPB_iff.1 h; omega
    rw [hv]
    clear hv
    go_enter Tryz.func16, Tryz.ntmps16
    go_wp2_with fail
    go_quiet (fail)
    go_wp2_with fail
    go_ret
    exact ⟨rfl, (by (repeat (any_goals (first | exact Below.refl _ _ | refine below_drewN ?_ _ | refine Below.drew ?_ | refine Below.alloc ?_ ?_ _ | refine Below.setCell ?_ ?_ _))); all_goals (first | omega | (simp; done) | (simp; omega)))⟩
  by_cases hn2 : 4 < p.costs.length
  · have hv : mayPB p = false := by
      rw [Bool.eq_false_iff]; intro h; have := mayPB_iff.1 h; omega
    rw [hv]
    clear hv
    go_enter Tryz.func16, Tryz.ntmps16
    go_wp2_with fail
    go_quiet (fail)
    go_wp2_with fail
    go_ret
    exact ⟨rfl, (by (repeat (any_goals (first | exact Below.refl _ _ | refine below_drewN ?_ _ | refine Below.drew ?_ | refine Below.alloc ?_ ?_ _ | refine Below.setCell ?_ ?_ _))); all_goals (first | omega | (simp; done) | (simp; omega)))⟩
  by_cases hm1 : p.rows.length < 1
  · have hv : mayPB p = false := by
      rw [Bool.eq_false_iff]; intro h; have := mayPB_iff.1 h; omega
    rw [hv]
    clear hv
    go_enter Tryz.func16, Tryz.ntmps16
    go_wp2_with fail
    go_quiet (fail)
    go_wp2_with fail
    go_ret
    exact ⟨rfl, (by (repeat (any_goals (first | exact Below.refl _ _ | refine below_drewN ?_ _ | refine Below.drew ?_ | refine Below.alloc ?_ ?_ _ | refine Below.setCell ?_ ?_ _))); all_goals (first | omega | (simp; done) | (simp; omega)))⟩
  by_cases hm2 : 4 < p.rows.length
  · have hv : mayPB p = false := by
      rw [Bool.eq_false_iff]; intro h; have := mayPB_iff.1 h; omega
    rw [hv]
    clear hv
    go_enter Tryz.func16, Tryz.ntmps16
    go_wp2_with fail
    go_quiet (fail)
    go_wp2_with fail
    go_ret
    exact ⟨rfl, (by (repeat (any_goals (first | exact Below.refl _ _ | refine below_drewN ?_ _ | refine Below.drew ?_ | refine Below.alloc ?_ ?_ _ | refine Below.setCell ?_ ?_ _))); all_goals (first | omega | (simp; done) | (simp; omega)))⟩
  cases hs : smallB 400 p.costs with
  | false =>
    have hv : mayPB p = false := by
      rw [Bool.eq_false_iff]; intro h; have := mayPB_iff.1 h; simp [hs] at this
    rw [hv]
    clear hv
    go_enter Tryz.func16, Tryz.ntmps16
    go_wp2_with fail
    go_quiet (fail)
    go_wp2_with fail
    refine (layout_within _ _ _ _ _ (by omega) (by omega) (by exact (HP.out.costs.alloc _).drewN _)).mono ?_
    rintro e w' ⟨rfl, n, rfl⟩
    rw [hs]
    go_wp2_with fail
    go_ret
    exact ⟨rfl, (by (repeat (any_goals (first | exact Below.refl _ _ | refine below_drewN ?_ _ | refine Below.drew ?_ | refine Below.alloc ?_ ?_ _ | refine Below.setCell ?_ ?_ _))); all_goals (first | omega | (simp; done) | (simp; omega)))⟩
  | true =>
    have hv : mayPB p = p.rows.all (rowB p.costs.length) := by
      rw [Bool.eq_iff_iff, mayPB_iff]; simp only [hs]; constructor
      · intro h; exact h.2.2.2.2.2
      · intro h; exact ⟨by omega, by omega, by omega, by omega, trivial, h⟩
    rw [hv]
    clear hv
    go_enter Tryz.func16, Tryz.ntmps16
    go_wp2_with fail
    go_quiet (fail)
    go_wp2_with fail
    refine (layout_within _ _ _ _ _ (by omega) (by omega) (by exact (HP.out.costs.alloc _).drewN _)).mono ?_
    rintro e w' ⟨rfl, n, rfl⟩
    rw [hs]
    go_wp2_with fail
    go_loopw [36] (fun i wr => ∃ k : Nat, k ≤ p.rows.length ∧ i = .int .i64 k ∧ (p.rows.take k).all (rowB p.costs.length) = true ∧ Below w.heap.size w wr) (fun i _ => p.rows.length - (intOf i).toNat)
    case atStart => exact ⟨0, by omega, rfl, by simp, (by (repeat (any_goals (first | exact Below.refl _ _ | refine below_drewN ?_ _ | refine Below.drew ?_ | refine Below.alloc ?_ ?_ _ | refine Below.setCell ?_ ?_ _))); all_goals (first | omega | (simp; done) | (simp; omega)))⟩
    case round =>
      obtain ⟨k, hk, rfl, hall, hbel⟩ := hrel
      have HA := Lib.hid hall
      have HL := Lib.hid hbel
      have HPr := Lib.hid (HP.out.below hbel)
      have zL := hbel.size
      clear hall hbel
      by_cases hlt : k < p.rows.length
      · obtain ⟨ad, A', c', rfl, hc1, hc2', hr⟩ := HPr.out.rows.at_ hlt
        have hadl := World.block_lt_of_cell? _ _ hc1
        have HR := Lib.hid hr
        obtain ⟨hrl, hrc, _, _⟩ := hr
        have HT := Lib.hid (all_take (f := rowB p.costs.length) hlt)
        have HF := Lib.hid (all_false (f := rowB p.costs.length) hlt)
        have HRB := Lib.hid (show rowB p.costs.length p.rows[k] = (decide (p.rows[k].1.length = p.costs.length) && (smallB 12 [p.rows[k].2] && smallB 12 p.rows[k].1)) from rfl)
        generalize hr1 : p.rows[k].1 = r1 at *
        generalize hr2 : p.rows[k].2 = r2 at *
        clear hr1 hr2
        by_cases h1 : r1.length = p.costs.length
        · have h1z : ((r1.length : Int) != (p.costs.length : Int)) = false := by simp [h1]
          have H1 := Lib.hid h1
          clear h1
          go_wp2_with fail
          refine (layout_within1 _ _ _ _ _ (by omega) (by omega) (by exact Rd.new1 _ _ _ _ (by simp))).mono ?_
          rintro e w1 ⟨rfl, n1, rfl⟩
          cases hs1 : smallB 12 [r2] with
          | false =>
            go_wp2_with fail
            go_ret
            exact ⟨ret_bool (by rw [HF.out (by rw [HRB.out]; simp [hs1])]), (by (repeat (any_goals (first | exact Below.refl _ _ | exact HL.out | refine below_drewN ?_ _ | refine Below.drew ?_ | refine Below.alloc ?_ ?_ _ | refine Below.setCell ?_ ?_ _ | refine Below.trans ?_ (Below.mono HL.out ?_)))); all_goals (first | omega | (simp; done) | (simp; omega) | ((try have z0 := HL.out.size); (try simp at z0); (try simp); omega)))⟩
          | true =>
            go_wp2_with fail
            refine (layout_within _ _ _ _ _ (by omega) (by omega) (by exact ((HR.out.alloc _).alloc _).drewN _)).mono ?_
            rintro e w2 ⟨rfl, n2, rfl⟩
            cases hs2 : smallB 12 r1 with
            | false =>
              go_wp2_with fail
              go_ret
              exact ⟨ret_bool (by rw [HF.out (by rw [HRB.out]; simp [hs2])]), (by (repeat (any_goals (first | exact Below.refl _ _ | exact HL.out | refine below_drewN ?_ _ | refine Below.drew ?_ | refine Below.alloc ?_ ?_ _ | refine Below.setCell ?_ ?_ _ | refine Below.trans ?_ (Below.mono HL.out ?_)))); all_goals (first | omega | (simp; done) | (simp; omega) | ((try have z0 := HL.out.size); (try simp at z0); (try simp); omega)))⟩
            | true =>
              go_wp2_with fail
              go_roundw
              case rel => exact ⟨k + 1, by omega, by go_num, by rw [HT.out, HA.out, HRB.out]; simp [H1.out, hs1, hs2], (by (repeat (any_goals (first | exact Below.refl _ _ | exact HL.out | refine below_drewN ?_ _ | refine Below.drew ?_ | refine Below.alloc ?_ ?_ _ | refine Below.setCell ?_ ?_ _ | refine Below.trans ?_ (Below.mono HL.out ?_)))); all_goals (first | omega | (simp; done) | (simp; omega) | ((try have z0 := HL.out.size); (try simp at z0); (try simp); omega)))⟩
              case measure => simp [intOf]; omega
        · have h1z : ((r1.length : Int) != (p.costs.length : Int)) = true := by simp; omega
          go_wp2_with fail
          go_ret
          exact ⟨ret_bool (by rw [HF.out (by rw [HRB.out]; simp [h1])]), (by (repeat (any_goals (first | exact Below.refl _ _ | exact HL.out | refine below_drewN ?_ _ | refine Below.drew ?_ | refine Below.alloc ?_ ?_ _ | refine Below.setCell ?_ ?_ _ | refine Below.trans ?_ (Below.mono HL.out ?_)))); all_goals (first | omega | (simp; done) | (simp; omega) | ((try have z0 := HL.out.size); (try simp at z0); (try simp); omega)))⟩
      · obtain rfl : k = p.rows.length := by omega
        go_wp2_with fail
        go_ret
        exact ⟨ret_bool (by rw [← HA.out, List.take_length]), (by (repeat (any_goals (first | exact Below.refl _ _ | exact HL.out | refine below_drewN ?_ _ | refine Below.drew ?_ | refine Below.alloc ?_ ?_ _ | refine Below.setCell ?_ ?_ _ | refine Below.trans ?_ (Below.mono HL.out ?_)))); all_goals (first | omega | (simp; done) | (simp; omega) | ((try have z0 := HL.out.size); (try simp at z0); (try simp); omega)))⟩
end Go.Proofs.YtjcdkbalhleeeaaGreatDoor

namespace Go.Proofs.YtjcdkbalhleeeaaGreatDoor
open Go.RowKit

theorem frac_gcd (a b : Nat) (w : World) (ha' : a ≤ 4611686018427387904) (hb' : b ≤ 4611686018427387904) :
    Calls Tryz.prog 113 #[.int .i64 a, .int .i64 b] w fun e w' => e = .returned (.int .i64 (Nat.gcd a b)) ∧ ∃ n, w' = w.drewN n := by
  go_enter Tryz.func113, Tryz.ntmps113
  go_wp2
  go_loopw [0, 1] (fun x y wr => ∃ c d : Nat, c ≤ 4611686018427387904 ∧ d ≤ 4611686018427387904 ∧ Nat.gcd c d = Nat.gcd a b ∧ x = .int .i64 c ∧ y = .int .i64 d ∧ ∃ n, wr = w.drewN n) (fun _ y _ => (intOf y).toNat)
  case atStart => exact ⟨a, b, ha', hb', rfl, rfl, rfl, 0, rfl⟩
  case round =>
    obtain ⟨c, d, hc, hd, hg, rfl, rfl, n, rfl⟩ := hrel
    have HG := Lib.hid hg
    clear hg
    by_cases h0 : d = 0
    · subst h0
      go_wp2
      go_ret
      exact ⟨ret_int (by rw [← HG.out]; simp), _, rfl⟩
    · have hz' : ((d : Int) != 0) = true := by simp; omega
      have hm : c % d < d := Nat.mod_lt _ (by omega)
      go_wp2
      go_region
      all_goals
        go_wp2
        go_roundw
        case rel => exact ⟨d, c % d, hd, by omega, by rw [← HG.out, Nat.gcd_comm c d, Nat.gcd_rec d c, Nat.gcd_comm], rfl, by simp, n + 1, rfl⟩
        case measure => simp [intOf]; omega

theorem frac_gcdI (a b : Int) (w : World) (ha : 0 ≤ a) (hb : 0 ≤ b) (ha' : a ≤ 4611686018427387904) (hb' : b ≤ 4611686018427387904) :
    Calls Tryz.prog 113 #[.int .i64 a, .int .i64 b] w fun e w' => e = .returned (.int .i64 (Nat.gcd a.natAbs b.natAbs)) ∧ ∃ n, w' = w.drewN n := by
  obtain ⟨a, rfl⟩ := Int.eq_ofNat_of_zero_le ha
  obtain ⟨b, rfl⟩ := Int.eq_ofNat_of_zero_le hb
  exact frac_gcd a b w (by omega) (by omega)

theorem frac_small (m : Int) (A : Option Addr) (l : List Int) (c : Nat) (w : World) (hm : 0 ≤ m) (hm' : m ≤ 4611686018427387904) (hr : Rd w A c l) :
    Calls Tryz.prog 79 #[.int .i64 m, .slice A l.length c] w fun e w' => e = .returned (.bool (smallB m l)) ∧ ∃ n, w' = w.drewN n := by
  obtain ⟨hl, hc, hsm, hr⟩ := hr
  go_enter Tryz.func79, Tryz.ntmps79
  go_wp2
  go_loop [9] (fun i => ∃ k : Nat, k ≤ l.length ∧ smallB m (l.take k) = true ∧ i = .int .i64 k) (fun i => l.length - (intOf i).toNat)
  case atStart => exact ⟨0, by omega, by simp [smallB], rfl⟩
  case round =>
    obtain ⟨k, hk, hs, rfl⟩ := hrel
    have HS := Lib.hid hs
    clear hs
    by_cases hlt : k < l.length
    · obtain ⟨ad, rfl, hc1⟩ := hr.at_ (k := k) (by simpa using hlt)
      rw [List.getElem_map] at hc1
      clear hr
      have HT := Lib.hid (smallB_take (m := m) hlt)
      have HF := Lib.hid (smallB_false (m := m) hlt)
      by_cases h1 : l[k] < -m
      · go_wp2
        go_ret
        exact ⟨ret_bool (HF.out (by simp; omega)).symm, 0, rfl⟩
      · by_cases h2 : m < l[k]
        · go_wp2
          go_ret
          exact ⟨ret_bool (HF.out (by simp; omega)).symm, 0, rfl⟩
        · go_wp2
          go_round
          case rel => exact ⟨k + 1, by omega, by rw [HT.out, HS.out]; simp; omega, by go_num⟩
          case measure => simp [intOf]; omega
    · obtain rfl : k = l.length := by omega
      go_wp2
      go_ret
      exact ⟨ret_bool (by rw [← HS.out, List.take_length]), 0, rfl⟩

theorem frac_common (d : Nat) (A : Option Addr) (l : List Int) (c : Nat) (w : World) (hd : d ≤ 4611686018427387904) (hs : smallB 4611686018427387904 l = true) (hr : Rd w A c l) :
    Calls Tryz.prog 80 #[.int .i64 d, .slice A l.length c] w fun e w' => e = .returned (.int .i64 (comm d l)) ∧ ∃ n, w' = w.drewN n := by
  obtain ⟨hl, hc, hsm, hr⟩ := hr
  have hbd : ∀ n ∈ l, n.natAbs ≤ 4611686018427387904 := fun n hn => by have := smallB_mem hs hn; omega
  have HB := Lib.hid hbd
  have HS := Lib.hid hs
  clear hs hbd
  go_enter Tryz.func80, Tryz.ntmps80
  go_wp2
  go_loopw [0, 9] (fun x i wr => ∃ k : Nat, k ≤ l.length ∧ x = .int .i64 (comm d (l.take k)) ∧ i = .int .i64 k ∧ ∃ n, wr = w.drewN n) (fun _ i _ => l.length - (intOf i).toNat)
  case atStart => exact ⟨0, by omega, rfl, rfl, 0, rfl⟩
  case round =>
    obtain ⟨k, hk, rfl, rfl, n, rfl⟩ := hrel
    have hb1 : comm d (l.take k) ≤ 4611686018427387904 := comm_bound _ _ _ hd fun x hx => HB.out x (List.mem_of_mem_take hx)
    by_cases hlt : k < l.length
    · obtain ⟨ad, rfl, hc1⟩ := hr.at_ (k := k) (by simpa using hlt)
      rw [List.getElem_map] at hc1
      clear hr
      have hb2 := smallB_at HS.out hlt
      obtain ⟨hb2, hb3⟩ := hb2
      have HT := Lib.hid (comm_take d hlt)
      go_wp2_with (go_at_call 113; refine (frac_gcdI _ _ _ (by omega) (by omega) (by omega) (by omega)).mono ?_; rintro e w' ⟨rfl, n', rfl⟩)
      all_goals
        go_roundw
        case rel => exact ⟨k + 1, by omega, by rw [HT.out]; (try split) <;> simp, by go_num, _, rfl⟩
        case measure => simp [intOf]; omega
    · obtain rfl : k = l.length := by omega
      go_wp2
      go_ret
      exact ⟨ret_int (by rw [List.take_length]), _, rfl⟩

theorem frac_commonI (d : Int) (A : Option Addr) (l : List Int) (c : Nat) (w : World) (h0 : 0 ≤ d) (hd : d ≤ 4611686018427387904) (hs : smallB 4611686018427387904 l = true) (hr : Rd w A c l) :
    Calls Tryz.prog 80 #[.int .i64 d, .slice A l.length c] w fun e w' => e = .returned (.int .i64 (comm d.natAbs l)) ∧ ∃ n, w' = w.drewN n := by
  obtain ⟨d, rfl⟩ := Int.eq_ofNat_of_zero_le h0
  exact frac_common d A l c w (by omega) hs hr
end Go.Proofs.YtjcdkbalhleeeaaGreatDoor

namespace Go.Proofs.YtjcdkbalhleeeaaGreatDoor
open Go.RowKit

theorem frac_right (A : Option Addr) (l : List Int) (c : Nat) (d : Int) (w : World) (hr : Rd w A c l) :
    Calls Tryz.prog 81 #[.slice A l.length c, .int .i64 d] w fun e w' => e = .returned (.bool (rightB l d)) ∧ ∃ n, w' = w.drewN n := by
  have HR := Lib.hid hr
  obtain ⟨hl, hc, hsm, _⟩ := hr
  by_cases h1 : d < 1
  · have hv : rightB l d = false := by simp [rightB]; omega
    rw [hv]
    go_enter Tryz.func81, Tryz.ntmps81
    go_wp2_with fail
    go_ret
    exact ⟨rfl, 0, rfl⟩
  · by_cases h2 : 1073741824 < d
    · have hv : rightB l d = false := by simp [rightB]; omega
      rw [hv]
      go_enter Tryz.func81, Tryz.ntmps81
      go_wp2_with fail
      go_ret
      exact ⟨rfl, 0, rfl⟩
    · cases hs : smallB 1073741824 l with
      | false =>
        have hv : rightB l d = false := by simp [rightB, hs]
        rw [hv]
        clear hv
        go_enter Tryz.func81, Tryz.ntmps81
        go_wp2_with (go_at_call 79; refine (frac_small _ _ _ _ _ (by omega) (by omega) HR.out).mono ?_; rintro e w' ⟨rfl, n', rfl⟩)
        go_ret
        exact ⟨rfl, _, rfl⟩
      | true =>
        by_cases h3 : l.length ≤ 8
        · have hv : rightB l d = true := by simp [rightB, hs]; omega
          rw [hv]
          clear hv
          go_enter Tryz.func81, Tryz.ntmps81
          go_wp2_with (go_at_call 79; refine (frac_small _ _ _ _ _ (by omega) (by omega) HR.out).mono ?_; rintro e w' ⟨rfl, n', rfl⟩)
          go_ret
          exact ⟨ret_bool (by simp; omega), _, rfl⟩
        · have hv : rightB l d = false := by simp [rightB, hs]; omega
          rw [hv]
          clear hv
          go_enter Tryz.func81, Tryz.ntmps81
          go_wp2_with (go_at_call 79; refine (frac_small _ _ _ _ _ (by omega) (by omega) HR.out).mono ?_; rintro e w' ⟨rfl, n', rfl⟩)
          go_ret
          exact ⟨ret_bool (by simp; omega), _, rfl⟩

theorem frac_MayPoint (A : Option Addr) (l : List Int) (c : Nat) (d : Int) (w : World) (hr : Rd w A c l) :
    Calls Tryz.prog 114 #[.agg #[.slice A l.length c, .int .i64 d]] w fun e w' => e = .returned (.bool (mayB l d)) ∧ Below w.heap.size w w' := by
  have HR := Lib.hid hr
  obtain ⟨hl, hc, hsm, _⟩ := hr
  cases hs : rightB l d with
  | false =>
    have hv : mayB l d = false := by simp [mayB, hs]
    rw [hv]
    clear hv
    go_enter Tryz.func114, Tryz.ntmps114
    go_wp2_with (go_at_call 81; refine (frac_right _ _ _ _ _ (HR.out.alloc _)).mono ?_; rintro e w' ⟨rfl, n', rfl⟩)
    go_ret
    exact ⟨rfl, below_drewN ((Below.refl _ _).alloc (Nat.le_refl _) _) _⟩
  | true =>
    obtain ⟨d, rfl⟩ : ∃ n : Nat, d = n := ⟨d.toNat, by simp [rightB] at hs; omega⟩
    have hd : d ≤ 4611686018427387904 := by simp [rightB] at hs; omega
    have hz : smallB 4611686018427387904 l = true := by
      rw [smallB_iff]; simp [rightB] at hs; intro n hn; have := smallB_mem hs.2.2.1 hn; omega
    have HZ := Lib.hid hz
    have hv : mayB l d = ((comm d l : Int) == 1) := by rw [Bool.eq_iff_iff]; simp [mayB, hs]; omega
    rw [hv]
    clear hv hz
    go_enter Tryz.func114, Tryz.ntmps114
    go_wp2_with (first
      | (go_at_call 81; refine (frac_right _ _ _ _ _ (HR.out.alloc _)).mono ?_; rintro e w' ⟨rfl, n', rfl⟩)
      | (go_at_call 80; refine (frac_common _ _ _ _ _ hd HZ.out ((HR.out.alloc _).drewN _)).mono ?_; rintro e w' ⟨rfl, n', rfl⟩))
    go_ret
    exact ⟨rfl, below_drewN ((Below.refl _ _).alloc (Nat.le_refl _) _) _⟩

theorem frac_small1 (m : Int) (A : Option Addr) (n : Int) (c : Nat) (w : World) (hm : 0 ≤ m) (hm' : m ≤ 4611686018427387904) (hr : Rd w A c [n]) :
    Calls Tryz.prog 79 #[.int .i64 m, .slice A 1 c] w fun e w' => e = .returned (.bool (smallB m [n])) ∧ ∃ n, w' = w.drewN n := frac_small m A [n] c w hm hm' hr

theorem frac_MayPoint1 (A : Option Addr) (n : Int) (c : Nat) (d : Int) (w : World) (hr : Rd w A c [n]) :
    Calls Tryz.prog 114 #[.agg #[.slice A 1 c, .int .i64 d]] w fun e w' => e = .returned (.bool (mayB [n] d)) ∧ Below w.heap.size w w' := frac_MayPoint A [n] c d w hr

theorem frac_May (a b : Int) (w : World) :
    Calls Tryz.prog 102 #[.agg #[.int .i64 a, .int .i64 b]] w fun e w' => e = .returned (.bool (mayB [a] b)) ∧ Below w.heap.size w w' := by
  go_enter Tryz.func102, Tryz.ntmps102
  go_wp2_with (go_at_call 114; refine (frac_MayPoint1 _ _ _ _ _ (by exact Rd.new1 _ _ _ _ (by simp))).mono ?_; rintro e w' ⟨rfl, hb⟩)
  go_ret
  exact ⟨rfl, (((Below.refl _ _).alloc (Nat.le_refl _) _).alloc (by simp) _).trans (hb.mono (by simp; omega))⟩

/-- A point and an error are handed back; nothing that was there has turned. -/
def RetPt (w : World) (ns : List Int) (d er : Int) (e : Ending) (w' : World) : Prop :=
  ∃ A c, e = .returned (.tuple #[.agg #[.slice A ns.length c, .int .i64 d], .int .i64 er]) ∧ Rd w' A c ns ∧ Below w.heap.size w w' ∧ ∀ ad, A = some ad → w.heap.size ≤ ad.block

set_option maxHeartbeats 2000000 in
theorem frac_Point (A : Option Addr) (l : List Int) (c : Nat) (d : Int) (w : World) (hr : Rd w A c l) :
    Calls Tryz.prog 34 #[.slice A l.length c, .int .i64 d] w (RetPt w (ptN l d) (ptD l d) (ptE l d)) := by
  have HR := Lib.hid hr
  obtain ⟨hl, hc, hsm, _⟩ := hr
  by_cases h0 : d = 0
  · subst h0
    have HE := Lib.hid (show ptE l 0 = 3 by simp [ptE])
    go_enter Tryz.func34, Tryz.ntmps34
    go_wp2_with fail
    refine bodyPost_ret (v := .tuple #[.agg #[.slice none 0 0, .int .i64 0], .int .i64 3]) (by simp [results, Tryz.results34, go_sem]) rfl ?_
    refine ⟨none, 0, by simp [ptN, ptD, HE.out], by simp [ptN, HE.out, Rd.nil], (Below.refl _ _).alloc (Nat.le_refl _) _, fun ad e => by cases e⟩
  · have hd0 : (d == 0) = false := by simpa using h0
    cases h1 : smallB 4611686018427387904 l with
    | false =>
      have HE := Lib.hid (show ptE l d = 3 by simp [ptE, h1])
      go_enter Tryz.func34, Tryz.ntmps34
      go_wp2_with (first
       | (go_at_call 79; refine (frac_small _ _ _ _ _ (by omega) (by omega) (HR.out.alloc _)).mono ?_; rintro e w' ⟨rfl, n', rfl⟩))
      refine bodyPost_ret (v := .tuple #[.agg #[.slice none 0 0, .int .i64 0], .int .i64 3]) (by simp [results, Tryz.results34, go_sem]) rfl ?_
      refine ⟨none, 0, by simp [ptN, ptD, HE.out], by simp [ptN, HE.out, Rd.nil], (by (repeat (any_goals (first | exact Below.refl _ _ | refine below_drewN ?_ _ | refine Below.drew ?_ | refine Below.alloc ?_ ?_ _ | refine Below.setCell ?_ ?_ _))); all_goals (first | omega | (simp; done) | (simp; omega))), fun ad e => by cases e⟩
    | true =>
      cases h2 : smallB 4611686018427387904 [d] with
      | false =>
        have HE := Lib.hid (show ptE l d = 3 by simp [ptE, h2])
        go_enter Tryz.func34, Tryz.ntmps34
        go_wp2_with fail
        refine (frac_small _ _ _ _ _ (by omega) (by omega) (by exact HR.out.alloc _)).mono ?_
        rintro e w' ⟨rfl, n', rfl⟩
        go_wp2_with fail
        refine (frac_small1 _ _ _ _ _ (by omega) (by omega) (by exact Rd.new1 _ _ _ _ (by simp))).mono ?_
        rintro e w' ⟨rfl, n', rfl⟩
        go_wp2_with fail
        refine bodyPost_ret (v := .tuple #[.agg #[.slice none 0 0, .int .i64 0], .int .i64 3]) (by simp [results, Tryz.results34, go_sem]) rfl ?_
        refine ⟨none, 0, by simp [ptN, ptD, HE.out], by simp [ptN, HE.out, Rd.nil], (by (repeat (any_goals (first | exact Below.refl _ _ | refine below_drewN ?_ _ | refine Below.drew ?_ | refine Below.alloc ?_ ?_ _ | refine Below.setCell ?_ ?_ _))); all_goals (first | omega | (simp; done) | (simp; omega))), fun ad e => by cases e⟩
      | true =>
        have hb := h2
        rw [smallB_one] at hb
        simp at hb
        obtain ⟨hb1, hb2⟩ := hb
        have HZ := Lib.hid h1
        by_cases hn : d < 0
        all_goals
          go_enter Tryz.func34, Tryz.ntmps34
          go_wp2_with fail
          refine (frac_small _ _ _ _ _ (by omega) (by omega) (by exact HR.out.alloc _)).mono ?_
          rintro e w' ⟨rfl, n1, rfl⟩
          go_wp2_with fail
          refine (frac_small1 _ _ _ _ _ (by omega) (by omega) (by exact Rd.new1 _ _ _ _ (by simp))).mono ?_
          rintro e w' ⟨rfl, n2, rfl⟩
          go_wp2_with fail
          all_goals (try (exfalso; unfold wrap64 at *; omega))
          refine (frac_commonI _ _ _ _ _ (by omega) (by omega) (by assumption) (by exact (by repeat (first | exact HR.out | refine Rd.alloc ?_ _ | refine Rd.drewN ?_ _ | refine Rd.drew ?_ | refine Rd.setCell ?_ (by simp) _ | refine Rd.below ?_ (by assumption))))).mono ?_
          rintro e w' ⟨rfl, n3, rfl⟩
          have hg1 := comm_pos d.natAbs l (by omega)
          have hg2 := comm_le d.natAbs l (by omega)
          generalize hG : (Nat.cast (comm _ l) : Int) = G
          have hS : sgcd l d = (if d < 0 then -G else G) := by unfold sgcd; rw [← hG]; (try simp)
          have hg3 : 1 ≤ G := by rw [← hG]; first | omega | (rw [Int.natAbs_neg]; omega)
          have hg4 : G ≤ 4611686018427387904 := by rw [← hG]; first | omega | (rw [Int.natAbs_neg]; omega)
          clear hG hg1 hg2
          first | rw [if_pos hn] at hS | rw [if_neg (by omega)] at hS
          have HS := Lib.hid hS
          have hq := tdiv_bound 4611686018427387904 d G (by omega) (by omega)
          obtain ⟨hq1, hq2⟩ := hq
          clear hS h1
          go_wp2_with fail
          go_loopw [40] (fun i wr => ∃ (k : Nat) (v : Value), k ≤ l.length ∧ i = .int .i64 k ∧ Blk wr (w.heap.size + 1 + 1) 53 #[v, .int .i64 (d.tdiv (sgcd l d))] ∧
            wr.ownsRow (w.heap.size + 1 + 1 + 1) 2 1 v k ((divs (l.take k) (sgcd l d)).map (Value.int .i64)) ∧ Below w.heap.size w wr ∧ Blk wr w.heap.size 53 #[.slice none 0 0, .int .i64 0])
            (fun i _ => l.length - (intOf i).toNat)
          case atStart =>
            refine ⟨0, .slice none 0 0, by omega, rfl, ?_, World.ownsRow_nil _ _ _ _, (by (repeat (any_goals (first | exact Below.refl _ _ | refine below_drewN ?_ _ | refine Below.drew ?_ | refine Below.alloc ?_ ?_ _ | refine Below.setCell ?_ ?_ _))); all_goals (first | omega | (simp; done) | (simp; omega))), ?_⟩
            · rw [HS.out]; (try rw [Int.tdiv_neg]); exact Blk.new _ _ _ _ (by simp)
            · exact (((Blk.new w _ _ _ rfl).drewN _).alloc _).alloc _
          case round =>
            obtain ⟨k, v, hk, rfl, hB, hown, hbel, hRv⟩ := hrel
            obtain ⟨hq3, hq4⟩ := tdiv_bound 4611686018427387904 d G (by omega) (by omega)
            by_cases hlt : k < l.length
            · obtain ⟨ad, rfl, hc1⟩ := (HR.out.below hbel).at_ hlt
              have hp0 := hB.cell 0
              have hp1 := hB.cell 1
              have hpf := hB.frozen 0
              have hpl := hB.lt
              obtain ⟨hs1, hs2⟩ := smallB_at HZ.out hlt
              obtain ⟨hs3, hs4⟩ := tdiv_bound 4611686018427387904 l[k] G (by omega) (by omega)
              simp at hp0 hp1
              have HB := Lib.hid hB
              have HW := Lib.hid hown
              have HL := Lib.hid hbel
              have HV := Lib.hid hRv
              clear hB hown hbel hRv
              have hz : ¬ G = 0 := by omega
              have hw1 : IntKind.i64.wrap (-l[k].tdiv G) = -l[k].tdiv G := IntWalk.i64_in _ (by omega)
              have hw2 : IntKind.i64.wrap (l[k].tdiv G) = l[k].tdiv G := IntWalk.i64_in _ (by omega)
              go_wp2_with fail
              go_region_law (refine step_app1 rfl (.tmp 45) (.tmp 49) _ _ _ 8 und_i64s inf_i64 rfl rfl _ v k _ _ (by simp [Act.eval]) ((HW.out.drew).alloc _) _ 1 (by simp [Act.eval]) (cell_new1 _ _ _) rfl (by unfold maxLen; omega) (by omega) (by simp; omega) ?_; intro g cap w1 hown1 hg1 hat hlt1; have hB1 := ((HB.out.drew).alloc _).grown hg1 (own_ne HW.out (by omega)); have hq0 : w1.cell? ⟨w.heap.size + 1 + 1, 0, none⟩ = some v := hB1.cell 0; have hqf := hB1.frozen 0)
              all_goals
                have HB1 := Lib.hid hB1
                have HW1 := Lib.hid hown1
                have HG1 := Lib.hid hg1
                clear hB1 hown1 hg1 hq0 hqf
                go_wp2_with fail
                go_roundw
                case rel =>
                  have hb2 : Below w.heap.size w w1 := (((HL.out.drew).alloc (by have := HL.out.size; simp; omega) _).grown HG1.out (by have := HL.out.size; simp; omega) (own_ge HW.out (by omega)))
                  refine ⟨k + 1, _, by omega, by go_num, HB1.out.set0 0 _, ?_, hb2.setCell (by simp; omega) _, ?_⟩
                  · have he : (divs (l.take (k + 1)) (sgcd l d)).map (Value.int .i64) = (divs (l.take k) (sgcd l d)).map (Value.int .i64) ++ [Value.int .i64 (l[k].tdiv (sgcd l d))] := by
                      rw [divs_take hlt, List.map_append]; rfl
                    rw [he]
                    refine ownsRow_setCell_below ?_ (by simp) _
                    refine Eq.mp (congrArg (fun q : Int => w1.ownsRow (w.heap.size + 1 + 1 + 1) 2 1 (.slice (some ⟨g, 0, none⟩) (k + 1) cap) (k + 1) ((divs (l.take k) (sgcd l d)).map (Value.int .i64) ++ [Value.int .i64 q])) ?_) HW1.out
                    rw [HS.out]
                    try rw [Int.tdiv_neg]
                  · exact (((HV.out.drew).alloc _).grown HG1.out (own_ne HW.out (by omega))).far _ (by simp; omega)
                case measure => simp [intOf]; omega
            · obtain rfl : k = l.length := by omega
              rw [List.take_length] at hown
              obtain ⟨A', c', rfl, hRd, hA'⟩ := Rd.of_ownv hown (by rw [length_divs]) (by rw [length_divs]; exact hsm)
              have hp0 : wr.cell? ⟨w.heap.size + 1 + 1, 0, none⟩ = some (.slice A' (divs l (sgcd l d)).length c') := hB.cell 0
              have hp1 : wr.cell? ⟨w.heap.size + 1 + 1, 1, none⟩ = some (.int .i64 (d.tdiv (sgcd l d))) := hB.cell 1
              have hr0 : wr.cell? ⟨w.heap.size, 0, none⟩ = some (.slice none 0 0) := hRv.cell 0
              have hr1 : wr.cell? ⟨w.heap.size, 1, none⟩ = some (.int .i64 0) := hRv.cell 1
              have hrf0 := hRv.frozen 0
              have hrf1 := hRv.frozen 1
              have HL := Lib.hid hbel
              have HRd := Lib.hid hRd
              have HA := Lib.hid hA'
              clear hB hown hbel hRv hRd hA'
              cases hrb : rightB (divs l (sgcd l d)) (d.tdiv (sgcd l d)) with
              | true =>
                have HE := Lib.hid (show ptE l d = 0 by unfold ptE; rw [if_neg (by simp [h0, HZ.out, h2]), if_pos hrb])
                go_wp2_with fail
                refine (frac_right _ _ _ _ _ HRd.out).mono ?_
                rintro e w' ⟨rfl, n4, rfl⟩
                rw [hrb]
                go_wp2_with fail
                refine bodyPost_ret (v := .tuple #[.agg #[.slice A' (divs l (sgcd l d)).length c', .int .i64 (d.tdiv (sgcd l d))], .int .i64 0]) (by simp [results, Tryz.results34, go_sem, hr0, hr1]) rfl ?_
                unfold RetPt ptN ptD
                rw [HE.out, if_pos rfl, if_pos rfl]
                refine ⟨A', c', rfl, ?_, (by (repeat (any_goals (first | exact Below.refl _ _ | exact HL.out | refine below_drewN ?_ _ | refine Below.drew ?_ | refine Below.alloc ?_ ?_ _ | refine Below.setCell ?_ ?_ _ | refine Below.trans ?_ (Below.mono HL.out ?_)))); all_goals (first | omega | (simp; done) | (simp; omega) | ((try have z0 := HL.out.size); (try simp at z0); (try simp); omega))), fun ad e => by have := HA.out ad e; omega⟩
                exact ((HRd.out.drewN _).setCell_out _ _ (fun ad e => by have := HA.out ad e; simp; omega)).setCell_out _ _ (fun ad e => by have := HA.out ad e; simp; omega)
              | false =>
                have HE := Lib.hid (show ptE l d = 1 by unfold ptE; rw [if_neg (by simp [h0, HZ.out, h2]), if_neg (by simp [hrb])])
                go_wp2_with fail
                refine (frac_right _ _ _ _ _ HRd.out).mono ?_
                rintro e w' ⟨rfl, n4, rfl⟩
                rw [hrb]
                go_wp2_with fail
                refine bodyPost_ret (v := .tuple #[.agg #[.slice none 0 0, .int .i64 0], .int .i64 1]) (by simp [results, Tryz.results34, go_sem, hr0, hr1]) rfl ?_
                unfold RetPt ptN ptD
                rw [HE.out, if_neg (by omega), if_neg (by omega)]
                refine ⟨none, 0, rfl, Rd.nil _, (by (repeat (any_goals (first | exact Below.refl _ _ | exact HL.out | refine below_drewN ?_ _ | refine Below.drew ?_ | refine Below.alloc ?_ ?_ _ | refine Below.setCell ?_ ?_ _ | refine Below.trans ?_ (Below.mono HL.out ?_)))); all_goals (first | omega | (simp; done) | (simp; omega) | ((try have z0 := HL.out.size); (try simp at z0); (try simp); omega))), fun ad e => by cases e⟩
end Go.Proofs.YtjcdkbalhleeeaaGreatDoor

namespace Go.Proofs.YtjcdkbalhleeeaaGreatDoor
open Go.RowKit

/-- A fraction and an error are handed back. -/
def RetFr (w : World) (n d er : Int) (e : Ending) (w' : World) : Prop :=
  e = .returned (.tuple #[.agg #[.int .i64 n, .int .i64 d], .int .i64 er]) ∧ Below w.heap.size w w'

theorem frac_Point1 (A : Option Addr) (n : Int) (c : Nat) (d : Int) (w : World) (hr : Rd w A c [n]) :
    Calls Tryz.prog 34 #[.slice A 1 c, .int .i64 d] w (RetPt w (ptN [n] d) (ptD [n] d) (ptE [n] d)) := frac_Point A [n] c d w hr

theorem frac_Make (n d : Int) (w : World) :
    Calls Tryz.prog 83 #[.int .i64 n, .int .i64 d] w (RetFr w (frN n d) (ptD [n] d) (ptE [n] d)) := by
  by_cases h0 : ptE [n] d = 0
  · have HE := Lib.hid h0
    have hN : ptN [n] d = [frN n d] := by
      unfold frN ptN; rw [if_pos h0]; simp [divs]
    have HN := Lib.hid hN
    clear h0 hN
    go_enter Tryz.func83, Tryz.ntmps83
    go_wp2_with fail
    refine (frac_Point1 _ _ _ _ _ (by exact Rd.new1 _ _ _ _ (by simp))).mono ?_
    rintro e w' ⟨A', c', rfl, hRd, hb, _⟩
    rw [HN.out, HE.out]
    rw [HN.out] at hRd
    obtain ⟨ad, rfl, hc0⟩ := hRd.at_ (k := 0) (by simp)
    have hc1 : w'.cell? ad = some (.int .i64 (frN n d)) := by simpa [Addr.add] using hc0
    have hc2 : ∀ o, (w'.alloc o).cell? ad = some (.int .i64 (frN n d)) := fun o => (World.cell?_alloc_lt w' o ad (World.block_lt_of_cell? _ _ hc1)).trans hc1
    have hV := ((Blk.new w 55 #[.int .i64 0, .int .i64 0] _ rfl).alloc (.cells #[.int .i64 n] 2)).below hb (by simp; omega)
    have hv0 : w'.cell? ⟨w.heap.size, 0, none⟩ = some (.int .i64 0) := hV.cell 0
    have hv1 : w'.cell? ⟨w.heap.size, 1, none⟩ = some (.int .i64 0) := hV.cell 1
    have hf0 := hV.frozen 0
    have hf1 := hV.frozen 1
    have hlt := hV.lt
    have HB := Lib.hid hb
    simp at hc0
    clear hb hRd hV
    go_wp2_with fail
    go_region
    go_wp2_with fail
    refine bodyPost_ret (v := .tuple #[.agg #[.int .i64 (frN n d), .int .i64 (ptD [n] d)], .int .i64 0]) (by simp [results, Tryz.results83, go_sem, hv0, hv1, hlt]) rfl ?_
    exact ⟨by rw [HE.out], (by (repeat (any_goals (first | exact Below.refl _ _ | exact HB.out | refine below_drewN ?_ _ | refine Below.drew ?_ | refine Below.alloc ?_ ?_ _ | refine Below.setCell ?_ ?_ _ | refine Below.trans ?_ (Below.mono HB.out ?_)))); all_goals (first | omega | (simp; done) | (simp; omega) | ((try have z0 := HB.out.size); (try simp at z0); (try simp); omega)))⟩
  · have HE := Lib.hid h0
    have hN : ptN [n] d = [] := by unfold ptN; rw [if_neg h0]
    have hD : ptD [n] d = 0 := by unfold ptD; rw [if_neg h0]
    have hF : frN n d = 0 := by unfold frN; rw [hN]; rfl
    rw [hD, hF]
    have HN := Lib.hid hN
    have HD := Lib.hid hD
    clear hN hD hF
    go_enter Tryz.func83, Tryz.ntmps83
    go_wp2_with fail
    refine (frac_Point1 _ _ _ _ _ (by exact Rd.new1 _ _ _ _ (by simp))).mono ?_
    rintro e w' ⟨A', c', rfl, hRd, hb, _⟩
    rw [HN.out, HD.out]
    have hV := ((Blk.new w 55 #[.int .i64 0, .int .i64 0] _ rfl).alloc (.cells #[.int .i64 n] 2)).below hb (by simp; omega)
    have hv0 : w'.cell? ⟨w.heap.size, 0, none⟩ = some (.int .i64 0) := hV.cell 0
    have hv1 : w'.cell? ⟨w.heap.size, 1, none⟩ = some (.int .i64 0) := hV.cell 1
    have hf0 := hV.frozen 0
    have hf1 := hV.frozen 1
    have hlt := hV.lt
    have HB := Lib.hid hb
    clear hb hRd hV
    go_wp2_with fail
    refine bodyPost_ret (v := .tuple #[.agg #[.int .i64 0, .int .i64 0], .int .i64 (ptE [n] d)]) (by simp [results, Tryz.results83, go_sem, hv0, hv1, hlt]) rfl ?_
    exact ⟨rfl, (by (repeat (any_goals (first | exact Below.refl _ _ | exact HB.out | refine below_drewN ?_ _ | refine Below.drew ?_ | refine Below.alloc ?_ ?_ _ | refine Below.setCell ?_ ?_ _ | refine Below.trans ?_ (Below.mono HB.out ?_)))); all_goals (first | omega | (simp; done) | (simp; omega) | ((try have z0 := HB.out.size); (try simp at z0); (try simp); omega)))⟩

theorem frac_Less (a b c d : Int) (w : World) :
    Calls Tryz.prog 62 #[.agg #[.int .i64 a, .int .i64 b], .agg #[.int .i64 c, .int .i64 d]] w fun e w' => e = .returned (.bool (lessB a b c d)) ∧ Below w.heap.size w w' := by
  cases h1 : mayB [a] b with
  | false =>
    have hv : lessB a b c d = false := by simp [lessB, h1]
    rw [hv]
    clear hv
    go_enter Tryz.func62, Tryz.ntmps62
    go_wp2_with fail
    refine (frac_May _ _ _).mono ?_
    rintro e w' ⟨rfl, hb⟩
    have HB := Lib.hid hb
    clear hb
    go_wp2_with fail
    go_ret
    exact ⟨rfl, (by (repeat (any_goals (first | exact Below.refl _ _ | exact HB.out | refine below_drewN ?_ _ | refine Below.drew ?_ | refine Below.alloc ?_ ?_ _ | refine Below.setCell ?_ ?_ _ | refine Below.trans ?_ (Below.mono HB.out ?_)))); all_goals (first | omega | (simp; done) | (simp; omega) | ((try have z0 := HB.out.size); (try simp at z0); (try simp); omega)))⟩
  | true =>
    cases h2 : mayB [c] d with
    | false =>
      have hv : lessB a b c d = false := by simp [lessB, h2]
      rw [hv]
      clear hv
      go_enter Tryz.func62, Tryz.ntmps62
      go_wp2_with fail
      refine (frac_May _ _ _).mono ?_
      rintro e w' ⟨rfl, hb⟩
      have hV := (Blk.new (w.alloc (.cells #[.int .i64 a, .int .i64 b] 55)) 55 #[.int .i64 c, .int .i64 d] (w.heap.size + 1) (by simp)).below hb (by simp)
      have hv0 : w'.cell? ⟨w.heap.size + 1, 0, none⟩ = some (.int .i64 c) := hV.cell 0
      have hv1 : w'.cell? ⟨w.heap.size + 1, 1, none⟩ = some (.int .i64 d) := hV.cell 1
      have HB := Lib.hid hb
      clear hb hV
      go_wp2_with fail
      refine (frac_May _ _ _).mono ?_
      rintro e w2 ⟨rfl, hb⟩
      have HB2 := Lib.hid hb
      clear hb
      go_wp2_with fail
      go_ret
      exact ⟨rfl, (by (repeat (any_goals (first | exact Below.refl _ _ | exact HB.out | exact HB2.out | refine below_drewN ?_ _ | refine Below.drew ?_ | refine Below.alloc ?_ ?_ _ | refine Below.setCell ?_ ?_ _ | refine Below.trans ?_ (Below.mono HB.out ?_) | refine Below.trans ?_ (Below.mono HB2.out ?_)))); all_goals (first | omega | (simp; done) | (simp; omega) | ((try have z0 := HB.out.size); (try simp at z0); (try have z1 := HB2.out.size); (try simp at z1); (try simp); omega)))⟩
    | true =>
      have ha : -1073741824 ≤ a ∧ a ≤ 1073741824 ∧ 1 ≤ b ∧ b ≤ 1073741824 := by
        simp [mayB, rightB, smallB] at h1; omega
      have hc : -1073741824 ≤ c ∧ c ≤ 1073741824 ∧ 1 ≤ d ∧ d ≤ 1073741824 := by
        simp [mayB, rightB, smallB] at h2; omega
      have hv : lessB a b c d = decide (a * d < c * b) := by simp [lessB, h1, h2]
      rw [hv]
      clear hv
      obtain ⟨hm1, hm2⟩ := mul_bound a d 1073741824 1073741824 (by omega) (by omega) (by omega) (by omega)
      obtain ⟨hm3, hm4⟩ := mul_bound c b 1073741824 1073741824 (by omega) (by omega) (by omega) (by omega)
      go_enter Tryz.func62, Tryz.ntmps62
      go_wp2_with fail
      refine (frac_May _ _ _).mono ?_
      rintro e w' ⟨rfl, hb⟩
      have hV := (Blk.new (w.alloc (.cells #[.int .i64 a, .int .i64 b] 55)) 55 #[.int .i64 c, .int .i64 d] (w.heap.size + 1) (by simp)).below hb (by simp)
      have hU := ((Blk.new w 55 #[.int .i64 a, .int .i64 b] _ rfl).alloc (.cells #[.int .i64 c, .int .i64 d] 55)).below hb (by simp; omega)
      have hv0 : w'.cell? ⟨w.heap.size + 1, 0, none⟩ = some (.int .i64 c) := hV.cell 0
      have hv1 : w'.cell? ⟨w.heap.size + 1, 1, none⟩ = some (.int .i64 d) := hV.cell 1
      have HB := Lib.hid hb
      have HV := Lib.hid hV
      have HU := Lib.hid hU
      clear hb hV hU
      go_wp2_with fail
      refine (frac_May _ _ _).mono ?_
      rintro e w2 ⟨rfl, hb⟩
      have hV := HV.out.below hb HV.out.lt
      have hU := HU.out.below hb HU.out.lt
      have hx0 : w2.cell? ⟨w.heap.size + 1, 0, none⟩ = some (.int .i64 c) := hV.cell 0
      have hx1 : w2.cell? ⟨w.heap.size + 1, 1, none⟩ = some (.int .i64 d) := hV.cell 1
      have hx2 : w2.cell? ⟨w.heap.size, 0, none⟩ = some (.int .i64 a) := hU.cell 0
      have hx3 : w2.cell? ⟨w.heap.size, 1, none⟩ = some (.int .i64 b) := hU.cell 1
      have HB2 := Lib.hid hb
      clear hb hV hU hv0 hv1
      go_wp2_with fail
      go_ret
      exact ⟨rfl, (by (repeat (any_goals (first | exact Below.refl _ _ | exact HB.out | exact HB2.out | refine below_drewN ?_ _ | refine Below.drew ?_ | refine Below.alloc ?_ ?_ _ | refine Below.setCell ?_ ?_ _ | refine Below.trans ?_ (Below.mono HB.out ?_) | refine Below.trans ?_ (Below.mono HB2.out ?_)))); all_goals (first | omega | (simp; done) | (simp; omega) | ((try have z0 := HB.out.size); (try simp at z0); (try have z1 := HB2.out.size); (try simp at z1); (try simp); omega)))⟩
end Go.Proofs.YtjcdkbalhleeeaaGreatDoor
