/-
  Walks: layout.within, Dot, May compute what the plain words say.
-/
import Derived.Test.YtjcdkbalhleeeabMemP
namespace Go.Proofs.Ytjcdkbalhleeeab
open Go.RowKit

theorem layout_within (m : Int) (A : Option Addr) (l : List Int) (c : Nat) (w : World) (hm : 0 ≤ m) (hm' : m ≤ 4611686018427387904) (hr : Rd w A c l) :
    Calls Try.prog 75 #[.int .i64 m, .slice A l.length c] w fun e w' => e = .returned (.bool (smallB m l)) ∧ ∃ n, w' = w.drewN n := by
  obtain ⟨hl, hc, hsm, hr⟩ := hr
  go_enter Try.func75, Try.ntmps75
  go_wp2
  go_loop [9] (fun i => ∃ k : Nat, k ≤ l.length ∧ smallB m (l.take k) = true ∧ i = .int .i64 k) (fun i => l.length - (intOf i).toNat)
  case atStart => exact ⟨0, by omega, by simp [smallB], rfl⟩
  case round =>
    obtain ⟨k, hk, hs, rfl⟩ := hrel
    have HS := Lib.hid hs
    clear hs
    by_cases hlt : k < l.length
    · obtain ⟨ad, rfl, hc1⟩ := hr.at_ (k := k) (by simpa using hlt)
      rw [List.getElem_map] at hc1
      clear hr
      have HT := Lib.hid (smallB_take (m := m) hlt)
      have HF := Lib.hid (smallB_false (m := m) hlt)
      by_cases h1 : l[k] < -m
      · go_wp2
        go_ret
        exact ⟨ret_bool (HF.out (by simp; omega)).symm, 0, rfl⟩
      · by_cases h2 : m < l[k]
        · go_wp2
          go_ret
          exact ⟨ret_bool (HF.out (by simp; omega)).symm, 0, rfl⟩
        · go_wp2
          go_round
          case rel => exact ⟨k + 1, by omega, by rw [HT.out, HS.out]; simp; omega, by go_num⟩
          case measure => simp [intOf]; omega
    · obtain rfl : k = l.length := by omega
      go_wp2
      go_ret
      exact ⟨ret_bool (by rw [← HS.out, List.take_length]), 0, rfl⟩

theorem layout_within1 (m : Int) (A : Option Addr) (n : Int) (c : Nat) (w : World) (hm : 0 ≤ m) (hm' : m ≤ 4611686018427387904) (hr : Rd w A c [n]) :
    Calls Try.prog 75 #[.int .i64 m, .slice A 1 c] w fun e w' => e = .returned (.bool (smallB m [n])) ∧ ∃ n, w' = w.drewN n := layout_within m A [n] c w hm hm' hr

theorem layout_Dot0 (A : Option Addr) (a : List Int) (c : Nat) (B : Option Addr) (b : List Int) (c' : Nat) (X Y : Int) (w : World) (hr : Rd w A c a) (hr' : Rd w B c' b) (hlen : a.length ≤ b.length)
    (hX : 0 ≤ X) (hY : 0 ≤ Y) (ha : smallB X a = true) (hb : smallB Y b = true) (h8 : a.length * (X * Y) ≤ 4611686018427387904) :
    Calls Try.prog 80 #[.slice A a.length c, .slice B b.length c'] w fun e w' => e = .returned (.int .i64 (dot a b)) ∧ w' = w := by
  have HR := Lib.hid hr
  have HR' := Lib.hid hr'
  obtain ⟨hl, hc, hsm, _⟩ := hr
  obtain ⟨hl', hc', hsm', _⟩ := hr'
  have HA := Lib.hid ha
  have HB := Lib.hid hb
  have HD := Lib.hid (dot_take_bound ha hb hX hY)
  clear ha hb
  go_enter Try.func80, Try.ntmps80
  go_wp2_with fail
  go_loop [5, 10] (fun s i => ∃ k : Nat, k ≤ a.length ∧ s = .int .i64 (dot (a.take k) b) ∧ i = .int .i64 k) (fun _ i => a.length - (intOf i).toNat)
  case atStart => exact ⟨0, by omega, rfl, rfl⟩
  case round =>
    obtain ⟨k, hk, rfl, rfl⟩ := hrel
    by_cases hlt : k < a.length
    · have hlt' : k < b.length := by omega
      obtain ⟨ad, rfl, hc1⟩ := HR.out.at_ hlt
      obtain ⟨ad', rfl, hc2⟩ := HR'.out.at_ hlt'
      have hi0 : (k : Int) < (b.length : Int) := by omega
      have h1 := HD.out k
      have h2 := HD.out (k + 1)
      have HT := Lib.hid (dot_take hlt hlt')
      rw [HT.out] at h2
      have hx := smallB_at HA.out hlt
      have hy := smallB_at HB.out hlt'
      have h3 := mul_bound _ _ X Y hx.1 hx.2 hy.1 hy.2
      have h4 : X * Y ≤ a.length * (X * Y) := by
        have h0 : (1 : Int) * (X * Y) ≤ a.length * (X * Y) := Int.mul_le_mul_of_nonneg_right (by omega) (Int.mul_nonneg hX hY)
        omega
      obtain ⟨h3a, h3b⟩ := h3
      obtain ⟨h1a, h1b⟩ := h1
      obtain ⟨h2a, h2b⟩ := h2
      have g1 : -4611686018427387904 ≤ a[k] * b[k] := by omega
      have g2 : a[k] * b[k] ≤ 4611686018427387904 := by omega
      have g3 : -4611686018427387904 ≤ dot (a.take k) b + a[k] * b[k] := by omega
      have g4 : dot (a.take k) b + a[k] * b[k] ≤ 4611686018427387904 := by omega
      clear h3a h3b h1a h1b h2a h2b h4 h8
      go_wp2_with fail
      go_round
      case rel => exact ⟨k + 1, by omega, by rw [HT.out], by go_num⟩
      case measure => simp [intOf]; omega
    · obtain rfl : k = a.length := by omega
      go_wp2_with fail
      go_ret
      exact ⟨ret_int (by simp), rfl⟩

theorem layout_Dot (A : Option Addr) (a : List Int) (c : Nat) (B : Option Addr) (b : List Int) (c' : Nat) (X Y : Int) (w : World) (hr : Rd w A c a) (hr' : Rd w B c' b) (hlen : a.length ≤ b.length)
    (hX : 0 ≤ X) (hY : 0 ≤ Y) (ha : smallB X a = true) (hb : smallB Y b = true) (h8 : a.length * (X * Y) ≤ 4611686018427387904) :
    Calls Try.prog 80 #[.slice A a.length c, .slice B b.length c'] w fun e w' => e = .returned (.int .i64 (dot a b)) ∧ ∃ n, w' = w.drewN n :=
  (layout_Dot0 A a c B b c' X Y w hr hr' hlen hX hY ha hb h8).mono fun _ _ h => ⟨h.1, 0, h.2⟩

theorem layout_May (A : Option Addr) (c : Nat) (A2 : Option Addr) (c2 : Nat) (p : PG) (w : World) (hp : Pg w A c A2 c2 p) :
    Calls Try.prog 26 #[.agg #[.slice A p.costs.length c, .slice A2 p.rows.length c2]] w fun e w' => e = .returned (.bool (mayPB p)) ∧ Below w.heap.size w w' := by
  have HP := Lib.hid hp
  obtain ⟨⟨hl, hc, hsm, _⟩, ⟨hl2, hc2, hsm2, _⟩⟩ := hp
  by_cases hn1 : p.costs.length < 1
  · have hv : mayPB p = false := by
      rw [Bool.eq_false_iff]; intro h; have := mayPB_iff.1 h; omega
    rw [hv]
    clear hv
    go_enter Try.func26, Try.ntmps26
    go_wp2_with fail
    go_quiet (fail)
    go_wp2_with fail
    go_ret
    exact ⟨rfl, (by (repeat (any_goals (first | exact Below.refl _ _ | refine below_drewN ?_ _ | refine Below.drew ?_ | refine Below.alloc ?_ ?_ _ | refine Below.setCell ?_ ?_ _))); all_goals (first | omega | (simp; done) | (simp; omega)))⟩
  by_cases hn2 : 4 < p.costs.length
  · have hv : mayPB p = false := by
      rw [Bool.eq_false_iff]; intro h; have := mayPB_iff.1 h; omega
    rw [hv]
    clear hv
    go_enter Try.func26, Try.ntmps26
    go_wp2_with fail
    go_quiet (fail)
    go_wp2_with fail
    go_ret
    exact ⟨rfl, (by (repeat (any_goals (first | exact Below.refl _ _ | refine below_drewN ?_ _ | refine Below.drew ?_ | refine Below.alloc ?_ ?_ _ | refine Below.setCell ?_ ?_ _))); all_goals (first | omega | (simp; done) | (simp; omega)))⟩
  by_cases hm1 : p.rows.length < 1
  · have hv : mayPB p = false := by
      rw [Bool.eq_false_iff]; intro h; have := mayPB_iff.1 h; omega
    rw [hv]
    clear hv
    go_enter Try.func26, Try.ntmps26
    go_wp2_with fail
    go_quiet (fail)
    go_wp2_with fail
    go_ret
    exact ⟨rfl, (by (repeat (any_goals (first | exact Below.refl _ _ | refine below_drewN ?_ _ | refine Below.drew ?_ | refine Below.alloc ?_ ?_ _ | refine Below.setCell ?_ ?_ _))); all_goals (first | omega | (simp; done) | (simp; omega)))⟩
  by_cases hm2 : 4 < p.rows.length
  · have hv : mayPB p = false := by
      rw [Bool.eq_false_iff]; intro h; have := mayPB_iff.1 h; omega
    rw [hv]
    clear hv
    go_enter Try.func26, Try.ntmps26
    go_wp2_with fail
    go_quiet (fail)
    go_wp2_with fail
    go_ret
    exact ⟨rfl, (by (repeat (any_goals (first | exact Below.refl _ _ | refine below_drewN ?_ _ | refine Below.drew ?_ | refine Below.alloc ?_ ?_ _ | refine Below.setCell ?_ ?_ _))); all_goals (first | omega | (simp; done) | (simp; omega)))⟩
  cases hs : smallB 400 p.costs with
  | false =>
    have hv : mayPB p = false := by
      rw [Bool.eq_false_iff]; intro h; have := mayPB_iff.1 h; simp [hs] at this
    rw [hv]
    clear hv
    go_enter Try.func26, Try.ntmps26
    go_wp2_with fail
    go_quiet (fail)
    go_wp2_with fail
    refine (layout_within _ _ _ _ _ (by omega) (by omega) (by exact (HP.out.costs.alloc _).drewN _)).mono ?_
    rintro e w' ⟨rfl, n, rfl⟩
    rw [hs]
    go_wp2_with fail
    go_ret
    exact ⟨rfl, (by (repeat (any_goals (first | exact Below.refl _ _ | refine below_drewN ?_ _ | refine Below.drew ?_ | refine Below.alloc ?_ ?_ _ | refine Below.setCell ?_ ?_ _))); all_goals (first | omega | (simp; done) | (simp; omega)))⟩
  | true =>
    have hv : mayPB p = p.rows.all (rowB p.costs.length) := by
      rw [Bool.eq_iff_iff, mayPB_iff]; simp only [hs]; constructor
      · intro h; exact h.2.2.2.2.2
      · intro h; exact ⟨by omega, by omega, by omega, by omega, trivial, h⟩
    rw [hv]
    clear hv
    go_enter Try.func26, Try.ntmps26
    go_wp2_with fail
    go_quiet (fail)
    go_wp2_with fail
    refine (layout_within _ _ _ _ _ (by omega) (by omega) (by exact (HP.out.costs.alloc _).drewN _)).mono ?_
    rintro e w' ⟨rfl, n, rfl⟩
    rw [hs]
    go_wp2_with fail
    go_loopw [36] (fun i wr => ∃ k : Nat, k ≤ p.rows.length ∧ i = .int .i64 k ∧ (p.rows.take k).all (rowB p.costs.length) = true ∧ Below w.heap.size w wr) (fun i _ => p.rows.length - (intOf i).toNat)
    case atStart => exact ⟨0, by omega, rfl, by simp, (by (repeat (any_goals (first | exact Below.refl _ _ | refine below_drewN ?_ _ | refine Below.drew ?_ | refine Below.alloc ?_ ?_ _ | refine Below.setCell ?_ ?_ _))); all_goals (first | omega | (simp; done) | (simp; omega)))⟩
    case round =>
      obtain ⟨k, hk, rfl, hall, hbel⟩ := hrel
      have HA := Lib.hid hall
      have HL := Lib.hid hbel
      have HPr := Lib.hid (HP.out.below hbel)
      have zL := hbel.size
      clear hall hbel
      by_cases hlt : k < p.rows.length
      · obtain ⟨ad, A', c', rfl, hc1, hc2', hr⟩ := HPr.out.rows.at_ hlt
        have hadl := World.block_lt_of_cell? _ _ hc1
        have HR := Lib.hid hr
        obtain ⟨hrl, hrc, _, _⟩ := hr
        have HT := Lib.hid (all_take (f := rowB p.costs.length) hlt)
        have HF := Lib.hid (all_false (f := rowB p.costs.length) hlt)
        have HRB := Lib.hid (show rowB p.costs.length p.rows[k] = (decide (p.rows[k].1.length = p.costs.length) && (smallB 12 [p.rows[k].2] && smallB 12 p.rows[k].1)) from rfl)
        generalize hr1 : p.rows[k].1 = r1 at *
        generalize hr2 : p.rows[k].2 = r2 at *
        clear hr1 hr2
        by_cases h1 : r1.length = p.costs.length
        · have h1z : ((r1.length : Int) != (p.costs.length : Int)) = false := by simp [h1]
          have H1 := Lib.hid h1
          clear h1
          go_wp2_with fail
          refine (layout_within1 _ _ _ _ _ (by omega) (by omega) (by exact Rd.new1 _ _ _ _ (by simp))).mono ?_
          rintro e w1 ⟨rfl, n1, rfl⟩
          cases hs1 : smallB 12 [r2] with
          | false =>
            go_wp2_with fail
            go_ret
            exact ⟨ret_bool (by rw [HF.out (by rw [HRB.out]; simp [hs1])]), (by (repeat (any_goals (first | exact Below.refl _ _ | exact HL.out | refine below_drewN ?_ _ | refine Below.drew ?_ | refine Below.alloc ?_ ?_ _ | refine Below.setCell ?_ ?_ _ | refine Below.trans ?_ (Below.mono HL.out ?_)))); all_goals (first | omega | (simp; done) | (simp; omega) | ((try have z0 := HL.out.size); (try simp at z0); (try simp); omega)))⟩
          | true =>
            go_wp2_with fail
            refine (layout_within _ _ _ _ _ (by omega) (by omega) (by exact ((HR.out.alloc _).alloc _).drewN _)).mono ?_
            rintro e w2 ⟨rfl, n2, rfl⟩
            cases hs2 : smallB 12 r1 with
            | false =>
              go_wp2_with fail
              go_ret
              exact ⟨ret_bool (by rw [HF.out (by rw [HRB.out]; simp [hs2])]), (by (repeat (any_goals (first | exact Below.refl _ _ | exact HL.out | refine below_drewN ?_ _ | refine Below.drew ?_ | refine Below.alloc ?_ ?_ _ | refine Below.setCell ?_ ?_ _ | refine Below.trans ?_ (Below.mono HL.out ?_)))); all_goals (first | omega | (simp; done) | (simp; omega) | ((try have z0 := HL.out.size); (try simp at z0); (try simp); omega)))⟩
            | true =>
              go_wp2_with fail
              go_roundw
              case rel => exact ⟨k + 1, by omega, by go_num, by rw [HT.out, HA.out, HRB.out]; simp [H1.out, hs1, hs2], (by (repeat (any_goals (first | exact Below.refl _ _ | exact HL.out | refine below_drewN ?_ _ | refine Below.drew ?_ | refine Below.alloc ?_ ?_ _ | refine Below.setCell ?_ ?_ _ | refine Below.trans ?_ (Below.mono HL.out ?_)))); all_goals (first | omega | (simp; done) | (simp; omega) | ((try have z0 := HL.out.size); (try simp at z0); (try simp); omega)))⟩
              case measure => simp [intOf]; omega
        · have h1z : ((r1.length : Int) != (p.costs.length : Int)) = true := by simp; omega
          go_wp2_with fail
          go_ret
          exact ⟨ret_bool (by rw [HF.out (by rw [HRB.out]; simp [h1])]), (by (repeat (any_goals (first | exact Below.refl _ _ | exact HL.out | refine below_drewN ?_ _ | refine Below.drew ?_ | refine Below.alloc ?_ ?_ _ | refine Below.setCell ?_ ?_ _ | refine Below.trans ?_ (Below.mono HL.out ?_)))); all_goals (first | omega | (simp; done) | (simp; omega) | ((try have z0 := HL.out.size); (try simp at z0); (try simp); omega)))⟩
      · obtain rfl : k = p.rows.length := by omega
        go_wp2_with fail
        go_ret
        exact ⟨ret_bool (by rw [← HA.out, List.take_length]), (by (repeat (any_goals (first | exact Below.refl _ _ | exact HL.out | refine below_drewN ?_ _ | refine Below.drew ?_ | refine Below.alloc ?_ ?_ _ | refine Below.setCell ?_ ?_ _ | refine Below.trans ?_ (Below.mono HL.out ?_)))); all_goals (first | omega | (simp; done) | (simp; omega) | ((try have z0 := HL.out.size); (try simp at z0); (try simp); omega)))⟩
end Go.Proofs.Ytjcdkbalhleeeab
