/-
  Walks: frac.right, MayPoint, May, Point, Make, Less compute what the plain words say. No condition on the numbers.
-/
import Derived.Test.YtjcdkbalhleeeabFrac1
namespace Go.Proofs.Ytjcdkbalhleeeab
open Go.RowKit

theorem frac_right (A : Option Addr) (l : List Int) (c : Nat) (d : Int) (w : World) (hr : Rd w A c l) :
    Calls Try.prog 97 #[.slice A l.length c, .int .i64 d] w fun e w' => e = .returned (.bool (rightB l d)) ∧ ∃ n, w' = w.drewN n := by
  have HR := Lib.hid hr
  obtain ⟨hl, hc, hsm, _⟩ := hr
  by_cases h1 : d < 1
  · have hv : rightB l d = false := by simp [rightB]; omega
    rw [hv]
    go_enter Try.func97, Try.ntmps97
    go_wp2_with fail
    go_ret
    exact ⟨rfl, 0, rfl⟩
  · by_cases h2 : 1073741824 < d
    · have hv : rightB l d = false := by simp [rightB]; omega
      rw [hv]
      go_enter Try.func97, Try.ntmps97
      go_wp2_with fail
      go_ret
      exact ⟨rfl, 0, rfl⟩
    · cases hs : smallB 1073741824 l with
      | false =>
        have hv : rightB l d = false := by simp [rightB, hs]
        rw [hv]
        clear hv
        go_enter Try.func97, Try.ntmps97
        go_wp2_with (go_at_call 95; refine (frac_small _ _ _ _ _ (by omega) (by omega) HR.out).mono ?_; rintro e w' ⟨rfl, n', rfl⟩)
        go_ret
        exact ⟨rfl, _, rfl⟩
      | true =>
        by_cases h3 : l.length ≤ 8
        · have hv : rightB l d = true := by simp [rightB, hs]; omega
          rw [hv]
          clear hv
          go_enter Try.func97, Try.ntmps97
          go_wp2_with (go_at_call 95; refine (frac_small _ _ _ _ _ (by omega) (by omega) HR.out).mono ?_; rintro e w' ⟨rfl, n', rfl⟩)
          go_ret
          exact ⟨ret_bool (by simp; omega), _, rfl⟩
        · have hv : rightB l d = false := by simp [rightB, hs]; omega
          rw [hv]
          clear hv
          go_enter Try.func97, Try.ntmps97
          go_wp2_with (go_at_call 95; refine (frac_small _ _ _ _ _ (by omega) (by omega) HR.out).mono ?_; rintro e w' ⟨rfl, n', rfl⟩)
          go_ret
          exact ⟨ret_bool (by simp; omega), _, rfl⟩

theorem frac_MayPoint (A : Option Addr) (l : List Int) (c : Nat) (d : Int) (w : World) (hr : Rd w A c l) :
    Calls Try.prog 118 #[.agg #[.slice A l.length c, .int .i64 d]] w fun e w' => e = .returned (.bool (mayB l d)) ∧ Below w.heap.size w w' := by
  have HR := Lib.hid hr
  obtain ⟨hl, hc, hsm, _⟩ := hr
  cases hs : rightB l d with
  | false =>
    have hv : mayB l d = false := by simp [mayB, hs]
    rw [hv]
    clear hv
    go_enter Try.func118, Try.ntmps118
    go_wp2_with (go_at_call 97; refine (frac_right _ _ _ _ _ (HR.out.alloc _)).mono ?_; rintro e w' ⟨rfl, n', rfl⟩)
    go_ret
    exact ⟨rfl, below_drewN ((Below.refl _ _).alloc (Nat.le_refl _) _) _⟩
  | true =>
    obtain ⟨d, rfl⟩ : ∃ n : Nat, d = n := ⟨d.toNat, by simp [rightB] at hs; omega⟩
    have hd : d ≤ 4611686018427387904 := by simp [rightB] at hs; omega
    have hz : smallB 4611686018427387904 l = true := by
      rw [smallB_iff]; simp [rightB] at hs; intro n hn; have := smallB_mem hs.2.2.1 hn; omega
    have HZ := Lib.hid hz
    have hv : mayB l d = ((comm d l : Int) == 1) := by rw [Bool.eq_iff_iff]; simp [mayB, hs]; omega
    rw [hv]
    clear hv hz
    go_enter Try.func118, Try.ntmps118
    go_wp2_with (first
      | (go_at_call 97; refine (frac_right _ _ _ _ _ (HR.out.alloc _)).mono ?_; rintro e w' ⟨rfl, n', rfl⟩)
      | (go_at_call 96; refine (frac_common _ _ _ _ _ hd HZ.out ((HR.out.alloc _).drewN _)).mono ?_; rintro e w' ⟨rfl, n', rfl⟩))
    go_ret
    exact ⟨rfl, below_drewN ((Below.refl _ _).alloc (Nat.le_refl _) _) _⟩

theorem frac_small1 (m : Int) (A : Option Addr) (n : Int) (c : Nat) (w : World) (hm : 0 ≤ m) (hm' : m ≤ 4611686018427387904) (hr : Rd w A c [n]) :
    Calls Try.prog 95 #[.int .i64 m, .slice A 1 c] w fun e w' => e = .returned (.bool (smallB m [n])) ∧ ∃ n, w' = w.drewN n := frac_small m A [n] c w hm hm' hr

theorem frac_MayPoint1 (A : Option Addr) (n : Int) (c : Nat) (d : Int) (w : World) (hr : Rd w A c [n]) :
    Calls Try.prog 118 #[.agg #[.slice A 1 c, .int .i64 d]] w fun e w' => e = .returned (.bool (mayB [n] d)) ∧ Below w.heap.size w w' := frac_MayPoint A [n] c d w hr

theorem frac_May (a b : Int) (w : World) :
    Calls Try.prog 82 #[.agg #[.int .i64 a, .int .i64 b]] w fun e w' => e = .returned (.bool (mayB [a] b)) ∧ Below w.heap.size w w' := by
  go_enter Try.func82, Try.ntmps82
  go_wp2_with (go_at_call 118; refine (frac_MayPoint1 _ _ _ _ _ (by exact Rd.new1 _ _ _ _ (by simp))).mono ?_; rintro e w' ⟨rfl, hb⟩)
  go_ret
  exact ⟨rfl, (((Below.refl _ _).alloc (Nat.le_refl _) _).alloc (by simp) _).trans (hb.mono (by simp; omega))⟩

/-- A point and an error are handed back; nothing that was there has turned. -/
def RetPt (w : World) (ns : List Int) (d er : Int) (e : Ending) (w' : World) : Prop :=
  ∃ A c, e = .returned (.tuple #[.agg #[.slice A ns.length c, .int .i64 d], .int .i64 er]) ∧ Rd w' A c ns ∧ Below w.heap.size w w' ∧ ∀ ad, A = some ad → w.heap.size ≤ ad.block

set_option maxHeartbeats 2000000 in
theorem frac_Point (A : Option Addr) (l : List Int) (c : Nat) (d : Int) (w : World) (hr : Rd w A c l) :
    Calls Try.prog 47 #[.slice A l.length c, .int .i64 d] w (RetPt w (ptN l d) (ptD l d) (ptE l d)) := by
  have HR := Lib.hid hr
  obtain ⟨hl, hc, hsm, _⟩ := hr
  by_cases h0 : d = 0
  · subst h0
    have HE := Lib.hid (show ptE l 0 = 3 by simp [ptE])
    go_enter Try.func47, Try.ntmps47
    go_wp2_with fail
    refine bodyPost_ret (v := .tuple #[.agg #[.slice none 0 0, .int .i64 0], .int .i64 3]) (by simp [results, Try.results47, go_sem]) rfl ?_
    refine ⟨none, 0, by simp [ptN, ptD, HE.out], by simp [ptN, HE.out, Rd.nil], (Below.refl _ _).alloc (Nat.le_refl _) _, fun ad e => by cases e⟩
  · have hd0 : (d == 0) = false := by simpa using h0
    cases h1 : smallB 4611686018427387904 l with
    | false =>
      have HE := Lib.hid (show ptE l d = 3 by simp [ptE, h1])
      go_enter Try.func47, Try.ntmps47
      go_wp2_with (first
       | (go_at_call 95; refine (frac_small _ _ _ _ _ (by omega) (by omega) (HR.out.alloc _)).mono ?_; rintro e w' ⟨rfl, n', rfl⟩))
      refine bodyPost_ret (v := .tuple #[.agg #[.slice none 0 0, .int .i64 0], .int .i64 3]) (by simp [results, Try.results47, go_sem]) rfl ?_
      refine ⟨none, 0, by simp [ptN, ptD, HE.out], by simp [ptN, HE.out, Rd.nil], (by (repeat (any_goals (first | exact Below.refl _ _ | refine below_drewN ?_ _ | refine Below.drew ?_ | refine Below.alloc ?_ ?_ _ | refine Below.setCell ?_ ?_ _))); all_goals (first | omega | (simp; done) | (simp; omega))), fun ad e => by cases e⟩
    | true =>
      cases h2 : smallB 4611686018427387904 [d] with
      | false =>
        have HE := Lib.hid (show ptE l d = 3 by simp [ptE, h2])
        go_enter Try.func47, Try.ntmps47
        go_wp2_with fail
        refine (frac_small _ _ _ _ _ (by omega) (by omega) (by exact HR.out.alloc _)).mono ?_
        rintro e w' ⟨rfl, n', rfl⟩
        go_wp2_with fail
        refine (frac_small1 _ _ _ _ _ (by omega) (by omega) (by exact Rd.new1 _ _ _ _ (by simp))).mono ?_
        rintro e w' ⟨rfl, n', rfl⟩
        go_wp2_with fail
        refine bodyPost_ret (v := .tuple #[.agg #[.slice none 0 0, .int .i64 0], .int .i64 3]) (by simp [results, Try.results47, go_sem]) rfl ?_
        refine ⟨none, 0, by simp [ptN, ptD, HE.out], by simp [ptN, HE.out, Rd.nil], (by (repeat (any_goals (first | exact Below.refl _ _ | refine below_drewN ?_ _ | refine Below.drew ?_ | refine Below.alloc ?_ ?_ _ | refine Below.setCell ?_ ?_ _))); all_goals (first | omega | (simp; done) | (simp; omega))), fun ad e => by cases e⟩
      | true =>
        have hb := h2
        rw [smallB_one] at hb
        simp at hb
        obtain ⟨hb1, hb2⟩ := hb
        have HZ := Lib.hid h1
        by_cases hn : d < 0
        all_goals
          go_enter Try.func47, Try.ntmps47
          go_wp2_with fail
          refine (frac_small _ _ _ _ _ (by omega) (by omega) (by exact HR.out.alloc _)).mono ?_
          rintro e w' ⟨rfl, n1, rfl⟩
          go_wp2_with fail
          refine (frac_small1 _ _ _ _ _ (by omega) (by omega) (by exact Rd.new1 _ _ _ _ (by simp))).mono ?_
          rintro e w' ⟨rfl, n2, rfl⟩
          go_wp2_with fail
          all_goals (try (exfalso; unfold wrap64 at *; omega))
          refine (frac_commonI _ _ _ _ _ (by omega) (by omega) (by assumption) (by exact (by repeat (first | exact HR.out | refine Rd.alloc ?_ _ | refine Rd.drewN ?_ _ | refine Rd.drew ?_ | refine Rd.setCell ?_ (by simp) _ | refine Rd.below ?_ (by assumption))))).mono ?_
          rintro e w' ⟨rfl, n3, rfl⟩
          have hg1 := comm_pos d.natAbs l (by omega)
          have hg2 := comm_le d.natAbs l (by omega)
          generalize hG : (Nat.cast (comm _ l) : Int) = G
          have hS : sgcd l d = (if d < 0 then -G else G) := by unfold sgcd; rw [← hG]; (try simp)
          have hg3 : 1 ≤ G := by rw [← hG]; first | omega | (rw [Int.natAbs_neg]; omega)
          have hg4 : G ≤ 4611686018427387904 := by rw [← hG]; first | omega | (rw [Int.natAbs_neg]; omega)
          clear hG hg1 hg2
          first | rw [if_pos hn] at hS | rw [if_neg (by omega)] at hS
          have HS := Lib.hid hS
          have hq := tdiv_bound 4611686018427387904 d G (by omega) (by omega)
          obtain ⟨hq1, hq2⟩ := hq
          clear hS h1
          go_wp2_with fail
          go_loopw [40] (fun i wr => ∃ (k : Nat) (v : Value), k ≤ l.length ∧ i = .int .i64 k ∧ Blk wr (w.heap.size + 1 + 1) 40 #[v, .int .i64 (d.tdiv (sgcd l d))] ∧
            wr.ownsRow (w.heap.size + 1 + 1 + 1) 2 1 v k ((divs (l.take k) (sgcd l d)).map (Value.int .i64)) ∧ Below w.heap.size w wr ∧ Blk wr w.heap.size 40 #[.slice none 0 0, .int .i64 0])
            (fun i _ => l.length - (intOf i).toNat)
          case atStart =>
            refine ⟨0, .slice none 0 0, by omega, rfl, ?_, World.ownsRow_nil _ _ _ _, (by (repeat (any_goals (first | exact Below.refl _ _ | refine below_drewN ?_ _ | refine Below.drew ?_ | refine Below.alloc ?_ ?_ _ | refine Below.setCell ?_ ?_ _))); all_goals (first | omega | (simp; done) | (simp; omega))), ?_⟩
            · rw [HS.out]; (try rw [Int.tdiv_neg]); exact Blk.new _ _ _ _ (by simp)
            · exact (((Blk.new w _ _ _ rfl).drewN _).alloc _).alloc _
          case round =>
            obtain ⟨k, v, hk, rfl, hB, hown, hbel, hRv⟩ := hrel
            obtain ⟨hq3, hq4⟩ := tdiv_bound 4611686018427387904 d G (by omega) (by omega)
            by_cases hlt : k < l.length
            · obtain ⟨ad, rfl, hc1⟩ := (HR.out.below hbel).at_ hlt
              have hp0 := hB.cell 0
              have hp1 := hB.cell 1
              have hpf := hB.frozen 0
              have hpl := hB.lt
              obtain ⟨hs1, hs2⟩ := smallB_at HZ.out hlt
              obtain ⟨hs3, hs4⟩ := tdiv_bound 4611686018427387904 l[k] G (by omega) (by omega)
              simp at hp0 hp1
              have HB := Lib.hid hB
              have HW := Lib.hid hown
              have HL := Lib.hid hbel
              have HV := Lib.hid hRv
              clear hB hown hbel hRv
              have hz : ¬ G = 0 := by omega
              have hw1 : IntKind.i64.wrap (-l[k].tdiv G) = -l[k].tdiv G := IntWalk.i64_in _ (by omega)
              have hw2 : IntKind.i64.wrap (l[k].tdiv G) = l[k].tdiv G := IntWalk.i64_in _ (by omega)
              go_wp2_with fail
              go_region_law (refine step_app1 rfl (.tmp 45) (.tmp 49) _ _ _ 8 und_i64s inf_i64 rfl rfl _ v k _ _ (by simp [Act.eval]) ((HW.out.drew).alloc _) _ 1 (by simp [Act.eval]) (cell_new1 _ _ _) rfl (by unfold maxLen; omega) (by omega) (by simp; omega) ?_; intro g cap w1 hown1 hg1 hat hlt1; have hB1 := ((HB.out.drew).alloc _).grown hg1 (own_ne HW.out (by omega)); have hq0 : w1.cell? ⟨w.heap.size + 1 + 1, 0, none⟩ = some v := hB1.cell 0; have hqf := hB1.frozen 0)
              all_goals
                have HB1 := Lib.hid hB1
                have HW1 := Lib.hid hown1
                have HG1 := Lib.hid hg1
                clear hB1 hown1 hg1 hq0 hqf
                go_wp2_with fail
                go_roundw
                case rel =>
                  have hb2 : Below w.heap.size w w1 := (((HL.out.drew).alloc (by have := HL.out.size; simp; omega) _).grown HG1.out (by have := HL.out.size; simp; omega) (own_ge HW.out (by omega)))
                  refine ⟨k + 1, _, by omega, by go_num, HB1.out.set0 0 _, ?_, hb2.setCell (by simp; omega) _, ?_⟩
                  · have he : (divs (l.take (k + 1)) (sgcd l d)).map (Value.int .i64) = (divs (l.take k) (sgcd l d)).map (Value.int .i64) ++ [Value.int .i64 (l[k].tdiv (sgcd l d))] := by
                      rw [divs_take hlt, List.map_append]; rfl
                    rw [he]
                    refine ownsRow_setCell_below ?_ (by simp) _
                    refine Eq.mp (congrArg (fun q : Int => w1.ownsRow (w.heap.size + 1 + 1 + 1) 2 1 (.slice (some ⟨g, 0, none⟩) (k + 1) cap) (k + 1) ((divs (l.take k) (sgcd l d)).map (Value.int .i64) ++ [Value.int .i64 q])) ?_) HW1.out
                    rw [HS.out]
                    try rw [Int.tdiv_neg]
                  · exact (((HV.out.drew).alloc _).grown HG1.out (own_ne HW.out (by omega))).far _ (by simp; omega)
                case measure => simp [intOf]; omega
            · obtain rfl : k = l.length := by omega
              rw [List.take_length] at hown
              obtain ⟨A', c', rfl, hRd, hA'⟩ := Rd.of_ownv hown (by rw [length_divs]) (by rw [length_divs]; exact hsm)
              have hp0 : wr.cell? ⟨w.heap.size + 1 + 1, 0, none⟩ = some (.slice A' (divs l (sgcd l d)).length c') := hB.cell 0
              have hp1 : wr.cell? ⟨w.heap.size + 1 + 1, 1, none⟩ = some (.int .i64 (d.tdiv (sgcd l d))) := hB.cell 1
              have hr0 : wr.cell? ⟨w.heap.size, 0, none⟩ = some (.slice none 0 0) := hRv.cell 0
              have hr1 : wr.cell? ⟨w.heap.size, 1, none⟩ = some (.int .i64 0) := hRv.cell 1
              have hrf0 := hRv.frozen 0
              have hrf1 := hRv.frozen 1
              have HL := Lib.hid hbel
              have HRd := Lib.hid hRd
              have HA := Lib.hid hA'
              clear hB hown hbel hRv hRd hA'
              cases hrb : rightB (divs l (sgcd l d)) (d.tdiv (sgcd l d)) with
              | true =>
                have HE := Lib.hid (show ptE l d = 0 by unfold ptE; rw [if_neg (by simp [h0, HZ.out, h2]), if_pos hrb])
                go_wp2_with fail
                refine (frac_right _ _ _ _ _ HRd.out).mono ?_
                rintro e w' ⟨rfl, n4, rfl⟩
                rw [hrb]
                go_wp2_with fail
                refine bodyPost_ret (v := .tuple #[.agg #[.slice A' (divs l (sgcd l d)).length c', .int .i64 (d.tdiv (sgcd l d))], .int .i64 0]) (by simp [results, Try.results47, go_sem, hr0, hr1]) rfl ?_
                unfold RetPt ptN ptD
                rw [HE.out, if_pos rfl, if_pos rfl]
                refine ⟨A', c', rfl, ?_, (by (repeat (any_goals (first | exact Below.refl _ _ | exact HL.out | refine below_drewN ?_ _ | refine Below.drew ?_ | refine Below.alloc ?_ ?_ _ | refine Below.setCell ?_ ?_ _ | refine Below.trans ?_ (Below.mono HL.out ?_)))); all_goals (first | omega | (simp; done) | (simp; omega) | ((try have z0 := HL.out.size); (try simp at z0); (try simp); omega))), fun ad e => by have := HA.out ad e; omega⟩
                exact ((HRd.out.drewN _).setCell_out _ _ (fun ad e => by have := HA.out ad e; simp; omega)).setCell_out _ _ (fun ad e => by have := HA.out ad e; simp; omega)
              | false =>
                have HE := Lib.hid (show ptE l d = 1 by unfold ptE; rw [if_neg (by simp [h0, HZ.out, h2]), if_neg (by simp [hrb])])
                go_wp2_with fail
                refine (frac_right _ _ _ _ _ HRd.out).mono ?_
                rintro e w' ⟨rfl, n4, rfl⟩
                rw [hrb]
                go_wp2_with fail
                refine bodyPost_ret (v := .tuple #[.agg #[.slice none 0 0, .int .i64 0], .int .i64 1]) (by simp [results, Try.results47, go_sem, hr0, hr1]) rfl ?_
                unfold RetPt ptN ptD
                rw [HE.out, if_neg (by omega), if_neg (by omega)]
                refine ⟨none, 0, rfl, Rd.nil _, (by (repeat (any_goals (first | exact Below.refl _ _ | exact HL.out | refine below_drewN ?_ _ | refine Below.drew ?_ | refine Below.alloc ?_ ?_ _ | refine Below.setCell ?_ ?_ _ | refine Below.trans ?_ (Below.mono HL.out ?_)))); all_goals (first | omega | (simp; done) | (simp; omega) | ((try have z0 := HL.out.size); (try simp at z0); (try simp); omega))), fun ad e => by cases e⟩
end Go.Proofs.Ytjcdkbalhleeeab
