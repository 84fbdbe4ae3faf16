/-
  Walks of the reference of chapter 1 (second part): Point, Make, Of, Cmp, Same.
-/
import Derived.Test.YtjcdkbalhleeeabRefA
import Derived.Test.YtjcdkbalhleeeabPlainA
namespace Go.Proofs.Ytjcdkbalhleeeab
open Go.RowKit

set_option maxHeartbeats 1000000 in
theorem ref1_Point (A : Option Addr) (l : List Int) (c : Nat) (d : Int) (w : World) (hr : Rd w A c l) :
    Calls Try.prog 87 #[.slice A l.length c, .int .i64 d] w (RetPt w (ptN l d) (ptD l d) (ptE l d)) := by
  have HR := Lib.hid hr
  obtain ⟨hl, hc, hsm, _⟩ := hr
  by_cases h0 : d = 0
  · subst h0
    have HE := Lib.hid (show ptE l 0 = 3 by simp [ptE])
    go_enter Try.func87, Try.ntmps87
    go_wp2_with fail
    refine bodyPost_ret (v := .tuple #[.agg #[.slice none 0 0, .int .i64 0], .int .i64 3]) (by simp [results, Try.results87, go_sem]) rfl ?_
    refine ⟨none, 0, by simp [ptN, ptD, HE.out], by simp [ptN, HE.out, Rd.nil], (by (repeat (any_goals (first | exact Below.refl _ _ | refine below_drewN ?_ _ | refine Below.drew ?_ | refine Below.alloc ?_ ?_ _ | refine Below.setCell ?_ ?_ _))); all_goals (first | omega | (simp; done) | (simp; omega))), fun ad e => by cases e⟩
  · have hd0 : (d == 0) = false := by simpa using h0
    cases h1 : smallB 4611686018427387904 l with
    | false =>
      have HE := Lib.hid (show ptE l d = 3 by simp [ptE, h1])
      go_enter Try.func87, Try.ntmps87
      go_wp2_with fail
      refine (ref1_within _ _ _ _ _ (by omega) (by omega) (by exact HR.out.alloc _)).mono ?_
      rintro e w' ⟨rfl, rfl⟩
      rw [h1]
      go_wp2_with fail
      refine bodyPost_ret (v := .tuple #[.agg #[.slice none 0 0, .int .i64 0], .int .i64 3]) (by simp [results, Try.results87, go_sem]) rfl ?_
      refine ⟨none, 0, by simp [ptN, ptD, HE.out], by simp [ptN, HE.out, Rd.nil], (by (repeat (any_goals (first | exact Below.refl _ _ | refine below_drewN ?_ _ | refine Below.drew ?_ | refine Below.alloc ?_ ?_ _ | refine Below.setCell ?_ ?_ _))); all_goals (first | omega | (simp; done) | (simp; omega))), fun ad e => by cases e⟩
    | true =>
      cases h2 : smallB 4611686018427387904 [d] with
      | false =>
        have HE := Lib.hid (show ptE l d = 3 by simp [ptE, h2])
        go_enter Try.func87, Try.ntmps87
        go_wp2_with fail
        refine (ref1_within _ _ _ _ _ (by omega) (by omega) (by exact HR.out.alloc _)).mono ?_
        rintro e w' ⟨rfl, rfl⟩
        rw [h1]
        go_wp2_with fail
        refine (ref1_within1 _ _ _ _ _ (by omega) (by omega) (by exact Rd.new1 _ _ _ _ (by simp))).mono ?_
        rintro e w' ⟨rfl, rfl⟩
        rw [h2]
        go_wp2_with fail
        refine bodyPost_ret (v := .tuple #[.agg #[.slice none 0 0, .int .i64 0], .int .i64 3]) (by simp [results, Try.results87, go_sem]) rfl ?_
        refine ⟨none, 0, by simp [ptN, ptD, HE.out], by simp [ptN, HE.out, Rd.nil], (by (repeat (any_goals (first | exact Below.refl _ _ | refine below_drewN ?_ _ | refine Below.drew ?_ | refine Below.alloc ?_ ?_ _ | refine Below.setCell ?_ ?_ _))); all_goals (first | omega | (simp; done) | (simp; omega))), fun ad e => by cases e⟩
      | true =>
        have hb := h2
        rw [smallB_one] at hb
        simp at hb
        obtain ⟨hb1, hb2⟩ := hb
        have HZ := Lib.hid h1
        have HZ2 := Lib.hid h2
        have hg1 := comm_pos d.natAbs l (by omega)
        have hg2 := comm_le d.natAbs l (by omega)
        obtain ⟨G, hG⟩ : ∃ G : Int, G = (comm d.natAbs l : Nat) := ⟨_, rfl⟩
        have hg3 : 1 ≤ G := by omega
        have hg4 : G ≤ 4611686018427387904 := by omega
        obtain ⟨D, hD⟩ : ∃ D : Int, D = (d.natAbs : Nat) := ⟨_, rfl⟩
        have hd3 : 0 ≤ D := by omega
        have hd4 : D ≤ 4611686018427387904 := by omega
        have HG := Lib.hid hG
        have HD := Lib.hid hD
        have hq : 0 ≤ D / G ∧ D / G ≤ 4611686018427387904 := ⟨Int.ediv_nonneg hd3 (by omega), Int.le_trans (Int.ediv_le_self _ hd3) hd4⟩
        obtain ⟨hq1, hq2⟩ := hq
        have HQ := Lib.hid (show D / G = d.tdiv (sgcd l d) from by
          rw [hD, hG]; unfold sgcd
          by_cases hn : d < 0
          · rw [if_pos hn, Int.tdiv_neg, ← Int.neg_tdiv, Int.tdiv_eq_ediv_of_nonneg (by omega)]; congr 1; omega
          · rw [if_neg hn, Int.tdiv_eq_ediv_of_nonneg (by omega)]; congr 1; omega)
        clear hG hD hg1 hg2 h1 h2
        have HS1 := Lib.hid (show ∀ W : World, Calls Try.prog 120 #[.int .i64 d] W fun e w' => e = .returned (.int .i64 D) ∧ w' = W from fun W => by
          rw [HD.out]; exact (ref1_size d W (by omega) (by omega)).mono fun _ _ h => ⟨h.1, h.2.symm⟩)
        have HS2 := Lib.hid (show ∀ W : World, Rd W A c l → Calls Try.prog 121 #[.slice A l.length c, .int .i64 D] W fun e w' => e = .returned (.int .i64 G) ∧ w' = W from fun W hw => by
          rw [HD.out, HG.out]; exact (ref1_AllI A l c d.natAbs W (by omega) (by omega) HZ.out hw).mono fun _ _ h => ⟨by rw [h.1]; simp, h.2.symm⟩)
        go_enter Try.func87, Try.ntmps87
        go_wp2_with fail
        refine (ref1_within _ _ _ _ _ (by omega) (by omega) (by exact HR.out.alloc _)).mono ?_
        rintro e w' ⟨rfl, rfl⟩
        rw [HZ.out]
        go_wp2_with fail
        refine (ref1_within1 _ _ _ _ _ (by omega) (by omega) (by exact Rd.new1 _ _ _ _ (by simp))).mono ?_
        rintro e w' ⟨rfl, rfl⟩
        rw [HZ2.out]
        go_wp2_with fail
        refine (HS1.out _).mono ?_
        rintro e w' ⟨rfl, rfl⟩
        go_wp2_with fail
        refine (HS1.out _).mono ?_
        rintro e w' ⟨rfl, rfl⟩
        go_wp2_with fail
        refine (HS2.out _ (by exact (HR.out.alloc _).alloc _)).mono ?_
        rintro e w' ⟨rfl, rfl⟩
        have hz : ¬ G = 0 := by omega
        go_wp2_with fail
        go_loopw [8] (fun i wr => ∃ (k : Nat) (v : Value), k ≤ l.length ∧ i = .int .i64 k ∧ Blk wr (w.heap.size + 1 + 1) 40 #[v, .int .i64 (D / G)] ∧
            wr.ownsRow (w.heap.size + 1 + 1 + 1) 2 1 v k ((divs (l.take k) (sgcd l d)).map (Value.int .i64)) ∧ Below w.heap.size w wr ∧ Blk wr w.heap.size 40 #[.slice none 0 0, .int .i64 0])
            (fun i _ => l.length - (intOf i).toNat)
        case atStart =>
          exact ⟨0, .slice none 0 0, by omega, rfl, Blk.new _ _ _ _ (by simp), World.ownsRow_nil _ _ _ _, (by (repeat (any_goals (first | exact Below.refl _ _ | refine below_drewN ?_ _ | refine Below.drew ?_ | refine Below.alloc ?_ ?_ _ | refine Below.setCell ?_ ?_ _))); all_goals (first | omega | (simp; done) | (simp; omega))), ((Blk.new w _ _ _ rfl).alloc _).alloc _⟩
        case round =>
          obtain ⟨k, v, hk, rfl, hB, hown, hbel, hRv⟩ := hrel
          by_cases hlt : k < l.length
          · have HRr := Lib.hid (HR.out.below hbel)
            obtain ⟨ad, rfl, hc1⟩ := HRr.out.at_ hlt
            have hadl := World.block_lt_of_cell? _ _ hc1
            have hp0 : wr.cell? ⟨w.heap.size + 1 + 1, 0, none⟩ = some v := hB.cell 0
            have hp1 : wr.cell? ⟨w.heap.size + 1 + 1, 1, none⟩ = some (.int .i64 (D / G)) := hB.cell 1
            have hpf := hB.frozen 0
            have hpl := hB.lt
            obtain ⟨hs1, hs2⟩ := smallB_at HZ.out hlt
            obtain ⟨hs3, hs4⟩ := tdiv_bound 4611686018427387904 l[k] G (by omega) (by omega)
            have hw2 : IntKind.i64.wrap (l[k].tdiv G) = l[k].tdiv G := IntWalk.i64_in _ (by omega)
            have hi0 : (k : Int) < (l.length : Int) := by omega
            have HB := Lib.hid hB
            have HW := Lib.hid hown
            have HL := Lib.hid hbel
            have HV := Lib.hid hRv
            clear hB hown hbel hRv
            go_wp2_with fail
            go_quiet ((first
              | (go_at_call 120; exact Calls.quiet_of_same (HS1.out _))
              | (go_at_call 121; exact Calls.quiet_of_same (HS2.out _ (HRr.out.drewN _)))))
            by_cases hn : d < 0
            all_goals
              go_wp2_with (at_builtin; refine list_app1 rfl (.tmp 54) (.tmp 56) _ _ _ 8 und_i64s inf_i64 rfl rfl _ v k _ _ rfl ((own_drewN HW.out _).alloc _) _ 1 rfl (cell_new1 _ _ _) rfl (by unfold maxLen; omega) (by omega) (by simp; omega) ?_; intro g cap w1 hown1 hg1 hat hlt1; have hB1 := ((HB.out.drewN nq).alloc _).grown hg1 (own_ne HW.out (by omega)); have hq0 : w1.cell? ⟨w.heap.size + 1 + 1, 0, none⟩ = some v := hB1.cell 0; have hqf := hB1.frozen 0)
              have HB1 := Lib.hid hB1
              have HW1 := Lib.hid hown1
              have HG1 := Lib.hid hg1
              clear hB1 hown1 hg1 hq0 hqf
              go_roundw
              case rel =>
                have hb2 : Below w.heap.size w w1 := ((below_drewN HL.out nq).alloc (by have := HL.out.size; simp; omega) _).grown HG1.out (by have := HL.out.size; simp; omega) (own_ge HW.out (by omega))
                refine ⟨k + 1, _, by omega, by go_num, HB1.out.set0 0 _, ?_, hb2.setCell (by simp; omega) _, ?_⟩
                · have he : (divs (l.take (k + 1)) (sgcd l d)).map (Value.int .i64) = (divs (l.take k) (sgcd l d)).map (Value.int .i64) ++ [Value.int .i64 (l[k].tdiv (sgcd l d))] := by
                    rw [divs_take hlt, List.map_append]; rfl
                  rw [he]
                  refine ownsRow_setCell_below ?_ (by simp) _
                  refine Eq.mp (congrArg (fun q : Int => w1.ownsRow (w.heap.size + 1 + 1 + 1) 2 1 (.slice (some ⟨g, 0, none⟩) (k + 1) cap) (k + 1) ((divs (l.take k) (sgcd l d)).map (Value.int .i64) ++ [Value.int .i64 q])) ?_) HW1.out
                  unfold sgcd
                  rw [← HG.out]
                  first | (rw [if_pos hn, Int.tdiv_neg]) | (rw [if_neg (by omega)])
                · exact (((HV.out.drewN nq).alloc _).grown HG1.out (own_ne HW.out (by omega))).far _ (by simp; omega)
              case measure => simp [intOf]; omega
          · obtain rfl : k = l.length := by omega
            rw [List.take_length] at hown
            obtain ⟨A', c', rfl, hRd, hA'⟩ := Rd.of_ownv hown (by rw [length_divs]) (by rw [length_divs]; exact hsm)
            have hp0 : wr.cell? ⟨w.heap.size + 1 + 1, 0, none⟩ = some (.slice A' (divs l (sgcd l d)).length c') := hB.cell 0
            have hp1 : wr.cell? ⟨w.heap.size + 1 + 1, 1, none⟩ = some (.int .i64 (D / G)) := hB.cell 1
            have HL := Lib.hid hbel
            have HRd := Lib.hid hRd
            have HV := Lib.hid hRv
            have HB := Lib.hid hB
            have HA := Lib.hid hA'
            clear hB hown hbel hRv hRd hA'
            go_wp2_with fail
            refine (ref1_MayPoint _ _ _ _ _ HRd.out).mono ?_
            rintro e w1 ⟨rfl, hb1⟩
            have hB1 := HB.out.below hb1 HB.out.lt
            have hV1 := HV.out.below hb1 HV.out.lt
            have hp0' : w1.cell? ⟨w.heap.size + 1 + 1, 0, none⟩ = some (.slice A' (divs l (sgcd l d)).length c') := hB1.cell 0
            have hp1' : w1.cell? ⟨w.heap.size + 1 + 1, 1, none⟩ = some (.int .i64 (D / G)) := hB1.cell 1
            have hr0 : w1.cell? ⟨w.heap.size, 0, none⟩ = some (.slice none 0 0) := hV1.cell 0
            have hr1 : w1.cell? ⟨w.heap.size, 1, none⟩ = some (.int .i64 0) := hV1.cell 1
            have hrf0 := hV1.frozen 0
            have hrf1 := hV1.frozen 1
            have HRd1 := Lib.hid (HRd.out.below hb1)
            have HB1 := Lib.hid hb1
            clear hp0 hp1 hb1 hB1 hV1
            cases hrb : rightB (divs l (sgcd l d)) (d.tdiv (sgcd l d)) with
            | true =>
              have HE := Lib.hid (show ptE l d = 0 by unfold ptE; rw [if_neg (by simp [h0, HZ.out, HZ2.out]), if_pos hrb])
              rw [show mayB (divs l (sgcd l d)) (D / G) = true from by rw [HQ.out]; unfold mayB; rw [hrb, comm_divs l d h0]; rfl]
              clear hrb
              go_wp2_with fail
              refine bodyPost_ret (v := .tuple #[.agg #[.slice A' (divs l (sgcd l d)).length c', .int .i64 (D / G)], .int .i64 0]) (by simp [results, Try.results87, go_sem, hr0, hr1]) rfl ?_
              unfold RetPt ptN ptD
              rw [HE.out, if_pos rfl, if_pos rfl, ← HQ.out]
              refine ⟨A', c', rfl, ?_, (by (repeat (any_goals (first | exact Below.refl _ _ | exact HL.out | exact HB1.out | refine below_drewN ?_ _ | refine Below.drew ?_ | refine Below.alloc ?_ ?_ _ | refine Below.setCell ?_ ?_ _ | refine Below.trans ?_ (Below.mono HL.out ?_) | refine Below.trans ?_ (Below.mono HB1.out ?_)))); all_goals (first | omega | (simp; done) | (simp; omega) | ((try have z0 := HL.out.size); (try simp at z0); (try have z1 := HB1.out.size); (try simp at z1); (try simp); omega))), fun ad e => by have := HA.out ad e; omega⟩
              exact (HRd1.out.setCell_out _ _ (fun ad e => by have := HA.out ad e; simp; omega)).setCell_out _ _ (fun ad e => by have := HA.out ad e; simp; omega)
            | false =>
              have HE := Lib.hid (show ptE l d = 1 by unfold ptE; rw [if_neg (by simp [h0, HZ.out, HZ2.out]), if_neg (by simp [hrb])])
              rw [show mayB (divs l (sgcd l d)) (D / G) = false from by rw [HQ.out]; unfold mayB; rw [hrb]; rfl]
              clear hrb
              go_wp2_with fail
              refine bodyPost_ret (v := .tuple #[.agg #[.slice none 0 0, .int .i64 0], .int .i64 1]) (by simp [results, Try.results87, go_sem, hr0, hr1]) rfl ?_
              unfold RetPt ptN ptD
              rw [HE.out, if_neg (by omega), if_neg (by omega)]
              exact ⟨none, 0, rfl, Rd.nil _, (by (repeat (any_goals (first | exact Below.refl _ _ | exact HL.out | exact HB1.out | refine below_drewN ?_ _ | refine Below.drew ?_ | refine Below.alloc ?_ ?_ _ | refine Below.setCell ?_ ?_ _ | refine Below.trans ?_ (Below.mono HL.out ?_) | refine Below.trans ?_ (Below.mono HB1.out ?_)))); all_goals (first | omega | (simp; done) | (simp; omega) | ((try have z0 := HL.out.size); (try simp at z0); (try have z1 := HB1.out.size); (try simp at z1); (try simp); omega))), fun ad e => by cases e⟩
theorem ref1_Point1 (A : Option Addr) (n : Int) (c : Nat) (d : Int) (w : World) (hr : Rd w A c [n]) :
    Calls Try.prog 87 #[.slice A 1 c, .int .i64 d] w (RetPt w (ptN [n] d) (ptD [n] d) (ptE [n] d)) := ref1_Point A [n] c d w hr

theorem ref1_Make (n d : Int) (w : World) :
    Calls Try.prog 48 #[.int .i64 n, .int .i64 d] w (RetFr w (frN n d) (ptD [n] d) (ptE [n] d)) := by
  by_cases h0 : ptE [n] d = 0
  · have HE := Lib.hid h0
    have hN : ptN [n] d = [frN n d] := by
      unfold frN ptN; rw [if_pos h0]; simp [divs]
    have HN := Lib.hid hN
    clear h0 hN
    go_enter Try.func48, Try.ntmps48
    go_wp2_with fail
    refine (ref1_Point1 _ _ _ _ _ (by exact Rd.new1 _ _ _ _ (by simp))).mono ?_
    rintro e w' ⟨A', c', rfl, hRd, hb, _⟩
    rw [HN.out, HE.out]
    rw [HN.out] at hRd
    obtain ⟨ad, rfl, hc0⟩ := hRd.at_ (k := 0) (by simp)
    have hc1 : w'.cell? ad = some (.int .i64 (frN n d)) := by simpa [Addr.add] using hc0
    have hc2 : ∀ o, (w'.alloc o).cell? ad = some (.int .i64 (frN n d)) := fun o => (World.cell?_alloc_lt w' o ad (World.block_lt_of_cell? _ _ hc1)).trans hc1
    have hV := ((Blk.new w 38 #[.int .i64 0, .int .i64 0] _ rfl).alloc (.cells #[.int .i64 n] 2)).below hb (by simp; omega)
    have hv0 : w'.cell? ⟨w.heap.size, 0, none⟩ = some (.int .i64 0) := hV.cell 0
    have hv1 : w'.cell? ⟨w.heap.size, 1, none⟩ = some (.int .i64 0) := hV.cell 1
    have hf0 := hV.frozen 0
    have hf1 := hV.frozen 1
    have hlt := hV.lt
    have HB := Lib.hid hb
    simp at hc0
    clear hb hRd hV
    go_wp2_with fail
    go_region
    go_wp2_with fail
    refine bodyPost_ret (v := .tuple #[.agg #[.int .i64 (frN n d), .int .i64 (ptD [n] d)], .int .i64 0]) (by simp [results, Try.results48, go_sem, hv0, hv1, hlt]) rfl ?_
    exact ⟨by rw [HE.out], (by (repeat (any_goals (first | exact Below.refl _ _ | exact HB.out | refine below_drewN ?_ _ | refine Below.drew ?_ | refine Below.alloc ?_ ?_ _ | refine Below.setCell ?_ ?_ _ | refine Below.trans ?_ (Below.mono HB.out ?_)))); all_goals (first | omega | (simp; done) | (simp; omega) | ((try have z0 := HB.out.size); (try simp at z0); (try simp); omega)))⟩
  · have HE := Lib.hid h0
    have hN : ptN [n] d = [] := by unfold ptN; rw [if_neg h0]
    have hD : ptD [n] d = 0 := by unfold ptD; rw [if_neg h0]
    have hF : frN n d = 0 := by unfold frN; rw [hN]; rfl
    rw [hD, hF]
    have HN := Lib.hid hN
    have HD := Lib.hid hD
    clear hN hD hF
    go_enter Try.func48, Try.ntmps48
    go_wp2_with fail
    refine (ref1_Point1 _ _ _ _ _ (by exact Rd.new1 _ _ _ _ (by simp))).mono ?_
    rintro e w' ⟨A', c', rfl, hRd, hb, _⟩
    rw [HN.out, HD.out]
    have hV := ((Blk.new w 38 #[.int .i64 0, .int .i64 0] _ rfl).alloc (.cells #[.int .i64 n] 2)).below hb (by simp; omega)
    have hv0 : w'.cell? ⟨w.heap.size, 0, none⟩ = some (.int .i64 0) := hV.cell 0
    have hv1 : w'.cell? ⟨w.heap.size, 1, none⟩ = some (.int .i64 0) := hV.cell 1
    have hf0 := hV.frozen 0
    have hf1 := hV.frozen 1
    have hlt := hV.lt
    have HB := Lib.hid hb
    clear hb hRd hV
    go_wp2_with fail
    refine bodyPost_ret (v := .tuple #[.agg #[.int .i64 0, .int .i64 0], .int .i64 (ptE [n] d)]) (by simp [results, Try.results48, go_sem, hv0, hv1, hlt]) rfl ?_
    exact ⟨rfl, (by (repeat (any_goals (first | exact Below.refl _ _ | exact HB.out | refine below_drewN ?_ _ | refine Below.drew ?_ | refine Below.alloc ?_ ?_ _ | refine Below.setCell ?_ ?_ _ | refine Below.trans ?_ (Below.mono HB.out ?_)))); all_goals (first | omega | (simp; done) | (simp; omega) | ((try have z0 := HB.out.size); (try simp at z0); (try simp); omega)))⟩

theorem ref1_Of (n d : Int) (w : World) :
    Calls Try.prog 15 #[.int .i64 n, .int .i64 d] w fun e w' => e = .returned (.agg #[.int .i64 (frN n d), .int .i64 (ptD [n] d)]) ∧ Below w.heap.size w w' := by
  go_enter Try.func15, Try.ntmps15
  go_wp2_with fail
  refine (ref1_Make _ _ _).mono ?_
  rintro e w' ⟨rfl, hb⟩
  have HB := Lib.hid hb
  have hV := (Blk.new w 38 #[.int .i64 0, .int .i64 0] _ rfl).below hb (by simp)
  have hv0 : w'.cell? ⟨w.heap.size, 0, none⟩ = some (.int .i64 0) := hV.cell 0
  have hv1 : w'.cell? ⟨w.heap.size, 1, none⟩ = some (.int .i64 0) := hV.cell 1
  have hf0 := hV.frozen 0
  have hf1 := hV.frozen 1
  have hlt := hV.lt
  clear hb hV
  go_wp2_with fail
  refine bodyPost_ret (v := .agg #[.int .i64 (frN n d), .int .i64 (ptD [n] d)]) (by simp [results, Try.results15, go_sem, hv0, hv1, hlt]) rfl ?_
  exact ⟨rfl, (by (repeat (any_goals (first | exact Below.refl _ _ | exact HB.out | refine below_drewN ?_ _ | refine Below.drew ?_ | refine Below.alloc ?_ ?_ _ | refine Below.setCell ?_ ?_ _ | refine Below.trans ?_ (Below.mono HB.out ?_)))); all_goals (first | omega | (simp; done) | (simp; omega) | ((try have z0 := HB.out.size); (try simp at z0); (try simp); omega)))⟩

theorem ref1_Cmp (a b c d : Int) (w : World) (ha : -1073741824 ≤ a ∧ a ≤ 1073741824) (hb : -1073741824 ≤ b ∧ b ≤ 1073741824) (hc : -1073741824 ≤ c ∧ c ≤ 1073741824) (hd : -1073741824 ≤ d ∧ d ≤ 1073741824) :
    Calls Try.prog 17 #[.agg #[.int .i64 a, .int .i64 b], .agg #[.int .i64 c, .int .i64 d]] w fun e w' => e = .returned (.int .i64 (a * d - c * b)) ∧ Below w.heap.size w w' := by
  obtain ⟨ha1, ha2⟩ := ha
  obtain ⟨hb1, hb2⟩ := hb
  obtain ⟨hc1, hc2⟩ := hc
  obtain ⟨hd1, hd2⟩ := hd
  obtain ⟨hm1, hm2⟩ := mul_bound a d 1073741824 1073741824 (by omega) (by omega) (by omega) (by omega)
  obtain ⟨hm3, hm4⟩ := mul_bound c b 1073741824 1073741824 (by omega) (by omega) (by omega) (by omega)
  go_enter Try.func17, Try.ntmps17
  go_wp2_with fail
  go_ret
  exact ⟨rfl, (by (repeat (any_goals (first | exact Below.refl _ _ | refine below_drewN ?_ _ | refine Below.drew ?_ | refine Below.alloc ?_ ?_ _ | refine Below.setCell ?_ ?_ _))); all_goals (first | omega | (simp; done) | (simp; omega)))⟩

/-- Are two points one? -/
def sameB (l : List Int) (d : Int) (l' : List Int) (d' : Int) : Bool := decide (d = d') && decide (l = l')
end Go.Proofs.Ytjcdkbalhleeeab
