/-
  Contracts of functions and plain laws that later parts of the proof use. The conditions stand in each theorem.
-/
import Derived.Test.YtjcdkbalhleeeaaGreatDoorG06
import Derived.Test.YtjcdkbalhleeeaaGreatDoorG11
import Derived.Test.YtjcdkbalhleeeaaGreatDoorG01
import Derived.Test.YtjcdkbalhleeeaaGreatDoorG03
namespace Go.Proofs.YtjcdkbalhleeeaaGreatDoor
open Go.RowKit
set_option maxHeartbeats 1000000 in
theorem ref1_Point (A : Option Addr) (l : List Int) (c : Nat) (d : Int) (w : World) (hr : Rd w A c l) :
    Calls Tryz.prog 91 #[.slice A l.length c, .int .i64 d] w (RetPt w (ptN l d) (ptD l d) (ptE l d)) := by
 have HR := h_ hr
 obtain ⟨hl, hc, hsm, _⟩ := hr
 by_cases h0 : d = 0
 ·subst h0
  have HE := h_ (show ptE l 0 = 3 by simp [ptE])
  go_enter Tryz.func91, Tryz.ntmps91
  go_wp2_with fail
  refine bodyPost_ret (v := .tuple #[.agg #[.slice none 0 0, .int .i64 0], .int .i64 3]) (by simp [results, Tryz.results91, go_sem]) rfl ?_
  refine ⟨none, 0, by simp [ptN, ptD, HE.out], by simp [ptN, HE.out, Rd.nil], (by (repeat (any_goals (first | exact qR _ _ | refine below_drewN ?_ _ | refine qD ?_ | refine qA ?_ ?_ _ | refine qS ?_ ?_ _))); all_goals (first | omega | (simp; done) | (simp; omega))), fun ad e => by cases e⟩
 ·have hd0 : (d == 0) = false := by simpa using h0
  cases h1 : smallB 4611686018427387904 l with
  | false =>
   have HE := h_ (show ptE l d = 3 by simp [ptE, h1])
   go_enter Tryz.func91, Tryz.ntmps91
   go_wp2_with fail
   refine (ref1_within _ _ _ _ _ (by omega) (by omega) (by exact HR.out.alloc _)).mono ?_
   rintro e w' ⟨rfl, rfl⟩
   rw [h1]
   go_wp2_with fail
   refine bodyPost_ret (v := .tuple #[.agg #[.slice none 0 0, .int .i64 0], .int .i64 3]) (by simp [results, Tryz.results91, go_sem]) rfl ?_
   refine ⟨none, 0, by simp [ptN, ptD, HE.out], by simp [ptN, HE.out, Rd.nil], (by (repeat (any_goals (first | exact qR _ _ | refine below_drewN ?_ _ | refine qD ?_ | refine qA ?_ ?_ _ | refine qS ?_ ?_ _))); all_goals (first | omega | (simp; done) | (simp; omega))), fun ad e => by cases e⟩
  | true =>
   cases h2 : smallB 4611686018427387904 [d] with
   | false =>
    have HE := h_ (show ptE l d = 3 by simp [ptE, h2])
    go_enter Tryz.func91, Tryz.ntmps91
    go_wp2_with fail
    refine (ref1_within _ _ _ _ _ (by omega) (by omega) (by exact HR.out.alloc _)).mono ?_
    rintro e w' ⟨rfl, rfl⟩
    rw [h1]
    go_wp2_with fail
    refine (ref1_within1 _ _ _ _ _ (by omega) (by omega) (by exact Rd.new1 _ _ _ _ (by simp))).mono ?_
    rintro e w' ⟨rfl, rfl⟩
    rw [h2]
    go_wp2_with fail
    refine bodyPost_ret (v := .tuple #[.agg #[.slice none 0 0, .int .i64 0], .int .i64 3]) (by simp [results, Tryz.results91, go_sem]) rfl ?_
    refine ⟨none, 0, by simp [ptN, ptD, HE.out], by simp [ptN, HE.out, Rd.nil], (by (repeat (any_goals (first | exact qR _ _ | refine below_drewN ?_ _ | refine qD ?_ | refine qA ?_ ?_ _ | refine qS ?_ ?_ _))); all_goals (first | omega | (simp; done) | (simp; omega))), fun ad e => by cases e⟩
   | true =>
    have hb := h2
    rw [smallB_one] at hb
    simp at hb
    obtain ⟨hb1, hb2⟩ := hb
    have HZ := h_ h1
    have HZ2 := h_ h2
    have hg1 := comm_pos d.natAbs l (by omega)
    have hg2 := comm_le d.natAbs l (by omega)
    obtain ⟨G, hG⟩ : ∃ G : Int, G = (comm d.natAbs l : Nat) := ⟨_, rfl⟩
    have hg3 : 1 ≤ G := by omega
    have hg4 : G ≤ 4611686018427387904 := by omega
    obtain ⟨D, hD⟩ : ∃ D : Int, D = (d.natAbs : Nat) := ⟨_, rfl⟩
    have hd3 : 0 ≤ D := by omega
    have hd4 : D ≤ 4611686018427387904 := by omega
    have HG := h_ hG
    have HD := h_ hD
    have hq : 0 ≤ D / G ∧ D / G ≤ 4611686018427387904 := ⟨Int.ediv_nonneg hd3 (by omega), Int.le_trans (Int.ediv_le_self _ hd3) hd4⟩
    obtain ⟨hq1, hq2⟩ := hq
    have HQ := h_ (show D / G = d.tdiv (sgcd l d) from by
     rw [hD, hG]; unfold sgcd
     by_cases hn : d < 0
     ·rw [if_pos hn, Int.tdiv_neg, ← Int.neg_tdiv, Int.tdiv_eq_ediv_of_nonneg (by omega)]; congr 1; omega
     ·rw [if_neg hn, Int.tdiv_eq_ediv_of_nonneg (by omega)]; congr 1; omega)
    clear hG hD hg1 hg2 h1 h2
    have HS1 := h_ (show ∀ W : World, Calls Tryz.prog 122 #[.int .i64 d] W fun e w' => e = .returned (.int .i64 D) ∧ w' = W from fun W => by
     rw [HD.out]; exact (ref1_size d W (by omega) (by omega)).mono fun _ _ h => ⟨h.1, h.2.symm⟩)
    have HS2 := h_ (show ∀ W : World, Rd W A c l → Calls Tryz.prog 123 #[.slice A l.length c, .int .i64 D] W fun e w' => e = .returned (.int .i64 G) ∧ w' = W from fun W hw => by
     rw [HD.out, HG.out]; exact (ref1_AllI A l c d.natAbs W (by omega) (by omega) HZ.out hw).mono fun _ _ h => ⟨by rw [h.1]; simp, h.2.symm⟩)
    go_enter Tryz.func91, Tryz.ntmps91
    go_wp2_with fail
    refine (ref1_within _ _ _ _ _ (by omega) (by omega) (by exact HR.out.alloc _)).mono ?_
    rintro e w' ⟨rfl, rfl⟩
    rw [HZ.out]
    go_wp2_with fail
    refine (ref1_within1 _ _ _ _ _ (by omega) (by omega) (by exact Rd.new1 _ _ _ _ (by simp))).mono ?_
    rintro e w' ⟨rfl, rfl⟩
    rw [HZ2.out]
    go_wp2_with fail
    refine (HS1.out _).mono ?_
    rintro e w' ⟨rfl, rfl⟩
    go_wp2_with fail
    refine (HS1.out _).mono ?_
    rintro e w' ⟨rfl, rfl⟩
    go_wp2_with fail
    refine (HS2.out _ (by exact (HR.out.alloc _).alloc _)).mono ?_
    rintro e w' ⟨rfl, rfl⟩
    have hz : ¬ G = 0 := by omega
    go_wp2_with fail
    go_loopw [8] (fun i wr => ∃ (k : Nat) (v : Value), k ≤ l.length ∧ i = .int .i64 k ∧ Blk wr (w.heap.size + 1 + 1) 53 #[v, .int .i64 (D / G)] ∧
        wr.ownsRow (w.heap.size + 1 + 1 + 1) 2 1 v k ((divs (l.take k) (sgcd l d)).map (Value.int .i64)) ∧ Below w.heap.size w wr ∧ Blk wr w.heap.size 53 #[.slice none 0 0, .int .i64 0])
        (fun i _ => l.length - (intOf i).toNat)
    case atStart =>
     exact ⟨0, .slice none 0 0, by omega, rfl, Blk.new _ _ _ _ (by simp), World.ownsRow_nil _ _ _ _, (by (repeat (any_goals (first | exact qR _ _ | refine below_drewN ?_ _ | refine qD ?_ | refine qA ?_ ?_ _ | refine qS ?_ ?_ _))); all_goals (first | omega | (simp; done) | (simp; omega))), ((Blk.new w _ _ _ rfl).alloc _).alloc _⟩
    case round =>
     obtain ⟨k, v, hk, rfl, hB, hown, hbel, hRv⟩ := hrel
     by_cases hlt : k < l.length
     ·have HRr := h_ (HR.out.below hbel)
      obtain ⟨ad, rfl, hc1⟩ := HRr.out.at_ hlt
      have hadl := lc_ hc1
      have hp0 : wr.cell? ⟨w.heap.size + 1 + 1, 0, none⟩ = some v := hB.cell 0
      have hp1 : wr.cell? ⟨w.heap.size + 1 + 1, 1, none⟩ = some (.int .i64 (D / G)) := hB.cell 1
      have hpf := hB.frozen 0
      have hpl := hB.lt
      obtain ⟨hs1, hs2⟩ := smallB_at HZ.out hlt
      obtain ⟨hs3, hs4⟩ := tdiv_bound 4611686018427387904 l[k] G (by omega) (by omega)
      have hw2 : IntKind.i64.wrap (l[k].tdiv G) = l[k].tdiv G := IntWalk.i64_in _ (by omega)
      have hi0 : (k : Int) < (l.length : Int) := by omega
      have HB := h_ hB
      have HW := h_ hown
      have HL := h_ hbel
      have HV := h_ hRv
      clear hB hown hbel hRv
      go_wp2_with fail
      go_quiet ((first
       | (go_at_call 122; exact Calls.quiet_of_same (HS1.out _))
       | (go_at_call 123; exact Calls.quiet_of_same (HS2.out _ (HRr.out.drewN _)))))
      by_cases hn : d < 0
      all_goals
       go_wp2_with (at_builtin; refine list_app1 rfl (.tmp 54) (.tmp 56) _ _ _ 8 und_i64s inf_i64 rfl rfl _ v k _ _ rfl ((own_drewN HW.out _).alloc _) _ 1 rfl (cell_new1 _ _ _) rfl (by unfold maxLen; omega) (by omega) (by simp; omega) ?_; intro g cap w1 hown1 hg1 hat hlt1; have hB1 := ((HB.out.drewN nq).alloc _).grown hg1 (own_ne HW.out (by omega)); have hq0 : w1.cell? ⟨w.heap.size + 1 + 1, 0, none⟩ = some v := hB1.cell 0; have hqf := hB1.frozen 0)
       have HB1 := h_ hB1
       have HW1 := h_ hown1
       have HG1 := h_ hg1
       clear hB1 hown1 hg1 hq0 hqf
       go_roundw
       case rel =>
        have hb2 : Below w.heap.size w w1 := ((below_drewN HL.out nq).alloc (by have := HL.out.size; simp; omega) _).grown HG1.out (by have := HL.out.size; simp; omega) (own_ge HW.out (by omega))
        refine ⟨k + 1, _, by omega, by go_num, HB1.out.set0 0 _, ?_, hb2.setCell (by simp; omega) _, ?_⟩
        ·have he : (divs (l.take (k + 1)) (sgcd l d)).map (Value.int .i64) = (divs (l.take k) (sgcd l d)).map (Value.int .i64) ++ [Value.int .i64 (l[k].tdiv (sgcd l d))] := by
           rw [divs_take hlt, List.map_append]; rfl
         rw [he]
         refine ownsRow_setCell_below ?_ (by simp) _
         refine Eq.mp (congrArg (fun q : Int => w1.ownsRow (w.heap.size + 1 + 1 + 1) 2 1 (.slice (some ⟨g, 0, none⟩) (k + 1) cap) (k + 1) ((divs (l.take k) (sgcd l d)).map (Value.int .i64) ++ [Value.int .i64 q])) ?_) HW1.out
         unfold sgcd
         rw [← HG.out]
         first | (rw [if_pos hn, Int.tdiv_neg]) | (rw [if_neg (by omega)])
        ·exact (((HV.out.drewN nq).alloc _).grown HG1.out (own_ne HW.out (by omega))).far _ (by simp; omega)
       case measure => simp [intOf]; omega
     ·obtain rfl : k = l.length := by omega
      rw [List.take_length] at hown
      obtain ⟨A', c', rfl, hRd, hA'⟩ := Rd.of_ownv hown (by rw [length_divs]) (by rw [length_divs]; exact hsm)
      have hp0 : wr.cell? ⟨w.heap.size + 1 + 1, 0, none⟩ = some (.slice A' (divs l (sgcd l d)).length c') := hB.cell 0
      have hp1 : wr.cell? ⟨w.heap.size + 1 + 1, 1, none⟩ = some (.int .i64 (D / G)) := hB.cell 1
      have HL := h_ hbel
      have HRd := h_ hRd
      have HV := h_ hRv
      have HB := h_ hB
      have HA := h_ hA'
      clear hB hown hbel hRv hRd hA'
      go_wp2_with fail
      refine (ref1_MayPoint _ _ _ _ _ HRd.out).mono ?_
      rintro e w1 ⟨rfl, hb1⟩
      have hB1 := HB.out.below hb1 HB.out.lt
      have hV1 := HV.out.below hb1 HV.out.lt
      have hp0' : w1.cell? ⟨w.heap.size + 1 + 1, 0, none⟩ = some (.slice A' (divs l (sgcd l d)).length c') := hB1.cell 0
      have hp1' : w1.cell? ⟨w.heap.size + 1 + 1, 1, none⟩ = some (.int .i64 (D / G)) := hB1.cell 1
      have hr0 : w1.cell? ⟨w.heap.size, 0, none⟩ = some (.slice none 0 0) := hV1.cell 0
      have hr1 : w1.cell? ⟨w.heap.size, 1, none⟩ = some (.int .i64 0) := hV1.cell 1
      have hrf0 := hV1.frozen 0
      have hrf1 := hV1.frozen 1
      have HRd1 := h_ (HRd.out.below hb1)
      have HB1 := h_ hb1
      clear hp0 hp1 hb1 hB1 hV1
      cases hrb : rightB (divs l (sgcd l d)) (d.tdiv (sgcd l d)) with
      | true =>
       have HE := h_ (show ptE l d = 0 by unfold ptE; rw [if_neg (by simp [h0, HZ.out, HZ2.out]), if_pos hrb])
       rw [show mayB (divs l (sgcd l d)) (D / G) = true from by rw [HQ.out]; unfold mayB; rw [hrb, comm_divs l d h0]; rfl]
       clear hrb
       go_wp2_with fail
       refine bodyPost_ret (v := .tuple #[.agg #[.slice A' (divs l (sgcd l d)).length c', .int .i64 (D / G)], .int .i64 0]) (by simp [results, Tryz.results91, go_sem, hr0, hr1]) rfl ?_
       unfold RetPt ptN ptD
       rw [HE.out, if_pos rfl, if_pos rfl, ← HQ.out]
       refine ⟨A', c', rfl, ?_, (by (repeat (any_goals (first | exact qR _ _ | exact HL.out | exact HB1.out | refine below_drewN ?_ _ | refine qD ?_ | refine qA ?_ ?_ _ | refine qS ?_ ?_ _ | refine Below.trans ?_ (Below.mono HL.out ?_) | refine Below.trans ?_ (Below.mono HB1.out ?_)))); all_goals (first | omega | (simp; done) | (simp; omega) | ((try have z0 := HL.out.size); (try simp at z0); (try have z1 := HB1.out.size); (try simp at z1); (try simp); omega))), fun ad e => by have := HA.out ad e; omega⟩
       exact (HRd1.out.setCell_out _ _ (fun ad e => by have := HA.out ad e; simp; omega)).setCell_out _ _ (fun ad e => by have := HA.out ad e; simp; omega)
      | false =>
       have HE := h_ (show ptE l d = 1 by unfold ptE; rw [if_neg (by simp [h0, HZ.out, HZ2.out]), if_neg (by simp [hrb])])
       rw [show mayB (divs l (sgcd l d)) (D / G) = false from by rw [HQ.out]; unfold mayB; rw [hrb]; rfl]
       clear hrb
       go_wp2_with fail
       refine bodyPost_ret (v := .tuple #[.agg #[.slice none 0 0, .int .i64 0], .int .i64 1]) (by simp [results, Tryz.results91, go_sem, hr0, hr1]) rfl ?_
       unfold RetPt ptN ptD
       rw [HE.out, if_neg (by omega), if_neg (by omega)]
       exact ⟨none, 0, rfl, Rd.nil _, (by (repeat (any_goals (first | exact qR _ _ | exact HL.out | exact HB1.out | refine below_drewN ?_ _ | refine qD ?_ | refine qA ?_ ?_ _ | refine qS ?_ ?_ _ | refine Below.trans ?_ (Below.mono HL.out ?_) | refine Below.trans ?_ (Below.mono HB1.out ?_)))); all_goals (first | omega | (simp; done) | (simp; omega) | ((try have z0 := HL.out.size); (try simp at z0); (try have z1 := HB1.out.size); (try simp at z1); (try simp); omega))), fun ad e => by cases e⟩
theorem ref1_Point1 (A : Option Addr) (n : Int) (c : Nat) (d : Int) (w : World) (hr : Rd w A c [n]) :
    Calls Tryz.prog 91 #[.slice A 1 c, .int .i64 d] w (RetPt w (ptN [n] d) (ptD [n] d) (ptE [n] d)) := ref1_Point A [n] c d w hr
theorem ref1_Make (n d : Int) (w : World) :
    Calls Tryz.prog 50 #[.int .i64 n, .int .i64 d] w (RetFr w (frN n d) (ptD [n] d) (ptE [n] d)) := by
 by_cases h0 : ptE [n] d = 0
 ·have HE := h_ h0
  have hN : ptN [n] d = [frN n d] := by
   unfold frN ptN; rw [if_pos h0]; simp [divs]
  have HN := h_ hN
  clear h0 hN
  go_enter Tryz.func50, Tryz.ntmps50
  go_wp2_with fail
  refine (ref1_Point1 _ _ _ _ _ (by exact Rd.new1 _ _ _ _ (by simp))).mono ?_
  rintro e w' ⟨A', c', rfl, hRd, hb, _⟩
  rw [HN.out, HE.out]
  rw [HN.out] at hRd
  obtain ⟨ad, rfl, hc0⟩ := hRd.at_ (k := 0) (by simp)
  have hc1 : w'.cell? ad = some (.int .i64 (frN n d)) := by simpa [Addr.add] using hc0
  have hc2 : ∀ o, (w'.alloc o).cell? ad = some (.int .i64 (frN n d)) := fun o => (World.cell?_alloc_lt w' o ad (lc_ hc1)).trans hc1
  have hV := ((Blk.new w 55 #[.int .i64 0, .int .i64 0] _ rfl).alloc (.cells #[.int .i64 n] 2)).below hb (by simp; omega)
  have hv0 : w'.cell? ⟨w.heap.size, 0, none⟩ = some (.int .i64 0) := hV.cell 0
  have hv1 : w'.cell? ⟨w.heap.size, 1, none⟩ = some (.int .i64 0) := hV.cell 1
  have hf0 := hV.frozen 0
  have hf1 := hV.frozen 1
  have hlt := hV.lt
  have HB := h_ hb
  simp at hc0
  clear hb hRd hV
  go_wp2_with fail
  go_region
  go_wp2_with fail
  refine bodyPost_ret (v := .tuple #[.agg #[.int .i64 (frN n d), .int .i64 (ptD [n] d)], .int .i64 0]) (by simp [results, Tryz.results50, go_sem, hv0, hv1, hlt]) rfl ?_
  exact ⟨by rw [HE.out], (by (repeat (any_goals (first | exact qR _ _ | exact HB.out | refine below_drewN ?_ _ | refine qD ?_ | refine qA ?_ ?_ _ | refine qS ?_ ?_ _ | refine Below.trans ?_ (Below.mono HB.out ?_)))); all_goals (first | omega | (simp; done) | (simp; omega) | ((try have z0 := HB.out.size); (try simp at z0); (try simp); omega)))⟩
 ·have HE := h_ h0
  have hN : ptN [n] d = [] := by unfold ptN; rw [if_neg h0]
  have hD : ptD [n] d = 0 := by unfold ptD; rw [if_neg h0]
  have hF : frN n d = 0 := by unfold frN; rw [hN]; rfl
  rw [hD, hF]
  have HN := h_ hN
  have HD := h_ hD
  clear hN hD hF
  go_enter Tryz.func50, Tryz.ntmps50
  go_wp2_with fail
  refine (ref1_Point1 _ _ _ _ _ (by exact Rd.new1 _ _ _ _ (by simp))).mono ?_
  rintro e w' ⟨A', c', rfl, hRd, hb, _⟩
  rw [HN.out, HD.out]
  have hV := ((Blk.new w 55 #[.int .i64 0, .int .i64 0] _ rfl).alloc (.cells #[.int .i64 n] 2)).below hb (by simp; omega)
  have hv0 : w'.cell? ⟨w.heap.size, 0, none⟩ = some (.int .i64 0) := hV.cell 0
  have hv1 : w'.cell? ⟨w.heap.size, 1, none⟩ = some (.int .i64 0) := hV.cell 1
  have hf0 := hV.frozen 0
  have hf1 := hV.frozen 1
  have hlt := hV.lt
  have HB := h_ hb
  clear hb hRd hV
  go_wp2_with fail
  refine bodyPost_ret (v := .tuple #[.agg #[.int .i64 0, .int .i64 0], .int .i64 (ptE [n] d)]) (by simp [results, Tryz.results50, go_sem, hv0, hv1, hlt]) rfl ?_
  exact ⟨rfl, (by (repeat (any_goals (first | exact qR _ _ | exact HB.out | refine below_drewN ?_ _ | refine qD ?_ | refine qA ?_ ?_ _ | refine qS ?_ ?_ _ | refine Below.trans ?_ (Below.mono HB.out ?_)))); all_goals (first | omega | (simp; done) | (simp; omega) | ((try have z0 := HB.out.size); (try simp at z0); (try simp); omega)))⟩
theorem ref1_Of (n d : Int) (w : World) :
    Calls Tryz.prog 21 #[.int .i64 n, .int .i64 d] w fun e w' => e = .returned (.agg #[.int .i64 (frN n d), .int .i64 (ptD [n] d)]) ∧ Below w.heap.size w w' := by
 go_enter Tryz.func21, Tryz.ntmps21
 go_wp2_with fail
 refine (ref1_Make _ _ _).mono ?_
 rintro e w' ⟨rfl, hb⟩
 have HB := h_ hb
 have hV := (Blk.new w 55 #[.int .i64 0, .int .i64 0] _ rfl).below hb (by simp)
 have hv0 : w'.cell? ⟨w.heap.size, 0, none⟩ = some (.int .i64 0) := hV.cell 0
 have hv1 : w'.cell? ⟨w.heap.size, 1, none⟩ = some (.int .i64 0) := hV.cell 1
 have hf0 := hV.frozen 0
 have hf1 := hV.frozen 1
 have hlt := hV.lt
 clear hb hV
 go_wp2_with fail
 refine bodyPost_ret (v := .agg #[.int .i64 (frN n d), .int .i64 (ptD [n] d)]) (by simp [results, Tryz.results21, go_sem, hv0, hv1, hlt]) rfl ?_
 exact ⟨rfl, (by (repeat (any_goals (first | exact qR _ _ | exact HB.out | refine below_drewN ?_ _ | refine qD ?_ | refine qA ?_ ?_ _ | refine qS ?_ ?_ _ | refine Below.trans ?_ (Below.mono HB.out ?_)))); all_goals (first | omega | (simp; done) | (simp; omega) | ((try have z0 := HB.out.size); (try simp at z0); (try simp); omega)))⟩
end Go.Proofs.YtjcdkbalhleeeaaGreatDoor

namespace Go.Proofs.YtjcdkbalhleeeaaGreatDoor
open Go.RowKit
theorem ref2_Dot (A : Option Addr) (a : List Int) (c : Nat) (B : Option Addr) (b : List Int) (c' : Nat) (X Y : Int) (w : World) (hr : Rd w A c a) (hr' : Rd w B c' b) (hlen : a.length ≤ b.length)
    (hX : 0 ≤ X) (hY : 0 ≤ Y) (ha : smallB X a = true) (hb : smallB Y b = true) (h8 : a.length * (X * Y) ≤ 4611686018427387904) :
    Calls Tryz.prog 22 #[.slice A a.length c, .slice B b.length c'] w fun e w' => e = .returned (.int .i64 (dot a b)) ∧ ∃ n, w' = w.drewN n := by
 have HR := h_ hr
 have HR' := h_ hr'
 obtain ⟨hl, hc, hsm, _⟩ := hr
 obtain ⟨hl', hc', hsm', _⟩ := hr'
 have HA := h_ ha
 have HB := h_ hb
 have HD := h_ (dot_take_bound ha hb hX hY)
 clear ha hb
 go_enter Tryz.func22, Tryz.ntmps22
 go_wp2_with fail
 go_loopw [5, 6] (fun s i wr => ∃ k n : Nat, k ≤ a.length ∧ s = .int .i64 (dot (a.take k) b) ∧ i = .int .i64 k ∧ wr = w.drewN n) (fun _ i _ => a.length - (intOf i).toNat)
 case atStart => exact ⟨0, 0, by omega, rfl, rfl, rfl⟩
 case round =>
  obtain ⟨k, n, hk, rfl, rfl, rfl⟩ := hrel
  by_cases hlt : k < a.length
  ·have hlt' : k < b.length := by omega
   obtain ⟨ad, rfl, hc1⟩ := HR.out.at_ hlt
   obtain ⟨ad', rfl, hc2⟩ := HR'.out.at_ hlt'
   have hi0 : (k : Int) < (b.length : Int) := by omega
   have hi1 : (k : Int) < (a.length : Int) := by omega
   have h1 := HD.out k
   have h2 := HD.out (k + 1)
   have HT := h_ (dot_take hlt hlt')
   rw [HT.out] at h2
   have hx := smallB_at HA.out hlt
   have hy := smallB_at HB.out hlt'
   have h3 := mul_bound _ _ X Y hx.1 hx.2 hy.1 hy.2
   have h4 : X * Y ≤ a.length * (X * Y) := by
    have h0 : (1 : Int) * (X * Y) ≤ a.length * (X * Y) := Int.mul_le_mul_of_nonneg_right (by omega) (Int.mul_nonneg hX hY)
    omega
   obtain ⟨h3a, h3b⟩ := h3
   obtain ⟨h2a, h2b⟩ := h2
   have g1 : IntKind.i64.wrap (a[k] * b[k]) = a[k] * b[k] := IntWalk.i64_in _ (by omega)
   have g3 : IntKind.i64.wrap (dot (a.take k) b + a[k] * b[k]) = dot (a.take k) b + a[k] * b[k] := IntWalk.i64_in _ (by omega)
   clear h3a h3b h1 h2a h2b h4 h8 hx hy
   go_wp2_with fail
   go_quiet (fail)
   clear g1 g3
   go_wp2_with fail
   go_roundw
   case rel => exact ⟨k + 1, _, by omega, by rw [HT.out], by go_num, rfl⟩
   case measure => simp [intOf]; omega
  ·obtain rfl : k = a.length := by omega
   go_wp2_with fail
   go_ret
   exact ⟨ret_int (by simp), _, rfl⟩
end Go.Proofs.YtjcdkbalhleeeaaGreatDoor

namespace Go.Proofs.YtjcdkbalhleeeaaGreatDoor
open Go.RowKit
def minL (n : Int) (l : List Int) : Int := l.foldl (fun a b => if b < a then b else a) n
theorem minL_take {n : Int} {l : List Int} {k : Nat} (h : k < l.length) : minL n (l.take (k + 1)) = if l[k] < minL n (l.take k) then l[k] else minL n (l.take k) := by
 unfold minL; rw [List.take_succ_eq_append_getElem h, List.foldl_append]; rfl
theorem minL_nonneg {n : Int} {l : List Int} : 0 ≤ minL n l ↔ 0 ≤ n ∧ nonneg l = true := by
 induction l generalizing n with
 | nil => simp [minL, nonneg]
 | cons x l ih =>
  have e : minL n (x :: l) = minL (if x < n then x else n) l := rfl
  rw [e, ih]
  simp only [nonneg, List.all_cons, Bool.and_eq_true, decide_eq_true_eq]
  constructor
  ·rintro ⟨h1, h2⟩
   split at h1
   ·exact ⟨by omega, by omega, h2⟩
   ·exact ⟨by omega, by omega, h2⟩
  ·rintro ⟨h1, h2, h3⟩
   exact ⟨by split <;> omega, h3⟩
theorem slices_Min (A : Option Addr) (x : Int) (l : List Int) (c : Nat) (w : World) (hr : Rd w A c (x :: l)) :
    Calls Tryz.prog 92 #[.slice A (x :: l).length c] w fun e w' => e = .returned (.int .i64 (minL x l)) ∧ w' = w := by
 have HR := h_ hr
 obtain ⟨hl, hc, hsm, _⟩ := hr
 obtain ⟨ad, rfl, hc0⟩ := HR.out.at_ (k := 0) (by simp)
 have hc0' : w.cell? ad = some (.int .i64 x) := by simpa [Addr.add] using hc0
 have hpos : 0 < (x :: l).length := by simp
 have HL := h_ (show (x :: l).length = l.length + 1 by simp)
 generalize hn : (x :: l).length = n at *
 have hnl := HL.out
 clear hc0
 obtain rfl : n = l.length + 1 := hnl
 go_enter Tryz.func92, Tryz.ntmps92
 go_wp2_with fail
 go_loop [3, 4] (fun s i => ∃ k : Nat, k ≤ l.length ∧ s = .int .i64 (minL x (l.take k)) ∧ i = .int .i64 ((k : Int) + 1)) (fun _ i => l.length + 1 - (intOf i).toNat)
 case atStart => exact ⟨0, by omega, rfl, rfl⟩
 case round =>
  obtain ⟨k, hk, rfl, rfl⟩ := hrel
  by_cases hlt : k < l.length
  ·obtain ⟨ad', he, hc1⟩ := HR.out.at_ (k := k + 1) (by simp; omega)
   cases he
   have hc2 : w.cell? ⟨ad.block, ad.off + (k + 1), none⟩ = some (.int .i64 l[k]) := by simpa [Addr.add] using hc1
   have HT := h_ (minL_take (n := x) hlt)
   clear hc1
   go_wp2_with fail
   all_goals
    go_round
    case rel => exact ⟨k + 1, by omega, by rw [HT.out]; try (congr 1; (try split) <;> omega), by go_num⟩
    case measure => simp [intOf]; omega
  ·obtain rfl : k = l.length := by omega
   go_wp2_with fail
   go_ret
   exact ⟨ret_int (by simp), rfl⟩
theorem corner_Has (A : Option Addr) (c : Nat) (A2 : Option Addr) (c2 : Nat) (p : PG) (i j : Nat) (w : World) (hp : Pg w A c A2 c2 p) (hm : mayPB p = true) (hi : i < p.rows.length) (hj : j < 1000000) :
    Calls Tryz.prog 47 #[.agg #[.slice A p.costs.length c, .slice A2 p.rows.length c2], .int .i64 i, .int .i64 j] w fun e w' => e = .returned (.int .i64 (hasZ p i j)) ∧ Below w.heap.size w w' := by
 have HP := h_ hp
 obtain ⟨⟨hl, hc, hsm, _⟩, ⟨hl2, hc2, hsm2, _⟩⟩ := hp
 have HM := h_ hm
 clear hm
 by_cases h1 : j < p.costs.length
 ·obtain ⟨ad, A', c', rfl, hd1, hd2, hr⟩ := HP.out.rows.at_ hi
  obtain ⟨hq1, _, _⟩ := mayPB_row HM.out hi
  have hjl : j < p.rows[i].1.length := by omega
  obtain ⟨ad', rfl, he1⟩ := hr.at_ hjl
  have hadl := lc_ hd1
  have hadl' := lc_ he1
  have hv : hasZ p i j = p.rows[i].1[j] := by
   rw [hasZ_var hi h1]; simp [List.getD, List.getElem?_eq_getElem hjl]
  rw [hv]
  clear hv hr hd2 hq1
  have hi0 : (i : Int) < (p.rows.length : Int) := by omega
  have hi1 : (j : Int) < (p.rows[i].1.length : Int) := by omega
  go_enter Tryz.func47, Tryz.ntmps47
  go_wp2_with fail
  go_ret
  exact ⟨rfl, (by (repeat (any_goals (first | exact qR _ _ | refine below_drewN ?_ _ | refine qD ?_ | refine qA ?_ ?_ _ | refine qS ?_ ?_ _))); all_goals (first | omega | (simp; done) | (simp; omega)))⟩
 ·by_cases h2 : j - p.costs.length = i
  ·have hv : hasZ p i j = 1 := by simp [hasZ, h1, h2]
   have hz : (((j : Int) - (p.costs.length : Int)) == (i : Int)) = true := by simp; omega
   rw [hv]
   clear hv h2
   go_enter Tryz.func47, Tryz.ntmps47
   go_wp2_with fail
   go_ret
   exact ⟨rfl, (by (repeat (any_goals (first | exact qR _ _ | refine below_drewN ?_ _ | refine qD ?_ | refine qA ?_ ?_ _ | refine qS ?_ ?_ _))); all_goals (first | omega | (simp; done) | (simp; omega)))⟩
  ·have hv : hasZ p i j = 0 := by simp [hasZ, h1, h2]
   have hz : (((j : Int) - (p.costs.length : Int)) == (i : Int)) = false := by simp; omega
   rw [hv]
   clear hv h2
   go_enter Tryz.func47, Tryz.ntmps47
   go_wp2_with fail
   go_ret
   exact ⟨rfl, (by (repeat (any_goals (first | exact qR _ _ | refine below_drewN ?_ _ | refine qD ?_ | refine qA ?_ ?_ _ | refine qS ?_ ?_ _))); all_goals (first | omega | (simp; done) | (simp; omega)))⟩
end Go.Proofs.YtjcdkbalhleeeaaGreatDoor

namespace Go.Proofs.YtjcdkbalhleeeaaGreatDoor
open Go.RowKit
def lastZ (last : Int) (l : List Int) (k : Nat) : Int := if k = 0 then last else l.getD (k - 1) 0
theorem rising_take {last : Int} {n : Nat} {l : List Int} {k : Nat} (h : k < l.length) : risingB last n (l.take (k + 1)) = (risingB last n (l.take k) && (decide (lastZ last l k < l[k]) && decide (l[k] < n))) := by
 induction l generalizing last k with
 | nil => simp at h
 | cons j l ih =>
  cases k with
  | zero => simp [risingB, lastZ]
  | succ k =>
   simp only [List.take_succ_cons, risingB, List.getElem_cons_succ]
   rw [ih (by simpa using h)]
   have e : lastZ j l k = lastZ last (j :: l) (k + 1) := by
    unfold lastZ
    rw [if_neg (show ¬ k + 1 = 0 by omega)]
    cases k with
    | zero => simp
    | succ k => rw [if_neg (by omega)]; simp
   rw [e]
   simp only [Bool.and_assoc]
theorem rising_pre {last : Int} {n : Nat} {l : List Int} (k : Nat) (h : risingB last n (l.take k) = false) : risingB last n l = false := by
 induction l generalizing last k with
 | nil => simpa using h
 | cons j l ih =>
  cases k with
  | zero => simp [risingB] at h
  | succ k =>
   simp only [List.take_succ_cons, risingB, Bool.and_eq_false_iff] at h ⊢
   rcases h with h | h | h
   ·exact Or.inl h
   ·exact Or.inr (Or.inl h)
   ·exact Or.inr (Or.inr (ih k h))
theorem lastZ_succ {last : Int} {l : List Int} {k : Nat} (h : k < l.length) : lastZ last l (k + 1) = l[k] := by
 unfold lastZ; rw [if_neg (by omega)]; simp [List.getD, List.getElem?_eq_getElem h]
theorem corner_rising (A : Option Addr) (l : List Int) (c : Nat) (n : Nat) (w : World) (hr : Rd w A c l) :
    Calls Tryz.prog 46 #[.slice A l.length c, .int .i64 n] w fun e w' => e = .returned (.bool (risingB (-1) n l)) ∧ w' = w := by
 have HR := h_ hr
 obtain ⟨hl, hc, hsm, _⟩ := hr
 go_enter Tryz.func46, Tryz.ntmps46
 go_wp2_with fail
 go_loop [5, 10] (fun s i => ∃ k : Nat, k ≤ l.length ∧ i = .int .i64 k ∧ s = .int .i64 (lastZ (-1) l k) ∧ risingB (-1) n (l.take k) = true) (fun _ i => l.length - (intOf i).toNat)
 case atStart => exact ⟨0, by omega, rfl, rfl, rfl⟩
 case round =>
  obtain ⟨k, hk, rfl, rfl, hs⟩ := hrel
  have HS := h_ hs
  clear hs
  by_cases hlt : k < l.length
  ·obtain ⟨ad, rfl, hc1⟩ := HR.out.at_ hlt
   have HT := h_ (rising_take (last := -1) (n := n) hlt)
   have HL := h_ (lastZ_succ (last := -1) hlt)
   have HP := h_ (rising_pre (last := -1) (n := n) (l := l) (k + 1))
   generalize lastZ (-1) l k = la at *
   by_cases h1 : l[k] ≤ la
   ·go_wp2_with fail
    go_ret
    exact ⟨ret_bool (by rw [HP.out (by rw [HT.out]; simp; omega)]), rfl⟩
   ·by_cases h2 : l[k] < n
    ·go_wp2_with fail
     go_round
     case rel => exact ⟨k + 1, by omega, by go_num, by rw [HL.out], by rw [HT.out, HS.out]; simp; omega⟩
     case measure => simp [intOf]; omega
    ·go_wp2_with fail
     go_ret
     exact ⟨ret_bool (by rw [HP.out (by rw [HT.out]; simp; omega)]), rfl⟩
  ·obtain rfl : k = l.length := by omega
   go_wp2_with fail
   go_ret
   exact ⟨ret_bool (by have := HS.out; rw [List.take_length] at this; rw [this]), rfl⟩
theorem corner_Cost (A : Option Addr) (c : Nat) (A2 : Option Addr) (c2 : Nat) (p : PG) (j : Nat) (w : World) (hp : Pg w A c A2 c2 p) :
    Calls Tryz.prog 48 #[.agg #[.slice A p.costs.length c, .slice A2 p.rows.length c2], .int .i64 j] w fun e w' => e = .returned (.int .i64 (costZ p j)) ∧ Below w.heap.size w w' := by
 have HP := h_ hp
 obtain ⟨⟨hl, hc, hsm, _⟩, ⟨hl2, hc2, hsm2, _⟩⟩ := hp
 by_cases h1 : j < p.costs.length
 ·obtain ⟨ad, rfl, he1⟩ := HP.out.costs.at_ h1
  have hadl := lc_ he1
  have hv : costZ p j = p.costs[j] := by simp [costZ, h1, List.getD, List.getElem?_eq_getElem h1]
  rw [hv]
  clear hv
  have hi1 : (j : Int) < (p.costs.length : Int) := by omega
  go_enter Tryz.func48, Tryz.ntmps48
  go_wp2_with fail
  go_ret
  exact ⟨rfl, (by (repeat (any_goals (first | exact qR _ _ | refine below_drewN ?_ _ | refine qD ?_ | refine qA ?_ ?_ _ | refine qS ?_ ?_ _))); all_goals (first | omega | (simp; done) | (simp; omega)))⟩
 ·have hv : costZ p j = 0 := by simp [costZ, h1]
  rw [hv]
  clear hv
  go_enter Tryz.func48, Tryz.ntmps48
  go_wp2_with fail
  go_ret
  exact ⟨rfl, (by (repeat (any_goals (first | exact qR _ _ | refine below_drewN ?_ _ | refine qD ?_ | refine qA ?_ ?_ _ | refine qS ?_ ?_ _))); all_goals (first | omega | (simp; done) | (simp; omega)))⟩
end Go.Proofs.YtjcdkbalhleeeaaGreatDoor

namespace Go.Proofs.YtjcdkbalhleeeaaGreatDoor
open Go.RowKit
structure An (w : World) (X : Option Addr) (cx : Nat) (Y : Option Addr) (cy : Nat) (R : Option Addr) (cr : Nat) (a : AN) : Prop where
 x : Rd w X cx a.xs
 y : Rd w Y cy a.ys
 r : Rd w R cr a.rs
section
variable {w w' : World} {X Y R : Option Addr} {cx cy cr : Nat} {a : AN}
end
end Go.Proofs.YtjcdkbalhleeeaaGreatDoor

set_option maxRecDepth 100000
namespace Go.Proofs.YtjcdkbalhleeeaaGreatDoor
open Go.RowKit
def RetCo (w : World) (c : CO) (er : Int) (e : Ending) (w' : World) : Prop :=
 ∃ X cx Y cy G cg, e = .returned (.tuple #[.agg #[.slice X c.xs.length cx, .int .i64 c.xd, .slice Y c.ys.length cy, .int .i64 c.yd, .slice G c.gs.length cg, .int .i64 c.gd], .int .i64 er]) ∧
  Rd w' X cx c.xs ∧ Rd w' Y cy c.ys ∧ Rd w' G cg c.gs ∧ Below w.heap.size w w'
theorem RetCo.none {w w' : World} (er : Int) (hb : Below w.heap.size w w') : RetCo w ⟨[], 0, [], 0, [], 0⟩ er (.returned (.tuple #[.agg #[.slice none 0 0, .int .i64 0, .slice none 0 0, .int .i64 0, .slice none 0 0, .int .i64 0], .int .i64 er])) w' :=
 ⟨Option.none, 0, Option.none, 0, Option.none, 0, rfl, Rd.nil _, Rd.nil _, Rd.nil _, hb⟩
set_option maxHeartbeats 500000 in
theorem look_form (A : Option Addr) (c : Nat) (A2 : Option Addr) (c2 : Nat) (p : PG) (L : Option Addr) (l : List Int) (cl : Nat) (w : World) (hp : Pg w A c A2 c2 p) (hr : Rd w L cl l) (hm : mayPB p = false) :
    Calls Tryz.prog 20 #[.agg #[.slice A p.costs.length c, .slice A2 p.rows.length c2], .slice L l.length cl] w (RetCo w ⟨[], 0, [], 0, [], 0⟩ 2) := by
 have HP := h_ hp
 have HL := h_ hr
 obtain ⟨⟨hl, hc, hsm, _⟩, ⟨hl2, hc2, hsm2, _⟩⟩ := hp
 obtain ⟨hll, hlc, hls, _⟩ := hr
 go_enter Tryz.func20, Tryz.ntmps20
 go_wp2_with fail
 go_quiet (fail)
 go_wp2_with fail
 refine (layout_May _ _ _ _ _ _ (by exact HP.out.below (by (repeat (any_goals (first | exact qR _ _ | refine below_drewN ?_ _ | refine qD ?_ | refine qA ?_ ?_ _ | refine qS ?_ ?_ _))); all_goals (first | omega | (simp; done) | (simp; omega))))).mono ?_
 rintro e w1 ⟨rfl, hb1⟩
 rw [hm]
 have Vr := h_ (show Blk w1 (w.heap.size + 1) 64 #[.slice none 0 0, .int .i64 0, .slice none 0 0, .int .i64 0, .slice none 0 0, .int .i64 0] from Blk.next ((Blk.new _ _ _ _ (by simp)).drewN _) hb1)
 have Vp := h_ (show Blk w1 w.heap.size 28 #[.slice A p.costs.length c, .slice A2 p.rows.length c2] from Blk.next (((Blk.mk' _ _ _).alloc _).drewN _) hb1)
 have HPw := h_ (HP.out.hop (by (repeat (any_goals (first | exact qR _ _ | refine below_drewN ?_ _ | refine qD ?_ | refine qA ?_ ?_ _ | refine qS ?_ ?_ _))); all_goals (first | omega | (simp; done) | (simp; omega))) hb1)
 have HLw := h_ (HL.out.hop (by (repeat (any_goals (first | exact qR _ _ | refine below_drewN ?_ _ | refine qD ?_ | refine qA ?_ ?_ _ | refine qS ?_ ?_ _))); all_goals (first | omega | (simp; done) | (simp; omega))) hb1)
 have HW1 := h_ (show Below w.heap.size w w1 from (by (repeat (any_goals (first | exact qR _ _ | exact hb1 | refine below_drewN ?_ _ | refine qD ?_ | refine qA ?_ ?_ _ | refine qS ?_ ?_ _ | refine Below.trans ?_ (Below.mono hb1 ?_)))); all_goals (first | omega | (simp; done) | (simp; omega) | ((try have z0 := hb1.size); (try simp at z0); (try simp); omega))))
 have z1 := hb1.size
 (try simp only [World.size_alloc, World.size_drew, World.size_setCell, size_drewN'] at z1)
 have lVr := Vr.out.lt
 clear hb1
 have k0 : w1.cell? ⟨w.heap.size + 1, 0, none⟩ = some (.slice none 0 0) := Vr.out.cell 0
 have k1 : w1.cell? ⟨w.heap.size + 1, 1, none⟩ = some (.int .i64 0) := Vr.out.cell 1
 have k2 : w1.cell? ⟨w.heap.size + 1, 2, none⟩ = some (.slice none 0 0) := Vr.out.cell 2
 have k3 : w1.cell? ⟨w.heap.size + 1, 3, none⟩ = some (.int .i64 0) := Vr.out.cell 3
 have k4 : w1.cell? ⟨w.heap.size + 1, 4, none⟩ = some (.slice none 0 0) := Vr.out.cell 4
 have k5 : w1.cell? ⟨w.heap.size + 1, 5, none⟩ = some (.int .i64 0) := Vr.out.cell 5
 have f0 := Vr.out.frozen 0
 have f1 := Vr.out.frozen 1
 have f2 := Vr.out.frozen 2
 have f3 := Vr.out.frozen 3
 have f4 := Vr.out.frozen 4
 have f5 := Vr.out.frozen 5
 go_wp2_with fail
 refine bodyPost_ret (v := .tuple #[.agg #[.slice none 0 0, .int .i64 0, .slice none 0 0, .int .i64 0, .slice none 0 0, .int .i64 0], .int .i64 2]) ?_ ?_ ?_
 ·simp [results, Tryz.results20, go_sem, k0, k1, k2, k3, k4, k5]
 ·rfl
 ·refine RetCo.none 2 ?_
  exact (((((HW1.out.setCell (Nat.le_succ _) _).setCell (Nat.le_succ _) _).setCell (Nat.le_succ _) _).setCell (Nat.le_succ _) _).setCell (Nat.le_succ _) _).setCell (Nat.le_succ _) _
set_option maxHeartbeats 500000 in
theorem look_len (A : Option Addr) (c : Nat) (A2 : Option Addr) (c2 : Nat) (p : PG) (L : Option Addr) (l : List Int) (cl : Nat) (w : World) (hp : Pg w A c A2 c2 p) (hr : Rd w L cl l) (hm : mayPB p = true) (hn : l.length ≠ p.rows.length) :
    Calls Tryz.prog 20 #[.agg #[.slice A p.costs.length c, .slice A2 p.rows.length c2], .slice L l.length cl] w (RetCo w ⟨[], 0, [], 0, [], 0⟩ 3) := by
 have hz : ((l.length : Int) != (p.rows.length : Int)) = true := by simp; omega
 have HP := h_ hp
 have HL := h_ hr
 obtain ⟨⟨hl, hc, hsm, _⟩, ⟨hl2, hc2, hsm2, _⟩⟩ := hp
 obtain ⟨hll, hlc, hls, _⟩ := hr
 go_enter Tryz.func20, Tryz.ntmps20
 go_wp2_with fail
 go_quiet (fail)
 go_wp2_with fail
 refine (layout_May _ _ _ _ _ _ (by exact HP.out.below (by (repeat (any_goals (first | exact qR _ _ | refine below_drewN ?_ _ | refine qD ?_ | refine qA ?_ ?_ _ | refine qS ?_ ?_ _))); all_goals (first | omega | (simp; done) | (simp; omega))))).mono ?_
 rintro e w1 ⟨rfl, hb1⟩
 rw [hm]
 have Vr := h_ (show Blk w1 (w.heap.size + 1) 64 #[.slice none 0 0, .int .i64 0, .slice none 0 0, .int .i64 0, .slice none 0 0, .int .i64 0] from Blk.next ((Blk.new _ _ _ _ (by simp)).drewN _) hb1)
 have Vp := h_ (show Blk w1 w.heap.size 28 #[.slice A p.costs.length c, .slice A2 p.rows.length c2] from Blk.next (((Blk.mk' _ _ _).alloc _).drewN _) hb1)
 have HPw := h_ (HP.out.hop (by (repeat (any_goals (first | exact qR _ _ | refine below_drewN ?_ _ | refine qD ?_ | refine qA ?_ ?_ _ | refine qS ?_ ?_ _))); all_goals (first | omega | (simp; done) | (simp; omega))) hb1)
 have HLw := h_ (HL.out.hop (by (repeat (any_goals (first | exact qR _ _ | refine below_drewN ?_ _ | refine qD ?_ | refine qA ?_ ?_ _ | refine qS ?_ ?_ _))); all_goals (first | omega | (simp; done) | (simp; omega))) hb1)
 have HW1 := h_ (show Below w.heap.size w w1 from (by (repeat (any_goals (first | exact qR _ _ | exact hb1 | refine below_drewN ?_ _ | refine qD ?_ | refine qA ?_ ?_ _ | refine qS ?_ ?_ _ | refine Below.trans ?_ (Below.mono hb1 ?_)))); all_goals (first | omega | (simp; done) | (simp; omega) | ((try have z0 := hb1.size); (try simp at z0); (try simp); omega))))
 have z1 := hb1.size
 (try simp only [World.size_alloc, World.size_drew, World.size_setCell, size_drewN'] at z1)
 have lVr := Vr.out.lt
 clear hb1
 have k0 : w1.cell? ⟨w.heap.size + 1, 0, none⟩ = some (.slice none 0 0) := Vr.out.cell 0
 have k1 : w1.cell? ⟨w.heap.size + 1, 1, none⟩ = some (.int .i64 0) := Vr.out.cell 1
 have k2 : w1.cell? ⟨w.heap.size + 1, 2, none⟩ = some (.slice none 0 0) := Vr.out.cell 2
 have k3 : w1.cell? ⟨w.heap.size + 1, 3, none⟩ = some (.int .i64 0) := Vr.out.cell 3
 have k4 : w1.cell? ⟨w.heap.size + 1, 4, none⟩ = some (.slice none 0 0) := Vr.out.cell 4
 have k5 : w1.cell? ⟨w.heap.size + 1, 5, none⟩ = some (.int .i64 0) := Vr.out.cell 5
 have f0 := Vr.out.frozen 0
 have f1 := Vr.out.frozen 1
 have f2 := Vr.out.frozen 2
 have f3 := Vr.out.frozen 3
 have f4 := Vr.out.frozen 4
 have f5 := Vr.out.frozen 5
 go_wp2_with fail
 refine bodyPost_ret (v := .tuple #[.agg #[.slice none 0 0, .int .i64 0, .slice none 0 0, .int .i64 0, .slice none 0 0, .int .i64 0], .int .i64 3]) ?_ ?_ ?_
 ·simp [results, Tryz.results20, go_sem, k0, k1, k2, k3, k4, k5]
 ·rfl
 ·refine RetCo.none 3 ?_
  exact (((((HW1.out.setCell (Nat.le_succ _) _).setCell (Nat.le_succ _) _).setCell (Nat.le_succ _) _).setCell (Nat.le_succ _) _).setCell (Nat.le_succ _) _).setCell (Nat.le_succ _) _
set_option maxHeartbeats 500000 in
theorem look_rise (A : Option Addr) (c : Nat) (A2 : Option Addr) (c2 : Nat) (p : PG) (L : Option Addr) (l : List Int) (cl : Nat) (w : World) (hp : Pg w A c A2 c2 p) (hr : Rd w L cl l) (hm : mayPB p = true) (hn : l.length = p.rows.length) (hri : risingB (-1) (p.costs.length + p.rows.length) l = false) :
    Calls Tryz.prog 20 #[.agg #[.slice A p.costs.length c, .slice A2 p.rows.length c2], .slice L l.length cl] w (RetCo w ⟨[], 0, [], 0, [], 0⟩ 3) := by
 have hz : ((l.length : Int) != (p.rows.length : Int)) = false := by simp; omega
 have HRI := h_ hri
 have h4 := (mayPB_iff.1 hm).2.2.2.1
 have h4' := (mayPB_iff.1 hm).2.1
 clear hn hri
 have HP := h_ hp
 have HL := h_ hr
 obtain ⟨⟨hl, hc, hsm, _⟩, ⟨hl2, hc2, hsm2, _⟩⟩ := hp
 obtain ⟨hll, hlc, hls, _⟩ := hr
 go_enter Tryz.func20, Tryz.ntmps20
 go_wp2_with fail
 go_quiet (fail)
 go_wp2_with fail
 refine (layout_May _ _ _ _ _ _ (by exact HP.out.below (by (repeat (any_goals (first | exact qR _ _ | refine below_drewN ?_ _ | refine qD ?_ | refine qA ?_ ?_ _ | refine qS ?_ ?_ _))); all_goals (first | omega | (simp; done) | (simp; omega))))).mono ?_
 rintro e w1 ⟨rfl, hb1⟩
 rw [hm]
 have Vr := h_ (show Blk w1 (w.heap.size + 1) 64 #[.slice none 0 0, .int .i64 0, .slice none 0 0, .int .i64 0, .slice none 0 0, .int .i64 0] from Blk.next ((Blk.new _ _ _ _ (by simp)).drewN _) hb1)
 have Vp := h_ (show Blk w1 w.heap.size 28 #[.slice A p.costs.length c, .slice A2 p.rows.length c2] from Blk.next (((Blk.mk' _ _ _).alloc _).drewN _) hb1)
 have HPw := h_ (HP.out.hop (by (repeat (any_goals (first | exact qR _ _ | refine below_drewN ?_ _ | refine qD ?_ | refine qA ?_ ?_ _ | refine qS ?_ ?_ _))); all_goals (first | omega | (simp; done) | (simp; omega))) hb1)
 have HLw := h_ (HL.out.hop (by (repeat (any_goals (first | exact qR _ _ | refine below_drewN ?_ _ | refine qD ?_ | refine qA ?_ ?_ _ | refine qS ?_ ?_ _))); all_goals (first | omega | (simp; done) | (simp; omega))) hb1)
 have HW1 := h_ (show Below w.heap.size w w1 from (by (repeat (any_goals (first | exact qR _ _ | exact hb1 | refine below_drewN ?_ _ | refine qD ?_ | refine qA ?_ ?_ _ | refine qS ?_ ?_ _ | refine Below.trans ?_ (Below.mono hb1 ?_)))); all_goals (first | omega | (simp; done) | (simp; omega) | ((try have z0 := hb1.size); (try simp at z0); (try simp); omega))))
 have z1 := hb1.size
 (try simp only [World.size_alloc, World.size_drew, World.size_setCell, size_drewN'] at z1)
 have lVr := Vr.out.lt
 clear hb1
 have k0 : w1.cell? ⟨w.heap.size + 1, 0, none⟩ = some (.slice none 0 0) := Vr.out.cell 0
 have k1 : w1.cell? ⟨w.heap.size + 1, 1, none⟩ = some (.int .i64 0) := Vr.out.cell 1
 have k2 : w1.cell? ⟨w.heap.size + 1, 2, none⟩ = some (.slice none 0 0) := Vr.out.cell 2
 have k3 : w1.cell? ⟨w.heap.size + 1, 3, none⟩ = some (.int .i64 0) := Vr.out.cell 3
 have k4 : w1.cell? ⟨w.heap.size + 1, 4, none⟩ = some (.slice none 0 0) := Vr.out.cell 4
 have k5 : w1.cell? ⟨w.heap.size + 1, 5, none⟩ = some (.int .i64 0) := Vr.out.cell 5
 have f0 := Vr.out.frozen 0
 have f1 := Vr.out.frozen 1
 have f2 := Vr.out.frozen 2
 have f3 := Vr.out.frozen 3
 have f4 := Vr.out.frozen 4
 have f5 := Vr.out.frozen 5
 go_wp2_with fail
 refine (show Calls Tryz.prog 46 #[.slice L l.length cl, .int .i64 ((p.costs.length : Int) + (p.rows.length : Int))] w1 fun e w' => e = .returned (.bool false) ∧ w' = w1 from by
  rw [← HRI.out, ← Int.natCast_add]; exact corner_rising _ _ _ _ _ HLw.out).mono ?_
 rintro e w2 ⟨rfl, rfl⟩
 go_wp2_with fail
 refine bodyPost_ret (v := .tuple #[.agg #[.slice none 0 0, .int .i64 0, .slice none 0 0, .int .i64 0, .slice none 0 0, .int .i64 0], .int .i64 3]) ?_ ?_ ?_
 ·simp [results, Tryz.results20, go_sem, k0, k1, k2, k3, k4, k5]
 ·rfl
 ·refine RetCo.none 3 ?_
  exact (((((HW1.out.setCell (Nat.le_succ _) _).setCell (Nat.le_succ _) _).setCell (Nat.le_succ _) _).setCell (Nat.le_succ _) _).setCell (Nat.le_succ _) _).setCell (Nat.le_succ _) _
end Go.Proofs.YtjcdkbalhleeeaaGreatDoor

namespace Go.Proofs.YtjcdkbalhleeeaaGreatDoor
open Go.RowKit
structure Mat (w : World) (O : Nat) (g c : Nat → Nat) (m n : Nat) (M : Nat → Nat → Int) : Prop where
 out : ∀ i, i < m → w.cell? ⟨O, i, none⟩ = some (.slice (some ⟨g i, 0, none⟩) n (c i))
 ofree : ∀ i, i < m → w.frozen? ⟨O, i, none⟩ = false
 row : ∀ i j, i < m → j < n → w.cell? ⟨g i, j, none⟩ = some (.int .i64 (M i j))
 free : ∀ i j, i < m → j < n → w.frozen? ⟨g i, j, none⟩ = false
 le : ∀ i, i < m → n ≤ c i ∧ c i ≤ 9223372036854775807
 inj : ∀ i j, i < m → j < m → g i = g j → i = j
 ne : ∀ i, i < m → g i ≠ O
 lt : ∀ i, i < m → g i < w.heap.size
 olt : O < w.heap.size
structure Turned (S : Nat → Prop) (w w' : World) : Prop where
 os : w'.os = w.os
 tape : w'.tape = w.tape
 output : w'.output = w.output
 size : w.heap.size ≤ w'.heap.size
 block : ∀ k, k < w.heap.size → ¬ S k → w'.heap[k]? = w.heap[k]?
theorem Turned.refl (S : Nat → Prop) (w : World) : Turned S w w := ⟨rfl, rfl, rfl, Nat.le_refl _, fun _ _ _ => rfl⟩
theorem Turned.trans {S : Nat → Prop} {a b c : World} (h : Turned S a b) (k : Turned S b c) : Turned S a c :=
 ⟨k.os.trans h.os, k.tape.trans h.tape, k.output.trans h.output, Nat.le_trans h.size k.size, fun i hi hs => (k.block i (Nat.lt_of_lt_of_le hi h.size) hs).trans (h.block i hi hs)⟩
theorem Turned.drew {S : Nat → Prop} {a w : World} (h : Turned S a w) : Turned S a w.drew := ⟨h.os, h.tape, h.output, h.size, h.block⟩
theorem Turned.setCell {S : Nat → Prop} {a w : World} (h : Turned S a w) {p : Addr} (hp : S p.block) (u : Value) : Turned S a (w.setCell p u) :=
 h.trans ⟨rfl, rfl, rfl, by simp [World.setCell], fun k _ hs => Below.heap_setCell _ _ _ _ (fun e => hs (e ▸ hp))⟩
theorem Turned.of_below {S : Nat → Prop} {a b : World} (h : Below a.heap.size a b) : Turned S a b := ⟨h.os, h.tape, h.output, h.size, fun k hk _ => h.block k hk⟩
theorem Turned.below {S : Nat → Prop} {a b : World} (h : Turned S a b) {B : Nat} (hB : B ≤ a.heap.size) (hS : ∀ k, S k → B ≤ k) : Below B a b :=
 ⟨h.os, h.tape, h.output, h.size, fun k hk => h.block k (by omega) (fun q => by have := hS k q; omega)⟩
section
variable {w w' : World} {O : Nat} {g c : Nat → Nat} {m n : Nat} {M : Nat → Nat → Int}
theorem Mat.congr (h : Mat w O g c m n M) {M' : Nat → Nat → Int} (e : ∀ i j, i < m → j < n → M i j = M' i j) : Mat w O g c m n M' :=
 ⟨h.out, h.ofree, fun i j hi hj => by rw [← e i j hi hj]; exact h.row i j hi hj, h.free, h.le, h.inj, h.ne, h.lt, h.olt⟩
theorem Mat.drew (h : Mat w O g c m n M) : Mat w.drew O g c m n M := ⟨h.out, h.ofree, h.row, h.free, h.le, h.inj, h.ne, h.lt, h.olt⟩
theorem Mat.below (h : Mat w O g c m n M) (hb : Below w.heap.size w w') : Mat w' O g c m n M :=
 ⟨fun i hi => (hb.cell (p := ⟨O, i, none⟩) h.olt).trans (h.out i hi), fun i hi => (hb.frozen (p := ⟨O, i, none⟩) h.olt).trans (h.ofree i hi),
  fun i j hi hj => (hb.cell (p := ⟨g i, j, none⟩) (h.lt i hi)).trans (h.row i j hi hj), fun i j hi hj => (hb.frozen (p := ⟨g i, j, none⟩) (h.lt i hi)).trans (h.free i j hi hj),
  h.le, h.inj, h.ne, fun i hi => Nat.lt_of_lt_of_le (h.lt i hi) hb.size, Nat.lt_of_lt_of_le h.olt hb.size⟩
theorem Mat.put (h : Mat w O g c m n M) {i j : Nat} (hi : i < m) (hj : j < n) (z : Int) : Mat (w.setCell ⟨g i, j, none⟩ (.int .i64 z)) O g c m n (fun i' j' => if i' = i ∧ j' = j then z else M i' j') := by
 refine ⟨fun i' hi' => ?_, fun i' hi' => ?_, fun i' j' hi' hj' => ?_, fun i' j' hi' hj' => ?_, h.le, h.inj, h.ne, fun i' hi' => by simpa using h.lt i' hi', by simpa using h.olt⟩
 ·rw [World.cell?_setCell_other w _ _ _ (fun e => h.ne i hi (by injection e with e1))]; exact h.out i' hi'
 ·rw [World.frozen?_setCell]; exact h.ofree i' hi'
 ·by_cases e : i' = i ∧ j' = j
  ·obtain ⟨rfl, rfl⟩ := e
   rw [if_pos ⟨rfl, rfl⟩]
   exact World.cell?_setCell_same' w _ _ (by rw [h.row _ _ hi' hj']; rfl)
  ·rw [if_neg e, World.cell?_setCell_other w _ _ _ (fun q => e (by injection q with q1 q2; exact ⟨(h.inj _ _ hi hi' (by omega)).symm, by omega⟩))]
   exact h.row i' j' hi' hj'
 ·rw [World.frozen?_setCell]; exact h.free i' j' hi' hj'
theorem sw_lt {k a m i : Nat} (hk : k < m) (ha : a < m) (hi : i < m) : sw k a i < m := by unfold sw; split; exact ha; split; exact hk; exact hi
theorem sw_inj {k a i j : Nat} (h : sw k a i = sw k a j) : i = j := by unfold sw at h; split at h <;> split at h <;> (try split at h) <;> (try split at h) <;> omega
theorem Mat.swap (h : Mat w O g c m n M) {k a : Nat} (hk : k < m) (ha : a < m) (hka : k ≠ a) :
    Mat ((w.setCell ⟨O, k, none⟩ (.slice (some ⟨g a, 0, none⟩) n (c a))).setCell ⟨O, a, none⟩ (.slice (some ⟨g k, 0, none⟩) n (c k))) O (fun i => g (sw k a i)) (fun i => c (sw k a i)) m n (fun i j => M (sw k a i) j) := by
 refine ⟨fun i hi => ?_, fun i hi => ?_, fun i j hi hj => ?_, fun i j hi hj => ?_, fun i hi => h.le _ (sw_lt hk ha hi), fun i j hi hj e => sw_inj (h.inj _ _ (sw_lt hk ha hi) (sw_lt hk ha hj) e), fun i hi => h.ne _ (sw_lt hk ha hi), fun i hi => by simpa using h.lt _ (sw_lt hk ha hi), by simpa using h.olt⟩
 ·have hc : ((w.setCell ⟨O, k, none⟩ (.slice (some ⟨g a, 0, none⟩) n (c a))).cell? ⟨O, a, none⟩).isSome = true := by
    rw [World.cell?_setCell_other w _ _ _ (fun e => hka (by injection e)), h.out a ha]; rfl
  by_cases e1 : i = a
  ·subst e1
   rw [World.cell?_setCell_same' _ _ _ hc]
   unfold sw; rw [if_neg (by omega), if_pos rfl]
  ·rw [World.cell?_setCell_other _ _ _ _ (fun e => e1 (by injection e with _ e2; omega))]
   by_cases e2 : i = k
   ·subst e2
    rw [World.cell?_setCell_same' w _ _ (by rw [h.out i hi]; rfl)]
    unfold sw; rw [if_pos rfl]
   ·rw [World.cell?_setCell_other _ _ _ _ (fun e => e2 (by injection e with _ e3; omega)), h.out i hi]
    unfold sw; rw [if_neg e2, if_neg e1]
 ·rw [World.frozen?_setCell, World.frozen?_setCell]; exact h.ofree i hi
 ·have hn := h.ne _ (sw_lt hk ha hi)
  rw [World.cell?_setCell_other _ _ _ _ (fun e => hn (by injection e with e1; exact e1.symm)), World.cell?_setCell_other _ _ _ _ (fun e => hn (by injection e with e1; exact e1.symm))]
  exact h.row _ j (sw_lt hk ha hi) hj
 ·rw [World.frozen?_setCell, World.frozen?_setCell]; exact h.free _ j (sw_lt hk ha hi) hj
end
end Go.Proofs.YtjcdkbalhleeeaaGreatDoor

namespace Go.Proofs.YtjcdkbalhleeeaaGreatDoor
open Go.RowKit
section
variable {ops : Array Oper} {rest : List Oper} {o : Oper} {a : Act} {w : World} {Q : Exit → Act → World → Prop}
end
theorem und_rows : Tryz.prog.underlying 115 = some (.slice 25) := by kernel_rfl
theorem inf_ints : (Tryz.prog.info? 25).map (fun i => (i.zero, i.size, i.bytes)) = some (some (.slice none 0 0), 1, 24) := by kernel_rfl
theorem addz (b j : Nat) : (⟨b, 0, none⟩ : Addr).add j = ⟨b, j, none⟩ := by unfold Addr.add; split <;> simp_all
structure Rm (w : World) (A : Option Addr) (c : Nat) (rs : List (List Int)) : Prop where
 le : rs.length ≤ c
 cap : c ≤ 9223372036854775807
 cells : 0 < rs.length → ∃ ad, A = some ad ∧ ∀ (j : Nat) (hj : j < rs.length), ∃ A' c', w.cell? (ad.add j) = some (.slice A' rs[j].length c') ∧ Rd w A' c' rs[j]
section
variable {w w' : World} {A : Option Addr} {c : Nat} {rs : List (List Int)}
end
end Go.Proofs.YtjcdkbalhleeeaaGreatDoor

namespace Go.Proofs.YtjcdkbalhleeeaaGreatDoor
open Go.RowKit
section
variable {w w' : World} {base k : Nat} {v : Value} {rs : List (List Int)}
end
def sg : Nat → Int
 | 0 => 1
 | k + 1 => 0 - sg k
end Go.Proofs.YtjcdkbalhleeeaaGreatDoor

namespace Go.Proofs.YtjcdkbalhleeeaaGreatDoor
open Go.RowKit
section
variable {w w' : World} {base n : Nat} {e : TypeId} {v : Value} {xs : List Value}
theorem own_same (h : w.ownsRow base e 1 v n xs) (hs : ∀ b, v.ownBlock = some b → w'.heap[b]? = w.heap[b]?) : w'.ownsRow base e 1 v n xs := by
 refine ⟨h.1, ?_⟩
 rcases h.2 with q | ⟨g, cap, cur, rfl, hb, hg, r⟩
 ·exact .inl q
 ·exact .inr ⟨g, cap, cur, rfl, hb, (hs g rfl).trans hg, r⟩
theorem own_weak {base' : Nat} (h : w.ownsRow base e 1 v n xs) (hb : base' ≤ base) : w.ownsRow base' e 1 v n xs := by
 refine ⟨h.1, ?_⟩
 rcases h.2 with q | ⟨g, cap, cur, rfl, hb', hg, r⟩
 ·exact .inl q
 ·exact .inr ⟨g, cap, cur, rfl, by omega, hg, r⟩
theorem own_cell' {g cap : Nat} (h : w.ownsRow base e 1 (.slice (some ⟨g, 0, none⟩) n cap) n xs) (j : Nat) (u : Value) (hu : xs[j]? = some u) : w.cell? ⟨g, j, none⟩ = some u := by
 have := h.cells (g := g) rfl j u hu
 rwa [addz] at this
theorem own_free' {g cap : Nat} (h : w.ownsRow base e 1 (.slice (some ⟨g, 0, none⟩) n cap) n xs) (j : Nat) : w.frozen? ⟨g, j, none⟩ = false := by
 rcases h.2 with ⟨e, _⟩ | ⟨g', cap', cur, e, hb, hg, _⟩
 ·injection e with e1; cases e1
 ·injection e with e1
  injection e1 with e1; injection e1 with e1
  subst e1
  exact Blk.frozen (w := w) hg j
theorem own_caps {g cap : Nat} (h : w.ownsRow base e 1 (.slice (some ⟨g, 0, none⟩) n cap) n xs) : n ≤ cap ∧ cap ≤ 9223372036854775807 := by
 rcases h.2 with ⟨e, _⟩ | ⟨g', cap', cur, e, hb, hg, h1, h2, _⟩
 ·injection e with e1; cases e1
 ·injection e with e1 e2 e3
  subst e3
  exact ⟨h1, by unfold maxLen at h2; omega⟩
theorem own_some (h : w.ownsRow base e 1 v n xs) (hn : n ≠ 0) : ∃ g c, v = .slice (some ⟨g, 0, none⟩) n c := by
 rcases h.2 with ⟨_, q⟩ | ⟨g, cap, cur, q, _⟩
 ·exact absurd q hn
 ·exact ⟨g, cap, q⟩
theorem own_put {g cap : Nat} (h : w.ownsRow base e 1 (.slice (some ⟨g, 0, none⟩) n cap) n xs) (k : Nat) (u : Value) :
    (w.setCell ⟨g, k, none⟩ u).ownsRow base e 1 (.slice (some ⟨g, 0, none⟩) n cap) n (xs.set k u) := by
 obtain ⟨hx, hr⟩ := h
 refine ⟨by simpa using hx, Or.inr ?_⟩
 rcases hr with ⟨q, _⟩ | ⟨g', cap', cur, q, hb, hg, hnc, hcm, hcs, htake⟩
 ·injection q with e1; cases e1
 ·injection q with e1 e2 e3
  injection e1 with e1; injection e1 with e1
  subst e1 e3
  refine ⟨g, cap, cur.setIfInBounds k u, rfl, hb, ?_, hnc, hcm, by simpa using hcs, ?_⟩
  ·exact Blk.set0 (w := w) (t := e) hg k _
  ·rw [Array.toList_setIfInBounds, List.take_set, htake]
end
structure RowsM (w : World) (base : Nat) (v : Value) (k n : Nat) (g c : Nat → Nat) (M : Nat → Nat → Int) : Prop where
 own : w.ownsRow base 25 1 v k ((List.range k).map fun i => Value.slice (some ⟨g i, 0, none⟩) n (c i))
 row : ∀ i, i < k → w.ownsRow base 2 1 (.slice (some ⟨g i, 0, none⟩) n (c i)) n ((List.range n).map fun j => Value.int .i64 (M i j))
 inj : ∀ i j, i < k → j < k → g i = g j → i = j
 ne : ∀ i, i < k → v.ownBlock ≠ some (g i)
def rowsS (v : Value) (k : Nat) (g : Nat → Nat) (b : Nat) : Prop := v.ownBlock = some b ∨ ∃ i, i < k ∧ g i = b
section
variable {w w' : World} {base k n : Nat} {v : Value} {g c : Nat → Nat} {M : Nat → Nat → Int}
theorem RowsM.nil (w : World) (base n : Nat) (g c : Nat → Nat) (M : Nat → Nat → Int) : RowsM w base (.slice none 0 0) 0 n g c M :=
 ⟨World.ownsRow_nil _ _ _ _, fun i hi => by omega, fun i j hi => by omega, fun i hi => by omega⟩
theorem RowsM.lt (h : RowsM w base v k n g c M) {b : Nat} (hb : rowsS v k g b) : base ≤ b ∧ b < w.heap.size := by
 rcases hb with hb | ⟨i, hi, rfl⟩
 ·exact h.own.lt b hb
 ·exact (h.row i hi).lt (g i) rfl
theorem RowsM.same (h : RowsM w base v k n g c M) (hs : ∀ b, rowsS v k g b → w'.heap[b]? = w.heap[b]?) : RowsM w' base v k n g c M :=
 ⟨own_same h.own fun b hb => hs b (.inl hb), fun i hi => own_same (h.row i hi) fun b hb => hs b (.inr ⟨i, hi, by injection hb⟩), h.inj, h.ne⟩
theorem RowsM.below (h : RowsM w base v k n g c M) {B : Nat} (hb : Below B w w') (hB : w.heap.size ≤ B) : RowsM w' base v k n g c M :=
 h.same fun b hb' => hb.block b (by have := h.lt hb'; omega)
theorem RowsM.grown (h : RowsM w base v k n g c M) {row : Option Nat} (hg : w.grownBy w' row) (hr : ∀ b, row = some b → ¬ rowsS v k g b) : RowsM w' base v k n g c M :=
 h.same fun b hb => hg.block b (h.lt hb).2 fun q => hr b q.symm hb
theorem RowsM.push (h : RowsM w base v k n g c M) {r cr o cap : Nat}
    (hr : w.ownsRow base 2 1 (.slice (some ⟨r, 0, none⟩) n cr) n ((List.range n).map fun j => Value.int .i64 (M k j))) (hn : ¬ rowsS v k g r)
    (hown : w'.ownsRow base 25 1 (.slice (some ⟨o, 0, none⟩) (k + 1) cap) (k + 1) (((List.range k).map fun i => Value.slice (some ⟨g i, 0, none⟩) n (c i)) ++ [.slice (some ⟨r, 0, none⟩) n cr]))
    (hg : w.grownBy w' v.ownBlock) (hat : v.ownBlock = some o ∨ o = w.heap.size) :
    RowsM w' base (.slice (some ⟨o, 0, none⟩) (k + 1) cap) (k + 1) n (fun i => if i = k then r else g i) (fun i => if i = k then cr else c i) M := by
 have hlt : r < w.heap.size := (hr.lt r rfl).2
 have ho : ∀ i, i < k → o ≠ g i := fun i hi e => by
  rcases hat with q | q
  ·exact h.ne i hi (by rw [q, e])
  ·have := ((h.row i hi).lt (g i) rfl).2; omega
 have hor : o ≠ r := fun e => by
  rcases hat with q | q
  ·exact hn (.inl (by rw [q, e]))
  ·omega
 refine ⟨?_, fun i hi => ?_, fun i j hi hj e => ?_, fun i hi => ?_⟩
 ·have e1 : ((List.range (k + 1)).map fun i => Value.slice (some ⟨if i = k then r else g i, 0, none⟩) n (if i = k then cr else c i)) = ((List.range k).map fun i => Value.slice (some ⟨g i, 0, none⟩) n (c i)) ++ [.slice (some ⟨r, 0, none⟩) n cr] := by
    rw [List.range_succ, List.map_append]
    congr 1
    ·apply List.map_congr_left
     intro i hi
     have : i < k := by simpa using hi
     rw [if_neg (by omega), if_neg (by omega)]
    ·simp
  show w'.ownsRow base 25 1 _ _ ((List.range (k + 1)).map fun i => Value.slice (some ⟨if i = k then r else g i, 0, none⟩) n (if i = k then cr else c i))
  rw [e1]; exact hown
 ·by_cases e : i = k
  ·subst e
   simp only [if_true]
   exact own_same hr fun b hb => hg.block b (hr.lt b hb).2 fun q => hn (.inl (q.symm.trans hb.symm))
  ·simp only [e, if_false]
   have hik : i < k := by omega
   exact own_same (h.row i hik) fun b hb => hg.block b ((h.row i hik).lt b hb).2 fun q => h.ne i hik (q.symm.trans hb.symm)
 ·by_cases e1 : i = k <;> by_cases e2 : j = k <;> simp only [e1, e2, if_true, if_false] at e
  ·omega
  ·exact absurd (.inr ⟨j, by omega, e.symm⟩) hn
  ·exact absurd (.inr ⟨i, by omega, e⟩) hn
  ·exact h.inj i j (by omega) (by omega) e
 ·show (some o : Option Nat) ≠ some (if i = k then r else g i)
  intro q
  injection q with q
  by_cases e : i = k
  ·rw [if_pos e] at q; exact hor q
  ·rw [if_neg e] at q; exact ho i (by omega) q
theorem RowsM.S_push {r o cap : Nat} {b : Nat} (hb : rowsS (.slice (some ⟨o, 0, none⟩) (k + 1) cap) (k + 1) (fun i => if i = k then r else g i) b) : b = o ∨ b = r ∨ rowsS v k g b := by
 rcases hb with hb | ⟨i, hi, rfl⟩
 ·left; exact (Option.some.inj hb).symm
 ·by_cases e : i = k
  ·right; left; simp [e]
  ·right; right; exact .inr ⟨i, by omega, by simp [e]⟩
theorem RowsM.mat {O cap m : Nat} (h : RowsM w base (.slice (some ⟨O, 0, none⟩) m cap) m n g c M) : Mat w O g c m n M :=
 ⟨fun i hi => own_cell' h.own i _ (by simp [hi]), fun i _ => own_free' h.own i, fun i j hi hj => own_cell' (h.row i hi) j _ (by simp [hj]), fun i j hi _ => own_free' (h.row i hi) j,
  fun i hi => own_caps (h.row i hi), h.inj, fun i hi e => h.ne i hi (by show some O = _; rw [e]), fun i hi => ((h.row i hi).lt (g i) rfl).2, (h.own.lt O rfl).2⟩
end
theorem und_i64s' : Tryz.prog.underlying 25 = some (.slice 2) := by kernel_rfl
set_option maxRecDepth 100000 in
theorem made_i64 (w : World) (n : Nat) (z : Int) (hz : z = n) (hn : n ≤ 1000) : (Instr.makeSlice 25 (.int .i64 z) (.int .i64 z)).run Tryz.prog w = .ok (.slice (some ⟨w.heap.size, 0, none⟩) n n) (w.alloc (.cells (Array.replicate n (Value.int .i64 0)) 2)) := by
 subst hz
 obtain ⟨i, hi, hz0, hz1, hz2⟩ := info_parts inf_i64
 have := run_make (P := Tryz.prog) w 25 2 i _ und_i64s' hi hz0 .i64 .i64 n n (by omega) (Int.le_refl _) (by rw [hz2]; omega) (by omega)
 rw [this, hz1]
 simp only [Int.toNat_natCast, Nat.mul_one]
 congr 3
 simp only [madeCells, Value.cells]
 apply Array.ext_getElem?
 intro j
 by_cases hj : j < n
 ·simp [hj, Nat.mod_one]
 ·simp [hj]
theorem own_made (w : World) (base n g : Nat) (hg : g = w.heap.size) (hb : base ≤ g) (hn : n ≤ 1000) : (w.alloc (.cells (Array.replicate n (Value.int .i64 0)) 2)).ownsRow base 2 1 (.slice (some ⟨g, 0, none⟩) n n) n ((List.replicate n (0 : Int)).map (Value.int .i64)) := by
 subst hg
 refine ⟨by simp, Or.inr ⟨_, n, _, rfl, hb, heap_alloc_new w _, Nat.le_refl _, by unfold maxLen; omega, by simp, by simp⟩⟩
end Go.Proofs.YtjcdkbalhleeeaaGreatDoor

namespace Go.Proofs.YtjcdkbalhleeeaaGreatDoor
open Go.RowKit
theorem und_rowsT : Tryz.prog.underlying 26 = some (.slice 91) := by kernel_rfl
theorem inf_rowT : (Tryz.prog.info? 91).map (fun i => (i.zero, i.size, i.bytes)) = some (some (.agg #[.slice none 0 0, .int .i64 0]), 2, 32) := by kernel_rfl
def rowCells (As : Nat → Option Addr) (cs : Nat → Nat) (p : PG) (b : List Int) : Nat → List Value
 | 0 => []
 | k + 1 => rowCells As cs p b k ++ [.slice (As k) (p.rows.getD k ([], 0)).1.length (cs k), .int .i64 (b.getD k 0)]
theorem rowCells_len (As : Nat → Option Addr) (cs : Nat → Nat) (p : PG) (b : List Int) (k : Nat) : (rowCells As cs p b k).length = k * 2 := by
 induction k with
 | zero => rfl
 | succ k ih => rw [rowCells, List.length_append, ih]; simp; omega
theorem rowCells_at (As : Nat → Option Addr) (cs : Nat → Nat) (p : PG) (b : List Int) {k i : Nat} (h : i < k) :
    (rowCells As cs p b k)[i * 2]? = some (.slice (As i) (p.rows.getD i ([], 0)).1.length (cs i)) ∧ (rowCells As cs p b k)[i * 2 + 1]? = some (.int .i64 (b.getD i 0)) := by
 induction k with
 | zero => omega
 | succ k ih =>
  have hl := rowCells_len As cs p b k
  rw [rowCells]
  by_cases e : i = k
  ·subst e
   rw [List.getElem?_append_right (by omega), List.getElem?_append_right (by omega), hl]
   simp
  ·obtain ⟨h1, h2⟩ := ih (by omega)
   rw [List.getElem?_append_left (by omega), List.getElem?_append_left (by omega)]
   exact ⟨h1, h2⟩
theorem rows_read {w : World} {base g cap k : Nat} {As : Nat → Option Addr} {cs : Nat → Nat} {p : PG} {b : List Int}
    (h : w.ownsRow base 91 2 (.slice (some ⟨g, 0, none⟩) k cap) k (rowCells As cs p b k)) (hk : k ≤ 1000) (hr : ∀ i, i < k → Rd w (As i) (cs i) (p.rows.getD i ([], 0)).1) :
    Rw w (some ⟨g, 0, none⟩) cap (rowsK p b k) := by
 have hcap : k ≤ cap ∧ cap ≤ 9223372036854775807 := by
  rcases h.2 with ⟨e, _⟩ | ⟨g', cap', cur, e, hb, hg, h1, h2, _⟩
  ·injection e with e1; cases e1
  ·injection e with e1 e2 e3
   subst e3
   exact ⟨h1, by unfold maxLen at h2; omega⟩
 refine ⟨by rw [rowsK_len]; exact hcap.1, hcap.2, by rw [rowsK_len]; omega, fun _ => ⟨_, rfl, fun j hj => ?_⟩⟩
 have hj' : j < k := by rwa [rowsK_len] at hj
 obtain ⟨c1, c2⟩ := rowCells_at As cs p b hj'
 have e1 : ∀ q, (⟨g, 0, none⟩ : Addr).add q = ⟨g, q, none⟩ := fun q => by unfold Addr.add; split <;> simp_all
 have d1 := h.cells (g := g) rfl (j * 2) _ c1
 have d2 := h.cells (g := g) rfl (j * 2 + 1) _ c2
 rw [e1] at d1 d2
 have er : (rowsK p b k)[j] = ((p.rows.getD j ([], 0)).1, b.getD j 0) := by
  have := rowsK_at p b hj'
  rwa [List.getD, List.getElem?_eq_getElem hj, Option.getD_some] at this
 rw [e1, er]
 exact ⟨As j, cs j, d1, d2, hr j hj'⟩
theorem Rw.all {w : World} {A : Option Addr} {c : Nat} {rs : List (List Int × Int)} (h : Rw w A c rs) (h0 : 0 < rs.length) :
    ∃ (ad : Addr) (As : Nat → Option Addr) (cs : Nat → Nat), A = some ad ∧ ∀ j, j < rs.length → w.cell? (ad.add (j * 2)) = some (.slice (As j) (rs.getD j ([], 0)).1.length (cs j)) ∧
     w.cell? ⟨(ad.add (j * 2)).block, (ad.add (j * 2)).off + 1, none⟩ = some (.int .i64 (rs.getD j ([], 0)).2) ∧ Rd w (As j) (cs j) (rs.getD j ([], 0)).1 := by
 obtain ⟨ad, e, hc⟩ := h.cells h0
 have key : ∀ j, ∃ x : Option Addr × Nat, j < rs.length → w.cell? (ad.add (j * 2)) = some (.slice x.1 (rs.getD j ([], 0)).1.length x.2) ∧
     w.cell? ⟨(ad.add (j * 2)).block, (ad.add (j * 2)).off + 1, none⟩ = some (.int .i64 (rs.getD j ([], 0)).2) ∧ Rd w x.1 x.2 (rs.getD j ([], 0)).1 := fun j => by
  by_cases hj : j < rs.length
  ·obtain ⟨A', c', h1, h2, h3⟩ := hc j hj
   refine ⟨(A', c'), fun _ => ?_⟩
   have er : rs.getD j ([], 0) = rs[j] := by simp [List.getD, List.getElem?_eq_getElem hj]
   rw [er]
   exact ⟨h1, h2, h3⟩
  ·exact ⟨(none, 0), fun q => absurd q hj⟩
 exact ⟨ad, fun j => (Classical.choose (key j)).1, fun j => (Classical.choose (key j)).2, e, fun j hj => Classical.choose_spec (key j) hj⟩
theorem news2 {w : World} {b : Nat} {u v : Value} {t : TypeId} (h : Blk w b t #[u, v]) : ∀ (j : Nat) (x : Value), [u, v][j]? = some x → w.cell? ((⟨b, 0, none⟩ : Addr).add j) = some x :=
 fun j x hx => World.news_of_block (cs := #[u, v]) h j x hx
section
variable {ops : Array Oper} {o : Oper} {a : Act} {w : World} {Q : Exit → Act → World → Prop}
theorem step_appRow {K : Act → World → Prop} {E' : Prop} (hgd : o.guard = none) (s x : Operand)
    (ho : o.op = .call { callee := .builtin .append, args := #[s, x], argTypes := #[26, 26] })
    (base : Nat) (v : Value) (n : Nat) (xs : List Value) (u1 u2 : Value) (hs : a.eval s = v) (hown : w.ownsRow base 91 2 v n xs)
    (b c : Nat) (hx : a.eval x = .slice (some ⟨b, 0, none⟩) 1 c) (hb : ∀ (j : Nat) (x : Value), [u1, u2][j]? = some x → w.cell? ((⟨b, 0, none⟩ : Addr).add j) = some x) (h1 : u1.oneCell' = true) (h2 : u2.oneCell' = true)
    (hn : n ≤ 100) (hbase : base ≤ w.heap.size)
    (h : ∀ g cap w', w'.ownsRow base 91 2 (.slice (some ⟨g, 0, none⟩) (n + 1) cap) (n + 1) (xs ++ [u1, u2]) → w.grownBy w' v.ownBlock → (v.ownBlock = some g ∨ g = w.heap.size) → g < w'.heap.size → K (a.put o.dst (.slice (some ⟨g, 0, none⟩) (n + 1) cap)) w') :
    if Region.wanted o (yielded ops a.tmps) = true then Oper.wp Tryz.prog o a w K Q else E' := by
 obtain ⟨i, hi, hz0, hz1, hz2⟩ := info_parts inf_rowT
 exact step_append_lies w hgd s x 26 ho base 91 i _ 2 32 und_rowsT hi hz0 hz1 hz2 rfl (by omega) v n xs hs hown _ 1 c [u1, u2] hx rfl hb (by simp [h1, h2]) (by omega) (by unfold maxLen; omega) (by omega) hbase _ rfl h
end
end Go.Proofs.YtjcdkbalhleeeaaGreatDoor

namespace Go.Proofs.YtjcdkbalhleeeaaGreatDoor
open Go.RowKit
theorem Rd.sameW {w w' : World} {A : Option Addr} {c : Nat} {l : List Int} (h : Rd w A c l) (hk : ∀ ad, A = some ad → ad.block < w.heap.size → w'.heap[ad.block]? = w.heap[ad.block]?) : Rd w' A c l :=
 ⟨h.le, h.cap, h.small, fun hl => by
  obtain ⟨ad, e, hc⟩ := h.cells hl
  have h0 := lc_ (hc 0 _ (List.getElem?_eq_getElem hl))
  rw [block_add] at h0
  exact ⟨ad, e, fun j u hu => (World.cell?_of_block (by rw [block_add]; exact hk ad e h0)).trans (hc j u hu)⟩⟩
abbrev RE := Option Addr × Nat × (List Int × Int)
def reCells (es : List RE) : List Value := es.flatMap fun e => [.slice e.1 e.2.2.1.length e.2.1, .int .i64 e.2.2.2]
theorem reCells_snoc (es : List RE) (e : RE) : reCells (es ++ [e]) = reCells es ++ [.slice e.1 e.2.2.1.length e.2.1, .int .i64 e.2.2.2] := by simp [reCells]
theorem reCells_at : ∀ (es : List RE) {i : Nat} (h : i < es.length), (reCells es)[i * 2]? = some (.slice es[i].1 es[i].2.2.1.length es[i].2.1) ∧ (reCells es)[i * 2 + 1]? = some (.int .i64 es[i].2.2.2)
 | [], i, h => by simp at h
 | e :: es, 0, h => by simp [reCells]
 | e :: es, i + 1, h => by
  have := reCells_at es (i := i) (by simpa using h)
  have e1 : (i + 1) * 2 = i * 2 + 2 := by omega
  rw [e1]
  simp only [reCells, List.flatMap_cons] at this ⊢
  rw [List.getElem?_append_right (by simp), List.getElem?_append_right (by simp)]
  simpa using this
structure RwB (w : World) (base : Nat) (v : Value) (es : List RE) : Prop where
 own : w.ownsRow base 91 2 v es.length (reCells es)
 rd : ∀ e ∈ es, Rd w e.1 e.2.1 e.2.2.1
 ne : ∀ e ∈ es, ∀ ad, e.1 = some ad → v.ownBlock ≠ some ad.block
 lt : ∀ e ∈ es, ∀ ad, e.1 = some ad → ad.block < w.heap.size
 ge : ∀ e ∈ es, ∀ ad, e.1 = some ad → base ≤ ad.block
section
variable {w w' : World} {base : Nat} {v : Value} {es : List RE}
theorem RwB.nil (w : World) (base : Nat) : RwB w base (.slice none 0 0) [] := ⟨World.ownsRow_nil _ _ _ _, by simp, by simp, by simp, by simp⟩
theorem RwB.below (h : RwB w base v es) (hb : Below w.heap.size w w') : RwB w' base v es :=
 ⟨own_below h.own hb, fun e he => (h.rd e he).below hb, h.ne, fun e he ad ea => Nat.lt_of_lt_of_le (h.lt e he ad ea) hb.size, h.ge⟩
theorem RwB.same (h : RwB w base v es) (hs : ∀ b, (v.ownBlock = some b ∨ ∃ e ∈ es, ∃ ad, e.1 = some ad ∧ ad.block = b) → w'.heap[b]? = w.heap[b]?) (hz : w.heap.size ≤ w'.heap.size) : RwB w' base v es := by
 refine ⟨?_, fun e he => (h.rd e he).sameW fun ad ea _ => hs _ (Or.inr ⟨e, he, ad, ea, rfl⟩), h.ne, fun e he ad ea => Nat.lt_of_lt_of_le (h.lt e he ad ea) hz, h.ge⟩
 rcases h.own with ⟨h1, h2⟩
 refine ⟨h1, ?_⟩
 rcases h2 with h2 | ⟨g, cap, cur, e1, e2, e3, e4⟩
 ·exact Or.inl h2
 ·exact Or.inr ⟨g, cap, cur, e1, e2, (hs g (Or.inl (by rw [e1]; rfl))).trans e3, e4⟩
theorem RwB.push (h : RwB w base v es) {A : Option Addr} {c o cap : Nat} {l : List Int} {m : Int} (hr : Rd w A c l) (hn : ∀ ad, A = some ad → v.ownBlock ≠ some ad.block) (hlt : ∀ ad, A = some ad → ad.block < w.heap.size) (hge : ∀ ad, A = some ad → base ≤ ad.block)
    (hown : w'.ownsRow base 91 2 (.slice (some ⟨o, 0, none⟩) (es.length + 1) cap) (es.length + 1) (reCells es ++ [.slice A l.length c, .int .i64 m]))
    (hg : w.grownBy w' v.ownBlock) (hat : v.ownBlock = some o ∨ o = w.heap.size) :
    RwB w' base (.slice (some ⟨o, 0, none⟩) (es.length + 1) cap) (es ++ [(A, c, (l, m))]) := by
 have hz := hg.size
 have key : ∀ (A' : Option Addr) (c' : Nat) (l' : List Int), Rd w A' c' l' → (∀ ad, A' = some ad → v.ownBlock ≠ some ad.block) → (∀ ad, A' = some ad → ad.block < w.heap.size) →
     Rd w' A' c' l' ∧ (∀ ad, A' = some ad → (Value.slice (some ⟨o, 0, none⟩) (es.length + 1) cap).ownBlock ≠ some ad.block) ∧ (∀ ad, A' = some ad → ad.block < w'.heap.size) := by
  intro A' c' l' h1 h2 h3
  refine ⟨h1.sameW fun ad e hl => hg.block _ hl fun q => h2 ad e q.symm, fun ad e q => ?_, fun ad e => Nat.lt_of_lt_of_le (h3 ad e) hz⟩
  have q' : o = ad.block := by simpa [Value.ownBlock] using q
  rcases hat with hat | hat
  ·exact h2 ad e (by rw [hat, q'])
  ·have := h3 ad e; omega
 have hall : ∀ e ∈ es ++ [(A, c, (l, m))], Rd w e.1 e.2.1 e.2.2.1 ∧ (∀ ad, e.1 = some ad → v.ownBlock ≠ some ad.block) ∧ (∀ ad, e.1 = some ad → ad.block < w.heap.size) := by
  intro e he
  rcases List.mem_append.1 he with he | he
  ·exact ⟨h.rd e he, h.ne e he, h.lt e he⟩
  ·simp at he; subst he; exact ⟨hr, hn, hlt⟩
 refine ⟨by rw [reCells_snoc, List.length_append]; exact hown, fun e he => ?_, fun e he => ?_, fun e he => ?_, fun e he => ?_⟩
 ·obtain ⟨a, b, d⟩ := hall e he; exact (key _ _ _ a b d).1
 ·obtain ⟨a, b, d⟩ := hall e he; exact (key _ _ _ a b d).2.1
 ·obtain ⟨a, b, d⟩ := hall e he; exact (key _ _ _ a b d).2.2
 ·rcases List.mem_append.1 he with he | he
  ·exact h.ge e he
  ·simp at he; subst he; exact hge
theorem RwB.read (h : RwB w base v es) (hk : es.length ≤ 4398046511104) : ∃ A c, v = .slice A es.length c ∧ Rw w A c (es.map (·.2.2)) := by
 rcases h.own.2 with ⟨rfl, h0⟩ | ⟨g, cap, cur, rfl, hb, hg, h1, h2, _⟩
 ·have : es = [] := List.eq_nil_of_length_eq_zero h0
  subst this
  exact ⟨none, 0, rfl, ⟨by simp, by omega, by simp, fun h => by simp at h⟩⟩
 ·refine ⟨_, cap, rfl, by rw [List.length_map]; exact h1, by unfold maxLen at h2; omega, by rw [List.length_map]; omega, fun _ => ⟨_, rfl, fun j hj => ?_⟩⟩
  have hj' : j < es.length := by simpa using hj
  obtain ⟨c1, c2⟩ := reCells_at es hj'
  have e1 : ∀ q, (⟨g, 0, none⟩ : Addr).add q = ⟨g, q, none⟩ := fun q => by unfold Addr.add; split <;> simp_all
  have d1 := h.own.cells (g := g) rfl (j * 2) _ c1
  have d2 := h.own.cells (g := g) rfl (j * 2 + 1) _ c2
  rw [e1] at d1 d2
  rw [e1, List.getElem_map]
  exact ⟨_, _, d1, d2, h.rd _ (List.getElem_mem hj')⟩
end
theorem step_appW {ops : Array Oper} {K : Act → World → Prop} {E' : Prop} {o : Oper} {a : Act} {w : World} {Q : Exit → Act → World → Prop} (hgd : o.guard = none) (s x : Operand)
    (ho : o.op = .call { callee := .builtin .append, args := #[s, x], argTypes := #[26, 26] })
    (base : Nat) (v : Value) (n : Nat) (xs : List Value) (u1 u2 : Value) (hs : a.eval s = v) (hown : w.ownsRow base 91 2 v n xs)
    (b c : Nat) (hx : a.eval x = .slice (some ⟨b, 0, none⟩) 1 c) (hb : Blk w b 91 #[u1, u2]) (h1 : u1.oneCell' = true) (h2 : u2.oneCell' = true)
    (hn : n ≤ 2199023255552) (hbase : base ≤ w.heap.size)
    (h : ∀ g cap w', w'.ownsRow base 91 2 (.slice (some ⟨g, 0, none⟩) (n + 1) cap) (n + 1) (xs ++ [u1, u2]) → w.grownBy w' v.ownBlock → (v.ownBlock = some g ∨ g = w.heap.size) → g < w'.heap.size → K (a.put o.dst (.slice (some ⟨g, 0, none⟩) (n + 1) cap)) w') :
    if Region.wanted o (yielded ops a.tmps) = true then Oper.wp Tryz.prog o a w K Q else E' := by
 obtain ⟨i, hi, hz0, hz1, hz2⟩ := info_parts inf_rowT
 exact step_append_lies w hgd s x 26 ho base 91 i _ 2 32 und_rowsT hi hz0 hz1 hz2 rfl (by omega) v n xs hs hown ⟨b, 0, none⟩ 1 c [u1, u2] hx rfl (news2 hb) (by simp [h1, h2]) (by omega) (by unfold maxLen; omega) (by omega) hbase _ rfl h
structure PgW (w : World) (b base : Nat) (A : Option Addr) (c : Nat) (v : Value) (es : List RE) (q : PG) : Prop where
 blk : Blk w b 28 #[.slice A q.costs.length c, v]
 below : b < base
 rd : Rd w A c q.costs
 ge : ∀ ad, A = some ad → base ≤ ad.block
 lt : ∀ ad, A = some ad → ad.block < w.heap.size
 ne : ∀ ad, A = some ad → v.ownBlock ≠ some ad.block
 rows : RwB w base v es
 eq : es.map (·.2.2) = q.rows
section
variable {w w' : World} {b base c : Nat} {A : Option Addr} {v : Value} {es : List RE} {q : PG}
theorem PgW.start (h : Blk w b 28 #[.slice none 0 0, .slice none 0 0]) (hb : b < base) : PgW w b base none 0 (.slice none 0 0) [] ⟨[], []⟩ :=
 ⟨h, hb, Rd.nil w, by simp, by simp, by simp, RwB.nil w base, rfl⟩
theorem PgW.next (h : PgW w b base A c v es q) (hb : Below w.heap.size w w') : PgW w' b base A c v es q :=
 ⟨h.blk.next hb, h.below, h.rd.below hb, h.ge, fun ad e => Nat.lt_of_lt_of_le (h.lt ad e) hb.size, h.ne, h.rows.below hb, h.eq⟩
theorem PgW.costs {w0 : World} (h : PgW w0 b base A c v es q) (hb : Below w0.heap.size w0 w) (hz : base ≤ w0.heap.size) {A' : Option Addr} {c' : Nat} {l : List Int} (hr : Rd w A' c' l) (hA : ∀ ad, A' = some ad → w0.heap.size ≤ ad.block ∧ ad.block < w.heap.size) :
    PgW (w.setCell ⟨b, 0, none⟩ (.slice A' l.length c')) b base A' c' v es ⟨l, q.rows⟩ := by
 have h1 := h.next hb
 have hs : ∀ g, base ≤ g → (w.setCell ⟨b, 0, none⟩ (.slice A' l.length c')).heap[g]? = w.heap[g]? := fun g hg => Below.heap_setCell w _ _ g (by have := h.below; show g ≠ b; omega)
 have hvb : ∀ g, v.ownBlock = some g → base ≤ g ∧ g < w0.heap.size := fun g e => h.rows.own.lt g e
 refine ⟨h1.blk.set0 0 _, h.below, hr.sameW fun ad e hl => hs _ (by have := hA ad e; omega), fun ad e => by have := hA ad e; omega, fun ad e => by simpa using (hA ad e).2, fun ad e q' => ?_, h1.rows.same ?_ (by simp), h.eq⟩
 ·have := hvb _ q'; have := hA ad e; omega
 ·rintro g (e | ⟨x, hx, ad, e, rfl⟩)
  ·exact hs g (hvb g e).1
  ·exact hs _ (h.rows.ge x hx ad e)
theorem PgW.row {w0 w5 : World} (h : PgW w0 b base A c v es q) (hb : Below w0.heap.size w0 w) (hz : base ≤ w0.heap.size) {A' : Option Addr} {c' o cap : Nat} {l : List Int} {m : Int} (hr : Rd w A' c' l) (hA : ∀ ad, A' = some ad → w0.heap.size ≤ ad.block ∧ ad.block < w.heap.size)
    (hown : w5.ownsRow base 91 2 (.slice (some ⟨o, 0, none⟩) (es.length + 1) cap) (es.length + 1) (reCells es ++ [.slice A' l.length c', .int .i64 m]))
    (hg : w.grownBy w5 v.ownBlock) (hat : v.ownBlock = some o ∨ o = w.heap.size) :
    PgW (w5.setCell ⟨b, 1, none⟩ (.slice (some ⟨o, 0, none⟩) (es.length + 1) cap)) b base A c (.slice (some ⟨o, 0, none⟩) (es.length + 1) cap) (es ++ [(A', c', (l, m))]) ⟨q.costs, q.rows ++ [(l, m)]⟩ := by
 have h1 := h.next hb
 have hvb : ∀ g, v.ownBlock = some g → base ≤ g ∧ g < w0.heap.size := fun g e => h.rows.own.lt g e
 have hbz := hb.size
 have hp := h1.rows.push (w' := w5) (m := m) hr (fun ad e q' => by have := hvb _ q'; have := hA ad e; omega) (fun ad e => (hA ad e).2) (fun ad e => by have := hA ad e; omega) hown hg hat
 have hs : ∀ g, base ≤ g → (w5.setCell ⟨b, 1, none⟩ (.slice (some ⟨o, 0, none⟩) (es.length + 1) cap)).heap[g]? = w5.heap[g]? := fun g hg => Below.heap_setCell w5 _ _ g (by have := h.below; show g ≠ b; omega)
 have hkeep : ∀ ad, A = some ad → w5.heap[ad.block]? = w.heap[ad.block]? := fun ad e => hg.block _ (h1.lt ad e) fun q' => h1.ne ad e q'.symm
 have hbl : Blk w5 b 28 #[.slice A q.costs.length c, v] := (hg.block b (h1.blk.lt) (fun q' => by have := hvb _ q'.symm; have := h.below; omega)).trans h1.blk
 have hz5 := hg.size
 refine ⟨hbl.set0 1 _, h.below, (h1.rd.sameW fun ad e _ => hkeep ad e).sameW fun ad e _ => hs _ (h.ge ad e), h.ge, fun ad e => by have := h1.lt ad e; simp; omega, fun ad e q' => ?_, hp.same ?_ (by simp), by rw [List.map_append, h.eq]; rfl⟩
 ·have q2 : o = ad.block := by simpa [Value.ownBlock] using q'
  rcases hat with hat | hat
  ·exact h1.ne ad e (by rw [hat, q2])
  ·have := h1.lt ad e; omega
 ·rintro g (e | ⟨x, hx, ad, e, rfl⟩)
  ·exact hs g (hp.own.lt g e).1
  ·exact hs _ (hp.ge x hx ad e)
theorem PgW.far (h : PgW w b base A c v es q) (p : Addr) (u : Value) (hp : p.block < base) (hne : p.block ≠ b) : PgW (w.setCell p u) b base A c v es q := by
 have hs : ∀ g, base ≤ g → (w.setCell p u).heap[g]? = w.heap[g]? := fun g hg => Below.heap_setCell w _ _ g (by omega)
 refine ⟨h.blk.far _ (fun e => hne e.symm), h.below, h.rd.sameW fun ad e _ => hs _ (h.ge ad e), h.ge, fun ad e => by simpa using h.lt ad e, h.ne, h.rows.same ?_ (by simp), h.eq⟩
 rintro g (e | ⟨x, hx, ad, e, rfl⟩)
 ·exact hs g (h.rows.own.lt g e).1
 ·exact hs _ (h.rows.ge x hx ad e)
theorem PgW.read (h : PgW w b base A c v es q) (hk : es.length ≤ 4398046511104) : ∃ A2 c2, v = .slice A2 q.rows.length c2 ∧ Pg w A c A2 c2 q := by
 obtain ⟨A2, c2, rfl, hr⟩ := h.rows.read hk
 rw [h.eq] at hr
 refine ⟨A2, c2, ?_, h.rd, hr⟩
 rw [← h.eq, List.length_map]
end
end Go.Proofs.YtjcdkbalhleeeaaGreatDoor

namespace Go.Proofs.YtjcdkbalhleeeaaGreatDoor
open Go.RowKit
theorem ref3_Above (A : Option Addr) (l : List Int) (c : Nat) (d : Int) (w : World) (hr : Rd w A c l) :
    Calls Tryz.prog 23 #[.agg #[.slice A l.length c, .int .i64 d]] w fun e w' => e = .returned (.bool (nonneg l)) ∧ Below w.heap.size w w' := by
 have HR := h_ hr
 obtain ⟨hl, hc, hsm, _⟩ := hr
 go_enter Tryz.func23, Tryz.ntmps23
 go_wp2_with fail
 go_loop [3] (fun i => ∃ k : Nat, k ≤ l.length ∧ i = .int .i64 k ∧ nonneg (l.take k) = true) (fun i => l.length - (intOf i).toNat)
 case atStart => exact ⟨0, by omega, rfl, rfl⟩
 case round =>
  obtain ⟨k, hk, rfl, hall⟩ := hrel
  have HA := h_ hall
  clear hall
  by_cases hlt : k < l.length
  ·obtain ⟨ad, rfl, hc1⟩ := HR.out.at_ hlt
   have hadl := lc_ hc1
   have hi0 : (k : Int) < (l.length : Int) := by omega
   by_cases hn : l[k] < 0
   ·go_wp2_with fail
    go_ret
    exact ⟨ret_bool (by unfold nonneg; rw [all_false hlt (by simp; omega)]), (by (repeat (any_goals (first | exact qR _ _ | refine below_drewN ?_ _ | refine qD ?_ | refine qA ?_ ?_ _ | refine qS ?_ ?_ _))); all_goals (first | omega | (simp; done) | (simp; omega)))⟩
   ·go_wp2_with fail
    go_round
    case rel => exact ⟨k + 1, by omega, by go_num, by have := HA.out; unfold nonneg at this ⊢; rw [all_take hlt, this]; simp; omega⟩
    case measure => simp [intOf]; omega
  ·obtain rfl : k = l.length := by omega
   go_wp2_with fail
   go_ret
   exact ⟨ret_bool (by have := HA.out; rw [List.take_length] at this; rw [this]), (by (repeat (any_goals (first | exact qR _ _ | refine below_drewN ?_ _ | refine qD ?_ | refine qA ?_ ?_ _ | refine qS ?_ ?_ _))); all_goals (first | omega | (simp; done) | (simp; omega)))⟩
end Go.Proofs.YtjcdkbalhleeeaaGreatDoor
