/-
  Contracts of functions and plain laws that later parts of the proof use. The conditions stand in each theorem.
-/
import Derived.Test.YtjcdkbalhleeeaaGreatDoorG06
import Derived.Test.YtjcdkbalhleeeaaGreatDoorG44
namespace Go.Proofs.YtjcdkbalhleeeaaGreatDoor
open Go.Proofs Go.RowKit
open Go.Lib (itoa join)
structure PlK (w : World) (g : Nat) (st : PlS) : Prop where
 ex : ∃ A c A2 c2, Blk w g 30 #[.slice A st.p.costs.length c, .slice A2 st.p.rows.length c2, .string (bs st.t), .bool st.there] ∧ Pg w A c A2 c2 st.p
 may : st.there = true → mayPB st.p = true
def RetLk (w : World) (g : Nat) (r : List UInt8 × PlS) (e : Ending) (w' : World) : Prop :=
 e = .returned (.string (bs r.1)) ∧ PlK w' g r.2 ∧ Below g w w'
theorem numsR_takeT {T : List (List UInt8)} {j : Nat} (hj : j < T.length) {v : List Int} (h : numsR (T.take j) = some v) : numsR (T.take (j + 1)) = (numR T[j]).map fun n => v ++ [n] := by
 rw [List.take_succ_eq_append_getElem hj, numsR_snoc, h]
 rfl
theorem ask_word {s : List UInt8} {hd0 : List UInt8} (hh : (cutB 32 s).headD [] = hd0) : askK s = if s = wSolve ∨ s = wShow ∨ hd0 = wLook ∨ hd0 = wWalk ∨ hd0 = wSweep then some (wdK hd0) else none := by
 have e1 : (cutB 32 wSolve).headD [] = wSolve := by decide
 have e2 : (cutB 32 wShow).headD [] = wShow := by decide
 unfold askK
 rw [hh]
 by_cases h1 : s = wSolve
 ·subst h1
  rw [e1] at hh
  subst hh
  rfl
 ·rw [if_neg h1]
  by_cases h2 : s = wShow
  ·subst h2
   rw [e2] at hh
   subst hh
   rfl
  ·rw [if_neg h2]
   by_cases h3 : hd0 = wLook
   ·subst h3; simp; rfl
   ·rw [if_neg h3]
    by_cases h4 : hd0 = wWalk
    ·subst h4; simp; rfl
    ·rw [if_neg h4]
     by_cases h5 : hd0 = wSweep
     ·subst h5; simp; rfl
     ·rw [if_neg h5, if_neg (by simp [h1, h2, h3, h4, h5])]
set_option maxRecDepth 100000 in
set_option maxHeartbeats 8000000 in
theorem keep_line (g : Nat) (st : PlS) (s : List UInt8) (w : World) (hB : PlK w g st) (hs : s.length ≤ 4194304) (hT : st.t.length ≤ 1000000000) (hk : ∀ W, Below g w W → Tab W ∧ Errs W ∧ MaxL W) :
    Calls Tryz.prog 6 #[.pointer (some ⟨g, 0, none⟩), .string (bs s)] w (RetLk w g (lineS swpS st s)) := by
 obtain ⟨⟨A, c, A2, c2, hb, hp⟩, hmay⟩ := hB
 obtain ⟨p, t, th⟩ := st
 simp only at hb hp hmay hT
 have B := h_ hb
 have HP := h_ hp
 have HK := h_ hk
 have HMY := h_ hmay
 have hlt := hb.lt
 have c0 : w.cell? ⟨g, 0, none⟩ = some (.slice A p.costs.length c) := hb.cell 0
 have c1 : w.cell? ⟨g, 1, none⟩ = some (.slice A2 p.rows.length c2) := hb.cell 1
 have k2 : w.cell? ⟨g, 2, none⟩ = some (.string (bs t)) := hb.cell 2
 have k3 : w.cell? ⟨g, 3, none⟩ = some (.bool th) := hb.cell 3
 have f0 := hb.frozen 0
 have f1 := hb.frozen 1
 have f2 := hb.frozen 2
 have f3 := hb.frozen 3
 have hz : (bs s).size = s.length := bs_size s
 have hex : (bs s).extract 0 2 = bs (s.take 2) := by rw [bs_ext]; rfl
 have hq : ((bs (s.take 2)).toList == [61, 32]) = decide (s.take 2 = [61, 32]) := by rw [bs_list]; exact Bool.beq_eq_decide_eq _ _
 clear hb hp hk hmay
 by_cases h1 : s.take 2 = [61, 32]
 ·obtain ⟨T', hT'⟩ : ∃ T', t ++ (s.drop 2 ++ [10]) = T' := ⟨_, rfl⟩
  have hL : lineS swpS ⟨p, t, th⟩ s = (sayW wOk ((T'.length : Nat) : Int), ⟨p, T', th⟩) := by
   unfold lineS
   rw [if_pos h1, hT']
  have hl0 : 2 ≤ s.length := by
   have := congrArg List.length h1
   rw [List.length_take] at this
   simp at this
   omega
  have hl2 : (s.drop 2).length ≤ s.length := by rw [List.length_drop]; omega
  have hlT : T'.length ≤ 1004194310 := by rw [← hT', List.length_append, List.length_append]; simp only [List.length_cons, List.length_nil]; omega
  have hge : (2 : Int) ≤ (s.length : Int) := by omega
  have hex2 : (bs s).extract 2 s.length = bs (s.drop 2) := by rw [bs_ext, List.take_of_length_le (by rw [List.length_drop]; omega)]
  have q1 : ∀ W, (Op.stringOp .add (bs t) (bs (s.drop 2))).run Tryz.prog W = .ok (.string (bs (t ++ s.drop 2))) W := fun W => run_add _ _ (by omega) W
  have q2 : ∀ W, (Op.stringOp .add (bs (t ++ s.drop 2)) { data := #[10] }).run Tryz.prog W = .ok (.string (bs T')) W := fun W => by
   rw [← hT', ← List.append_assoc]
   exact run_add _ [10] (by rw [List.length_append]; simp only [List.length_cons, List.length_nil]; omega) W
  have hsz : (bs T').size = T'.length := bs_size _
  rw [decide_eq_true h1] at hq
  rw [hL]
  have HLT := h_ hlT
  clear hL h1 hT' hl2 hlT
  unfold RetLk
  generalize bs (s.take 2) = t0 at *
  generalize bs (t ++ s.drop 2) = t1 at *
  generalize bs (s.drop 2) = t2 at *
  generalize bs s = t3 at *
  have k2' : ∀ u : Wk w, u.1.cell? ⟨g, 2, none⟩ = some (.string (bs t)) := fun u => (B.out.next u.2).cell 2
  have f2' : ∀ u : Wk w, u.1.frozen? ⟨g, 2, none⟩ = false := fun u => (B.out.next u.2).frozen 2
  go_enter Tryz.func6, Tryz.ntmps6
  go_upto_region 2 with fail
  refine wk_tail 11 (by kernel_rfl) (by kernel_rfl) ?_
  simp only [List.take_succ_cons, List.take_zero, List.drop_succ_cons, List.drop_zero]
  repeat (go_big_quiet_step (fail))
  refine wpQuiet_nil ?_
  rintro w8 ⟨u8, rfl⟩
  clear c0 c1 k2 k3 f0 f1 f2 f3
  go_upto_region 3 with fail
  have B8 := B.out.next u8.2
  have hu8 := u8.2.mono (Nat.le_of_lt hlt)
  have B1 := h_ (show Blk (u8.1.setCell ⟨g, 2, none⟩ (.string (bs T'))) g 30 #[.slice A p.costs.length c, .slice A2 p.rows.length c2, .string (bs T'), .bool th] from by
   have h := B8.set0 2 (.string (bs T'))
   simp only [List.setIfInBounds_toArray, List.set_cons_zero, List.set_cons_succ] at h
   exact h)
  have HP1 := h_ ((HP.out.below u8.2).setBox B8 2 (.string (bs T')))
  have HG1 := h_ (hu8.setCell (p := ⟨g, 2, none⟩) (Nat.le_refl _) (.string (bs T')))
  obtain ⟨V, hV⟩ : ∃ V, u8.1.setCell ⟨g, 2, none⟩ (.string (bs T')) = V := ⟨_, rfl⟩
  rw [hV] at B1 HP1 HG1 ⊢
  clear hV k2' f2' B8 hu8 u8
  have k2 : V.cell? ⟨g, 2, none⟩ = some (.string (bs T')) := B1.out.cell 2
  have lV := B1.out.lt
  have HSY := h_ (said_ok ((T'.length : Nat) : Int) V (by have := HLT.out; omega))
  go_wp2_with (go_at_call 8; refine HSY.out.mono ?_; rintro e w9 ⟨rfl, hb9⟩)
  go_ret
  exact ⟨rfl, ⟨⟨A, c, A2, c2, B1.out.next hb9, HP1.out.below hb9⟩, HMY.out⟩, HG1.out.trans (hb9.mono (Nat.le_of_lt lV))⟩
 ·rw [decide_eq_false h1] at hq
  have hq1 : ((bs s).toList == [102, 114, 101, 115, 104]) = decide (s = wFresh) := by rw [bs_list]; exact Bool.beq_eq_decide_eq _ _
  have hq2 : ((bs s).toList == [116, 97, 107, 101]) = decide (s = wTake) := by rw [bs_list]; exact Bool.beq_eq_decide_eq _ _
  generalize bs (s.take 2) = t0 at *
  obtain ⟨LS, hLS⟩ : ∃ LS, lineS swpS ⟨p, t, th⟩ s = LS := ⟨_, rfl⟩
  have HLS := h_ hLS
  rw [hLS]
  clear hLS
  unfold RetLk
  go_enter Tryz.func6, Tryz.ntmps6
  go_upto_region 1 with fail
  go_cut [19] (fun s19 wx => s19 = .bool false ∧ wx = w)
  case first =>
   by_cases hl : (2 : Int) ≤ (s.length : Int)
   ·go_wp2_with fail
    go_meet
    exact ⟨rfl, rfl⟩
   ·go_wp2_with fail
    go_meet
    exact ⟨rfl, rfl⟩
  case rest =>
  obtain ⟨rfl, hwx⟩ := hcut
  have hwy := hwx.symm
  clear hwx
  subst hwy
  clear hex hq
  by_cases h2 : s = wFresh
  ·have HL1 := h_ (show LS = (wOk, ⟨p, [], th⟩) by rw [← HLS.out]; unfold lineS; rw [if_neg h1, if_pos h2])
   have d2 : decide (s = wFresh) = true := by simpa using h2
   clear h1 h2
   go_wp2_with fail
   go_ret
   rw [HL1.out]
   refine ⟨rfl, ⟨⟨A, c, A2, c2, ?_, HP.out.setBox B.out 2 _⟩, HMY.out⟩, (Below.refl g _).setCell (p := ⟨g, 2, none⟩) (Nat.le_refl _) _⟩
   have h := B.out.set0 2 (.string (bs []))
   simp only [List.setIfInBounds_toArray, List.set_cons_zero, List.set_cons_succ] at h
   exact h
  ·have d2 : decide (s = wFresh) = false := by simpa using h2
   by_cases h3 : s = wTake
   ·have d3 : decide (s = wTake) = true := by simpa using h3
    have hL : lineS swpS ⟨p, t, th⟩ s = if (parF t).2.1 = 0 then (sayW wOk ((parF t).1.rows.length : Nat), ⟨(parF t).1, t, true⟩) else (sayW wBad ((parF t).2.2 : Nat), ⟨p, t, th⟩) := by unfold lineS; rw [if_neg h1, if_neg h2, if_pos h3]
    have HPA := h_ (text_Parse t w (by omega) (HK.out w (Below.refl _ _)).1 (HK.out w (Below.refl _ _)).2.1 (HK.out w (Below.refl _ _)).2.2)
    have HAT := h_ (par_at t)
    have HMQ := h_ (fun h => (text_par (s := t) h).1)
    rw [HLS.out] at hL
    obtain ⟨⟨q, code, at_⟩, hr⟩ : ∃ r, parF t = r := ⟨_, rfl⟩
    rw [hr] at hL HPA HAT HMQ
    simp only at hL HAT HMQ
    have HL := h_ hL
    clear hL hr h1 h2 h3
    unfold RetPr at HPA
    simp only at HPA
    go_upto_region 9 with (go_at_call 9; refine HPA.out.mono ?_; rintro e w2 ⟨hb2, A3, c3, A4, c4, rfl, hpg⟩)
    have HB2 := h_ hb2
    have z2 := hb2.size
    have hV2 : Below w2.heap.size w2 ((w2.alloc (.cells #[.slice A3 q.costs.length c3, .slice A4 q.rows.length c4] 28)).alloc (.cells #[.int .i64 code, .int .i64 (at_ : Nat)] 37)) := ((Below.refl _ _).alloc (Nat.le_refl _) _).alloc (by simp) _
    have BQ := h_ (show Blk ((w2.alloc (.cells #[.slice A3 q.costs.length c3, .slice A4 q.rows.length c4] 28)).alloc (.cells #[.int .i64 code, .int .i64 (at_ : Nat)] 37)) w2.heap.size 28 #[.slice A3 q.costs.length c3, .slice A4 q.rows.length c4] from (Blk.mk' _ _ _).alloc _)
    have BF := h_ (Blk.new (w2.alloc (.cells #[.slice A3 q.costs.length c3, .slice A4 q.rows.length c4] 28)) 37 #[.int .i64 code, .int .i64 (at_ : Nat)] (w2.heap.size + 1) (by simp))
    have HPG := h_ (hpg.below hV2)
    have HB := h_ (HB2.out.trans (hV2.mono z2))
    have hgq : g < w2.heap.size := by omega
    clear c0 c1 k2 k3 f0 f1 f2 f3 hb2 hpg hV2
    obtain ⟨V, hV⟩ : ∃ V, (w2.alloc (.cells #[.slice A3 q.costs.length c3, .slice A4 q.rows.length c4] 28)).alloc (.cells #[.int .i64 code, .int .i64 (at_ : Nat)] 37) = V := ⟨_, rfl⟩
    rw [hV] at BQ BF HPG HB ⊢
    clear hV
    have BV := h_ (B.out.next HB.out)
    have HGV := h_ (HB.out.mono (Nat.le_of_lt hlt))
    have HTV := h_ (HK.out V HGV.out).1
    have zV := HB.out.size
    obtain ⟨bq, hbq⟩ : ∃ bq, w2.heap.size = bq := ⟨_, rfl⟩
    rw [hbq] at BQ BF hgq ⊢
    clear hbq
    have a0 : V.cell? ⟨bq + 1, 0, none⟩ = some (.int .i64 code) := BF.out.cell 0
    have a1 : V.cell? ⟨bq + 1, 1, none⟩ = some (.int .i64 (at_ : Nat)) := BF.out.cell 1
    by_cases h0 : code = 0
    ·subst h0
     have b0 : V.cell? ⟨bq, 0, none⟩ = some (.slice A3 q.costs.length c3) := BQ.out.cell 0
     have b1 : V.cell? ⟨bq, 1, none⟩ = some (.slice A4 q.rows.length c4) := BQ.out.cell 1
     have c0 : V.cell? ⟨g, 0, none⟩ = some (.slice A p.costs.length c) := BV.out.cell 0
     have c1 : V.cell? ⟨g, 1, none⟩ = some (.slice A2 p.rows.length c2) := BV.out.cell 1
     have k2 : V.cell? ⟨g, 2, none⟩ = some (.string (bs t)) := BV.out.cell 2
     have k3 : V.cell? ⟨g, 3, none⟩ = some (.bool th) := BV.out.cell 3
     have f0 := BV.out.frozen 0
     have f1 := BV.out.frozen 1
     have f2 := BV.out.frozen 2
     have f3 := BV.out.frozen 3
     have HL0 := h_ (show LS = (sayW wOk ((q.rows.length : Nat) : Int), ⟨q, t, true⟩) by rw [HL.out, if_pos rfl])
     go_upto_region 13 with fail
     have e0 := BV.out.set0 0 (.slice A3 q.costs.length c3)
     simp only [List.setIfInBounds_toArray, List.set_cons_zero, List.set_cons_succ] at e0
     have e1 := e0.set0 1 (.slice A4 q.rows.length c4)
     simp only [List.setIfInBounds_toArray, List.set_cons_zero, List.set_cons_succ] at e1
     have e3 := e1.set0 3 (.bool true)
     simp only [List.setIfInBounds_toArray, List.set_cons_zero, List.set_cons_succ] at e3
     have HP3 := h_ (((HPG.out.setBox BV.out 0 (.slice A3 q.costs.length c3)).setBox e0 1 (.slice A4 q.rows.length c4)).setBox e1 3 (.bool true))
     have HG3 := h_ (((HGV.out.setCell (p := ⟨g, 0, none⟩) (Nat.le_refl _) (.slice A3 q.costs.length c3)).setCell (p := ⟨g, 1, none⟩) (Nat.le_refl _) (.slice A4 q.rows.length c4)).setCell (p := ⟨g, 3, none⟩) (Nat.le_refl _) (.bool true))
     have B3 := h_ e3
     have hbq3 : bq ≠ g := by omega
     have HBQ3 : (((V.setCell ⟨g, 0, none⟩ (.slice A3 q.costs.length c3)).setCell ⟨g, 1, none⟩ (.slice A4 q.rows.length c4)).setCell ⟨g, 3, none⟩ (.bool true)).cell? ⟨bq, 1, none⟩ = some (.slice A4 q.rows.length c4) := by
      iterate 3 refine (World.cell?_setCell_other _ _ _ _ (fun e' => hbq3 (congrArg Addr.block e').symm)).trans ?_
      exact b1
     clear e0 e1 e3 a0 a1 b0 b1 c0 c1 k2 k3 f0 f1 f2 f3
     obtain ⟨V3, hV3⟩ : ∃ V3, ((V.setCell ⟨g, 0, none⟩ (.slice A3 q.costs.length c3)).setCell ⟨g, 1, none⟩ (.slice A4 q.rows.length c4)).setCell ⟨g, 3, none⟩ (.bool true) = V3 := ⟨_, rfl⟩
     rw [hV3] at HP3 HG3 B3 HBQ3 ⊢
     clear hV3
     have b1 : V3.cell? ⟨bq, 1, none⟩ = some (.slice A4 q.rows.length c4) := HBQ3
     have lV := B3.out.lt
     have hrl : q.rows.length ≤ 17592186044416 := HP3.out.rows.small
     have HSY := h_ (said_ok ((q.rows.length : Nat) : Int) V3 (by omega))
     go_wp2_with (go_at_call 8; refine HSY.out.mono ?_; rintro e w9 ⟨rfl, hb10⟩)
     go_ret
     rw [HL0.out]
     exact ⟨rfl, ⟨⟨A3, c3, A4, c4, B3.out.next hb10, HP3.out.below hb10⟩, fun _ => HMQ.out (by first | rfl | trivial)⟩, HG3.out.trans (hb10.mono (Nat.le_of_lt lV))⟩
    ·have HL0 := h_ (show LS = (sayW wBad ((at_ : Nat) : Int), ⟨p, t, th⟩) by rw [HL.out, if_neg h0])
     have hz0 : (code != 0) = true := by simpa using h0
     have lV := BV.out.lt
     have HSY := h_ (said_bad ((at_ : Nat) : Int) V (by have := HAT.out; omega))
     go_wp2_with (go_at_call 8; refine HSY.out.mono ?_; rintro e w9 ⟨rfl, hb10⟩)
     go_ret
     rw [HL0.out]
     exact ⟨rfl, ⟨⟨A, c, A2, c2, BV.out.next hb10, (HP.out.below HB.out).below hb10⟩, HMY.out⟩, HGV.out.trans (hb10.mono (Nat.le_of_lt lV))⟩
   ·have d3 : decide (s = wTake) = false := by simpa using h3
    have HSP := h_ (show Calls Tryz.prog 5 #[.string (bs s), .int .u8 32] w fun e w' => ∃ A cap, e = .returned (.slice A (cutB 32 s).length cap) ∧ Sd w' A cap (cutB 32 s) ∧ Below w.heap.size w w' from keep_split s 32 w (by omega))
    have HL := h_ (show lineS swpS ⟨p, t, th⟩ s = (match numsR (cutB 32 s).tail with
     | none => ([63], ⟨p, t, th⟩)
     | some l => match askS swpS p s l with
      | none => ([63], ⟨p, t, th⟩)
      | some o => (if th = true then o else wNone, ⟨p, t, th⟩)) by unfold lineS; rw [if_neg h1, if_neg h2, if_neg h3]; rfl)
    rw [HLS.out] at HL
    have s1 : ((bs s).toList == [115, 111, 108, 118, 101]) = decide (s = wSolve) := by rw [bs_list]; exact Bool.beq_eq_decide_eq _ _
    have s2 : ((bs s).toList == [115, 104, 111, 119]) = decide (s = wShow) := by rw [bs_list]; exact Bool.beq_eq_decide_eq _ _
    obtain ⟨m, hm⟩ : ∃ m, (cutB 32 s).length = m + 1 := ⟨(cutB 32 s).length - 1, by have := List.length_pos_iff.2 (cutB_ne 32 s); omega⟩
    have hcw := cut_small (c := 32) (s := s)
    have HPW := h_ (fun (x : List UInt8) (hx : x ∈ cutB 32 s) => cut_parts x hx)
    obtain ⟨hd0, hh0⟩ : ∃ h, (cutB 32 s).headD [] = h := ⟨_, rfl⟩
    have HAW := h_ (ask_word hh0)
    have HH0 := h_ (show (cutB 32 s)[0]'(by omega) = hd0 by
     rw [← hh0]
     obtain ⟨x, y, hc⟩ := List.exists_cons_of_ne_nil (cutB_ne 32 s)
     simp only [hc]; rfl)
    have HTL := h_ (show ∀ j (hj : j < (cutB 32 s).tail.length), (cutB 32 s).tail[j] = (cutB 32 s)[j + 1]'(by rw [List.length_tail] at hj; omega) from fun j hj => by rw [List.getElem_tail])
    have htl : (cutB 32 s).tail.length = m := by rw [List.length_tail, hm]; rfl
    have HTN := h_ htl
    have s3 : ((bs hd0).toList == [108, 111, 111, 107]) = decide (hd0 = wLook) := by rw [bs_list]; exact Bool.beq_eq_decide_eq _ _
    have s4 : ((bs hd0).toList == [119, 97, 108, 107]) = decide (hd0 = wWalk) := by rw [bs_list]; exact Bool.beq_eq_decide_eq _ _
    have s5 : ((bs hd0).toList == [115, 119, 101, 101, 112]) = decide (hd0 = wSweep) := by rw [bs_list]; exact Bool.beq_eq_decide_eq _ _
    rw [hm] at HSP hcw
    clear h1 h2 h3 hh0 htl
    go_upto_region 15 with (go_at_call 5; refine HSP.out.mono ?_; rintro e X ⟨AW, cW, rfl, hSX, hbX⟩)
    have HSX := h_ hSX
    have HX := h_ hbX
    have zX := hbX.size
    obtain ⟨aw, e1, hw0⟩ := HSX.out.at_ (k := 0) (by omega)
    subst e1
    obtain ⟨hSle, hScap, _⟩ := HSX.out
    rw [hm] at hSle
    have hw0' : X.cell? aw = some (.string (bs hd0)) := by
     have := hw0
     rw [HH0.out] at this
     exact this
    clear hSX hbX hw0 c0 c1 k2 k3 f0 f1 f2 f3
    go_wp2_with fail
    go_loopw [8, 9] (fun o i wx => ∃ (j : Nat) (vs : List Int), j ≤ m ∧ i = .int .i64 ((j + 1 : Nat) : Int) ∧ Hid (numsR ((cutB 32 s).tail.take j) = some vs) ∧ wx.ownsRow X.heap.size 2 1 o j (vs.map (Value.int .i64)) ∧ Below X.heap.size X wx) (fun _ i _ => m + 1 - (intOf i).toNat)
    case atStart => exact ⟨0, [], by omega, rfl, h_ rfl, World.ownsRow_nil _ _ _ _, Below.refl _ _⟩
    case round =>
     obtain ⟨j, vs, hj, rfl, hvs, hown, hbel⟩ := hrel
     rename World => U
     have HB := h_ hbel
     have HO := h_ hown
     have zB := hbel.size
     have HWU := h_ (HX.out.trans (hbel.mono zX))
     clear hown hbel
     by_cases hlt2 : j < m
     ·obtain ⟨ad, e0, hcl⟩ := (HSX.out.below HB.out).at_ (k := j + 1) (by omega)
      injection e0 with e0
      subst e0
      have hjt : j < (cutB 32 s).tail.length := by rw [HTN.out]; exact hlt2
      have hlx := HPW.out _ (List.getElem_mem (show j + 1 < (cutB 32 s).length by omega))
      have HTK := h_ (numsR_takeT hjt hvs.out)
      have HNO := h_ (fun h => numsR_none hjt h)
      rw [HTL.out j hjt] at HTK HNO
      have hi0 : (j : Int) + 1 < (m : Int) + 1 := by omega
      have hi1 : (j : Int) < (m : Int) := by omega
      have hcj : U.cell? ⟨aw.block, aw.off + (j + 1), none⟩ = some (strV ((cutB 32 s)[j + 1]'(by omega))) := hcl
      unfold strV at hcl hcj
      obtain ⟨x, hx⟩ : ∃ x, (cutB 32 s)[j + 1]'(by omega) = x := ⟨_, rfl⟩
      rw [hx] at hcl hcj hlx HTK HNO
      have HNB := h_ (ref9_Number x U (by omega))
      unfold numV at HNB
      clear hx hjt
      have hjc : j + 1 < cW := by omega
      cases hn : numR x with
      | none =>
       rw [hn] at HNB
       have HNN := h_ (HNO.out hn)
       simp only [Option.getD_none, Option.isSome_none] at HNB
       clear hn
       go_wp2_with (go_at_call 10; refine HNB.out.mono ?_; rintro e w1 ⟨rfl, hb1⟩)
       go_ret
       have hw1 := HWU.out.trans (hb1.mono HWU.out.size)
       rw [HL.out, HNN.out]
       exact ⟨rfl, ⟨⟨A, c, A2, c2, B.out.next hw1, HP.out.below hw1⟩, HMY.out⟩, hw1.mono (Nat.le_of_lt hlt)⟩
      | some n =>
       rw [hn] at HNB HTK
       simp only [Option.getD_some, Option.isSome_some, Option.map_some] at HNB HTK
       clear hn
       go_wp2_with (first
        | (go_at_call 10; refine HNB.out.mono ?_; rintro e w1 ⟨rfl, hb1⟩)
        | (at_builtin; refine list_app1 rfl (.tmp 87) (.tmp 89) 25 2 (.int .i64 0) 8 und_i64s inf_i64 rfl rfl X.heap.size _ j _ (.int .i64 n) rfl (own_below HO.out (hb1.alloc hb1.size _)) _ 1 rfl (cell_new1 _ _ _) rfl (by unfold maxLen; omega) (by omega) (by have := hb1.size; simp; omega) ?_; intro g' cap w5 hown5 hg5 hat5 hlt5))
       go_roundw
       case rel => exact ⟨j + 1, vs ++ [n], by omega, by go_num, h_ HTK.out, by rw [List.map_append]; exact hown5, ((HB.out.trans (hb1.mono zB)).alloc (by have := hb1.size; omega) _).grown hg5 (by have := hb1.size; simp; omega) (own_ge HO.out (Nat.le_refl _))⟩
       case measure => simp [intOf]; omega
     ·have hjm : j = m := by omega
      subst hjm
      have hvn := hvs.out
      rw [List.take_of_length_le (by rw [HTN.out]; exact Nat.le_refl _)] at hvn
      have hvl := (numsR_small hvn).2
      rw [HTN.out] at hvl
      have HVN := h_ hvn
      obtain ⟨A5, c5, rfl, hrd, _⟩ := Rd.of_ownv HO.out hvl.symm (by omega)
      have HRD := h_ hrd
      have HVL := h_ hvl
      have hw0u : U.cell? aw = some (.string (bs hd0)) := (HB.out.cell (lc_ hw0')).trans hw0'
      have BU := h_ (B.out.next HWU.out)
      have HPU := h_ (HP.out.below HWU.out)
      have HGU := h_ (HWU.out.mono (Nat.le_of_lt hlt))
      have k3 : U.cell? ⟨g, 3, none⟩ = some (.bool th) := BU.out.cell 3
      have lU := BU.out.lt
      have hjc : 0 < cW := by omega
      clear hvn hvl hrd hw0' hvs HO
      have HL1 := h_ (show LS = match askK s with
       | none => ([63], ⟨p, t, th⟩)
       | some k => (if th = true then ansK p vs k else wNone, ⟨p, t, th⟩) by
       rw [HL.out, HVN.out]
       simp only [askS_eq]
       cases askK s <;> rfl)
      rw [HAW.out] at HL1
      by_cases hany : s = wSolve ∨ s = wShow ∨ hd0 = wLook ∨ hd0 = wWalk ∨ hd0 = wSweep
      ·rw [if_pos hany] at HL1
       have HL2 := h_ (show LS = (if th = true then ansK p vs (wdK hd0) else wNone, ⟨p, t, th⟩) from HL1.out)
       clear HL1
       go_upto_region 23 with fail
       go_cut [114] (fun s114 wx => s114 = .bool false ∧ wx = U)
       case first =>
        by_cases a1 : s = wSolve
        ·have e1 : decide (s = wSolve) = true := by simpa using a1
         clear a1 hany
         go_wp2_with fail
         go_meet
         exact ⟨rfl, rfl⟩
        ·have e1 : decide (s = wSolve) = false := by simpa using a1
         by_cases a2 : s = wShow
         ·have e2 : decide (s = wShow) = true := by simpa using a2
          clear a1 a2 hany
          go_wp2_with fail
          go_meet
          exact ⟨rfl, rfl⟩
         ·have e2 : decide (s = wShow) = false := by simpa using a2
          by_cases a3 : hd0 = wLook
          ·have e3 : decide (hd0 = wLook) = true := by simpa using a3
           clear a1 a2 a3 hany
           go_wp2_with fail
           go_meet
           exact ⟨rfl, rfl⟩
          ·have e3 : decide (hd0 = wLook) = false := by simpa using a3
           by_cases a4 : hd0 = wWalk
           ·have e4 : decide (hd0 = wWalk) = true := by simpa using a4
            clear a1 a2 a3 a4 hany
            go_wp2_with fail
            go_meet
            exact ⟨rfl, rfl⟩
           ·have e4 : decide (hd0 = wWalk) = false := by simpa using a4
            have a5 : hd0 = wSweep := by
             rcases hany with h | h | h | h | h
             ·exact absurd h a1
             ·exact absurd h a2
             ·exact absurd h a3
             ·exact absurd h a4
             ·exact h
            have e5 : decide (hd0 = wSweep) = true := by simpa using a5
            clear a1 a2 a3 a4 a5 hany
            go_wp2_with fail
            go_meet
            exact ⟨rfl, rfl⟩
       case rest =>
        obtain ⟨rfl, hwx⟩ := hcut
        have hwy := hwx.symm
        clear hwx
        subst hwy
        clear hany
        cases th with
        | false =>
         have HL3 := h_ (show LS = (wNone, ⟨p, t, false⟩) from HL2.out)
         go_wp2_with fail
         go_ret
         rw [HL3.out]
         exact ⟨rfl, ⟨⟨A, c, A2, c2, BU.out, HPU.out⟩, HMY.out⟩, HGU.out⟩
        | true =>
         obtain ⟨S, hS⟩ : ∃ S, ansK p vs (wdK hd0) = S := ⟨_, rfl⟩
         have HL3 := h_ (show LS = (S, ⟨p, t, true⟩) from by rw [HL2.out, if_pos rfl, hS])
         have HM := h_ (show mayPB p = true from HMY.out rfl)
         have HTU := h_ (show Tab U from (HK.out U HGU.out).1)
         have HAS := h_ (show Calls Tryz.prog 11 #[.pointer (some ⟨g, 0, none⟩), .string (bs hd0), .slice A5 vs.length c5] U (fun e w' => e = .returned (.string (bs S)) ∧ Below U.heap.size U w') from by
          have := keep_asked g A c A2 c2 p (.string (bs t)) (.bool true) hd0 A5 vs c5 U BU.out HPU.out HM.out HRD.out HTU.out
          rw [hS] at this
          exact this)
         clear hS HL2
         go_wp2_with (go_at_call 11; refine HAS.out.mono ?_; rintro e w9 ⟨rfl, hb9⟩)
         go_ret
         rw [HL3.out]
         exact ⟨rfl, ⟨⟨A, c, A2, c2, BU.out.next hb9, HPU.out.below hb9⟩, fun _ => HM.out⟩, HGU.out.trans (hb9.mono (Nat.le_of_lt lU))⟩
      ·rw [if_neg hany] at HL1
       have HL2 := h_ (show LS = ([63], ⟨p, t, th⟩) from HL1.out)
       have e1 : decide (s = wSolve) = false := by simpa using fun h => hany (.inl h)
       have e2 : decide (s = wShow) = false := by simpa using fun h => hany (.inr (.inl h))
       have e3 : decide (hd0 = wLook) = false := by simpa using fun h => hany (.inr (.inr (.inl h)))
       have e4 : decide (hd0 = wWalk) = false := by simpa using fun h => hany (.inr (.inr (.inr (.inl h))))
       have e5 : decide (hd0 = wSweep) = false := by simpa using fun h => hany (.inr (.inr (.inr (.inr h))))
       clear HL1 hany
       go_wp2_with fail
       go_ret
       rw [HL2.out]
       exact ⟨rfl, ⟨⟨A, c, A2, c2, BU.out, HPU.out⟩, HMY.out⟩, HGU.out⟩
end Go.Proofs.YtjcdkbalhleeeaaGreatDoor

namespace Go.Proofs.YtjcdkbalhleeeaaGreatDoor
open Go.Proofs Go.RowKit
open Go.Lib (itoa join)
set_option maxRecDepth 100000 in
set_option maxHeartbeats 4000000 in
theorem driveTells_walk (s : List UInt8) (w : World) (hs : s.length ≤ 4194304) (ht : Tab w) (he : Errs w) (hm : MaxL w) :
    Calls Tryz.prog 3 #[.string (bs s)] w fun e w' => e = .returned (.bool true) ∧ Below w.heap.size w w' := by
 have HSP := h_ (show Calls Tryz.prog 5 #[.string (bs s), .int .u8 10] w fun e w' => ∃ A cap, e = .returned (.slice A (cutB 10 s).length cap) ∧ Sd w' A cap (cutB 10 s) ∧ Below w.heap.size w w' from keep_split s 10 w (by omega))
 have HK := h_ (fun (W : World) (hW : Below w.heap.size w W) => (⟨ht.below hW, he.below hW, hm.below hW⟩ : Tab W ∧ Errs W ∧ MaxL W))
 have HPW := h_ (fun (x : List UInt8) (hx : x ∈ cutB 10 s) => cut_parts x hx)
 obtain ⟨m, hmm⟩ : ∃ m, (cutB 10 s).length = m + 1 := ⟨(cutB 10 s).length - 1, by have := List.length_pos_iff.2 (cutB_ne 10 s); omega⟩
 have hcw := cut_small (c := 10) (s := s)
 rw [hmm] at HSP hcw
 obtain ⟨S, hSd⟩ : ∃ S, playS swpS s = S := ⟨_, rfl⟩
 have HSS := h_ (show S = (foldK (linesS s) (linesS s).length).1 by rw [← hSd]; unfold playS foldK; rw [List.take_length])
 have HSD := h_ hSd
 clear hSd ht he hm
 go_enter Tryz.func3, Tryz.ntmps3
 go_upto_region 2 with (go_at_call 5; refine HSP.out.mono ?_; rintro e X ⟨AW, cW, rfl, hSX, hbX⟩)
 have HSX := h_ hSX
 have HX := h_ hbX
 have zX := hbX.size
 obtain ⟨aw, e1, hw0⟩ := HSX.out.at_ (k := m) (by omega)
 subst e1
 obtain ⟨hSle, hScap, _⟩ := HSX.out
 rw [hmm] at hSle
 have hw0' : X.cell? (aw.add m) = some (.string (bs ((cutB 10 s)[m]'(by omega)))) := hw0
 have hq0 : ((bs ((cutB 10 s)[m]'(by omega))).toList == []) = decide ((cutB 10 s)[m]'(by omega) = []) := by rw [bs_list]; exact Bool.beq_eq_decide_eq _ _
 have hgl : (cutB 10 s).getLastD [] = (cutB 10 s)[m]'(by omega) := last_at hmm
 clear hSX hbX hw0
 by_cases hlast : (cutB 10 s)[m]'(by omega) = []
 ·rw [decide_eq_true hlast] at hq0
  obtain ⟨hrun, hS1⟩ := HSX.out.to_run hmm m (by omega)
  obtain ⟨L1, hL⟩ : ∃ L1, (cutB 10 s).take m = L1 := ⟨_, rfl⟩
  have HLI := h_ (show linesS s = L1.take 60 by unfold linesS; rw [hgl, if_pos hlast, List.dropLast_eq_take, hmm, ← hL]; rfl)
  have HLP := h_ (show ∀ x ∈ L1, x.length ≤ s.length from fun x hx => HPW.out x (by rw [← hL] at hx; exact List.mem_of_mem_take hx))
  have hL1 : L1.length = m := by rw [← hL, List.length_take]; omega
  rw [hL] at hS1
  have HS1 := h_ hS1
  clear hS1 hL hlast hgl HSX
  generalize (cutB 10 s)[m]'(by omega) = lst at *
  go_upto_region 4 with fail
  clear hw0' hq0
  have hn1c : m ≤ cW := by omega
  have HLS := h_ (take_min hL1 (rfl : min (m) 60 = min (m) 60))
  obtain ⟨n2, hn2⟩ : ∃ n2, min (m) 60 = n2 := ⟨_, rfl⟩
  rw [hn2] at HLS
  have hn2q : n2 ≤ m ∧ (n2 = m ∨ n2 = 60) := by omega
  have HN2 := h_ hn2q
  have hn60 : n2 ≤ 60 := by omega
  have hn2c : n2 ≤ cW := by omega
  have hll : (L1.take n2).length = n2 := by rw [List.length_take]; omega
  obtain ⟨LL, hLL⟩ : ∃ LL, L1.take n2 = LL := ⟨_, rfl⟩
  rw [hLL] at HLS hll
  have HLL := h_ hll
  have HLX := h_ (show ∀ x ∈ LL, x.length ≤ s.length from fun x hx => HLP.out x (by rw [← hLL] at hx; exact List.mem_of_mem_take hx))
  have HLG := h_ (show ∀ k (h : k < LL.length) (h1 : k < L1.length), LL[k] = L1[k] from fun k h h1 => by subst hLL; rw [List.getElem_take])
  rw [HLI.out, HLS.out, hll] at HSS
  clear hn2 hn2q hll hLL HLS
  go_upto_region 7 with fail
  try clear hrun
  have BX := h_ (Blk.mk' X 30 #[.slice none 0 0, .slice none 0 0, .string { data := #[] }, .bool false])
  have HV := h_ ((Below.refl X.heap.size X).alloc (Nat.le_refl _) (.cells #[.slice none 0 0, .slice none 0 0, .string { data := #[] }, .bool false] 30))
  obtain ⟨V, hV⟩ : ∃ V, X.alloc (.cells #[.slice none 0 0, .slice none 0 0, .string { data := #[] }, .bool false] 30) = V := ⟨_, rfl⟩
  rw [hV] at BX HV ⊢
  clear hV
  obtain ⟨g, hg⟩ : ∃ g, X.heap.size = g := ⟨_, rfl⟩
  have HG := h_ hg
  rw [hg] at BX ⊢
  have hwg : w.heap.size ≤ g := by omega
  clear hg
  have HP0 := h_ (show PlK V g begS.2 from ⟨⟨none, 0, none, 0, BX.out, Pg.nil V⟩, fun h => by cases h⟩)
  go_loopw [5, 6] (fun s5 s30 wx => ∃ k : Nat, k ≤ n2 ∧ s30 = .int .i64 k ∧ s5 = .string (bs (foldK LL k).1) ∧ PlK wx g (foldK LL k).2 ∧ (foldK LL k).1.length ≤ k * 24001 ∧ (foldK LL k).2.t.length ≤ k * (s.length + 1) ∧ Below X.heap.size X wx) (fun _ s30 _ => n2 - (intOf s30).toNat)
  case atStart => exact ⟨0, by omega, rfl, rfl, HP0.out, by simp [foldK, begS], by simp [foldK, begS], HV.out⟩
  case round =>
   obtain ⟨k, hk, rfl, rfl, hpl, hl1, hl2, hbe⟩ := hrel
   rename World => Y
   have HPL := h_ hpl
   have HY := h_ hbe
   have HWY := h_ (HX.out.trans (hbe.mono zX))
   have HSY := h_ (HS1.out.below hbe)
   clear hpl hbe
   by_cases hlt : k < n2
   ·have hkL : k < LL.length := by rw [HLL.out]; exact hlt
    have hk1L : k < L1.length := by have := HN2.out; omega
    obtain ⟨ad, e1, hcl⟩ := HSY.out.at_ hk1L
    injection e1 with e1
    subst e1
    have hlx := HLX.out _ (List.getElem_mem hkL)
    have HFS := h_ (foldK_succ hkL)
    have hcl' : Y.cell? (aw.add k) = some (.string (bs LL[k])) := by rw [HLG.out k hkL hk1L]; exact hcl
    have hkq : (k : Int) < (m : Int) := by have := HN2.out; omega
    have hk60' : (k : Int) < 60 := by omega
    clear hcl hk1L
    obtain ⟨x, hx⟩ : ∃ x, LL[k] = x := ⟨_, rfl⟩
    rw [hx] at hlx HFS hcl'
    clear hx hkL
    obtain ⟨st, hst⟩ : ∃ st, (foldK LL k).2 = st := ⟨_, rfl⟩
    rw [hst] at HFS HPL hl2
    obtain ⟨O, hO⟩ : ∃ O, (foldK LL k).1 = O := ⟨_, rfl⟩
    rw [hO] at HFS hl1 ⊢
    clear hst hO
    have hk60 : k * (s.length + 1) ≤ 60 * (s.length + 1) := Nat.mul_le_mul_right _ (by omega)
    have hst9 : st.t.length ≤ 1000000000 := by omega
    have hLN := line_len (s := x) HPL.out.may (by omega) hst9
    have HLI2 := h_ (keep_line g st x Y HPL.out (by omega) hst9 (fun W hW => HK.out W (HWY.out.trans (hW.mono hwg))))
    obtain ⟨⟨a1, st1⟩, hr⟩ : ∃ r, lineS swpS st x = r := ⟨_, rfl⟩
    rw [hr] at hLN HLI2 HFS
    simp only at hLN HFS
    have HFS2 := h_ (show (foldK LL (k + 1)).1 = O ++ (a1 ++ [10]) ∧ (foldK LL (k + 1)).2 = st1 by rw [HFS.out]; exact ⟨rfl, rfl⟩)
    have q1 : ∀ W, (Op.stringOp .add (bs O) (bs a1)).run Tryz.prog W = .ok (.string (bs (O ++ a1))) W := fun W => run_add _ _ (by omega) W
    have q2 : ∀ W, (Op.stringOp .add (bs (O ++ a1)) { data := #[10] }).run Tryz.prog W = .ok (.string (bs (O ++ (a1 ++ [10])))) W := fun W => by
     rw [← List.append_assoc]
     exact run_add _ _ (by rw [List.length_append]; simp only [List.length_cons, List.length_nil]; omega) W
    have hi0 : (k : Int) < (n2 : Int) := by omega
    have hk1 : (k + 1) * (s.length + 1) = k * (s.length + 1) + (s.length + 1) := Nat.succ_mul _ _
    obtain ⟨hLN1, hLN2⟩ := hLN
    unfold RetLk at HLI2
    simp only at HLI2
    clear hr HFS hk60
    go_wp2_with (go_at_call 6; refine HLI2.out.mono ?_; rintro e Y2 ⟨rfl, hp2, hb2⟩)
    have HB2 := h_ hb2
    have HP2 := h_ hp2
    clear hb2 hp2
    go_roundw
    case rel =>
     refine ⟨k + 1, by omega, by go_num, by rw [HFS2.out.1], by rw [HFS2.out.2]; exact HP2.out, ?_, ?_, HY.out.trans (HB2.out.mono (Nat.le_of_eq HG.out))⟩
     ·rw [HFS2.out.1]; simp only [List.length_append, List.length_cons, List.length_nil]; omega
     ·rw [HFS2.out.2]; omega
    case measure => simp [intOf]; omega
   ·have hkn : k = n2 := by omega
    subst hkn
    have HPL2 := h_ (drive_Play s Y hs (HK.out Y HWY.out).1 (HK.out Y HWY.out).2.1 (HK.out Y HWY.out).2.2)
    rw [HSD.out] at HPL2
    unfold RetS at HPL2
    rw [← HSS.out]
    have hq2 : ((bs S).toList == (bs S).toList) = true := by simp
    have hn2' := HN2.out
    generalize bs S = tS at *
    by_cases hnq : k = m
    ·have hk0 : ¬ ((k : Int) < (m : Int)) := by omega
     clear hnq hn2'
     go_wp2_with (go_at_call 7; refine HPL2.out.mono ?_; rintro e w9 ⟨rfl, hb9⟩)
     go_ret
     exact ⟨rfl, HWY.out.trans (hb9.mono HWY.out.size)⟩
    ·have hk0 : (k : Int) < (m : Int) := by omega
     have hk6 : ¬ ((k : Int) < 60) := by omega
     clear hnq hn2'
     go_wp2_with (go_at_call 7; refine HPL2.out.mono ?_; rintro e w9 ⟨rfl, hb9⟩)
     go_ret
     exact ⟨rfl, HWY.out.trans (hb9.mono HWY.out.size)⟩
 ·rw [decide_eq_false hlast] at hq0
  obtain ⟨L1, hL⟩ : ∃ L1, cutB 10 s = L1 := ⟨_, rfl⟩
  have HLI := h_ (show linesS s = L1.take 60 by unfold linesS; rw [hgl, if_neg hlast, hL])
  have HLP := h_ (show ∀ x ∈ L1, x.length ≤ s.length from fun x hx => HPW.out x (by rw [hL]; exact hx))
  have hL1 : L1.length = m + 1 := by rw [← hL]; exact hmm
  have HS1 := h_ (show Sd X (some aw) cW L1 by rw [← hL]; exact HSX.out)
  clear hlast hgl HSX
  generalize (cutB 10 s)[m]'(by omega) = lst at *
  clear hL
  go_upto_region 4 with fail
  clear hw0' hq0
  have hn1c : m + 1 ≤ cW := by omega
  have HLS := h_ (take_min hL1 (rfl : min (m + 1) 60 = min (m + 1) 60))
  obtain ⟨n2, hn2⟩ : ∃ n2, min (m + 1) 60 = n2 := ⟨_, rfl⟩
  rw [hn2] at HLS
  have hn2q : n2 ≤ m + 1 ∧ (n2 = m + 1 ∨ n2 = 60) := by omega
  have HN2 := h_ hn2q
  have hn60 : n2 ≤ 60 := by omega
  have hn2c : n2 ≤ cW := by omega
  have hll : (L1.take n2).length = n2 := by rw [List.length_take]; omega
  obtain ⟨LL, hLL⟩ : ∃ LL, L1.take n2 = LL := ⟨_, rfl⟩
  rw [hLL] at HLS hll
  have HLL := h_ hll
  have HLX := h_ (show ∀ x ∈ LL, x.length ≤ s.length from fun x hx => HLP.out x (by rw [← hLL] at hx; exact List.mem_of_mem_take hx))
  have HLG := h_ (show ∀ k (h : k < LL.length) (h1 : k < L1.length), LL[k] = L1[k] from fun k h h1 => by subst hLL; rw [List.getElem_take])
  rw [HLI.out, HLS.out, hll] at HSS
  clear hn2 hn2q hll hLL HLS
  go_upto_region 7 with fail
  try clear hrun
  have BX := h_ (Blk.mk' X 30 #[.slice none 0 0, .slice none 0 0, .string { data := #[] }, .bool false])
  have HV := h_ ((Below.refl X.heap.size X).alloc (Nat.le_refl _) (.cells #[.slice none 0 0, .slice none 0 0, .string { data := #[] }, .bool false] 30))
  obtain ⟨V, hV⟩ : ∃ V, X.alloc (.cells #[.slice none 0 0, .slice none 0 0, .string { data := #[] }, .bool false] 30) = V := ⟨_, rfl⟩
  rw [hV] at BX HV ⊢
  clear hV
  obtain ⟨g, hg⟩ : ∃ g, X.heap.size = g := ⟨_, rfl⟩
  have HG := h_ hg
  rw [hg] at BX ⊢
  have hwg : w.heap.size ≤ g := by omega
  clear hg
  have HP0 := h_ (show PlK V g begS.2 from ⟨⟨none, 0, none, 0, BX.out, Pg.nil V⟩, fun h => by cases h⟩)
  go_loopw [5, 6] (fun s5 s30 wx => ∃ k : Nat, k ≤ n2 ∧ s30 = .int .i64 k ∧ s5 = .string (bs (foldK LL k).1) ∧ PlK wx g (foldK LL k).2 ∧ (foldK LL k).1.length ≤ k * 24001 ∧ (foldK LL k).2.t.length ≤ k * (s.length + 1) ∧ Below X.heap.size X wx) (fun _ s30 _ => n2 - (intOf s30).toNat)
  case atStart => exact ⟨0, by omega, rfl, rfl, HP0.out, by simp [foldK, begS], by simp [foldK, begS], HV.out⟩
  case round =>
   obtain ⟨k, hk, rfl, rfl, hpl, hl1, hl2, hbe⟩ := hrel
   rename World => Y
   have HPL := h_ hpl
   have HY := h_ hbe
   have HWY := h_ (HX.out.trans (hbe.mono zX))
   have HSY := h_ (HS1.out.below hbe)
   clear hpl hbe
   by_cases hlt : k < n2
   ·have hkL : k < LL.length := by rw [HLL.out]; exact hlt
    have hk1L : k < L1.length := by have := HN2.out; omega
    obtain ⟨ad, e1, hcl⟩ := HSY.out.at_ hk1L
    injection e1 with e1
    subst e1
    have hlx := HLX.out _ (List.getElem_mem hkL)
    have HFS := h_ (foldK_succ hkL)
    have hcl' : Y.cell? (aw.add k) = some (.string (bs LL[k])) := by rw [HLG.out k hkL hk1L]; exact hcl
    have hkq : (k : Int) < ((m : Int) + 1) := by have := HN2.out; omega
    have hk60' : (k : Int) < 60 := by omega
    clear hcl hk1L
    obtain ⟨x, hx⟩ : ∃ x, LL[k] = x := ⟨_, rfl⟩
    rw [hx] at hlx HFS hcl'
    clear hx hkL
    obtain ⟨st, hst⟩ : ∃ st, (foldK LL k).2 = st := ⟨_, rfl⟩
    rw [hst] at HFS HPL hl2
    obtain ⟨O, hO⟩ : ∃ O, (foldK LL k).1 = O := ⟨_, rfl⟩
    rw [hO] at HFS hl1 ⊢
    clear hst hO
    have hk60 : k * (s.length + 1) ≤ 60 * (s.length + 1) := Nat.mul_le_mul_right _ (by omega)
    have hst9 : st.t.length ≤ 1000000000 := by omega
    have hLN := line_len (s := x) HPL.out.may (by omega) hst9
    have HLI2 := h_ (keep_line g st x Y HPL.out (by omega) hst9 (fun W hW => HK.out W (HWY.out.trans (hW.mono hwg))))
    obtain ⟨⟨a1, st1⟩, hr⟩ : ∃ r, lineS swpS st x = r := ⟨_, rfl⟩
    rw [hr] at hLN HLI2 HFS
    simp only at hLN HFS
    have HFS2 := h_ (show (foldK LL (k + 1)).1 = O ++ (a1 ++ [10]) ∧ (foldK LL (k + 1)).2 = st1 by rw [HFS.out]; exact ⟨rfl, rfl⟩)
    have q1 : ∀ W, (Op.stringOp .add (bs O) (bs a1)).run Tryz.prog W = .ok (.string (bs (O ++ a1))) W := fun W => run_add _ _ (by omega) W
    have q2 : ∀ W, (Op.stringOp .add (bs (O ++ a1)) { data := #[10] }).run Tryz.prog W = .ok (.string (bs (O ++ (a1 ++ [10])))) W := fun W => by
     rw [← List.append_assoc]
     exact run_add _ _ (by rw [List.length_append]; simp only [List.length_cons, List.length_nil]; omega) W
    have hi0 : (k : Int) < (n2 : Int) := by omega
    have hk1 : (k + 1) * (s.length + 1) = k * (s.length + 1) + (s.length + 1) := Nat.succ_mul _ _
    obtain ⟨hLN1, hLN2⟩ := hLN
    unfold RetLk at HLI2
    simp only at HLI2
    clear hr HFS hk60
    go_wp2_with (go_at_call 6; refine HLI2.out.mono ?_; rintro e Y2 ⟨rfl, hp2, hb2⟩)
    have HB2 := h_ hb2
    have HP2 := h_ hp2
    clear hb2 hp2
    go_roundw
    case rel =>
     refine ⟨k + 1, by omega, by go_num, by rw [HFS2.out.1], by rw [HFS2.out.2]; exact HP2.out, ?_, ?_, HY.out.trans (HB2.out.mono (Nat.le_of_eq HG.out))⟩
     ·rw [HFS2.out.1]; simp only [List.length_append, List.length_cons, List.length_nil]; omega
     ·rw [HFS2.out.2]; omega
    case measure => simp [intOf]; omega
   ·have hkn : k = n2 := by omega
    subst hkn
    have HPL2 := h_ (drive_Play s Y hs (HK.out Y HWY.out).1 (HK.out Y HWY.out).2.1 (HK.out Y HWY.out).2.2)
    rw [HSD.out] at HPL2
    unfold RetS at HPL2
    rw [← HSS.out]
    have hq2 : ((bs S).toList == (bs S).toList) = true := by simp
    have hn2' := HN2.out
    generalize bs S = tS at *
    by_cases hnq : k = m + 1
    ·have hk0 : ¬ ((k : Int) < ((m : Int) + 1)) := by omega
     clear hnq hn2'
     go_wp2_with (go_at_call 7; refine HPL2.out.mono ?_; rintro e w9 ⟨rfl, hb9⟩)
     go_ret
     exact ⟨rfl, HWY.out.trans (hb9.mono HWY.out.size)⟩
    ·have hk0 : (k : Int) < ((m : Int) + 1) := by omega
     have hk6 : ¬ ((k : Int) < 60) := by omega
     clear hnq hn2'
     go_wp2_with (go_at_call 7; refine HPL2.out.mono ?_; rintro e w9 ⟨rfl, hb9⟩)
     go_ret
     exact ⟨rfl, HWY.out.trans (hb9.mono HWY.out.size)⟩
end Go.Proofs.YtjcdkbalhleeeaaGreatDoor
