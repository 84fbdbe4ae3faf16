/-
  Contracts of functions and plain laws that later parts of the proof use. The conditions stand in each theorem.
-/
import Derived.Test.YtjcdkbalhleeeaaGreatDoorG29
import Derived.Test.YtjcdkbalhleeeaaGreatDoorG08
import Derived.ChangeSame
import Derived.ProofKit
import Derived.Lib.SmallJoins
import Derived.SizedLaws
import Derived.Carry
import Derived.Deep.Slices
import Derived.Test.YtjcdkbalhleeeaaGreatDoorG28
import Derived.Test.YtjcdkbalhleeeaaGreatDoorCards
import Derived.Test.YtjcdkbalhleeeaaGreatDoorTie
import Derived.Deep.DeepHandedRow
import Derived.Deep.DeepWitnessRowRef
import Derived.Lib.LaidTab
import Derived.LaidMore
import Derived.OpenShut
import Derived.Stop.LaidErr
namespace Go.Proofs.YtjcdkbalhleeeaaGreatDoor
open Go.Proofs Go.RowKit
open Go.Lib (itoa join)

theorem say_len (w : List UInt8) (n : Int) (hw : w.length ≤ 20) (h : -9223372036854775808 ≤ n ∧ n ≤ 9223372036854775807) : (sayW w n).length ≤ 50 := by
  have := itoa_len h.1 h.2
  unfold sayW
  simp only [List.length_append, List.length_cons]
  omega
theorem swpS_len (p : PG) (b : List Int) : (swpS p b).length ≤ 24000 := by
  unfold swpS
  split
  · rename_i h
    have h1 := swpK_len (swp_len p b) (swp_small h) (swpL p b).length (Nat.le_refl _)
    have h2 := swp_len p b
    unfold swpK at h1
    rw [List.take_length] at h1
    unfold pieS at h1
    omega
  · have := say_len wBad (swpE p b) (by decide) (by have := swpE_small p b; omega)
    omega
theorem ansK_len {p : PG} (hm : mayPB p = true) (l : List Int) (k : Nat) : (ansK p l k).length ≤ 24000 := by
  rcases k with _ | _ | _ | _ | k
  · show (solS p).length ≤ _
    unfold solS
    split
    · rename_i h
      obtain ⟨h1, h2⟩ := sol_bound h
      have e1 := itoa_len (n := (solZ p).wn) (by omega) h1.2
      have e2 := itoa_len (n := (solZ p).wd) (by omega) h2.2
      simp only [List.length_append, List.length_cons, frcW, wBest, List.length_nil]
      omega
    · split
      · decide
      · decide
  · show (shoS p).length ≤ _
    have htl : (textF p).length ≤ 1000000 := by
      have := rowsT_len hm p.rows.length (Nat.le_refl _)
      have h4 := mayPB_iff.1 hm
      have := costT_len h4.2.2.2.2.1 h4.2.1
      unfold textF
      rw [List.take_length] at *
      rw [List.length_append]
      omega
    have := itoa_len (n := ((textF p).length : Nat)) (by omega) (by omega)
    unfold shoS
    omega
  · show (lokS p l).length ≤ _
    unfold lokS
    split
    · have := (wth_small p l).2.2
      split <;> (simp only [List.length_append, List.length_cons, wGoes, wNot, List.length_nil]; omega)
    · have := say_len wBad (lookE p l) (by decide) (by have := lookE_small p l; omega)
      omega
  · show (wlkS p l).length ≤ _
    rw [wlkS_eq]
    have hn := wlkN_small p l
    split
    · split
      · have := say_len wBest ((wlkN p l : Nat) : Int) (by decide) (by omega); omega
      · have := say_len wEndless ((wlkN p l : Nat) : Int) (by decide) (by omega); omega
    · have := say_len wBad (nextE p l) (by decide) (by have := nextE_small p l; omega)
      omega
  · exact swpS_len p l
theorem line_len {st : PlS} {s : List UInt8} (hmay : st.there = true → mayPB st.p = true) (hs : s.length ≤ 4194304) (hT : st.t.length ≤ 1000000000) :
    (lineS swpS st s).1.length ≤ 24000 ∧ (lineS swpS st s).2.t.length ≤ st.t.length + (s.length + 1) := by
  unfold lineS
  split
  · have hl : (st.t ++ (s.drop 2 ++ [10])).length ≤ st.t.length + (s.length + 1) := by
      simp only [List.length_append, List.length_drop, List.length_cons, List.length_nil]; omega
    refine ⟨?_, hl⟩
    have := say_len wOk ((st.t ++ (s.drop 2 ++ [10])).length : Nat) (by decide) (by omega)
    show (sayW wOk _).length ≤ _
    omega
  · split
    · exact ⟨by show wOk.length ≤ _; decide, by simp⟩
    · split
      · have hat := par_at st.t
        split
        · rename_i h
          have hr := mayPB_iff.1 (text_par (s := st.t) h).1
          refine ⟨?_, by simp⟩
          have := say_len wOk ((parF st.t).1.rows.length : Nat) (by decide) (by omega)
          show (sayW wOk _).length ≤ _
          omega
        · refine ⟨?_, by simp⟩
          have := say_len wBad ((parF st.t).2.2 : Nat) (by decide) (by omega)
          show (sayW wBad _).length ≤ _
          omega
      · split
        · exact ⟨by show ([63] : List UInt8).length ≤ _; decide, by simp⟩
        · rename_i l _
          rw [askS_eq]
          cases askK s with
          | none => exact ⟨by show ([63] : List UInt8).length ≤ _; decide, by simp⟩
          | some k =>
            refine ⟨?_, by simp⟩
            show (if st.there = true then ansK st.p l k else wNone).length ≤ _
            split
            · rename_i h
              exact ansK_len (hmay h) l k
            · decide
/-- Behind k lines. -/
def foldK (L : List (List UInt8)) (k : Nat) : List UInt8 × PlS := (L.take k).foldl (stepS swpS) begS
theorem foldK_succ {L : List (List UInt8)} {k : Nat} (hk : k < L.length) : foldK L (k + 1) = ((foldK L k).1 ++ ((lineS swpS (foldK L k).2 L[k]).1 ++ [10]), (lineS swpS (foldK L k).2 L[k]).2) := by
  unfold foldK
  rw [List.take_succ_eq_append_getElem hk, List.foldl_append]
  rfl
theorem last_at {l : List (List UInt8)} {m : Nat} (h : l.length = m + 1) : l.getLastD [] = l[m]'(by omega) := by
  rw [List.getLastD_eq_getLast?, List.getLast?_eq_getElem?]
  simp only [show l.length - 1 = m by omega, List.getElem?_eq_getElem (show m < l.length by omega)]
  rfl
theorem take_min {l : List (List UInt8)} {n1 n2 : Nat} (h : l.length = n1) (h2 : min n1 60 = n2) : l.take 60 = l.take n2 := by
  by_cases h6 : n1 ≤ 60
  · rw [List.take_of_length_le (by omega), List.take_of_length_le (by omega)]
  · rw [show n2 = 60 by omega]
set_option maxRecDepth 100000 in
set_option maxHeartbeats 4000000 in
theorem drive_Play (s : List UInt8) (w : World) (hs : s.length ≤ 4194304) (ht : Tab w) (he : Errs w) (hm : MaxL w) :
    Calls Tryz.prog 7 #[.string (bs s)] w (RetS w (playS swpS s)) := by
  have HSP := Lib.hid (show Calls Tryz.prog 12 #[.string (bs s), .string { data := #[10] }] w fun e w' => ∃ A cap, e = .returned (.slice A (cutB 10 s).length cap) ∧ Sd w' A cap (cutB 10 s) ∧ Below w.heap.size w w' ∧ ∀ ad, A = some ad → w.heap.size ≤ ad.block from strings_Split s 10 w (by omega) hm)
  have HK := Lib.hid (fun (W : World) (hW : Below w.heap.size w W) => (⟨ht.below hW, he.below hW, hm.below hW⟩ : Tab W ∧ Errs W ∧ MaxL W))
  have HPW := Lib.hid (fun (x : List UInt8) (hx : x ∈ cutB 10 s) => cut_parts x hx)
  obtain ⟨m, hmm⟩ : ∃ m, (cutB 10 s).length = m + 1 := ⟨(cutB 10 s).length - 1, by have := List.length_pos_iff.2 (cutB_ne 10 s); omega⟩
  have hcw := cut_small (c := 10) (s := s)
  rw [hmm] at HSP hcw
  obtain ⟨S, hSd⟩ : ∃ S, playS swpS s = S := ⟨_, rfl⟩
  have HSS := Lib.hid (show S = (foldK (linesS s) (linesS s).length).1 by rw [← hSd]; unfold playS foldK; rw [List.take_length])
  rw [hSd]
  unfold RetS
  clear hSd ht he hm
  go_enter Tryz.func7, Tryz.ntmps7
  go_upto_region 2 with (go_at_call 12; refine HSP.out.mono ?_; rintro e X ⟨AW, cW, rfl, hSX, hbX, _⟩)
  have HSX := Lib.hid hSX
  have HX := Lib.hid hbX
  have zX := hbX.size
  obtain ⟨aw, e1, hw0⟩ := HSX.out.at_ (k := m) (by omega)
  subst e1
  obtain ⟨hSle, hScap, _⟩ := HSX.out
  rw [hmm] at hSle
  have hw0' : X.cell? (aw.add m) = some (.string (bs ((cutB 10 s)[m]'(by omega)))) := hw0
  have hq0 : ((bs ((cutB 10 s)[m]'(by omega))).toList == []) = decide ((cutB 10 s)[m]'(by omega) = []) := by rw [bs_list]; exact Bool.beq_eq_decide_eq _ _
  have hgl : (cutB 10 s).getLastD [] = (cutB 10 s)[m]'(by omega) := last_at hmm
  clear hSX hbX hw0
  by_cases hlast : (cutB 10 s)[m]'(by omega) = []
  · rw [decide_eq_true hlast] at hq0
    obtain ⟨hrun, hS1⟩ := HSX.out.to_run hmm m (by omega)
    obtain ⟨L1, hL⟩ : ∃ L1, (cutB 10 s).take m = L1 := ⟨_, rfl⟩
    have HLI := Lib.hid (show linesS s = L1.take 60 by unfold linesS; rw [hgl, if_pos hlast, List.dropLast_eq_take, hmm, ← hL]; rfl)
    have HLP := Lib.hid (show ∀ x ∈ L1, x.length ≤ s.length from fun x hx => HPW.out x (by rw [← hL] at hx; exact List.mem_of_mem_take hx))
    have hL1 : L1.length = m := by rw [← hL, List.length_take]; omega
    rw [hL] at hS1
    have HS1 := Lib.hid hS1
    clear hS1 hL hlast hgl HSX
    generalize (cutB 10 s)[m]'(by omega) = lst at *
    go_upto_region 4 with fail
    clear hw0' hq0
    have hn1c : m ≤ cW := by omega
    have HLS := Lib.hid (take_min hL1 (rfl : min (m) 60 = min (m) 60))
    obtain ⟨n2, hn2⟩ : ∃ n2, min (m) 60 = n2 := ⟨_, rfl⟩
    rw [hn2] at HLS
    have hmn : (if (60 : Int) < (m : Int) then (60 : Int) else (m : Int)) = (n2 : Int) := by split <;> omega
    have hmx : min (m : Int) 60 = (n2 : Int) := by omega
    have hn60 : n2 ≤ 60 := by omega
    have hn2c : n2 ≤ cW := by omega
    obtain ⟨hrun2, hS2⟩ := HS1.out.to_run hL1 n2 (by omega)
    have HS2 := Lib.hid hS2
    have hll : (L1.take n2).length = n2 := by rw [List.length_take]; omega
    obtain ⟨LL, hLL⟩ : ∃ LL, L1.take n2 = LL := ⟨_, rfl⟩
    rw [hLL] at HS2 HLS hll
    have HLL := Lib.hid hll
    have HLX := Lib.hid (show ∀ x ∈ LL, x.length ≤ s.length from fun x hx => HLP.out x (by rw [← hLL] at hx; exact List.mem_of_mem_take hx))
    rw [HLI.out, HLS.out, hll] at HSS
    clear hn2 hS2 hll hLL HLS
    go_upto_region 7 with fail
    clear hmn hmx hrun2
    try clear hrun
    have BX := Lib.hid (Blk.mk' X 46 #[.slice none 0 0, .slice none 0 0, .string { data := #[] }, .bool false])
    have HV := Lib.hid ((Below.refl X.heap.size X).alloc (Nat.le_refl _) (.cells #[.slice none 0 0, .slice none 0 0, .string { data := #[] }, .bool false] 46))
    obtain ⟨V, hV⟩ : ∃ V, X.alloc (.cells #[.slice none 0 0, .slice none 0 0, .string { data := #[] }, .bool false] 46) = V := ⟨_, rfl⟩
    rw [hV] at BX HV ⊢
    clear hV
    obtain ⟨g, hg⟩ : ∃ g, X.heap.size = g := ⟨_, rfl⟩
    have HG := Lib.hid hg
    rw [hg] at BX ⊢
    have hwg : w.heap.size ≤ g := by omega
    clear hg
    have HP0 := Lib.hid (show PlB V g begS.2 from ⟨⟨none, 0, none, 0, BX.out, Pg.nil V⟩, fun h => by cases h⟩)
    go_loopw [5, 30] (fun s5 s30 wx => ∃ k : Nat, k ≤ n2 ∧ s30 = .int .i64 k ∧ s5 = .string (bs (foldK LL k).1) ∧ PlB wx g (foldK LL k).2 ∧ (foldK LL k).1.length ≤ k * 24001 ∧ (foldK LL k).2.t.length ≤ k * (s.length + 1) ∧ Below X.heap.size X wx) (fun _ s30 _ => n2 - (intOf s30).toNat)
    case atStart => exact ⟨0, by omega, rfl, rfl, HP0.out, by simp [foldK, begS], by simp [foldK, begS], HV.out⟩
    case round =>
      obtain ⟨k, hk, rfl, rfl, hpl, hl1, hl2, hbe⟩ := hrel
      rename World => Y
      have HPL := Lib.hid hpl
      have HY := Lib.hid hbe
      have HWY := Lib.hid (HX.out.trans (hbe.mono zX))
      have HSY := Lib.hid (HS2.out.below hbe)
      clear hpl hbe
      by_cases hlt : k < n2
      · have hkL : k < LL.length := by rw [HLL.out]; exact hlt
        obtain ⟨ad, e1, hcl⟩ := HSY.out.at_ hkL
        injection e1 with e1
        subst e1
        have hlx := HLX.out _ (List.getElem_mem hkL)
        have HFS := Lib.hid (foldK_succ hkL)
        have hcl' : Y.cell? (aw.add k) = some (.string (bs LL[k])) := hcl
        clear hcl
        obtain ⟨x, hx⟩ : ∃ x, LL[k] = x := ⟨_, rfl⟩
        rw [hx] at hlx HFS hcl'
        clear hx hkL
        obtain ⟨st, hst⟩ : ∃ st, (foldK LL k).2 = st := ⟨_, rfl⟩
        rw [hst] at HFS HPL hl2
        obtain ⟨O, hO⟩ : ∃ O, (foldK LL k).1 = O := ⟨_, rfl⟩
        rw [hO] at HFS hl1 ⊢
        clear hst hO
        have hk60 : k * (s.length + 1) ≤ 60 * (s.length + 1) := Nat.mul_le_mul_right _ (by omega)
        have hst9 : st.t.length ≤ 1000000000 := by omega
        have hLN := line_len (s := x) HPL.out.may (by omega) hst9
        have HLI2 := Lib.hid (drive_line g st x Y HPL.out (by omega) hst9 (fun W hW => HK.out W (HWY.out.trans (hW.mono hwg))))
        obtain ⟨⟨a1, st1⟩, hr⟩ : ∃ r, lineS swpS st x = r := ⟨_, rfl⟩
        rw [hr] at hLN HLI2 HFS
        simp only at hLN HFS
        have HFS2 := Lib.hid (show (foldK LL (k + 1)).1 = O ++ (a1 ++ [10]) ∧ (foldK LL (k + 1)).2 = st1 by rw [HFS.out]; exact ⟨rfl, rfl⟩)
        have q1 : ∀ W, (Op.stringOp .add (bs a1) { data := #[10] }).run Tryz.prog W = .ok (.string (bs (a1 ++ [10]))) W := fun W => run_add _ [10] (by simp only [List.length_cons, List.length_nil]; omega) W
        have q2 : ∀ W, (Op.stringOp .add (bs O) (bs (a1 ++ [10]))).run Tryz.prog W = .ok (.string (bs (O ++ (a1 ++ [10])))) W := fun W => run_add _ _ (by rw [List.length_append]; simp only [List.length_cons, List.length_nil]; omega) W
        have hi0 : (k : Int) < (n2 : Int) := by omega
        have hk1 : (k + 1) * (s.length + 1) = k * (s.length + 1) + (s.length + 1) := Nat.succ_mul _ _
        obtain ⟨hLN1, hLN2⟩ := hLN
        unfold RetLi at HLI2
        simp only at HLI2
        clear hr HFS hk60
        go_wp2_with (go_at_call 13; refine HLI2.out.mono ?_; rintro e Y2 ⟨rfl, hp2, hb2⟩)
        have HB2 := Lib.hid hb2
        have HP2 := Lib.hid hp2
        clear hb2 hp2
        go_roundw
        case rel =>
          refine ⟨k + 1, by omega, by go_num, by rw [HFS2.out.1], by rw [HFS2.out.2]; exact HP2.out, ?_, ?_, HY.out.trans (HB2.out.mono (Nat.le_of_eq HG.out))⟩
          · rw [HFS2.out.1]; simp only [List.length_append, List.length_cons, List.length_nil]; omega
          · rw [HFS2.out.2]; omega
        case measure => simp [intOf]; omega
      · have hkn : k = n2 := by omega
        subst hkn
        go_wp2_with fail
        go_ret
        exact ⟨by rw [HSS.out]; rfl, HWY.out⟩
  · rw [decide_eq_false hlast] at hq0
    obtain ⟨L1, hL⟩ : ∃ L1, cutB 10 s = L1 := ⟨_, rfl⟩
    have HLI := Lib.hid (show linesS s = L1.take 60 by unfold linesS; rw [hgl, if_neg hlast, hL])
    have HLP := Lib.hid (show ∀ x ∈ L1, x.length ≤ s.length from fun x hx => HPW.out x (by rw [hL]; exact hx))
    have hL1 : L1.length = m + 1 := by rw [← hL]; exact hmm
    have HS1 := Lib.hid (show Sd X (some aw) cW L1 by rw [← hL]; exact HSX.out)
    clear hlast hgl HSX
    generalize (cutB 10 s)[m]'(by omega) = lst at *
    clear hL
    go_upto_region 4 with fail
    clear hw0' hq0
    have hn1c : m + 1 ≤ cW := by omega
    have HLS := Lib.hid (take_min hL1 (rfl : min (m + 1) 60 = min (m + 1) 60))
    obtain ⟨n2, hn2⟩ : ∃ n2, min (m + 1) 60 = n2 := ⟨_, rfl⟩
    rw [hn2] at HLS
    have hmn : (if (60 : Int) < ((m : Int) + 1) then (60 : Int) else ((m : Int) + 1)) = (n2 : Int) := by split <;> omega
    have hmx : min ((m : Int) + 1) 60 = (n2 : Int) := by omega
    have hn60 : n2 ≤ 60 := by omega
    have hn2c : n2 ≤ cW := by omega
    obtain ⟨hrun2, hS2⟩ := HS1.out.to_run hL1 n2 (by omega)
    have HS2 := Lib.hid hS2
    have hll : (L1.take n2).length = n2 := by rw [List.length_take]; omega
    obtain ⟨LL, hLL⟩ : ∃ LL, L1.take n2 = LL := ⟨_, rfl⟩
    rw [hLL] at HS2 HLS hll
    have HLL := Lib.hid hll
    have HLX := Lib.hid (show ∀ x ∈ LL, x.length ≤ s.length from fun x hx => HLP.out x (by rw [← hLL] at hx; exact List.mem_of_mem_take hx))
    rw [HLI.out, HLS.out, hll] at HSS
    clear hn2 hS2 hll hLL HLS
    go_upto_region 7 with fail
    clear hmn hmx hrun2
    try clear hrun
    have BX := Lib.hid (Blk.mk' X 46 #[.slice none 0 0, .slice none 0 0, .string { data := #[] }, .bool false])
    have HV := Lib.hid ((Below.refl X.heap.size X).alloc (Nat.le_refl _) (.cells #[.slice none 0 0, .slice none 0 0, .string { data := #[] }, .bool false] 46))
    obtain ⟨V, hV⟩ : ∃ V, X.alloc (.cells #[.slice none 0 0, .slice none 0 0, .string { data := #[] }, .bool false] 46) = V := ⟨_, rfl⟩
    rw [hV] at BX HV ⊢
    clear hV
    obtain ⟨g, hg⟩ : ∃ g, X.heap.size = g := ⟨_, rfl⟩
    have HG := Lib.hid hg
    rw [hg] at BX ⊢
    have hwg : w.heap.size ≤ g := by omega
    clear hg
    have HP0 := Lib.hid (show PlB V g begS.2 from ⟨⟨none, 0, none, 0, BX.out, Pg.nil V⟩, fun h => by cases h⟩)
    go_loopw [5, 30] (fun s5 s30 wx => ∃ k : Nat, k ≤ n2 ∧ s30 = .int .i64 k ∧ s5 = .string (bs (foldK LL k).1) ∧ PlB wx g (foldK LL k).2 ∧ (foldK LL k).1.length ≤ k * 24001 ∧ (foldK LL k).2.t.length ≤ k * (s.length + 1) ∧ Below X.heap.size X wx) (fun _ s30 _ => n2 - (intOf s30).toNat)
    case atStart => exact ⟨0, by omega, rfl, rfl, HP0.out, by simp [foldK, begS], by simp [foldK, begS], HV.out⟩
    case round =>
      obtain ⟨k, hk, rfl, rfl, hpl, hl1, hl2, hbe⟩ := hrel
      rename World => Y
      have HPL := Lib.hid hpl
      have HY := Lib.hid hbe
      have HWY := Lib.hid (HX.out.trans (hbe.mono zX))
      have HSY := Lib.hid (HS2.out.below hbe)
      clear hpl hbe
      by_cases hlt : k < n2
      · have hkL : k < LL.length := by rw [HLL.out]; exact hlt
        obtain ⟨ad, e1, hcl⟩ := HSY.out.at_ hkL
        injection e1 with e1
        subst e1
        have hlx := HLX.out _ (List.getElem_mem hkL)
        have HFS := Lib.hid (foldK_succ hkL)
        have hcl' : Y.cell? (aw.add k) = some (.string (bs LL[k])) := hcl
        clear hcl
        obtain ⟨x, hx⟩ : ∃ x, LL[k] = x := ⟨_, rfl⟩
        rw [hx] at hlx HFS hcl'
        clear hx hkL
        obtain ⟨st, hst⟩ : ∃ st, (foldK LL k).2 = st := ⟨_, rfl⟩
        rw [hst] at HFS HPL hl2
        obtain ⟨O, hO⟩ : ∃ O, (foldK LL k).1 = O := ⟨_, rfl⟩
        rw [hO] at HFS hl1 ⊢
        clear hst hO
        have hk60 : k * (s.length + 1) ≤ 60 * (s.length + 1) := Nat.mul_le_mul_right _ (by omega)
        have hst9 : st.t.length ≤ 1000000000 := by omega
        have hLN := line_len (s := x) HPL.out.may (by omega) hst9
        have HLI2 := Lib.hid (drive_line g st x Y HPL.out (by omega) hst9 (fun W hW => HK.out W (HWY.out.trans (hW.mono hwg))))
        obtain ⟨⟨a1, st1⟩, hr⟩ : ∃ r, lineS swpS st x = r := ⟨_, rfl⟩
        rw [hr] at hLN HLI2 HFS
        simp only at hLN HFS
        have HFS2 := Lib.hid (show (foldK LL (k + 1)).1 = O ++ (a1 ++ [10]) ∧ (foldK LL (k + 1)).2 = st1 by rw [HFS.out]; exact ⟨rfl, rfl⟩)
        have q1 : ∀ W, (Op.stringOp .add (bs a1) { data := #[10] }).run Tryz.prog W = .ok (.string (bs (a1 ++ [10]))) W := fun W => run_add _ [10] (by simp only [List.length_cons, List.length_nil]; omega) W
        have q2 : ∀ W, (Op.stringOp .add (bs O) (bs (a1 ++ [10]))).run Tryz.prog W = .ok (.string (bs (O ++ (a1 ++ [10])))) W := fun W => run_add _ _ (by rw [List.length_append]; simp only [List.length_cons, List.length_nil]; omega) W
        have hi0 : (k : Int) < (n2 : Int) := by omega
        have hk1 : (k + 1) * (s.length + 1) = k * (s.length + 1) + (s.length + 1) := Nat.succ_mul _ _
        obtain ⟨hLN1, hLN2⟩ := hLN
        unfold RetLi at HLI2
        simp only at HLI2
        clear hr HFS hk60
        go_wp2_with (go_at_call 13; refine HLI2.out.mono ?_; rintro e Y2 ⟨rfl, hp2, hb2⟩)
        have HB2 := Lib.hid hb2
        have HP2 := Lib.hid hp2
        clear hb2 hp2
        go_roundw
        case rel =>
          refine ⟨k + 1, by omega, by go_num, by rw [HFS2.out.1], by rw [HFS2.out.2]; exact HP2.out, ?_, ?_, HY.out.trans (HB2.out.mono (Nat.le_of_eq HG.out))⟩
          · rw [HFS2.out.1]; simp only [List.length_append, List.length_cons, List.length_nil]; omega
          · rw [HFS2.out.2]; omega
        case measure => simp [intOf]; omega
      · have hkn : k = n2 := by omega
        subst hkn
        go_wp2_with fail
        go_ret
        exact ⟨by rw [HSS.out]; rfl, HWY.out⟩
end Go.Proofs.YtjcdkbalhleeeaaGreatDoor

namespace Go.Proofs.YtjcdkbalhleeeaaGreatDoor
open Go.Proofs Go.RowKit
open Go.Lib (itoa join)

set_option maxRecDepth 100000 in
set_option maxHeartbeats 2000000 in
theorem driveOn_walk (a b : List UInt8) (w : World) (hla : a.length ≤ 1048576) (hlb : b.length ≤ 1048576) (ht : Tab w) (he : Errs w) (hm : MaxL w) :
    Calls Tryz.prog 4 #[.string (bs a), .string (bs b)] w fun e w' => e = .returned (.bool true) ∧ Below w.heap.size w w' := by
  have l1 : (a ++ [10]).length ≤ 4194304 := by simp only [List.length_append, List.length_cons, List.length_nil]; omega
  have l2 : (a ++ [10] ++ b).length ≤ 4194304 := by simp only [List.length_append, List.length_cons, List.length_nil]; omega
  have q1 : ∀ W, (Op.stringOp .add (bs a) { data := #[10] }).run Tryz.prog W = .ok (.string (bs (a ++ [10]))) W := fun W => run_add _ [10] (by simp only [List.length_cons, List.length_nil]; omega) W
  have q2 : ∀ W, (Op.stringOp .add (bs (a ++ [10])) (bs b)).run Tryz.prog W = .ok (.string (bs (a ++ [10] ++ b))) W := fun W => run_add _ _ (by omega) W
  have HP1 := Lib.hid (fun (W : World) (hW : Below w.heap.size w W) => drive_Play (a ++ [10]) W l1 (ht.below hW) (he.below hW) (hm.below hW))
  have HP2 := Lib.hid (fun (W : World) (hW : Below w.heap.size w W) => drive_Play (a ++ [10] ++ b) W l2 (ht.below hW) (he.below hW) (hm.below hW))
  have HP3 := Lib.hid (fun (W : World) (hW : Below w.heap.size w W) => show Calls Tryz.prog 7 #[.string { data := #[63] }] W (RetS W [63, 10]) from by
    have := drive_Play [63] W (by decide) (ht.below hW) (he.below hW) (hm.below hW)
    rw [play_q] at this
    exact this)
  obtain ⟨r, hr⟩ := play_on swpS a b
  rw [hr] at HP2
  unfold RetS at HP1 HP2 HP3
  generalize playS swpS (a ++ [10]) = S at *
  clear hr l1 l2 ht he hm
  have hn1 : (bs S).size = S.length := bs_size _
  have hn2 : (bs (S ++ r)).size = S.length + r.length := by rw [bs_size, List.length_append]
  have hext : (bs (S ++ r)).extract 0 S.length = bs S := by rw [bs_ext]; simp
  have hq : ((bs [63, 10]).toList == [63, 10]) = true := by rw [bs_list]; rfl
  have hq2 : ((bs S).toList == (bs S).toList) = true := by simp
  have hge : (S.length : Int) ≤ (S.length : Int) + (r.length : Int) := by omega
  generalize S.length = n at *
  generalize r.length = m at *
  generalize bs S = t1 at *
  generalize bs (S ++ r) = t2 at *
  generalize bs (a ++ [10] ++ b) = t3 at *
  generalize bs (a ++ [10]) = t4 at *
  generalize bs [63, 10] = t5 at *
  go_enter Tryz.func4, Tryz.ntmps4
  go_upto_region 3 with (go_at_call 7; refine (HP1.out _ (Below.refl _ _)).mono ?_; rintro e w1 ⟨rfl, hb1⟩)
  go_upto_region 4 with (go_at_call 7; refine (HP2.out _ hb1).mono ?_; rintro e w2 ⟨rfl, hb2⟩)
  have hb3 := hb1.trans (hb2.mono hb1.size)
  go_wp2_with (go_at_call 7; refine (HP3.out _ hb3).mono ?_; rintro e w3 ⟨rfl, hb4⟩)
  go_ret
  exact ⟨rfl, hb3.trans (hb4.mono hb3.size)⟩
end Go.Proofs.YtjcdkbalhleeeaaGreatDoor

namespace Go.Proofs.YtjcdkbalhleeeaaGreatDoor
open Go.RowKit Go.WideShapes Go.ChangeShapes
section
variable {H : Type} {enc : TypeId × Value → H} {P : Program}
theorem post_of_below {f : Func} {s : ChangeSpec} {apart fresh handsOn again : Bool} {W W' : World} {args : Array Value} {v : Value} {ds gs : List (DataW H)} {before pa pv : List MemPlace}
    (hW : DataW.Whole enc P f.params.toList s.vars apart W args.toList ds gs before)
    (hres : ∀ (b : Nat) (sp : Nat → Bool) (hd : Bool), DataW.TrodAll enc P W' b sp hd f.resultTypes.toList (v.resultList f.resultTypes.size) (s.fn H (ds ++ gs)).results [])
    (hargs : ∀ sp : Nat → Bool, (∀ p ∈ before, sp p.block = true) → DataW.TrodAll enc P W' 0 sp true f.params.toList args.toList (s.fn H (ds ++ gs)).args pa)
    (hvars : ∀ sp : Nat → Bool, (∀ p ∈ before, sp p.block = true) → DataW.TrodVars enc P W' sp s.vars (s.fn H (ds ++ gs)).vars pv)
    (hps : before = pa ++ pv) (hb : Below W.heap.size W W')
    (hok : ∀ (j : Nat) (t : TypeId) (r : Value), f.resultTypes[j]? = some t → (v.resultList f.resultTypes.size)[j]? = some r → Value.okWide P W' .any 0 t r) :
    s.post enc P f apart fresh handsOn again W args v W' := by
  have hlt : ∀ p ∈ before, p.block < W.heap.size := fun p hp => hW.lt p hp
  have hold : ∀ p ∈ before, (fun b => decide (b < W.heap.size)) p.block = true := fun p hp => by simpa using hlt p hp
  refine ⟨ds, gs, before, [], pa, pv, hW, hres _ _ _, hargs _ hold, hvars _ hold, World.keptBut_mono (fun p hp => ⟨hp, ?_⟩) (hb.frame (· ∈ before)), fun _ => ?_⟩
  · rw [hps, List.mem_append] at hp
    exact Or.inr hp
  · obtain ⟨_, _, _, _, _, hz, hn⟩ := hW
    refine ⟨hok, _, _, ([] ++ pa) ++ pv, ⟨[] ++ pa, pv, trodAll_append (hargs _ (fun _ _ => rfl)) (hres _ _ _), hvars _ (fun _ _ => rfl), rfl, ?_, ?_⟩, ?_⟩
    · intro b off hp
      have hin : MemPlace.cell b off ∈ before := by rw [hps]; simpa using hp
      rw [hb.frozen (hlt _ hin)]
      exact hz b off hin
    · intro ha
      have := hn ha
      rw [hps] at this
      simpa using this
    · intro p hp _
      rw [hps]
      simpa using hp
end
theorem Tryz.own : ownKnob Tryz.prog.godebug = none := by kernel_rfl
end Go.Proofs.YtjcdkbalhleeeaaGreatDoor

namespace Go.Proofs.YtjcdkbalhleeeaaGreatDoor
open Go.RowKit Go.WideShapes Go.ChangeShapes Go.Deep

theorem Tryz.laidOut : laidOutB Tryz.prog = true := by kernel_rfl

section
variable {H : Type} {enc : TypeId × Value → H} {w : World} {n : Nat}

/-! By value, as parameters come. -/
/-- All arguments read as they did. -/
theorem trodAll_stays {P : Program} {W W' : World} (hl : laidOutB P = true) (hb : Below W.heap.size W W') (sp : Nat → Bool) : ∀ (ts : List TypeId) (vs : List Value) (ds : List (DataW H)) (ps : List MemPlace),
    (∀ t ∈ ts, P.readableRec t = true ∧ t < P.types.size) → DataW.TrodAll enc P W 0 (fun _ => true) true ts vs ds ps → (∀ x ∈ ps, x.block < W.heap.size) → (∀ x ∈ ps, sp x.block = true) →
    DataW.TrodAll enc P W' 0 sp true ts vs ds ps
  | [], vs, ds, ps, _, h, _, _ => by cases vs <;> cases ds <;> simp_all [DataW.TrodAll]
  | t :: ts, vs, ds, ps, hr, h, hlt, hs => by
    obtain ⟨v, vs', d, ds', p, q, rfl, rfl, rfl, h1, h2⟩ := trodAll_cons h
    obtain ⟨hr1, hr2⟩ := hr t (by simp)
    refine ⟨p, q, WideElems.Trod_stays hl hr1 hr2 h1 (fun x hx => hb.same (hlt x (by simp [hx]))) (fun x hx => hs x (by simp [hx])),
      trodAll_stays hl hb sp ts vs' ds' q (fun t ht => hr t (by simp [ht])) h2 (fun x hx => hlt x (by simp [hx])) (fun x hx => hs x (by simp [hx])), rfl⟩

set_option maxRecDepth 100000 in
/-- The law's last step: it has returned true, and made new memory alone. -/
theorem law_post {f : Func} {s : ChangeSpec} {W W' : World} {args : Array Value} {ds gs : List (DataW H)} {before : List MemPlace}
    (hW : DataW.Whole enc Tryz.prog f.params.toList s.vars false W args.toList ds gs before) (hv : s.vars = [])
    (hf : s.fn H (ds ++ gs) = { results := [.lit (.bool true)], args := ds }) (hR : f.resultTypes = #[4]) (hr : ∀ t ∈ f.params.toList, Tryz.prog.readableRec t = true ∧ t < Tryz.prog.types.size)
    (hb : Below W.heap.size W W') : ∃ v, Ending.returned (.bool true) = .returned v ∧ s.post enc Tryz.prog f false true false false W args v W' := by
  refine ⟨_, rfl, ?_⟩
  have hW' := hW
  obtain ⟨p, q, hA, hV, rfl, hfz, hnd⟩ := hW
  rw [hv] at hV
  obtain ⟨rfl, rfl⟩ := trodVars_none hV
  refine post_of_below (pa := p) (pv := []) hW' ?_ ?_ ?_ rfl hb ?_
  · intro _ _ _
    rw [hf, hR]
    exact trodAll_mk1 (shut_bool Tryz.underlying4 _)
  · intro sp hsp
    rw [hf]
    exact trodAll_stays Tryz.laidOut hb sp _ _ _ _ hr hA (fun x hx => hW'.lt x (by simpa using hx)) (fun x hx => hsp x (by simpa using hx))
  · intro sp _
    rw [hf, hv]
    rfl
  · exact ok_one hR rfl (okWide_bool_mk Tryz.underlying4 _)
end
end Go.Proofs.YtjcdkbalhleeeaaGreatDoor

namespace Go.Proofs.YtjcdkbalhleeeaaGreatDoor
open Go.RowKit

/-- The list that three of the four rows bear. -/
def laid7 : List (String × DataW Unit) := [("math/bits.deBruijn32tab", Rows.laid_math_bits_deBruijn32tab), ("math/bits.deBruijn64tab", Rows.laid_math_bits_deBruijn64tab), ("internal/strconv.uint64pow10", Rows.laid_internal_strconv_uint64pow10), ("unicode/utf8.acceptRanges", Rows.laid_unicode_utf8_acceptRanges), ("strconv.ErrRange", Rows.laid_strconv_ErrRange), ("strconv.ErrSyntax", Rows.laid_strconv_ErrSyntax), ("unicode/utf8.first", Rows.laid_unicode_utf8_first)]
theorem laid_plain {W : World} (h : laidMetH Tryz.prog laid7 W) : laidMet Tryz.prog laid7 W := by
  rw [MakeChecks.laidMetH_plain _ _ _ (by kernel_rfl)] at h
  exact h
theorem laid_tab {l : List (String × DataW Unit)} (hl : l = laid7) {W : World} (h : laidMetH Tryz.prog l W) : Tab W := by
  subst hl
  exact Lib.tabBelow_of_tabIs (Lib.tabIs_of_head (g := 1) (by kernel_rfl) (by kernel_rfl) Tryz.underlying207 Tryz.underlying178 (by kernel_rfl) (by kernel_rfl) (laid_plain h).tail.tail)
theorem star_err : "*" ++ "errors.errorString" = "*errors.errorString" := by decide
theorem row_err (u : TypeId) (h : Tryz.prog.typeName? 3 u = some "*errors.errorString") : u = 242 :=
  typeName_ptr_named (nm := "errors.errorString") (by rw [star_err]; kernel_rfl) (by kernel_rfl) (by decide) u (by rw [star_err]; exact h)
theorem laid_errs {l : List (String × DataW Unit)} (hl : l = laid7) {W : World} (h : laidMetH Tryz.prog l W) : Errs W := by
  subst hl
  have hp := laid_plain h
  have g1 : Tryz.prog.globalNamed "strconv.ErrRange" = some 5 := by kernel_rfl
  have g2 : Tryz.prog.globalNamed "strconv.ErrSyntax" = some 4 := by kernel_rfl
  obtain ⟨a1, s1, hv1, -, -, -⟩ := laid_sentinel hp.tail.tail.tail.tail g1 (by kernel_rfl) Tryz.underlying107 row_err Tryz.underlying242 Tryz.underlying244 rfl rfl Tryz.underlying9 (by kernel_rfl) (by kernel_rfl)
  obtain ⟨a2, s2, hv2, -, -, -⟩ := laid_sentinel hp.tail.tail.tail.tail.tail g2 (by kernel_rfl) Tryz.underlying107 row_err Tryz.underlying242 Tryz.underlying244 rfl rfl Tryz.underlying9 (by kernel_rfl) (by kernel_rfl)
  have l1 := World.block_lt_of_cell? _ _ (by have := World.var?_cell g1 hv1 0; simpa using this)
  have l2 := World.block_lt_of_cell? _ _ (by have := World.var?_cell g2 hv2 0; simpa using this)
  exact ⟨_, _, _, _, fun w' hb => ⟨var?_below hb g2 l2 hv2, var?_below hb g1 l1 hv1⟩⟩
theorem laid_max {W : World} (h : W.ShapedOpen Tryz.prog) : MaxL W := by
  obtain ⟨m, hm⟩ := Tryz.lays146.s1_3 W h
  exact ⟨m, fun w' hb => (hb.cell (World.block_lt_of_cell? _ _ hm)).trans hm⟩
/-- A start for the witness: what the door's run leaves, and the one table that is laid by its text alone. -/
def litV : DataW Unit → Value
  | .lit (.int k z) => .int k z
  | _ => undef
def aggV : DataW Unit → List Value
  | .agg l => l.map litV
  | _ => []
noncomputable def doorW (os : Os) : World :=
  { World.doorLaid Tryz.prog 72 os with heap := (World.doorLaid Tryz.prog 72 os).heap.modify 2 fun
      | .cells _ t fr => .cells (aggV Rows.laid_unicode_utf8_first).toArray t fr
      | o => o }
end Go.Proofs.YtjcdkbalhleeeaaGreatDoor
