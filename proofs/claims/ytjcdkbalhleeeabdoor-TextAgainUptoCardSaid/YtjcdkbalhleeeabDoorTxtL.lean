/-
  Walked: text.Parse. Conditions: the library's variables hold what its text lays; the text is of a machine's size.
-/
import Derived.Test.YtjcdkbalhleeeabDoorTxtK
import Derived.Test.YtjcdkbalhleeeabDoorTxtO
import Derived.Test.YtjcdkbalhleeeabDoorLay1
namespace Go.Proofs.YtjcdkbalhleeeabDoor
open Go.Proofs Go.RowKit
open Go.Lib (itoa join)

set_option maxRecDepth 100000 in
set_option maxHeartbeats 2000000 in
theorem text_Parse (s : List UInt8) (w : World) (hs : s.length ≤ 1073741824) (ht : Tab w) (he : Errs w) (hm : MaxL w) :
    Calls Tryd.prog 10 #[.string (bs s)] w (RetPr w (parF s)) := by
  have HT := Lib.hid ht
  have HE := Lib.hid he
  have HM := Lib.hid hm
  clear ht he hm
  obtain ⟨n, hn⟩ : ∃ n, (cutB 10 s).length = n + 1 := ⟨(cutB 10 s).length - 1, by have := List.length_pos_iff.2 (cutB_ne 10 s); omega⟩
  have hcs := cut_small (c := 10) (s := s)
  have HPT := Lib.hid (fun (x : List UInt8) (hx : x ∈ cutB 10 s) => cut_parts x hx)
  have HW0 := Lib.hid (((Below.refl w.heap.size w).alloc (Nat.le_refl _) (.cells #[.slice none 0 0, .slice none 0 0] 25)).alloc (by simp) (.cells #[.int .i64 0, .int .i64 0] 32))
  have HSP := Lib.hid (strings_Split s 10 _ hs (HM.out.below HW0.out))
  go_enter Tryd.func10, Tryd.ntmps10
  go_upto_region 3 with (go_at_call 21; refine HSP.out.mono ?_; rintro e w1 ⟨AL, cL, rfl, hSL, hb1, hnewL⟩; rw [hn])
  clear hnewL
  have HSL := Lib.hid hSL
  have z1 := hb1.size
  simp only [World.size_alloc] at z1
  have R2 : Blk w1 w.heap.size 25 #[.slice none 0 0, .slice none 0 0] := ((Blk.mk' w _ _).alloc _).next hb1
  have R3 : Blk w1 (w.heap.size + 1) 32 #[.int .i64 0, .int .i64 0] := (Blk.new _ _ _ _ (by simp)).next hb1
  have HR2 := Lib.hid R2
  have HR3 := Lib.hid R3
  have HB1 := Lib.hid (HW0.out.trans (hb1.mono (by simp; omega)) : Below w.heap.size w w1)
  clear R2 R3 hb1 hSL HW0 HSP
  have HP0 := Lib.hid (PgW.start (w := w1.alloc (.cells #[.slice none 0 0, .slice none 0 0] 25)) (b := w1.heap.size) (base := w1.heap.size + 1) (Blk.mk' w1 _ _) (by omega))
  have HV0 := Lib.hid ((Below.refl w1.heap.size w1).alloc (Nat.le_refl _) (.cells #[.slice none 0 0, .slice none 0 0] 25))
  have HZ0 : (w1.alloc (.cells #[.slice none 0 0, .slice none 0 0] 25)).heap.size = w1.heap.size + 1 := by simp
  obtain ⟨aw, e1, hw0⟩ := HSL.out.at_ (k := 0) (by omega)
  subst e1
  obtain ⟨hrun, _⟩ := HSL.out.to_run hn n (by omega)
  clear hw0
  go_wp2_with fail
  generalize (w1.alloc (.cells #[.slice none 0 0, .slice none 0 0] 25)) = V at *
  go_loopw [18] (fun i wx => ∃ (k : Nat) (A : Option Addr) (c : Nat) (v : Value) (es : List RE) (q : PG), k ≤ n ∧ i = .int .i64 k ∧ takeP ((cutB 10 s).take k) = some q ∧ es.length ≤ k ∧ PgW wx w1.heap.size (w1.heap.size + 1) A c v es q ∧
      Below w1.heap.size w1 wx ∧ w1.heap.size + 1 ≤ wx.heap.size) (fun i _ => n - (intOf i).toNat)
  case atStart => exact ⟨0, none, 0, _, [], ⟨[], []⟩, by omega, rfl, rfl, by simp, HP0.out, HV0.out, by omega⟩
  case round =>
    obtain ⟨k, A, c, v, es, q, hk, rfl, htp, hes, hpg, hbel, hz2⟩ := hrel
    rename World => U
    have HP := Lib.hid hpg
    have HB := Lib.hid hbel
    have zU := hbel.size
    clear hpg hbel HP0 HV0 HZ0
    have HWU := Lib.hid (HB1.out.trans (HB.out.mono (by omega)))
    by_cases hlt : k < n
    · have hi0 : (k : Int) < (n : Int) := by omega
      have hkl : k < (cutB 10 s).length := by omega
      obtain ⟨ad, e0, hcl⟩ := (HSL.out.below HB.out).at_ hkl
      injection e0 with e0
      subst e0
      have hsk := HPT.out _ (List.getElem_mem hkl)
      have HBAD := Lib.hid (fun (h : takeP ((cutB 10 s).take (k + 1)) = none) => parF_bad (by omega) htp h)
      have HST := Lib.hid (line_step hkl htp)
      unfold strV at hcl
      have HLN := Lib.hid (text_line w1.heap.size (w1.heap.size + 1) k ((cutB 10 s)[k]) U A c v es q HP.out hz2 (by omega) (by omega) (HT.out.below HWU.out) (HE.out.below HWU.out) (HM.out.below HWU.out))
      generalize (cutB 10 s)[k] = sk at *
      cases hlp : lineP k sk q with
      | none =>
        rw [hlp] at HLN HST
        have HTN := Lib.hid (HBAD.out HST.out)
        have HL2 := Lib.hid (show Calls Tryd.prog 22 #[.pointer (some ⟨w1.heap.size, 0, none⟩), .int .i64 k, .string (bs sk)] U fun e w' => e = .returned (.bool false) ∧ Below w1.heap.size U w' from
          HLN.out.mono fun e w' h => by
            obtain ⟨h1, ⟨_, _, _, _, _, h2, _⟩ | ⟨_, h2⟩⟩ := h
            · cases h2
            · exact ⟨h2, h1⟩)
        go_wp2_with (go_at_call 22; refine HL2.out.mono ?_; rintro e w3 ⟨rfl, hb3⟩; have M2 := HR2.out.next (HB.out.trans hb3); have M3 := HR3.out.next (HB.out.trans hb3); have g20 := M2.frozen 0; have g21 := M2.frozen 1; have g30 := M3.frozen 0; have g31 := M3.frozen 1; have c20 := M2.cell 0; have c21 := M2.cell 1; have c30 := M3.cell 0; have c31 := M3.cell 1; simp at c20 c21 c30 c31)
        refine post_two rfl rfl rfl ((((M2.set0 0 _).set0 1 _).far _ (by simp)).far _ (by simp)) (((((M3.far _ (by simp)).far _ (by simp)).set0 0 _).set0 1 _)) rfl ?_
        refine ⟨((((HB1.out.trans ((HB.out.trans hb3).mono (by omega))).setCell (by simp) _).setCell (by simp) _).setCell (by simp) _).setCell (by simp) _, none, 0, none, 0, ?_, ?_⟩
        · rw [HTN.out]; rfl
        · rw [HTN.out]; exact Pg.nil _
      | some q' =>
        rw [hlp] at HLN HST
        have HL2 := Lib.hid (show Calls Tryd.prog 22 #[.pointer (some ⟨w1.heap.size, 0, none⟩), .int .i64 k, .string (bs sk)] U fun e w' => e = .returned (.bool true) ∧ Below w1.heap.size U w' ∧ ∃ A c v es', es'.length ≤ es.length + 1 ∧ PgW w' w1.heap.size (w1.heap.size + 1) A c v es' q' from
          HLN.out.mono fun e w' h => by
            obtain ⟨h1, ⟨q2, A2, c2, v2, es2, h2, h3, h4, h5⟩ | ⟨h2, _⟩⟩ := h
            · injection h2 with h2; subst h2
              exact ⟨h3, h1, A2, c2, v2, es2, h4, h5⟩
            · cases h2)
        go_wp2_with (go_at_call 22; refine HL2.out.mono ?_; rintro e w3 ⟨rfl, hb3, A3, c3, v3, es3, hes3, hp3⟩)
        go_roundw
        case rel => exact ⟨k + 1, A3, c3, v3, es3, q', by omega, by go_num, HST.out, by omega, hp3, HB.out.trans hb3, by have := hb3.size; omega⟩
        case measure => simp [intOf]; omega
    · obtain rfl : k = n := by omega
      have hd0 : decide ((k : Int) < (k : Int)) = false := by simp
      have hkl : k < (cutB 10 s).length := by omega
      obtain ⟨ad, e0, hcl⟩ := (HSL.out.below HB.out).at_ hkl
      injection e0 with e0
      subst e0
      have hi1 : (k : Int) < (k : Int) + 1 := by omega
      have hlast : (cutB 10 s).getLastD [] = (cutB 10 s)[k] := by
        rw [List.getLastD_eq_getLast?, List.getLast?_eq_getElem?, show (cutB 10 s).length - 1 = k by omega, List.getElem?_eq_getElem hkl]; rfl
      have HPF := Lib.hid (show parF s = if (cutB 10 s)[k] = [] ∧ mayPB q = true then (q, 0, 0) else (⟨[], []⟩, 2, k) from by
        have := parF_end (s := s) (q := q) (by rw [show (cutB 10 s).length - 1 = k by omega]; exact htp)
        rw [this, hlast, show (cutB 10 s).length - 1 = k by omega])
      obtain ⟨A2, c2, rfl, hPg⟩ := HP.out.read (by omega)
      have HMA := Lib.hid (layout_May A c A2 c2 q U hPg)
      have hq0 : ((bs (cutB 10 s)[k]).toList == []) = decide ((cutB 10 s)[k] = []) := by rw [bs_list]; exact Bool.beq_eq_decide_eq _ _
      have hq2 : (bs (cutB 10 s)[k]).toList.isEmpty = decide ((cutB 10 s)[k] = []) := by rw [bs_list]; cases (cutB 10 s)[k] <;> simp
      unfold strV at hcl
      clear hPg hlast
      generalize (cutB 10 s)[k] = lk at *
      have M2 := HR2.out.next HB.out
      have M3 := HR3.out.next HB.out
      have p0 := HP.out.blk.cell 0
      have p1 := HP.out.blk.cell 1
      have g20 := M2.frozen 0
      have g21 := M2.frozen 1
      have g30 := M3.frozen 0
      have g31 := M3.frozen 1
      have c20 := M2.cell 0
      have c21 := M2.cell 1
      have c30 := M3.cell 0
      have c31 := M3.cell 1
      simp at p0 p1 c20 c21 c30 c31
      by_cases hlk : lk = []
      · have hmt : decide (lk = []) = true := by simpa using hlk
        cases hmay : mayPB q with
        | false =>
          rw [if_neg (by rw [hmay]; simp)] at HPF
          rw [hmay] at HMA
          clear hlk
          go_wp2_with (go_at_call 13; refine HMA.out.mono ?_; rintro e w7 ⟨rfl, hb7⟩; have M2 := M2.next hb7; have M3 := M3.next hb7; have MP7 := (HP.out.next hb7).blk; have p0 := MP7.cell 0; have p1 := MP7.cell 1; have g20 := M2.frozen 0; have g21 := M2.frozen 1; have g30 := M3.frozen 0; have g31 := M3.frozen 1; have c20 := M2.cell 0; have c21 := M2.cell 1; have c30 := M3.cell 0; have c31 := M3.cell 1; simp at p0 p1 c20 c21 c30 c31)
          refine post_two rfl rfl rfl ((((M2.set0 0 _).set0 1 _).far _ (by simp)).far _ (by simp)) (((((M3.far _ (by simp)).far _ (by simp)).set0 0 _).set0 1 _)) rfl ?_
          refine ⟨((((HB1.out.trans ((HB.out.trans (hb7.mono zU)).mono (by omega))).setCell (by simp) _).setCell (by simp) _).setCell (by simp) _).setCell (by simp) _, none, 0, none, 0, ?_, ?_⟩
          · rw [HPF.out]; rfl
          · rw [HPF.out]; exact Pg.nil _
        | true =>
          rw [if_pos ⟨hlk, hmay⟩] at HPF
          rw [hmay] at HMA
          clear hlk
          go_wp2_with (go_at_call 13; refine HMA.out.mono ?_; rintro e w7 ⟨rfl, hb7⟩; have M2 := M2.next hb7; have M3 := M3.next hb7; have MP7 := (HP.out.next hb7).blk; have p0 := MP7.cell 0; have p1 := MP7.cell 1; have g20 := M2.frozen 0; have g21 := M2.frozen 1; have g30 := M3.frozen 0; have g31 := M3.frozen 1; have c20 := M2.cell 0; have c21 := M2.cell 1; have c30 := M3.cell 0; have c31 := M3.cell 1; simp at p0 p1 c20 c21 c30 c31)
          refine post_two rfl rfl rfl ((((M2.set0 0 _).set0 1 _).far _ (by simp)).far _ (by simp)) (((((M3.far _ (by simp)).far _ (by simp)).set0 0 _).set0 1 _)) rfl ?_
          have hPW := (((((HP.out.next hb7).far ⟨w.heap.size, 0, none⟩ (.slice A q.costs.length c) (by simp; omega) (by simp; omega)).far ⟨w.heap.size, 1, none⟩ (.slice A2 q.rows.length c2) (by simp; omega) (by simp; omega)).far ⟨w.heap.size + 1, 0, none⟩ (.int .i64 0) (by simp; omega) (by simp; omega)).far ⟨w.heap.size + 1, 1, none⟩ (.int .i64 0) (by simp; omega) (by simp; omega))
          obtain ⟨A3, c3, e3, hPz⟩ := hPW.read (by omega)
          injection e3 with e3 e4 e5
          subst e3 e5
          refine ⟨((((HB1.out.trans ((HB.out.trans (hb7.mono zU)).mono (by omega))).setCell (by simp) _).setCell (by simp) _).setCell (by simp) _).setCell (by simp) _, A, c, A2, c2, ?_, ?_⟩
          · rw [HPF.out]; rfl
          · rw [HPF.out]; exact hPz
      · have hmt : decide (lk = []) = false := by simpa using hlk
        rw [if_neg (fun h => hlk h.1)] at HPF
        clear hlk
        go_wp2_with fail
        refine post_two rfl rfl rfl ((((M2.set0 0 _).set0 1 _).far _ (by simp)).far _ (by simp)) (((((M3.far _ (by simp)).far _ (by simp)).set0 0 _).set0 1 _)) rfl ?_
        refine ⟨((((HB1.out.trans (HB.out.mono (by omega))).setCell (by simp) _).setCell (by simp) _).setCell (by simp) _).setCell (by simp) _, none, 0, none, 0, ?_, ?_⟩
        · rw [HPF.out]; rfl
        · rw [HPF.out]; exact Pg.nil _
end Go.Proofs.YtjcdkbalhleeeabDoor
