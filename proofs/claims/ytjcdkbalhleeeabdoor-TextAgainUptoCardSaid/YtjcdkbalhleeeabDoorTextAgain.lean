/-
  The walk of the law TextAgain: it returns true. Conditions: the library's variables hold what its text lays; the text is of a machine's size.
-/
import Derived.Test.YtjcdkbalhleeeabDoorTxtL
import Derived.Test.YtjcdkbalhleeeabDoorTxtD
namespace Go.Proofs.YtjcdkbalhleeeabDoor
open Go.Proofs Go.RowKit

set_option maxRecDepth 100000 in
set_option maxHeartbeats 2000000 in
theorem textAgain_walk (s : List UInt8) (w : World) (hs : s.length ≤ 1073741824) (ht : Tab w) (he : Errs w) (hm : MaxL w) :
    Calls Tryd.prog 6 #[.string (bs s)] w fun e w' => e = .returned (.bool true) ∧ Below w.heap.size w w' := by
  have HT := Lib.hid ht
  have HE := Lib.hid he
  have HM := Lib.hid hm
  have HK := Lib.hid (show Calls Tryd.prog 10 #[.string { data := #[109, 111, 115, 116, 32, 49, 10, 50, 32, 60, 61, 32, 51, 10] }] w (RetPr w (parF [109, 111, 115, 116, 32, 49, 10, 50, 32, 60, 61, 32, 51, 10])) from text_Parse [109, 111, 115, 116, 32, 49, 10, 50, 32, 60, 61, 32, 51, 10] w (by decide) ht he hm)
  clear ht he hm
  have hkn := known_text
  generalize parF [109, 111, 115, 116, 32, 49, 10, 50, 32, 60, 61, 32, 51, 10] = r1 at *
  obtain ⟨q1, k1, k2⟩ := r1
  have hkn : q1.rows.length = 1 := hkn
  go_enter Tryd.func6, Tryd.ntmps6
  go_upto_region 2 with (go_at_call 10; refine HK.out.mono ?_; rintro e w1 ⟨hb1, A, c, A2, c2, rfl, _⟩; simp only []; rw [hkn])
  have z1 := hb1.size
  have B3 := Lib.hid ((Blk.mk' w1 25 #[.slice A q1.costs.length c, .slice A2 1 c2]).alloc (.cells #[.int .i64 k1, .int .i64 k2] 32))
  have HU := Lib.hid (((Below.refl w1.heap.size w1).alloc (Nat.le_refl _) (.cells #[.slice A q1.costs.length c, .slice A2 1 c2] 25)).alloc (by simp) (.cells #[.int .i64 k1, .int .i64 k2] 32))
  generalize ((w1.alloc (.cells #[.slice A q1.costs.length c, .slice A2 1 c2] 25)).alloc (.cells #[.int .i64 k1, .int .i64 k2] 32)) = U at *
  have zU := HU.out.size
  have HBU := Lib.hid (hb1.trans (HU.out.mono z1))
  have d1 := B3.out.cell 1
  simp at d1
  clear hb1 HK
  have HPA := Lib.hid (text_Parse s U hs (HT.out.below HBU.out) (HE.out.below HBU.out) (HM.out.below HBU.out))
  have HTP := Lib.hid (@text_par s)
  have HPC := Lib.hid (parF_cases s)
  generalize parF s = r at *
  obtain ⟨q, e1, e2⟩ := r
  go_upto_region 5 with (go_at_call 10; refine HPA.out.mono ?_; rintro e w2 ⟨hb2, A', c', A2', c2', rfl, hP2⟩)
  have hP2 : Pg w2 A' c' A2' c2' q := hP2
  have z2 := hb2.size
  have HP2 := Lib.hid hP2
  have HB2 := Lib.hid (HBU.out.trans (hb2.mono (by omega)))
  have B5 := Lib.hid ((Blk.mk' w2 25 #[.slice A' q.costs.length c', .slice A2' q.rows.length c2']).alloc (.cells #[.int .i64 e1, .int .i64 e2] 32))
  have B6 := Lib.hid (Blk.new (w2.alloc (.cells #[.slice A' q.costs.length c', .slice A2' q.rows.length c2'] 25)) 32 #[.int .i64 e1, .int .i64 e2] (w2.heap.size + 1) (by simp))
  have HV := Lib.hid (((Below.refl w2.heap.size w2).alloc (Nat.le_refl _) (.cells #[.slice A' q.costs.length c', .slice A2' q.rows.length c2'] 25)).alloc (by simp) (.cells #[.int .i64 e1, .int .i64 e2] 32))
  clear hP2 hb2
  generalize ((w2.alloc (.cells #[.slice A' q.costs.length c', .slice A2' q.rows.length c2'] 25)).alloc (.cells #[.int .i64 e1, .int .i64 e2] 32)) = V at *
  have c5 := B5.out.cell 0
  have c5' := B5.out.cell 1
  have c6 := B6.out.cell 0
  have c6' := B6.out.cell 1
  simp at c5 c5' c6 c6'
  have z2' := HB2.out.size
  rcases HPC.out with ⟨q2, e0, _, _, hmay⟩ | ⟨k, e0, _⟩
  · simp only [Prod.mk.injEq] at e0
    obtain ⟨rfl, rfl, rfl⟩ := e0
    obtain ⟨_, htx⟩ := HTP.out rfl
    have htx : textF q = s := htx
    have HBV := Lib.hid (HB2.out.trans (HV.out.mono z2'))
    have HPR := Lib.hid (text_Print A' c' A2' c2' q V (HP2.out.below HV.out) (HT.out.below HBV.out))
    unfold prtV at HPR
    rw [if_pos hmay, if_pos hmay, htx] at HPR
    have hq0 : ((bs s).toList == (bs s).toList) = true := by simp
    go_wp2_with (go_at_call 7; refine HPR.out.mono ?_; rintro e w3 ⟨rfl, hb3⟩)
    go_ret
    exact ⟨by simp, HBV.out.trans (hb3.mono HBV.out.size)⟩
  · simp only [Prod.mk.injEq] at e0
    obtain ⟨rfl, rfl, rfl⟩ := e0
    go_wp2_with fail
    go_ret
    exact ⟨rfl, HB2.out.trans (HV.out.mono z2')⟩
end Go.Proofs.YtjcdkbalhleeeabDoor
