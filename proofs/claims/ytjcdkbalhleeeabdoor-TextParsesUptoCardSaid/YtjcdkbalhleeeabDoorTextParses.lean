/-
  The walk of the law TextParses: it returns true. Conditions: the library's variables hold what its text lays; the text is of a machine's size.
-/
import Derived.Test.YtjcdkbalhleeeabDoorTxtL
import Derived.Test.YtjcdkbalhleeeabDoorTxtH
import Derived.Test.YtjcdkbalhleeeabDoorTxtM
namespace Go.Proofs.YtjcdkbalhleeeabDoor
open Go.Proofs Go.RowKit

set_option maxRecDepth 100000 in
set_option maxHeartbeats 2000000 in
theorem textParses_walk (s : List UInt8) (w : World) (hs : s.length ≤ 1073741824) (ht : Tab w) (he : Errs w) (hm : MaxL w) :
    Calls Tryd.prog 4 #[.string (bs s)] w fun e w' => e = .returned (.bool true) ∧ Below w.heap.size w w' := by
  have HTP := Lib.hid (text_Parse s w hs ht he hm)
  have HRP := Lib.hid (fun W => ref9_Parse s W hs)
  clear ht he hm
  generalize parF s = r at *
  obtain ⟨q, e1, e2⟩ := r
  go_enter Tryd.func4, Tryd.ntmps4
  go_upto_region 2 with (go_at_call 10; refine HTP.out.mono ?_; rintro e w1 ⟨hb1, A, c, A2, c2, rfl, hP1⟩)
  have HP1 := Lib.hid hP1
  have z1 := hb1.size
  have B3 := Lib.hid ((Blk.mk' w1 25 #[.slice A q.costs.length c, .slice A2 q.rows.length c2]).alloc (.cells #[.int .i64 e1, .int .i64 e2] 32))
  have B4 := Lib.hid (Blk.new (w1.alloc (.cells #[.slice A q.costs.length c, .slice A2 q.rows.length c2] 25)) 32 #[.int .i64 e1, .int .i64 e2] (w1.heap.size + 1) (by simp))
  have HU := Lib.hid (((Below.refl w1.heap.size w1).alloc (Nat.le_refl _) (.cells #[.slice A q.costs.length c, .slice A2 q.rows.length c2] 25)).alloc (by simp) (.cells #[.int .i64 e1, .int .i64 e2] 32))
  have HB1 := Lib.hid hb1
  clear hb1 hP1
  generalize ((w1.alloc (.cells #[.slice A q.costs.length c, .slice A2 q.rows.length c2] 25)).alloc (.cells #[.int .i64 e1, .int .i64 e2] 32)) = U at *
  have zU := HU.out.size
  have lU := B4.out.lt
  go_upto_region 3 with (go_at_call 11; refine (HRP.out _).mono ?_; rintro e w2 ⟨hb2, A', c', A2', c2', rfl, hP2⟩)
  have z2 := hb2.size
  have HB2 := Lib.hid (HB1.out.trans ((HU.out.trans (hb2.mono zU)).mono z1))
  have HP1' := Lib.hid (HP1.out.below (HU.out.trans (hb2.mono zU)))
  have B3' := Lib.hid (B3.out.next hb2)
  have B4' := Lib.hid (B4.out.next hb2)
  have B5 := Lib.hid ((Blk.mk' w2 25 #[.slice A' q.costs.length c', .slice A2' q.rows.length c2']).alloc (.cells #[.int .i64 e1, .int .i64 e2] 32))
  have B6 := Lib.hid (Blk.new (w2.alloc (.cells #[.slice A' q.costs.length c', .slice A2' q.rows.length c2'] 25)) 32 #[.int .i64 e1, .int .i64 e2] (w2.heap.size + 1) (by simp))
  have HV := Lib.hid (((Below.refl w2.heap.size w2).alloc (Nat.le_refl _) (.cells #[.slice A' q.costs.length c', .slice A2' q.rows.length c2'] 25)).alloc (by simp) (.cells #[.int .i64 e1, .int .i64 e2] 32))
  have HP2 := Lib.hid hP2
  clear hb2 hP2
  generalize ((w2.alloc (.cells #[.slice A' q.costs.length c', .slice A2' q.rows.length c2'] 25)).alloc (.cells #[.int .i64 e1, .int .i64 e2] 32)) = V at *
  have c3 := (B3'.out.next HV.out).cell 0
  have c3' := (B3'.out.next HV.out).cell 1
  have c4 := (B4'.out.next HV.out).cell 0
  have c4' := (B4'.out.next HV.out).cell 1
  have c5 := B5.out.cell 0
  have c5' := B5.out.cell 1
  have c6 := B6.out.cell 0
  have c6' := B6.out.cell 1
  simp at c3 c3' c4 c4' c5 c5' c6 c6'
  have HSM := Lib.hid (ref9_Same A c A2 c2 A' c' A2' c2' q V (HP1'.out.below HV.out) (HP2.out.below HV.out))
  have z2' := HB2.out.size
  go_wp2_with (go_at_call 12; refine HSM.out.mono ?_; rintro e w3 ⟨rfl, hb3⟩)
  go_ret
  exact ⟨rfl, HB2.out.trans ((HV.out.trans (hb3.mono HV.out.size)).mono z2')⟩
end Go.Proofs.YtjcdkbalhleeeabDoor
