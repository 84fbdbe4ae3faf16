/-
  The walk of the law TextBack: it returns true. Condition: the library's variables hold what its text lays.
-/
import Derived.Test.YtjcdkbalhleeeabDoorTxtL
import Derived.Test.YtjcdkbalhleeeabDoorTxtD
import Derived.Test.YtjcdkbalhleeeabDoorTxtM
namespace Go.Proofs.YtjcdkbalhleeeabDoor
open Go.Proofs Go.RowKit

theorem textF_len {p : PG} (h : mayPB p = true) : (textF p).length ≤ 1000 := by
  have h4 := mayPB_iff.1 h
  have h1 := rowsT_len h p.rows.length (Nat.le_refl _)
  have h2 := costT_len h4.2.2.2.2.1 h4.2.1
  rw [List.take_length] at h1
  unfold textF
  rw [List.length_append]; omega
set_option maxRecDepth 100000 in
set_option maxHeartbeats 2000000 in
theorem textBack_walk (A : Option Addr) (c : Nat) (A2 : Option Addr) (c2 : Nat) (p : PG) (w : World) (hp : Pg w A c A2 c2 p) (ht : Tab w) (he : Errs w) (hm : MaxL w) :
    Calls Tryd.prog 5 #[.agg #[.slice A p.costs.length c, .slice A2 p.rows.length c2]] w fun e w' => e = .returned (.bool true) ∧ Below w.heap.size w w' := by
  have HP := Lib.hid hp
  have HT := Lib.hid ht
  have HE := Lib.hid he
  have HM := Lib.hid hm
  obtain ⟨⟨hl, hc, hsm, _⟩, ⟨hl2, hc2, hsm2, _⟩⟩ := hp
  clear ht he hm
  go_enter Tryd.func5, Tryd.ntmps5
  go_wp2_with fail
  have BP := Lib.hid (Blk.mk' w 25 #[.slice A p.costs.length c, .slice A2 p.rows.length c2])
  have HBU := Lib.hid ((Below.refl w.heap.size w).alloc (Nat.le_refl _) (.cells #[.slice A p.costs.length c, .slice A2 p.rows.length c2] 25))
  generalize (w.alloc (.cells #[.slice A p.costs.length c, .slice A2 p.rows.length c2] 25)) = U at *
  have zU := HBU.out.size
  have lU := BP.out.lt
  refine (text_Print _ _ _ _ p _ (HP.out.below HBU.out) (HT.out.below HBU.out)).mono ?_
  rintro e w1 ⟨rfl, hb1⟩
  have H1 := Lib.hid (HBU.out.trans (hb1.mono zU))
  have z1 := H1.out.size
  have B1 := Lib.hid (BP.out.next hb1)
  clear hb1
  have HP1 := Lib.hid (HP.out.below H1.out)
  cases hmay : mayPB p with
  | false =>
    unfold prtV
    rw [if_neg (by simp [hmay]), if_neg (by simp [hmay])]
    go_wp2_with fail
    go_ret
    exact ⟨by show Ending.returned (.bool (bs []).toList.isEmpty) = _; rw [bs_list]; rfl, H1.out⟩
  | true =>
    unfold prtV
    rw [if_pos hmay, if_pos hmay]
    have hlen := textF_len hmay
    have HPA := Lib.hid (text_Parse (textF p) w1 (by omega) (HT.out.below H1.out) (HE.out.below H1.out) (HM.out.below H1.out))
    have hpt := par_text hmay
    rw [hpt] at HPA
    have hne : (bs (textF p)).toList ≠ [] := by rw [bs_list]; exact text_ne p
    have hne1 : (bs (textF p)).toList.isEmpty = false := by rw [bs_list]; cases h : textF p with
      | nil => exact absurd h (text_ne p)
      | cons _ _ => rfl
    have hne2 : ((bs (textF p)).toList == []) = false := by simpa using hne
    clear hpt hlen hne
    generalize textF p = tx at *
    go_upto_region 5 with (go_at_call 10; refine HPA.out.mono ?_; rintro e w2 ⟨hb2, A', c', A2', c2', rfl, hP2⟩)
    have hP2 : Pg w2 A' c' A2' c2' p := hP2
    have z2 := hb2.size
    have HP2 := Lib.hid hP2
    have HPz := Lib.hid (HP1.out.below hb2)
    have HB2 := Lib.hid (H1.out.trans (hb2.mono z1))
    have B2 := Lib.hid (B1.out.next hb2)
    clear hP2 hb2
    have B5 := Lib.hid ((Blk.mk' w2 25 #[.slice A' p.costs.length c', .slice A2' p.rows.length c2']).alloc (.cells #[.int .i64 0, .int .i64 0] 32))
    have B6 := Lib.hid (Blk.new (w2.alloc (.cells #[.slice A' p.costs.length c', .slice A2' p.rows.length c2'] 25)) 32 #[.int .i64 0, .int .i64 0] (w2.heap.size + 1) (by simp))
    have HV := Lib.hid (((Below.refl w2.heap.size w2).alloc (Nat.le_refl _) (.cells #[.slice A' p.costs.length c', .slice A2' p.rows.length c2'] 25)).alloc (by simp) (.cells #[.int .i64 0, .int .i64 0] 32))
    generalize hV : ((w2.alloc (.cells #[.slice A' p.costs.length c', .slice A2' p.rows.length c2'] 25)).alloc (.cells #[.int .i64 0, .int .i64 0] 32)) = V at B5 B6 HV
    have e0 : (w2.alloc (.cells #[.slice A' p.costs.length c', .slice A2' p.rows.length c2'] 25)).alloc (.cells #[.int .i64 0, .int .i64 ((0 : Nat) : Int)] 32) = V := hV
    (try rw [e0])
    (try rw [hV])
    clear hV e0
    have c1 := (B2.out.next HV.out).cell 0
    have c1' := (B2.out.next HV.out).cell 1
    have c5 := B5.out.cell 0
    have c5' := B5.out.cell 1
    have c6 := B6.out.cell 0
    have c6' := B6.out.cell 1
    simp at c1 c1' c5 c5' c6 c6'
    have HSM := Lib.hid (ref9_Same A c A2 c2 A' c' A2' c2' p V (HPz.out.below HV.out) (HP2.out.below HV.out))
    have z2' := HB2.out.size
    go_wp2_with (go_at_call 12; refine HSM.out.mono ?_; rintro e w3 ⟨rfl, hb3⟩)
    go_ret
    exact ⟨rfl, HB2.out.trans ((HV.out.trans (hb3.mono HV.out.size)).mono z2')⟩
end Go.Proofs.YtjcdkbalhleeeabDoor
