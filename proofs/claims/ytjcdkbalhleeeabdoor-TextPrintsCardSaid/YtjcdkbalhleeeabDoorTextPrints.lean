/-
  The walk of the law TextPrints: it returns true. Condition: the library's table of powers of ten is there.
-/
import Derived.Test.YtjcdkbalhleeeabDoorTxtD
import Derived.Test.YtjcdkbalhleeeabDoorTxtE
import Derived.Test.YtjcdkbalhleeeabDoorR2m
namespace Go.Proofs.YtjcdkbalhleeeabDoor
open Go.Proofs Go.RowKit

set_option maxRecDepth 100000 in
set_option maxHeartbeats 2000000 in
theorem textPrints_walk (A : Option Addr) (c : Nat) (A2 : Option Addr) (c2 : Nat) (p : PG) (w : World) (hp : Pg w A c A2 c2 p) (ht : Tab w) :
    Calls Tryd.prog 3 #[.agg #[.slice A p.costs.length c, .slice A2 p.rows.length c2]] w fun e w' => e = .returned (.bool true) ∧ Below w.heap.size w w' := by
  have HP := Lib.hid hp
  have HT := Lib.hid ht
  obtain ⟨⟨hl, hc, hsm, _⟩, ⟨hl2, hc2, hsm2, _⟩⟩ := hp
  clear ht
  go_enter Tryd.func3, Tryd.ntmps3
  go_wp2_with fail
  have BP := Lib.hid (Blk.mk' w 25 #[.slice A p.costs.length c, .slice A2 p.rows.length c2])
  have HBU := Lib.hid ((Below.refl w.heap.size w).alloc (Nat.le_refl _) (.cells #[.slice A p.costs.length c, .slice A2 p.rows.length c2] 25))
  generalize (w.alloc (.cells #[.slice A p.costs.length c, .slice A2 p.rows.length c2] 25)) = U at *
  have zU := HBU.out.size
  have lU := BP.out.lt
  refine (text_Print _ _ _ _ p _ (HP.out.below HBU.out) (HT.out.below HBU.out)).mono ?_
  rintro e w1 ⟨rfl, hb1⟩
  have H1 := Lib.hid (HBU.out.trans (hb1.mono zU))
  have z1 := H1.out.size
  have B1 := Lib.hid (BP.out.next hb1)
  have b0 : w1.cell? ⟨w.heap.size, 0, none⟩ = some (.slice A p.costs.length c) := B1.out.cell 0
  have b1 : w1.cell? ⟨w.heap.size, 1, none⟩ = some (.slice A2 p.rows.length c2) := B1.out.cell 1
  clear hb1
  have HP1 := Lib.hid (HP.out.below H1.out)
  cases hm : mayPB p with
  | false =>
    unfold prtV
    rw [if_neg (by simp [hm]), if_neg (by simp [hm])]
    go_wp2_with (go_at_call 8; refine (ref2_MayD _ _ _ _ p _ HP1.out).mono ?_; rintro e w2 ⟨rfl, hb2⟩; rw [hm])
    go_ret
    exact ⟨by show Ending.returned (.bool (bs []).toList.isEmpty) = _; rw [bs_list]; rfl, H1.out.trans (hb2.mono z1)⟩
  | true =>
    unfold prtV
    rw [if_pos hm, if_pos hm]
    have HTX := Lib.hid (fun (X : World) (hX : Below w1.heap.size w1 X) => ref9_Text _ _ _ _ p X (HP1.out.below hX) hm)
    go_wp2_with (first
      | (go_at_call 8; refine (ref2_MayD _ _ _ _ p _ HP1.out).mono ?_; rintro e w2 ⟨rfl, hb2⟩; rw [hm]; have c0 := (hb2.cell (World.block_lt_of_cell? _ _ b0)).trans b0; have c1 := (hb2.cell (World.block_lt_of_cell? _ _ b1)).trans b1)
      | (go_at_call 9; refine (HTX.out _ hb2).mono ?_; rintro e w3 ⟨rfl, hb3⟩))
    go_ret
    exact ⟨by simp, H1.out.trans ((hb2.trans (hb3.mono hb2.size)).mono z1)⟩
end Go.Proofs.YtjcdkbalhleeeabDoor
