/-
  Contracts of functions and plain laws that later parts of the proof use. The conditions stand in each theorem.
-/
import Derived.Test.YtjcdkbalhleeeaaGreatDoorG06
import Derived.Test.YtjcdkbalhleeeaaGreatDoorG37
import Derived.Test.YtjcdkbalhleeeaaGreatDoorG33
import Derived.Test.YtjcdkbalhleeeaaGreatDoorG11
import Derived.Test.YtjcdkbalhleeeaaGreatDoorG13
set_option maxRecDepth 100000
namespace Go.Proofs.YtjcdkbalhleeeaaGreatDoor
open Go.RowKit
def solA (p : PG) : AN := if mayPB p = true then solZ p else ⟨0, [], 0, [], 0, [], 0, 0, 0⟩
def solEr (p : PG) : Int := if mayPB p = true then 0 else 2
def RetSo (w : World) (p : PG) (e : Ending) (w' : World) : Prop :=
 Below w.heap.size w w' ∧ ∃ X cx Y cy R cr, e = .returned (.tuple #[anV X cx Y cy R cr (solA p), .int .i64 (solEr p)]) ∧ An w' X cx Y cy R cr (solA p)
theorem corner_LookN (A : Option Addr) (c : Nat) (A2 : Option Addr) (c2 : Nat) (p : PG) (L : Option Addr) (l : List Nat) (cl : Nat) (w : World) (hp : Pg w A c A2 c2 p) (hr : Rd w L cl (ints l)) (hb : Bs p l) :
    Calls Tryz.prog 20 #[.agg #[.slice A p.costs.length c, .slice A2 p.rows.length c2], .slice L l.length cl] w (RetCoN w (lookN p l) 0) := by
 have := look_mainN A c A2 c2 p L (ints l) cl w hp hr hb.hp (right_ints hb.hr)
 rw [intsN_len, look_ints hb.hp hb.hr hb.hd] at this
 exact this
set_option maxHeartbeats 1000000 in
theorem solve_bad (A : Option Addr) (c : Nat) (A2 : Option Addr) (c2 : Nat) (p : PG) (w : World) (hp : Pg w A c A2 c2 p) (hm : mayPB p = false) :
    Calls Tryz.prog 17 #[.agg #[.slice A p.costs.length c, .slice A2 p.rows.length c2]] w (RetSo w p) := by
 have HM := h_ hm
 clear hm
 have HP := h_ hp
 clear hp
 go_enter Tryz.func17, Tryz.ntmps17
 go_upto_region 1 with fail
 have BP := h_ (show Blk ((w.alloc (.cells #[.slice A p.costs.length c, .slice A2 p.rows.length c2] 28)).alloc (.cells #[.int .i64 0, .slice none 0 0, .int .i64 0, .slice none 0 0, .int .i64 0, .slice none 0 0, .int .i64 0, .int .i64 0, .int .i64 0] 57)) w.heap.size 28 #[.slice A p.costs.length c, .slice A2 p.rows.length c2] from (Blk.mk' _ _ _).alloc _)
 have BR := h_ (show Blk ((w.alloc (.cells #[.slice A p.costs.length c, .slice A2 p.rows.length c2] 28)).alloc (.cells #[.int .i64 0, .slice none 0 0, .int .i64 0, .slice none 0 0, .int .i64 0, .slice none 0 0, .int .i64 0, .int .i64 0, .int .i64 0] 57)) (w.heap.size + 1) 57 #[.int .i64 0, .slice none 0 0, .int .i64 0, .slice none 0 0, .int .i64 0, .slice none 0 0, .int .i64 0, .int .i64 0, .int .i64 0] from by
  have := Blk.mk' (w.alloc (.cells #[.slice A p.costs.length c, .slice A2 p.rows.length c2] 28)) 57 #[.int .i64 0, .slice none 0 0, .int .i64 0, .slice none 0 0, .int .i64 0, .slice none 0 0, .int .i64 0, .int .i64 0, .int .i64 0]
  simpa using this)
 have HW := h_ ((by (repeat (any_goals (first | exact qR _ _ | refine below_drewN ?_ _ | refine qD ?_ | refine qA ?_ ?_ _ | refine qS ?_ ?_ _))); all_goals (first | omega | (simp; done) | (simp; omega))) : Below w.heap.size w ((w.alloc (.cells #[.slice A p.costs.length c, .slice A2 p.rows.length c2] 28)).alloc (.cells #[.int .i64 0, .slice none 0 0, .int .i64 0, .slice none 0 0, .int .i64 0, .slice none 0 0, .int .i64 0, .int .i64 0, .int .i64 0] 57)))
 have lW : ((w.alloc (.cells #[.slice A p.costs.length c, .slice A2 p.rows.length c2] 28)).alloc (.cells #[.int .i64 0, .slice none 0 0, .int .i64 0, .slice none 0 0, .int .i64 0, .slice none 0 0, .int .i64 0, .int .i64 0, .int .i64 0] 57)).heap.size = w.heap.size + 2 := by simp
 generalize ((w.alloc (.cells #[.slice A p.costs.length c, .slice A2 p.rows.length c2] 28)).alloc (.cells #[.int .i64 0, .slice none 0 0, .int .i64 0, .slice none 0 0, .int .i64 0, .slice none 0 0, .int .i64 0, .int .i64 0, .int .i64 0] 57)) = W at *
 have p0 : W.cell? ⟨w.heap.size, 0, none⟩ = some (.slice A p.costs.length c) := BP.out.cell 0
 have p1 : W.cell? ⟨w.heap.size, 1, none⟩ = some (.slice A2 p.rows.length c2) := BP.out.cell 1
 go_wp2_with fail
 refine (layout_May A c A2 c2 p W (HP.out.below HW.out)).mono ?_
 rintro e w1 ⟨rfl, hb1⟩
 have H1 := h_ hb1
 have z1 := hb1.size
 clear p0 p1 hb1
 rw [HM.out]
 have HBR := h_ (BR.out.next H1.out)
 have r0 : w1.cell? ⟨w.heap.size + 1, 0, none⟩ = some (.int .i64 0) := HBR.out.cell 0
 have r1 : w1.cell? ⟨w.heap.size + 1, 1, none⟩ = some (.slice none 0 0) := HBR.out.cell 1
 have r2 : w1.cell? ⟨w.heap.size + 1, 2, none⟩ = some (.int .i64 0) := HBR.out.cell 2
 have r3 : w1.cell? ⟨w.heap.size + 1, 3, none⟩ = some (.slice none 0 0) := HBR.out.cell 3
 have r4 : w1.cell? ⟨w.heap.size + 1, 4, none⟩ = some (.int .i64 0) := HBR.out.cell 4
 have r5 : w1.cell? ⟨w.heap.size + 1, 5, none⟩ = some (.slice none 0 0) := HBR.out.cell 5
 have r6 : w1.cell? ⟨w.heap.size + 1, 6, none⟩ = some (.int .i64 0) := HBR.out.cell 6
 have r7 : w1.cell? ⟨w.heap.size + 1, 7, none⟩ = some (.int .i64 0) := HBR.out.cell 7
 have r8 : w1.cell? ⟨w.heap.size + 1, 8, none⟩ = some (.int .i64 0) := HBR.out.cell 8
 have f0 := HBR.out.frozen 0
 have f1 := HBR.out.frozen 1
 have f2 := HBR.out.frozen 2
 have f3 := HBR.out.frozen 3
 have f4 := HBR.out.frozen 4
 have f5 := HBR.out.frozen 5
 have f6 := HBR.out.frozen 6
 have f7 := HBR.out.frozen 7
 have f8 := HBR.out.frozen 8
 go_wp2_with fail
 refine bodyPost_ret (v := .tuple #[anV none 0 none 0 none 0 ⟨0, [], 0, [], 0, [], 0, 0, 0⟩, .int .i64 2]) (by simp [results, Tryz.results17, go_sem, anV, r0, r1, r2, r3, r4, r5, r6, r7, r8]) rfl ?_
 unfold RetSo solA solEr
 rw [HM.out]
 refine ⟨?_, none, 0, none, 0, none, 0, rfl, ⟨Rd.nil _, Rd.nil _, Rd.nil _⟩⟩
 iterate 9 refine Below.setCell ?_ (by simp) _
 exact HW.out.trans (H1.out.mono HW.out.size)
set_option maxHeartbeats 1000000 in
theorem solve_none (A : Option Addr) (c : Nat) (A2 : Option Addr) (c2 : Nat) (p : PG) (w : World) (hp : Pg w A c A2 c2 p) (hm : mayPB p = true) (hn : begZ p = none) :
    Calls Tryz.prog 17 #[.agg #[.slice A p.costs.length c, .slice A2 p.rows.length c2]] w (RetSo w p) := by
 have HM := h_ hm
 have HN := h_ hn
 have q26 : ∀ (w : World) (a : Option Addr) (n c n' c' : Nat), (binOp .eql 51 (.slice a n c) (.slice none n' c')).run Tryz.prog w = .ok (.bool a.isNone) w := fun w a n c n' c' => Lib.run_eql_slice_nil w _ _ a n c n' c' und_intS1
 clear hm hn
 have HP := h_ hp
 clear hp
 go_enter Tryz.func17, Tryz.ntmps17
 go_upto_region 1 with fail
 have BP := h_ (show Blk ((w.alloc (.cells #[.slice A p.costs.length c, .slice A2 p.rows.length c2] 28)).alloc (.cells #[.int .i64 0, .slice none 0 0, .int .i64 0, .slice none 0 0, .int .i64 0, .slice none 0 0, .int .i64 0, .int .i64 0, .int .i64 0] 57)) w.heap.size 28 #[.slice A p.costs.length c, .slice A2 p.rows.length c2] from (Blk.mk' _ _ _).alloc _)
 have BR := h_ (show Blk ((w.alloc (.cells #[.slice A p.costs.length c, .slice A2 p.rows.length c2] 28)).alloc (.cells #[.int .i64 0, .slice none 0 0, .int .i64 0, .slice none 0 0, .int .i64 0, .slice none 0 0, .int .i64 0, .int .i64 0, .int .i64 0] 57)) (w.heap.size + 1) 57 #[.int .i64 0, .slice none 0 0, .int .i64 0, .slice none 0 0, .int .i64 0, .slice none 0 0, .int .i64 0, .int .i64 0, .int .i64 0] from by
  have := Blk.mk' (w.alloc (.cells #[.slice A p.costs.length c, .slice A2 p.rows.length c2] 28)) 57 #[.int .i64 0, .slice none 0 0, .int .i64 0, .slice none 0 0, .int .i64 0, .slice none 0 0, .int .i64 0, .int .i64 0, .int .i64 0]
  simpa using this)
 have HW := h_ ((by (repeat (any_goals (first | exact qR _ _ | refine below_drewN ?_ _ | refine qD ?_ | refine qA ?_ ?_ _ | refine qS ?_ ?_ _))); all_goals (first | omega | (simp; done) | (simp; omega))) : Below w.heap.size w ((w.alloc (.cells #[.slice A p.costs.length c, .slice A2 p.rows.length c2] 28)).alloc (.cells #[.int .i64 0, .slice none 0 0, .int .i64 0, .slice none 0 0, .int .i64 0, .slice none 0 0, .int .i64 0, .int .i64 0, .int .i64 0] 57)))
 have lW : ((w.alloc (.cells #[.slice A p.costs.length c, .slice A2 p.rows.length c2] 28)).alloc (.cells #[.int .i64 0, .slice none 0 0, .int .i64 0, .slice none 0 0, .int .i64 0, .slice none 0 0, .int .i64 0, .int .i64 0, .int .i64 0] 57)).heap.size = w.heap.size + 2 := by simp
 generalize ((w.alloc (.cells #[.slice A p.costs.length c, .slice A2 p.rows.length c2] 28)).alloc (.cells #[.int .i64 0, .slice none 0 0, .int .i64 0, .slice none 0 0, .int .i64 0, .slice none 0 0, .int .i64 0, .int .i64 0, .int .i64 0] 57)) = W at *
 have p0 : W.cell? ⟨w.heap.size, 0, none⟩ = some (.slice A p.costs.length c) := BP.out.cell 0
 have p1 : W.cell? ⟨w.heap.size, 1, none⟩ = some (.slice A2 p.rows.length c2) := BP.out.cell 1
 go_wp2_with fail
 refine (layout_May A c A2 c2 p W (HP.out.below HW.out)).mono ?_
 rintro e w1 ⟨rfl, hb1⟩
 have H1 := h_ hb1
 have z1 := hb1.size
 clear p0 p1 hb1
 rw [HM.out]
 have HB1 := h_ (HW.out.trans (H1.out.mono HW.out.size))
 have p0 : w1.cell? ⟨w.heap.size, 0, none⟩ = some (.slice A p.costs.length c) := (BP.out.next H1.out).cell 0
 have p1 : w1.cell? ⟨w.heap.size, 1, none⟩ = some (.slice A2 p.rows.length c2) := (BP.out.next H1.out).cell 1
 go_wp2_with fail
 refine (solve_begin A c A2 c2 p w1 (HP.out.below HB1.out) HM.out).mono ?_
 rintro e w2 ⟨hb2, he, _⟩
 obtain rfl := he HN.out
 have HB2 := h_ (HB1.out.trans (hb2.mono HB1.out.size))
 have z02 := hb2.size
 have p0' := (hb2.cell (lc_ p0)).trans p0
 have p1' := (hb2.cell (lc_ p1)).trans p1
 have HBR2 := h_ ((BR.out.next H1.out).next hb2)
 clear p0 p1 hb2 he
 go_wp2_with fail
 refine (solve_nothing A c A2 c2 p w2 (HP.out.below HB2.out) HM.out).mono ?_
 rintro e w3 ⟨hb3, Y, cy, rfl, hy, hyn⟩
 have HB3 := h_ (HB2.out.trans (hb3.mono HB2.out.size))
 have HBR := h_ (HBR2.out.next hb3)
 have HY := h_ hy
 have HYN := h_ hyn
 have HSA := h_ (show solA p = ansN p by unfold solA solZ ansN; rw [if_pos HM.out, HN.out]; cases stZ p <;> rfl)
 have HXR := h_ (show (ansN p).xs = [] ∧ (ansN p).rs = [] by unfold ansN; cases stZ p <;> exact ⟨rfl, rfl⟩)
 obtain ⟨an, han⟩ : ∃ an, ansN p = an := ⟨_, rfl⟩
 rw [han] at HSA HXR HY ⊢
 have r0 : w3.cell? ⟨w.heap.size + 1, 0, none⟩ = some (.int .i64 0) := HBR.out.cell 0
 have r1 : w3.cell? ⟨w.heap.size + 1, 1, none⟩ = some (.slice none 0 0) := HBR.out.cell 1
 have r2 : w3.cell? ⟨w.heap.size + 1, 2, none⟩ = some (.int .i64 0) := HBR.out.cell 2
 have r3 : w3.cell? ⟨w.heap.size + 1, 3, none⟩ = some (.slice none 0 0) := HBR.out.cell 3
 have r4 : w3.cell? ⟨w.heap.size + 1, 4, none⟩ = some (.int .i64 0) := HBR.out.cell 4
 have r5 : w3.cell? ⟨w.heap.size + 1, 5, none⟩ = some (.slice none 0 0) := HBR.out.cell 5
 have r6 : w3.cell? ⟨w.heap.size + 1, 6, none⟩ = some (.int .i64 0) := HBR.out.cell 6
 have r7 : w3.cell? ⟨w.heap.size + 1, 7, none⟩ = some (.int .i64 0) := HBR.out.cell 7
 have r8 : w3.cell? ⟨w.heap.size + 1, 8, none⟩ = some (.int .i64 0) := HBR.out.cell 8
 have f0 := HBR.out.frozen 0
 have f1 := HBR.out.frozen 1
 have f2 := HBR.out.frozen 2
 have f3 := HBR.out.frozen 3
 have f4 := HBR.out.frozen 4
 have f5 := HBR.out.frozen 5
 have f6 := HBR.out.frozen 6
 have f7 := HBR.out.frozen 7
 have f8 := HBR.out.frozen 8
 clear han hb3 hy hyn p0' p1'
 unfold anV
 go_wp2_with fail
 refine bodyPost_ret (v := .tuple #[anV none 0 Y cy none 0 an, .int .i64 0]) (by simp [results, Tryz.results17, go_sem, anV, r0, r1, r2, r3, r4, r5, r6, r7, r8]) rfl ?_
 unfold RetSo
 rw [HSA.out, show solEr p = 0 by unfold solEr; rw [if_pos HM.out]]
 refine ⟨?_, none, 0, Y, cy, none, 0, rfl, ⟨by rw [HXR.out.1]; exact Rd.nil _, ?_, by rw [HXR.out.2]; exact Rd.nil _⟩⟩
 ·iterate 9 refine Below.setCell ?_ (by simp) _
  exact HB3.out
 ·iterate 9 refine Rd.setCell_out ?_ _ _ (fun ad e h => by have := HYN.out ad e; have := H1.out.size; have := HB2.out.size; simp at h; omega)
  exact HY.out
set_option maxHeartbeats 4000000 in
theorem solve_some (A : Option Addr) (c : Nat) (A2 : Option Addr) (c2 : Nat) (p : PG) (w : World) (hp : Pg w A c A2 c2 p) (hm : mayPB p = true) (lb : List Nat) (hn : begZ p = some lb) :
    Calls Tryz.prog 17 #[.agg #[.slice A p.costs.length c, .slice A2 p.rows.length c2]] w (RetSo w p) := by
 have HM := h_ hm
 have HN := h_ hn
 have hokb := beg_some hn
 have HOK := h_ hokb
 have hlb0 : 0 < lb.length := by have := hokb.hr.len; have := (mayPB_iff.1 hm).2.2.1; omega
 have q26 : ∀ (w : World) (a : Option Addr) (n c n' c' : Nat), (binOp .eql 51 (.slice a n c) (.slice none n' c')).run Tryz.prog w = .ok (.bool a.isNone) w := fun w a n c n' c' => Lib.run_eql_slice_nil w _ _ a n c n' c' und_intS1
 clear hm hn hokb
 have HP := h_ hp
 clear hp
 go_enter Tryz.func17, Tryz.ntmps17
 go_upto_region 1 with fail
 have BP := h_ (show Blk ((w.alloc (.cells #[.slice A p.costs.length c, .slice A2 p.rows.length c2] 28)).alloc (.cells #[.int .i64 0, .slice none 0 0, .int .i64 0, .slice none 0 0, .int .i64 0, .slice none 0 0, .int .i64 0, .int .i64 0, .int .i64 0] 57)) w.heap.size 28 #[.slice A p.costs.length c, .slice A2 p.rows.length c2] from (Blk.mk' _ _ _).alloc _)
 have BR := h_ (show Blk ((w.alloc (.cells #[.slice A p.costs.length c, .slice A2 p.rows.length c2] 28)).alloc (.cells #[.int .i64 0, .slice none 0 0, .int .i64 0, .slice none 0 0, .int .i64 0, .slice none 0 0, .int .i64 0, .int .i64 0, .int .i64 0] 57)) (w.heap.size + 1) 57 #[.int .i64 0, .slice none 0 0, .int .i64 0, .slice none 0 0, .int .i64 0, .slice none 0 0, .int .i64 0, .int .i64 0, .int .i64 0] from by
  have := Blk.mk' (w.alloc (.cells #[.slice A p.costs.length c, .slice A2 p.rows.length c2] 28)) 57 #[.int .i64 0, .slice none 0 0, .int .i64 0, .slice none 0 0, .int .i64 0, .slice none 0 0, .int .i64 0, .int .i64 0, .int .i64 0]
  simpa using this)
 have HW := h_ ((by (repeat (any_goals (first | exact qR _ _ | refine below_drewN ?_ _ | refine qD ?_ | refine qA ?_ ?_ _ | refine qS ?_ ?_ _))); all_goals (first | omega | (simp; done) | (simp; omega))) : Below w.heap.size w ((w.alloc (.cells #[.slice A p.costs.length c, .slice A2 p.rows.length c2] 28)).alloc (.cells #[.int .i64 0, .slice none 0 0, .int .i64 0, .slice none 0 0, .int .i64 0, .slice none 0 0, .int .i64 0, .int .i64 0, .int .i64 0] 57)))
 have lW : ((w.alloc (.cells #[.slice A p.costs.length c, .slice A2 p.rows.length c2] 28)).alloc (.cells #[.int .i64 0, .slice none 0 0, .int .i64 0, .slice none 0 0, .int .i64 0, .slice none 0 0, .int .i64 0, .int .i64 0, .int .i64 0] 57)).heap.size = w.heap.size + 2 := by simp
 generalize ((w.alloc (.cells #[.slice A p.costs.length c, .slice A2 p.rows.length c2] 28)).alloc (.cells #[.int .i64 0, .slice none 0 0, .int .i64 0, .slice none 0 0, .int .i64 0, .slice none 0 0, .int .i64 0, .int .i64 0, .int .i64 0] 57)) = W at *
 have p0 : W.cell? ⟨w.heap.size, 0, none⟩ = some (.slice A p.costs.length c) := BP.out.cell 0
 have p1 : W.cell? ⟨w.heap.size, 1, none⟩ = some (.slice A2 p.rows.length c2) := BP.out.cell 1
 go_wp2_with fail
 refine (layout_May A c A2 c2 p W (HP.out.below HW.out)).mono ?_
 rintro e w1 ⟨rfl, hb1⟩
 have H1 := h_ hb1
 have z1 := hb1.size
 clear p0 p1 hb1
 rw [HM.out]
 have HB1 := h_ (HW.out.trans (H1.out.mono HW.out.size))
 have p0 : w1.cell? ⟨w.heap.size, 0, none⟩ = some (.slice A p.costs.length c) := (BP.out.next H1.out).cell 0
 have p1 : w1.cell? ⟨w.heap.size, 1, none⟩ = some (.slice A2 p.rows.length c2) := (BP.out.next H1.out).cell 1
 go_wp2_with fail
 refine (solve_begin A c A2 c2 p w1 (HP.out.below HB1.out) HM.out).mono ?_
 rintro e w2 ⟨hb2, _, he⟩
 obtain ⟨L, cl, rfl, hL⟩ := he lb HN.out
 obtain ⟨al, rfl, _⟩ := hL.at_ (k := 0) (by rw [intsN_len]; exact hlb0)
 have HLB := h_ hL
 have H2 := h_ (H1.out.trans (hb2.mono z1))
 have HB2 := h_ (HB1.out.trans (hb2.mono HB1.out.size))
 have z02 := hb2.size
 have p0' := (hb2.cell (lc_ p0)).trans p0
 have p1' := (hb2.cell (lc_ p1)).trans p1
 have HWK := h_ (show Calls Tryz.prog 24 #[.agg #[.slice A p.costs.length c, .slice A2 p.rows.length c2], .slice (some al) lb.length cl] w2 (RetWk w2 p (ints lb)) from by
  have := walk_Walk A c A2 c2 p (some al) (ints lb) cl w2 (HP.out.below HB2.out) hL
  rwa [intsN_len] at this)
 clear p0 p1 hb2 he hL
 go_wp2_with fail
 refine HWK.out.mono ?_
 rintro e w3 ⟨hb3, _, he3⟩
 obtain ⟨k, lk, A1, c1, hE, rfl, hl1⟩ := he3 (ok_nextE HOK.out)
 rw [nats_ints] at hE hl1
 have HEND := h_ hE
 have HOKK := h_ (wk_ok HOK.out hE.at_)
 have HLAST := h_ (show wlastZ p lb = lk from last_eq HOK.out hE)
 have hlen : (wkL p lb (k + 1)).length = k + 1 := wkL_len _ _ _
 obtain ⟨ad1, A', c', rfl, hcl, hRd⟩ := hl1.at_ (k := k) (by rw [hlen]; omega)
 rw [wkL_at _ _ (by omega), hE.at_, Option.getD_some] at hcl hRd
 rw [intsN_len] at hcl
 have hac := hl1.le
 have hacc := hl1.cap
 have hks := hl1.small
 rw [hlen] at hac hks
 have HRD := h_ hRd
 have hal := lc_ hcl
 have H3 := h_ (H2.out.trans (hb3.mono H2.out.size))
 have HB3 := h_ (HB2.out.trans (hb3.mono HB2.out.size))
 have p0 := (hb3.cell (lc_ p0')).trans p0'
 have p1 := (hb3.cell (lc_ p1')).trans p1'
 have HKK := h_ (kind_at hE.no)
 obtain ⟨kd, hkd⟩ : ∃ kd, kindZ p lk = kd := ⟨_, rfl⟩
 have HKD := h_ hkd
 have hk0 : ((k + 1 : Nat) : Int) - 1 = (k : Int) := by omega
 have hk1 : (k : Int) + 1 - 1 = (k : Int) := by omega
 have hk2 : (k : Int) < ((k + 1 : Nat) : Int) := by omega
 have hk3 : (k : Int) < (k : Int) + 1 := by omega
 have HLK := h_ (fun (u : World) (hu : Below w3.heap.size w3 u) => corner_LookN A c A2 c2 p A' lk c' u ((HP.out.below HB3.out).below hu) (hRd.below hu) HOKK.out.bs)
 rw [hkd]
 clear hb3 he3 hE hl1 hRd p0' p1' hkd HWK
 go_wp2_with fail
 refine (HLK.out _ (Below.refl _ _)).mono ?_
 rintro e w4 ⟨X, cx, Y, cy, G, cg, rfl, hX, hY, hG, hb4, hXn, hYn, hGn⟩
 have HX := h_ hX
 have HY := h_ hY
 have HG := h_ hG
 have HXN := h_ hXn
 have HYN := h_ hYn
 have H4 := h_ (H3.out.trans (hb4.mono H3.out.size))
 have z04 := hb4.size
 have H34 := h_ hb4
 have HRD4 := h_ (HRD.out.below hb4)
 obtain ⟨gx, gy, gg, hcn⟩ := corn_of HOKK.out.hp HOKK.out.hr HOKK.out.hd
 have HCN := h_ hcn
 have HXL := h_ hcn.lx
 have hcN := (mayPB_iff.1 HM.out)
 have HSOL := h_ (show solA p = if kd = 1 then bestA p lk else endA p lk by unfold solA solZ; rw [if_pos HM.out, HN.out]; simp only; rw [HLAST.out, HKD.out])
 have HSE := h_ (show solEr p = 0 by unfold solEr; rw [if_pos HM.out])
 clear hX hY hG hb4 hXn hYn hGn hcn p0 p1 hcl hal HLK
 obtain ⟨cc, hcc⟩ : ∃ cc, lookN p lk = cc := ⟨_, rfl⟩
 have HCC := h_ hcc
 rw [hcc] at HX HY HG HCN HXL ⊢
 clear hcc
 go_upto_region 10 with fail
 have BC := h_ (show Blk ((w4.alloc (.cells #[.slice X cc.xs.length cx, .int .i64 cc.xd, .slice Y cc.ys.length cy, .int .i64 cc.yd, .slice G cc.gs.length cg, .int .i64 cc.gd] 64)).alloc (.cells #[.int .i64 kd, .slice none 0 0, .int .i64 0, .slice none 0 0, .int .i64 0, .slice none 0 0, .int .i64 0, .int .i64 0, .int .i64 0] 57)) w4.heap.size 64 #[.slice X cc.xs.length cx, .int .i64 cc.xd, .slice Y cc.ys.length cy, .int .i64 cc.yd, .slice G cc.gs.length cg, .int .i64 cc.gd] from (Blk.mk' _ _ _).alloc _)
 have BA := h_ (show Blk ((w4.alloc (.cells #[.slice X cc.xs.length cx, .int .i64 cc.xd, .slice Y cc.ys.length cy, .int .i64 cc.yd, .slice G cc.gs.length cg, .int .i64 cc.gd] 64)).alloc (.cells #[.int .i64 kd, .slice none 0 0, .int .i64 0, .slice none 0 0, .int .i64 0, .slice none 0 0, .int .i64 0, .int .i64 0, .int .i64 0] 57)) (w4.heap.size + 1) 57 #[.int .i64 kd, .slice none 0 0, .int .i64 0, .slice none 0 0, .int .i64 0, .slice none 0 0, .int .i64 0, .int .i64 0, .int .i64 0] from by
  have := Blk.mk' (w4.alloc (.cells #[.slice X cc.xs.length cx, .int .i64 cc.xd, .slice Y cc.ys.length cy, .int .i64 cc.yd, .slice G cc.gs.length cg, .int .i64 cc.gd] 64)) 57 #[.int .i64 kd, .slice none 0 0, .int .i64 0, .slice none 0 0, .int .i64 0, .slice none 0 0, .int .i64 0, .int .i64 0, .int .i64 0]
  simpa using this)
 have h45 : Below w4.heap.size w4 ((w4.alloc (.cells #[.slice X cc.xs.length cx, .int .i64 cc.xd, .slice Y cc.ys.length cy, .int .i64 cc.yd, .slice G cc.gs.length cg, .int .i64 cc.gd] 64)).alloc (.cells #[.int .i64 kd, .slice none 0 0, .int .i64 0, .slice none 0 0, .int .i64 0, .slice none 0 0, .int .i64 0, .int .i64 0, .int .i64 0] 57)) := (by (repeat (any_goals (first | exact qR _ _ | refine below_drewN ?_ _ | refine qD ?_ | refine qA ?_ ?_ _ | refine qS ?_ ?_ _))); all_goals (first | omega | (simp; done) | (simp; omega)))
 have lU : ((w4.alloc (.cells #[.slice X cc.xs.length cx, .int .i64 cc.xd, .slice Y cc.ys.length cy, .int .i64 cc.yd, .slice G cc.gs.length cg, .int .i64 cc.gd] 64)).alloc (.cells #[.int .i64 kd, .slice none 0 0, .int .i64 0, .slice none 0 0, .int .i64 0, .slice none 0 0, .int .i64 0, .int .i64 0, .int .i64 0] 57)).heap.size = w4.heap.size + 2 := by simp
 generalize ((w4.alloc (.cells #[.slice X cc.xs.length cx, .int .i64 cc.xd, .slice Y cc.ys.length cy, .int .i64 cc.yd, .slice G cc.gs.length cg, .int .i64 cc.gd] 64)).alloc (.cells #[.int .i64 kd, .slice none 0 0, .int .i64 0, .slice none 0 0, .int .i64 0, .slice none 0 0, .int .i64 0, .int .i64 0, .int .i64 0] 57)) = U at *
 have HX5 := h_ (HX.out.below h45)
 have HY5 := h_ (HY.out.below h45)
 have HG5 := h_ (HG.out.below h45)
 have HRD5 := h_ (HRD4.out.below h45)
 have H5 := h_ (H4.out.trans (h45.mono H4.out.size))
 have HB5 := h_ (HW.out.trans (H5.out.mono HW.out.size))
 have zW4 := H4.out.size
 have H45 := h_ h45
 clear h45
 obtain ⟨g9, hg9⟩ : ∃ g9, w4.heap.size = g9 := ⟨_, rfl⟩
 rw [hg9] at BC BA lU zW4 ⊢
 obtain ⟨g11, hg11⟩ : ∃ g11, g9 + 1 = g11 := ⟨_, rfl⟩
 rw [hg11] at BA ⊢
 have HU5 := h_ lU
 have HW4 := h_ hg9
 clear hg9
 have hxl : p.costs.length ≤ cc.xs.length := by rw [HXL.out]; omega
 obtain ⟨htk, htl⟩ := HX5.out.takeW p.costs.length hxl
 have HVL := h_ (show varL p cc = cc.xs.take p.costs.length from rfl)
 have HVR := h_ (fun (u : World) (hu : Below U.heap.size U u) => walk_Variables A c A2 c2 p X Y G cx cc.ys.length cy cc.gs.length cg cc.xs cc.xd cc.yd cc.gd u ((HP.out.below HB5.out).below hu) (HX5.out.below hu) (by omega) hxl)
 have HPT := h_ (fun (u : World) (hu : Below U.heap.size U u) => show Calls Tryz.prog 34 #[.slice X p.costs.length cx, .int .i64 cc.xd] u (RetPt u (ptN (varL p cc) cc.xd) (ptD (varL p cc) cc.xd) (ptE (varL p cc) cc.xd)) from by
  have := frac_Point X (varL p cc) cx cc.xd u (by rw [HVL.out]; exact htk.below hu)
  rwa [show (varL p cc).length = p.costs.length from htl] at this)
 obtain ⟨pn, hpn⟩ : ∃ pn, ptN (varL p cc) cc.xd = pn := ⟨_, rfl⟩
 obtain ⟨pd, hpd⟩ : ∃ pd, ptD (varL p cc) cc.xd = pd := ⟨_, rfl⟩
 have HPN := h_ hpn
 have HPD := h_ hpd
 rw [hpn, hpd] at HPT
 clear hpn hpd htk htl hxl
 have k0 : U.cell? ⟨w.heap.size, 0, none⟩ = some (.slice A p.costs.length c) := (BP.out.next H5.out).cell 0
 have k1 : U.cell? ⟨w.heap.size, 1, none⟩ = some (.slice A2 p.rows.length c2) := (BP.out.next H5.out).cell 1
 have k2 : U.cell? ⟨g9, 0, none⟩ = some (.slice X cc.xs.length cx) := BC.out.cell 0
 have k3 : U.cell? ⟨g9, 1, none⟩ = some (.int .i64 cc.xd) := BC.out.cell 1
 have k4 : U.cell? ⟨g9, 2, none⟩ = some (.slice Y cc.ys.length cy) := BC.out.cell 2
 have k5 : U.cell? ⟨g9, 3, none⟩ = some (.int .i64 cc.yd) := BC.out.cell 3
 have k6 : U.cell? ⟨g9, 4, none⟩ = some (.slice G cc.gs.length cg) := BC.out.cell 4
 have k7 : U.cell? ⟨g9, 5, none⟩ = some (.int .i64 cc.gd) := BC.out.cell 5
 have hg9 : g9 < g11 := by omega
 have hlt11 : g11 < U.heap.size := by have := HU5.out; omega
 have SK := h_ (show ∀ w', Below g11 U w' → (w'.cell? ⟨w.heap.size, 0, none⟩ = some (.slice A p.costs.length c) ∧ w'.cell? ⟨w.heap.size, 1, none⟩ = some (.slice A2 p.rows.length c2) ∧ w'.cell? ⟨g9, 0, none⟩ = some (.slice X cc.xs.length cx) ∧ w'.cell? ⟨g9, 1, none⟩ = some (.int .i64 cc.xd) ∧ w'.cell? ⟨g9, 2, none⟩ = some (.slice Y cc.ys.length cy) ∧ w'.cell? ⟨g9, 3, none⟩ = some (.int .i64 cc.yd) ∧ w'.cell? ⟨g9, 4, none⟩ = some (.slice G cc.gs.length cg) ∧ w'.cell? ⟨g9, 5, none⟩ = some (.int .i64 cc.gd)) from
  fun w' h => ⟨(h.cell (by show w.heap.size < g11; omega)).trans k0, (h.cell (by show w.heap.size < g11; omega)).trans k1, (h.cell hg9).trans k2, (h.cell hg9).trans k3, (h.cell hg9).trans k4, (h.cell hg9).trans k5, (h.cell hg9).trans k6, (h.cell hg9).trans k7⟩)
 go_cut [51] (fun s51 wx => ∃ X' cx', Blk wx g11 57 #[.int .i64 kd, .slice X' pn.length cx', .int .i64 pd, .slice none 0 0, .int .i64 0, .slice none 0 0, .int .i64 0, .int .i64 0, .int .i64 0] ∧ Rd wx X' cx' pn ∧ (∀ ad, X' = some ad → g11 < ad.block) ∧ Below g11 U wx)
 case first =>
  go_region_held3 (fun w' => w'.cell? ⟨w.heap.size, 0, none⟩ = some (.slice A p.costs.length c) ∧ w'.cell? ⟨w.heap.size, 1, none⟩ = some (.slice A2 p.rows.length c2) ∧ w'.cell? ⟨g9, 0, none⟩ = some (.slice X cc.xs.length cx) ∧ w'.cell? ⟨g9, 1, none⟩ = some (.int .i64 cc.xd) ∧ w'.cell? ⟨g9, 2, none⟩ = some (.slice Y cc.ys.length cy) ∧ w'.cell? ⟨g9, 3, none⟩ = some (.int .i64 cc.yd) ∧ w'.cell? ⟨g9, 4, none⟩ = some (.slice G cc.gs.length cg) ∧ w'.cell? ⟨g9, 5, none⟩ = some (.int .i64 cc.gd))
   ((refine SK.out _ ?_; (repeat (any_goals (first | exact qR _ _ | exact hbV | exact hbP | refine below_drewN ?_ _ | refine qD ?_ | refine qA ?_ ?_ _ | refine qS ?_ ?_ _ | refine Below.trans ?_ (Below.mono hbV ?_) | refine Below.trans ?_ (Below.mono hbP ?_)))); all_goals (first | omega | (simp; done) | (simp; omega) | ((try have z0 := hbV.size); (try simp at z0); (try have z1 := hbP.size); (try simp at z1); (try simp); omega))))
   (first
    | (go_at_call 35; refine (HVR.out _ (by (repeat (any_goals (first | exact qR _ _ | exact hbV | exact hbP | refine below_drewN ?_ _ | refine qD ?_ | refine qA ?_ ?_ _ | refine qS ?_ ?_ _ | refine Below.trans ?_ (Below.mono hbV ?_) | refine Below.trans ?_ (Below.mono hbP ?_)))); all_goals (first | omega | (simp; done) | (simp; omega) | ((try have z0 := hbV.size); (try simp at z0); (try have z1 := hbP.size); (try simp at z1); (try simp); omega)))).mono ?_; rintro e wV ⟨rfl, hbV⟩)
    | (go_at_call 34; refine (HPT.out _ (by (repeat (any_goals (first | exact qR _ _ | exact hbV | exact hbP | refine below_drewN ?_ _ | refine qD ?_ | refine qA ?_ ?_ _ | refine qS ?_ ?_ _ | refine Below.trans ?_ (Below.mono hbV ?_) | refine Below.trans ?_ (Below.mono hbP ?_)))); all_goals (first | omega | (simp; done) | (simp; omega) | ((try have z0 := hbV.size); (try simp at z0); (try have z1 := hbP.size); (try simp at z1); (try simp); omega)))).mono ?_; rintro e wP ⟨X', cx', rfl, hX', hbP, hXn'⟩; have hbVP : Below U.heap.size U wP := Below.trans (B := U.heap.size) (by first | exact hbV | exact Below.trans (Below.refl _ _).drew hbV) (hbP.mono (by first | exact hbV.size | (have := hbV.size; simp at this; omega))); have n1 := (BA.out.next hbVP).cell 1; have n2 := (BA.out.next hbVP).cell 2; have n3 := (BA.out.next hbVP).frozen 1; have n4 := (BA.out.next hbVP).frozen 2; simp at n1 n2))
  all_goals go_wp2_with fail
  all_goals go_meet
  all_goals
   have hzV := hbV.size
   refine ⟨X', cx', ((BA.out.next hbVP).set0 1 _).set0 2 _, ?_, fun ad e => ?_, ?_⟩
   ·iterate 2 refine Rd.setCell_out ?_ _ _ (fun ad e h => by have := hXn' ad e; simp at h hzV; omega)
    exact hX'
   ·have := hXn' ad e; simp at hzV; omega
   ·iterate 2 refine Below.setCell ?_ (by simp) _
    exact hbVP.mono (by omega)
 case rest =>
  obtain ⟨X', cx', hBA, hX', hXn', hbel⟩ := hcut
  rename World => U6
  have HBA := h_ hBA
  have HX6 := h_ hX'
  have HXN6 := h_ hXn'
  have H6 := h_ hbel
  have z6 := hbel.size
  clear hBA hX' hXn' hbel SK k0 k1 k2 k3 k4 k5 k6 k7 HVR HPT
  have BC6 := h_ (show Blk U6 g9 64 #[.slice X cc.xs.length cx, .int .i64 cc.xd, .slice Y cc.ys.length cy, .int .i64 cc.yd, .slice G cc.gs.length cg, .int .i64 cc.gd] from (H6.out.block g9 hg9).trans BC.out)
  have HGT := h_ (show ∀ w', Below g11 U w' → Below w4.heap.size w4 w' from fun w' h => H45.out.trans (h.mono (by rw [HW4.out]; omega)))
  have HWT := h_ (show ∀ w', Below g11 U w' → Below W.heap.size W w' from fun w' h => H5.out.trans (h.mono (by omega)))
  have hw11 : w.heap.size + 1 < g11 := by omega
  rcases HKK.out with ⟨hk1, hin⟩ | ⟨hk2, r, hin, hout⟩
  ·obtain rfl : kd = 1 := HKD.out.symm.trans hk1
   have e2 : U6.cell? ⟨g9, 2, none⟩ = some (.slice Y cc.ys.length cy) := BC6.out.cell 2
   have e3 : U6.cell? ⟨g9, 3, none⟩ = some (.int .i64 cc.yd) := BC6.out.cell 3
   have a3 : U6.cell? ⟨g11, 3, none⟩ = some (.slice none 0 0) := HBA.out.cell 3
   have a4 : U6.cell? ⟨g11, 4, none⟩ = some (.int .i64 0) := HBA.out.cell 4
   have b3 := HBA.out.frozen 3
   have b4 := HBA.out.frozen 4
   go_upto_region 13 with fail
   have HBA7 := h_ ((HBA.out.set0 3 (.slice Y cc.ys.length cy)).set0 4 (.int .i64 cc.yd))
   have HX7 := h_ ((HX6.out.setCell_out ⟨g11, 3, none⟩ (.slice Y cc.ys.length cy) (fun ad e h => by have := HXN6.out ad e; simp at h; omega)).setCell_out ⟨g11, 4, none⟩ (.int .i64 cc.yd) (fun ad e h => by have := HXN6.out ad e; simp at h; omega))
   have H7 := h_ ((H6.out.setCell (p := ⟨g11, 3, none⟩) (Nat.le_refl _) (.slice Y cc.ys.length cy)).setCell (p := ⟨g11, 4, none⟩) (Nat.le_refl _) (.int .i64 cc.yd))
   clear e2 e3 a3 a4 b3 b4
   generalize ((U6.setCell ⟨g11, 3, none⟩ (.slice Y cc.ys.length cy)).setCell ⟨g11, 4, none⟩ (.int .i64 cc.yd)) = U7 at *
   have p0 : U7.cell? ⟨w.heap.size, 0, none⟩ = some (.slice A p.costs.length c) := (BP.out.next (HWT.out _ H7.out)).cell 0
   have p1 : U7.cell? ⟨w.heap.size, 1, none⟩ = some (.slice A2 p.rows.length c2) := (BP.out.next (HWT.out _ H7.out)).cell 1
   have x1 : U7.cell? ⟨g11, 1, none⟩ = some (.slice X' pn.length cx') := HBA7.out.cell 1
   have x2 : U7.cell? ⟨g11, 2, none⟩ = some (.int .i64 pd) := HBA7.out.cell 2
   go_wp2_with fail
   refine (layout_Worth A c A2 c2 p X' pn cx' pd U7 (HP.out.below (HW.out.trans ((HWT.out _ H7.out).mono HW.out.size))) HX7.out).mono ?_
   rintro e w8 ⟨rfl, hb8⟩
   have HBA8 := h_ (HBA7.out.next hb8)
   have HX8 := h_ (HX7.out.below hb8)
   have z78 := H7.out.size
   have H8 := h_ (H7.out.trans (hb8.mono (by omega)))
   obtain ⟨wn, hwn⟩ : ∃ wn, worN p pn pd = wn := ⟨_, rfl⟩
   obtain ⟨wd, hwd⟩ : ∃ wd, worD p pn pd = wd := ⟨_, rfl⟩
   have HWN := h_ hwn
   have HWD := h_ hwd
   rw [hwn, hwd]
   clear hwn hwd hb8 p0 p1 x1 x2
   have a7 : w8.cell? ⟨g11, 7, none⟩ = some (.int .i64 0) := HBA8.out.cell 7
   have a8 : w8.cell? ⟨g11, 8, none⟩ = some (.int .i64 0) := HBA8.out.cell 8
   have b7 := HBA8.out.frozen 7
   have b8 := HBA8.out.frozen 8
   go_upto_region 14 with fail
   have HBA9 := h_ ((HBA8.out.set0 7 (.int .i64 wn)).set0 8 (.int .i64 wd))
   have HX9 := h_ ((HX8.out.setCell_out ⟨g11, 7, none⟩ (.int .i64 wn) (fun ad e h => by have := HXN6.out ad e; simp at h; omega)).setCell_out ⟨g11, 8, none⟩ (.int .i64 wd) (fun ad e h => by have := HXN6.out ad e; simp at h; omega))
   have H9 := h_ ((H8.out.setCell (p := ⟨g11, 7, none⟩) (Nat.le_refl _) (.int .i64 wn)).setCell (p := ⟨g11, 8, none⟩) (Nat.le_refl _) (.int .i64 wd))
   clear a7 a8 b7 b8
   generalize ((w8.setCell ⟨g11, 7, none⟩ (.int .i64 wn)).setCell ⟨g11, 8, none⟩ (.int .i64 wd)) = U9 at *
   have HBR := h_ (BR.out.next (HWT.out _ H9.out))
   have HY9 := h_ (HY.out.below (HGT.out _ H9.out))
   have r0 : U9.cell? ⟨w.heap.size + 1, 0, none⟩ = some (.int .i64 0) := HBR.out.cell 0
   have r1 : U9.cell? ⟨w.heap.size + 1, 1, none⟩ = some (.slice none 0 0) := HBR.out.cell 1
   have r2 : U9.cell? ⟨w.heap.size + 1, 2, none⟩ = some (.int .i64 0) := HBR.out.cell 2
   have r3 : U9.cell? ⟨w.heap.size + 1, 3, none⟩ = some (.slice none 0 0) := HBR.out.cell 3
   have r4 : U9.cell? ⟨w.heap.size + 1, 4, none⟩ = some (.int .i64 0) := HBR.out.cell 4
   have r5 : U9.cell? ⟨w.heap.size + 1, 5, none⟩ = some (.slice none 0 0) := HBR.out.cell 5
   have r6 : U9.cell? ⟨w.heap.size + 1, 6, none⟩ = some (.int .i64 0) := HBR.out.cell 6
   have r7 : U9.cell? ⟨w.heap.size + 1, 7, none⟩ = some (.int .i64 0) := HBR.out.cell 7
   have r8 : U9.cell? ⟨w.heap.size + 1, 8, none⟩ = some (.int .i64 0) := HBR.out.cell 8
   have f0 := HBR.out.frozen 0
   have f1 := HBR.out.frozen 1
   have f2 := HBR.out.frozen 2
   have f3 := HBR.out.frozen 3
   have f4 := HBR.out.frozen 4
   have f5 := HBR.out.frozen 5
   have f6 := HBR.out.frozen 6
   have f7 := HBR.out.frozen 7
   have f8 := HBR.out.frozen 8
   have s0 : U9.cell? ⟨g11, 0, none⟩ = some (.int .i64 1) := HBA9.out.cell 0
   have s1 : U9.cell? ⟨g11, 1, none⟩ = some (.slice X' pn.length cx') := HBA9.out.cell 1
   have s2 : U9.cell? ⟨g11, 2, none⟩ = some (.int .i64 pd) := HBA9.out.cell 2
   have s3 : U9.cell? ⟨g11, 3, none⟩ = some (.slice Y cc.ys.length cy) := HBA9.out.cell 3
   have s4 : U9.cell? ⟨g11, 4, none⟩ = some (.int .i64 cc.yd) := HBA9.out.cell 4
   have s5 : U9.cell? ⟨g11, 5, none⟩ = some (.slice none 0 0) := HBA9.out.cell 5
   have s6 : U9.cell? ⟨g11, 6, none⟩ = some (.int .i64 0) := HBA9.out.cell 6
   have s7 : U9.cell? ⟨g11, 7, none⟩ = some (.int .i64 wn) := HBA9.out.cell 7
   have s8 : U9.cell? ⟨g11, 8, none⟩ = some (.int .i64 wd) := HBA9.out.cell 8
   go_wp2_with fail
   refine bodyPost_ret (v := .tuple #[anV X' cx' Y cy none 0 ⟨1, pn, pd, cc.ys, cc.yd, [], 0, wn, wd⟩, .int .i64 0]) (by simp [results, Tryz.results17, go_sem, anV, r0, r1, r2, r3, r4, r5, r6, r7, r8]) rfl ?_
   have hfin : solA p = ⟨1, pn, pd, cc.ys, cc.yd, [], 0, wn, wd⟩ := by
    rw [show solA p = bestA p lk from by have := HSOL.out; simpa using this]; unfold bestA; rw [HCC.out, HPN.out, HPD.out, HWN.out, HWD.out]
   unfold RetSo
   rw [HSE.out, hfin]
   refine ⟨?_, X', cx', Y, cy, none, 0, rfl, ⟨?_, ?_, Rd.nil _⟩⟩
   ·iterate 9 refine Below.setCell ?_ (by simp) _
    exact HW.out.trans ((HWT.out _ H9.out).mono HW.out.size)
   ·iterate 9 refine Rd.setCell_out ?_ _ _ (fun ad e h => by have := HXN6.out ad e; simp at h; omega)
    exact HX9.out
   ·iterate 9 refine Rd.setCell_out ?_ _ _ (fun ad e h => by have := HYN.out ad e; have := H3.out.size; simp at h; omega)
    exact HY9.out
  ·obtain rfl : kd = 2 := HKD.out.symm.trans hk2
   obtain ⟨hrl, hrN, _⟩ := in_new HOKK.out hin
   have H36 := h_ (show Below w3.heap.size w3 U6 from by
    have h1 : Below w3.heap.size w3 w4 := H34.out
    exact h1.trans ((HGT.out _ H6.out).mono z04))
   have HPU := h_ (HP.out.below (HW.out.trans ((HWT.out _ H6.out).mono HW.out.size)))
   have HX6' := h_ (HX.out.below (HGT.out _ H6.out))
   have HG6 := h_ (HG.out.below (HGT.out _ H6.out))
   have HRD6 := h_ (HRD4.out.below (HGT.out _ H6.out))
   have hrayl := ray_len p lk r
   have hlk0 : lookE p (ints lk) = 0 := look_ints HOKK.out.hp HOKK.out.hr HOKK.out.hd
   have HIN := h_ (fun (u : World) (hu : Below U6.heap.size U6 u) => show Calls Tryz.prog 39 #[.agg #[.slice X cc.xs.length cx, .int .i64 cc.xd, .slice Y cc.ys.length cy, .int .i64 cc.yd, .slice G cc.gs.length cg, .int .i64 cc.gd]] u fun e w' => e = .returned (.int .i64 (r : Int)) ∧ Below u.heap.size u w' from by
    have := walk_In X Y G cx cy cg cc.xs.length cc.ys.length cc.xd cc.yd cc.gd cc.gs u (HG6.out.below hu) (by rw [HCN.out.lg]; omega)
    rwa [show inI cc.gs = (r : Int) by unfold inI; rw [← HCC.out, hin]] at this)
   have HRY := h_ (fun (u : World) (hu : Below U6.heap.size U6 u) => show Calls Tryz.prog 38 #[.agg #[.slice A p.costs.length c, .slice A2 p.rows.length c2], .slice A' lk.length c', .int .i64 r] u fun e w' => ∃ O co, e = .returned (.slice O (p.costs.length + p.rows.length) co) ∧ Rd w' O co (rayZ p lk r) ∧ (∀ ad, O = some ad → u.heap.size ≤ ad.block) ∧ Below u.heap.size u w' from by
    have := walk_Ray A c A2 c2 p A' (ints lk) c' r u (HPU.out.below hu) (HRD6.out.below hu) hlk0 (by rw [nats_ints]; exact hrl) hrN
    rwa [intsN_len, nats_ints] at this)
   have HWH := h_ (fun (u : World) (O : Option Addr) (co : Nat) (hO : Rd u O co (rayL p lk r)) => show Calls Tryz.prog 37 #[.slice O p.costs.length co] u (RetWh u (wholeZ (rayL p lk r))) from by
    have := solve_whole O (rayL p lk r) co u hO (smallB_iff.2 fun n hn => by have := smallB_mem (rayL_small (r := r) HOKK.out.bs) hn; omega) (by rw [rayL_len]; omega)
    rwa [rayL_len] at this)
   have HTK := h_ (fun (u : World) (O : Option Addr) (co : Nat) (hO : Rd u O co (rayZ p lk r)) => show Rd u O co (rayL p lk r) from (hO.takeW p.costs.length (by rw [hrayl]; omega)).1)
   have HRS := h_ (show (inZ (lookN p lk).gs).getD 0 = r by rw [hin]; rfl)
   have hwl : (wholeZ (rayL p lk r)).length = p.costs.length := by rw [wholeZ_len, rayL_len]
   obtain ⟨zs, hzs⟩ : ∃ zs, wholeZ (rayL p lk r) = zs := ⟨_, rfl⟩
   have HZS := h_ hzs
   rw [hzs] at HWH
   clear hzs hwl hk2 hin hout
   have k0 : U6.cell? ⟨w.heap.size, 0, none⟩ = some (.slice A p.costs.length c) := (BP.out.next (HWT.out _ H6.out)).cell 0
   have k1 : U6.cell? ⟨w.heap.size, 1, none⟩ = some (.slice A2 p.rows.length c2) := (BP.out.next (HWT.out _ H6.out)).cell 1
   have k2 : U6.cell? ⟨g9, 0, none⟩ = some (.slice X cc.xs.length cx) := BC6.out.cell 0
   have k3 : U6.cell? ⟨g9, 1, none⟩ = some (.int .i64 cc.xd) := BC6.out.cell 1
   have k4 : U6.cell? ⟨g9, 2, none⟩ = some (.slice Y cc.ys.length cy) := BC6.out.cell 2
   have k5 : U6.cell? ⟨g9, 3, none⟩ = some (.int .i64 cc.yd) := BC6.out.cell 3
   have k6 : U6.cell? ⟨g9, 4, none⟩ = some (.slice G cc.gs.length cg) := BC6.out.cell 4
   have k7 : U6.cell? ⟨g9, 5, none⟩ = some (.int .i64 cc.gd) := BC6.out.cell 5
   have SK := h_ (show ∀ w', Below g11 U6 w' → (w'.cell? ⟨w.heap.size, 0, none⟩ = some (.slice A p.costs.length c) ∧ w'.cell? ⟨w.heap.size, 1, none⟩ = some (.slice A2 p.rows.length c2) ∧ w'.cell? ⟨g9, 0, none⟩ = some (.slice X cc.xs.length cx) ∧ w'.cell? ⟨g9, 1, none⟩ = some (.int .i64 cc.xd) ∧ w'.cell? ⟨g9, 2, none⟩ = some (.slice Y cc.ys.length cy) ∧ w'.cell? ⟨g9, 3, none⟩ = some (.int .i64 cc.yd) ∧ w'.cell? ⟨g9, 4, none⟩ = some (.slice G cc.gs.length cg) ∧ w'.cell? ⟨g9, 5, none⟩ = some (.int .i64 cc.gd)) from
    fun w' h => ⟨(h.cell (by show w.heap.size < g11; omega)).trans k0, (h.cell (by show w.heap.size < g11; omega)).trans k1, (h.cell hg9).trans k2, (h.cell hg9).trans k3, (h.cell hg9).trans k4, (h.cell hg9).trans k5, (h.cell hg9).trans k6, (h.cell hg9).trans k7⟩)
   go_upto_region 15 with fail
   go_cut [77] (fun s77 wx => ∃ R cr, Blk wx g11 57 #[.int .i64 2, .slice X' pn.length cx', .int .i64 pd, .slice none 0 0, .int .i64 0, .slice R zs.length cr, .int .i64 1, .int .i64 0, .int .i64 0] ∧ Rd wx R cr zs ∧ (∀ ad, R = some ad → g11 < ad.block) ∧ Rd wx X' cx' pn ∧ Below g11 U6 wx)
   case first =>
    go_region_held3 (fun w' => w'.cell? ⟨w.heap.size, 0, none⟩ = some (.slice A p.costs.length c) ∧ w'.cell? ⟨w.heap.size, 1, none⟩ = some (.slice A2 p.rows.length c2) ∧ w'.cell? ⟨g9, 0, none⟩ = some (.slice X cc.xs.length cx) ∧ w'.cell? ⟨g9, 1, none⟩ = some (.int .i64 cc.xd) ∧ w'.cell? ⟨g9, 2, none⟩ = some (.slice Y cc.ys.length cy) ∧ w'.cell? ⟨g9, 3, none⟩ = some (.int .i64 cc.yd) ∧ w'.cell? ⟨g9, 4, none⟩ = some (.slice G cc.gs.length cg) ∧ w'.cell? ⟨g9, 5, none⟩ = some (.int .i64 cc.gd))
     ((refine SK.out _ ?_; (repeat (any_goals (first | exact qR _ _ | exact hbI | exact hbR | exact hbH | refine below_drewN ?_ _ | refine qD ?_ | refine qA ?_ ?_ _ | refine qS ?_ ?_ _ | refine Below.trans ?_ (Below.mono hbI ?_) | refine Below.trans ?_ (Below.mono hbR ?_) | refine Below.trans ?_ (Below.mono hbH ?_)))); all_goals (first | omega | (simp; done) | (simp; omega) | ((try have z0 := hbI.size); (try simp at z0); (try have z1 := hbR.size); (try simp at z1); (try have z2 := hbH.size); (try simp at z2); (try simp); omega))))
     (first
      | (go_at_call 39; refine (HIN.out _ (by (repeat (any_goals (first | exact qR _ _ | exact hbI | exact hbR | refine below_drewN ?_ _ | refine qD ?_ | refine qA ?_ ?_ _ | refine qS ?_ ?_ _ | refine Below.trans ?_ (Below.mono hbI ?_) | refine Below.trans ?_ (Below.mono hbR ?_)))); all_goals (first | omega | (simp; done) | (simp; omega) | ((try have z0 := hbI.size); (try simp at z0); (try have z1 := hbR.size); (try simp at z1); (try simp); omega)))).mono ?_; rintro e wI ⟨rfl, hbI⟩)
      | (go_at_call 38; refine (HRY.out _ (by (repeat (any_goals (first | exact qR _ _ | exact hbI | exact hbR | refine below_drewN ?_ _ | refine qD ?_ | refine qA ?_ ?_ _ | refine qS ?_ ?_ _ | refine Below.trans ?_ (Below.mono hbI ?_) | refine Below.trans ?_ (Below.mono hbR ?_)))); all_goals (first | omega | (simp; done) | (simp; omega) | ((try have z0 := hbI.size); (try simp at z0); (try have z1 := hbR.size); (try simp at z1); (try simp); omega)))).mono ?_; rintro e wR ⟨O, co, rfl, hO, hOn, hbR⟩; obtain ⟨ao, rfl, _⟩ := hO.at_ (k := 0) (by rw [hrayl]; omega); have hcp : p.costs.length ≤ co := (by have := hO.le; rw [hrayl] at this; omega); have hoc := hO.cap)
      | (go_at_call 37; refine (HWH.out _ _ _ (HTK.out _ _ _ (by first | exact hO | exact hO.drewN _ | exact hO.below (Below.refl _ _).drew))).mono ?_; rintro e wH ⟨O5, co5, rfl, hO5, hOn5, hbH⟩; have hbA : Below U6.heap.size U6 wH := (by (repeat (any_goals (first | exact qR _ _ | exact hbI | exact hbR | exact hbH | refine below_drewN ?_ _ | refine qD ?_ | refine qA ?_ ?_ _ | refine qS ?_ ?_ _ | refine Below.trans ?_ (Below.mono hbI ?_) | refine Below.trans ?_ (Below.mono hbR ?_) | refine Below.trans ?_ (Below.mono hbH ?_)))); all_goals (first | omega | (simp; done) | (simp; omega) | ((try have z0 := hbI.size); (try simp at z0); (try have z1 := hbR.size); (try simp at z1); (try have z2 := hbH.size); (try simp at z2); (try simp); omega))); have n1 := (HBA.out.next hbA).cell 5; have n2 := (HBA.out.next hbA).cell 6; have n3 := (HBA.out.next hbA).frozen 5; have n4 := (HBA.out.next hbA).frozen 6; simp at n1 n2))
    all_goals go_wp2_with fail
    all_goals go_meet
    all_goals
     have hzI := hbI.size
     have hzR := hbR.size
     simp at hzI hzR
     refine ⟨O5, co5, ((HBA.out.next hbA).set0 5 _).set0 6 _, ?_, fun ad e => ?_, ?_, ?_⟩
     ·iterate 2 refine Rd.setCell_out ?_ _ _ (fun ad e h => by have := hOn5 ad e; simp at h; omega)
      exact hO5
     ·have := hOn5 ad e; omega
     ·iterate 2 refine Rd.setCell_out ?_ _ _ (fun ad e h => by have := HXN6.out ad e; simp at h; omega)
      exact HX6.out.below hbA
     ·iterate 2 refine Below.setCell ?_ (by simp) _
      exact hbA.mono (by omega)
   case rest =>
    obtain ⟨R, cr, hBA, hR, hRn, hX', hbel⟩ := hcut
    rename World => U9
    have HBA9 := h_ hBA
    have HR9 := h_ hR
    have HRN9 := h_ hRn
    have HX9 := h_ hX'
    have H9 := h_ (H6.out.trans (hbel.mono (by omega)))
    clear hBA hR hRn hX' hbel SK k0 k1 k2 k3 k4 k5 k6 k7 HIN HRY HWH
    have HBR := h_ (BR.out.next (HWT.out _ H9.out))
    have r0 : U9.cell? ⟨w.heap.size + 1, 0, none⟩ = some (.int .i64 0) := HBR.out.cell 0
    have r1 : U9.cell? ⟨w.heap.size + 1, 1, none⟩ = some (.slice none 0 0) := HBR.out.cell 1
    have r2 : U9.cell? ⟨w.heap.size + 1, 2, none⟩ = some (.int .i64 0) := HBR.out.cell 2
    have r3 : U9.cell? ⟨w.heap.size + 1, 3, none⟩ = some (.slice none 0 0) := HBR.out.cell 3
    have r4 : U9.cell? ⟨w.heap.size + 1, 4, none⟩ = some (.int .i64 0) := HBR.out.cell 4
    have r5 : U9.cell? ⟨w.heap.size + 1, 5, none⟩ = some (.slice none 0 0) := HBR.out.cell 5
    have r6 : U9.cell? ⟨w.heap.size + 1, 6, none⟩ = some (.int .i64 0) := HBR.out.cell 6
    have r7 : U9.cell? ⟨w.heap.size + 1, 7, none⟩ = some (.int .i64 0) := HBR.out.cell 7
    have r8 : U9.cell? ⟨w.heap.size + 1, 8, none⟩ = some (.int .i64 0) := HBR.out.cell 8
    have f0 := HBR.out.frozen 0
    have f1 := HBR.out.frozen 1
    have f2 := HBR.out.frozen 2
    have f3 := HBR.out.frozen 3
    have f4 := HBR.out.frozen 4
    have f5 := HBR.out.frozen 5
    have f6 := HBR.out.frozen 6
    have f7 := HBR.out.frozen 7
    have f8 := HBR.out.frozen 8
    have s0 : U9.cell? ⟨g11, 0, none⟩ = some (.int .i64 2) := HBA9.out.cell 0
    have s1 : U9.cell? ⟨g11, 1, none⟩ = some (.slice X' pn.length cx') := HBA9.out.cell 1
    have s2 : U9.cell? ⟨g11, 2, none⟩ = some (.int .i64 pd) := HBA9.out.cell 2
    have s3 : U9.cell? ⟨g11, 3, none⟩ = some (.slice none 0 0) := HBA9.out.cell 3
    have s4 : U9.cell? ⟨g11, 4, none⟩ = some (.int .i64 0) := HBA9.out.cell 4
    have s5 : U9.cell? ⟨g11, 5, none⟩ = some (.slice R zs.length cr) := HBA9.out.cell 5
    have s6 : U9.cell? ⟨g11, 6, none⟩ = some (.int .i64 1) := HBA9.out.cell 6
    have s7 : U9.cell? ⟨g11, 7, none⟩ = some (.int .i64 0) := HBA9.out.cell 7
    have s8 : U9.cell? ⟨g11, 8, none⟩ = some (.int .i64 0) := HBA9.out.cell 8
    go_wp2_with fail
    refine bodyPost_ret (v := .tuple #[anV X' cx' none 0 R cr ⟨2, pn, pd, [], 0, zs, 1, 0, 0⟩, .int .i64 0]) (by simp [results, Tryz.results17, go_sem, anV, r0, r1, r2, r3, r4, r5, r6, r7, r8]) rfl ?_
    have hfin : solA p = ⟨2, pn, pd, [], 0, zs, 1, 0, 0⟩ := by
     rw [show solA p = endA p lk from by have := HSOL.out; simpa using this]; unfold endA; rw [HRS.out, HCC.out, HPN.out, HPD.out, HZS.out]
    unfold RetSo
    rw [HSE.out, hfin]
    refine ⟨?_, X', cx', none, 0, R, cr, rfl, ⟨?_, Rd.nil _, ?_⟩⟩
    ·iterate 9 refine Below.setCell ?_ (by simp) _
     exact HW.out.trans ((HWT.out _ H9.out).mono HW.out.size)
    ·iterate 9 refine Rd.setCell_out ?_ _ _ (fun ad e h => by have := HXN6.out ad e; simp at h; omega)
     exact HX9.out
    ·iterate 9 refine Rd.setCell_out ?_ _ _ (fun ad e h => by have := HRN9.out ad e; simp at h; omega)
     exact HR9.out
theorem solve_Solve (A : Option Addr) (c : Nat) (A2 : Option Addr) (c2 : Nat) (p : PG) (w : World) (hp : Pg w A c A2 c2 p) :
    Calls Tryz.prog 17 #[.agg #[.slice A p.costs.length c, .slice A2 p.rows.length c2]] w (RetSo w p) := by
 cases hm : mayPB p with
 | false => exact solve_bad A c A2 c2 p w hp hm
 | true =>
  cases hn : begZ p with
  | none => exact solve_none A c A2 c2 p w hp hm hn
  | some lb => exact solve_some A c A2 c2 p w hp hm lb hn
end Go.Proofs.YtjcdkbalhleeeaaGreatDoor
