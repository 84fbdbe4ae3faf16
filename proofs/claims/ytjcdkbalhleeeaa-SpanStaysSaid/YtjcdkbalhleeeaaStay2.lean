/-
  Walk: the document's In computes what the plain words say.
-/
import Derived.Test.YtjcdkbalhleeeaaStay1
namespace Go.Proofs.Ytjcdkbalhleeeaa
open Go.RowKit

/-- Is a number within a span? -/
def inB (F T : EN) (n d : Int) : Bool := (F.op || decide (0 ≤ cmpZ n d F.n F.d)) && (T.op || decide (cmpZ n d T.n T.d ≤ 0))
set_option maxRecDepth 100000 in
set_option maxHeartbeats 1000000 in
theorem ref8_In (F T : EN) (n d : Int) (w : World) (hF : EOk F) (hT : EOk T) (ht : mayB [n] d = true) :
    Calls Try.prog 38 #[.agg #[.bool F.op, .int .i64 F.n, .int .i64 F.d, .bool T.op, .int .i64 T.n, .int .i64 T.d, .int .i64 0, .int .i64 0, .int .i64 0, .int .i64 0], .agg #[.int .i64 n, .int .i64 d]] w
      fun e w' => e = .returned (.bool (inB F T n d)) ∧ Below w.heap.size w w' := by
  obtain ⟨hd1, hd2, hn, _⟩ := mayB_parts2 ht
  have HV := Lib.hid (show inB F T n d = ((F.op || decide (0 ≤ cmpZ n d F.n F.d)) && (T.op || decide (cmpZ n d T.n T.d ≤ 0))) from rfl)
  clear ht
  by_cases hfo : F.op = true
  · have HFO := Lib.hid hfo
    have HFX := Lib.hid (show (F.op || decide (0 ≤ cmpZ n d F.n F.d)) = true by rw [hfo]; rfl)
    clear hfo
    go_enter Try.func38, Try.ntmps38
    go_upto_region 1 with fail
    have BP := Lib.hid (show Blk ((w.alloc (.cells #[.bool F.op, .int .i64 F.n, .int .i64 F.d, .bool T.op, .int .i64 T.n, .int .i64 T.d, .int .i64 0, .int .i64 0, .int .i64 0, .int .i64 0] 71)).alloc (.cells #[.int .i64 n, .int .i64 d] 23)) w.heap.size 71 #[.bool F.op, .int .i64 F.n, .int .i64 F.d, .bool T.op, .int .i64 T.n, .int .i64 T.d, .int .i64 0, .int .i64 0, .int .i64 0, .int .i64 0] from (Blk.mk' _ _ _).alloc _)
    have BT := Lib.hid (Blk.new (w.alloc (.cells #[.bool F.op, .int .i64 F.n, .int .i64 F.d, .bool T.op, .int .i64 T.n, .int .i64 T.d, .int .i64 0, .int .i64 0, .int .i64 0, .int .i64 0] 71)) 23 #[.int .i64 n, .int .i64 d] (w.heap.size + 1) (by simp))
    have HVW := Lib.hid ((by (repeat (any_goals (first | exact Below.refl _ _ | refine below_drewN ?_ _ | refine Below.drew ?_ | refine Below.alloc ?_ ?_ _ | refine Below.setCell ?_ ?_ _))); all_goals (first | omega | (simp; done) | (simp; omega))) : Below w.heap.size w ((w.alloc (.cells #[.bool F.op, .int .i64 F.n, .int .i64 F.d, .bool T.op, .int .i64 T.n, .int .i64 T.d, .int .i64 0, .int .i64 0, .int .i64 0, .int .i64 0] 71)).alloc (.cells #[.int .i64 n, .int .i64 d] 23)))
    generalize ((w.alloc (.cells #[.bool F.op, .int .i64 F.n, .int .i64 F.d, .bool T.op, .int .i64 T.n, .int .i64 T.d, .int .i64 0, .int .i64 0, .int .i64 0, .int .i64 0] 71)).alloc (.cells #[.int .i64 n, .int .i64 d] 23)) = V at *
    have zV := HVW.out.size
    have k0 : (V).cell? ⟨w.heap.size, 0, none⟩ = some (.bool F.op) := (BP.out.next (Below.refl _ _)).cell 0
    have k1 : (V).cell? ⟨w.heap.size, 1, none⟩ = some (.int .i64 F.n) := (BP.out.next (Below.refl _ _)).cell 1
    have k2 : (V).cell? ⟨w.heap.size, 2, none⟩ = some (.int .i64 F.d) := (BP.out.next (Below.refl _ _)).cell 2
    have k3 : (V).cell? ⟨w.heap.size, 3, none⟩ = some (.bool T.op) := (BP.out.next (Below.refl _ _)).cell 3
    have k4 : (V).cell? ⟨w.heap.size, 4, none⟩ = some (.int .i64 T.n) := (BP.out.next (Below.refl _ _)).cell 4
    have k5 : (V).cell? ⟨w.heap.size, 5, none⟩ = some (.int .i64 T.d) := (BP.out.next (Below.refl _ _)).cell 5
    have t0 : (V).cell? ⟨w.heap.size + 1, 0, none⟩ = some (.int .i64 n) := (BT.out.next (Below.refl _ _)).cell 0
    have t1 : (V).cell? ⟨w.heap.size + 1, 1, none⟩ = some (.int .i64 d) := (BT.out.next (Below.refl _ _)).cell 1
    rw [HFO.out] at k0
    by_cases hto : T.op = true
    · have HTO := Lib.hid hto
      clear hto
      rw [HTO.out] at k3
      go_wp2_with fail
      go_ret
      exact ⟨ret_bool (by rw [HV.out, HFX.out, HTO.out]; rfl), HVW.out.trans ((Below.refl V.heap.size V).mono zV)⟩
    · obtain ⟨td1, td2, tn, _⟩ := mayB_parts2 (hT.resolve_left hto)
      replace hto : T.op = false := by simpa using hto
      have HTO := Lib.hid hto
      clear hto
      rw [HTO.out] at k3
      go_wp2_with fail
      refine (ref1_Cmp n d T.n T.d _ hn ⟨by omega, hd2⟩ tn ⟨by omega, td2⟩).mono ?_
      rintro e w9 ⟨rfl, hb9⟩
      have H9 := Lib.hid ((Below.refl V.heap.size V).trans (hb9.mono (Below.refl V.heap.size V).size))
      clear k0 k1 k2 k3 k4 k5 t0 t1 hb9
      by_cases hc : n * T.d - T.n * d ≤ 0
      · go_wp2_with fail
        go_ret
        exact ⟨ret_bool (by rw [HV.out, HFX.out, HTO.out, Bool.true_and, Bool.false_or]; exact (decide_eq_true (show cmpZ n d T.n T.d ≤ 0 by unfold cmpZ; omega)).symm), HVW.out.trans (H9.out.mono zV)⟩
      · go_wp2_with fail
        go_ret
        exact ⟨ret_bool (by rw [HV.out, HFX.out, HTO.out, Bool.true_and, Bool.false_or]; rfl), HVW.out.trans (H9.out.mono zV)⟩
  · obtain ⟨fd1, fd2, fn, _⟩ := mayB_parts2 (hF.resolve_left hfo)
    replace hfo : F.op = false := by simpa using hfo
    have HFO := Lib.hid hfo
    by_cases hc : 0 ≤ n * F.d - F.n * d
    · have HFX := Lib.hid (show (F.op || decide (0 ≤ cmpZ n d F.n F.d)) = true by rw [hfo]; simpa [cmpZ] using hc)
      clear hfo
      go_enter Try.func38, Try.ntmps38
      go_upto_region 1 with fail
      have BP := Lib.hid (show Blk ((w.alloc (.cells #[.bool F.op, .int .i64 F.n, .int .i64 F.d, .bool T.op, .int .i64 T.n, .int .i64 T.d, .int .i64 0, .int .i64 0, .int .i64 0, .int .i64 0] 71)).alloc (.cells #[.int .i64 n, .int .i64 d] 23)) w.heap.size 71 #[.bool F.op, .int .i64 F.n, .int .i64 F.d, .bool T.op, .int .i64 T.n, .int .i64 T.d, .int .i64 0, .int .i64 0, .int .i64 0, .int .i64 0] from (Blk.mk' _ _ _).alloc _)
      have BT := Lib.hid (Blk.new (w.alloc (.cells #[.bool F.op, .int .i64 F.n, .int .i64 F.d, .bool T.op, .int .i64 T.n, .int .i64 T.d, .int .i64 0, .int .i64 0, .int .i64 0, .int .i64 0] 71)) 23 #[.int .i64 n, .int .i64 d] (w.heap.size + 1) (by simp))
      have HVW := Lib.hid ((by (repeat (any_goals (first | exact Below.refl _ _ | refine below_drewN ?_ _ | refine Below.drew ?_ | refine Below.alloc ?_ ?_ _ | refine Below.setCell ?_ ?_ _))); all_goals (first | omega | (simp; done) | (simp; omega))) : Below w.heap.size w ((w.alloc (.cells #[.bool F.op, .int .i64 F.n, .int .i64 F.d, .bool T.op, .int .i64 T.n, .int .i64 T.d, .int .i64 0, .int .i64 0, .int .i64 0, .int .i64 0] 71)).alloc (.cells #[.int .i64 n, .int .i64 d] 23)))
      generalize ((w.alloc (.cells #[.bool F.op, .int .i64 F.n, .int .i64 F.d, .bool T.op, .int .i64 T.n, .int .i64 T.d, .int .i64 0, .int .i64 0, .int .i64 0, .int .i64 0] 71)).alloc (.cells #[.int .i64 n, .int .i64 d] 23)) = V at *
      have zV := HVW.out.size
      have k0 : (V).cell? ⟨w.heap.size, 0, none⟩ = some (.bool F.op) := (BP.out.next (Below.refl _ _)).cell 0
      have k1 : (V).cell? ⟨w.heap.size, 1, none⟩ = some (.int .i64 F.n) := (BP.out.next (Below.refl _ _)).cell 1
      have k2 : (V).cell? ⟨w.heap.size, 2, none⟩ = some (.int .i64 F.d) := (BP.out.next (Below.refl _ _)).cell 2
      have k3 : (V).cell? ⟨w.heap.size, 3, none⟩ = some (.bool T.op) := (BP.out.next (Below.refl _ _)).cell 3
      have k4 : (V).cell? ⟨w.heap.size, 4, none⟩ = some (.int .i64 T.n) := (BP.out.next (Below.refl _ _)).cell 4
      have k5 : (V).cell? ⟨w.heap.size, 5, none⟩ = some (.int .i64 T.d) := (BP.out.next (Below.refl _ _)).cell 5
      have t0 : (V).cell? ⟨w.heap.size + 1, 0, none⟩ = some (.int .i64 n) := (BT.out.next (Below.refl _ _)).cell 0
      have t1 : (V).cell? ⟨w.heap.size + 1, 1, none⟩ = some (.int .i64 d) := (BT.out.next (Below.refl _ _)).cell 1
      rw [HFO.out] at k0
      go_wp2_with fail
      refine (ref1_Cmp n d F.n F.d _ hn ⟨by omega, hd2⟩ fn ⟨by omega, fd2⟩).mono ?_
      rintro e w5 ⟨rfl, hb5⟩
      have H5 := Lib.hid hb5
      clear k0 k1 k2 k3 k4 k5 t0 t1 hb5
      have k0 : (w5).cell? ⟨w.heap.size, 0, none⟩ = some (.bool F.op) := (BP.out.next (H5.out)).cell 0
      have k1 : (w5).cell? ⟨w.heap.size, 1, none⟩ = some (.int .i64 F.n) := (BP.out.next (H5.out)).cell 1
      have k2 : (w5).cell? ⟨w.heap.size, 2, none⟩ = some (.int .i64 F.d) := (BP.out.next (H5.out)).cell 2
      have k3 : (w5).cell? ⟨w.heap.size, 3, none⟩ = some (.bool T.op) := (BP.out.next (H5.out)).cell 3
      have k4 : (w5).cell? ⟨w.heap.size, 4, none⟩ = some (.int .i64 T.n) := (BP.out.next (H5.out)).cell 4
      have k5 : (w5).cell? ⟨w.heap.size, 5, none⟩ = some (.int .i64 T.d) := (BP.out.next (H5.out)).cell 5
      have t0 : (w5).cell? ⟨w.heap.size + 1, 0, none⟩ = some (.int .i64 n) := (BT.out.next (H5.out)).cell 0
      have t1 : (w5).cell? ⟨w.heap.size + 1, 1, none⟩ = some (.int .i64 d) := (BT.out.next (H5.out)).cell 1
      rw [HFO.out] at k0
      by_cases hto : T.op = true
      · have HTO := Lib.hid hto
        clear hto
        rw [HTO.out] at k3
        go_wp2_with fail
        go_ret
        exact ⟨ret_bool (by rw [HV.out, HFX.out, HTO.out]; rfl), HVW.out.trans ((H5.out).mono zV)⟩
      · obtain ⟨td1, td2, tn, _⟩ := mayB_parts2 (hT.resolve_left hto)
        replace hto : T.op = false := by simpa using hto
        have HTO := Lib.hid hto
        clear hto
        rw [HTO.out] at k3
        go_wp2_with fail
        refine (ref1_Cmp n d T.n T.d _ hn ⟨by omega, hd2⟩ tn ⟨by omega, td2⟩).mono ?_
        rintro e w9 ⟨rfl, hb9⟩
        have H9 := Lib.hid ((H5.out).trans (hb9.mono (H5.out).size))
        clear k0 k1 k2 k3 k4 k5 t0 t1 hb9
        by_cases hc : n * T.d - T.n * d ≤ 0
        · go_wp2_with fail
          go_ret
          exact ⟨ret_bool (by rw [HV.out, HFX.out, HTO.out, Bool.true_and, Bool.false_or]; exact (decide_eq_true (show cmpZ n d T.n T.d ≤ 0 by unfold cmpZ; omega)).symm), HVW.out.trans (H9.out.mono zV)⟩
        · go_wp2_with fail
          go_ret
          exact ⟨ret_bool (by rw [HV.out, HFX.out, HTO.out, Bool.true_and, Bool.false_or]; rfl), HVW.out.trans (H9.out.mono zV)⟩
    · have HFX := Lib.hid (show (F.op || decide (0 ≤ cmpZ n d F.n F.d)) = false by rw [hfo]; simpa [cmpZ] using hc)
      clear hfo
      go_enter Try.func38, Try.ntmps38
      go_upto_region 1 with fail
      have BP := Lib.hid (show Blk ((w.alloc (.cells #[.bool F.op, .int .i64 F.n, .int .i64 F.d, .bool T.op, .int .i64 T.n, .int .i64 T.d, .int .i64 0, .int .i64 0, .int .i64 0, .int .i64 0] 71)).alloc (.cells #[.int .i64 n, .int .i64 d] 23)) w.heap.size 71 #[.bool F.op, .int .i64 F.n, .int .i64 F.d, .bool T.op, .int .i64 T.n, .int .i64 T.d, .int .i64 0, .int .i64 0, .int .i64 0, .int .i64 0] from (Blk.mk' _ _ _).alloc _)
      have BT := Lib.hid (Blk.new (w.alloc (.cells #[.bool F.op, .int .i64 F.n, .int .i64 F.d, .bool T.op, .int .i64 T.n, .int .i64 T.d, .int .i64 0, .int .i64 0, .int .i64 0, .int .i64 0] 71)) 23 #[.int .i64 n, .int .i64 d] (w.heap.size + 1) (by simp))
      have HVW := Lib.hid ((by (repeat (any_goals (first | exact Below.refl _ _ | refine below_drewN ?_ _ | refine Below.drew ?_ | refine Below.alloc ?_ ?_ _ | refine Below.setCell ?_ ?_ _))); all_goals (first | omega | (simp; done) | (simp; omega))) : Below w.heap.size w ((w.alloc (.cells #[.bool F.op, .int .i64 F.n, .int .i64 F.d, .bool T.op, .int .i64 T.n, .int .i64 T.d, .int .i64 0, .int .i64 0, .int .i64 0, .int .i64 0] 71)).alloc (.cells #[.int .i64 n, .int .i64 d] 23)))
      generalize ((w.alloc (.cells #[.bool F.op, .int .i64 F.n, .int .i64 F.d, .bool T.op, .int .i64 T.n, .int .i64 T.d, .int .i64 0, .int .i64 0, .int .i64 0, .int .i64 0] 71)).alloc (.cells #[.int .i64 n, .int .i64 d] 23)) = V at *
      have zV := HVW.out.size
      have k0 : (V).cell? ⟨w.heap.size, 0, none⟩ = some (.bool F.op) := (BP.out.next (Below.refl _ _)).cell 0
      have k1 : (V).cell? ⟨w.heap.size, 1, none⟩ = some (.int .i64 F.n) := (BP.out.next (Below.refl _ _)).cell 1
      have k2 : (V).cell? ⟨w.heap.size, 2, none⟩ = some (.int .i64 F.d) := (BP.out.next (Below.refl _ _)).cell 2
      have k3 : (V).cell? ⟨w.heap.size, 3, none⟩ = some (.bool T.op) := (BP.out.next (Below.refl _ _)).cell 3
      have k4 : (V).cell? ⟨w.heap.size, 4, none⟩ = some (.int .i64 T.n) := (BP.out.next (Below.refl _ _)).cell 4
      have k5 : (V).cell? ⟨w.heap.size, 5, none⟩ = some (.int .i64 T.d) := (BP.out.next (Below.refl _ _)).cell 5
      have t0 : (V).cell? ⟨w.heap.size + 1, 0, none⟩ = some (.int .i64 n) := (BT.out.next (Below.refl _ _)).cell 0
      have t1 : (V).cell? ⟨w.heap.size + 1, 1, none⟩ = some (.int .i64 d) := (BT.out.next (Below.refl _ _)).cell 1
      rw [HFO.out] at k0
      go_wp2_with fail
      refine (ref1_Cmp n d F.n F.d _ hn ⟨by omega, hd2⟩ fn ⟨by omega, fd2⟩).mono ?_
      rintro e w5 ⟨rfl, hb5⟩
      have H5 := Lib.hid hb5
      clear k0 k1 k2 k3 k4 k5 t0 t1 hb5
      go_wp2_with fail
      go_ret
      exact ⟨ret_bool (by rw [HV.out, HFX.out]; rfl), HVW.out.trans (H5.out.mono zV)⟩
end Go.Proofs.Ytjcdkbalhleeeaa
