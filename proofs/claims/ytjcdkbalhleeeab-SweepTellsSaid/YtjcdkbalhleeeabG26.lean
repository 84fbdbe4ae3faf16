/-
  Contracts of functions and plain laws that later parts of the proof use. The conditions stand in each theorem.
-/
import Derived.Test.YtjcdkbalhleeeabG08
import Derived.Test.YtjcdkbalhleeeabG10
import Derived.Deep.DeepCutAuto
namespace Go.Proofs.Ytjcdkbalhleeeab
open Go.RowKit

theorem above_pos {s : NW} {a b : Int} (h : 0 < b) : aboveZ s a b = if s.fr.op = true ∨ 0 < cmpZ (frN (-a) b) (ptD [-a] b) s.fr.n s.fr.d then ⟨endE (-a) b, s.to, s.no⟩ else s := by
  have h1 : ¬ b = 0 := by omega
  have h2 : ¬ b < 0 := by omega
  simp only [aboveZ, Int.zero_sub, h, h1, h2, if_false, false_and, true_and]
theorem above_neg {s : NW} {a b : Int} (h : b < 0) : aboveZ s a b = if s.to.op = true ∨ cmpZ (frN (-a) b) (ptD [-a] b) s.to.n s.to.d < 0 then ⟨s.fr, endE (-a) b, s.no⟩ else s := by
  have h1 : ¬ b = 0 := by omega
  have h2 : ¬ 0 < b := by omega
  simp only [aboveZ, Int.zero_sub, h, h1, h2, if_false, false_and, true_and]
theorem mayB_parts' {n d : Int} (h : mayB [n] d = true) : 1 ≤ d ∧ d ≤ 1073741824 ∧ (-1073741824 ≤ n ∧ n ≤ 1073741824) ∧ True := by
  simp only [mayB, rightB, Bool.and_eq_true, decide_eq_true_eq, smallB_one] at h
  exact ⟨h.1.1, h.1.2.1, h.1.2.2.1, trivial⟩
/-- A span, as a value. -/
def nwV (s : NW) : Value := .agg (nwA s)
theorem ref7_whole (w : World) : Calls Try.prog 105 #[] w fun e w' => e = .returned (.agg #[.bool true, .int .i64 0, .int .i64 0, .bool true, .int .i64 0, .int .i64 0, .bool false]) ∧ Below w.heap.size w w' := by
  go_enter Try.func105, Try.ntmps105
  go_wp2_with fail
  refine bodyPost_ret (v := .agg #[.bool true, .int .i64 0, .int .i64 0, .bool true, .int .i64 0, .int .i64 0, .bool false]) ?_ ?_ ?_
  · simp [results, Try.results105, go_sem]
  · rfl
  · exact ⟨rfl, (by (repeat (any_goals (first | exact Below.refl _ _ | refine below_drewN ?_ _ | refine Below.drew ?_ | refine Below.alloc ?_ ?_ _ | refine Below.setCell ?_ ?_ _))); all_goals (first | omega | (simp; done) | (simp; omega)))⟩

set_option maxRecDepth 100000 in
set_option maxHeartbeats 4000000 in
theorem ref7_above (s : NW) (a b : Int) (w : World) (hs : NOk s) (ha : -4611686018427387904 ≤ a ∧ a ≤ 4611686018427387904) (hm : b ≠ 0 → ptE [0 - a] b = 0) :
    Calls Try.prog 106 #[.agg #[.bool s.fr.op, .int .i64 s.fr.n, .int .i64 s.fr.d, .bool s.to.op, .int .i64 s.to.n, .int .i64 s.to.d, .bool s.no], .int .i64 a, .int .i64 b] w fun e w' => e = .returned (nwV (aboveZ s a b)) ∧ Below w.heap.size w w' := by
  obtain ⟨ha1, ha2⟩ := ha
  by_cases hb : b = 0
  · subst hb
    have HV := Lib.hid (show aboveZ s a 0 = ⟨s.fr, s.to, s.no || decide (a < 0)⟩ by simp [aboveZ])
    clear hm
    by_cases hno : s.no = true
    · skip
      have HNO := Lib.hid hno
      clear hno
      go_enter Try.func106, Try.ntmps106
      go_upto_region 1 with fail
      have BS := Lib.hid (show Blk ((w.alloc (.cells (nwA s) 112)).alloc (.cells #[.bool false, .int .i64 0, .int .i64 0, .bool false, .int .i64 0, .int .i64 0, .bool false] 112)) w.heap.size 112 (nwA s) from (Blk.mk' _ _ _).alloc _)
      have BR := Lib.hid (Blk.new (w.alloc (.cells (nwA s) 112)) 112 #[.bool false, .int .i64 0, .int .i64 0, .bool false, .int .i64 0, .int .i64 0, .bool false] (w.heap.size + 1) (by simp))
      have HVW := Lib.hid ((by (repeat (any_goals (first | exact Below.refl _ _ | refine below_drewN ?_ _ | refine Below.drew ?_ | refine Below.alloc ?_ ?_ _ | refine Below.setCell ?_ ?_ _))); all_goals (first | omega | (simp; done) | (simp; omega))) : Below w.heap.size w ((w.alloc (.cells (nwA s) 112)).alloc (.cells #[.bool false, .int .i64 0, .int .i64 0, .bool false, .int .i64 0, .int .i64 0, .bool false] 112)))
      simp only [nwA] at BS BR HVW
      generalize ((w.alloc (.cells #[.bool s.fr.op, .int .i64 s.fr.n, .int .i64 s.fr.d, .bool s.to.op, .int .i64 s.to.n, .int .i64 s.to.d, .bool s.no] 112)).alloc (.cells #[.bool false, .int .i64 0, .int .i64 0, .bool false, .int .i64 0, .int .i64 0, .bool false] 112)) = V at *
      have zV := HVW.out.size
      have lR := BR.out.lt
      have k0 : (V).cell? ⟨w.heap.size, 0, none⟩ = some (.bool s.fr.op) := (BS.out).cell 0
      have k1 : (V).cell? ⟨w.heap.size, 1, none⟩ = some (.int .i64 s.fr.n) := (BS.out).cell 1
      have k2 : (V).cell? ⟨w.heap.size, 2, none⟩ = some (.int .i64 s.fr.d) := (BS.out).cell 2
      have k3 : (V).cell? ⟨w.heap.size, 3, none⟩ = some (.bool s.to.op) := (BS.out).cell 3
      have k4 : (V).cell? ⟨w.heap.size, 4, none⟩ = some (.int .i64 s.to.n) := (BS.out).cell 4
      have k5 : (V).cell? ⟨w.heap.size, 5, none⟩ = some (.int .i64 s.to.d) := (BS.out).cell 5
      have k6 : (V).cell? ⟨w.heap.size, 6, none⟩ = some (.bool s.no) := (BS.out).cell 6
      have f0 := (BS.out).frozen 0
      have f1 := (BS.out).frozen 1
      have f2 := (BS.out).frozen 2
      have f3 := (BS.out).frozen 3
      have f4 := (BS.out).frozen 4
      have f5 := (BS.out).frozen 5
      have f6 := (BS.out).frozen 6
      have r0 : (V).cell? ⟨w.heap.size + 1, 0, none⟩ = some (.bool false) := (BR.out).cell 0
      have r1 : (V).cell? ⟨w.heap.size + 1, 1, none⟩ = some (.int .i64 0) := (BR.out).cell 1
      have r2 : (V).cell? ⟨w.heap.size + 1, 2, none⟩ = some (.int .i64 0) := (BR.out).cell 2
      have r3 : (V).cell? ⟨w.heap.size + 1, 3, none⟩ = some (.bool false) := (BR.out).cell 3
      have r4 : (V).cell? ⟨w.heap.size + 1, 4, none⟩ = some (.int .i64 0) := (BR.out).cell 4
      have r5 : (V).cell? ⟨w.heap.size + 1, 5, none⟩ = some (.int .i64 0) := (BR.out).cell 5
      have r6 : (V).cell? ⟨w.heap.size + 1, 6, none⟩ = some (.bool false) := (BR.out).cell 6
      have q0 := (BR.out).frozen 0
      have q1 := (BR.out).frozen 1
      have q2 := (BR.out).frozen 2
      have q3 := (BR.out).frozen 3
      have q4 := (BR.out).frozen 4
      have q5 := (BR.out).frozen 5
      have q6 := (BR.out).frozen 6
      rw [HNO.out] at k6
      go_wp2_with fail
      refine bodyPost_ret (v := .agg #[.bool s.fr.op, .int .i64 s.fr.n, .int .i64 s.fr.d, .bool s.to.op, .int .i64 s.to.n, .int .i64 s.to.d, .bool true]) ?_ ?_ ?_
      · first
        | (simp [results, Try.results106, go_sem, r0, r1, r2, r3, r4, r5, r6]; done)
        | (simp [results, Try.results106, go_sem, r0, r1, r2, r3, r4, r5, r6, HO.out]; done)
        | (simp [results, Try.results106, go_sem, r0, r1, r2, r3, r4, r5, r6, HNO.out]; done)
      · rfl
      · refine ⟨by (rw [HV.out, HNO.out]; rfl), ?_⟩
        iterate 8 refine Below.setCell ?_ (by first | (simp; done) | (simp; omega)) _
        exact HVW.out
    · replace hno : s.no = false := by simpa using hno
      by_cases h0 : a < 0
      · have hd : decide (a < 0) = true := by simpa using h0
        have HNO := Lib.hid hno
        clear hno
        go_enter Try.func106, Try.ntmps106
        go_upto_region 1 with fail
        have BS := Lib.hid (show Blk ((w.alloc (.cells (nwA s) 112)).alloc (.cells #[.bool false, .int .i64 0, .int .i64 0, .bool false, .int .i64 0, .int .i64 0, .bool false] 112)) w.heap.size 112 (nwA s) from (Blk.mk' _ _ _).alloc _)
        have BR := Lib.hid (Blk.new (w.alloc (.cells (nwA s) 112)) 112 #[.bool false, .int .i64 0, .int .i64 0, .bool false, .int .i64 0, .int .i64 0, .bool false] (w.heap.size + 1) (by simp))
        have HVW := Lib.hid ((by (repeat (any_goals (first | exact Below.refl _ _ | refine below_drewN ?_ _ | refine Below.drew ?_ | refine Below.alloc ?_ ?_ _ | refine Below.setCell ?_ ?_ _))); all_goals (first | omega | (simp; done) | (simp; omega))) : Below w.heap.size w ((w.alloc (.cells (nwA s) 112)).alloc (.cells #[.bool false, .int .i64 0, .int .i64 0, .bool false, .int .i64 0, .int .i64 0, .bool false] 112)))
        simp only [nwA] at BS BR HVW
        generalize ((w.alloc (.cells #[.bool s.fr.op, .int .i64 s.fr.n, .int .i64 s.fr.d, .bool s.to.op, .int .i64 s.to.n, .int .i64 s.to.d, .bool s.no] 112)).alloc (.cells #[.bool false, .int .i64 0, .int .i64 0, .bool false, .int .i64 0, .int .i64 0, .bool false] 112)) = V at *
        have zV := HVW.out.size
        have lR := BR.out.lt
        have k0 : (V).cell? ⟨w.heap.size, 0, none⟩ = some (.bool s.fr.op) := (BS.out).cell 0
        have k1 : (V).cell? ⟨w.heap.size, 1, none⟩ = some (.int .i64 s.fr.n) := (BS.out).cell 1
        have k2 : (V).cell? ⟨w.heap.size, 2, none⟩ = some (.int .i64 s.fr.d) := (BS.out).cell 2
        have k3 : (V).cell? ⟨w.heap.size, 3, none⟩ = some (.bool s.to.op) := (BS.out).cell 3
        have k4 : (V).cell? ⟨w.heap.size, 4, none⟩ = some (.int .i64 s.to.n) := (BS.out).cell 4
        have k5 : (V).cell? ⟨w.heap.size, 5, none⟩ = some (.int .i64 s.to.d) := (BS.out).cell 5
        have k6 : (V).cell? ⟨w.heap.size, 6, none⟩ = some (.bool s.no) := (BS.out).cell 6
        have f0 := (BS.out).frozen 0
        have f1 := (BS.out).frozen 1
        have f2 := (BS.out).frozen 2
        have f3 := (BS.out).frozen 3
        have f4 := (BS.out).frozen 4
        have f5 := (BS.out).frozen 5
        have f6 := (BS.out).frozen 6
        have r0 : (V).cell? ⟨w.heap.size + 1, 0, none⟩ = some (.bool false) := (BR.out).cell 0
        have r1 : (V).cell? ⟨w.heap.size + 1, 1, none⟩ = some (.int .i64 0) := (BR.out).cell 1
        have r2 : (V).cell? ⟨w.heap.size + 1, 2, none⟩ = some (.int .i64 0) := (BR.out).cell 2
        have r3 : (V).cell? ⟨w.heap.size + 1, 3, none⟩ = some (.bool false) := (BR.out).cell 3
        have r4 : (V).cell? ⟨w.heap.size + 1, 4, none⟩ = some (.int .i64 0) := (BR.out).cell 4
        have r5 : (V).cell? ⟨w.heap.size + 1, 5, none⟩ = some (.int .i64 0) := (BR.out).cell 5
        have r6 : (V).cell? ⟨w.heap.size + 1, 6, none⟩ = some (.bool false) := (BR.out).cell 6
        have q0 := (BR.out).frozen 0
        have q1 := (BR.out).frozen 1
        have q2 := (BR.out).frozen 2
        have q3 := (BR.out).frozen 3
        have q4 := (BR.out).frozen 4
        have q5 := (BR.out).frozen 5
        have q6 := (BR.out).frozen 6
        rw [HNO.out] at k6
        go_wp2_with fail
        refine bodyPost_ret (v := .agg #[.bool s.fr.op, .int .i64 s.fr.n, .int .i64 s.fr.d, .bool s.to.op, .int .i64 s.to.n, .int .i64 s.to.d, .bool true]) ?_ ?_ ?_
        · first
          | (simp [results, Try.results106, go_sem, r0, r1, r2, r3, r4, r5, r6]; done)
          | (simp [results, Try.results106, go_sem, r0, r1, r2, r3, r4, r5, r6, HO.out]; done)
          | (simp [results, Try.results106, go_sem, r0, r1, r2, r3, r4, r5, r6, HNO.out]; done)
        · rfl
        · refine ⟨by (rw [HV.out, HNO.out, hd]; rfl), ?_⟩
          iterate 8 refine Below.setCell ?_ (by first | (simp; done) | (simp; omega)) _
          exact HVW.out
      · have hd : decide (a < 0) = false := by simpa using h0
        have HNO := Lib.hid hno
        clear hno
        go_enter Try.func106, Try.ntmps106
        go_upto_region 1 with fail
        have BS := Lib.hid (show Blk ((w.alloc (.cells (nwA s) 112)).alloc (.cells #[.bool false, .int .i64 0, .int .i64 0, .bool false, .int .i64 0, .int .i64 0, .bool false] 112)) w.heap.size 112 (nwA s) from (Blk.mk' _ _ _).alloc _)
        have BR := Lib.hid (Blk.new (w.alloc (.cells (nwA s) 112)) 112 #[.bool false, .int .i64 0, .int .i64 0, .bool false, .int .i64 0, .int .i64 0, .bool false] (w.heap.size + 1) (by simp))
        have HVW := Lib.hid ((by (repeat (any_goals (first | exact Below.refl _ _ | refine below_drewN ?_ _ | refine Below.drew ?_ | refine Below.alloc ?_ ?_ _ | refine Below.setCell ?_ ?_ _))); all_goals (first | omega | (simp; done) | (simp; omega))) : Below w.heap.size w ((w.alloc (.cells (nwA s) 112)).alloc (.cells #[.bool false, .int .i64 0, .int .i64 0, .bool false, .int .i64 0, .int .i64 0, .bool false] 112)))
        simp only [nwA] at BS BR HVW
        generalize ((w.alloc (.cells #[.bool s.fr.op, .int .i64 s.fr.n, .int .i64 s.fr.d, .bool s.to.op, .int .i64 s.to.n, .int .i64 s.to.d, .bool s.no] 112)).alloc (.cells #[.bool false, .int .i64 0, .int .i64 0, .bool false, .int .i64 0, .int .i64 0, .bool false] 112)) = V at *
        have zV := HVW.out.size
        have lR := BR.out.lt
        have k0 : (V).cell? ⟨w.heap.size, 0, none⟩ = some (.bool s.fr.op) := (BS.out).cell 0
        have k1 : (V).cell? ⟨w.heap.size, 1, none⟩ = some (.int .i64 s.fr.n) := (BS.out).cell 1
        have k2 : (V).cell? ⟨w.heap.size, 2, none⟩ = some (.int .i64 s.fr.d) := (BS.out).cell 2
        have k3 : (V).cell? ⟨w.heap.size, 3, none⟩ = some (.bool s.to.op) := (BS.out).cell 3
        have k4 : (V).cell? ⟨w.heap.size, 4, none⟩ = some (.int .i64 s.to.n) := (BS.out).cell 4
        have k5 : (V).cell? ⟨w.heap.size, 5, none⟩ = some (.int .i64 s.to.d) := (BS.out).cell 5
        have k6 : (V).cell? ⟨w.heap.size, 6, none⟩ = some (.bool s.no) := (BS.out).cell 6
        have f0 := (BS.out).frozen 0
        have f1 := (BS.out).frozen 1
        have f2 := (BS.out).frozen 2
        have f3 := (BS.out).frozen 3
        have f4 := (BS.out).frozen 4
        have f5 := (BS.out).frozen 5
        have f6 := (BS.out).frozen 6
        have r0 : (V).cell? ⟨w.heap.size + 1, 0, none⟩ = some (.bool false) := (BR.out).cell 0
        have r1 : (V).cell? ⟨w.heap.size + 1, 1, none⟩ = some (.int .i64 0) := (BR.out).cell 1
        have r2 : (V).cell? ⟨w.heap.size + 1, 2, none⟩ = some (.int .i64 0) := (BR.out).cell 2
        have r3 : (V).cell? ⟨w.heap.size + 1, 3, none⟩ = some (.bool false) := (BR.out).cell 3
        have r4 : (V).cell? ⟨w.heap.size + 1, 4, none⟩ = some (.int .i64 0) := (BR.out).cell 4
        have r5 : (V).cell? ⟨w.heap.size + 1, 5, none⟩ = some (.int .i64 0) := (BR.out).cell 5
        have r6 : (V).cell? ⟨w.heap.size + 1, 6, none⟩ = some (.bool false) := (BR.out).cell 6
        have q0 := (BR.out).frozen 0
        have q1 := (BR.out).frozen 1
        have q2 := (BR.out).frozen 2
        have q3 := (BR.out).frozen 3
        have q4 := (BR.out).frozen 4
        have q5 := (BR.out).frozen 5
        have q6 := (BR.out).frozen 6
        rw [HNO.out] at k6
        go_wp2_with fail
        refine bodyPost_ret (v := .agg #[.bool s.fr.op, .int .i64 s.fr.n, .int .i64 s.fr.d, .bool s.to.op, .int .i64 s.to.n, .int .i64 s.to.d, .bool false]) ?_ ?_ ?_
        · first
          | (simp [results, Try.results106, go_sem, r0, r1, r2, r3, r4, r5, r6]; done)
          | (simp [results, Try.results106, go_sem, r0, r1, r2, r3, r4, r5, r6, HO.out]; done)
          | (simp [results, Try.results106, go_sem, r0, r1, r2, r3, r4, r5, r6, HNO.out]; done)
        · rfl
        · refine ⟨by (rw [HV.out, HNO.out, hd]; rfl), ?_⟩
          iterate 8 refine Below.setCell ?_ (by first | (simp; done) | (simp; omega)) _
          exact HVW.out
  · have hbz : (b == 0) = false := by simpa using hb
    have hw1 : IntKind.i64.wrap (-a) = -a := IntWalk.i64_in _ (by omega)
    simp only [Int.zero_sub] at hm
    have ht := may_end (hm hb)
    obtain ⟨td1, td2, tn, _⟩ := mayB_parts' ht
    clear hm
    by_cases hpos : 0 < b
    · have hp1 : decide (0 < b) = true := by simpa using hpos
      have hp2 : decide (b < 0) = false := by simp; omega
      by_cases ho : s.fr.op = true
      · have HV := Lib.hid (show aboveZ s a b = ⟨endE (-a) b, s.to, s.no⟩ by rw [above_pos hpos, if_pos (.inl ho)])
        have HO := Lib.hid ho
        clear ho
        (try clear hof)
        go_enter Try.func106, Try.ntmps106
        go_upto_region 1 with fail
        have BS := Lib.hid (show Blk ((w.alloc (.cells (nwA s) 112)).alloc (.cells #[.bool false, .int .i64 0, .int .i64 0, .bool false, .int .i64 0, .int .i64 0, .bool false] 112)) w.heap.size 112 (nwA s) from (Blk.mk' _ _ _).alloc _)
        have BR := Lib.hid (Blk.new (w.alloc (.cells (nwA s) 112)) 112 #[.bool false, .int .i64 0, .int .i64 0, .bool false, .int .i64 0, .int .i64 0, .bool false] (w.heap.size + 1) (by simp))
        have HVW := Lib.hid ((by (repeat (any_goals (first | exact Below.refl _ _ | refine below_drewN ?_ _ | refine Below.drew ?_ | refine Below.alloc ?_ ?_ _ | refine Below.setCell ?_ ?_ _))); all_goals (first | omega | (simp; done) | (simp; omega))) : Below w.heap.size w ((w.alloc (.cells (nwA s) 112)).alloc (.cells #[.bool false, .int .i64 0, .int .i64 0, .bool false, .int .i64 0, .int .i64 0, .bool false] 112)))
        simp only [nwA] at BS BR HVW
        generalize ((w.alloc (.cells #[.bool s.fr.op, .int .i64 s.fr.n, .int .i64 s.fr.d, .bool s.to.op, .int .i64 s.to.n, .int .i64 s.to.d, .bool s.no] 112)).alloc (.cells #[.bool false, .int .i64 0, .int .i64 0, .bool false, .int .i64 0, .int .i64 0, .bool false] 112)) = V at *
        have zV := HVW.out.size
        have lR := BR.out.lt
        go_wp2_with fail
        refine (ref1_Of _ _ _).mono ?_
        rintro e w1 ⟨rfl, hb1⟩
        have z1 := hb1.size
        have lR1 : w.heap.size + 1 < w1.heap.size := by omega
        have lR0 : w.heap.size < w1.heap.size := by omega
        go_upto_region 5 with fail
        have HWL := (hb1.alloc z1 (.cells #[.int .i64 (frN (-a) b), .int .i64 (ptD [-a] b)] 38))
        have BS1 := Lib.hid (BS.out.next HWL)
        have BR1 := Lib.hid (BR.out.next HWL)
        have BT := Lib.hid (Blk.mk' w1 38 #[.int .i64 (frN (-a) b), .int .i64 (ptD [-a] b)])
        have HW1 := Lib.hid (HVW.out.trans (HWL.mono zV))
        clear HWL hb1
        generalize (w1.alloc (.cells #[.int .i64 (frN (-a) b), .int .i64 (ptD [-a] b)] 38)) = W1 at *
        have k0 : (W1).cell? ⟨w.heap.size, 0, none⟩ = some (.bool s.fr.op) := (BS1.out).cell 0
        have k1 : (W1).cell? ⟨w.heap.size, 1, none⟩ = some (.int .i64 s.fr.n) := (BS1.out).cell 1
        have k2 : (W1).cell? ⟨w.heap.size, 2, none⟩ = some (.int .i64 s.fr.d) := (BS1.out).cell 2
        have k3 : (W1).cell? ⟨w.heap.size, 3, none⟩ = some (.bool s.to.op) := (BS1.out).cell 3
        have k4 : (W1).cell? ⟨w.heap.size, 4, none⟩ = some (.int .i64 s.to.n) := (BS1.out).cell 4
        have k5 : (W1).cell? ⟨w.heap.size, 5, none⟩ = some (.int .i64 s.to.d) := (BS1.out).cell 5
        have k6 : (W1).cell? ⟨w.heap.size, 6, none⟩ = some (.bool s.no) := (BS1.out).cell 6
        have f0 := (BS1.out).frozen 0
        have f1 := (BS1.out).frozen 1
        have f2 := (BS1.out).frozen 2
        have f3 := (BS1.out).frozen 3
        have f4 := (BS1.out).frozen 4
        have f5 := (BS1.out).frozen 5
        have f6 := (BS1.out).frozen 6
        have r0 : (W1).cell? ⟨w.heap.size + 1, 0, none⟩ = some (.bool false) := (BR1.out).cell 0
        have r1 : (W1).cell? ⟨w.heap.size + 1, 1, none⟩ = some (.int .i64 0) := (BR1.out).cell 1
        have r2 : (W1).cell? ⟨w.heap.size + 1, 2, none⟩ = some (.int .i64 0) := (BR1.out).cell 2
        have r3 : (W1).cell? ⟨w.heap.size + 1, 3, none⟩ = some (.bool false) := (BR1.out).cell 3
        have r4 : (W1).cell? ⟨w.heap.size + 1, 4, none⟩ = some (.int .i64 0) := (BR1.out).cell 4
        have r5 : (W1).cell? ⟨w.heap.size + 1, 5, none⟩ = some (.int .i64 0) := (BR1.out).cell 5
        have r6 : (W1).cell? ⟨w.heap.size + 1, 6, none⟩ = some (.bool false) := (BR1.out).cell 6
        have q0 := (BR1.out).frozen 0
        have q1 := (BR1.out).frozen 1
        have q2 := (BR1.out).frozen 2
        have q3 := (BR1.out).frozen 3
        have q4 := (BR1.out).frozen 4
        have q5 := (BR1.out).frozen 5
        have q6 := (BR1.out).frozen 6
        have t0 : (W1).cell? ⟨w1.heap.size, 0, none⟩ = some (.int .i64 (frN (-a) b)) := (BT.out).cell 0
        have t1 : (W1).cell? ⟨w1.heap.size, 1, none⟩ = some (.int .i64 (ptD [-a] b)) := (BT.out).cell 1
        have zW1 := HW1.out.size
        rw [HO.out] at k0
        go_wp2_with fail
        refine bodyPost_ret (v := .agg #[.bool false, .int .i64 (frN (-a) b), .int .i64 (ptD [-a] b), .bool s.to.op, .int .i64 s.to.n, .int .i64 s.to.d, .bool s.no]) ?_ ?_ ?_
        · first
          | (simp [results, Try.results106, go_sem, r0, r1, r2, r3, r4, r5, r6]; done)
          | (simp [results, Try.results106, go_sem, r0, r1, r2, r3, r4, r5, r6, HO.out]; done)
          | (simp [results, Try.results106, go_sem, r0, r1, r2, r3, r4, r5, r6, HNO.out]; done)
        · rfl
        · refine ⟨by (rw [HV.out]; rfl), ?_⟩
          iterate 10 refine Below.setCell ?_ (by first | (simp; done) | (simp; omega)) _
          exact HW1.out
      · have hof := ho
        replace ho : s.fr.op = false := by simpa using ho
        obtain ⟨fd1, fd2, fn, _⟩ := mayB_parts' (hs.1.resolve_left hof)
        by_cases hl : 0 < cmpZ (frN (-a) b) (ptD [-a] b) s.fr.n s.fr.d
        · have HV := Lib.hid (show aboveZ s a b = ⟨endE (-a) b, s.to, s.no⟩ by rw [above_pos hpos, if_pos (.inr hl)])
          have HC := Lib.hid (fun w => ref1_Cmp (frN (-a) b) (ptD [-a] b) s.fr.n s.fr.d w tn ⟨by omega, td2⟩ fn ⟨by omega, fd2⟩)
          unfold cmpZ at hl
          have HO := Lib.hid ho
          clear ho
          (try clear hof)
          go_enter Try.func106, Try.ntmps106
          go_upto_region 1 with fail
          have BS := Lib.hid (show Blk ((w.alloc (.cells (nwA s) 112)).alloc (.cells #[.bool false, .int .i64 0, .int .i64 0, .bool false, .int .i64 0, .int .i64 0, .bool false] 112)) w.heap.size 112 (nwA s) from (Blk.mk' _ _ _).alloc _)
          have BR := Lib.hid (Blk.new (w.alloc (.cells (nwA s) 112)) 112 #[.bool false, .int .i64 0, .int .i64 0, .bool false, .int .i64 0, .int .i64 0, .bool false] (w.heap.size + 1) (by simp))
          have HVW := Lib.hid ((by (repeat (any_goals (first | exact Below.refl _ _ | refine below_drewN ?_ _ | refine Below.drew ?_ | refine Below.alloc ?_ ?_ _ | refine Below.setCell ?_ ?_ _))); all_goals (first | omega | (simp; done) | (simp; omega))) : Below w.heap.size w ((w.alloc (.cells (nwA s) 112)).alloc (.cells #[.bool false, .int .i64 0, .int .i64 0, .bool false, .int .i64 0, .int .i64 0, .bool false] 112)))
          simp only [nwA] at BS BR HVW
          generalize ((w.alloc (.cells #[.bool s.fr.op, .int .i64 s.fr.n, .int .i64 s.fr.d, .bool s.to.op, .int .i64 s.to.n, .int .i64 s.to.d, .bool s.no] 112)).alloc (.cells #[.bool false, .int .i64 0, .int .i64 0, .bool false, .int .i64 0, .int .i64 0, .bool false] 112)) = V at *
          have zV := HVW.out.size
          have lR := BR.out.lt
          go_wp2_with fail
          refine (ref1_Of _ _ _).mono ?_
          rintro e w1 ⟨rfl, hb1⟩
          have z1 := hb1.size
          have lR1 : w.heap.size + 1 < w1.heap.size := by omega
          have lR0 : w.heap.size < w1.heap.size := by omega
          go_upto_region 5 with fail
          have HWL := (hb1.alloc z1 (.cells #[.int .i64 (frN (-a) b), .int .i64 (ptD [-a] b)] 38))
          have BS1 := Lib.hid (BS.out.next HWL)
          have BR1 := Lib.hid (BR.out.next HWL)
          have BT := Lib.hid (Blk.mk' w1 38 #[.int .i64 (frN (-a) b), .int .i64 (ptD [-a] b)])
          have HW1 := Lib.hid (HVW.out.trans (HWL.mono zV))
          clear HWL hb1
          generalize (w1.alloc (.cells #[.int .i64 (frN (-a) b), .int .i64 (ptD [-a] b)] 38)) = W1 at *
          have k0 : (W1).cell? ⟨w.heap.size, 0, none⟩ = some (.bool s.fr.op) := (BS1.out).cell 0
          have k1 : (W1).cell? ⟨w.heap.size, 1, none⟩ = some (.int .i64 s.fr.n) := (BS1.out).cell 1
          have k2 : (W1).cell? ⟨w.heap.size, 2, none⟩ = some (.int .i64 s.fr.d) := (BS1.out).cell 2
          have k3 : (W1).cell? ⟨w.heap.size, 3, none⟩ = some (.bool s.to.op) := (BS1.out).cell 3
          have k4 : (W1).cell? ⟨w.heap.size, 4, none⟩ = some (.int .i64 s.to.n) := (BS1.out).cell 4
          have k5 : (W1).cell? ⟨w.heap.size, 5, none⟩ = some (.int .i64 s.to.d) := (BS1.out).cell 5
          have k6 : (W1).cell? ⟨w.heap.size, 6, none⟩ = some (.bool s.no) := (BS1.out).cell 6
          have f0 := (BS1.out).frozen 0
          have f1 := (BS1.out).frozen 1
          have f2 := (BS1.out).frozen 2
          have f3 := (BS1.out).frozen 3
          have f4 := (BS1.out).frozen 4
          have f5 := (BS1.out).frozen 5
          have f6 := (BS1.out).frozen 6
          have r0 : (W1).cell? ⟨w.heap.size + 1, 0, none⟩ = some (.bool false) := (BR1.out).cell 0
          have r1 : (W1).cell? ⟨w.heap.size + 1, 1, none⟩ = some (.int .i64 0) := (BR1.out).cell 1
          have r2 : (W1).cell? ⟨w.heap.size + 1, 2, none⟩ = some (.int .i64 0) := (BR1.out).cell 2
          have r3 : (W1).cell? ⟨w.heap.size + 1, 3, none⟩ = some (.bool false) := (BR1.out).cell 3
          have r4 : (W1).cell? ⟨w.heap.size + 1, 4, none⟩ = some (.int .i64 0) := (BR1.out).cell 4
          have r5 : (W1).cell? ⟨w.heap.size + 1, 5, none⟩ = some (.int .i64 0) := (BR1.out).cell 5
          have r6 : (W1).cell? ⟨w.heap.size + 1, 6, none⟩ = some (.bool false) := (BR1.out).cell 6
          have q0 := (BR1.out).frozen 0
          have q1 := (BR1.out).frozen 1
          have q2 := (BR1.out).frozen 2
          have q3 := (BR1.out).frozen 3
          have q4 := (BR1.out).frozen 4
          have q5 := (BR1.out).frozen 5
          have q6 := (BR1.out).frozen 6
          have t0 : (W1).cell? ⟨w1.heap.size, 0, none⟩ = some (.int .i64 (frN (-a) b)) := (BT.out).cell 0
          have t1 : (W1).cell? ⟨w1.heap.size, 1, none⟩ = some (.int .i64 (ptD [-a] b)) := (BT.out).cell 1
          have zW1 := HW1.out.size
          rw [HO.out] at k0
          go_wp2_with fail
          refine (HC.out _).mono ?_
          rintro e w2 ⟨rfl, hb2⟩
          have BS2 := Lib.hid (BS1.out.next hb2)
          have BR2 := Lib.hid (BR1.out.next hb2)
          have BT2 := Lib.hid (BT.out.next hb2)
          have HW2 := Lib.hid (HW1.out.trans (hb2.mono zW1))
          clear k0 k1 k2 k3 k4 k5 k6 f0 f1 f2 f3 f4 f5 f6 r0 r1 r2 r3 r4 r5 r6 q0 q1 q2 q3 q4 q5 q6 t0 t1 hb2
          have k0 : (w2).cell? ⟨w.heap.size, 0, none⟩ = some (.bool s.fr.op) := (BS2.out).cell 0
          have k1 : (w2).cell? ⟨w.heap.size, 1, none⟩ = some (.int .i64 s.fr.n) := (BS2.out).cell 1
          have k2 : (w2).cell? ⟨w.heap.size, 2, none⟩ = some (.int .i64 s.fr.d) := (BS2.out).cell 2
          have k3 : (w2).cell? ⟨w.heap.size, 3, none⟩ = some (.bool s.to.op) := (BS2.out).cell 3
          have k4 : (w2).cell? ⟨w.heap.size, 4, none⟩ = some (.int .i64 s.to.n) := (BS2.out).cell 4
          have k5 : (w2).cell? ⟨w.heap.size, 5, none⟩ = some (.int .i64 s.to.d) := (BS2.out).cell 5
          have k6 : (w2).cell? ⟨w.heap.size, 6, none⟩ = some (.bool s.no) := (BS2.out).cell 6
          have f0 := (BS2.out).frozen 0
          have f1 := (BS2.out).frozen 1
          have f2 := (BS2.out).frozen 2
          have f3 := (BS2.out).frozen 3
          have f4 := (BS2.out).frozen 4
          have f5 := (BS2.out).frozen 5
          have f6 := (BS2.out).frozen 6
          have r0 : (w2).cell? ⟨w.heap.size + 1, 0, none⟩ = some (.bool false) := (BR2.out).cell 0
          have r1 : (w2).cell? ⟨w.heap.size + 1, 1, none⟩ = some (.int .i64 0) := (BR2.out).cell 1
          have r2 : (w2).cell? ⟨w.heap.size + 1, 2, none⟩ = some (.int .i64 0) := (BR2.out).cell 2
          have r3 : (w2).cell? ⟨w.heap.size + 1, 3, none⟩ = some (.bool false) := (BR2.out).cell 3
          have r4 : (w2).cell? ⟨w.heap.size + 1, 4, none⟩ = some (.int .i64 0) := (BR2.out).cell 4
          have r5 : (w2).cell? ⟨w.heap.size + 1, 5, none⟩ = some (.int .i64 0) := (BR2.out).cell 5
          have r6 : (w2).cell? ⟨w.heap.size + 1, 6, none⟩ = some (.bool false) := (BR2.out).cell 6
          have q0 := (BR2.out).frozen 0
          have q1 := (BR2.out).frozen 1
          have q2 := (BR2.out).frozen 2
          have q3 := (BR2.out).frozen 3
          have q4 := (BR2.out).frozen 4
          have q5 := (BR2.out).frozen 5
          have q6 := (BR2.out).frozen 6
          have t0 : (w2).cell? ⟨w1.heap.size, 0, none⟩ = some (.int .i64 (frN (-a) b)) := (BT2.out).cell 0
          have t1 : (w2).cell? ⟨w1.heap.size, 1, none⟩ = some (.int .i64 (ptD [-a] b)) := (BT2.out).cell 1
          rw [HO.out] at k0
          go_wp2_with fail
          refine bodyPost_ret (v := .agg #[.bool false, .int .i64 (frN (-a) b), .int .i64 (ptD [-a] b), .bool s.to.op, .int .i64 s.to.n, .int .i64 s.to.d, .bool s.no]) ?_ ?_ ?_
          · first
            | (simp [results, Try.results106, go_sem, r0, r1, r2, r3, r4, r5, r6]; done)
            | (simp [results, Try.results106, go_sem, r0, r1, r2, r3, r4, r5, r6, HO.out]; done)
            | (simp [results, Try.results106, go_sem, r0, r1, r2, r3, r4, r5, r6, HNO.out]; done)
          · rfl
          · refine ⟨by (rw [HV.out]; rfl), ?_⟩
            iterate 10 refine Below.setCell ?_ (by first | (simp; done) | (simp; omega)) _
            exact HW2.out
        · have HV := Lib.hid (show aboveZ s a b = s by rw [above_pos hpos, if_neg (fun h => by rcases h with e | e; exact hof e; exact hl e)])
          have HC := Lib.hid (fun w => ref1_Cmp (frN (-a) b) (ptD [-a] b) s.fr.n s.fr.d w tn ⟨by omega, td2⟩ fn ⟨by omega, fd2⟩)
          unfold cmpZ at hl
          have HO := Lib.hid ho
          clear ho
          (try clear hof)
          go_enter Try.func106, Try.ntmps106
          go_upto_region 1 with fail
          have BS := Lib.hid (show Blk ((w.alloc (.cells (nwA s) 112)).alloc (.cells #[.bool false, .int .i64 0, .int .i64 0, .bool false, .int .i64 0, .int .i64 0, .bool false] 112)) w.heap.size 112 (nwA s) from (Blk.mk' _ _ _).alloc _)
          have BR := Lib.hid (Blk.new (w.alloc (.cells (nwA s) 112)) 112 #[.bool false, .int .i64 0, .int .i64 0, .bool false, .int .i64 0, .int .i64 0, .bool false] (w.heap.size + 1) (by simp))
          have HVW := Lib.hid ((by (repeat (any_goals (first | exact Below.refl _ _ | refine below_drewN ?_ _ | refine Below.drew ?_ | refine Below.alloc ?_ ?_ _ | refine Below.setCell ?_ ?_ _))); all_goals (first | omega | (simp; done) | (simp; omega))) : Below w.heap.size w ((w.alloc (.cells (nwA s) 112)).alloc (.cells #[.bool false, .int .i64 0, .int .i64 0, .bool false, .int .i64 0, .int .i64 0, .bool false] 112)))
          simp only [nwA] at BS BR HVW
          generalize ((w.alloc (.cells #[.bool s.fr.op, .int .i64 s.fr.n, .int .i64 s.fr.d, .bool s.to.op, .int .i64 s.to.n, .int .i64 s.to.d, .bool s.no] 112)).alloc (.cells #[.bool false, .int .i64 0, .int .i64 0, .bool false, .int .i64 0, .int .i64 0, .bool false] 112)) = V at *
          have zV := HVW.out.size
          have lR := BR.out.lt
          go_wp2_with fail
          refine (ref1_Of _ _ _).mono ?_
          rintro e w1 ⟨rfl, hb1⟩
          have z1 := hb1.size
          have lR1 : w.heap.size + 1 < w1.heap.size := by omega
          have lR0 : w.heap.size < w1.heap.size := by omega
          go_upto_region 5 with fail
          have HWL := (hb1.alloc z1 (.cells #[.int .i64 (frN (-a) b), .int .i64 (ptD [-a] b)] 38))
          have BS1 := Lib.hid (BS.out.next HWL)
          have BR1 := Lib.hid (BR.out.next HWL)
          have BT := Lib.hid (Blk.mk' w1 38 #[.int .i64 (frN (-a) b), .int .i64 (ptD [-a] b)])
          have HW1 := Lib.hid (HVW.out.trans (HWL.mono zV))
          clear HWL hb1
          generalize (w1.alloc (.cells #[.int .i64 (frN (-a) b), .int .i64 (ptD [-a] b)] 38)) = W1 at *
          have k0 : (W1).cell? ⟨w.heap.size, 0, none⟩ = some (.bool s.fr.op) := (BS1.out).cell 0
          have k1 : (W1).cell? ⟨w.heap.size, 1, none⟩ = some (.int .i64 s.fr.n) := (BS1.out).cell 1
          have k2 : (W1).cell? ⟨w.heap.size, 2, none⟩ = some (.int .i64 s.fr.d) := (BS1.out).cell 2
          have k3 : (W1).cell? ⟨w.heap.size, 3, none⟩ = some (.bool s.to.op) := (BS1.out).cell 3
          have k4 : (W1).cell? ⟨w.heap.size, 4, none⟩ = some (.int .i64 s.to.n) := (BS1.out).cell 4
          have k5 : (W1).cell? ⟨w.heap.size, 5, none⟩ = some (.int .i64 s.to.d) := (BS1.out).cell 5
          have k6 : (W1).cell? ⟨w.heap.size, 6, none⟩ = some (.bool s.no) := (BS1.out).cell 6
          have f0 := (BS1.out).frozen 0
          have f1 := (BS1.out).frozen 1
          have f2 := (BS1.out).frozen 2
          have f3 := (BS1.out).frozen 3
          have f4 := (BS1.out).frozen 4
          have f5 := (BS1.out).frozen 5
          have f6 := (BS1.out).frozen 6
          have r0 : (W1).cell? ⟨w.heap.size + 1, 0, none⟩ = some (.bool false) := (BR1.out).cell 0
          have r1 : (W1).cell? ⟨w.heap.size + 1, 1, none⟩ = some (.int .i64 0) := (BR1.out).cell 1
          have r2 : (W1).cell? ⟨w.heap.size + 1, 2, none⟩ = some (.int .i64 0) := (BR1.out).cell 2
          have r3 : (W1).cell? ⟨w.heap.size + 1, 3, none⟩ = some (.bool false) := (BR1.out).cell 3
          have r4 : (W1).cell? ⟨w.heap.size + 1, 4, none⟩ = some (.int .i64 0) := (BR1.out).cell 4
          have r5 : (W1).cell? ⟨w.heap.size + 1, 5, none⟩ = some (.int .i64 0) := (BR1.out).cell 5
          have r6 : (W1).cell? ⟨w.heap.size + 1, 6, none⟩ = some (.bool false) := (BR1.out).cell 6
          have q0 := (BR1.out).frozen 0
          have q1 := (BR1.out).frozen 1
          have q2 := (BR1.out).frozen 2
          have q3 := (BR1.out).frozen 3
          have q4 := (BR1.out).frozen 4
          have q5 := (BR1.out).frozen 5
          have q6 := (BR1.out).frozen 6
          have t0 : (W1).cell? ⟨w1.heap.size, 0, none⟩ = some (.int .i64 (frN (-a) b)) := (BT.out).cell 0
          have t1 : (W1).cell? ⟨w1.heap.size, 1, none⟩ = some (.int .i64 (ptD [-a] b)) := (BT.out).cell 1
          have zW1 := HW1.out.size
          rw [HO.out] at k0
          go_wp2_with fail
          refine (HC.out _).mono ?_
          rintro e w2 ⟨rfl, hb2⟩
          have BS2 := Lib.hid (BS1.out.next hb2)
          have BR2 := Lib.hid (BR1.out.next hb2)
          have BT2 := Lib.hid (BT.out.next hb2)
          have HW2 := Lib.hid (HW1.out.trans (hb2.mono zW1))
          clear k0 k1 k2 k3 k4 k5 k6 f0 f1 f2 f3 f4 f5 f6 r0 r1 r2 r3 r4 r5 r6 q0 q1 q2 q3 q4 q5 q6 t0 t1 hb2
          have k0 : (w2).cell? ⟨w.heap.size, 0, none⟩ = some (.bool s.fr.op) := (BS2.out).cell 0
          have k1 : (w2).cell? ⟨w.heap.size, 1, none⟩ = some (.int .i64 s.fr.n) := (BS2.out).cell 1
          have k2 : (w2).cell? ⟨w.heap.size, 2, none⟩ = some (.int .i64 s.fr.d) := (BS2.out).cell 2
          have k3 : (w2).cell? ⟨w.heap.size, 3, none⟩ = some (.bool s.to.op) := (BS2.out).cell 3
          have k4 : (w2).cell? ⟨w.heap.size, 4, none⟩ = some (.int .i64 s.to.n) := (BS2.out).cell 4
          have k5 : (w2).cell? ⟨w.heap.size, 5, none⟩ = some (.int .i64 s.to.d) := (BS2.out).cell 5
          have k6 : (w2).cell? ⟨w.heap.size, 6, none⟩ = some (.bool s.no) := (BS2.out).cell 6
          have f0 := (BS2.out).frozen 0
          have f1 := (BS2.out).frozen 1
          have f2 := (BS2.out).frozen 2
          have f3 := (BS2.out).frozen 3
          have f4 := (BS2.out).frozen 4
          have f5 := (BS2.out).frozen 5
          have f6 := (BS2.out).frozen 6
          have r0 : (w2).cell? ⟨w.heap.size + 1, 0, none⟩ = some (.bool false) := (BR2.out).cell 0
          have r1 : (w2).cell? ⟨w.heap.size + 1, 1, none⟩ = some (.int .i64 0) := (BR2.out).cell 1
          have r2 : (w2).cell? ⟨w.heap.size + 1, 2, none⟩ = some (.int .i64 0) := (BR2.out).cell 2
          have r3 : (w2).cell? ⟨w.heap.size + 1, 3, none⟩ = some (.bool false) := (BR2.out).cell 3
          have r4 : (w2).cell? ⟨w.heap.size + 1, 4, none⟩ = some (.int .i64 0) := (BR2.out).cell 4
          have r5 : (w2).cell? ⟨w.heap.size + 1, 5, none⟩ = some (.int .i64 0) := (BR2.out).cell 5
          have r6 : (w2).cell? ⟨w.heap.size + 1, 6, none⟩ = some (.bool false) := (BR2.out).cell 6
          have q0 := (BR2.out).frozen 0
          have q1 := (BR2.out).frozen 1
          have q2 := (BR2.out).frozen 2
          have q3 := (BR2.out).frozen 3
          have q4 := (BR2.out).frozen 4
          have q5 := (BR2.out).frozen 5
          have q6 := (BR2.out).frozen 6
          have t0 : (w2).cell? ⟨w1.heap.size, 0, none⟩ = some (.int .i64 (frN (-a) b)) := (BT2.out).cell 0
          have t1 : (w2).cell? ⟨w1.heap.size, 1, none⟩ = some (.int .i64 (ptD [-a] b)) := (BT2.out).cell 1
          rw [HO.out] at k0
          go_wp2_with fail
          refine bodyPost_ret (v := .agg #[.bool s.fr.op, .int .i64 s.fr.n, .int .i64 s.fr.d, .bool s.to.op, .int .i64 s.to.n, .int .i64 s.to.d, .bool s.no]) ?_ ?_ ?_
          · first
            | (simp [results, Try.results106, go_sem, r0, r1, r2, r3, r4, r5, r6]; done)
            | (simp [results, Try.results106, go_sem, r0, r1, r2, r3, r4, r5, r6, HO.out]; done)
            | (simp [results, Try.results106, go_sem, r0, r1, r2, r3, r4, r5, r6, HNO.out]; done)
          · rfl
          · refine ⟨by (rw [HV.out]; rfl), ?_⟩
            iterate 7 refine Below.setCell ?_ (by first | (simp; done) | (simp; omega)) _
            exact HW2.out
    · have hneg : b < 0 := by omega
      have hp1 : decide (0 < b) = false := by simp; omega
      have hp2 : decide (b < 0) = true := by simpa using hneg
      by_cases ho : s.to.op = true
      · have HV := Lib.hid (show aboveZ s a b = ⟨s.fr, endE (-a) b, s.no⟩ by rw [above_neg hneg, if_pos (.inl ho)])
        have HO := Lib.hid ho
        clear ho
        (try clear hof)
        go_enter Try.func106, Try.ntmps106
        go_upto_region 1 with fail
        have BS := Lib.hid (show Blk ((w.alloc (.cells (nwA s) 112)).alloc (.cells #[.bool false, .int .i64 0, .int .i64 0, .bool false, .int .i64 0, .int .i64 0, .bool false] 112)) w.heap.size 112 (nwA s) from (Blk.mk' _ _ _).alloc _)
        have BR := Lib.hid (Blk.new (w.alloc (.cells (nwA s) 112)) 112 #[.bool false, .int .i64 0, .int .i64 0, .bool false, .int .i64 0, .int .i64 0, .bool false] (w.heap.size + 1) (by simp))
        have HVW := Lib.hid ((by (repeat (any_goals (first | exact Below.refl _ _ | refine below_drewN ?_ _ | refine Below.drew ?_ | refine Below.alloc ?_ ?_ _ | refine Below.setCell ?_ ?_ _))); all_goals (first | omega | (simp; done) | (simp; omega))) : Below w.heap.size w ((w.alloc (.cells (nwA s) 112)).alloc (.cells #[.bool false, .int .i64 0, .int .i64 0, .bool false, .int .i64 0, .int .i64 0, .bool false] 112)))
        simp only [nwA] at BS BR HVW
        generalize ((w.alloc (.cells #[.bool s.fr.op, .int .i64 s.fr.n, .int .i64 s.fr.d, .bool s.to.op, .int .i64 s.to.n, .int .i64 s.to.d, .bool s.no] 112)).alloc (.cells #[.bool false, .int .i64 0, .int .i64 0, .bool false, .int .i64 0, .int .i64 0, .bool false] 112)) = V at *
        have zV := HVW.out.size
        have lR := BR.out.lt
        go_wp2_with fail
        refine (ref1_Of _ _ _).mono ?_
        rintro e w1 ⟨rfl, hb1⟩
        have z1 := hb1.size
        have lR1 : w.heap.size + 1 < w1.heap.size := by omega
        have lR0 : w.heap.size < w1.heap.size := by omega
        go_upto_region 5 with fail
        have HWL := (hb1.alloc z1 (.cells #[.int .i64 (frN (-a) b), .int .i64 (ptD [-a] b)] 38))
        have BS1 := Lib.hid (BS.out.next HWL)
        have BR1 := Lib.hid (BR.out.next HWL)
        have BT := Lib.hid (Blk.mk' w1 38 #[.int .i64 (frN (-a) b), .int .i64 (ptD [-a] b)])
        have HW1 := Lib.hid (HVW.out.trans (HWL.mono zV))
        clear HWL hb1
        generalize (w1.alloc (.cells #[.int .i64 (frN (-a) b), .int .i64 (ptD [-a] b)] 38)) = W1 at *
        have k0 : (W1).cell? ⟨w.heap.size, 0, none⟩ = some (.bool s.fr.op) := (BS1.out).cell 0
        have k1 : (W1).cell? ⟨w.heap.size, 1, none⟩ = some (.int .i64 s.fr.n) := (BS1.out).cell 1
        have k2 : (W1).cell? ⟨w.heap.size, 2, none⟩ = some (.int .i64 s.fr.d) := (BS1.out).cell 2
        have k3 : (W1).cell? ⟨w.heap.size, 3, none⟩ = some (.bool s.to.op) := (BS1.out).cell 3
        have k4 : (W1).cell? ⟨w.heap.size, 4, none⟩ = some (.int .i64 s.to.n) := (BS1.out).cell 4
        have k5 : (W1).cell? ⟨w.heap.size, 5, none⟩ = some (.int .i64 s.to.d) := (BS1.out).cell 5
        have k6 : (W1).cell? ⟨w.heap.size, 6, none⟩ = some (.bool s.no) := (BS1.out).cell 6
        have f0 := (BS1.out).frozen 0
        have f1 := (BS1.out).frozen 1
        have f2 := (BS1.out).frozen 2
        have f3 := (BS1.out).frozen 3
        have f4 := (BS1.out).frozen 4
        have f5 := (BS1.out).frozen 5
        have f6 := (BS1.out).frozen 6
        have r0 : (W1).cell? ⟨w.heap.size + 1, 0, none⟩ = some (.bool false) := (BR1.out).cell 0
        have r1 : (W1).cell? ⟨w.heap.size + 1, 1, none⟩ = some (.int .i64 0) := (BR1.out).cell 1
        have r2 : (W1).cell? ⟨w.heap.size + 1, 2, none⟩ = some (.int .i64 0) := (BR1.out).cell 2
        have r3 : (W1).cell? ⟨w.heap.size + 1, 3, none⟩ = some (.bool false) := (BR1.out).cell 3
        have r4 : (W1).cell? ⟨w.heap.size + 1, 4, none⟩ = some (.int .i64 0) := (BR1.out).cell 4
        have r5 : (W1).cell? ⟨w.heap.size + 1, 5, none⟩ = some (.int .i64 0) := (BR1.out).cell 5
        have r6 : (W1).cell? ⟨w.heap.size + 1, 6, none⟩ = some (.bool false) := (BR1.out).cell 6
        have q0 := (BR1.out).frozen 0
        have q1 := (BR1.out).frozen 1
        have q2 := (BR1.out).frozen 2
        have q3 := (BR1.out).frozen 3
        have q4 := (BR1.out).frozen 4
        have q5 := (BR1.out).frozen 5
        have q6 := (BR1.out).frozen 6
        have t0 : (W1).cell? ⟨w1.heap.size, 0, none⟩ = some (.int .i64 (frN (-a) b)) := (BT.out).cell 0
        have t1 : (W1).cell? ⟨w1.heap.size, 1, none⟩ = some (.int .i64 (ptD [-a] b)) := (BT.out).cell 1
        have zW1 := HW1.out.size
        rw [HO.out] at k3
        go_wp2_with fail
        refine bodyPost_ret (v := .agg #[.bool s.fr.op, .int .i64 s.fr.n, .int .i64 s.fr.d, .bool false, .int .i64 (frN (-a) b), .int .i64 (ptD [-a] b), .bool s.no]) ?_ ?_ ?_
        · first
          | (simp [results, Try.results106, go_sem, r0, r1, r2, r3, r4, r5, r6]; done)
          | (simp [results, Try.results106, go_sem, r0, r1, r2, r3, r4, r5, r6, HO.out]; done)
          | (simp [results, Try.results106, go_sem, r0, r1, r2, r3, r4, r5, r6, HNO.out]; done)
        · rfl
        · refine ⟨by (rw [HV.out]; rfl), ?_⟩
          iterate 10 refine Below.setCell ?_ (by first | (simp; done) | (simp; omega)) _
          exact HW1.out
      · have hof := ho
        replace ho : s.to.op = false := by simpa using ho
        obtain ⟨fd1, fd2, fn, _⟩ := mayB_parts' (hs.2.resolve_left hof)
        by_cases hl : cmpZ (frN (-a) b) (ptD [-a] b) s.to.n s.to.d < 0
        · have HV := Lib.hid (show aboveZ s a b = ⟨s.fr, endE (-a) b, s.no⟩ by rw [above_neg hneg, if_pos (.inr hl)])
          have HC := Lib.hid (fun w => ref1_Cmp (frN (-a) b) (ptD [-a] b) s.to.n s.to.d w tn ⟨by omega, td2⟩ fn ⟨by omega, fd2⟩)
          unfold cmpZ at hl
          have HO := Lib.hid ho
          clear ho
          (try clear hof)
          go_enter Try.func106, Try.ntmps106
          go_upto_region 1 with fail
          have BS := Lib.hid (show Blk ((w.alloc (.cells (nwA s) 112)).alloc (.cells #[.bool false, .int .i64 0, .int .i64 0, .bool false, .int .i64 0, .int .i64 0, .bool false] 112)) w.heap.size 112 (nwA s) from (Blk.mk' _ _ _).alloc _)
          have BR := Lib.hid (Blk.new (w.alloc (.cells (nwA s) 112)) 112 #[.bool false, .int .i64 0, .int .i64 0, .bool false, .int .i64 0, .int .i64 0, .bool false] (w.heap.size + 1) (by simp))
          have HVW := Lib.hid ((by (repeat (any_goals (first | exact Below.refl _ _ | refine below_drewN ?_ _ | refine Below.drew ?_ | refine Below.alloc ?_ ?_ _ | refine Below.setCell ?_ ?_ _))); all_goals (first | omega | (simp; done) | (simp; omega))) : Below w.heap.size w ((w.alloc (.cells (nwA s) 112)).alloc (.cells #[.bool false, .int .i64 0, .int .i64 0, .bool false, .int .i64 0, .int .i64 0, .bool false] 112)))
          simp only [nwA] at BS BR HVW
          generalize ((w.alloc (.cells #[.bool s.fr.op, .int .i64 s.fr.n, .int .i64 s.fr.d, .bool s.to.op, .int .i64 s.to.n, .int .i64 s.to.d, .bool s.no] 112)).alloc (.cells #[.bool false, .int .i64 0, .int .i64 0, .bool false, .int .i64 0, .int .i64 0, .bool false] 112)) = V at *
          have zV := HVW.out.size
          have lR := BR.out.lt
          go_wp2_with fail
          refine (ref1_Of _ _ _).mono ?_
          rintro e w1 ⟨rfl, hb1⟩
          have z1 := hb1.size
          have lR1 : w.heap.size + 1 < w1.heap.size := by omega
          have lR0 : w.heap.size < w1.heap.size := by omega
          go_upto_region 5 with fail
          have HWL := (hb1.alloc z1 (.cells #[.int .i64 (frN (-a) b), .int .i64 (ptD [-a] b)] 38))
          have BS1 := Lib.hid (BS.out.next HWL)
          have BR1 := Lib.hid (BR.out.next HWL)
          have BT := Lib.hid (Blk.mk' w1 38 #[.int .i64 (frN (-a) b), .int .i64 (ptD [-a] b)])
          have HW1 := Lib.hid (HVW.out.trans (HWL.mono zV))
          clear HWL hb1
          generalize (w1.alloc (.cells #[.int .i64 (frN (-a) b), .int .i64 (ptD [-a] b)] 38)) = W1 at *
          have k0 : (W1).cell? ⟨w.heap.size, 0, none⟩ = some (.bool s.fr.op) := (BS1.out).cell 0
          have k1 : (W1).cell? ⟨w.heap.size, 1, none⟩ = some (.int .i64 s.fr.n) := (BS1.out).cell 1
          have k2 : (W1).cell? ⟨w.heap.size, 2, none⟩ = some (.int .i64 s.fr.d) := (BS1.out).cell 2
          have k3 : (W1).cell? ⟨w.heap.size, 3, none⟩ = some (.bool s.to.op) := (BS1.out).cell 3
          have k4 : (W1).cell? ⟨w.heap.size, 4, none⟩ = some (.int .i64 s.to.n) := (BS1.out).cell 4
          have k5 : (W1).cell? ⟨w.heap.size, 5, none⟩ = some (.int .i64 s.to.d) := (BS1.out).cell 5
          have k6 : (W1).cell? ⟨w.heap.size, 6, none⟩ = some (.bool s.no) := (BS1.out).cell 6
          have f0 := (BS1.out).frozen 0
          have f1 := (BS1.out).frozen 1
          have f2 := (BS1.out).frozen 2
          have f3 := (BS1.out).frozen 3
          have f4 := (BS1.out).frozen 4
          have f5 := (BS1.out).frozen 5
          have f6 := (BS1.out).frozen 6
          have r0 : (W1).cell? ⟨w.heap.size + 1, 0, none⟩ = some (.bool false) := (BR1.out).cell 0
          have r1 : (W1).cell? ⟨w.heap.size + 1, 1, none⟩ = some (.int .i64 0) := (BR1.out).cell 1
          have r2 : (W1).cell? ⟨w.heap.size + 1, 2, none⟩ = some (.int .i64 0) := (BR1.out).cell 2
          have r3 : (W1).cell? ⟨w.heap.size + 1, 3, none⟩ = some (.bool false) := (BR1.out).cell 3
          have r4 : (W1).cell? ⟨w.heap.size + 1, 4, none⟩ = some (.int .i64 0) := (BR1.out).cell 4
          have r5 : (W1).cell? ⟨w.heap.size + 1, 5, none⟩ = some (.int .i64 0) := (BR1.out).cell 5
          have r6 : (W1).cell? ⟨w.heap.size + 1, 6, none⟩ = some (.bool false) := (BR1.out).cell 6
          have q0 := (BR1.out).frozen 0
          have q1 := (BR1.out).frozen 1
          have q2 := (BR1.out).frozen 2
          have q3 := (BR1.out).frozen 3
          have q4 := (BR1.out).frozen 4
          have q5 := (BR1.out).frozen 5
          have q6 := (BR1.out).frozen 6
          have t0 : (W1).cell? ⟨w1.heap.size, 0, none⟩ = some (.int .i64 (frN (-a) b)) := (BT.out).cell 0
          have t1 : (W1).cell? ⟨w1.heap.size, 1, none⟩ = some (.int .i64 (ptD [-a] b)) := (BT.out).cell 1
          have zW1 := HW1.out.size
          rw [HO.out] at k3
          go_wp2_with fail
          refine (HC.out _).mono ?_
          rintro e w2 ⟨rfl, hb2⟩
          have BS2 := Lib.hid (BS1.out.next hb2)
          have BR2 := Lib.hid (BR1.out.next hb2)
          have BT2 := Lib.hid (BT.out.next hb2)
          have HW2 := Lib.hid (HW1.out.trans (hb2.mono zW1))
          clear k0 k1 k2 k3 k4 k5 k6 f0 f1 f2 f3 f4 f5 f6 r0 r1 r2 r3 r4 r5 r6 q0 q1 q2 q3 q4 q5 q6 t0 t1 hb2
          have k0 : (w2).cell? ⟨w.heap.size, 0, none⟩ = some (.bool s.fr.op) := (BS2.out).cell 0
          have k1 : (w2).cell? ⟨w.heap.size, 1, none⟩ = some (.int .i64 s.fr.n) := (BS2.out).cell 1
          have k2 : (w2).cell? ⟨w.heap.size, 2, none⟩ = some (.int .i64 s.fr.d) := (BS2.out).cell 2
          have k3 : (w2).cell? ⟨w.heap.size, 3, none⟩ = some (.bool s.to.op) := (BS2.out).cell 3
          have k4 : (w2).cell? ⟨w.heap.size, 4, none⟩ = some (.int .i64 s.to.n) := (BS2.out).cell 4
          have k5 : (w2).cell? ⟨w.heap.size, 5, none⟩ = some (.int .i64 s.to.d) := (BS2.out).cell 5
          have k6 : (w2).cell? ⟨w.heap.size, 6, none⟩ = some (.bool s.no) := (BS2.out).cell 6
          have f0 := (BS2.out).frozen 0
          have f1 := (BS2.out).frozen 1
          have f2 := (BS2.out).frozen 2
          have f3 := (BS2.out).frozen 3
          have f4 := (BS2.out).frozen 4
          have f5 := (BS2.out).frozen 5
          have f6 := (BS2.out).frozen 6
          have r0 : (w2).cell? ⟨w.heap.size + 1, 0, none⟩ = some (.bool false) := (BR2.out).cell 0
          have r1 : (w2).cell? ⟨w.heap.size + 1, 1, none⟩ = some (.int .i64 0) := (BR2.out).cell 1
          have r2 : (w2).cell? ⟨w.heap.size + 1, 2, none⟩ = some (.int .i64 0) := (BR2.out).cell 2
          have r3 : (w2).cell? ⟨w.heap.size + 1, 3, none⟩ = some (.bool false) := (BR2.out).cell 3
          have r4 : (w2).cell? ⟨w.heap.size + 1, 4, none⟩ = some (.int .i64 0) := (BR2.out).cell 4
          have r5 : (w2).cell? ⟨w.heap.size + 1, 5, none⟩ = some (.int .i64 0) := (BR2.out).cell 5
          have r6 : (w2).cell? ⟨w.heap.size + 1, 6, none⟩ = some (.bool false) := (BR2.out).cell 6
          have q0 := (BR2.out).frozen 0
          have q1 := (BR2.out).frozen 1
          have q2 := (BR2.out).frozen 2
          have q3 := (BR2.out).frozen 3
          have q4 := (BR2.out).frozen 4
          have q5 := (BR2.out).frozen 5
          have q6 := (BR2.out).frozen 6
          have t0 : (w2).cell? ⟨w1.heap.size, 0, none⟩ = some (.int .i64 (frN (-a) b)) := (BT2.out).cell 0
          have t1 : (w2).cell? ⟨w1.heap.size, 1, none⟩ = some (.int .i64 (ptD [-a] b)) := (BT2.out).cell 1
          rw [HO.out] at k3
          go_wp2_with fail
          refine bodyPost_ret (v := .agg #[.bool s.fr.op, .int .i64 s.fr.n, .int .i64 s.fr.d, .bool false, .int .i64 (frN (-a) b), .int .i64 (ptD [-a] b), .bool s.no]) ?_ ?_ ?_
          · first
            | (simp [results, Try.results106, go_sem, r0, r1, r2, r3, r4, r5, r6]; done)
            | (simp [results, Try.results106, go_sem, r0, r1, r2, r3, r4, r5, r6, HO.out]; done)
            | (simp [results, Try.results106, go_sem, r0, r1, r2, r3, r4, r5, r6, HNO.out]; done)
          · rfl
          · refine ⟨by (rw [HV.out]; rfl), ?_⟩
            iterate 10 refine Below.setCell ?_ (by first | (simp; done) | (simp; omega)) _
            exact HW2.out
        · have HV := Lib.hid (show aboveZ s a b = s by rw [above_neg hneg, if_neg (fun h => by rcases h with e | e; exact hof e; exact hl e)])
          have HC := Lib.hid (fun w => ref1_Cmp (frN (-a) b) (ptD [-a] b) s.to.n s.to.d w tn ⟨by omega, td2⟩ fn ⟨by omega, fd2⟩)
          unfold cmpZ at hl
          have HO := Lib.hid ho
          clear ho
          (try clear hof)
          go_enter Try.func106, Try.ntmps106
          go_upto_region 1 with fail
          have BS := Lib.hid (show Blk ((w.alloc (.cells (nwA s) 112)).alloc (.cells #[.bool false, .int .i64 0, .int .i64 0, .bool false, .int .i64 0, .int .i64 0, .bool false] 112)) w.heap.size 112 (nwA s) from (Blk.mk' _ _ _).alloc _)
          have BR := Lib.hid (Blk.new (w.alloc (.cells (nwA s) 112)) 112 #[.bool false, .int .i64 0, .int .i64 0, .bool false, .int .i64 0, .int .i64 0, .bool false] (w.heap.size + 1) (by simp))
          have HVW := Lib.hid ((by (repeat (any_goals (first | exact Below.refl _ _ | refine below_drewN ?_ _ | refine Below.drew ?_ | refine Below.alloc ?_ ?_ _ | refine Below.setCell ?_ ?_ _))); all_goals (first | omega | (simp; done) | (simp; omega))) : Below w.heap.size w ((w.alloc (.cells (nwA s) 112)).alloc (.cells #[.bool false, .int .i64 0, .int .i64 0, .bool false, .int .i64 0, .int .i64 0, .bool false] 112)))
          simp only [nwA] at BS BR HVW
          generalize ((w.alloc (.cells #[.bool s.fr.op, .int .i64 s.fr.n, .int .i64 s.fr.d, .bool s.to.op, .int .i64 s.to.n, .int .i64 s.to.d, .bool s.no] 112)).alloc (.cells #[.bool false, .int .i64 0, .int .i64 0, .bool false, .int .i64 0, .int .i64 0, .bool false] 112)) = V at *
          have zV := HVW.out.size
          have lR := BR.out.lt
          go_wp2_with fail
          refine (ref1_Of _ _ _).mono ?_
          rintro e w1 ⟨rfl, hb1⟩
          have z1 := hb1.size
          have lR1 : w.heap.size + 1 < w1.heap.size := by omega
          have lR0 : w.heap.size < w1.heap.size := by omega
          go_upto_region 5 with fail
          have HWL := (hb1.alloc z1 (.cells #[.int .i64 (frN (-a) b), .int .i64 (ptD [-a] b)] 38))
          have BS1 := Lib.hid (BS.out.next HWL)
          have BR1 := Lib.hid (BR.out.next HWL)
          have BT := Lib.hid (Blk.mk' w1 38 #[.int .i64 (frN (-a) b), .int .i64 (ptD [-a] b)])
          have HW1 := Lib.hid (HVW.out.trans (HWL.mono zV))
          clear HWL hb1
          generalize (w1.alloc (.cells #[.int .i64 (frN (-a) b), .int .i64 (ptD [-a] b)] 38)) = W1 at *
          have k0 : (W1).cell? ⟨w.heap.size, 0, none⟩ = some (.bool s.fr.op) := (BS1.out).cell 0
          have k1 : (W1).cell? ⟨w.heap.size, 1, none⟩ = some (.int .i64 s.fr.n) := (BS1.out).cell 1
          have k2 : (W1).cell? ⟨w.heap.size, 2, none⟩ = some (.int .i64 s.fr.d) := (BS1.out).cell 2
          have k3 : (W1).cell? ⟨w.heap.size, 3, none⟩ = some (.bool s.to.op) := (BS1.out).cell 3
          have k4 : (W1).cell? ⟨w.heap.size, 4, none⟩ = some (.int .i64 s.to.n) := (BS1.out).cell 4
          have k5 : (W1).cell? ⟨w.heap.size, 5, none⟩ = some (.int .i64 s.to.d) := (BS1.out).cell 5
          have k6 : (W1).cell? ⟨w.heap.size, 6, none⟩ = some (.bool s.no) := (BS1.out).cell 6
          have f0 := (BS1.out).frozen 0
          have f1 := (BS1.out).frozen 1
          have f2 := (BS1.out).frozen 2
          have f3 := (BS1.out).frozen 3
          have f4 := (BS1.out).frozen 4
          have f5 := (BS1.out).frozen 5
          have f6 := (BS1.out).frozen 6
          have r0 : (W1).cell? ⟨w.heap.size + 1, 0, none⟩ = some (.bool false) := (BR1.out).cell 0
          have r1 : (W1).cell? ⟨w.heap.size + 1, 1, none⟩ = some (.int .i64 0) := (BR1.out).cell 1
          have r2 : (W1).cell? ⟨w.heap.size + 1, 2, none⟩ = some (.int .i64 0) := (BR1.out).cell 2
          have r3 : (W1).cell? ⟨w.heap.size + 1, 3, none⟩ = some (.bool false) := (BR1.out).cell 3
          have r4 : (W1).cell? ⟨w.heap.size + 1, 4, none⟩ = some (.int .i64 0) := (BR1.out).cell 4
          have r5 : (W1).cell? ⟨w.heap.size + 1, 5, none⟩ = some (.int .i64 0) := (BR1.out).cell 5
          have r6 : (W1).cell? ⟨w.heap.size + 1, 6, none⟩ = some (.bool false) := (BR1.out).cell 6
          have q0 := (BR1.out).frozen 0
          have q1 := (BR1.out).frozen 1
          have q2 := (BR1.out).frozen 2
          have q3 := (BR1.out).frozen 3
          have q4 := (BR1.out).frozen 4
          have q5 := (BR1.out).frozen 5
          have q6 := (BR1.out).frozen 6
          have t0 : (W1).cell? ⟨w1.heap.size, 0, none⟩ = some (.int .i64 (frN (-a) b)) := (BT.out).cell 0
          have t1 : (W1).cell? ⟨w1.heap.size, 1, none⟩ = some (.int .i64 (ptD [-a] b)) := (BT.out).cell 1
          have zW1 := HW1.out.size
          rw [HO.out] at k3
          go_wp2_with fail
          refine (HC.out _).mono ?_
          rintro e w2 ⟨rfl, hb2⟩
          have BS2 := Lib.hid (BS1.out.next hb2)
          have BR2 := Lib.hid (BR1.out.next hb2)
          have BT2 := Lib.hid (BT.out.next hb2)
          have HW2 := Lib.hid (HW1.out.trans (hb2.mono zW1))
          clear k0 k1 k2 k3 k4 k5 k6 f0 f1 f2 f3 f4 f5 f6 r0 r1 r2 r3 r4 r5 r6 q0 q1 q2 q3 q4 q5 q6 t0 t1 hb2
          have k0 : (w2).cell? ⟨w.heap.size, 0, none⟩ = some (.bool s.fr.op) := (BS2.out).cell 0
          have k1 : (w2).cell? ⟨w.heap.size, 1, none⟩ = some (.int .i64 s.fr.n) := (BS2.out).cell 1
          have k2 : (w2).cell? ⟨w.heap.size, 2, none⟩ = some (.int .i64 s.fr.d) := (BS2.out).cell 2
          have k3 : (w2).cell? ⟨w.heap.size, 3, none⟩ = some (.bool s.to.op) := (BS2.out).cell 3
          have k4 : (w2).cell? ⟨w.heap.size, 4, none⟩ = some (.int .i64 s.to.n) := (BS2.out).cell 4
          have k5 : (w2).cell? ⟨w.heap.size, 5, none⟩ = some (.int .i64 s.to.d) := (BS2.out).cell 5
          have k6 : (w2).cell? ⟨w.heap.size, 6, none⟩ = some (.bool s.no) := (BS2.out).cell 6
          have f0 := (BS2.out).frozen 0
          have f1 := (BS2.out).frozen 1
          have f2 := (BS2.out).frozen 2
          have f3 := (BS2.out).frozen 3
          have f4 := (BS2.out).frozen 4
          have f5 := (BS2.out).frozen 5
          have f6 := (BS2.out).frozen 6
          have r0 : (w2).cell? ⟨w.heap.size + 1, 0, none⟩ = some (.bool false) := (BR2.out).cell 0
          have r1 : (w2).cell? ⟨w.heap.size + 1, 1, none⟩ = some (.int .i64 0) := (BR2.out).cell 1
          have r2 : (w2).cell? ⟨w.heap.size + 1, 2, none⟩ = some (.int .i64 0) := (BR2.out).cell 2
          have r3 : (w2).cell? ⟨w.heap.size + 1, 3, none⟩ = some (.bool false) := (BR2.out).cell 3
          have r4 : (w2).cell? ⟨w.heap.size + 1, 4, none⟩ = some (.int .i64 0) := (BR2.out).cell 4
          have r5 : (w2).cell? ⟨w.heap.size + 1, 5, none⟩ = some (.int .i64 0) := (BR2.out).cell 5
          have r6 : (w2).cell? ⟨w.heap.size + 1, 6, none⟩ = some (.bool false) := (BR2.out).cell 6
          have q0 := (BR2.out).frozen 0
          have q1 := (BR2.out).frozen 1
          have q2 := (BR2.out).frozen 2
          have q3 := (BR2.out).frozen 3
          have q4 := (BR2.out).frozen 4
          have q5 := (BR2.out).frozen 5
          have q6 := (BR2.out).frozen 6
          have t0 : (w2).cell? ⟨w1.heap.size, 0, none⟩ = some (.int .i64 (frN (-a) b)) := (BT2.out).cell 0
          have t1 : (w2).cell? ⟨w1.heap.size, 1, none⟩ = some (.int .i64 (ptD [-a] b)) := (BT2.out).cell 1
          rw [HO.out] at k3
          go_wp2_with fail
          refine bodyPost_ret (v := .agg #[.bool s.fr.op, .int .i64 s.fr.n, .int .i64 s.fr.d, .bool s.to.op, .int .i64 s.to.n, .int .i64 s.to.d, .bool s.no]) ?_ ?_ ?_
          · first
            | (simp [results, Try.results106, go_sem, r0, r1, r2, r3, r4, r5, r6]; done)
            | (simp [results, Try.results106, go_sem, r0, r1, r2, r3, r4, r5, r6, HO.out]; done)
            | (simp [results, Try.results106, go_sem, r0, r1, r2, r3, r4, r5, r6, HNO.out]; done)
          · rfl
          · refine ⟨by (rw [HV.out]; rfl), ?_⟩
            iterate 7 refine Below.setCell ?_ (by first | (simp; done) | (simp; omega)) _
            exact HW2.out

def zeroN : NW := ⟨zeroE, zeroE, false⟩
/-- A span, and whether there is one, are handed back. -/
def RetSp (w : World) (s : NW) (e : Ending) (w' : World) : Prop := e = .returned (.tuple #[nwV (if someZ s = true then s else zeroN), .bool (someZ s)]) ∧ Below w.heap.size w w'
set_option maxRecDepth 100000 in
set_option maxHeartbeats 4000000 in
theorem ref7_end (s : NW) (w : World) (hs : NOk s) :
    Calls Try.prog 107 #[.agg #[.bool s.fr.op, .int .i64 s.fr.n, .int .i64 s.fr.d, .bool s.to.op, .int .i64 s.to.n, .int .i64 s.to.d, .bool s.no]] w (RetSp w s) := by
  by_cases hno : s.no = true
  · have HV := Lib.hid (show someZ s = false by simp [someZ, hno])
    have HNO := Lib.hid hno
    clear hno
    go_enter Try.func107, Try.ntmps107
    go_upto_region 1 with fail
    have BS := Lib.hid (show Blk ((w.alloc (.cells (nwA s) 112)).alloc (.cells #[.bool false, .int .i64 0, .int .i64 0, .bool false, .int .i64 0, .int .i64 0, .bool false] 112)) w.heap.size 112 (nwA s) from (Blk.mk' _ _ _).alloc _)
    have BR := Lib.hid (Blk.new (w.alloc (.cells (nwA s) 112)) 112 #[.bool false, .int .i64 0, .int .i64 0, .bool false, .int .i64 0, .int .i64 0, .bool false] (w.heap.size + 1) (by simp))
    have HVW := Lib.hid ((by (repeat (any_goals (first | exact Below.refl _ _ | refine below_drewN ?_ _ | refine Below.drew ?_ | refine Below.alloc ?_ ?_ _ | refine Below.setCell ?_ ?_ _))); all_goals (first | omega | (simp; done) | (simp; omega))) : Below w.heap.size w ((w.alloc (.cells (nwA s) 112)).alloc (.cells #[.bool false, .int .i64 0, .int .i64 0, .bool false, .int .i64 0, .int .i64 0, .bool false] 112)))
    simp only [nwA] at BS BR HVW
    generalize ((w.alloc (.cells #[.bool s.fr.op, .int .i64 s.fr.n, .int .i64 s.fr.d, .bool s.to.op, .int .i64 s.to.n, .int .i64 s.to.d, .bool s.no] 112)).alloc (.cells #[.bool false, .int .i64 0, .int .i64 0, .bool false, .int .i64 0, .int .i64 0, .bool false] 112)) = V at *
    have zV := HVW.out.size
    have lR := BR.out.lt
    have k0 : (V).cell? ⟨w.heap.size, 0, none⟩ = some (.bool s.fr.op) := (BS.out).cell 0
    have k1 : (V).cell? ⟨w.heap.size, 1, none⟩ = some (.int .i64 s.fr.n) := (BS.out).cell 1
    have k2 : (V).cell? ⟨w.heap.size, 2, none⟩ = some (.int .i64 s.fr.d) := (BS.out).cell 2
    have k3 : (V).cell? ⟨w.heap.size, 3, none⟩ = some (.bool s.to.op) := (BS.out).cell 3
    have k4 : (V).cell? ⟨w.heap.size, 4, none⟩ = some (.int .i64 s.to.n) := (BS.out).cell 4
    have k5 : (V).cell? ⟨w.heap.size, 5, none⟩ = some (.int .i64 s.to.d) := (BS.out).cell 5
    have k6 : (V).cell? ⟨w.heap.size, 6, none⟩ = some (.bool s.no) := (BS.out).cell 6
    have f0 := (BS.out).frozen 0
    have f1 := (BS.out).frozen 1
    have f2 := (BS.out).frozen 2
    have f3 := (BS.out).frozen 3
    have f4 := (BS.out).frozen 4
    have f5 := (BS.out).frozen 5
    have f6 := (BS.out).frozen 6
    have r0 : (V).cell? ⟨w.heap.size + 1, 0, none⟩ = some (.bool false) := (BR.out).cell 0
    have r1 : (V).cell? ⟨w.heap.size + 1, 1, none⟩ = some (.int .i64 0) := (BR.out).cell 1
    have r2 : (V).cell? ⟨w.heap.size + 1, 2, none⟩ = some (.int .i64 0) := (BR.out).cell 2
    have r3 : (V).cell? ⟨w.heap.size + 1, 3, none⟩ = some (.bool false) := (BR.out).cell 3
    have r4 : (V).cell? ⟨w.heap.size + 1, 4, none⟩ = some (.int .i64 0) := (BR.out).cell 4
    have r5 : (V).cell? ⟨w.heap.size + 1, 5, none⟩ = some (.int .i64 0) := (BR.out).cell 5
    have r6 : (V).cell? ⟨w.heap.size + 1, 6, none⟩ = some (.bool false) := (BR.out).cell 6
    have q0 := (BR.out).frozen 0
    have q1 := (BR.out).frozen 1
    have q2 := (BR.out).frozen 2
    have q3 := (BR.out).frozen 3
    have q4 := (BR.out).frozen 4
    have q5 := (BR.out).frozen 5
    have q6 := (BR.out).frozen 6
    rw [HNO.out] at k6
    go_wp2_with fail
    refine bodyPost_ret (v := .tuple #[.agg #[.bool false, .int .i64 0, .int .i64 0, .bool false, .int .i64 0, .int .i64 0, .bool false], .bool false]) ?_ ?_ ?_
    · simp [results, Try.results107, go_sem, r0, r1, r2, r3, r4, r5, r6, HNO.out]
    · rfl
    · unfold RetSp
      refine ⟨by rw [HV.out]; rfl, ?_⟩
      iterate 7 refine Below.setCell ?_ (by first | (simp; done) | (simp; omega)) _
      exact HVW.out
  · replace hno : s.no = false := by simpa using hno
    by_cases ho : s.fr.op = true
    · have HV := Lib.hid (show someZ s = true by simp [someZ, hno, ho])
      have HNO := Lib.hid hno
      have HO := Lib.hid ho
      clear hno ho
      go_enter Try.func107, Try.ntmps107
      go_upto_region 1 with fail
      have BS := Lib.hid (show Blk ((w.alloc (.cells (nwA s) 112)).alloc (.cells #[.bool false, .int .i64 0, .int .i64 0, .bool false, .int .i64 0, .int .i64 0, .bool false] 112)) w.heap.size 112 (nwA s) from (Blk.mk' _ _ _).alloc _)
      have BR := Lib.hid (Blk.new (w.alloc (.cells (nwA s) 112)) 112 #[.bool false, .int .i64 0, .int .i64 0, .bool false, .int .i64 0, .int .i64 0, .bool false] (w.heap.size + 1) (by simp))
      have HVW := Lib.hid ((by (repeat (any_goals (first | exact Below.refl _ _ | refine below_drewN ?_ _ | refine Below.drew ?_ | refine Below.alloc ?_ ?_ _ | refine Below.setCell ?_ ?_ _))); all_goals (first | omega | (simp; done) | (simp; omega))) : Below w.heap.size w ((w.alloc (.cells (nwA s) 112)).alloc (.cells #[.bool false, .int .i64 0, .int .i64 0, .bool false, .int .i64 0, .int .i64 0, .bool false] 112)))
      simp only [nwA] at BS BR HVW
      generalize ((w.alloc (.cells #[.bool s.fr.op, .int .i64 s.fr.n, .int .i64 s.fr.d, .bool s.to.op, .int .i64 s.to.n, .int .i64 s.to.d, .bool s.no] 112)).alloc (.cells #[.bool false, .int .i64 0, .int .i64 0, .bool false, .int .i64 0, .int .i64 0, .bool false] 112)) = V at *
      have zV := HVW.out.size
      have lR := BR.out.lt
      have k0 : (V).cell? ⟨w.heap.size, 0, none⟩ = some (.bool s.fr.op) := (BS.out).cell 0
      have k1 : (V).cell? ⟨w.heap.size, 1, none⟩ = some (.int .i64 s.fr.n) := (BS.out).cell 1
      have k2 : (V).cell? ⟨w.heap.size, 2, none⟩ = some (.int .i64 s.fr.d) := (BS.out).cell 2
      have k3 : (V).cell? ⟨w.heap.size, 3, none⟩ = some (.bool s.to.op) := (BS.out).cell 3
      have k4 : (V).cell? ⟨w.heap.size, 4, none⟩ = some (.int .i64 s.to.n) := (BS.out).cell 4
      have k5 : (V).cell? ⟨w.heap.size, 5, none⟩ = some (.int .i64 s.to.d) := (BS.out).cell 5
      have k6 : (V).cell? ⟨w.heap.size, 6, none⟩ = some (.bool s.no) := (BS.out).cell 6
      have f0 := (BS.out).frozen 0
      have f1 := (BS.out).frozen 1
      have f2 := (BS.out).frozen 2
      have f3 := (BS.out).frozen 3
      have f4 := (BS.out).frozen 4
      have f5 := (BS.out).frozen 5
      have f6 := (BS.out).frozen 6
      have r0 : (V).cell? ⟨w.heap.size + 1, 0, none⟩ = some (.bool false) := (BR.out).cell 0
      have r1 : (V).cell? ⟨w.heap.size + 1, 1, none⟩ = some (.int .i64 0) := (BR.out).cell 1
      have r2 : (V).cell? ⟨w.heap.size + 1, 2, none⟩ = some (.int .i64 0) := (BR.out).cell 2
      have r3 : (V).cell? ⟨w.heap.size + 1, 3, none⟩ = some (.bool false) := (BR.out).cell 3
      have r4 : (V).cell? ⟨w.heap.size + 1, 4, none⟩ = some (.int .i64 0) := (BR.out).cell 4
      have r5 : (V).cell? ⟨w.heap.size + 1, 5, none⟩ = some (.int .i64 0) := (BR.out).cell 5
      have r6 : (V).cell? ⟨w.heap.size + 1, 6, none⟩ = some (.bool false) := (BR.out).cell 6
      have q0 := (BR.out).frozen 0
      have q1 := (BR.out).frozen 1
      have q2 := (BR.out).frozen 2
      have q3 := (BR.out).frozen 3
      have q4 := (BR.out).frozen 4
      have q5 := (BR.out).frozen 5
      have q6 := (BR.out).frozen 6
      rw [HNO.out] at k6
      rw [HO.out] at k0
      go_wp2_with fail
      refine bodyPost_ret (v := .tuple #[.agg #[.bool s.fr.op, .int .i64 s.fr.n, .int .i64 s.fr.d, .bool s.to.op, .int .i64 s.to.n, .int .i64 s.to.d, .bool s.no], .bool true]) ?_ ?_ ?_
      · simp [results, Try.results107, go_sem, r0, r1, r2, r3, r4, r5, r6, HNO.out, HO.out]
      · rfl
      · unfold RetSp
        refine ⟨by rw [HV.out]; rfl, ?_⟩
        iterate 7 refine Below.setCell ?_ (by first | (simp; done) | (simp; omega)) _
        exact HVW.out
    · have hof := ho
      replace ho : s.fr.op = false := by simpa using ho
      by_cases hto : s.to.op = true
      · have HV := Lib.hid (show someZ s = true by simp [someZ, hno, ho, hto])
        have HNO := Lib.hid hno
        have HO := Lib.hid ho
        have HTO := Lib.hid hto
        clear hno ho hof hto
        go_enter Try.func107, Try.ntmps107
        go_upto_region 1 with fail
        have BS := Lib.hid (show Blk ((w.alloc (.cells (nwA s) 112)).alloc (.cells #[.bool false, .int .i64 0, .int .i64 0, .bool false, .int .i64 0, .int .i64 0, .bool false] 112)) w.heap.size 112 (nwA s) from (Blk.mk' _ _ _).alloc _)
        have BR := Lib.hid (Blk.new (w.alloc (.cells (nwA s) 112)) 112 #[.bool false, .int .i64 0, .int .i64 0, .bool false, .int .i64 0, .int .i64 0, .bool false] (w.heap.size + 1) (by simp))
        have HVW := Lib.hid ((by (repeat (any_goals (first | exact Below.refl _ _ | refine below_drewN ?_ _ | refine Below.drew ?_ | refine Below.alloc ?_ ?_ _ | refine Below.setCell ?_ ?_ _))); all_goals (first | omega | (simp; done) | (simp; omega))) : Below w.heap.size w ((w.alloc (.cells (nwA s) 112)).alloc (.cells #[.bool false, .int .i64 0, .int .i64 0, .bool false, .int .i64 0, .int .i64 0, .bool false] 112)))
        simp only [nwA] at BS BR HVW
        generalize ((w.alloc (.cells #[.bool s.fr.op, .int .i64 s.fr.n, .int .i64 s.fr.d, .bool s.to.op, .int .i64 s.to.n, .int .i64 s.to.d, .bool s.no] 112)).alloc (.cells #[.bool false, .int .i64 0, .int .i64 0, .bool false, .int .i64 0, .int .i64 0, .bool false] 112)) = V at *
        have zV := HVW.out.size
        have lR := BR.out.lt
        have k0 : (V).cell? ⟨w.heap.size, 0, none⟩ = some (.bool s.fr.op) := (BS.out).cell 0
        have k1 : (V).cell? ⟨w.heap.size, 1, none⟩ = some (.int .i64 s.fr.n) := (BS.out).cell 1
        have k2 : (V).cell? ⟨w.heap.size, 2, none⟩ = some (.int .i64 s.fr.d) := (BS.out).cell 2
        have k3 : (V).cell? ⟨w.heap.size, 3, none⟩ = some (.bool s.to.op) := (BS.out).cell 3
        have k4 : (V).cell? ⟨w.heap.size, 4, none⟩ = some (.int .i64 s.to.n) := (BS.out).cell 4
        have k5 : (V).cell? ⟨w.heap.size, 5, none⟩ = some (.int .i64 s.to.d) := (BS.out).cell 5
        have k6 : (V).cell? ⟨w.heap.size, 6, none⟩ = some (.bool s.no) := (BS.out).cell 6
        have f0 := (BS.out).frozen 0
        have f1 := (BS.out).frozen 1
        have f2 := (BS.out).frozen 2
        have f3 := (BS.out).frozen 3
        have f4 := (BS.out).frozen 4
        have f5 := (BS.out).frozen 5
        have f6 := (BS.out).frozen 6
        have r0 : (V).cell? ⟨w.heap.size + 1, 0, none⟩ = some (.bool false) := (BR.out).cell 0
        have r1 : (V).cell? ⟨w.heap.size + 1, 1, none⟩ = some (.int .i64 0) := (BR.out).cell 1
        have r2 : (V).cell? ⟨w.heap.size + 1, 2, none⟩ = some (.int .i64 0) := (BR.out).cell 2
        have r3 : (V).cell? ⟨w.heap.size + 1, 3, none⟩ = some (.bool false) := (BR.out).cell 3
        have r4 : (V).cell? ⟨w.heap.size + 1, 4, none⟩ = some (.int .i64 0) := (BR.out).cell 4
        have r5 : (V).cell? ⟨w.heap.size + 1, 5, none⟩ = some (.int .i64 0) := (BR.out).cell 5
        have r6 : (V).cell? ⟨w.heap.size + 1, 6, none⟩ = some (.bool false) := (BR.out).cell 6
        have q0 := (BR.out).frozen 0
        have q1 := (BR.out).frozen 1
        have q2 := (BR.out).frozen 2
        have q3 := (BR.out).frozen 3
        have q4 := (BR.out).frozen 4
        have q5 := (BR.out).frozen 5
        have q6 := (BR.out).frozen 6
        rw [HNO.out] at k6
        rw [HO.out] at k0
        rw [HTO.out] at k3
        go_wp2_with fail
        refine bodyPost_ret (v := .tuple #[.agg #[.bool s.fr.op, .int .i64 s.fr.n, .int .i64 s.fr.d, .bool s.to.op, .int .i64 s.to.n, .int .i64 s.to.d, .bool s.no], .bool true]) ?_ ?_ ?_
        · simp [results, Try.results107, go_sem, r0, r1, r2, r3, r4, r5, r6, HNO.out, HO.out, HTO.out]
        · rfl
        · unfold RetSp
          refine ⟨by rw [HV.out]; rfl, ?_⟩
          iterate 7 refine Below.setCell ?_ (by first | (simp; done) | (simp; omega)) _
          exact HVW.out
      · have htf := hto
        replace hto : s.to.op = false := by simpa using hto
        obtain ⟨fd1, fd2, fn, _⟩ := mayB_parts' (hs.1.resolve_left hof)
        obtain ⟨td1, td2, tn, _⟩ := mayB_parts' (hs.2.resolve_left htf)
        have HC := Lib.hid (fun w => ref1_Cmp s.fr.n s.fr.d s.to.n s.to.d w fn ⟨by omega, fd2⟩ tn ⟨by omega, td2⟩)
        by_cases hl : 0 < s.fr.n * s.to.d - s.to.n * s.fr.d
        · have HV := Lib.hid (show someZ s = false by simp only [someZ, hno, ho, hto]; rw [show decide (0 < cmpZ s.fr.n s.fr.d s.to.n s.to.d) = true from decide_eq_true hl]; rfl)
          have HNO := Lib.hid hno
          have HO := Lib.hid ho
          have HTO := Lib.hid hto
          clear hno ho hof hto htf
          go_enter Try.func107, Try.ntmps107
          go_upto_region 1 with fail
          have BS := Lib.hid (show Blk ((w.alloc (.cells (nwA s) 112)).alloc (.cells #[.bool false, .int .i64 0, .int .i64 0, .bool false, .int .i64 0, .int .i64 0, .bool false] 112)) w.heap.size 112 (nwA s) from (Blk.mk' _ _ _).alloc _)
          have BR := Lib.hid (Blk.new (w.alloc (.cells (nwA s) 112)) 112 #[.bool false, .int .i64 0, .int .i64 0, .bool false, .int .i64 0, .int .i64 0, .bool false] (w.heap.size + 1) (by simp))
          have HVW := Lib.hid ((by (repeat (any_goals (first | exact Below.refl _ _ | refine below_drewN ?_ _ | refine Below.drew ?_ | refine Below.alloc ?_ ?_ _ | refine Below.setCell ?_ ?_ _))); all_goals (first | omega | (simp; done) | (simp; omega))) : Below w.heap.size w ((w.alloc (.cells (nwA s) 112)).alloc (.cells #[.bool false, .int .i64 0, .int .i64 0, .bool false, .int .i64 0, .int .i64 0, .bool false] 112)))
          simp only [nwA] at BS BR HVW
          generalize ((w.alloc (.cells #[.bool s.fr.op, .int .i64 s.fr.n, .int .i64 s.fr.d, .bool s.to.op, .int .i64 s.to.n, .int .i64 s.to.d, .bool s.no] 112)).alloc (.cells #[.bool false, .int .i64 0, .int .i64 0, .bool false, .int .i64 0, .int .i64 0, .bool false] 112)) = V at *
          have zV := HVW.out.size
          have lR := BR.out.lt
          have k0 : (V).cell? ⟨w.heap.size, 0, none⟩ = some (.bool s.fr.op) := (BS.out).cell 0
          have k1 : (V).cell? ⟨w.heap.size, 1, none⟩ = some (.int .i64 s.fr.n) := (BS.out).cell 1
          have k2 : (V).cell? ⟨w.heap.size, 2, none⟩ = some (.int .i64 s.fr.d) := (BS.out).cell 2
          have k3 : (V).cell? ⟨w.heap.size, 3, none⟩ = some (.bool s.to.op) := (BS.out).cell 3
          have k4 : (V).cell? ⟨w.heap.size, 4, none⟩ = some (.int .i64 s.to.n) := (BS.out).cell 4
          have k5 : (V).cell? ⟨w.heap.size, 5, none⟩ = some (.int .i64 s.to.d) := (BS.out).cell 5
          have k6 : (V).cell? ⟨w.heap.size, 6, none⟩ = some (.bool s.no) := (BS.out).cell 6
          have f0 := (BS.out).frozen 0
          have f1 := (BS.out).frozen 1
          have f2 := (BS.out).frozen 2
          have f3 := (BS.out).frozen 3
          have f4 := (BS.out).frozen 4
          have f5 := (BS.out).frozen 5
          have f6 := (BS.out).frozen 6
          have r0 : (V).cell? ⟨w.heap.size + 1, 0, none⟩ = some (.bool false) := (BR.out).cell 0
          have r1 : (V).cell? ⟨w.heap.size + 1, 1, none⟩ = some (.int .i64 0) := (BR.out).cell 1
          have r2 : (V).cell? ⟨w.heap.size + 1, 2, none⟩ = some (.int .i64 0) := (BR.out).cell 2
          have r3 : (V).cell? ⟨w.heap.size + 1, 3, none⟩ = some (.bool false) := (BR.out).cell 3
          have r4 : (V).cell? ⟨w.heap.size + 1, 4, none⟩ = some (.int .i64 0) := (BR.out).cell 4
          have r5 : (V).cell? ⟨w.heap.size + 1, 5, none⟩ = some (.int .i64 0) := (BR.out).cell 5
          have r6 : (V).cell? ⟨w.heap.size + 1, 6, none⟩ = some (.bool false) := (BR.out).cell 6
          have q0 := (BR.out).frozen 0
          have q1 := (BR.out).frozen 1
          have q2 := (BR.out).frozen 2
          have q3 := (BR.out).frozen 3
          have q4 := (BR.out).frozen 4
          have q5 := (BR.out).frozen 5
          have q6 := (BR.out).frozen 6
          rw [HNO.out] at k6
          rw [HO.out] at k0
          rw [HTO.out] at k3
          go_wp2_with fail
          refine (HC.out _).mono ?_
          rintro e w2 ⟨rfl, hb2⟩
          have BR2 := Lib.hid (BR.out.next hb2)
          have HW2 := Lib.hid (HVW.out.trans (hb2.mono zV))
          clear k0 k1 k2 k3 k4 k5 k6 f0 f1 f2 f3 f4 f5 f6 r0 r1 r2 r3 r4 r5 r6 q0 q1 q2 q3 q4 q5 q6 hb2
          have r0 : (w2).cell? ⟨w.heap.size + 1, 0, none⟩ = some (.bool false) := (BR2.out).cell 0
          have r1 : (w2).cell? ⟨w.heap.size + 1, 1, none⟩ = some (.int .i64 0) := (BR2.out).cell 1
          have r2 : (w2).cell? ⟨w.heap.size + 1, 2, none⟩ = some (.int .i64 0) := (BR2.out).cell 2
          have r3 : (w2).cell? ⟨w.heap.size + 1, 3, none⟩ = some (.bool false) := (BR2.out).cell 3
          have r4 : (w2).cell? ⟨w.heap.size + 1, 4, none⟩ = some (.int .i64 0) := (BR2.out).cell 4
          have r5 : (w2).cell? ⟨w.heap.size + 1, 5, none⟩ = some (.int .i64 0) := (BR2.out).cell 5
          have r6 : (w2).cell? ⟨w.heap.size + 1, 6, none⟩ = some (.bool false) := (BR2.out).cell 6
          have q0 := (BR2.out).frozen 0
          have q1 := (BR2.out).frozen 1
          have q2 := (BR2.out).frozen 2
          have q3 := (BR2.out).frozen 3
          have q4 := (BR2.out).frozen 4
          have q5 := (BR2.out).frozen 5
          have q6 := (BR2.out).frozen 6
          go_wp2_with fail
          refine bodyPost_ret (v := .tuple #[.agg #[.bool false, .int .i64 0, .int .i64 0, .bool false, .int .i64 0, .int .i64 0, .bool false], .bool false]) ?_ ?_ ?_
          · simp [results, Try.results107, go_sem, r0, r1, r2, r3, r4, r5, r6, HNO.out]
          · rfl
          · unfold RetSp
            refine ⟨by rw [HV.out]; rfl, ?_⟩
            iterate 7 refine Below.setCell ?_ (by first | (simp; done) | (simp; omega)) _
            exact HW2.out
        · have HV := Lib.hid (show someZ s = true by simp only [someZ, hno, ho, hto]; rw [show decide (0 < cmpZ s.fr.n s.fr.d s.to.n s.to.d) = false from decide_eq_false hl]; rfl)
          have HNO := Lib.hid hno
          have HO := Lib.hid ho
          have HTO := Lib.hid hto
          clear hno ho hof hto htf
          go_enter Try.func107, Try.ntmps107
          go_upto_region 1 with fail
          have BS := Lib.hid (show Blk ((w.alloc (.cells (nwA s) 112)).alloc (.cells #[.bool false, .int .i64 0, .int .i64 0, .bool false, .int .i64 0, .int .i64 0, .bool false] 112)) w.heap.size 112 (nwA s) from (Blk.mk' _ _ _).alloc _)
          have BR := Lib.hid (Blk.new (w.alloc (.cells (nwA s) 112)) 112 #[.bool false, .int .i64 0, .int .i64 0, .bool false, .int .i64 0, .int .i64 0, .bool false] (w.heap.size + 1) (by simp))
          have HVW := Lib.hid ((by (repeat (any_goals (first | exact Below.refl _ _ | refine below_drewN ?_ _ | refine Below.drew ?_ | refine Below.alloc ?_ ?_ _ | refine Below.setCell ?_ ?_ _))); all_goals (first | omega | (simp; done) | (simp; omega))) : Below w.heap.size w ((w.alloc (.cells (nwA s) 112)).alloc (.cells #[.bool false, .int .i64 0, .int .i64 0, .bool false, .int .i64 0, .int .i64 0, .bool false] 112)))
          simp only [nwA] at BS BR HVW
          generalize ((w.alloc (.cells #[.bool s.fr.op, .int .i64 s.fr.n, .int .i64 s.fr.d, .bool s.to.op, .int .i64 s.to.n, .int .i64 s.to.d, .bool s.no] 112)).alloc (.cells #[.bool false, .int .i64 0, .int .i64 0, .bool false, .int .i64 0, .int .i64 0, .bool false] 112)) = V at *
          have zV := HVW.out.size
          have lR := BR.out.lt
          have k0 : (V).cell? ⟨w.heap.size, 0, none⟩ = some (.bool s.fr.op) := (BS.out).cell 0
          have k1 : (V).cell? ⟨w.heap.size, 1, none⟩ = some (.int .i64 s.fr.n) := (BS.out).cell 1
          have k2 : (V).cell? ⟨w.heap.size, 2, none⟩ = some (.int .i64 s.fr.d) := (BS.out).cell 2
          have k3 : (V).cell? ⟨w.heap.size, 3, none⟩ = some (.bool s.to.op) := (BS.out).cell 3
          have k4 : (V).cell? ⟨w.heap.size, 4, none⟩ = some (.int .i64 s.to.n) := (BS.out).cell 4
          have k5 : (V).cell? ⟨w.heap.size, 5, none⟩ = some (.int .i64 s.to.d) := (BS.out).cell 5
          have k6 : (V).cell? ⟨w.heap.size, 6, none⟩ = some (.bool s.no) := (BS.out).cell 6
          have f0 := (BS.out).frozen 0
          have f1 := (BS.out).frozen 1
          have f2 := (BS.out).frozen 2
          have f3 := (BS.out).frozen 3
          have f4 := (BS.out).frozen 4
          have f5 := (BS.out).frozen 5
          have f6 := (BS.out).frozen 6
          have r0 : (V).cell? ⟨w.heap.size + 1, 0, none⟩ = some (.bool false) := (BR.out).cell 0
          have r1 : (V).cell? ⟨w.heap.size + 1, 1, none⟩ = some (.int .i64 0) := (BR.out).cell 1
          have r2 : (V).cell? ⟨w.heap.size + 1, 2, none⟩ = some (.int .i64 0) := (BR.out).cell 2
          have r3 : (V).cell? ⟨w.heap.size + 1, 3, none⟩ = some (.bool false) := (BR.out).cell 3
          have r4 : (V).cell? ⟨w.heap.size + 1, 4, none⟩ = some (.int .i64 0) := (BR.out).cell 4
          have r5 : (V).cell? ⟨w.heap.size + 1, 5, none⟩ = some (.int .i64 0) := (BR.out).cell 5
          have r6 : (V).cell? ⟨w.heap.size + 1, 6, none⟩ = some (.bool false) := (BR.out).cell 6
          have q0 := (BR.out).frozen 0
          have q1 := (BR.out).frozen 1
          have q2 := (BR.out).frozen 2
          have q3 := (BR.out).frozen 3
          have q4 := (BR.out).frozen 4
          have q5 := (BR.out).frozen 5
          have q6 := (BR.out).frozen 6
          rw [HNO.out] at k6
          rw [HO.out] at k0
          rw [HTO.out] at k3
          go_wp2_with fail
          refine (HC.out _).mono ?_
          rintro e w2 ⟨rfl, hb2⟩
          have BS2 := Lib.hid (BS.out.next hb2)
          have BR2 := Lib.hid (BR.out.next hb2)
          have HW2 := Lib.hid (HVW.out.trans (hb2.mono zV))
          clear k0 k1 k2 k3 k4 k5 k6 f0 f1 f2 f3 f4 f5 f6 r0 r1 r2 r3 r4 r5 r6 q0 q1 q2 q3 q4 q5 q6 hb2
          have k0 : (w2).cell? ⟨w.heap.size, 0, none⟩ = some (.bool s.fr.op) := (BS2.out).cell 0
          have k1 : (w2).cell? ⟨w.heap.size, 1, none⟩ = some (.int .i64 s.fr.n) := (BS2.out).cell 1
          have k2 : (w2).cell? ⟨w.heap.size, 2, none⟩ = some (.int .i64 s.fr.d) := (BS2.out).cell 2
          have k3 : (w2).cell? ⟨w.heap.size, 3, none⟩ = some (.bool s.to.op) := (BS2.out).cell 3
          have k4 : (w2).cell? ⟨w.heap.size, 4, none⟩ = some (.int .i64 s.to.n) := (BS2.out).cell 4
          have k5 : (w2).cell? ⟨w.heap.size, 5, none⟩ = some (.int .i64 s.to.d) := (BS2.out).cell 5
          have k6 : (w2).cell? ⟨w.heap.size, 6, none⟩ = some (.bool s.no) := (BS2.out).cell 6
          have f0 := (BS2.out).frozen 0
          have f1 := (BS2.out).frozen 1
          have f2 := (BS2.out).frozen 2
          have f3 := (BS2.out).frozen 3
          have f4 := (BS2.out).frozen 4
          have f5 := (BS2.out).frozen 5
          have f6 := (BS2.out).frozen 6
          have r0 : (w2).cell? ⟨w.heap.size + 1, 0, none⟩ = some (.bool false) := (BR2.out).cell 0
          have r1 : (w2).cell? ⟨w.heap.size + 1, 1, none⟩ = some (.int .i64 0) := (BR2.out).cell 1
          have r2 : (w2).cell? ⟨w.heap.size + 1, 2, none⟩ = some (.int .i64 0) := (BR2.out).cell 2
          have r3 : (w2).cell? ⟨w.heap.size + 1, 3, none⟩ = some (.bool false) := (BR2.out).cell 3
          have r4 : (w2).cell? ⟨w.heap.size + 1, 4, none⟩ = some (.int .i64 0) := (BR2.out).cell 4
          have r5 : (w2).cell? ⟨w.heap.size + 1, 5, none⟩ = some (.int .i64 0) := (BR2.out).cell 5
          have r6 : (w2).cell? ⟨w.heap.size + 1, 6, none⟩ = some (.bool false) := (BR2.out).cell 6
          have q0 := (BR2.out).frozen 0
          have q1 := (BR2.out).frozen 1
          have q2 := (BR2.out).frozen 2
          have q3 := (BR2.out).frozen 3
          have q4 := (BR2.out).frozen 4
          have q5 := (BR2.out).frozen 5
          have q6 := (BR2.out).frozen 6
          rw [HNO.out] at k6
          rw [HO.out] at k0
          rw [HTO.out] at k3
          go_wp2_with fail
          refine bodyPost_ret (v := .tuple #[.agg #[.bool s.fr.op, .int .i64 s.fr.n, .int .i64 s.fr.d, .bool s.to.op, .int .i64 s.to.n, .int .i64 s.to.d, .bool s.no], .bool true]) ?_ ?_ ?_
          · simp [results, Try.results107, go_sem, r0, r1, r2, r3, r4, r5, r6, HNO.out, HO.out, HTO.out]
          · rfl
          · unfold RetSp
            refine ⟨by rw [HV.out]; rfl, ?_⟩
            iterate 7 refine Below.setCell ?_ (by first | (simp; done) | (simp; omega)) _
            exact HW2.out
end Go.Proofs.Ytjcdkbalhleeeab
