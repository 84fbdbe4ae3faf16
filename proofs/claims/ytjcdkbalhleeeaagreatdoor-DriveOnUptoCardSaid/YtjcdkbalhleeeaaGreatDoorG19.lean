/-
  Contracts of functions and plain laws that later parts of the proof use. The conditions stand in each theorem.
-/
import Derived.Test.YtjcdkbalhleeeaaGreatDoorG11
import Derived.Test.YtjcdkbalhleeeaaGreatDoorG10
import Derived.Test.YtjcdkbalhleeeaaGreatDoorG03
import Derived.Test.YtjcdkbalhleeeaaGreatDoorG12
namespace Go.Proofs.YtjcdkbalhleeeaaGreatDoor
open Go.RowKit

/-- A span that narrows, cell by cell. -/
def nwA (s : NW) : Array Value := #[.bool s.fr.op, .int .i64 s.fr.n, .int .i64 s.fr.d, .bool s.to.op, .int .i64 s.to.n, .int .i64 s.to.d, .bool s.no]
set_option maxRecDepth 100000 in
set_option maxHeartbeats 2000000 in
theorem span_below (s : NW) (g : Nat) (a b : Int) (w : World) (hB : Blk w g 218 (nwA s)) (ha : -4611686018427387904 ≤ a ∧ a ≤ 4611686018427387904) :
    Calls Tryz.prog 163 #[.pointer (some ⟨g, 0, none⟩), .int .i64 a, .int .i64 b] w fun e w' => e = .returned (.tuple #[]) ∧ Blk w' g 218 (nwA (belowZ s a b)) ∧ Turned (· = g) w w' := by
  have HB := Lib.hid hB
  obtain ⟨ha1, ha2⟩ := ha
  have hg := hB.lt
  clear hB
  by_cases hb : b = 0
  · subst hb
    have c6 : w.cell? ⟨g, 6, none⟩ = some (.bool s.no) := HB.out.cell 6
    have f6 := HB.out.frozen 6
    have HV := Lib.hid (show belowZ s a 0 = ⟨s.fr, s.to, s.no || decide (0 < a)⟩ by simp [belowZ])
    by_cases hno : s.no = true
    · rw [hno] at c6
      go_enter Tryz.func163, Tryz.ntmps163
      go_wp2_with fail
      ((try simp only [Exit.inBlock, Exit.then]); refine bodyPost_ret (results_none rfl _ _ _) rfl ?_)
      refine ⟨rfl, ?_, (Turned.refl (· = g) _).setCell (p := ⟨g, 6, none⟩) rfl _⟩
      rw [HV.out, hno]; exact HB.out.set0 6 (.bool true)
    · have hno : s.no = false := by simpa using hno
      rw [hno] at c6
      by_cases h0 : 0 < a
      · have hd : decide (0 < a) = true := by simpa using h0
        go_enter Tryz.func163, Tryz.ntmps163
        go_wp2_with fail
        ((try simp only [Exit.inBlock, Exit.then]); refine bodyPost_ret (results_none rfl _ _ _) rfl ?_)
        refine ⟨rfl, ?_, (Turned.refl (· = g) _).setCell (p := ⟨g, 6, none⟩) rfl _⟩
        rw [HV.out, hno, hd]; exact HB.out.set0 6 (.bool true)
      · have hd : decide (0 < a) = false := by simpa using h0
        go_enter Tryz.func163, Tryz.ntmps163
        go_wp2_with fail
        ((try simp only [Exit.inBlock, Exit.then]); refine bodyPost_ret (results_none rfl _ _ _) rfl ?_)
        refine ⟨rfl, ?_, (Turned.refl (· = g) _).setCell (p := ⟨g, 6, none⟩) rfl _⟩
        rw [HV.out, hno, hd]; exact HB.out.set0 6 (.bool false)
  · have hbz : (b == 0) = false := by simpa using hb
    have hw1 : IntKind.i64.wrap (-a) = -a := IntWalk.i64_in _ (by omega)
    by_cases hpos : 0 < b
    · have hp1 : decide (0 < b) = true := by simpa using hpos
      have hp2 : decide (b < 0) = false := by simp; omega
      by_cases ho : s.to.op = true
      · have HV := Lib.hid (show belowZ s a b = ⟨s.fr, endE (-a) b, s.no⟩ by unfold belowZ; rw [if_neg hb, if_pos ⟨hpos, .inl ho⟩])
        go_enter Tryz.func163, Tryz.ntmps163
        go_wp2_with fail
        refine (frac_Make _ _ _).mono ?_
        rintro e w1 ⟨rfl, hb1⟩
        have HVB := Lib.hid ((HB.out.next hb1).alloc (.cells #[.int .i64 (frN (-a) b), .int .i64 (ptD [-a] b)] 55))
        have HVT := Lib.hid (Blk.mk' w1 55 #[.int .i64 (frN (-a) b), .int .i64 (ptD [-a] b)])
        have HVW := Lib.hid (hb1.alloc hb1.size (.cells #[.int .i64 (frN (-a) b), .int .i64 (ptD [-a] b)] 55))
        have z1 := hb1.size
        clear hb1
        go_wp2_with fail
        generalize (w1.alloc (.cells #[.int .i64 (frN (-a) b), .int .i64 (ptD [-a] b)] 55)) = V at *
        have k0 : ∀ u : Wk V, u.1.cell? ⟨g, 0, none⟩ = some (.bool s.fr.op) := fun u => ((HVB.out).next u.2).cell 0
        have k1 : ∀ u : Wk V, u.1.cell? ⟨g, 1, none⟩ = some (.int .i64 s.fr.n) := fun u => ((HVB.out).next u.2).cell 1
        have k2 : ∀ u : Wk V, u.1.cell? ⟨g, 2, none⟩ = some (.int .i64 s.fr.d) := fun u => ((HVB.out).next u.2).cell 2
        have k3 : ∀ u : Wk V, u.1.cell? ⟨g, 3, none⟩ = some (.bool s.to.op) := fun u => ((HVB.out).next u.2).cell 3
        have k4 : ∀ u : Wk V, u.1.cell? ⟨g, 4, none⟩ = some (.int .i64 s.to.n) := fun u => ((HVB.out).next u.2).cell 4
        have k5 : ∀ u : Wk V, u.1.cell? ⟨g, 5, none⟩ = some (.int .i64 s.to.d) := fun u => ((HVB.out).next u.2).cell 5
        have k6 : ∀ u : Wk V, u.1.cell? ⟨g, 6, none⟩ = some (.bool s.no) := fun u => ((HVB.out).next u.2).cell 6
        have f0 : ∀ u : Wk V, u.1.frozen? ⟨g, 0, none⟩ = false := fun u => ((HVB.out).next u.2).frozen 0
        have f1 : ∀ u : Wk V, u.1.frozen? ⟨g, 1, none⟩ = false := fun u => ((HVB.out).next u.2).frozen 1
        have f2 : ∀ u : Wk V, u.1.frozen? ⟨g, 2, none⟩ = false := fun u => ((HVB.out).next u.2).frozen 2
        have f3 : ∀ u : Wk V, u.1.frozen? ⟨g, 3, none⟩ = false := fun u => ((HVB.out).next u.2).frozen 3
        have f4 : ∀ u : Wk V, u.1.frozen? ⟨g, 4, none⟩ = false := fun u => ((HVB.out).next u.2).frozen 4
        have f5 : ∀ u : Wk V, u.1.frozen? ⟨g, 5, none⟩ = false := fun u => ((HVB.out).next u.2).frozen 5
        have f6 : ∀ u : Wk V, u.1.frozen? ⟨g, 6, none⟩ = false := fun u => ((HVB.out).next u.2).frozen 6
        have t0 : ∀ u : Wk V, u.1.cell? ⟨w1.heap.size, 0, none⟩ = some (.int .i64 (frN (-a) b)) := fun u => (HVT.out.next u.2).cell 0
        have t1 : ∀ u : Wk V, u.1.cell? ⟨w1.heap.size, 1, none⟩ = some (.int .i64 (ptD [-a] b)) := fun u => (HVT.out.next u.2).cell 1
        have zV := HVW.out.size
        rw [ho] at k3
        refine wk_region (by kernel_rfl) (by kernel_rfl) ?_
        repeat (go_big_quiet_step (fail))
        refine wpQuiet_nil ?_
        rintro w2 ⟨u2, rfl⟩
        go_wp2_with fail
        go_end0
        refine ⟨rfl, ?_, (((Turned.of_below (S := (· = g)) (HVW.out.trans (u2.2.mono zV))).setCell (p := ⟨g, 3, none⟩) rfl _).setCell (p := ⟨g, 4, none⟩) rfl _).setCell (p := ⟨g, 5, none⟩) rfl _⟩
        rw [HV.out]; exact (((HVB.out.next u2.2).set0 3 (.bool false)).set0 4 (.int .i64 (frN (-a) b))).set0 5 (.int .i64 (ptD [-a] b))
      · have ho : s.to.op = false := by simpa using ho
        by_cases hl : lessB (frN (-a) b) (ptD [-a] b) s.to.n s.to.d = true
        · have HV := Lib.hid (show belowZ s a b = ⟨s.fr, endE (-a) b, s.no⟩ by unfold belowZ; rw [if_neg hb, if_pos ⟨hpos, .inr hl⟩])
          have HC := Lib.hid (show ∀ w, Calls Tryz.prog 62 #[.agg #[.int .i64 (frN (-a) b), .int .i64 (ptD [-a] b)], .agg #[.int .i64 s.to.n, .int .i64 s.to.d]] w fun e w' => e = .returned (.bool true) ∧ Below w.heap.size w w' from fun w => by rw [← hl]; exact frac_Less _ _ _ _ w)
          clear hl
          go_enter Tryz.func163, Tryz.ntmps163
          go_wp2_with fail
          refine (frac_Make _ _ _).mono ?_
          rintro e w1 ⟨rfl, hb1⟩
          have HVB := Lib.hid ((HB.out.next hb1).alloc (.cells #[.int .i64 (frN (-a) b), .int .i64 (ptD [-a] b)] 55))
          have HVT := Lib.hid (Blk.mk' w1 55 #[.int .i64 (frN (-a) b), .int .i64 (ptD [-a] b)])
          have HVW := Lib.hid (hb1.alloc hb1.size (.cells #[.int .i64 (frN (-a) b), .int .i64 (ptD [-a] b)] 55))
          have z1 := hb1.size
          clear hb1
          go_wp2_with fail
          generalize (w1.alloc (.cells #[.int .i64 (frN (-a) b), .int .i64 (ptD [-a] b)] 55)) = V at *
          have k0 : ∀ u : Wk V, u.1.cell? ⟨g, 0, none⟩ = some (.bool s.fr.op) := fun u => ((HVB.out).next u.2).cell 0
          have k1 : ∀ u : Wk V, u.1.cell? ⟨g, 1, none⟩ = some (.int .i64 s.fr.n) := fun u => ((HVB.out).next u.2).cell 1
          have k2 : ∀ u : Wk V, u.1.cell? ⟨g, 2, none⟩ = some (.int .i64 s.fr.d) := fun u => ((HVB.out).next u.2).cell 2
          have k3 : ∀ u : Wk V, u.1.cell? ⟨g, 3, none⟩ = some (.bool s.to.op) := fun u => ((HVB.out).next u.2).cell 3
          have k4 : ∀ u : Wk V, u.1.cell? ⟨g, 4, none⟩ = some (.int .i64 s.to.n) := fun u => ((HVB.out).next u.2).cell 4
          have k5 : ∀ u : Wk V, u.1.cell? ⟨g, 5, none⟩ = some (.int .i64 s.to.d) := fun u => ((HVB.out).next u.2).cell 5
          have k6 : ∀ u : Wk V, u.1.cell? ⟨g, 6, none⟩ = some (.bool s.no) := fun u => ((HVB.out).next u.2).cell 6
          have f0 : ∀ u : Wk V, u.1.frozen? ⟨g, 0, none⟩ = false := fun u => ((HVB.out).next u.2).frozen 0
          have f1 : ∀ u : Wk V, u.1.frozen? ⟨g, 1, none⟩ = false := fun u => ((HVB.out).next u.2).frozen 1
          have f2 : ∀ u : Wk V, u.1.frozen? ⟨g, 2, none⟩ = false := fun u => ((HVB.out).next u.2).frozen 2
          have f3 : ∀ u : Wk V, u.1.frozen? ⟨g, 3, none⟩ = false := fun u => ((HVB.out).next u.2).frozen 3
          have f4 : ∀ u : Wk V, u.1.frozen? ⟨g, 4, none⟩ = false := fun u => ((HVB.out).next u.2).frozen 4
          have f5 : ∀ u : Wk V, u.1.frozen? ⟨g, 5, none⟩ = false := fun u => ((HVB.out).next u.2).frozen 5
          have f6 : ∀ u : Wk V, u.1.frozen? ⟨g, 6, none⟩ = false := fun u => ((HVB.out).next u.2).frozen 6
          have t0 : ∀ u : Wk V, u.1.cell? ⟨w1.heap.size, 0, none⟩ = some (.int .i64 (frN (-a) b)) := fun u => (HVT.out.next u.2).cell 0
          have t1 : ∀ u : Wk V, u.1.cell? ⟨w1.heap.size, 1, none⟩ = some (.int .i64 (ptD [-a] b)) := fun u => (HVT.out.next u.2).cell 1
          have zV := HVW.out.size
          rw [ho] at k3
          refine wk_region (by kernel_rfl) (by kernel_rfl) ?_
          repeat (go_big_quiet_step ((go_at_call 62; with_reducible exact wk_call (HC.out _))))
          refine wpQuiet_nil ?_
          rintro w2 ⟨u2, rfl⟩
          go_wp2_with fail
          go_end0
          refine ⟨rfl, ?_, (((Turned.of_below (S := (· = g)) (HVW.out.trans (u2.2.mono zV))).setCell (p := ⟨g, 3, none⟩) rfl _).setCell (p := ⟨g, 4, none⟩) rfl _).setCell (p := ⟨g, 5, none⟩) rfl _⟩
          rw [HV.out]; exact (((HVB.out.next u2.2).set0 3 (.bool false)).set0 4 (.int .i64 (frN (-a) b))).set0 5 (.int .i64 (ptD [-a] b))
        · have hl : lessB (frN (-a) b) (ptD [-a] b) s.to.n s.to.d = false := by simpa using hl
          have HV := Lib.hid (show belowZ s a b = s by
            unfold belowZ; rw [if_neg hb, if_neg (fun h => by rcases h.2 with e | e; rw [ho] at e; cases e; rw [hl] at e; cases e), if_neg (fun h => by omega)])
          have HC := Lib.hid (show ∀ w, Calls Tryz.prog 62 #[.agg #[.int .i64 (frN (-a) b), .int .i64 (ptD [-a] b)], .agg #[.int .i64 s.to.n, .int .i64 s.to.d]] w fun e w' => e = .returned (.bool false) ∧ Below w.heap.size w w' from fun w => by rw [← hl]; exact frac_Less _ _ _ _ w)
          clear hl
          go_enter Tryz.func163, Tryz.ntmps163
          go_wp2_with fail
          refine (frac_Make _ _ _).mono ?_
          rintro e w1 ⟨rfl, hb1⟩
          have HVB := Lib.hid ((HB.out.next hb1).alloc (.cells #[.int .i64 (frN (-a) b), .int .i64 (ptD [-a] b)] 55))
          have HVT := Lib.hid (Blk.mk' w1 55 #[.int .i64 (frN (-a) b), .int .i64 (ptD [-a] b)])
          have HVW := Lib.hid (hb1.alloc hb1.size (.cells #[.int .i64 (frN (-a) b), .int .i64 (ptD [-a] b)] 55))
          have z1 := hb1.size
          clear hb1
          go_wp2_with fail
          generalize (w1.alloc (.cells #[.int .i64 (frN (-a) b), .int .i64 (ptD [-a] b)] 55)) = V at *
          have k0 : ∀ u : Wk V, u.1.cell? ⟨g, 0, none⟩ = some (.bool s.fr.op) := fun u => ((HVB.out).next u.2).cell 0
          have k1 : ∀ u : Wk V, u.1.cell? ⟨g, 1, none⟩ = some (.int .i64 s.fr.n) := fun u => ((HVB.out).next u.2).cell 1
          have k2 : ∀ u : Wk V, u.1.cell? ⟨g, 2, none⟩ = some (.int .i64 s.fr.d) := fun u => ((HVB.out).next u.2).cell 2
          have k3 : ∀ u : Wk V, u.1.cell? ⟨g, 3, none⟩ = some (.bool s.to.op) := fun u => ((HVB.out).next u.2).cell 3
          have k4 : ∀ u : Wk V, u.1.cell? ⟨g, 4, none⟩ = some (.int .i64 s.to.n) := fun u => ((HVB.out).next u.2).cell 4
          have k5 : ∀ u : Wk V, u.1.cell? ⟨g, 5, none⟩ = some (.int .i64 s.to.d) := fun u => ((HVB.out).next u.2).cell 5
          have k6 : ∀ u : Wk V, u.1.cell? ⟨g, 6, none⟩ = some (.bool s.no) := fun u => ((HVB.out).next u.2).cell 6
          have f0 : ∀ u : Wk V, u.1.frozen? ⟨g, 0, none⟩ = false := fun u => ((HVB.out).next u.2).frozen 0
          have f1 : ∀ u : Wk V, u.1.frozen? ⟨g, 1, none⟩ = false := fun u => ((HVB.out).next u.2).frozen 1
          have f2 : ∀ u : Wk V, u.1.frozen? ⟨g, 2, none⟩ = false := fun u => ((HVB.out).next u.2).frozen 2
          have f3 : ∀ u : Wk V, u.1.frozen? ⟨g, 3, none⟩ = false := fun u => ((HVB.out).next u.2).frozen 3
          have f4 : ∀ u : Wk V, u.1.frozen? ⟨g, 4, none⟩ = false := fun u => ((HVB.out).next u.2).frozen 4
          have f5 : ∀ u : Wk V, u.1.frozen? ⟨g, 5, none⟩ = false := fun u => ((HVB.out).next u.2).frozen 5
          have f6 : ∀ u : Wk V, u.1.frozen? ⟨g, 6, none⟩ = false := fun u => ((HVB.out).next u.2).frozen 6
          have t0 : ∀ u : Wk V, u.1.cell? ⟨w1.heap.size, 0, none⟩ = some (.int .i64 (frN (-a) b)) := fun u => (HVT.out.next u.2).cell 0
          have t1 : ∀ u : Wk V, u.1.cell? ⟨w1.heap.size, 1, none⟩ = some (.int .i64 (ptD [-a] b)) := fun u => (HVT.out.next u.2).cell 1
          have zV := HVW.out.size
          rw [ho] at k3
          refine wk_region (by kernel_rfl) (by kernel_rfl) ?_
          repeat (go_big_quiet_step ((go_at_call 62; with_reducible exact wk_call (HC.out _))))
          refine wpQuiet_nil ?_
          rintro w2 ⟨u2, rfl⟩
          go_wp2_with fail
          have HVB3 := Lib.hid (HVB.out.next u2.2)
          have HVT3 := Lib.hid (HVT.out.next u2.2)
          clear k0 k1 k2 k3 k4 k5 k6 f0 f1 f2 f3 f4 f5 f6 t0 t1
          have k0 : ∀ u : Wk u2.1, u.1.cell? ⟨g, 0, none⟩ = some (.bool s.fr.op) := fun u => ((HVB3.out).next u.2).cell 0
          have k1 : ∀ u : Wk u2.1, u.1.cell? ⟨g, 1, none⟩ = some (.int .i64 s.fr.n) := fun u => ((HVB3.out).next u.2).cell 1
          have k2 : ∀ u : Wk u2.1, u.1.cell? ⟨g, 2, none⟩ = some (.int .i64 s.fr.d) := fun u => ((HVB3.out).next u.2).cell 2
          have k3 : ∀ u : Wk u2.1, u.1.cell? ⟨g, 3, none⟩ = some (.bool s.to.op) := fun u => ((HVB3.out).next u.2).cell 3
          have k4 : ∀ u : Wk u2.1, u.1.cell? ⟨g, 4, none⟩ = some (.int .i64 s.to.n) := fun u => ((HVB3.out).next u.2).cell 4
          have k5 : ∀ u : Wk u2.1, u.1.cell? ⟨g, 5, none⟩ = some (.int .i64 s.to.d) := fun u => ((HVB3.out).next u.2).cell 5
          have k6 : ∀ u : Wk u2.1, u.1.cell? ⟨g, 6, none⟩ = some (.bool s.no) := fun u => ((HVB3.out).next u.2).cell 6
          have f0 : ∀ u : Wk u2.1, u.1.frozen? ⟨g, 0, none⟩ = false := fun u => ((HVB3.out).next u.2).frozen 0
          have f1 : ∀ u : Wk u2.1, u.1.frozen? ⟨g, 1, none⟩ = false := fun u => ((HVB3.out).next u.2).frozen 1
          have f2 : ∀ u : Wk u2.1, u.1.frozen? ⟨g, 2, none⟩ = false := fun u => ((HVB3.out).next u.2).frozen 2
          have f3 : ∀ u : Wk u2.1, u.1.frozen? ⟨g, 3, none⟩ = false := fun u => ((HVB3.out).next u.2).frozen 3
          have f4 : ∀ u : Wk u2.1, u.1.frozen? ⟨g, 4, none⟩ = false := fun u => ((HVB3.out).next u.2).frozen 4
          have f5 : ∀ u : Wk u2.1, u.1.frozen? ⟨g, 5, none⟩ = false := fun u => ((HVB3.out).next u.2).frozen 5
          have f6 : ∀ u : Wk u2.1, u.1.frozen? ⟨g, 6, none⟩ = false := fun u => ((HVB3.out).next u.2).frozen 6
          have t0 : ∀ u : Wk u2.1, u.1.cell? ⟨w1.heap.size, 0, none⟩ = some (.int .i64 (frN (-a) b)) := fun u => (HVT3.out.next u.2).cell 0
          have t1 : ∀ u : Wk u2.1, u.1.cell? ⟨w1.heap.size, 1, none⟩ = some (.int .i64 (ptD [-a] b)) := fun u => (HVT3.out.next u.2).cell 1
          (try rw [ho] at k0)
          refine wk_region (by kernel_rfl) (by kernel_rfl) ?_
          repeat (go_big_quiet_step (fail))
          refine wpQuiet_nil ?_
          rintro w3 ⟨u3, rfl⟩
          go_wp2_with fail
          go_end0
          have hu := u2.2.trans (u3.2.mono u2.2.size)
          refine ⟨rfl, ?_, Turned.of_below (S := (· = g)) (HVW.out.trans (hu.mono zV))⟩
          rw [HV.out]; exact HVB.out.next hu
    · have hneg : b < 0 := by omega
      have hp1 : decide (0 < b) = false := by simp; omega
      have hp2 : decide (b < 0) = true := by simpa using hneg
      by_cases ho : s.fr.op = true
      · have HV := Lib.hid (show belowZ s a b = ⟨endE (-a) b, s.to, s.no⟩ by unfold belowZ; rw [if_neg hb, if_neg (fun h => by omega), if_pos ⟨hneg, .inl ho⟩])
        go_enter Tryz.func163, Tryz.ntmps163
        go_wp2_with fail
        refine (frac_Make _ _ _).mono ?_
        rintro e w1 ⟨rfl, hb1⟩
        have HVB := Lib.hid ((HB.out.next hb1).alloc (.cells #[.int .i64 (frN (-a) b), .int .i64 (ptD [-a] b)] 55))
        have HVT := Lib.hid (Blk.mk' w1 55 #[.int .i64 (frN (-a) b), .int .i64 (ptD [-a] b)])
        have HVW := Lib.hid (hb1.alloc hb1.size (.cells #[.int .i64 (frN (-a) b), .int .i64 (ptD [-a] b)] 55))
        have z1 := hb1.size
        clear hb1
        go_wp2_with fail
        generalize (w1.alloc (.cells #[.int .i64 (frN (-a) b), .int .i64 (ptD [-a] b)] 55)) = V at *
        have k0 : ∀ u : Wk V, u.1.cell? ⟨g, 0, none⟩ = some (.bool s.fr.op) := fun u => ((HVB.out).next u.2).cell 0
        have k1 : ∀ u : Wk V, u.1.cell? ⟨g, 1, none⟩ = some (.int .i64 s.fr.n) := fun u => ((HVB.out).next u.2).cell 1
        have k2 : ∀ u : Wk V, u.1.cell? ⟨g, 2, none⟩ = some (.int .i64 s.fr.d) := fun u => ((HVB.out).next u.2).cell 2
        have k3 : ∀ u : Wk V, u.1.cell? ⟨g, 3, none⟩ = some (.bool s.to.op) := fun u => ((HVB.out).next u.2).cell 3
        have k4 : ∀ u : Wk V, u.1.cell? ⟨g, 4, none⟩ = some (.int .i64 s.to.n) := fun u => ((HVB.out).next u.2).cell 4
        have k5 : ∀ u : Wk V, u.1.cell? ⟨g, 5, none⟩ = some (.int .i64 s.to.d) := fun u => ((HVB.out).next u.2).cell 5
        have k6 : ∀ u : Wk V, u.1.cell? ⟨g, 6, none⟩ = some (.bool s.no) := fun u => ((HVB.out).next u.2).cell 6
        have f0 : ∀ u : Wk V, u.1.frozen? ⟨g, 0, none⟩ = false := fun u => ((HVB.out).next u.2).frozen 0
        have f1 : ∀ u : Wk V, u.1.frozen? ⟨g, 1, none⟩ = false := fun u => ((HVB.out).next u.2).frozen 1
        have f2 : ∀ u : Wk V, u.1.frozen? ⟨g, 2, none⟩ = false := fun u => ((HVB.out).next u.2).frozen 2
        have f3 : ∀ u : Wk V, u.1.frozen? ⟨g, 3, none⟩ = false := fun u => ((HVB.out).next u.2).frozen 3
        have f4 : ∀ u : Wk V, u.1.frozen? ⟨g, 4, none⟩ = false := fun u => ((HVB.out).next u.2).frozen 4
        have f5 : ∀ u : Wk V, u.1.frozen? ⟨g, 5, none⟩ = false := fun u => ((HVB.out).next u.2).frozen 5
        have f6 : ∀ u : Wk V, u.1.frozen? ⟨g, 6, none⟩ = false := fun u => ((HVB.out).next u.2).frozen 6
        have t0 : ∀ u : Wk V, u.1.cell? ⟨w1.heap.size, 0, none⟩ = some (.int .i64 (frN (-a) b)) := fun u => (HVT.out.next u.2).cell 0
        have t1 : ∀ u : Wk V, u.1.cell? ⟨w1.heap.size, 1, none⟩ = some (.int .i64 (ptD [-a] b)) := fun u => (HVT.out.next u.2).cell 1
        have zV := HVW.out.size
        rw [ho] at k0
        refine wk_region (by kernel_rfl) (by kernel_rfl) ?_
        repeat (go_big_quiet_step (fail))
        refine wpQuiet_nil ?_
        rintro w2 ⟨u2, rfl⟩
        go_wp2_with fail
        have HVB3 := Lib.hid (HVB.out.next u2.2)
        have HVT3 := Lib.hid (HVT.out.next u2.2)
        clear k0 k1 k2 k3 k4 k5 k6 f0 f1 f2 f3 f4 f5 f6 t0 t1
        have k0 : ∀ u : Wk u2.1, u.1.cell? ⟨g, 0, none⟩ = some (.bool s.fr.op) := fun u => ((HVB3.out).next u.2).cell 0
        have k1 : ∀ u : Wk u2.1, u.1.cell? ⟨g, 1, none⟩ = some (.int .i64 s.fr.n) := fun u => ((HVB3.out).next u.2).cell 1
        have k2 : ∀ u : Wk u2.1, u.1.cell? ⟨g, 2, none⟩ = some (.int .i64 s.fr.d) := fun u => ((HVB3.out).next u.2).cell 2
        have k3 : ∀ u : Wk u2.1, u.1.cell? ⟨g, 3, none⟩ = some (.bool s.to.op) := fun u => ((HVB3.out).next u.2).cell 3
        have k4 : ∀ u : Wk u2.1, u.1.cell? ⟨g, 4, none⟩ = some (.int .i64 s.to.n) := fun u => ((HVB3.out).next u.2).cell 4
        have k5 : ∀ u : Wk u2.1, u.1.cell? ⟨g, 5, none⟩ = some (.int .i64 s.to.d) := fun u => ((HVB3.out).next u.2).cell 5
        have k6 : ∀ u : Wk u2.1, u.1.cell? ⟨g, 6, none⟩ = some (.bool s.no) := fun u => ((HVB3.out).next u.2).cell 6
        have f0 : ∀ u : Wk u2.1, u.1.frozen? ⟨g, 0, none⟩ = false := fun u => ((HVB3.out).next u.2).frozen 0
        have f1 : ∀ u : Wk u2.1, u.1.frozen? ⟨g, 1, none⟩ = false := fun u => ((HVB3.out).next u.2).frozen 1
        have f2 : ∀ u : Wk u2.1, u.1.frozen? ⟨g, 2, none⟩ = false := fun u => ((HVB3.out).next u.2).frozen 2
        have f3 : ∀ u : Wk u2.1, u.1.frozen? ⟨g, 3, none⟩ = false := fun u => ((HVB3.out).next u.2).frozen 3
        have f4 : ∀ u : Wk u2.1, u.1.frozen? ⟨g, 4, none⟩ = false := fun u => ((HVB3.out).next u.2).frozen 4
        have f5 : ∀ u : Wk u2.1, u.1.frozen? ⟨g, 5, none⟩ = false := fun u => ((HVB3.out).next u.2).frozen 5
        have f6 : ∀ u : Wk u2.1, u.1.frozen? ⟨g, 6, none⟩ = false := fun u => ((HVB3.out).next u.2).frozen 6
        have t0 : ∀ u : Wk u2.1, u.1.cell? ⟨w1.heap.size, 0, none⟩ = some (.int .i64 (frN (-a) b)) := fun u => (HVT3.out.next u.2).cell 0
        have t1 : ∀ u : Wk u2.1, u.1.cell? ⟨w1.heap.size, 1, none⟩ = some (.int .i64 (ptD [-a] b)) := fun u => (HVT3.out.next u.2).cell 1
        (try rw [ho] at k0)
        refine wk_region (by kernel_rfl) (by kernel_rfl) ?_
        repeat (go_big_quiet_step (fail))
        refine wpQuiet_nil ?_
        rintro w3 ⟨u3, rfl⟩
        go_wp2_with fail
        go_end0
        have hu := u2.2.trans (u3.2.mono u2.2.size)
        refine ⟨rfl, ?_, (((Turned.of_below (S := (· = g)) (HVW.out.trans (hu.mono zV))).setCell (p := ⟨g, 0, none⟩) rfl _).setCell (p := ⟨g, 1, none⟩) rfl _).setCell (p := ⟨g, 2, none⟩) rfl _⟩
        rw [HV.out]; exact (((HVB.out.next hu).set0 0 (.bool false)).set0 1 (.int .i64 (frN (-a) b))).set0 2 (.int .i64 (ptD [-a] b))
      · have ho : s.fr.op = false := by simpa using ho
        by_cases hl : lessB s.fr.n s.fr.d (frN (-a) b) (ptD [-a] b) = true
        · have HV := Lib.hid (show belowZ s a b = ⟨endE (-a) b, s.to, s.no⟩ by unfold belowZ; rw [if_neg hb, if_neg (fun h => by omega), if_pos ⟨hneg, .inr hl⟩])
          have HC := Lib.hid (show ∀ w, Calls Tryz.prog 62 #[.agg #[.int .i64 s.fr.n, .int .i64 s.fr.d], .agg #[.int .i64 (frN (-a) b), .int .i64 (ptD [-a] b)]] w fun e w' => e = .returned (.bool true) ∧ Below w.heap.size w w' from fun w => by rw [← hl]; exact frac_Less _ _ _ _ w)
          clear hl
          go_enter Tryz.func163, Tryz.ntmps163
          go_wp2_with fail
          refine (frac_Make _ _ _).mono ?_
          rintro e w1 ⟨rfl, hb1⟩
          have HVB := Lib.hid ((HB.out.next hb1).alloc (.cells #[.int .i64 (frN (-a) b), .int .i64 (ptD [-a] b)] 55))
          have HVT := Lib.hid (Blk.mk' w1 55 #[.int .i64 (frN (-a) b), .int .i64 (ptD [-a] b)])
          have HVW := Lib.hid (hb1.alloc hb1.size (.cells #[.int .i64 (frN (-a) b), .int .i64 (ptD [-a] b)] 55))
          have z1 := hb1.size
          clear hb1
          go_wp2_with fail
          generalize (w1.alloc (.cells #[.int .i64 (frN (-a) b), .int .i64 (ptD [-a] b)] 55)) = V at *
          have k0 : ∀ u : Wk V, u.1.cell? ⟨g, 0, none⟩ = some (.bool s.fr.op) := fun u => ((HVB.out).next u.2).cell 0
          have k1 : ∀ u : Wk V, u.1.cell? ⟨g, 1, none⟩ = some (.int .i64 s.fr.n) := fun u => ((HVB.out).next u.2).cell 1
          have k2 : ∀ u : Wk V, u.1.cell? ⟨g, 2, none⟩ = some (.int .i64 s.fr.d) := fun u => ((HVB.out).next u.2).cell 2
          have k3 : ∀ u : Wk V, u.1.cell? ⟨g, 3, none⟩ = some (.bool s.to.op) := fun u => ((HVB.out).next u.2).cell 3
          have k4 : ∀ u : Wk V, u.1.cell? ⟨g, 4, none⟩ = some (.int .i64 s.to.n) := fun u => ((HVB.out).next u.2).cell 4
          have k5 : ∀ u : Wk V, u.1.cell? ⟨g, 5, none⟩ = some (.int .i64 s.to.d) := fun u => ((HVB.out).next u.2).cell 5
          have k6 : ∀ u : Wk V, u.1.cell? ⟨g, 6, none⟩ = some (.bool s.no) := fun u => ((HVB.out).next u.2).cell 6
          have f0 : ∀ u : Wk V, u.1.frozen? ⟨g, 0, none⟩ = false := fun u => ((HVB.out).next u.2).frozen 0
          have f1 : ∀ u : Wk V, u.1.frozen? ⟨g, 1, none⟩ = false := fun u => ((HVB.out).next u.2).frozen 1
          have f2 : ∀ u : Wk V, u.1.frozen? ⟨g, 2, none⟩ = false := fun u => ((HVB.out).next u.2).frozen 2
          have f3 : ∀ u : Wk V, u.1.frozen? ⟨g, 3, none⟩ = false := fun u => ((HVB.out).next u.2).frozen 3
          have f4 : ∀ u : Wk V, u.1.frozen? ⟨g, 4, none⟩ = false := fun u => ((HVB.out).next u.2).frozen 4
          have f5 : ∀ u : Wk V, u.1.frozen? ⟨g, 5, none⟩ = false := fun u => ((HVB.out).next u.2).frozen 5
          have f6 : ∀ u : Wk V, u.1.frozen? ⟨g, 6, none⟩ = false := fun u => ((HVB.out).next u.2).frozen 6
          have t0 : ∀ u : Wk V, u.1.cell? ⟨w1.heap.size, 0, none⟩ = some (.int .i64 (frN (-a) b)) := fun u => (HVT.out.next u.2).cell 0
          have t1 : ∀ u : Wk V, u.1.cell? ⟨w1.heap.size, 1, none⟩ = some (.int .i64 (ptD [-a] b)) := fun u => (HVT.out.next u.2).cell 1
          have zV := HVW.out.size
          rw [ho] at k0
          refine wk_region (by kernel_rfl) (by kernel_rfl) ?_
          repeat (go_big_quiet_step (fail))
          refine wpQuiet_nil ?_
          rintro w2 ⟨u2, rfl⟩
          go_wp2_with fail
          have HVB3 := Lib.hid (HVB.out.next u2.2)
          have HVT3 := Lib.hid (HVT.out.next u2.2)
          clear k0 k1 k2 k3 k4 k5 k6 f0 f1 f2 f3 f4 f5 f6 t0 t1
          have k0 : ∀ u : Wk u2.1, u.1.cell? ⟨g, 0, none⟩ = some (.bool s.fr.op) := fun u => ((HVB3.out).next u.2).cell 0
          have k1 : ∀ u : Wk u2.1, u.1.cell? ⟨g, 1, none⟩ = some (.int .i64 s.fr.n) := fun u => ((HVB3.out).next u.2).cell 1
          have k2 : ∀ u : Wk u2.1, u.1.cell? ⟨g, 2, none⟩ = some (.int .i64 s.fr.d) := fun u => ((HVB3.out).next u.2).cell 2
          have k3 : ∀ u : Wk u2.1, u.1.cell? ⟨g, 3, none⟩ = some (.bool s.to.op) := fun u => ((HVB3.out).next u.2).cell 3
          have k4 : ∀ u : Wk u2.1, u.1.cell? ⟨g, 4, none⟩ = some (.int .i64 s.to.n) := fun u => ((HVB3.out).next u.2).cell 4
          have k5 : ∀ u : Wk u2.1, u.1.cell? ⟨g, 5, none⟩ = some (.int .i64 s.to.d) := fun u => ((HVB3.out).next u.2).cell 5
          have k6 : ∀ u : Wk u2.1, u.1.cell? ⟨g, 6, none⟩ = some (.bool s.no) := fun u => ((HVB3.out).next u.2).cell 6
          have f0 : ∀ u : Wk u2.1, u.1.frozen? ⟨g, 0, none⟩ = false := fun u => ((HVB3.out).next u.2).frozen 0
          have f1 : ∀ u : Wk u2.1, u.1.frozen? ⟨g, 1, none⟩ = false := fun u => ((HVB3.out).next u.2).frozen 1
          have f2 : ∀ u : Wk u2.1, u.1.frozen? ⟨g, 2, none⟩ = false := fun u => ((HVB3.out).next u.2).frozen 2
          have f3 : ∀ u : Wk u2.1, u.1.frozen? ⟨g, 3, none⟩ = false := fun u => ((HVB3.out).next u.2).frozen 3
          have f4 : ∀ u : Wk u2.1, u.1.frozen? ⟨g, 4, none⟩ = false := fun u => ((HVB3.out).next u.2).frozen 4
          have f5 : ∀ u : Wk u2.1, u.1.frozen? ⟨g, 5, none⟩ = false := fun u => ((HVB3.out).next u.2).frozen 5
          have f6 : ∀ u : Wk u2.1, u.1.frozen? ⟨g, 6, none⟩ = false := fun u => ((HVB3.out).next u.2).frozen 6
          have t0 : ∀ u : Wk u2.1, u.1.cell? ⟨w1.heap.size, 0, none⟩ = some (.int .i64 (frN (-a) b)) := fun u => (HVT3.out.next u.2).cell 0
          have t1 : ∀ u : Wk u2.1, u.1.cell? ⟨w1.heap.size, 1, none⟩ = some (.int .i64 (ptD [-a] b)) := fun u => (HVT3.out.next u.2).cell 1
          (try rw [ho] at k0)
          refine wk_region (by kernel_rfl) (by kernel_rfl) ?_
          repeat (go_big_quiet_step ((go_at_call 62; with_reducible exact wk_call (HC.out _))))
          refine wpQuiet_nil ?_
          rintro w3 ⟨u3, rfl⟩
          go_wp2_with fail
          go_end0
          have hu := u2.2.trans (u3.2.mono u2.2.size)
          refine ⟨rfl, ?_, (((Turned.of_below (S := (· = g)) (HVW.out.trans (hu.mono zV))).setCell (p := ⟨g, 0, none⟩) rfl _).setCell (p := ⟨g, 1, none⟩) rfl _).setCell (p := ⟨g, 2, none⟩) rfl _⟩
          rw [HV.out]; exact (((HVB.out.next hu).set0 0 (.bool false)).set0 1 (.int .i64 (frN (-a) b))).set0 2 (.int .i64 (ptD [-a] b))
        · have hl : lessB s.fr.n s.fr.d (frN (-a) b) (ptD [-a] b) = false := by simpa using hl
          have HV := Lib.hid (show belowZ s a b = s by
            unfold belowZ; rw [if_neg hb, if_neg (fun h => by omega), if_neg (fun h => by rcases h.2 with e | e; rw [ho] at e; cases e; rw [hl] at e; cases e)])
          have HC := Lib.hid (show ∀ w, Calls Tryz.prog 62 #[.agg #[.int .i64 s.fr.n, .int .i64 s.fr.d], .agg #[.int .i64 (frN (-a) b), .int .i64 (ptD [-a] b)]] w fun e w' => e = .returned (.bool false) ∧ Below w.heap.size w w' from fun w => by rw [← hl]; exact frac_Less _ _ _ _ w)
          clear hl
          go_enter Tryz.func163, Tryz.ntmps163
          go_wp2_with fail
          refine (frac_Make _ _ _).mono ?_
          rintro e w1 ⟨rfl, hb1⟩
          have HVB := Lib.hid ((HB.out.next hb1).alloc (.cells #[.int .i64 (frN (-a) b), .int .i64 (ptD [-a] b)] 55))
          have HVT := Lib.hid (Blk.mk' w1 55 #[.int .i64 (frN (-a) b), .int .i64 (ptD [-a] b)])
          have HVW := Lib.hid (hb1.alloc hb1.size (.cells #[.int .i64 (frN (-a) b), .int .i64 (ptD [-a] b)] 55))
          have z1 := hb1.size
          clear hb1
          go_wp2_with fail
          generalize (w1.alloc (.cells #[.int .i64 (frN (-a) b), .int .i64 (ptD [-a] b)] 55)) = V at *
          have k0 : ∀ u : Wk V, u.1.cell? ⟨g, 0, none⟩ = some (.bool s.fr.op) := fun u => ((HVB.out).next u.2).cell 0
          have k1 : ∀ u : Wk V, u.1.cell? ⟨g, 1, none⟩ = some (.int .i64 s.fr.n) := fun u => ((HVB.out).next u.2).cell 1
          have k2 : ∀ u : Wk V, u.1.cell? ⟨g, 2, none⟩ = some (.int .i64 s.fr.d) := fun u => ((HVB.out).next u.2).cell 2
          have k3 : ∀ u : Wk V, u.1.cell? ⟨g, 3, none⟩ = some (.bool s.to.op) := fun u => ((HVB.out).next u.2).cell 3
          have k4 : ∀ u : Wk V, u.1.cell? ⟨g, 4, none⟩ = some (.int .i64 s.to.n) := fun u => ((HVB.out).next u.2).cell 4
          have k5 : ∀ u : Wk V, u.1.cell? ⟨g, 5, none⟩ = some (.int .i64 s.to.d) := fun u => ((HVB.out).next u.2).cell 5
          have k6 : ∀ u : Wk V, u.1.cell? ⟨g, 6, none⟩ = some (.bool s.no) := fun u => ((HVB.out).next u.2).cell 6
          have f0 : ∀ u : Wk V, u.1.frozen? ⟨g, 0, none⟩ = false := fun u => ((HVB.out).next u.2).frozen 0
          have f1 : ∀ u : Wk V, u.1.frozen? ⟨g, 1, none⟩ = false := fun u => ((HVB.out).next u.2).frozen 1
          have f2 : ∀ u : Wk V, u.1.frozen? ⟨g, 2, none⟩ = false := fun u => ((HVB.out).next u.2).frozen 2
          have f3 : ∀ u : Wk V, u.1.frozen? ⟨g, 3, none⟩ = false := fun u => ((HVB.out).next u.2).frozen 3
          have f4 : ∀ u : Wk V, u.1.frozen? ⟨g, 4, none⟩ = false := fun u => ((HVB.out).next u.2).frozen 4
          have f5 : ∀ u : Wk V, u.1.frozen? ⟨g, 5, none⟩ = false := fun u => ((HVB.out).next u.2).frozen 5
          have f6 : ∀ u : Wk V, u.1.frozen? ⟨g, 6, none⟩ = false := fun u => ((HVB.out).next u.2).frozen 6
          have t0 : ∀ u : Wk V, u.1.cell? ⟨w1.heap.size, 0, none⟩ = some (.int .i64 (frN (-a) b)) := fun u => (HVT.out.next u.2).cell 0
          have t1 : ∀ u : Wk V, u.1.cell? ⟨w1.heap.size, 1, none⟩ = some (.int .i64 (ptD [-a] b)) := fun u => (HVT.out.next u.2).cell 1
          have zV := HVW.out.size
          rw [ho] at k0
          refine wk_region (by kernel_rfl) (by kernel_rfl) ?_
          repeat (go_big_quiet_step (fail))
          refine wpQuiet_nil ?_
          rintro w2 ⟨u2, rfl⟩
          go_wp2_with fail
          have HVB3 := Lib.hid (HVB.out.next u2.2)
          have HVT3 := Lib.hid (HVT.out.next u2.2)
          clear k0 k1 k2 k3 k4 k5 k6 f0 f1 f2 f3 f4 f5 f6 t0 t1
          have k0 : ∀ u : Wk u2.1, u.1.cell? ⟨g, 0, none⟩ = some (.bool s.fr.op) := fun u => ((HVB3.out).next u.2).cell 0
          have k1 : ∀ u : Wk u2.1, u.1.cell? ⟨g, 1, none⟩ = some (.int .i64 s.fr.n) := fun u => ((HVB3.out).next u.2).cell 1
          have k2 : ∀ u : Wk u2.1, u.1.cell? ⟨g, 2, none⟩ = some (.int .i64 s.fr.d) := fun u => ((HVB3.out).next u.2).cell 2
          have k3 : ∀ u : Wk u2.1, u.1.cell? ⟨g, 3, none⟩ = some (.bool s.to.op) := fun u => ((HVB3.out).next u.2).cell 3
          have k4 : ∀ u : Wk u2.1, u.1.cell? ⟨g, 4, none⟩ = some (.int .i64 s.to.n) := fun u => ((HVB3.out).next u.2).cell 4
          have k5 : ∀ u : Wk u2.1, u.1.cell? ⟨g, 5, none⟩ = some (.int .i64 s.to.d) := fun u => ((HVB3.out).next u.2).cell 5
          have k6 : ∀ u : Wk u2.1, u.1.cell? ⟨g, 6, none⟩ = some (.bool s.no) := fun u => ((HVB3.out).next u.2).cell 6
          have f0 : ∀ u : Wk u2.1, u.1.frozen? ⟨g, 0, none⟩ = false := fun u => ((HVB3.out).next u.2).frozen 0
          have f1 : ∀ u : Wk u2.1, u.1.frozen? ⟨g, 1, none⟩ = false := fun u => ((HVB3.out).next u.2).frozen 1
          have f2 : ∀ u : Wk u2.1, u.1.frozen? ⟨g, 2, none⟩ = false := fun u => ((HVB3.out).next u.2).frozen 2
          have f3 : ∀ u : Wk u2.1, u.1.frozen? ⟨g, 3, none⟩ = false := fun u => ((HVB3.out).next u.2).frozen 3
          have f4 : ∀ u : Wk u2.1, u.1.frozen? ⟨g, 4, none⟩ = false := fun u => ((HVB3.out).next u.2).frozen 4
          have f5 : ∀ u : Wk u2.1, u.1.frozen? ⟨g, 5, none⟩ = false := fun u => ((HVB3.out).next u.2).frozen 5
          have f6 : ∀ u : Wk u2.1, u.1.frozen? ⟨g, 6, none⟩ = false := fun u => ((HVB3.out).next u.2).frozen 6
          have t0 : ∀ u : Wk u2.1, u.1.cell? ⟨w1.heap.size, 0, none⟩ = some (.int .i64 (frN (-a) b)) := fun u => (HVT3.out.next u.2).cell 0
          have t1 : ∀ u : Wk u2.1, u.1.cell? ⟨w1.heap.size, 1, none⟩ = some (.int .i64 (ptD [-a] b)) := fun u => (HVT3.out.next u.2).cell 1
          (try rw [ho] at k0)
          refine wk_region (by kernel_rfl) (by kernel_rfl) ?_
          repeat (go_big_quiet_step ((go_at_call 62; with_reducible exact wk_call (HC.out _))))
          refine wpQuiet_nil ?_
          rintro w3 ⟨u3, rfl⟩
          go_wp2_with fail
          go_end0
          have hu := u2.2.trans (u3.2.mono u2.2.size)
          refine ⟨rfl, ?_, Turned.of_below (S := (· = g)) (HVW.out.trans (hu.mono zV))⟩
          rw [HV.out]; exact HVB.out.next hu

/-- Two ends and an error are handed back. -/
def RetEn (w : World) (a b : EN) (er : Int) (e : Ending) (w' : World) : Prop :=
  e = .returned (.tuple #[.agg #[.bool a.op, .int .i64 a.n, .int .i64 a.d], .agg #[.bool b.op, .int .i64 b.n, .int .i64 b.d], .int .i64 er]) ∧ Below w.heap.size w w'
set_option maxRecDepth 100000 in
set_option maxHeartbeats 2000000 in
theorem span_ends (s : NW) (g : Nat) (w : World) (hB : Blk w g 218 (nwA s)) :
    Calls Tryz.prog 164 #[.pointer (some ⟨g, 0, none⟩)] w (RetEn w (endsF s) (endsT s) (endsE s)) := by
  have HB := Lib.hid hB
  have hg := hB.lt
  clear hB
  by_cases hno : s.no = true
  · have HE := Lib.hid (show endsE s = 4 by unfold endsE; rw [if_pos (.inl hno)])
    go_enter Tryz.func164, Tryz.ntmps164
    go_wp2_with fail
    have HR := Lib.hid (show Blk ((w.alloc (.cells #[.bool false, .int .i64 0, .int .i64 0] 77)).alloc (.cells #[.bool false, .int .i64 0, .int .i64 0] 77)) w.heap.size 77 #[.bool false, .int .i64 0, .int .i64 0] from (Blk.mk' _ _ _).alloc _)
    have HQ := Lib.hid (Blk.new (w.alloc (.cells #[.bool false, .int .i64 0, .int .i64 0] 77)) 77 #[.bool false, .int .i64 0, .int .i64 0] (w.heap.size + 1) (by simp))
    have HG := Lib.hid ((HB.out.alloc (.cells #[.bool false, .int .i64 0, .int .i64 0] 77)).alloc (.cells #[.bool false, .int .i64 0, .int .i64 0] 77))
    have HVW := Lib.hid ((by (repeat (any_goals (first | exact Below.refl _ _ | refine below_drewN ?_ _ | refine Below.drew ?_ | refine Below.alloc ?_ ?_ _ | refine Below.setCell ?_ ?_ _))); all_goals (first | omega | (simp; done) | (simp; omega))) : Below w.heap.size w ((w.alloc (.cells #[.bool false, .int .i64 0, .int .i64 0] 77)).alloc (.cells #[.bool false, .int .i64 0, .int .i64 0] 77)))
    generalize ((w.alloc (.cells #[.bool false, .int .i64 0, .int .i64 0] 77)).alloc (.cells #[.bool false, .int .i64 0, .int .i64 0] 77)) = V at *
    have k0 : ∀ u : Wk V, u.1.cell? ⟨g, 0, none⟩ = some (.bool s.fr.op) := fun u => ((HG.out).next u.2).cell 0
    have k1 : ∀ u : Wk V, u.1.cell? ⟨g, 1, none⟩ = some (.int .i64 s.fr.n) := fun u => ((HG.out).next u.2).cell 1
    have k2 : ∀ u : Wk V, u.1.cell? ⟨g, 2, none⟩ = some (.int .i64 s.fr.d) := fun u => ((HG.out).next u.2).cell 2
    have k3 : ∀ u : Wk V, u.1.cell? ⟨g, 3, none⟩ = some (.bool s.to.op) := fun u => ((HG.out).next u.2).cell 3
    have k4 : ∀ u : Wk V, u.1.cell? ⟨g, 4, none⟩ = some (.int .i64 s.to.n) := fun u => ((HG.out).next u.2).cell 4
    have k5 : ∀ u : Wk V, u.1.cell? ⟨g, 5, none⟩ = some (.int .i64 s.to.d) := fun u => ((HG.out).next u.2).cell 5
    have k6 : ∀ u : Wk V, u.1.cell? ⟨g, 6, none⟩ = some (.bool s.no) := fun u => ((HG.out).next u.2).cell 6
    have f0 : ∀ u : Wk V, u.1.frozen? ⟨g, 0, none⟩ = false := fun u => ((HG.out).next u.2).frozen 0
    have f1 : ∀ u : Wk V, u.1.frozen? ⟨g, 1, none⟩ = false := fun u => ((HG.out).next u.2).frozen 1
    have f2 : ∀ u : Wk V, u.1.frozen? ⟨g, 2, none⟩ = false := fun u => ((HG.out).next u.2).frozen 2
    have f3 : ∀ u : Wk V, u.1.frozen? ⟨g, 3, none⟩ = false := fun u => ((HG.out).next u.2).frozen 3
    have f4 : ∀ u : Wk V, u.1.frozen? ⟨g, 4, none⟩ = false := fun u => ((HG.out).next u.2).frozen 4
    have f5 : ∀ u : Wk V, u.1.frozen? ⟨g, 5, none⟩ = false := fun u => ((HG.out).next u.2).frozen 5
    have f6 : ∀ u : Wk V, u.1.frozen? ⟨g, 6, none⟩ = false := fun u => ((HG.out).next u.2).frozen 6
    have r0 : ∀ u : Wk V, u.1.cell? ⟨w.heap.size, 0, none⟩ = some (.bool false) := fun u => ((HR.out).next u.2).cell 0
    have r1 : ∀ u : Wk V, u.1.cell? ⟨w.heap.size, 1, none⟩ = some (.int .i64 0) := fun u => ((HR.out).next u.2).cell 1
    have r2 : ∀ u : Wk V, u.1.cell? ⟨w.heap.size, 2, none⟩ = some (.int .i64 0) := fun u => ((HR.out).next u.2).cell 2
    have q0 : ∀ u : Wk V, u.1.cell? ⟨w.heap.size + 1, 0, none⟩ = some (.bool false) := fun u => ((HQ.out).next u.2).cell 0
    have q1 : ∀ u : Wk V, u.1.cell? ⟨w.heap.size + 1, 1, none⟩ = some (.int .i64 0) := fun u => ((HQ.out).next u.2).cell 1
    have q2 : ∀ u : Wk V, u.1.cell? ⟨w.heap.size + 1, 2, none⟩ = some (.int .i64 0) := fun u => ((HQ.out).next u.2).cell 2
    have rf0 : ∀ u : Wk V, u.1.frozen? ⟨w.heap.size, 0, none⟩ = false := fun u => ((HR.out).next u.2).frozen 0
    have rf1 : ∀ u : Wk V, u.1.frozen? ⟨w.heap.size, 1, none⟩ = false := fun u => ((HR.out).next u.2).frozen 1
    have rf2 : ∀ u : Wk V, u.1.frozen? ⟨w.heap.size, 2, none⟩ = false := fun u => ((HR.out).next u.2).frozen 2
    have qf0 : ∀ u : Wk V, u.1.frozen? ⟨w.heap.size + 1, 0, none⟩ = false := fun u => ((HQ.out).next u.2).frozen 0
    have qf1 : ∀ u : Wk V, u.1.frozen? ⟨w.heap.size + 1, 1, none⟩ = false := fun u => ((HQ.out).next u.2).frozen 1
    have qf2 : ∀ u : Wk V, u.1.frozen? ⟨w.heap.size + 1, 2, none⟩ = false := fun u => ((HQ.out).next u.2).frozen 2
    have zV := HVW.out.size
    rw [hno] at k6
    refine wk_region (by kernel_rfl) (by kernel_rfl) ?_
    repeat (go_big_quiet_step (fail))
    refine wpQuiet_nil ?_
    rintro w2 ⟨u2, rfl⟩
    have HV2 := Lib.hid (HVW.out.trans (u2.2.mono zV))
    go_wp2_with fail
    refine bodyPost_ret (v := .tuple #[.agg #[.bool false, .int .i64 0, .int .i64 0], .agg #[.bool false, .int .i64 0, .int .i64 0], .int .i64 4]) ?_ ?_ ?_
    · simp [results, Tryz.results164, go_sem, r0, r1, r2, q0, q1, q2]
    · rfl
    · rw [show endsF s = zeroE by unfold endsF; rw [if_neg (by rw [HE.out]; decide)], show endsT s = zeroE by unfold endsT; rw [if_neg (by rw [HE.out]; decide)], HE.out]
      refine ⟨rfl, ?_⟩
      iterate 6 refine Below.setCell ?_ (by first | (simp; done) | (simp; omega)) _
      exact HV2.out
  · have hno : s.no = false := by simpa using hno
    by_cases hfo : s.fr.op = true
    · have HE := Lib.hid (show endsE s = 0 by unfold endsE; rw [if_neg (fun h => by rcases h with e | e; rw [hno] at e; cases e; rw [hfo] at e; exact absurd e.1 (by decide))])
      have hro := hfo
      go_enter Tryz.func164, Tryz.ntmps164
      go_wp2_with fail
      have HR := Lib.hid (show Blk ((w.alloc (.cells #[.bool false, .int .i64 0, .int .i64 0] 77)).alloc (.cells #[.bool false, .int .i64 0, .int .i64 0] 77)) w.heap.size 77 #[.bool false, .int .i64 0, .int .i64 0] from (Blk.mk' _ _ _).alloc _)
      have HQ := Lib.hid (Blk.new (w.alloc (.cells #[.bool false, .int .i64 0, .int .i64 0] 77)) 77 #[.bool false, .int .i64 0, .int .i64 0] (w.heap.size + 1) (by simp))
      have HG := Lib.hid ((HB.out.alloc (.cells #[.bool false, .int .i64 0, .int .i64 0] 77)).alloc (.cells #[.bool false, .int .i64 0, .int .i64 0] 77))
      have HVW := Lib.hid ((by (repeat (any_goals (first | exact Below.refl _ _ | refine below_drewN ?_ _ | refine Below.drew ?_ | refine Below.alloc ?_ ?_ _ | refine Below.setCell ?_ ?_ _))); all_goals (first | omega | (simp; done) | (simp; omega))) : Below w.heap.size w ((w.alloc (.cells #[.bool false, .int .i64 0, .int .i64 0] 77)).alloc (.cells #[.bool false, .int .i64 0, .int .i64 0] 77)))
      generalize ((w.alloc (.cells #[.bool false, .int .i64 0, .int .i64 0] 77)).alloc (.cells #[.bool false, .int .i64 0, .int .i64 0] 77)) = V at *
      have k0 : ∀ u : Wk V, u.1.cell? ⟨g, 0, none⟩ = some (.bool s.fr.op) := fun u => ((HG.out).next u.2).cell 0
      have k1 : ∀ u : Wk V, u.1.cell? ⟨g, 1, none⟩ = some (.int .i64 s.fr.n) := fun u => ((HG.out).next u.2).cell 1
      have k2 : ∀ u : Wk V, u.1.cell? ⟨g, 2, none⟩ = some (.int .i64 s.fr.d) := fun u => ((HG.out).next u.2).cell 2
      have k3 : ∀ u : Wk V, u.1.cell? ⟨g, 3, none⟩ = some (.bool s.to.op) := fun u => ((HG.out).next u.2).cell 3
      have k4 : ∀ u : Wk V, u.1.cell? ⟨g, 4, none⟩ = some (.int .i64 s.to.n) := fun u => ((HG.out).next u.2).cell 4
      have k5 : ∀ u : Wk V, u.1.cell? ⟨g, 5, none⟩ = some (.int .i64 s.to.d) := fun u => ((HG.out).next u.2).cell 5
      have k6 : ∀ u : Wk V, u.1.cell? ⟨g, 6, none⟩ = some (.bool s.no) := fun u => ((HG.out).next u.2).cell 6
      have f0 : ∀ u : Wk V, u.1.frozen? ⟨g, 0, none⟩ = false := fun u => ((HG.out).next u.2).frozen 0
      have f1 : ∀ u : Wk V, u.1.frozen? ⟨g, 1, none⟩ = false := fun u => ((HG.out).next u.2).frozen 1
      have f2 : ∀ u : Wk V, u.1.frozen? ⟨g, 2, none⟩ = false := fun u => ((HG.out).next u.2).frozen 2
      have f3 : ∀ u : Wk V, u.1.frozen? ⟨g, 3, none⟩ = false := fun u => ((HG.out).next u.2).frozen 3
      have f4 : ∀ u : Wk V, u.1.frozen? ⟨g, 4, none⟩ = false := fun u => ((HG.out).next u.2).frozen 4
      have f5 : ∀ u : Wk V, u.1.frozen? ⟨g, 5, none⟩ = false := fun u => ((HG.out).next u.2).frozen 5
      have f6 : ∀ u : Wk V, u.1.frozen? ⟨g, 6, none⟩ = false := fun u => ((HG.out).next u.2).frozen 6
      have r0 : ∀ u : Wk V, u.1.cell? ⟨w.heap.size, 0, none⟩ = some (.bool false) := fun u => ((HR.out).next u.2).cell 0
      have r1 : ∀ u : Wk V, u.1.cell? ⟨w.heap.size, 1, none⟩ = some (.int .i64 0) := fun u => ((HR.out).next u.2).cell 1
      have r2 : ∀ u : Wk V, u.1.cell? ⟨w.heap.size, 2, none⟩ = some (.int .i64 0) := fun u => ((HR.out).next u.2).cell 2
      have q0 : ∀ u : Wk V, u.1.cell? ⟨w.heap.size + 1, 0, none⟩ = some (.bool false) := fun u => ((HQ.out).next u.2).cell 0
      have q1 : ∀ u : Wk V, u.1.cell? ⟨w.heap.size + 1, 1, none⟩ = some (.int .i64 0) := fun u => ((HQ.out).next u.2).cell 1
      have q2 : ∀ u : Wk V, u.1.cell? ⟨w.heap.size + 1, 2, none⟩ = some (.int .i64 0) := fun u => ((HQ.out).next u.2).cell 2
      have rf0 : ∀ u : Wk V, u.1.frozen? ⟨w.heap.size, 0, none⟩ = false := fun u => ((HR.out).next u.2).frozen 0
      have rf1 : ∀ u : Wk V, u.1.frozen? ⟨w.heap.size, 1, none⟩ = false := fun u => ((HR.out).next u.2).frozen 1
      have rf2 : ∀ u : Wk V, u.1.frozen? ⟨w.heap.size, 2, none⟩ = false := fun u => ((HR.out).next u.2).frozen 2
      have qf0 : ∀ u : Wk V, u.1.frozen? ⟨w.heap.size + 1, 0, none⟩ = false := fun u => ((HQ.out).next u.2).frozen 0
      have qf1 : ∀ u : Wk V, u.1.frozen? ⟨w.heap.size + 1, 1, none⟩ = false := fun u => ((HQ.out).next u.2).frozen 1
      have qf2 : ∀ u : Wk V, u.1.frozen? ⟨w.heap.size + 1, 2, none⟩ = false := fun u => ((HQ.out).next u.2).frozen 2
      have zV := HVW.out.size
      rw [hno] at k6
      rw [hfo] at k0
      refine wk_region (by kernel_rfl) (by kernel_rfl) ?_
      repeat (go_big_quiet_step (fail))
      refine wpQuiet_nil ?_
      rintro w2 ⟨u2, rfl⟩
      have HV2 := Lib.hid (HVW.out.trans (u2.2.mono zV))
      go_wp2_with fail
      go_region
      all_goals go_wp2_with fail
      all_goals refine bodyPost_ret (v := .tuple #[.agg #[.bool s.fr.op, .int .i64 s.fr.n, .int .i64 s.fr.d], .agg #[.bool s.to.op, .int .i64 s.to.n, .int .i64 s.to.d], .int .i64 0]) ?_ ?_ ?_
      all_goals first
        | rfl
        | (simp [results, Tryz.results164, go_sem, r0, r1, r2, q0, q1, q2, hro]; done)
        | (rw [show endsF s = s.fr by unfold endsF; rw [if_pos HE.out], show endsT s = s.to by unfold endsT; rw [if_pos HE.out], HE.out]
           refine ⟨rfl, ?_⟩
           (try refine Below.drew ?_)
           iterate 6 refine Below.setCell ?_ (by first | (simp; done) | (simp; omega)) _
           first | exact HV2.out | exact HV2.out.drew)
        | skip
    · have hfo : s.fr.op = false := by simpa using hfo
      have hro := hfo
      by_cases hto : s.to.op = true
      · have HE := Lib.hid (show endsE s = 0 by unfold endsE; rw [if_neg (fun h => by rcases h with e | e; rw [hno] at e; cases e; rw [hto] at e; exact absurd e.2.1 (by decide))])
        go_enter Tryz.func164, Tryz.ntmps164
        go_wp2_with fail
        have HR := Lib.hid (show Blk ((w.alloc (.cells #[.bool false, .int .i64 0, .int .i64 0] 77)).alloc (.cells #[.bool false, .int .i64 0, .int .i64 0] 77)) w.heap.size 77 #[.bool false, .int .i64 0, .int .i64 0] from (Blk.mk' _ _ _).alloc _)
        have HQ := Lib.hid (Blk.new (w.alloc (.cells #[.bool false, .int .i64 0, .int .i64 0] 77)) 77 #[.bool false, .int .i64 0, .int .i64 0] (w.heap.size + 1) (by simp))
        have HG := Lib.hid ((HB.out.alloc (.cells #[.bool false, .int .i64 0, .int .i64 0] 77)).alloc (.cells #[.bool false, .int .i64 0, .int .i64 0] 77))
        have HVW := Lib.hid ((by (repeat (any_goals (first | exact Below.refl _ _ | refine below_drewN ?_ _ | refine Below.drew ?_ | refine Below.alloc ?_ ?_ _ | refine Below.setCell ?_ ?_ _))); all_goals (first | omega | (simp; done) | (simp; omega))) : Below w.heap.size w ((w.alloc (.cells #[.bool false, .int .i64 0, .int .i64 0] 77)).alloc (.cells #[.bool false, .int .i64 0, .int .i64 0] 77)))
        generalize ((w.alloc (.cells #[.bool false, .int .i64 0, .int .i64 0] 77)).alloc (.cells #[.bool false, .int .i64 0, .int .i64 0] 77)) = V at *
        have k0 : ∀ u : Wk V, u.1.cell? ⟨g, 0, none⟩ = some (.bool s.fr.op) := fun u => ((HG.out).next u.2).cell 0
        have k1 : ∀ u : Wk V, u.1.cell? ⟨g, 1, none⟩ = some (.int .i64 s.fr.n) := fun u => ((HG.out).next u.2).cell 1
        have k2 : ∀ u : Wk V, u.1.cell? ⟨g, 2, none⟩ = some (.int .i64 s.fr.d) := fun u => ((HG.out).next u.2).cell 2
        have k3 : ∀ u : Wk V, u.1.cell? ⟨g, 3, none⟩ = some (.bool s.to.op) := fun u => ((HG.out).next u.2).cell 3
        have k4 : ∀ u : Wk V, u.1.cell? ⟨g, 4, none⟩ = some (.int .i64 s.to.n) := fun u => ((HG.out).next u.2).cell 4
        have k5 : ∀ u : Wk V, u.1.cell? ⟨g, 5, none⟩ = some (.int .i64 s.to.d) := fun u => ((HG.out).next u.2).cell 5
        have k6 : ∀ u : Wk V, u.1.cell? ⟨g, 6, none⟩ = some (.bool s.no) := fun u => ((HG.out).next u.2).cell 6
        have f0 : ∀ u : Wk V, u.1.frozen? ⟨g, 0, none⟩ = false := fun u => ((HG.out).next u.2).frozen 0
        have f1 : ∀ u : Wk V, u.1.frozen? ⟨g, 1, none⟩ = false := fun u => ((HG.out).next u.2).frozen 1
        have f2 : ∀ u : Wk V, u.1.frozen? ⟨g, 2, none⟩ = false := fun u => ((HG.out).next u.2).frozen 2
        have f3 : ∀ u : Wk V, u.1.frozen? ⟨g, 3, none⟩ = false := fun u => ((HG.out).next u.2).frozen 3
        have f4 : ∀ u : Wk V, u.1.frozen? ⟨g, 4, none⟩ = false := fun u => ((HG.out).next u.2).frozen 4
        have f5 : ∀ u : Wk V, u.1.frozen? ⟨g, 5, none⟩ = false := fun u => ((HG.out).next u.2).frozen 5
        have f6 : ∀ u : Wk V, u.1.frozen? ⟨g, 6, none⟩ = false := fun u => ((HG.out).next u.2).frozen 6
        have r0 : ∀ u : Wk V, u.1.cell? ⟨w.heap.size, 0, none⟩ = some (.bool false) := fun u => ((HR.out).next u.2).cell 0
        have r1 : ∀ u : Wk V, u.1.cell? ⟨w.heap.size, 1, none⟩ = some (.int .i64 0) := fun u => ((HR.out).next u.2).cell 1
        have r2 : ∀ u : Wk V, u.1.cell? ⟨w.heap.size, 2, none⟩ = some (.int .i64 0) := fun u => ((HR.out).next u.2).cell 2
        have q0 : ∀ u : Wk V, u.1.cell? ⟨w.heap.size + 1, 0, none⟩ = some (.bool false) := fun u => ((HQ.out).next u.2).cell 0
        have q1 : ∀ u : Wk V, u.1.cell? ⟨w.heap.size + 1, 1, none⟩ = some (.int .i64 0) := fun u => ((HQ.out).next u.2).cell 1
        have q2 : ∀ u : Wk V, u.1.cell? ⟨w.heap.size + 1, 2, none⟩ = some (.int .i64 0) := fun u => ((HQ.out).next u.2).cell 2
        have rf0 : ∀ u : Wk V, u.1.frozen? ⟨w.heap.size, 0, none⟩ = false := fun u => ((HR.out).next u.2).frozen 0
        have rf1 : ∀ u : Wk V, u.1.frozen? ⟨w.heap.size, 1, none⟩ = false := fun u => ((HR.out).next u.2).frozen 1
        have rf2 : ∀ u : Wk V, u.1.frozen? ⟨w.heap.size, 2, none⟩ = false := fun u => ((HR.out).next u.2).frozen 2
        have qf0 : ∀ u : Wk V, u.1.frozen? ⟨w.heap.size + 1, 0, none⟩ = false := fun u => ((HQ.out).next u.2).frozen 0
        have qf1 : ∀ u : Wk V, u.1.frozen? ⟨w.heap.size + 1, 1, none⟩ = false := fun u => ((HQ.out).next u.2).frozen 1
        have qf2 : ∀ u : Wk V, u.1.frozen? ⟨w.heap.size + 1, 2, none⟩ = false := fun u => ((HQ.out).next u.2).frozen 2
        have zV := HVW.out.size
        rw [hno] at k6
        rw [hfo] at k0
        rw [hto] at k3
        refine wk_region (by kernel_rfl) (by kernel_rfl) ?_
        repeat (go_big_quiet_step (fail))
        refine wpQuiet_nil ?_
        rintro w2 ⟨u2, rfl⟩
        have HV2 := Lib.hid (HVW.out.trans (u2.2.mono zV))
        go_wp2_with fail
        go_region
        all_goals go_wp2_with fail
        all_goals refine bodyPost_ret (v := .tuple #[.agg #[.bool s.fr.op, .int .i64 s.fr.n, .int .i64 s.fr.d], .agg #[.bool s.to.op, .int .i64 s.to.n, .int .i64 s.to.d], .int .i64 0]) ?_ ?_ ?_
        all_goals first
          | rfl
          | (simp [results, Tryz.results164, go_sem, r0, r1, r2, q0, q1, q2, hro, hto]; done)
          | (rw [show endsF s = s.fr by unfold endsF; rw [if_pos HE.out], show endsT s = s.to by unfold endsT; rw [if_pos HE.out], HE.out]
             refine ⟨rfl, ?_⟩
             (try refine Below.drew ?_)
             iterate 6 refine Below.setCell ?_ (by first | (simp; done) | (simp; omega)) _
             first | exact HV2.out | exact HV2.out.drew)
          | skip
      · have hto : s.to.op = false := by simpa using hto
        by_cases hl : lessB s.to.n s.to.d s.fr.n s.fr.d = true
        · have HE := Lib.hid (show endsE s = 4 by unfold endsE; rw [if_pos (.inr ⟨hfo, hto, hl⟩)])
          have HC := Lib.hid (show ∀ w, Calls Tryz.prog 62 #[.agg #[.int .i64 s.to.n, .int .i64 s.to.d], .agg #[.int .i64 s.fr.n, .int .i64 s.fr.d]] w fun e w' => e = .returned (.bool true) ∧ Below w.heap.size w w' from fun w => by rw [← hl]; exact frac_Less _ _ _ _ w)
          clear hl
          go_enter Tryz.func164, Tryz.ntmps164
          go_wp2_with fail
          have HR := Lib.hid (show Blk ((w.alloc (.cells #[.bool false, .int .i64 0, .int .i64 0] 77)).alloc (.cells #[.bool false, .int .i64 0, .int .i64 0] 77)) w.heap.size 77 #[.bool false, .int .i64 0, .int .i64 0] from (Blk.mk' _ _ _).alloc _)
          have HQ := Lib.hid (Blk.new (w.alloc (.cells #[.bool false, .int .i64 0, .int .i64 0] 77)) 77 #[.bool false, .int .i64 0, .int .i64 0] (w.heap.size + 1) (by simp))
          have HG := Lib.hid ((HB.out.alloc (.cells #[.bool false, .int .i64 0, .int .i64 0] 77)).alloc (.cells #[.bool false, .int .i64 0, .int .i64 0] 77))
          have HVW := Lib.hid ((by (repeat (any_goals (first | exact Below.refl _ _ | refine below_drewN ?_ _ | refine Below.drew ?_ | refine Below.alloc ?_ ?_ _ | refine Below.setCell ?_ ?_ _))); all_goals (first | omega | (simp; done) | (simp; omega))) : Below w.heap.size w ((w.alloc (.cells #[.bool false, .int .i64 0, .int .i64 0] 77)).alloc (.cells #[.bool false, .int .i64 0, .int .i64 0] 77)))
          generalize ((w.alloc (.cells #[.bool false, .int .i64 0, .int .i64 0] 77)).alloc (.cells #[.bool false, .int .i64 0, .int .i64 0] 77)) = V at *
          have k0 : ∀ u : Wk V, u.1.cell? ⟨g, 0, none⟩ = some (.bool s.fr.op) := fun u => ((HG.out).next u.2).cell 0
          have k1 : ∀ u : Wk V, u.1.cell? ⟨g, 1, none⟩ = some (.int .i64 s.fr.n) := fun u => ((HG.out).next u.2).cell 1
          have k2 : ∀ u : Wk V, u.1.cell? ⟨g, 2, none⟩ = some (.int .i64 s.fr.d) := fun u => ((HG.out).next u.2).cell 2
          have k3 : ∀ u : Wk V, u.1.cell? ⟨g, 3, none⟩ = some (.bool s.to.op) := fun u => ((HG.out).next u.2).cell 3
          have k4 : ∀ u : Wk V, u.1.cell? ⟨g, 4, none⟩ = some (.int .i64 s.to.n) := fun u => ((HG.out).next u.2).cell 4
          have k5 : ∀ u : Wk V, u.1.cell? ⟨g, 5, none⟩ = some (.int .i64 s.to.d) := fun u => ((HG.out).next u.2).cell 5
          have k6 : ∀ u : Wk V, u.1.cell? ⟨g, 6, none⟩ = some (.bool s.no) := fun u => ((HG.out).next u.2).cell 6
          have f0 : ∀ u : Wk V, u.1.frozen? ⟨g, 0, none⟩ = false := fun u => ((HG.out).next u.2).frozen 0
          have f1 : ∀ u : Wk V, u.1.frozen? ⟨g, 1, none⟩ = false := fun u => ((HG.out).next u.2).frozen 1
          have f2 : ∀ u : Wk V, u.1.frozen? ⟨g, 2, none⟩ = false := fun u => ((HG.out).next u.2).frozen 2
          have f3 : ∀ u : Wk V, u.1.frozen? ⟨g, 3, none⟩ = false := fun u => ((HG.out).next u.2).frozen 3
          have f4 : ∀ u : Wk V, u.1.frozen? ⟨g, 4, none⟩ = false := fun u => ((HG.out).next u.2).frozen 4
          have f5 : ∀ u : Wk V, u.1.frozen? ⟨g, 5, none⟩ = false := fun u => ((HG.out).next u.2).frozen 5
          have f6 : ∀ u : Wk V, u.1.frozen? ⟨g, 6, none⟩ = false := fun u => ((HG.out).next u.2).frozen 6
          have r0 : ∀ u : Wk V, u.1.cell? ⟨w.heap.size, 0, none⟩ = some (.bool false) := fun u => ((HR.out).next u.2).cell 0
          have r1 : ∀ u : Wk V, u.1.cell? ⟨w.heap.size, 1, none⟩ = some (.int .i64 0) := fun u => ((HR.out).next u.2).cell 1
          have r2 : ∀ u : Wk V, u.1.cell? ⟨w.heap.size, 2, none⟩ = some (.int .i64 0) := fun u => ((HR.out).next u.2).cell 2
          have q0 : ∀ u : Wk V, u.1.cell? ⟨w.heap.size + 1, 0, none⟩ = some (.bool false) := fun u => ((HQ.out).next u.2).cell 0
          have q1 : ∀ u : Wk V, u.1.cell? ⟨w.heap.size + 1, 1, none⟩ = some (.int .i64 0) := fun u => ((HQ.out).next u.2).cell 1
          have q2 : ∀ u : Wk V, u.1.cell? ⟨w.heap.size + 1, 2, none⟩ = some (.int .i64 0) := fun u => ((HQ.out).next u.2).cell 2
          have rf0 : ∀ u : Wk V, u.1.frozen? ⟨w.heap.size, 0, none⟩ = false := fun u => ((HR.out).next u.2).frozen 0
          have rf1 : ∀ u : Wk V, u.1.frozen? ⟨w.heap.size, 1, none⟩ = false := fun u => ((HR.out).next u.2).frozen 1
          have rf2 : ∀ u : Wk V, u.1.frozen? ⟨w.heap.size, 2, none⟩ = false := fun u => ((HR.out).next u.2).frozen 2
          have qf0 : ∀ u : Wk V, u.1.frozen? ⟨w.heap.size + 1, 0, none⟩ = false := fun u => ((HQ.out).next u.2).frozen 0
          have qf1 : ∀ u : Wk V, u.1.frozen? ⟨w.heap.size + 1, 1, none⟩ = false := fun u => ((HQ.out).next u.2).frozen 1
          have qf2 : ∀ u : Wk V, u.1.frozen? ⟨w.heap.size + 1, 2, none⟩ = false := fun u => ((HQ.out).next u.2).frozen 2
          have zV := HVW.out.size
          rw [hno] at k6
          rw [hfo] at k0
          rw [hto] at k3
          refine wk_region (by kernel_rfl) (by kernel_rfl) ?_
          repeat (go_big_quiet_step ((go_at_call 62; with_reducible exact wk_call (HC.out _))))
          refine wpQuiet_nil ?_
          rintro w2 ⟨u2, rfl⟩
          have HV2 := Lib.hid (HVW.out.trans (u2.2.mono zV))
          go_wp2_with fail
          refine bodyPost_ret (v := .tuple #[.agg #[.bool false, .int .i64 0, .int .i64 0], .agg #[.bool false, .int .i64 0, .int .i64 0], .int .i64 4]) ?_ ?_ ?_
          · simp [results, Tryz.results164, go_sem, r0, r1, r2, q0, q1, q2]
          · rfl
          · rw [show endsF s = zeroE by unfold endsF; rw [if_neg (by rw [HE.out]; decide)], show endsT s = zeroE by unfold endsT; rw [if_neg (by rw [HE.out]; decide)], HE.out]
            refine ⟨rfl, ?_⟩
            iterate 6 refine Below.setCell ?_ (by first | (simp; done) | (simp; omega)) _
            exact HV2.out
        · have hl : lessB s.to.n s.to.d s.fr.n s.fr.d = false := by simpa using hl
          have HE := Lib.hid (show endsE s = 0 by unfold endsE; rw [if_neg (fun h => by rcases h with e | e; rw [hno] at e; cases e; rw [hl] at e; exact absurd e.2.2 (by decide))])
          have HC := Lib.hid (show ∀ w, Calls Tryz.prog 62 #[.agg #[.int .i64 s.to.n, .int .i64 s.to.d], .agg #[.int .i64 s.fr.n, .int .i64 s.fr.d]] w fun e w' => e = .returned (.bool false) ∧ Below w.heap.size w w' from fun w => by rw [← hl]; exact frac_Less _ _ _ _ w)
          clear hl
          go_enter Tryz.func164, Tryz.ntmps164
          go_wp2_with fail
          have HR := Lib.hid (show Blk ((w.alloc (.cells #[.bool false, .int .i64 0, .int .i64 0] 77)).alloc (.cells #[.bool false, .int .i64 0, .int .i64 0] 77)) w.heap.size 77 #[.bool false, .int .i64 0, .int .i64 0] from (Blk.mk' _ _ _).alloc _)
          have HQ := Lib.hid (Blk.new (w.alloc (.cells #[.bool false, .int .i64 0, .int .i64 0] 77)) 77 #[.bool false, .int .i64 0, .int .i64 0] (w.heap.size + 1) (by simp))
          have HG := Lib.hid ((HB.out.alloc (.cells #[.bool false, .int .i64 0, .int .i64 0] 77)).alloc (.cells #[.bool false, .int .i64 0, .int .i64 0] 77))
          have HVW := Lib.hid ((by (repeat (any_goals (first | exact Below.refl _ _ | refine below_drewN ?_ _ | refine Below.drew ?_ | refine Below.alloc ?_ ?_ _ | refine Below.setCell ?_ ?_ _))); all_goals (first | omega | (simp; done) | (simp; omega))) : Below w.heap.size w ((w.alloc (.cells #[.bool false, .int .i64 0, .int .i64 0] 77)).alloc (.cells #[.bool false, .int .i64 0, .int .i64 0] 77)))
          generalize ((w.alloc (.cells #[.bool false, .int .i64 0, .int .i64 0] 77)).alloc (.cells #[.bool false, .int .i64 0, .int .i64 0] 77)) = V at *
          have k0 : ∀ u : Wk V, u.1.cell? ⟨g, 0, none⟩ = some (.bool s.fr.op) := fun u => ((HG.out).next u.2).cell 0
          have k1 : ∀ u : Wk V, u.1.cell? ⟨g, 1, none⟩ = some (.int .i64 s.fr.n) := fun u => ((HG.out).next u.2).cell 1
          have k2 : ∀ u : Wk V, u.1.cell? ⟨g, 2, none⟩ = some (.int .i64 s.fr.d) := fun u => ((HG.out).next u.2).cell 2
          have k3 : ∀ u : Wk V, u.1.cell? ⟨g, 3, none⟩ = some (.bool s.to.op) := fun u => ((HG.out).next u.2).cell 3
          have k4 : ∀ u : Wk V, u.1.cell? ⟨g, 4, none⟩ = some (.int .i64 s.to.n) := fun u => ((HG.out).next u.2).cell 4
          have k5 : ∀ u : Wk V, u.1.cell? ⟨g, 5, none⟩ = some (.int .i64 s.to.d) := fun u => ((HG.out).next u.2).cell 5
          have k6 : ∀ u : Wk V, u.1.cell? ⟨g, 6, none⟩ = some (.bool s.no) := fun u => ((HG.out).next u.2).cell 6
          have f0 : ∀ u : Wk V, u.1.frozen? ⟨g, 0, none⟩ = false := fun u => ((HG.out).next u.2).frozen 0
          have f1 : ∀ u : Wk V, u.1.frozen? ⟨g, 1, none⟩ = false := fun u => ((HG.out).next u.2).frozen 1
          have f2 : ∀ u : Wk V, u.1.frozen? ⟨g, 2, none⟩ = false := fun u => ((HG.out).next u.2).frozen 2
          have f3 : ∀ u : Wk V, u.1.frozen? ⟨g, 3, none⟩ = false := fun u => ((HG.out).next u.2).frozen 3
          have f4 : ∀ u : Wk V, u.1.frozen? ⟨g, 4, none⟩ = false := fun u => ((HG.out).next u.2).frozen 4
          have f5 : ∀ u : Wk V, u.1.frozen? ⟨g, 5, none⟩ = false := fun u => ((HG.out).next u.2).frozen 5
          have f6 : ∀ u : Wk V, u.1.frozen? ⟨g, 6, none⟩ = false := fun u => ((HG.out).next u.2).frozen 6
          have r0 : ∀ u : Wk V, u.1.cell? ⟨w.heap.size, 0, none⟩ = some (.bool false) := fun u => ((HR.out).next u.2).cell 0
          have r1 : ∀ u : Wk V, u.1.cell? ⟨w.heap.size, 1, none⟩ = some (.int .i64 0) := fun u => ((HR.out).next u.2).cell 1
          have r2 : ∀ u : Wk V, u.1.cell? ⟨w.heap.size, 2, none⟩ = some (.int .i64 0) := fun u => ((HR.out).next u.2).cell 2
          have q0 : ∀ u : Wk V, u.1.cell? ⟨w.heap.size + 1, 0, none⟩ = some (.bool false) := fun u => ((HQ.out).next u.2).cell 0
          have q1 : ∀ u : Wk V, u.1.cell? ⟨w.heap.size + 1, 1, none⟩ = some (.int .i64 0) := fun u => ((HQ.out).next u.2).cell 1
          have q2 : ∀ u : Wk V, u.1.cell? ⟨w.heap.size + 1, 2, none⟩ = some (.int .i64 0) := fun u => ((HQ.out).next u.2).cell 2
          have rf0 : ∀ u : Wk V, u.1.frozen? ⟨w.heap.size, 0, none⟩ = false := fun u => ((HR.out).next u.2).frozen 0
          have rf1 : ∀ u : Wk V, u.1.frozen? ⟨w.heap.size, 1, none⟩ = false := fun u => ((HR.out).next u.2).frozen 1
          have rf2 : ∀ u : Wk V, u.1.frozen? ⟨w.heap.size, 2, none⟩ = false := fun u => ((HR.out).next u.2).frozen 2
          have qf0 : ∀ u : Wk V, u.1.frozen? ⟨w.heap.size + 1, 0, none⟩ = false := fun u => ((HQ.out).next u.2).frozen 0
          have qf1 : ∀ u : Wk V, u.1.frozen? ⟨w.heap.size + 1, 1, none⟩ = false := fun u => ((HQ.out).next u.2).frozen 1
          have qf2 : ∀ u : Wk V, u.1.frozen? ⟨w.heap.size + 1, 2, none⟩ = false := fun u => ((HQ.out).next u.2).frozen 2
          have zV := HVW.out.size
          rw [hno] at k6
          rw [hfo] at k0
          rw [hto] at k3
          refine wk_region (by kernel_rfl) (by kernel_rfl) ?_
          repeat (go_big_quiet_step ((go_at_call 62; with_reducible exact wk_call (HC.out _))))
          refine wpQuiet_nil ?_
          rintro w2 ⟨u2, rfl⟩
          have HV2 := Lib.hid (HVW.out.trans (u2.2.mono zV))
          go_wp2_with fail
          go_region
          all_goals go_wp2_with fail
          all_goals refine bodyPost_ret (v := .tuple #[.agg #[.bool s.fr.op, .int .i64 s.fr.n, .int .i64 s.fr.d], .agg #[.bool s.to.op, .int .i64 s.to.n, .int .i64 s.to.d], .int .i64 0]) ?_ ?_ ?_
          all_goals first
            | rfl
            | (simp [results, Tryz.results164, go_sem, r0, r1, r2, q0, q1, q2, hro, hto]; done)
            | (rw [show endsF s = s.fr by unfold endsF; rw [if_pos HE.out], show endsT s = s.to by unfold endsT; rw [if_pos HE.out], HE.out]
               refine ⟨rfl, ?_⟩
               (try refine Below.drew ?_)
               iterate 6 refine Below.setCell ?_ (by first | (simp; done) | (simp; omega)) _
               first | exact HV2.out | exact HV2.out.drew)
            | skip
end Go.Proofs.YtjcdkbalhleeeaaGreatDoor
