/-
  A program and an answer that the laws know: that it holds, and how both lie in memory.
-/
import Derived.Test.YtjcdkbalhleeeaaPrf6
import Derived.Test.YtjcdkbalhleeeaaPrfL
namespace Go.Proofs.Ytjcdkbalhleeeaa
open Go.RowKit

def onePG : PG := ⟨[0], [([0], 0)]⟩
def knownAN : AN := ⟨1, [0], 1, [0], 1, [], 0, 0, 1⟩
theorem holds_one : holdsB onePG knownAN = true := by decide +kernel
theorem Rw.one {w : World} {b b2 : Nat} {n z : Int} (h0 : w.cell? ⟨b, 0, none⟩ = some (.slice (some ⟨b2, 0, none⟩) 1 1)) (h1 : w.cell? ⟨b, 1, none⟩ = some (.int .i64 z)) (hr : Rd w (some ⟨b2, 0, none⟩) 1 [n]) : Rw w (some ⟨b, 0, none⟩) 1 [([n], z)] := by
  refine ⟨by simp, by omega, by simp, fun _ => ⟨_, rfl, fun j hj => ?_⟩⟩
  obtain rfl : j = 0 := by simpa using hj
  exact ⟨_, _, h0, h1, hr⟩
theorem known_holds (U : World) :
    Calls Try.prog 33 #[.agg #[.slice (some ⟨U.heap.size, 0, none⟩) 1 1, .slice (some ⟨U.heap.size + 1 + 1, 0, none⟩) 1 1],
      .agg #[.int .i64 1, .slice (some ⟨U.heap.size + 1 + 1 + 1 + 1, 0, none⟩) 1 1, .int .i64 1, .slice (some ⟨U.heap.size + 1 + 1 + 1 + 1 + 1, 0, none⟩) 1 1, .int .i64 1, .slice none 0 0, .int .i64 0, .int .i64 0, .int .i64 1]]
      (((((((U.alloc (.cells #[.int .i64 0] 2)).alloc (.cells #[.int .i64 0] 2)).alloc (.cells #[.slice (some ⟨U.heap.size + 1, 0, none⟩) 1 1, .int .i64 0] 55)).alloc
        (.cells #[.slice (some ⟨U.heap.size, 0, none⟩) 1 1, .slice (some ⟨U.heap.size + 1 + 1, 0, none⟩) 1 1] 40)).alloc (.cells #[.int .i64 0] 2)).alloc (.cells #[.int .i64 0] 2)).alloc
        (.cells #[.int .i64 1, .slice (some ⟨U.heap.size + 1 + 1 + 1 + 1, 0, none⟩) 1 1, .int .i64 1, .slice (some ⟨U.heap.size + 1 + 1 + 1 + 1 + 1, 0, none⟩) 1 1, .int .i64 1, .slice none 0 0, .int .i64 0, .int .i64 0, .int .i64 1] 57))
      fun e w' => e = .returned (.bool true) ∧ Below U.heap.size U w' := by
  have key := proof_Holds (some ⟨U.heap.size, 0, none⟩) 1 (some ⟨U.heap.size + 1 + 1, 0, none⟩) 1 onePG (some ⟨U.heap.size + 1 + 1 + 1 + 1, 0, none⟩) 1 (some ⟨U.heap.size + 1 + 1 + 1 + 1 + 1, 0, none⟩) 1 none 0 knownAN
    (((((((U.alloc (.cells #[.int .i64 0] 2)).alloc (.cells #[.int .i64 0] 2)).alloc (.cells #[.slice (some ⟨U.heap.size + 1, 0, none⟩) 1 1, .int .i64 0] 55)).alloc
        (.cells #[.slice (some ⟨U.heap.size, 0, none⟩) 1 1, .slice (some ⟨U.heap.size + 1 + 1, 0, none⟩) 1 1] 40)).alloc (.cells #[.int .i64 0] 2)).alloc (.cells #[.int .i64 0] 2)).alloc
        (.cells #[.int .i64 1, .slice (some ⟨U.heap.size + 1 + 1 + 1 + 1, 0, none⟩) 1 1, .int .i64 1, .slice (some ⟨U.heap.size + 1 + 1 + 1 + 1 + 1, 0, none⟩) 1 1, .int .i64 1, .slice none 0 0, .int .i64 0, .int .i64 0, .int .i64 1] 57))
    ⟨?_, ?_⟩ ⟨?_, ?_, ?_⟩
  · refine key.mono fun e w' ⟨he, hb⟩ => ⟨?_, ?_⟩
    · rw [he, holds_one]
    · exact (by (repeat (any_goals (first | exact Below.refl _ _ | exact hb | refine below_drewN ?_ _ | refine Below.drew ?_ | refine Below.alloc ?_ ?_ _ | refine Below.setCell ?_ ?_ _ | refine Below.trans ?_ (Below.mono hb ?_)))); all_goals (first | omega | (simp; done) | (simp; omega) | ((try have z0 := hb.size); (try simp at z0); (try simp); omega)))
  · exact ((((((Rd.new1 U _ 0 _ rfl).alloc _).alloc _).alloc _).alloc _).alloc _).alloc _
  · have hB := (((((Blk.new ((U.alloc (.cells #[.int .i64 0] 2)).alloc (.cells #[.int .i64 0] 2)) 55 #[.slice (some ⟨U.heap.size + 1, 0, none⟩) 1 1, .int .i64 0] (U.heap.size + 1 + 1) (by simp)).alloc
        (.cells #[.slice (some ⟨U.heap.size, 0, none⟩) 1 1, .slice (some ⟨U.heap.size + 1 + 1, 0, none⟩) 1 1] 40)).alloc (.cells #[.int .i64 0] 2)).alloc (.cells #[.int .i64 0] 2)).alloc
        (.cells #[.int .i64 1, .slice (some ⟨U.heap.size + 1 + 1 + 1 + 1, 0, none⟩) 1 1, .int .i64 1, .slice (some ⟨U.heap.size + 1 + 1 + 1 + 1 + 1, 0, none⟩) 1 1, .int .i64 1, .slice none 0 0, .int .i64 0, .int .i64 0, .int .i64 1] 57))
    exact Rw.one (hB.cell 0) (hB.cell 1) (((((((Rd.new1 (U.alloc (.cells #[.int .i64 0] 2)) _ 0 _ (by simp)).alloc _).alloc _).alloc _).alloc _).alloc _))
  · exact (((Rd.new1 _ _ 0 _ (by simp)).alloc _).alloc _)
  · exact ((Rd.new1 _ _ 0 _ (by simp)).alloc _)
  · exact Rd.nil _
theorem along_small {xs rs : List Int} {kk xd : Int} (hx : smallB 1073741824 xs = true) (hr : smallB 1000000 rs = true) (h1 : 0 ≤ kk) (h2 : kk ≤ 1000) (h3 : 0 ≤ xd) (h4 : xd ≤ 1000000) : smallB 1001073741824000 (along xs rs kk xd) = true := by
  rw [smallB_iff]
  intro n hn
  simp only [along, List.mem_map, List.mem_range] at hn
  obtain ⟨i, hi, rfl⟩ := hn
  have a1 := smallB_getDk (by omega) hx i
  have a2 := smallB_getDk (by omega) hr i
  have m1 := mul_bound kk (rs.getD i 0) 1000 1000000 (by omega) (by omega) (by omega) (by omega)
  have m2 := mul_bound (kk * rs.getD i 0) xd 1000000000 1000000 (by omega) (by omega) (by omega) (by omega)
  omega
where smallB_getDk {m : Int} {l : List Int} (hm : 0 ≤ m) (h : smallB m l = true) (j : Nat) : -m ≤ l.getD j 0 ∧ l.getD j 0 ≤ m := by
        by_cases hj : j < l.length
        · have := smallB_at h hj; simpa [List.getD, List.getElem?_eq_getElem hj] using this
        · simp [List.getD, List.getElem?_eq_none (Nat.le_of_not_lt hj)]; omega
theorem may_frac {n d : Int} (h : ptE [n] d = 0) : mayB [frN n d] (ptD [n] d) = true := by
  have hN : ptN [n] d = [frN n d] := by unfold frN ptN; rw [if_pos h]; simp [divs]
  have := mayB_pt h
  rwa [hN] at this
end Go.Proofs.Ytjcdkbalhleeeaa
