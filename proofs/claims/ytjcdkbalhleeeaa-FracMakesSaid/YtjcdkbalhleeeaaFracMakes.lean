/-
  The walk of the law FracMakes: it returns true. No condition.
-/
import Derived.Test.YtjcdkbalhleeeaaFrac3
import Derived.Test.YtjcdkbalhleeeaaFracL
namespace Go.Proofs.Ytjcdkbalhleeeaa
open Go.RowKit

theorem fracMakes_walk (n d : Int) (hn : -2147483648 ≤ n ∧ n ≤ 2147483647) (hd : -2147483648 ≤ d ∧ d ≤ 2147483647) (w : World) :
    Calls Try.prog 3 #[.int .i32 n, .int .i32 d] w fun e w' => e = .returned (.bool true) ∧ Below w.heap.size w w' := by
  obtain ⟨hn1, hn2⟩ := hn
  obtain ⟨hd1, hd2⟩ := hd
  by_cases h0 : d = 0
  · subst h0
    have h3 : ∀ n, ptE [n] 0 = 3 := fun n => by simp [ptE]
    go_enter Try.func3, Try.ntmps3
    go_wp2_with fail
    refine (frac_Make _ _ _).mono ?_
    rintro e w1 ⟨rfl, hb1⟩
    rw [h3]
    have HB1 := Lib.hid hb1
    clear hb1
    go_wp2_with fail
    refine (frac_Make _ _ _).mono ?_
    rintro e w2 ⟨rfl, hb2⟩
    rw [h3]
    have HB2 := Lib.hid hb2
    clear hb2
    go_wp2_with fail
    refine (frac_Make _ _ _).mono ?_
    rintro e w3 ⟨rfl, hb3⟩
    rw [h3]
    have HB3 := Lib.hid hb3
    clear hb3 h3
    go_wp2_with fail
    go_ret
    exact ⟨rfl, (by (repeat (any_goals (first | exact Below.refl _ _ | exact HB1.out | exact HB2.out | exact HB3.out | refine below_drewN ?_ _ | refine Below.drew ?_ | refine Below.alloc ?_ ?_ _ | refine Below.setCell ?_ ?_ _ | refine Below.trans ?_ (Below.mono HB1.out ?_) | refine Below.trans ?_ (Below.mono HB2.out ?_) | refine Below.trans ?_ (Below.mono HB3.out ?_)))); all_goals (first | omega | (simp; done) | (simp; omega) | (have z0 := HB1.out.size; (try simp at z0); have z1 := HB2.out.size; (try simp at z1); have z2 := HB3.out.size; (try simp at z2); (try simp); omega)))⟩
  · have S2 := same_two (n := n) h0 (by omega) (by omega)
    have S3 := same_neg (n := n) h0 (by omega) (by omega)
    have hd0 : (d == 0) = false := by simpa using h0
    by_cases he : ptE [n] d = 0
    · obtain ⟨g1, g2, g3, g4, g5, g6⟩ := frac_good (n := n) h0 he
      obtain ⟨hm1, hm2⟩ := mul_bound (frN n d) d 1073741824 2147483648 (by omega) (by omega) (by omega) (by omega)
      have hm3 : -2305843009213693952 ≤ n * ptD [n] d := by omega
      have hm4 : n * ptD [n] d ≤ 2305843009213693952 := by omega
      have G1 := Lib.hid g1
      have G3 := Lib.hid g3
      have HE := Lib.hid he
      have H2 := Lib.hid S2
      have H3 := Lib.hid S3
      have hq : (frN n d * d == n * ptD [n] d) = true := by simpa using g1
      generalize hN : frN n d = N at *
      generalize hD : ptD [n] d = D at *
      clear g1 g3 he S2 S3
      go_enter Try.func3, Try.ntmps3
      go_wp2_with fail
      refine (frac_Make _ _ _).mono ?_
      rintro e w1 ⟨rfl, hb1⟩
      rw [HE.out]
      have HB1 := Lib.hid hb1
      clear hb1
      go_wp2_with fail
      refine (frac_Make _ _ _).mono ?_
      rintro e w2 ⟨rfl, hb2⟩
      rw [H2.out.he, H2.out.hn, H2.out.hd, HE.out]
      have HV1 := Lib.hid ((Blk.new w1 23 #[.int .i64 N, .int .i64 D] _ rfl).below hb2 (by simp))
      have HB2 := Lib.hid hb2
      clear hb2
      go_wp2_with fail
      refine (frac_Make _ _ _).mono ?_
      rintro e w3 ⟨rfl, hb3⟩
      rw [H3.out.he, H3.out.hn, H3.out.hd, HE.out]
      have hV2 := ((Blk.new w2 23 #[.int .i64 N, .int .i64 D] _ rfl).below hb3 (by simp))
      have hV1 := (HV1.out.alloc _).below hb3 (HV1.out.alloc _).lt
      have ha0 : w3.cell? ⟨w1.heap.size, 0, none⟩ = some (.int .i64 N) := hV1.cell 0
      have ha1 : w3.cell? ⟨w1.heap.size, 1, none⟩ = some (.int .i64 D) := hV1.cell 1
      have hc0 : w3.cell? ⟨w2.heap.size, 0, none⟩ = some (.int .i64 N) := hV2.cell 0
      have hc1 : w3.cell? ⟨w2.heap.size, 1, none⟩ = some (.int .i64 D) := hV2.cell 1
      have hl1 := hV1.lt
      have hl2 := hV2.lt
      have HB3 := Lib.hid hb3
      clear hb3 hV1 hV2
      go_wp2_with fail
      refine (frac_May _ _ _).mono ?_
      rintro e w4 ⟨rfl, hb4⟩
      rw [G3.out]
      have HB4 := Lib.hid hb4
      clear hb4
      go_wp2_with fail
      go_ret
      exact ⟨rfl, (by (repeat (any_goals (first | exact Below.refl _ _ | exact HB1.out | exact HB2.out | exact HB3.out | exact HB4.out | refine below_drewN ?_ _ | refine Below.drew ?_ | refine Below.alloc ?_ ?_ _ | refine Below.setCell ?_ ?_ _ | refine Below.trans ?_ (Below.mono HB1.out ?_) | refine Below.trans ?_ (Below.mono HB2.out ?_) | refine Below.trans ?_ (Below.mono HB3.out ?_) | refine Below.trans ?_ (Below.mono HB4.out ?_)))); all_goals (first | omega | (simp; done) | (simp; omega) | (have z0 := HB1.out.size; (try simp at z0); have z1 := HB2.out.size; (try simp at z1); have z2 := HB3.out.size; (try simp at z2); have z3 := HB4.out.size; (try simp at z3); (try simp); omega)))⟩
    · have he1 := ptE_one h0 (by omega) (by omega) he
      have HE := Lib.hid he1
      have H2 := Lib.hid S2
      have H3 := Lib.hid S3
      clear he S2 S3 he1
      go_enter Try.func3, Try.ntmps3
      go_wp2_with fail
      refine (frac_Make _ _ _).mono ?_
      rintro e w1 ⟨rfl, hb1⟩
      rw [HE.out]
      have HB1 := Lib.hid hb1
      clear hb1
      go_wp2_with fail
      refine (frac_Make _ _ _).mono ?_
      rintro e w2 ⟨rfl, hb2⟩
      rw [H2.out.he, HE.out]
      have HB2 := Lib.hid hb2
      clear hb2
      go_wp2_with fail
      refine (frac_Make _ _ _).mono ?_
      rintro e w3 ⟨rfl, hb3⟩
      rw [H3.out.he, HE.out]
      have HB3 := Lib.hid hb3
      clear hb3
      go_wp2_with fail
      go_ret
      exact ⟨rfl, (by (repeat (any_goals (first | exact Below.refl _ _ | exact HB1.out | exact HB2.out | exact HB3.out | refine below_drewN ?_ _ | refine Below.drew ?_ | refine Below.alloc ?_ ?_ _ | refine Below.setCell ?_ ?_ _ | refine Below.trans ?_ (Below.mono HB1.out ?_) | refine Below.trans ?_ (Below.mono HB2.out ?_) | refine Below.trans ?_ (Below.mono HB3.out ?_)))); all_goals (first | omega | (simp; done) | (simp; omega) | (have z0 := HB1.out.size; (try simp at z0); have z1 := HB2.out.size; (try simp at z1); have z2 := HB3.out.size; (try simp at z2); (try simp); omega)))⟩
end Go.Proofs.Ytjcdkbalhleeeaa
