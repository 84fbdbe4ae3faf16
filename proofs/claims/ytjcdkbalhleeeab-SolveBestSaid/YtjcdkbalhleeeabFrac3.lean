/-
  Walks: frac.Make and Less compute what the plain words say. No condition on the numbers.
-/
import Derived.Test.YtjcdkbalhleeeabFrac2
namespace Go.Proofs.Ytjcdkbalhleeeab
open Go.RowKit

/-- A fraction and an error are handed back. -/
def RetFr (w : World) (n d er : Int) (e : Ending) (w' : World) : Prop :=
  e = .returned (.tuple #[.agg #[.int .i64 n, .int .i64 d], .int .i64 er]) ∧ Below w.heap.size w w'

theorem frac_Point1 (A : Option Addr) (n : Int) (c : Nat) (d : Int) (w : World) (hr : Rd w A c [n]) :
    Calls Try.prog 47 #[.slice A 1 c, .int .i64 d] w (RetPt w (ptN [n] d) (ptD [n] d) (ptE [n] d)) := frac_Point A [n] c d w hr

theorem frac_Make (n d : Int) (w : World) :
    Calls Try.prog 81 #[.int .i64 n, .int .i64 d] w (RetFr w (frN n d) (ptD [n] d) (ptE [n] d)) := by
  by_cases h0 : ptE [n] d = 0
  · have HE := Lib.hid h0
    have hN : ptN [n] d = [frN n d] := by
      unfold frN ptN; rw [if_pos h0]; simp [divs]
    have HN := Lib.hid hN
    clear h0 hN
    go_enter Try.func81, Try.ntmps81
    go_wp2_with fail
    refine (frac_Point1 _ _ _ _ _ (by exact Rd.new1 _ _ _ _ (by simp))).mono ?_
    rintro e w' ⟨A', c', rfl, hRd, hb, _⟩
    rw [HN.out, HE.out]
    rw [HN.out] at hRd
    obtain ⟨ad, rfl, hc0⟩ := hRd.at_ (k := 0) (by simp)
    have hc1 : w'.cell? ad = some (.int .i64 (frN n d)) := by simpa [Addr.add] using hc0
    have hc2 : ∀ o, (w'.alloc o).cell? ad = some (.int .i64 (frN n d)) := fun o => (World.cell?_alloc_lt w' o ad (World.block_lt_of_cell? _ _ hc1)).trans hc1
    have hV := ((Blk.new w 38 #[.int .i64 0, .int .i64 0] _ rfl).alloc (.cells #[.int .i64 n] 2)).below hb (by simp; omega)
    have hv0 : w'.cell? ⟨w.heap.size, 0, none⟩ = some (.int .i64 0) := hV.cell 0
    have hv1 : w'.cell? ⟨w.heap.size, 1, none⟩ = some (.int .i64 0) := hV.cell 1
    have hf0 := hV.frozen 0
    have hf1 := hV.frozen 1
    have hlt := hV.lt
    have HB := Lib.hid hb
    simp at hc0
    clear hb hRd hV
    go_wp2_with fail
    go_region
    go_wp2_with fail
    refine bodyPost_ret (v := .tuple #[.agg #[.int .i64 (frN n d), .int .i64 (ptD [n] d)], .int .i64 0]) (by simp [results, Try.results81, go_sem, hv0, hv1, hlt]) rfl ?_
    exact ⟨by rw [HE.out], (by (repeat (any_goals (first | exact Below.refl _ _ | exact HB.out | refine below_drewN ?_ _ | refine Below.drew ?_ | refine Below.alloc ?_ ?_ _ | refine Below.setCell ?_ ?_ _ | refine Below.trans ?_ (Below.mono HB.out ?_)))); all_goals (first | omega | (simp; done) | (simp; omega) | ((try have z0 := HB.out.size); (try simp at z0); (try simp); omega)))⟩
  · have HE := Lib.hid h0
    have hN : ptN [n] d = [] := by unfold ptN; rw [if_neg h0]
    have hD : ptD [n] d = 0 := by unfold ptD; rw [if_neg h0]
    have hF : frN n d = 0 := by unfold frN; rw [hN]; rfl
    rw [hD, hF]
    have HN := Lib.hid hN
    have HD := Lib.hid hD
    clear hN hD hF
    go_enter Try.func81, Try.ntmps81
    go_wp2_with fail
    refine (frac_Point1 _ _ _ _ _ (by exact Rd.new1 _ _ _ _ (by simp))).mono ?_
    rintro e w' ⟨A', c', rfl, hRd, hb, _⟩
    rw [HN.out, HD.out]
    have hV := ((Blk.new w 38 #[.int .i64 0, .int .i64 0] _ rfl).alloc (.cells #[.int .i64 n] 2)).below hb (by simp; omega)
    have hv0 : w'.cell? ⟨w.heap.size, 0, none⟩ = some (.int .i64 0) := hV.cell 0
    have hv1 : w'.cell? ⟨w.heap.size, 1, none⟩ = some (.int .i64 0) := hV.cell 1
    have hf0 := hV.frozen 0
    have hf1 := hV.frozen 1
    have hlt := hV.lt
    have HB := Lib.hid hb
    clear hb hRd hV
    go_wp2_with fail
    refine bodyPost_ret (v := .tuple #[.agg #[.int .i64 0, .int .i64 0], .int .i64 (ptE [n] d)]) (by simp [results, Try.results81, go_sem, hv0, hv1, hlt]) rfl ?_
    exact ⟨rfl, (by (repeat (any_goals (first | exact Below.refl _ _ | exact HB.out | refine below_drewN ?_ _ | refine Below.drew ?_ | refine Below.alloc ?_ ?_ _ | refine Below.setCell ?_ ?_ _ | refine Below.trans ?_ (Below.mono HB.out ?_)))); all_goals (first | omega | (simp; done) | (simp; omega) | ((try have z0 := HB.out.size); (try simp at z0); (try simp); omega)))⟩

theorem frac_Less (a b c d : Int) (w : World) :
    Calls Try.prog 30 #[.agg #[.int .i64 a, .int .i64 b], .agg #[.int .i64 c, .int .i64 d]] w fun e w' => e = .returned (.bool (lessB a b c d)) ∧ Below w.heap.size w w' := by
  cases h1 : mayB [a] b with
  | false =>
    have hv : lessB a b c d = false := by simp [lessB, h1]
    rw [hv]
    clear hv
    go_enter Try.func30, Try.ntmps30
    go_wp2_with fail
    refine (frac_May _ _ _).mono ?_
    rintro e w' ⟨rfl, hb⟩
    have HB := Lib.hid hb
    clear hb
    go_wp2_with fail
    go_ret
    exact ⟨rfl, (by (repeat (any_goals (first | exact Below.refl _ _ | exact HB.out | refine below_drewN ?_ _ | refine Below.drew ?_ | refine Below.alloc ?_ ?_ _ | refine Below.setCell ?_ ?_ _ | refine Below.trans ?_ (Below.mono HB.out ?_)))); all_goals (first | omega | (simp; done) | (simp; omega) | ((try have z0 := HB.out.size); (try simp at z0); (try simp); omega)))⟩
  | true =>
    cases h2 : mayB [c] d with
    | false =>
      have hv : lessB a b c d = false := by simp [lessB, h2]
      rw [hv]
      clear hv
      go_enter Try.func30, Try.ntmps30
      go_wp2_with fail
      refine (frac_May _ _ _).mono ?_
      rintro e w' ⟨rfl, hb⟩
      have hV := (Blk.new (w.alloc (.cells #[.int .i64 a, .int .i64 b] 38)) 38 #[.int .i64 c, .int .i64 d] (w.heap.size + 1) (by simp)).below hb (by simp)
      have hv0 : w'.cell? ⟨w.heap.size + 1, 0, none⟩ = some (.int .i64 c) := hV.cell 0
      have hv1 : w'.cell? ⟨w.heap.size + 1, 1, none⟩ = some (.int .i64 d) := hV.cell 1
      have HB := Lib.hid hb
      clear hb hV
      go_wp2_with fail
      refine (frac_May _ _ _).mono ?_
      rintro e w2 ⟨rfl, hb⟩
      have HB2 := Lib.hid hb
      clear hb
      go_wp2_with fail
      go_ret
      exact ⟨rfl, (by (repeat (any_goals (first | exact Below.refl _ _ | exact HB.out | exact HB2.out | refine below_drewN ?_ _ | refine Below.drew ?_ | refine Below.alloc ?_ ?_ _ | refine Below.setCell ?_ ?_ _ | refine Below.trans ?_ (Below.mono HB.out ?_) | refine Below.trans ?_ (Below.mono HB2.out ?_)))); all_goals (first | omega | (simp; done) | (simp; omega) | ((try have z0 := HB.out.size); (try simp at z0); (try have z1 := HB2.out.size); (try simp at z1); (try simp); omega)))⟩
    | true =>
      have ha : -1073741824 ≤ a ∧ a ≤ 1073741824 ∧ 1 ≤ b ∧ b ≤ 1073741824 := by
        simp [mayB, rightB, smallB] at h1; omega
      have hc : -1073741824 ≤ c ∧ c ≤ 1073741824 ∧ 1 ≤ d ∧ d ≤ 1073741824 := by
        simp [mayB, rightB, smallB] at h2; omega
      have hv : lessB a b c d = decide (a * d < c * b) := by simp [lessB, h1, h2]
      rw [hv]
      clear hv
      obtain ⟨hm1, hm2⟩ := mul_bound a d 1073741824 1073741824 (by omega) (by omega) (by omega) (by omega)
      obtain ⟨hm3, hm4⟩ := mul_bound c b 1073741824 1073741824 (by omega) (by omega) (by omega) (by omega)
      go_enter Try.func30, Try.ntmps30
      go_wp2_with fail
      refine (frac_May _ _ _).mono ?_
      rintro e w' ⟨rfl, hb⟩
      have hV := (Blk.new (w.alloc (.cells #[.int .i64 a, .int .i64 b] 38)) 38 #[.int .i64 c, .int .i64 d] (w.heap.size + 1) (by simp)).below hb (by simp)
      have hU := ((Blk.new w 38 #[.int .i64 a, .int .i64 b] _ rfl).alloc (.cells #[.int .i64 c, .int .i64 d] 38)).below hb (by simp; omega)
      have hv0 : w'.cell? ⟨w.heap.size + 1, 0, none⟩ = some (.int .i64 c) := hV.cell 0
      have hv1 : w'.cell? ⟨w.heap.size + 1, 1, none⟩ = some (.int .i64 d) := hV.cell 1
      have HB := Lib.hid hb
      have HV := Lib.hid hV
      have HU := Lib.hid hU
      clear hb hV hU
      go_wp2_with fail
      refine (frac_May _ _ _).mono ?_
      rintro e w2 ⟨rfl, hb⟩
      have hV := HV.out.below hb HV.out.lt
      have hU := HU.out.below hb HU.out.lt
      have hx0 : w2.cell? ⟨w.heap.size + 1, 0, none⟩ = some (.int .i64 c) := hV.cell 0
      have hx1 : w2.cell? ⟨w.heap.size + 1, 1, none⟩ = some (.int .i64 d) := hV.cell 1
      have hx2 : w2.cell? ⟨w.heap.size, 0, none⟩ = some (.int .i64 a) := hU.cell 0
      have hx3 : w2.cell? ⟨w.heap.size, 1, none⟩ = some (.int .i64 b) := hU.cell 1
      have HB2 := Lib.hid hb
      clear hb hV hU hv0 hv1
      go_wp2_with fail
      go_ret
      exact ⟨rfl, (by (repeat (any_goals (first | exact Below.refl _ _ | exact HB.out | exact HB2.out | refine below_drewN ?_ _ | refine Below.drew ?_ | refine Below.alloc ?_ ?_ _ | refine Below.setCell ?_ ?_ _ | refine Below.trans ?_ (Below.mono HB.out ?_) | refine Below.trans ?_ (Below.mono HB2.out ?_)))); all_goals (first | omega | (simp; done) | (simp; omega) | ((try have z0 := HB.out.size); (try simp at z0); (try have z1 := HB2.out.size); (try simp at z1); (try simp); omega)))⟩
end Go.Proofs.Ytjcdkbalhleeeab
