/-
  Contracts of functions and plain laws that later parts of the proof use. The conditions stand in each theorem.
-/
import Derived.Test.YtjcdkbalhleeeabG12
import Derived.Test.YtjcdkbalhleeeabG11
import Derived.Test.YtjcdkbalhleeeabG08
import Derived.Test.YtjcdkbalhleeeabG01
import Derived.Test.YtjcdkbalhleeeabG02
import Derived.Test.YtjcdkbalhleeeabG09
namespace Go.Proofs.Ytjcdkbalhleeeab
open Go.RowKit

/-- A corner and an error are handed back; nothing that was there has turned. -/
def RetCo (w : World) (c : CO) (er : Int) (e : Ending) (w' : World) : Prop :=
  ∃ X cx Y cy G cg, e = .returned (.tuple #[.agg #[.slice X c.xs.length cx, .int .i64 c.xd, .slice Y c.ys.length cy, .int .i64 c.yd, .slice G c.gs.length cg, .int .i64 c.gd], .int .i64 er]) ∧
    Rd w' X cx c.xs ∧ Rd w' Y cy c.ys ∧ Rd w' G cg c.gs ∧ Below w.heap.size w w'
theorem RetCo.none {w w' : World} (er : Int) (hb : Below w.heap.size w w') : RetCo w ⟨[], 0, [], 0, [], 0⟩ er (.returned (.tuple #[.agg #[.slice none 0 0, .int .i64 0, .slice none 0 0, .int .i64 0, .slice none 0 0, .int .i64 0], .int .i64 er])) w' :=
  ⟨Option.none, 0, Option.none, 0, Option.none, 0, rfl, Rd.nil _, Rd.nil _, Rd.nil _, hb⟩

set_option maxRecDepth 100000 in
set_option maxHeartbeats 500000 in
theorem look_form (A : Option Addr) (c : Nat) (A2 : Option Addr) (c2 : Nat) (p : PG) (L : Option Addr) (l : List Int) (cl : Nat) (w : World) (hp : Pg w A c A2 c2 p) (hr : Rd w L cl l) (hm : mayPB p = false) :
    Calls Try.prog 13 #[.agg #[.slice A p.costs.length c, .slice A2 p.rows.length c2], .slice L l.length cl] w (RetCo w ⟨[], 0, [], 0, [], 0⟩ 2) := by
  have HP := Lib.hid hp
  have HL := Lib.hid hr
  obtain ⟨⟨hl, hc, hsm, _⟩, ⟨hl2, hc2, hsm2, _⟩⟩ := hp
  obtain ⟨hll, hlc, hls, _⟩ := hr
  go_enter Try.func13, Try.ntmps13
  go_wp2_with fail
  go_quiet (fail)
  go_wp2_with fail
  refine (layout_May _ _ _ _ _ _ (by exact HP.out.below (by (repeat (any_goals (first | exact Below.refl _ _ | refine below_drewN ?_ _ | refine Below.drew ?_ | refine Below.alloc ?_ ?_ _ | refine Below.setCell ?_ ?_ _))); all_goals (first | omega | (simp; done) | (simp; omega))))).mono ?_
  rintro e w1 ⟨rfl, hb1⟩
  rw [hm]
  have Vr := Lib.hid (show Blk w1 (w.heap.size + 1) 42 #[.slice none 0 0, .int .i64 0, .slice none 0 0, .int .i64 0, .slice none 0 0, .int .i64 0] from Blk.next ((Blk.new _ _ _ _ (by simp)).drewN _) hb1)
  have Vp := Lib.hid (show Blk w1 w.heap.size 25 #[.slice A p.costs.length c, .slice A2 p.rows.length c2] from Blk.next (((Blk.mk' _ _ _).alloc _).drewN _) hb1)
  have HPw := Lib.hid (HP.out.hop (by (repeat (any_goals (first | exact Below.refl _ _ | refine below_drewN ?_ _ | refine Below.drew ?_ | refine Below.alloc ?_ ?_ _ | refine Below.setCell ?_ ?_ _))); all_goals (first | omega | (simp; done) | (simp; omega))) hb1)
  have HLw := Lib.hid (HL.out.hop (by (repeat (any_goals (first | exact Below.refl _ _ | refine below_drewN ?_ _ | refine Below.drew ?_ | refine Below.alloc ?_ ?_ _ | refine Below.setCell ?_ ?_ _))); all_goals (first | omega | (simp; done) | (simp; omega))) hb1)
  have HW1 := Lib.hid (show Below w.heap.size w w1 from (by (repeat (any_goals (first | exact Below.refl _ _ | exact hb1 | refine below_drewN ?_ _ | refine Below.drew ?_ | refine Below.alloc ?_ ?_ _ | refine Below.setCell ?_ ?_ _ | refine Below.trans ?_ (Below.mono hb1 ?_)))); all_goals (first | omega | (simp; done) | (simp; omega) | ((try have z0 := hb1.size); (try simp at z0); (try simp); omega))))
  have z1 := hb1.size
  (try simp only [World.size_alloc, World.size_drew, World.size_setCell, size_drewN'] at z1)
  have lVr := Vr.out.lt
  clear hb1
  have k0 : w1.cell? ⟨w.heap.size + 1, 0, none⟩ = some (.slice none 0 0) := Vr.out.cell 0
  have k1 : w1.cell? ⟨w.heap.size + 1, 1, none⟩ = some (.int .i64 0) := Vr.out.cell 1
  have k2 : w1.cell? ⟨w.heap.size + 1, 2, none⟩ = some (.slice none 0 0) := Vr.out.cell 2
  have k3 : w1.cell? ⟨w.heap.size + 1, 3, none⟩ = some (.int .i64 0) := Vr.out.cell 3
  have k4 : w1.cell? ⟨w.heap.size + 1, 4, none⟩ = some (.slice none 0 0) := Vr.out.cell 4
  have k5 : w1.cell? ⟨w.heap.size + 1, 5, none⟩ = some (.int .i64 0) := Vr.out.cell 5
  have f0 := Vr.out.frozen 0
  have f1 := Vr.out.frozen 1
  have f2 := Vr.out.frozen 2
  have f3 := Vr.out.frozen 3
  have f4 := Vr.out.frozen 4
  have f5 := Vr.out.frozen 5
  go_wp2_with fail
  refine bodyPost_ret (v := .tuple #[.agg #[.slice none 0 0, .int .i64 0, .slice none 0 0, .int .i64 0, .slice none 0 0, .int .i64 0], .int .i64 2]) ?_ ?_ ?_
  · simp [results, Try.results13, go_sem, k0, k1, k2, k3, k4, k5]
  · rfl
  · refine RetCo.none 2 ?_
    exact (((((HW1.out.setCell (Nat.le_succ _) _).setCell (Nat.le_succ _) _).setCell (Nat.le_succ _) _).setCell (Nat.le_succ _) _).setCell (Nat.le_succ _) _).setCell (Nat.le_succ _) _
set_option maxRecDepth 100000 in
set_option maxHeartbeats 500000 in
theorem look_len (A : Option Addr) (c : Nat) (A2 : Option Addr) (c2 : Nat) (p : PG) (L : Option Addr) (l : List Int) (cl : Nat) (w : World) (hp : Pg w A c A2 c2 p) (hr : Rd w L cl l) (hm : mayPB p = true) (hn : l.length ≠ p.rows.length) :
    Calls Try.prog 13 #[.agg #[.slice A p.costs.length c, .slice A2 p.rows.length c2], .slice L l.length cl] w (RetCo w ⟨[], 0, [], 0, [], 0⟩ 3) := by
  have hz : ((l.length : Int) != (p.rows.length : Int)) = true := by simp; omega
  have HP := Lib.hid hp
  have HL := Lib.hid hr
  obtain ⟨⟨hl, hc, hsm, _⟩, ⟨hl2, hc2, hsm2, _⟩⟩ := hp
  obtain ⟨hll, hlc, hls, _⟩ := hr
  go_enter Try.func13, Try.ntmps13
  go_wp2_with fail
  go_quiet (fail)
  go_wp2_with fail
  refine (layout_May _ _ _ _ _ _ (by exact HP.out.below (by (repeat (any_goals (first | exact Below.refl _ _ | refine below_drewN ?_ _ | refine Below.drew ?_ | refine Below.alloc ?_ ?_ _ | refine Below.setCell ?_ ?_ _))); all_goals (first | omega | (simp; done) | (simp; omega))))).mono ?_
  rintro e w1 ⟨rfl, hb1⟩
  rw [hm]
  have Vr := Lib.hid (show Blk w1 (w.heap.size + 1) 42 #[.slice none 0 0, .int .i64 0, .slice none 0 0, .int .i64 0, .slice none 0 0, .int .i64 0] from Blk.next ((Blk.new _ _ _ _ (by simp)).drewN _) hb1)
  have Vp := Lib.hid (show Blk w1 w.heap.size 25 #[.slice A p.costs.length c, .slice A2 p.rows.length c2] from Blk.next (((Blk.mk' _ _ _).alloc _).drewN _) hb1)
  have HPw := Lib.hid (HP.out.hop (by (repeat (any_goals (first | exact Below.refl _ _ | refine below_drewN ?_ _ | refine Below.drew ?_ | refine Below.alloc ?_ ?_ _ | refine Below.setCell ?_ ?_ _))); all_goals (first | omega | (simp; done) | (simp; omega))) hb1)
  have HLw := Lib.hid (HL.out.hop (by (repeat (any_goals (first | exact Below.refl _ _ | refine below_drewN ?_ _ | refine Below.drew ?_ | refine Below.alloc ?_ ?_ _ | refine Below.setCell ?_ ?_ _))); all_goals (first | omega | (simp; done) | (simp; omega))) hb1)
  have HW1 := Lib.hid (show Below w.heap.size w w1 from (by (repeat (any_goals (first | exact Below.refl _ _ | exact hb1 | refine below_drewN ?_ _ | refine Below.drew ?_ | refine Below.alloc ?_ ?_ _ | refine Below.setCell ?_ ?_ _ | refine Below.trans ?_ (Below.mono hb1 ?_)))); all_goals (first | omega | (simp; done) | (simp; omega) | ((try have z0 := hb1.size); (try simp at z0); (try simp); omega))))
  have z1 := hb1.size
  (try simp only [World.size_alloc, World.size_drew, World.size_setCell, size_drewN'] at z1)
  have lVr := Vr.out.lt
  clear hb1
  have k0 : w1.cell? ⟨w.heap.size + 1, 0, none⟩ = some (.slice none 0 0) := Vr.out.cell 0
  have k1 : w1.cell? ⟨w.heap.size + 1, 1, none⟩ = some (.int .i64 0) := Vr.out.cell 1
  have k2 : w1.cell? ⟨w.heap.size + 1, 2, none⟩ = some (.slice none 0 0) := Vr.out.cell 2
  have k3 : w1.cell? ⟨w.heap.size + 1, 3, none⟩ = some (.int .i64 0) := Vr.out.cell 3
  have k4 : w1.cell? ⟨w.heap.size + 1, 4, none⟩ = some (.slice none 0 0) := Vr.out.cell 4
  have k5 : w1.cell? ⟨w.heap.size + 1, 5, none⟩ = some (.int .i64 0) := Vr.out.cell 5
  have f0 := Vr.out.frozen 0
  have f1 := Vr.out.frozen 1
  have f2 := Vr.out.frozen 2
  have f3 := Vr.out.frozen 3
  have f4 := Vr.out.frozen 4
  have f5 := Vr.out.frozen 5
  go_wp2_with fail
  refine bodyPost_ret (v := .tuple #[.agg #[.slice none 0 0, .int .i64 0, .slice none 0 0, .int .i64 0, .slice none 0 0, .int .i64 0], .int .i64 3]) ?_ ?_ ?_
  · simp [results, Try.results13, go_sem, k0, k1, k2, k3, k4, k5]
  · rfl
  · refine RetCo.none 3 ?_
    exact (((((HW1.out.setCell (Nat.le_succ _) _).setCell (Nat.le_succ _) _).setCell (Nat.le_succ _) _).setCell (Nat.le_succ _) _).setCell (Nat.le_succ _) _).setCell (Nat.le_succ _) _
set_option maxRecDepth 100000 in
set_option maxHeartbeats 500000 in
theorem look_rise (A : Option Addr) (c : Nat) (A2 : Option Addr) (c2 : Nat) (p : PG) (L : Option Addr) (l : List Int) (cl : Nat) (w : World) (hp : Pg w A c A2 c2 p) (hr : Rd w L cl l) (hm : mayPB p = true) (hn : l.length = p.rows.length) (hri : risingB (-1) (p.costs.length + p.rows.length) l = false) :
    Calls Try.prog 13 #[.agg #[.slice A p.costs.length c, .slice A2 p.rows.length c2], .slice L l.length cl] w (RetCo w ⟨[], 0, [], 0, [], 0⟩ 3) := by
  have hz : ((l.length : Int) != (p.rows.length : Int)) = false := by simp; omega
  have HRI := Lib.hid hri
  have h4 := (mayPB_iff.1 hm).2.2.2.1
  have h4' := (mayPB_iff.1 hm).2.1
  clear hn hri
  have HP := Lib.hid hp
  have HL := Lib.hid hr
  obtain ⟨⟨hl, hc, hsm, _⟩, ⟨hl2, hc2, hsm2, _⟩⟩ := hp
  obtain ⟨hll, hlc, hls, _⟩ := hr
  go_enter Try.func13, Try.ntmps13
  go_wp2_with fail
  go_quiet (fail)
  go_wp2_with fail
  refine (layout_May _ _ _ _ _ _ (by exact HP.out.below (by (repeat (any_goals (first | exact Below.refl _ _ | refine below_drewN ?_ _ | refine Below.drew ?_ | refine Below.alloc ?_ ?_ _ | refine Below.setCell ?_ ?_ _))); all_goals (first | omega | (simp; done) | (simp; omega))))).mono ?_
  rintro e w1 ⟨rfl, hb1⟩
  rw [hm]
  have Vr := Lib.hid (show Blk w1 (w.heap.size + 1) 42 #[.slice none 0 0, .int .i64 0, .slice none 0 0, .int .i64 0, .slice none 0 0, .int .i64 0] from Blk.next ((Blk.new _ _ _ _ (by simp)).drewN _) hb1)
  have Vp := Lib.hid (show Blk w1 w.heap.size 25 #[.slice A p.costs.length c, .slice A2 p.rows.length c2] from Blk.next (((Blk.mk' _ _ _).alloc _).drewN _) hb1)
  have HPw := Lib.hid (HP.out.hop (by (repeat (any_goals (first | exact Below.refl _ _ | refine below_drewN ?_ _ | refine Below.drew ?_ | refine Below.alloc ?_ ?_ _ | refine Below.setCell ?_ ?_ _))); all_goals (first | omega | (simp; done) | (simp; omega))) hb1)
  have HLw := Lib.hid (HL.out.hop (by (repeat (any_goals (first | exact Below.refl _ _ | refine below_drewN ?_ _ | refine Below.drew ?_ | refine Below.alloc ?_ ?_ _ | refine Below.setCell ?_ ?_ _))); all_goals (first | omega | (simp; done) | (simp; omega))) hb1)
  have HW1 := Lib.hid (show Below w.heap.size w w1 from (by (repeat (any_goals (first | exact Below.refl _ _ | exact hb1 | refine below_drewN ?_ _ | refine Below.drew ?_ | refine Below.alloc ?_ ?_ _ | refine Below.setCell ?_ ?_ _ | refine Below.trans ?_ (Below.mono hb1 ?_)))); all_goals (first | omega | (simp; done) | (simp; omega) | ((try have z0 := hb1.size); (try simp at z0); (try simp); omega))))
  have z1 := hb1.size
  (try simp only [World.size_alloc, World.size_drew, World.size_setCell, size_drewN'] at z1)
  have lVr := Vr.out.lt
  clear hb1
  have k0 : w1.cell? ⟨w.heap.size + 1, 0, none⟩ = some (.slice none 0 0) := Vr.out.cell 0
  have k1 : w1.cell? ⟨w.heap.size + 1, 1, none⟩ = some (.int .i64 0) := Vr.out.cell 1
  have k2 : w1.cell? ⟨w.heap.size + 1, 2, none⟩ = some (.slice none 0 0) := Vr.out.cell 2
  have k3 : w1.cell? ⟨w.heap.size + 1, 3, none⟩ = some (.int .i64 0) := Vr.out.cell 3
  have k4 : w1.cell? ⟨w.heap.size + 1, 4, none⟩ = some (.slice none 0 0) := Vr.out.cell 4
  have k5 : w1.cell? ⟨w.heap.size + 1, 5, none⟩ = some (.int .i64 0) := Vr.out.cell 5
  have f0 := Vr.out.frozen 0
  have f1 := Vr.out.frozen 1
  have f2 := Vr.out.frozen 2
  have f3 := Vr.out.frozen 3
  have f4 := Vr.out.frozen 4
  have f5 := Vr.out.frozen 5
  go_wp2_with fail
  refine (show Calls Try.prog 43 #[.slice L l.length cl, .int .i64 ((p.costs.length : Int) + (p.rows.length : Int))] w1 fun e w' => e = .returned (.bool false) ∧ w' = w1 from by
    rw [← HRI.out, ← Int.natCast_add]; exact corner_rising _ _ _ _ _ HLw.out).mono ?_
  rintro e w2 ⟨rfl, rfl⟩
  go_wp2_with fail
  refine bodyPost_ret (v := .tuple #[.agg #[.slice none 0 0, .int .i64 0, .slice none 0 0, .int .i64 0, .slice none 0 0, .int .i64 0], .int .i64 3]) ?_ ?_ ?_
  · simp [results, Try.results13, go_sem, k0, k1, k2, k3, k4, k5]
  · rfl
  · refine RetCo.none 3 ?_
    exact (((((HW1.out.setCell (Nat.le_succ _) _).setCell (Nat.le_succ _) _).setCell (Nat.le_succ _) _).setCell (Nat.le_succ _) _).setCell (Nat.le_succ _) _).setCell (Nat.le_succ _) _
end Go.Proofs.Ytjcdkbalhleeeab

namespace Go.Proofs.Ytjcdkbalhleeeab
open Go.RowKit

section
variable {ops : Array Oper} {rest : List Oper} {o : Oper} {a : Act} {w : World} {Q : Exit → Act → World → Prop}
end
theorem und_rows : Try.prog.underlying 87 = some (.slice 22) := by kernel_rfl
theorem inf_ints : (Try.prog.info? 22).map (fun i => (i.zero, i.size, i.bytes)) = some (some (.slice none 0 0), 1, 24) := by kernel_rfl

theorem addz (b j : Nat) : (⟨b, 0, none⟩ : Addr).add j = ⟨b, j, none⟩ := by unfold Addr.add; split <;> simp_all
/-- A slice of slices of numbers reads as rows. -/
structure Rm (w : World) (A : Option Addr) (c : Nat) (rs : List (List Int)) : Prop where
  le : rs.length ≤ c
  cap : c ≤ 9223372036854775807
  cells : 0 < rs.length → ∃ ad, A = some ad ∧ ∀ (j : Nat) (hj : j < rs.length), ∃ A' c', w.cell? (ad.add j) = some (.slice A' rs[j].length c') ∧ Rd w A' c' rs[j]
section
variable {w w' : World} {A : Option Addr} {c : Nat} {rs : List (List Int)}
theorem Rm.keep (h : Rm w A c rs) (hk : ∀ p : Addr, p.block < w.heap.size → w'.cell? p = w.cell? p) : Rm w' A c rs :=
  ⟨h.le, h.cap, fun hl => by
    obtain ⟨ad, e, hc⟩ := h.cells hl
    refine ⟨ad, e, fun j hj => ?_⟩
    obtain ⟨A', c', h1, h2⟩ := hc j hj
    exact ⟨A', c', (hk _ (World.block_lt_of_cell? w _ h1)).trans h1, h2.keep hk⟩⟩
theorem Rm.below (h : Rm w A c rs) (hb : Below w.heap.size w w') : Rm w' A c rs := h.keep fun _ hp => hb.cell hp
theorem Rm.at_ (h : Rm w A c rs) {k : Nat} (hk : k < rs.length) : ∃ ad A' c', A = some ad ∧ w.cell? (ad.add k) = some (.slice A' rs[k].length c') ∧ Rd w A' c' rs[k] := by
  obtain ⟨ad, e, hc⟩ := h.cells (by omega)
  obtain ⟨A', c', h1, h2⟩ := hc k hk
  exact ⟨ad, A', c', e, h1, h2⟩
end
end Go.Proofs.Ytjcdkbalhleeeab

namespace Go.Proofs.Ytjcdkbalhleeeab
open Go.RowKit

/-- The call's own slice of rows: its values, and each row reads. -/
def RowsOwn (w : World) (base : Nat) (v : Value) (k : Nat) (rs : List (List Int)) : Prop :=
  rs.length = k ∧ ∃ vs : List Value, vs.length = k ∧ w.ownsRow base 22 1 v k vs ∧
    ∀ j, j < k → ∃ A' c', vs[j]? = some (.slice A' (rs.getD j []).length c') ∧ Rd w A' c' (rs.getD j []) ∧ (0 < (rs.getD j []).length → ∀ ad, A' = some ad → some ad.block ≠ v.ownBlock)
section
variable {w w' : World} {base k : Nat} {v : Value} {rs : List (List Int)}
theorem RowsOwn.nil (w : World) (base : Nat) : RowsOwn w base (.slice none 0 0) 0 [] := ⟨rfl, [], rfl, World.ownsRow_nil _ _ _ _, fun j hj => by omega⟩
theorem RowsOwn.below (h : RowsOwn w base v k rs) (hb : Below w.heap.size w w') : RowsOwn w' base v k rs := by
  obtain ⟨h1, vs, h2, h3, h4⟩ := h
  refine ⟨h1, vs, h2, own_below h3 hb, fun j hj => ?_⟩
  obtain ⟨A', c', a, b, c⟩ := h4 j hj
  exact ⟨A', c', a, b.below hb, c⟩
theorem Rd.grown {A : Option Addr} {c : Nat} {l : List Int} {row : Option Nat} (h : Rd w A c l) (hg : w.grownBy w' row) (hd : 0 < l.length → ∀ ad, A = some ad → some ad.block ≠ row) : Rd w' A c l := by
  refine ⟨h.le, h.cap, h.small, fun hl => ?_⟩
  simp only [List.length_map] at hl
  obtain ⟨ad, e, hc⟩ := h.cells (by simpa using hl)
  refine ⟨ad, e, fun j u hu => ?_⟩
  have hcu := hc j u hu
  have hlt := World.block_lt_of_cell? _ _ hcu
  have hn := hd hl ad e
  rw [← hcu]
  have hb := hg.block (ad.add j).block hlt (by rw [block_add]; exact hn)
  unfold World.cell?
  rw [hb]
theorem RowsOwn.push (h1 : rs.length = k) {vs : List Value} (h2 : vs.length = k)
    (h4 : ∀ j, j < k → ∃ A' c', vs[j]? = some (.slice A' (rs.getD j []).length c') ∧ Rd w A' c' (rs.getD j []) ∧ (0 < (rs.getD j []).length → ∀ ad, A' = some ad → some ad.block ≠ v.ownBlock))
    {A : Option Addr} {c : Nat} {r : List Int} (hr : Rd w A c r) (hd : 0 < r.length → ∀ ad, A = some ad → some ad.block ≠ v.ownBlock)
    {g cap : Nat} (hown : w'.ownsRow base 22 1 (.slice (some ⟨g, 0, none⟩) (k + 1) cap) (k + 1) (vs ++ [.slice A r.length c])) (hg : w.grownBy w' v.ownBlock) (hat : v.ownBlock = some g ∨ g = w.heap.size) :
    RowsOwn w' base (.slice (some ⟨g, 0, none⟩) (k + 1) cap) (k + 1) (rs ++ [r]) := by
  have key : ∀ {A : Option Addr} {c : Nat} {l : List Int}, Rd w A c l → (0 < l.length → ∀ ad, A = some ad → some ad.block ≠ v.ownBlock) → 0 < l.length → ∀ ad, A = some ad → some ad.block ≠ (Value.slice (some ⟨g, 0, none⟩) (k + 1) cap).ownBlock := by
    intro A c l hr hd hl ad e
    subst e
    show some ad.block ≠ some g
    rcases hat with q | q
    · rw [← q]; exact hd hl ad rfl
    · obtain ⟨ad', e', hc⟩ := hr.cells (by simpa using hl)
      cases e'
      have h0 := World.block_lt_of_cell? _ _ (hc 0 (.int .i64 l[0]) (by simp [List.getElem?_eq_getElem hl]))
      rw [block_add] at h0
      intro e; injection e with e; omega
  refine ⟨by simp [h1], _, by simp [h2], hown, fun j hj => ?_⟩
  by_cases e : j = k
  · subst e
    refine ⟨A, c, ?_, ?_, ?_⟩
    · rw [List.getElem?_append_right (by omega), h2]; simp [List.getD, h1]
    · have : (rs ++ [r]).getD j [] = r := by simp [List.getD, ← h1]
      rw [this]; exact hr.grown hg hd
    · have : (rs ++ [r]).getD j [] = r := by simp [List.getD, ← h1]
      rw [this]; exact key hr hd
  · obtain ⟨A', c', a, b, d⟩ := h4 j (by omega)
    have e2 : (rs ++ [r]).getD j [] = rs.getD j [] := by simp only [List.getD]; rw [List.getElem?_append_left (by omega)]
    rw [e2]
    refine ⟨A', c', ?_, b.grown hg d, key b d⟩
    rw [List.getElem?_append_left (by omega)]; exact a
end

/-! The document's determinant. -/
def sg : Nat → Int
  | 0 => 1
  | k + 1 => 0 - sg k
end Go.Proofs.Ytjcdkbalhleeeab

namespace Go.Proofs.Ytjcdkbalhleeeab
open Go.RowKit

section
variable {w w' : World} {base n : Nat} {e : TypeId} {v : Value} {xs : List Value}
theorem own_same (h : w.ownsRow base e 1 v n xs) (hs : ∀ b, v.ownBlock = some b → w'.heap[b]? = w.heap[b]?) : w'.ownsRow base e 1 v n xs := by
  refine ⟨h.1, ?_⟩
  rcases h.2 with q | ⟨g, cap, cur, rfl, hb, hg, r⟩
  · exact .inl q
  · exact .inr ⟨g, cap, cur, rfl, hb, (hs g rfl).trans hg, r⟩
theorem own_weak {base' : Nat} (h : w.ownsRow base e 1 v n xs) (hb : base' ≤ base) : w.ownsRow base' e 1 v n xs := by
  refine ⟨h.1, ?_⟩
  rcases h.2 with q | ⟨g, cap, cur, rfl, hb', hg, r⟩
  · exact .inl q
  · exact .inr ⟨g, cap, cur, rfl, by omega, hg, r⟩
theorem own_cell' {g cap : Nat} (h : w.ownsRow base e 1 (.slice (some ⟨g, 0, none⟩) n cap) n xs) (j : Nat) (u : Value) (hu : xs[j]? = some u) : w.cell? ⟨g, j, none⟩ = some u := by
  have := h.cells (g := g) rfl j u hu
  rwa [addz] at this
theorem own_free' {g cap : Nat} (h : w.ownsRow base e 1 (.slice (some ⟨g, 0, none⟩) n cap) n xs) (j : Nat) : w.frozen? ⟨g, j, none⟩ = false := by
  rcases h.2 with ⟨e, _⟩ | ⟨g', cap', cur, e, hb, hg, _⟩
  · injection e with e1; cases e1
  · injection e with e1
    injection e1 with e1; injection e1 with e1
    subst e1
    exact Blk.frozen (w := w) hg j
theorem own_caps {g cap : Nat} (h : w.ownsRow base e 1 (.slice (some ⟨g, 0, none⟩) n cap) n xs) : n ≤ cap ∧ cap ≤ 9223372036854775807 := by
  rcases h.2 with ⟨e, _⟩ | ⟨g', cap', cur, e, hb, hg, h1, h2, _⟩
  · injection e with e1; cases e1
  · injection e with e1 e2 e3
    subst e3
    exact ⟨h1, by unfold maxLen at h2; omega⟩
/-- A slice that owns something is somewhere. -/
theorem own_some (h : w.ownsRow base e 1 v n xs) (hn : n ≠ 0) : ∃ g c, v = .slice (some ⟨g, 0, none⟩) n c := by
  rcases h.2 with ⟨_, q⟩ | ⟨g, cap, cur, q, _⟩
  · exact absurd q hn
  · exact ⟨g, cap, q⟩
/-- One cell of an own row stored. -/
theorem own_put {g cap : Nat} (h : w.ownsRow base e 1 (.slice (some ⟨g, 0, none⟩) n cap) n xs) (k : Nat) (u : Value) :
    (w.setCell ⟨g, k, none⟩ u).ownsRow base e 1 (.slice (some ⟨g, 0, none⟩) n cap) n (xs.set k u) := by
  obtain ⟨hx, hr⟩ := h
  refine ⟨by simpa using hx, Or.inr ?_⟩
  rcases hr with ⟨q, _⟩ | ⟨g', cap', cur, q, hb, hg, hnc, hcm, hcs, htake⟩
  · injection q with e1; cases e1
  · injection q with e1 e2 e3
    injection e1 with e1; injection e1 with e1
    subst e1 e3
    refine ⟨g, cap, cur.setIfInBounds k u, rfl, hb, ?_, hnc, hcm, by simpa using hcs, ?_⟩
    · exact Blk.set0 (w := w) (t := e) hg k _
    · rw [Array.toList_setIfInBounds, List.take_set, htake]
end

/-- A slice of the call's own, of k rows of n numbers, each of the call's own. -/
structure RowsM (w : World) (base : Nat) (v : Value) (k n : Nat) (g c : Nat → Nat) (M : Nat → Nat → Int) : Prop where
  own : w.ownsRow base 22 1 v k ((List.range k).map fun i => Value.slice (some ⟨g i, 0, none⟩) n (c i))
  row : ∀ i, i < k → w.ownsRow base 2 1 (.slice (some ⟨g i, 0, none⟩) n (c i)) n ((List.range n).map fun j => Value.int .i64 (M i j))
  inj : ∀ i j, i < k → j < k → g i = g j → i = j
  ne : ∀ i, i < k → v.ownBlock ≠ some (g i)
/-- Its blocks. -/
def rowsS (v : Value) (k : Nat) (g : Nat → Nat) (b : Nat) : Prop := v.ownBlock = some b ∨ ∃ i, i < k ∧ g i = b
section
variable {w w' : World} {base k n : Nat} {v : Value} {g c : Nat → Nat} {M : Nat → Nat → Int}
theorem RowsM.nil (w : World) (base n : Nat) (g c : Nat → Nat) (M : Nat → Nat → Int) : RowsM w base (.slice none 0 0) 0 n g c M :=
  ⟨World.ownsRow_nil _ _ _ _, fun i hi => by omega, fun i j hi => by omega, fun i hi => by omega⟩
theorem RowsM.lt (h : RowsM w base v k n g c M) {b : Nat} (hb : rowsS v k g b) : base ≤ b ∧ b < w.heap.size := by
  rcases hb with hb | ⟨i, hi, rfl⟩
  · exact h.own.lt b hb
  · exact (h.row i hi).lt (g i) rfl
theorem RowsM.same (h : RowsM w base v k n g c M) (hs : ∀ b, rowsS v k g b → w'.heap[b]? = w.heap[b]?) : RowsM w' base v k n g c M :=
  ⟨own_same h.own fun b hb => hs b (.inl hb), fun i hi => own_same (h.row i hi) fun b hb => hs b (.inr ⟨i, hi, by injection hb⟩), h.inj, h.ne⟩
theorem RowsM.below (h : RowsM w base v k n g c M) {B : Nat} (hb : Below B w w') (hB : w.heap.size ≤ B) : RowsM w' base v k n g c M :=
  h.same fun b hb' => hb.block b (by have := h.lt hb'; omega)
theorem RowsM.grown (h : RowsM w base v k n g c M) {row : Option Nat} (hg : w.grownBy w' row) (hr : ∀ b, row = some b → ¬ rowsS v k g b) : RowsM w' base v k n g c M :=
  h.same fun b hb => hg.block b (h.lt hb).2 fun q => hr b q.symm hb
/-- One row more: the row lies apart, and stays; the slice has grown. -/
theorem RowsM.push (h : RowsM w base v k n g c M) {r cr o cap : Nat}
    (hr : w.ownsRow base 2 1 (.slice (some ⟨r, 0, none⟩) n cr) n ((List.range n).map fun j => Value.int .i64 (M k j))) (hn : ¬ rowsS v k g r)
    (hown : w'.ownsRow base 22 1 (.slice (some ⟨o, 0, none⟩) (k + 1) cap) (k + 1) (((List.range k).map fun i => Value.slice (some ⟨g i, 0, none⟩) n (c i)) ++ [.slice (some ⟨r, 0, none⟩) n cr]))
    (hg : w.grownBy w' v.ownBlock) (hat : v.ownBlock = some o ∨ o = w.heap.size) :
    RowsM w' base (.slice (some ⟨o, 0, none⟩) (k + 1) cap) (k + 1) n (fun i => if i = k then r else g i) (fun i => if i = k then cr else c i) M := by
  have hlt : r < w.heap.size := (hr.lt r rfl).2
  have ho : ∀ i, i < k → o ≠ g i := fun i hi e => by
    rcases hat with q | q
    · exact h.ne i hi (by rw [q, e])
    · have := ((h.row i hi).lt (g i) rfl).2; omega
  have hor : o ≠ r := fun e => by
    rcases hat with q | q
    · exact hn (.inl (by rw [q, e]))
    · omega
  refine ⟨?_, fun i hi => ?_, fun i j hi hj e => ?_, fun i hi => ?_⟩
  · have e1 : ((List.range (k + 1)).map fun i => Value.slice (some ⟨if i = k then r else g i, 0, none⟩) n (if i = k then cr else c i)) = ((List.range k).map fun i => Value.slice (some ⟨g i, 0, none⟩) n (c i)) ++ [.slice (some ⟨r, 0, none⟩) n cr] := by
      rw [List.range_succ, List.map_append]
      congr 1
      · apply List.map_congr_left
        intro i hi
        have : i < k := by simpa using hi
        rw [if_neg (by omega), if_neg (by omega)]
      · simp
    show w'.ownsRow base 22 1 _ _ ((List.range (k + 1)).map fun i => Value.slice (some ⟨if i = k then r else g i, 0, none⟩) n (if i = k then cr else c i))
    rw [e1]; exact hown
  · by_cases e : i = k
    · subst e
      simp only [if_true]
      exact own_same hr fun b hb => hg.block b (hr.lt b hb).2 fun q => hn (.inl (q.symm.trans hb.symm))
    · simp only [e, if_false]
      have hik : i < k := by omega
      exact own_same (h.row i hik) fun b hb => hg.block b ((h.row i hik).lt b hb).2 fun q => h.ne i hik (q.symm.trans hb.symm)
  · by_cases e1 : i = k <;> by_cases e2 : j = k <;> simp only [e1, e2, if_true, if_false] at e
    · omega
    · exact absurd (.inr ⟨j, by omega, e.symm⟩) hn
    · exact absurd (.inr ⟨i, by omega, e⟩) hn
    · exact h.inj i j (by omega) (by omega) e
  · show (some o : Option Nat) ≠ some (if i = k then r else g i)
    intro q
    injection q with q
    by_cases e : i = k
    · rw [if_pos e] at q; exact hor q
    · rw [if_neg e] at q; exact ho i (by omega) q
theorem RowsM.S_push {r o cap : Nat} {b : Nat} (hb : rowsS (.slice (some ⟨o, 0, none⟩) (k + 1) cap) (k + 1) (fun i => if i = k then r else g i) b) : b = o ∨ b = r ∨ rowsS v k g b := by
  rcases hb with hb | ⟨i, hi, rfl⟩
  · left; exact (Option.some.inj hb).symm
  · by_cases e : i = k
    · right; left; simp [e]
    · right; right; exact .inr ⟨i, by omega, by simp [e]⟩
theorem RowsM.mat {O cap m : Nat} (h : RowsM w base (.slice (some ⟨O, 0, none⟩) m cap) m n g c M) : Mat w O g c m n M :=
  ⟨fun i hi => own_cell' h.own i _ (by simp [hi]), fun i _ => own_free' h.own i, fun i j hi hj => own_cell' (h.row i hi) j _ (by simp [hj]), fun i j hi _ => own_free' (h.row i hi) j,
   fun i hi => own_caps (h.row i hi), h.inj, fun i hi e => h.ne i hi (by show some O = _; rw [e]), fun i hi => ((h.row i hi).lt (g i) rfl).2, (h.own.lt O rfl).2⟩
end

theorem und_i64s' : Try.prog.underlying 22 = some (.slice 2) := by kernel_rfl
set_option maxRecDepth 100000 in
/-- Made: n numbers, all 0. -/
theorem made_i64 (w : World) (n : Nat) (z : Int) (hz : z = n) (hn : n ≤ 1000) : (Instr.makeSlice 22 (.int .i64 z) (.int .i64 z)).run Try.prog w = .ok (.slice (some ⟨w.heap.size, 0, none⟩) n n) (w.alloc (.cells (Array.replicate n (Value.int .i64 0)) 2)) := by
  subst hz
  obtain ⟨i, hi, hz0, hz1, hz2⟩ := info_parts inf_i64
  have := run_make (P := Try.prog) w 22 2 i _ und_i64s' hi hz0 .i64 .i64 n n (by omega) (Int.le_refl _) (by rw [hz2]; omega) (by omega)
  rw [this, hz1]
  simp only [Int.toNat_natCast, Nat.mul_one]
  congr 3
  simp only [madeCells, Value.cells]
  apply Array.ext_getElem?
  intro j
  by_cases hj : j < n
  · simp [hj, Nat.mod_one]
  · simp [hj]
theorem own_made (w : World) (base n g : Nat) (hg : g = w.heap.size) (hb : base ≤ g) (hn : n ≤ 1000) : (w.alloc (.cells (Array.replicate n (Value.int .i64 0)) 2)).ownsRow base 2 1 (.slice (some ⟨g, 0, none⟩) n n) n ((List.replicate n (0 : Int)).map (Value.int .i64)) := by
  subst hg
  refine ⟨by simp, Or.inr ⟨_, n, _, rfl, hb, heap_alloc_new w _, Nat.le_refl _, by unfold maxLen; omega, by simp, by simp⟩⟩
end Go.Proofs.Ytjcdkbalhleeeab

namespace Go.Proofs.Ytjcdkbalhleeeab
open Go.RowKit

theorem Rd.natAt {w : World} {A : Option Addr} {c : Nat} {l : List Int} (h : Rd w A c l) (e : l = (nats l).map Int.ofNat) {k : Nat} (hk : k < l.length) :
    ∃ ad, A = some ad ∧ w.cell? (ad.add k) = some (.int .i64 (((nats l).getD k 0 : Nat) : Int)) := by
  obtain ⟨ad, e1, e2⟩ := h.at_ hk
  refine ⟨ad, e1, ?_⟩
  have hk' : k < (nats l).length := by simpa [nats] using hk
  have e3 : l[k] = (((nats l).getD k 0 : Nat) : Int) := by
    have : l[k] = ((nats l).map Int.ofNat)[k]'(by simpa using hk') := by congr 1
    rw [this]; simp [List.getD, List.getElem?_eq_getElem hk']
  rw [← e3]; exact e2
/-- What the first loop has made: two slices of rows, of n numbers each; their blocks from B on; ahead of W's end nothing has turned. -/
structure LookL (B n : Nat) (W wx : World) (p : PG) (q : List Nat) (kd ka : Nat) (v8 v9 : Value) (gd cd ga ca : Nat → Nat) : Prop where
  down : RowsM wx B v8 kd n gd cd (matD p q)
  across : RowsM wx B v9 ka n ga ca (matU p q)
  apart : ∀ b, rowsS v8 kd gd b → ¬ rowsS v9 ka ga b
  base : W.heap.size ≤ B
  below : Below W.heap.size W wx
def LookR (B n : Nat) (W wx : World) (p : PG) (q : List Nat) (k : Nat) (v8 v9 : Value) : Prop := ∃ gd cd ga ca, LookL B n W wx p q k k v8 v9 gd cd ga ca
section
variable {B n : Nat} {W U w' : World} {p : PG} {q : List Nat} {kd ka : Nat} {v8 v9 : Value} {gd cd ga ca : Nat → Nat}
theorem LookL.to (h : LookL B n W U p q kd ka v8 v9 gd cd ga ca) (hb : Below U.heap.size U w') : LookL B n W w' p q kd ka v8 v9 gd cd ga ca :=
  ⟨h.down.below hb (Nat.le_refl _), h.across.below hb (Nat.le_refl _), h.apart, h.base, h.below.trans (hb.mono h.below.size)⟩
theorem LookL.push_down (h : LookL B n W U p q kd ka v8 v9 gd cd ga ca) {r cr o cap : Nat}
    (hr : U.ownsRow B 2 1 (.slice (some ⟨r, 0, none⟩) n cr) n ((List.range n).map fun j => Value.int .i64 (matD p q kd j)))
    (hn8 : ¬ rowsS v8 kd gd r) (hn9 : ¬ rowsS v9 ka ga r)
    (hown : w'.ownsRow B 22 1 (.slice (some ⟨o, 0, none⟩) (kd + 1) cap) (kd + 1) (((List.range kd).map fun i => Value.slice (some ⟨gd i, 0, none⟩) n (cd i)) ++ [.slice (some ⟨r, 0, none⟩) n cr]))
    (hg : U.grownBy w' v8.ownBlock) (hat : v8.ownBlock = some o ∨ o = U.heap.size) :
    LookL B n W w' p q (kd + 1) ka (.slice (some ⟨o, 0, none⟩) (kd + 1) cap) v9 (fun i => if i = kd then r else gd i) (fun i => if i = kd then cr else cd i) ga ca := by
  refine ⟨h.down.push hr hn8 hown hg hat, h.across.grown hg fun b hb hs => h.apart b (.inl hb) hs, fun b hb hs => ?_, h.base, h.below.grown hg h.below.size fun k e => Nat.le_trans h.base (h.down.own.lt k e).1⟩
  rcases RowsM.S_push hb with rfl | rfl | hb
  · rcases hat with e | e
    · exact h.apart _ (.inl e) hs
    · have := (h.across.lt hs).2; omega
  · exact hn9 hs
  · exact h.apart b hb hs
theorem LookL.push_across (h : LookL B n W U p q kd ka v8 v9 gd cd ga ca) {r cr o cap : Nat}
    (hr : U.ownsRow B 2 1 (.slice (some ⟨r, 0, none⟩) n cr) n ((List.range n).map fun j => Value.int .i64 (matU p q ka j)))
    (hn8 : ¬ rowsS v8 kd gd r) (hn9 : ¬ rowsS v9 ka ga r)
    (hown : w'.ownsRow B 22 1 (.slice (some ⟨o, 0, none⟩) (ka + 1) cap) (ka + 1) (((List.range ka).map fun i => Value.slice (some ⟨ga i, 0, none⟩) n (ca i)) ++ [.slice (some ⟨r, 0, none⟩) n cr]))
    (hg : U.grownBy w' v9.ownBlock) (hat : v9.ownBlock = some o ∨ o = U.heap.size) :
    LookL B n W w' p q kd (ka + 1) v8 (.slice (some ⟨o, 0, none⟩) (ka + 1) cap) gd cd (fun i => if i = ka then r else ga i) (fun i => if i = ka then cr else ca i) := by
  refine ⟨h.down.grown hg fun b hb hs => h.apart b hs (.inl hb), h.across.push hr hn9 hown hg hat, fun b hs hb => ?_, h.base, h.below.grown hg h.below.size fun k e => Nat.le_trans h.base (h.across.own.lt k e).1⟩
  rcases RowsM.S_push hb with rfl | rfl | hb
  · rcases hat with e | e
    · exact h.apart _ hs (.inl e)
    · have := (h.down.lt hs).2; omega
  · exact hn8 hs
  · exact h.apart b hs hb
theorem LookL.same (h : LookL B n W U p q kd ka v8 v9 gd cd ga ca)
    (hd : ∀ b, rowsS v8 kd gd b → w'.heap[b]? = U.heap[b]?) (ha : ∀ b, rowsS v9 ka ga b → w'.heap[b]? = U.heap[b]?) (hb : Below W.heap.size W w') : LookL B n W w' p q kd ka v8 v9 gd cd ga ca :=
  ⟨h.down.same hd, h.across.same ha, h.apart, h.base, hb⟩
end
theorem matD_has {p : PG} {q : List Nat} {i j : Nat} (h : j < q.length) : matD p q i j = hasZ p i (q.getD j 0) := by unfold matD; rw [if_pos h]
theorem matU_has {p : PG} {q : List Nat} {i j : Nat} (h : j < q.length) : matU p q i j = hasZ p j (q.getD i 0) := by unfold matU; rw [if_pos h]
theorem matU_cost {p : PG} {q : List Nat} {i : Nat} : matU p q i q.length = costZ p (q.getD i 0) := by unfold matU; rw [if_neg (Nat.lt_irrefl _)]
theorem own_nil_map (w : World) (base : Nat) (f : Nat → Int) : w.ownsRow base 2 1 (.slice none 0 0) 0 ((List.range 0).map fun j => Value.int .i64 (f j)) := World.ownsRow_nil _ _ _ _
/-- A round of the first loop: a row more in each. -/
theorem look_round {W U V X w3 w4 w5 w6 w7 : World} {p : PG} {q : List Nat} {k : Nat} {v8 v9 va vb : Value} {gd cd ga ca : Nat → Nat} {g3 cap3 g4 cap4 g6 cap6 g7 cap7 UB : Nat} {o3 o4 o6 o7 : Obj} {xa xb : List Value} {n : Nat}
    (hk : LookL W.heap.size (p.rows.length + 1) W U p q k k v8 v9 gd cd ga ca) (hUV : Below U.heap.size U V) (hVX : Below V.heap.size V X) (hUB : U.heap.size ≤ UB) (hWU : W.heap.size ≤ U.heap.size)
    (hva : V.ownsRow UB 2 1 va n xa) (hvb : X.ownsRow V.heap.size 2 1 vb n xb)
    (hg3 : (X.alloc o3).grownBy w3 va.ownBlock) (hat3 : va.ownBlock = some g3 ∨ g3 = (X.alloc o3).heap.size)
    (hown3 : w3.ownsRow UB 2 1 (.slice (some ⟨g3, 0, none⟩) (p.rows.length + 1) cap3) (p.rows.length + 1) ((List.range (p.rows.length + 1)).map fun j => Value.int .i64 (matD p q k j)))
    (hg4 : (w3.alloc o4).grownBy w4 v8.ownBlock) (hat4 : v8.ownBlock = some g4 ∨ g4 = (w3.alloc o4).heap.size)
    (hown4 : w4.ownsRow W.heap.size 22 1 (.slice (some ⟨g4, 0, none⟩) (k + 1) cap4) (k + 1) (((List.range k).map fun i => Value.slice (some ⟨gd i, 0, none⟩) (p.rows.length + 1) (cd i)) ++ [.slice (some ⟨g3, 0, none⟩) (p.rows.length + 1) cap3]))
    (hb5 : Below w4.heap.size w4 w5)
    (hg6 : (w5.alloc o6).grownBy w6 vb.ownBlock) (hat6 : vb.ownBlock = some g6 ∨ g6 = (w5.alloc o6).heap.size)
    (hown6 : w6.ownsRow V.heap.size 2 1 (.slice (some ⟨g6, 0, none⟩) (p.rows.length + 1) cap6) (p.rows.length + 1) ((List.range (p.rows.length + 1)).map fun j => Value.int .i64 (matU p q k j)))
    (hg7 : (w6.alloc o7).grownBy w7 v9.ownBlock) (hat7 : v9.ownBlock = some g7 ∨ g7 = (w6.alloc o7).heap.size)
    (hown7 : w7.ownsRow W.heap.size 22 1 (.slice (some ⟨g7, 0, none⟩) (k + 1) cap7) (k + 1) (((List.range k).map fun i => Value.slice (some ⟨ga i, 0, none⟩) (p.rows.length + 1) (ca i)) ++ [.slice (some ⟨g6, 0, none⟩) (p.rows.length + 1) cap6])) :
    LookR W.heap.size (p.rows.length + 1) W w7 p q (k + 1) (.slice (some ⟨g4, 0, none⟩) (k + 1) cap4) (.slice (some ⟨g7, 0, none⟩) (k + 1) cap7) := by
  have z0 := hUV.size
  have z1 := hVX.size
  have z3 := hg3.size
  have z4 := hg4.size
  have z5 := hb5.size
  have z6 := hg6.size
  simp only [World.size_alloc] at z3 z4 z6 hat3 hat4 hat6
  have la := hva.lt
  have lb := hvb.lt
  have G3 : U.heap.size ≤ g3 ∧ (g3 < V.heap.size ∨ X.heap.size ≤ g3) := by
    rcases hat3 with e | e
    · have := la g3 e; omega
    · omega
  have G3' := (hown3.lt g3 rfl).2
  have G4' := (hown4.lt g4 rfl).2
  have hUX : Below U.heap.size U X := hUV.trans (hVX.mono z0)
  have hU3 : Below U.heap.size U w3 := (hUX.alloc hUX.size o3).grown hg3 (by simp; omega) fun j e => by have := la j e; omega
  have h3 := (hk.to hU3).to ((Below.refl _ w3).alloc (Nat.le_refl _) o4)
  have G4 : g4 < U.heap.size ∨ X.heap.size ≤ g4 := by
    rcases hat4 with e | e
    · have := hk.down.lt (.inl e); omega
    · omega
  have hlow : ∀ b, rowsS v8 k gd b ∨ rowsS v9 k ga b → b < U.heap.size := fun b h => by
    rcases h with h | h
    · exact (hk.down.lt h).2
    · exact (hk.across.lt h).2
  have h4 := h3.push_down (own_weak (hown3.alloc _) (by omega)) (fun h => by have := hlow _ (.inl h); omega) (fun h => by have := hlow _ (.inr h); omega) hown4 hg4 (by rcases hat4 with e | e; exact .inl e; exact .inr (by simp; omega))
  have G6 : V.heap.size ≤ g6 ∧ (g6 < X.heap.size ∨ w4.heap.size ≤ g6) := by
    rcases hat6 with e | e
    · have := lb g6 e; omega
    · omega
  have keep : ∀ b, b < w4.heap.size → vb.ownBlock ≠ some b → (w6.alloc o7).heap[b]? = w4.heap[b]? := fun b hb hn => by
    rw [Below.heap_alloc w6 o7 b (by omega), hg6.block b (by simp; omega) (fun e => hn e.symm), Below.heap_alloc w5 o6 b (by omega), hb5.block b hb]
  have h6 : LookL W.heap.size (p.rows.length + 1) W (w6.alloc o7) p q (k + 1) k _ v9 _ _ ga ca := h4.same
    (fun b hb => keep b (h4.down.lt hb).2 fun e => by
      have := lb b e
      rcases RowsM.S_push hb with e' | e' | e'
      · omega
      · omega
      · have := hlow b (.inl e'); omega)
    (fun b hb => keep b (h4.across.lt hb).2 fun e => by have := lb b e; have := hlow b (.inr hb); omega)
    (((h4.below.trans (hb5.mono h4.below.size)).alloc (by have := h4.below.size; omega) o6 |>.grown hg6 (by have := h4.below.size; simp; omega) fun j e => by have := lb j e; omega).alloc (by have := h4.below.size; omega) o7)
  have h7 := h6.push_across (own_weak (hown6.alloc _) (by omega)) (fun h => by
      rcases RowsM.S_push h with e' | e' | e'
      · omega
      · omega
      · have := hlow _ (.inl e'); omega) (fun h => by have := hlow _ (.inr h); omega) hown7 hg7 (by rcases hat7 with e | e; exact .inl e; exact .inr e)
  exact ⟨_, _, _, _, h7⟩
/-- The gains as far as they have come. -/
def gainL (p : PG) (q : List Nat) (N j : Nat) (v : Int) : List Int := (List.range N).map fun i => if i < j then gk p q i p.rows.length else if i = j then v else 0
theorem gainL_zero (p : PG) (q : List Nat) (N : Nat) : List.replicate N (0 : Int) = gainL p q N 0 0 := by
  refine List.ext_getElem (by simp [gainL]) fun i h1 h2 => ?_
  simp [gainL]
theorem gainL_set {p : PG} {q : List Nat} {N j : Nat} {u v : Int} : (gainL p q N j u).set j v = gainL p q N j v := by
  refine List.ext_getElem (by simp [gainL]) fun i h1 h2 => ?_
  rw [List.getElem_set]
  simp only [gainL, List.getElem_map, List.getElem_range]
  by_cases e : j = i
  · subst e; simp
  · rw [if_neg e]; split; rfl; rw [if_neg (by omega), if_neg (by omega)]
theorem gainL_succ {p : PG} {q : List Nat} {N j : Nat} : gainL p q N j (gk p q j p.rows.length) = gainL p q N (j + 1) 0 := by
  unfold gainL
  apply List.map_congr_left
  intro i _
  by_cases e : i = j
  · subst e; simp
  · by_cases e2 : i < j
    · rw [if_pos e2, if_pos (by omega)]
    · rw [if_neg e2, if_neg e, if_neg (by omega)]; split <;> rfl
theorem gainL_at {p : PG} {q : List Nat} {N j : Nat} {v : Int} (h : j < N) : ((gainL p q N j v).map (Value.int .i64))[j]? = some (.int .i64 v) := by
  simp [gainL, h]
theorem gainL_end (p : PG) (q : List Nat) : gainL p q (p.costs.length + p.rows.length) (p.costs.length + p.rows.length) 0 = gall p q := by
  unfold gainL gall
  apply List.map_congr_left
  intro i hi
  have : i < p.costs.length + p.rows.length := by simpa using hi
  rw [if_pos this]
theorem putAll_none (q : List Nat) (v : Nat → Int) (N : Nat) : List.replicate N (0 : Int) = putAll q v N 0 := by simp [putAll]
theorem map_set_int (l : List Int) (k : Nat) (z : Int) : (l.map (Value.int .i64)).set k (.int .i64 z) = (l.set k z).map (Value.int .i64) := by rw [List.map_set]
theorem map_at_int {l : List Int} {k : Nat} (h : k < l.length) : (l.map (Value.int .i64))[k]? = some (.int .i64 (l.getD k 0)) := by simp [List.getD, List.getElem?_eq_getElem h]
theorem own_far {w : World} {base n : Nat} {e : TypeId} {v : Value} {xs : List Value} (h : w.ownsRow base e 1 v n xs) {p : Addr} (u : Value) (hp : v.ownBlock ≠ some p.block) : (w.setCell p u).ownsRow base e 1 v n xs :=
  own_same h fun b hb => Below.heap_setCell _ _ _ _ fun q => hp (by rw [hb, q])
theorem Rd.getD_at {w : World} {A : Option Addr} {c : Nat} {l : List Int} (h : Rd w A c l) {k : Nat} (hk : k < l.length) : ∃ ad, A = some ad ∧ w.cell? (ad.add k) = some (.int .i64 (l.getD k 0)) := by
  obtain ⟨ad, e, hc⟩ := h.at_ hk
  exact ⟨ad, e, by rw [hc]; simp [List.getD, List.getElem?_eq_getElem hk]⟩
theorem Rd.same {w w' : World} {A : Option Addr} {c : Nat} {l : List Int} (h : Rd w A c l) (hk : ∀ ad, A = some ad → ad.block < w.heap.size → w'.heap[ad.block]? = w.heap[ad.block]?) : Rd w' A c l :=
  ⟨h.le, h.cap, h.small, fun hl => by
    obtain ⟨ad, e, hc⟩ := h.cells hl
    have h0 := World.block_lt_of_cell? _ _ (hc 0 _ (List.getElem?_eq_getElem hl))
    rw [block_add] at h0
    exact ⟨ad, e, fun j u hu => (World.cell?_of_block (by rw [block_add]; exact hk ad e h0)).trans (hc j u hu)⟩⟩
theorem row_succ (f : Nat → Int) (k : Nat) : ((List.range k).map fun j => Value.int .i64 (f j)) ++ [Value.int .i64 (f k)] = (List.range (k + 1)).map fun j => Value.int .i64 (f j) := by rw [List.range_succ, List.map_append]; rfl

end Go.Proofs.Ytjcdkbalhleeeab
