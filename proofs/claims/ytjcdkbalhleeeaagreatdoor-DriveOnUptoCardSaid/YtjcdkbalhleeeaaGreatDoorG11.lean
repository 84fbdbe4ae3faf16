/-
  Contracts of functions and plain laws that later parts of the proof use. The conditions stand in each theorem.
-/
import Derived.Test.YtjcdkbalhleeeaaGreatDoorG10
import Derived.Test.YtjcdkbalhleeeaaGreatDoorG01
import Derived.Test.YtjcdkbalhleeeaaGreatDoorG03
namespace Go.Proofs.YtjcdkbalhleeeaaGreatDoor
open Go.RowKit

/-- A corner and an error are handed back; nothing that was there has turned. -/
def RetCo (w : World) (c : CO) (er : Int) (e : Ending) (w' : World) : Prop :=
  ∃ X cx Y cy G cg, e = .returned (.tuple #[.agg #[.slice X c.xs.length cx, .int .i64 c.xd, .slice Y c.ys.length cy, .int .i64 c.yd, .slice G c.gs.length cg, .int .i64 c.gd], .int .i64 er]) ∧
    Rd w' X cx c.xs ∧ Rd w' Y cy c.ys ∧ Rd w' G cg c.gs ∧ Below w.heap.size w w'
theorem RetCo.none {w w' : World} (er : Int) (hb : Below w.heap.size w w') : RetCo w ⟨[], 0, [], 0, [], 0⟩ er (.returned (.tuple #[.agg #[.slice none 0 0, .int .i64 0, .slice none 0 0, .int .i64 0, .slice none 0 0, .int .i64 0], .int .i64 er])) w' :=
  ⟨Option.none, 0, Option.none, 0, Option.none, 0, rfl, Rd.nil _, Rd.nil _, Rd.nil _, hb⟩

set_option maxRecDepth 100000 in
set_option maxHeartbeats 500000 in
theorem look_form (A : Option Addr) (c : Nat) (A2 : Option Addr) (c2 : Nat) (p : PG) (L : Option Addr) (l : List Int) (cl : Nat) (w : World) (hp : Pg w A c A2 c2 p) (hr : Rd w L cl l) (hm : mayPB p = false) :
    Calls Tryz.prog 20 #[.agg #[.slice A p.costs.length c, .slice A2 p.rows.length c2], .slice L l.length cl] w (RetCo w ⟨[], 0, [], 0, [], 0⟩ 2) := by
  have HP := Lib.hid hp
  have HL := Lib.hid hr
  obtain ⟨⟨hl, hc, hsm, _⟩, ⟨hl2, hc2, hsm2, _⟩⟩ := hp
  obtain ⟨hll, hlc, hls, _⟩ := hr
  go_enter Tryz.func20, Tryz.ntmps20
  go_wp2_with fail
  go_quiet (fail)
  go_wp2_with fail
  refine (layout_May _ _ _ _ _ _ (by exact HP.out.below (by (repeat (any_goals (first | exact Below.refl _ _ | refine below_drewN ?_ _ | refine Below.drew ?_ | refine Below.alloc ?_ ?_ _ | refine Below.setCell ?_ ?_ _))); all_goals (first | omega | (simp; done) | (simp; omega))))).mono ?_
  rintro e w1 ⟨rfl, hb1⟩
  rw [hm]
  have Vr := Lib.hid (show Blk w1 (w.heap.size + 1) 64 #[.slice none 0 0, .int .i64 0, .slice none 0 0, .int .i64 0, .slice none 0 0, .int .i64 0] from Blk.next ((Blk.new _ _ _ _ (by simp)).drewN _) hb1)
  have Vp := Lib.hid (show Blk w1 w.heap.size 28 #[.slice A p.costs.length c, .slice A2 p.rows.length c2] from Blk.next (((Blk.mk' _ _ _).alloc _).drewN _) hb1)
  have HPw := Lib.hid (HP.out.hop (by (repeat (any_goals (first | exact Below.refl _ _ | refine below_drewN ?_ _ | refine Below.drew ?_ | refine Below.alloc ?_ ?_ _ | refine Below.setCell ?_ ?_ _))); all_goals (first | omega | (simp; done) | (simp; omega))) hb1)
  have HLw := Lib.hid (HL.out.hop (by (repeat (any_goals (first | exact Below.refl _ _ | refine below_drewN ?_ _ | refine Below.drew ?_ | refine Below.alloc ?_ ?_ _ | refine Below.setCell ?_ ?_ _))); all_goals (first | omega | (simp; done) | (simp; omega))) hb1)
  have HW1 := Lib.hid (show Below w.heap.size w w1 from (by (repeat (any_goals (first | exact Below.refl _ _ | exact hb1 | refine below_drewN ?_ _ | refine Below.drew ?_ | refine Below.alloc ?_ ?_ _ | refine Below.setCell ?_ ?_ _ | refine Below.trans ?_ (Below.mono hb1 ?_)))); all_goals (first | omega | (simp; done) | (simp; omega) | ((try have z0 := hb1.size); (try simp at z0); (try simp); omega))))
  have z1 := hb1.size
  (try simp only [World.size_alloc, World.size_drew, World.size_setCell, size_drewN'] at z1)
  have lVr := Vr.out.lt
  clear hb1
  have k0 : w1.cell? ⟨w.heap.size + 1, 0, none⟩ = some (.slice none 0 0) := Vr.out.cell 0
  have k1 : w1.cell? ⟨w.heap.size + 1, 1, none⟩ = some (.int .i64 0) := Vr.out.cell 1
  have k2 : w1.cell? ⟨w.heap.size + 1, 2, none⟩ = some (.slice none 0 0) := Vr.out.cell 2
  have k3 : w1.cell? ⟨w.heap.size + 1, 3, none⟩ = some (.int .i64 0) := Vr.out.cell 3
  have k4 : w1.cell? ⟨w.heap.size + 1, 4, none⟩ = some (.slice none 0 0) := Vr.out.cell 4
  have k5 : w1.cell? ⟨w.heap.size + 1, 5, none⟩ = some (.int .i64 0) := Vr.out.cell 5
  have f0 := Vr.out.frozen 0
  have f1 := Vr.out.frozen 1
  have f2 := Vr.out.frozen 2
  have f3 := Vr.out.frozen 3
  have f4 := Vr.out.frozen 4
  have f5 := Vr.out.frozen 5
  go_wp2_with fail
  refine bodyPost_ret (v := .tuple #[.agg #[.slice none 0 0, .int .i64 0, .slice none 0 0, .int .i64 0, .slice none 0 0, .int .i64 0], .int .i64 2]) ?_ ?_ ?_
  · simp [results, Tryz.results20, go_sem, k0, k1, k2, k3, k4, k5]
  · rfl
  · refine RetCo.none 2 ?_
    exact (((((HW1.out.setCell (Nat.le_succ _) _).setCell (Nat.le_succ _) _).setCell (Nat.le_succ _) _).setCell (Nat.le_succ _) _).setCell (Nat.le_succ _) _).setCell (Nat.le_succ _) _
set_option maxRecDepth 100000 in
set_option maxHeartbeats 500000 in
theorem look_len (A : Option Addr) (c : Nat) (A2 : Option Addr) (c2 : Nat) (p : PG) (L : Option Addr) (l : List Int) (cl : Nat) (w : World) (hp : Pg w A c A2 c2 p) (hr : Rd w L cl l) (hm : mayPB p = true) (hn : l.length ≠ p.rows.length) :
    Calls Tryz.prog 20 #[.agg #[.slice A p.costs.length c, .slice A2 p.rows.length c2], .slice L l.length cl] w (RetCo w ⟨[], 0, [], 0, [], 0⟩ 3) := by
  have hz : ((l.length : Int) != (p.rows.length : Int)) = true := by simp; omega
  have HP := Lib.hid hp
  have HL := Lib.hid hr
  obtain ⟨⟨hl, hc, hsm, _⟩, ⟨hl2, hc2, hsm2, _⟩⟩ := hp
  obtain ⟨hll, hlc, hls, _⟩ := hr
  go_enter Tryz.func20, Tryz.ntmps20
  go_wp2_with fail
  go_quiet (fail)
  go_wp2_with fail
  refine (layout_May _ _ _ _ _ _ (by exact HP.out.below (by (repeat (any_goals (first | exact Below.refl _ _ | refine below_drewN ?_ _ | refine Below.drew ?_ | refine Below.alloc ?_ ?_ _ | refine Below.setCell ?_ ?_ _))); all_goals (first | omega | (simp; done) | (simp; omega))))).mono ?_
  rintro e w1 ⟨rfl, hb1⟩
  rw [hm]
  have Vr := Lib.hid (show Blk w1 (w.heap.size + 1) 64 #[.slice none 0 0, .int .i64 0, .slice none 0 0, .int .i64 0, .slice none 0 0, .int .i64 0] from Blk.next ((Blk.new _ _ _ _ (by simp)).drewN _) hb1)
  have Vp := Lib.hid (show Blk w1 w.heap.size 28 #[.slice A p.costs.length c, .slice A2 p.rows.length c2] from Blk.next (((Blk.mk' _ _ _).alloc _).drewN _) hb1)
  have HPw := Lib.hid (HP.out.hop (by (repeat (any_goals (first | exact Below.refl _ _ | refine below_drewN ?_ _ | refine Below.drew ?_ | refine Below.alloc ?_ ?_ _ | refine Below.setCell ?_ ?_ _))); all_goals (first | omega | (simp; done) | (simp; omega))) hb1)
  have HLw := Lib.hid (HL.out.hop (by (repeat (any_goals (first | exact Below.refl _ _ | refine below_drewN ?_ _ | refine Below.drew ?_ | refine Below.alloc ?_ ?_ _ | refine Below.setCell ?_ ?_ _))); all_goals (first | omega | (simp; done) | (simp; omega))) hb1)
  have HW1 := Lib.hid (show Below w.heap.size w w1 from (by (repeat (any_goals (first | exact Below.refl _ _ | exact hb1 | refine below_drewN ?_ _ | refine Below.drew ?_ | refine Below.alloc ?_ ?_ _ | refine Below.setCell ?_ ?_ _ | refine Below.trans ?_ (Below.mono hb1 ?_)))); all_goals (first | omega | (simp; done) | (simp; omega) | ((try have z0 := hb1.size); (try simp at z0); (try simp); omega))))
  have z1 := hb1.size
  (try simp only [World.size_alloc, World.size_drew, World.size_setCell, size_drewN'] at z1)
  have lVr := Vr.out.lt
  clear hb1
  have k0 : w1.cell? ⟨w.heap.size + 1, 0, none⟩ = some (.slice none 0 0) := Vr.out.cell 0
  have k1 : w1.cell? ⟨w.heap.size + 1, 1, none⟩ = some (.int .i64 0) := Vr.out.cell 1
  have k2 : w1.cell? ⟨w.heap.size + 1, 2, none⟩ = some (.slice none 0 0) := Vr.out.cell 2
  have k3 : w1.cell? ⟨w.heap.size + 1, 3, none⟩ = some (.int .i64 0) := Vr.out.cell 3
  have k4 : w1.cell? ⟨w.heap.size + 1, 4, none⟩ = some (.slice none 0 0) := Vr.out.cell 4
  have k5 : w1.cell? ⟨w.heap.size + 1, 5, none⟩ = some (.int .i64 0) := Vr.out.cell 5
  have f0 := Vr.out.frozen 0
  have f1 := Vr.out.frozen 1
  have f2 := Vr.out.frozen 2
  have f3 := Vr.out.frozen 3
  have f4 := Vr.out.frozen 4
  have f5 := Vr.out.frozen 5
  go_wp2_with fail
  refine bodyPost_ret (v := .tuple #[.agg #[.slice none 0 0, .int .i64 0, .slice none 0 0, .int .i64 0, .slice none 0 0, .int .i64 0], .int .i64 3]) ?_ ?_ ?_
  · simp [results, Tryz.results20, go_sem, k0, k1, k2, k3, k4, k5]
  · rfl
  · refine RetCo.none 3 ?_
    exact (((((HW1.out.setCell (Nat.le_succ _) _).setCell (Nat.le_succ _) _).setCell (Nat.le_succ _) _).setCell (Nat.le_succ _) _).setCell (Nat.le_succ _) _).setCell (Nat.le_succ _) _
set_option maxRecDepth 100000 in
set_option maxHeartbeats 500000 in
theorem look_rise (A : Option Addr) (c : Nat) (A2 : Option Addr) (c2 : Nat) (p : PG) (L : Option Addr) (l : List Int) (cl : Nat) (w : World) (hp : Pg w A c A2 c2 p) (hr : Rd w L cl l) (hm : mayPB p = true) (hn : l.length = p.rows.length) (hri : risingB (-1) (p.costs.length + p.rows.length) l = false) :
    Calls Tryz.prog 20 #[.agg #[.slice A p.costs.length c, .slice A2 p.rows.length c2], .slice L l.length cl] w (RetCo w ⟨[], 0, [], 0, [], 0⟩ 3) := by
  have hz : ((l.length : Int) != (p.rows.length : Int)) = false := by simp; omega
  have HRI := Lib.hid hri
  have h4 := (mayPB_iff.1 hm).2.2.2.1
  have h4' := (mayPB_iff.1 hm).2.1
  clear hn hri
  have HP := Lib.hid hp
  have HL := Lib.hid hr
  obtain ⟨⟨hl, hc, hsm, _⟩, ⟨hl2, hc2, hsm2, _⟩⟩ := hp
  obtain ⟨hll, hlc, hls, _⟩ := hr
  go_enter Tryz.func20, Tryz.ntmps20
  go_wp2_with fail
  go_quiet (fail)
  go_wp2_with fail
  refine (layout_May _ _ _ _ _ _ (by exact HP.out.below (by (repeat (any_goals (first | exact Below.refl _ _ | refine below_drewN ?_ _ | refine Below.drew ?_ | refine Below.alloc ?_ ?_ _ | refine Below.setCell ?_ ?_ _))); all_goals (first | omega | (simp; done) | (simp; omega))))).mono ?_
  rintro e w1 ⟨rfl, hb1⟩
  rw [hm]
  have Vr := Lib.hid (show Blk w1 (w.heap.size + 1) 64 #[.slice none 0 0, .int .i64 0, .slice none 0 0, .int .i64 0, .slice none 0 0, .int .i64 0] from Blk.next ((Blk.new _ _ _ _ (by simp)).drewN _) hb1)
  have Vp := Lib.hid (show Blk w1 w.heap.size 28 #[.slice A p.costs.length c, .slice A2 p.rows.length c2] from Blk.next (((Blk.mk' _ _ _).alloc _).drewN _) hb1)
  have HPw := Lib.hid (HP.out.hop (by (repeat (any_goals (first | exact Below.refl _ _ | refine below_drewN ?_ _ | refine Below.drew ?_ | refine Below.alloc ?_ ?_ _ | refine Below.setCell ?_ ?_ _))); all_goals (first | omega | (simp; done) | (simp; omega))) hb1)
  have HLw := Lib.hid (HL.out.hop (by (repeat (any_goals (first | exact Below.refl _ _ | refine below_drewN ?_ _ | refine Below.drew ?_ | refine Below.alloc ?_ ?_ _ | refine Below.setCell ?_ ?_ _))); all_goals (first | omega | (simp; done) | (simp; omega))) hb1)
  have HW1 := Lib.hid (show Below w.heap.size w w1 from (by (repeat (any_goals (first | exact Below.refl _ _ | exact hb1 | refine below_drewN ?_ _ | refine Below.drew ?_ | refine Below.alloc ?_ ?_ _ | refine Below.setCell ?_ ?_ _ | refine Below.trans ?_ (Below.mono hb1 ?_)))); all_goals (first | omega | (simp; done) | (simp; omega) | ((try have z0 := hb1.size); (try simp at z0); (try simp); omega))))
  have z1 := hb1.size
  (try simp only [World.size_alloc, World.size_drew, World.size_setCell, size_drewN'] at z1)
  have lVr := Vr.out.lt
  clear hb1
  have k0 : w1.cell? ⟨w.heap.size + 1, 0, none⟩ = some (.slice none 0 0) := Vr.out.cell 0
  have k1 : w1.cell? ⟨w.heap.size + 1, 1, none⟩ = some (.int .i64 0) := Vr.out.cell 1
  have k2 : w1.cell? ⟨w.heap.size + 1, 2, none⟩ = some (.slice none 0 0) := Vr.out.cell 2
  have k3 : w1.cell? ⟨w.heap.size + 1, 3, none⟩ = some (.int .i64 0) := Vr.out.cell 3
  have k4 : w1.cell? ⟨w.heap.size + 1, 4, none⟩ = some (.slice none 0 0) := Vr.out.cell 4
  have k5 : w1.cell? ⟨w.heap.size + 1, 5, none⟩ = some (.int .i64 0) := Vr.out.cell 5
  have f0 := Vr.out.frozen 0
  have f1 := Vr.out.frozen 1
  have f2 := Vr.out.frozen 2
  have f3 := Vr.out.frozen 3
  have f4 := Vr.out.frozen 4
  have f5 := Vr.out.frozen 5
  go_wp2_with fail
  refine (show Calls Tryz.prog 46 #[.slice L l.length cl, .int .i64 ((p.costs.length : Int) + (p.rows.length : Int))] w1 fun e w' => e = .returned (.bool false) ∧ w' = w1 from by
    rw [← HRI.out, ← Int.natCast_add]; exact corner_rising _ _ _ _ _ HLw.out).mono ?_
  rintro e w2 ⟨rfl, rfl⟩
  go_wp2_with fail
  refine bodyPost_ret (v := .tuple #[.agg #[.slice none 0 0, .int .i64 0, .slice none 0 0, .int .i64 0, .slice none 0 0, .int .i64 0], .int .i64 3]) ?_ ?_ ?_
  · simp [results, Tryz.results20, go_sem, k0, k1, k2, k3, k4, k5]
  · rfl
  · refine RetCo.none 3 ?_
    exact (((((HW1.out.setCell (Nat.le_succ _) _).setCell (Nat.le_succ _) _).setCell (Nat.le_succ _) _).setCell (Nat.le_succ _) _).setCell (Nat.le_succ _) _).setCell (Nat.le_succ _) _
end Go.Proofs.YtjcdkbalhleeeaaGreatDoor

namespace Go.Proofs.YtjcdkbalhleeeaaGreatDoor
open Go.RowKit

/-- Outer block O, rows in blocks g i with room c i: n cells a row, m rows. -/
structure Mat (w : World) (O : Nat) (g c : Nat → Nat) (m n : Nat) (M : Nat → Nat → Int) : Prop where
  out : ∀ i, i < m → w.cell? ⟨O, i, none⟩ = some (.slice (some ⟨g i, 0, none⟩) n (c i))
  ofree : ∀ i, i < m → w.frozen? ⟨O, i, none⟩ = false
  row : ∀ i j, i < m → j < n → w.cell? ⟨g i, j, none⟩ = some (.int .i64 (M i j))
  free : ∀ i j, i < m → j < n → w.frozen? ⟨g i, j, none⟩ = false
  le : ∀ i, i < m → n ≤ c i ∧ c i ≤ 9223372036854775807
  inj : ∀ i j, i < m → j < m → g i = g j → i = j
  ne : ∀ i, i < m → g i ≠ O
  lt : ∀ i, i < m → g i < w.heap.size
  olt : O < w.heap.size

/-- Only these blocks have turned, and new ones have come. -/
structure Turned (S : Nat → Prop) (w w' : World) : Prop where
  os : w'.os = w.os
  tape : w'.tape = w.tape
  output : w'.output = w.output
  size : w.heap.size ≤ w'.heap.size
  block : ∀ k, k < w.heap.size → ¬ S k → w'.heap[k]? = w.heap[k]?
theorem Turned.refl (S : Nat → Prop) (w : World) : Turned S w w := ⟨rfl, rfl, rfl, Nat.le_refl _, fun _ _ _ => rfl⟩
theorem Turned.trans {S : Nat → Prop} {a b c : World} (h : Turned S a b) (k : Turned S b c) : Turned S a c :=
  ⟨k.os.trans h.os, k.tape.trans h.tape, k.output.trans h.output, Nat.le_trans h.size k.size, fun i hi hs => (k.block i (Nat.lt_of_lt_of_le hi h.size) hs).trans (h.block i hi hs)⟩
theorem Turned.drewN {S : Nat → Prop} {a w : World} (h : Turned S a w) (n : Nat) : Turned S a (w.drewN n) := ⟨h.os, h.tape, h.output, h.size, h.block⟩
theorem Turned.drew {S : Nat → Prop} {a w : World} (h : Turned S a w) : Turned S a w.drew := ⟨h.os, h.tape, h.output, h.size, h.block⟩
theorem Turned.alloc {S : Nat → Prop} {a w : World} (h : Turned S a w) (o : Obj) : Turned S a (w.alloc o) :=
  h.trans ⟨rfl, rfl, rfl, by simp, fun k hk _ => Below.heap_alloc _ _ _ hk⟩
theorem Turned.setCell {S : Nat → Prop} {a w : World} (h : Turned S a w) {p : Addr} (hp : S p.block) (u : Value) : Turned S a (w.setCell p u) :=
  h.trans ⟨rfl, rfl, rfl, by simp [World.setCell], fun k _ hs => Below.heap_setCell _ _ _ _ (fun e => hs (e ▸ hp))⟩
theorem Turned.of_below {S : Nat → Prop} {a b : World} (h : Below a.heap.size a b) : Turned S a b := ⟨h.os, h.tape, h.output, h.size, fun k hk _ => h.block k hk⟩
theorem Turned.below {S : Nat → Prop} {a b : World} (h : Turned S a b) {B : Nat} (hB : B ≤ a.heap.size) (hS : ∀ k, S k → B ≤ k) : Below B a b :=
  ⟨h.os, h.tape, h.output, h.size, fun k hk => h.block k (by omega) (fun q => by have := hS k q; omega)⟩
theorem Turned.grown {S : Nat → Prop} {a w w' : World} {row : Option Nat} (h : Turned S a w) (hg : w.grownBy w' row) (hr : ∀ k, row = some k → a.heap.size ≤ k) : Turned S a w' :=
  ⟨hg.os.trans h.os, hg.tape.trans h.tape, hg.output.trans h.output, Nat.le_trans h.size hg.size, fun k hk hs => (hg.block k (Nat.lt_of_lt_of_le hk h.size) (fun e => by have := hr k e.symm; omega)).trans (h.block k hk hs)⟩

section
variable {w w' : World} {O : Nat} {g c : Nat → Nat} {m n : Nat} {M : Nat → Nat → Int}
theorem Mat.congr (h : Mat w O g c m n M) {M' : Nat → Nat → Int} (e : ∀ i j, i < m → j < n → M i j = M' i j) : Mat w O g c m n M' :=
  ⟨h.out, h.ofree, fun i j hi hj => by rw [← e i j hi hj]; exact h.row i j hi hj, h.free, h.le, h.inj, h.ne, h.lt, h.olt⟩
theorem Mat.drewN (h : Mat w O g c m n M) (k : Nat) : Mat (w.drewN k) O g c m n M := ⟨h.out, h.ofree, h.row, h.free, h.le, h.inj, h.ne, h.lt, h.olt⟩
theorem Mat.drew (h : Mat w O g c m n M) : Mat w.drew O g c m n M := ⟨h.out, h.ofree, h.row, h.free, h.le, h.inj, h.ne, h.lt, h.olt⟩
theorem Mat.below (h : Mat w O g c m n M) (hb : Below w.heap.size w w') : Mat w' O g c m n M :=
  ⟨fun i hi => (hb.cell (p := ⟨O, i, none⟩) h.olt).trans (h.out i hi), fun i hi => (hb.frozen (p := ⟨O, i, none⟩) h.olt).trans (h.ofree i hi),
   fun i j hi hj => (hb.cell (p := ⟨g i, j, none⟩) (h.lt i hi)).trans (h.row i j hi hj), fun i j hi hj => (hb.frozen (p := ⟨g i, j, none⟩) (h.lt i hi)).trans (h.free i j hi hj),
   h.le, h.inj, h.ne, fun i hi => Nat.lt_of_lt_of_le (h.lt i hi) hb.size, Nat.lt_of_lt_of_le h.olt hb.size⟩
/-- One number stored. -/
theorem Mat.put (h : Mat w O g c m n M) {i j : Nat} (hi : i < m) (hj : j < n) (z : Int) : Mat (w.setCell ⟨g i, j, none⟩ (.int .i64 z)) O g c m n (fun i' j' => if i' = i ∧ j' = j then z else M i' j') := by
  refine ⟨fun i' hi' => ?_, fun i' hi' => ?_, fun i' j' hi' hj' => ?_, fun i' j' hi' hj' => ?_, h.le, h.inj, h.ne, fun i' hi' => by simpa using h.lt i' hi', by simpa using h.olt⟩
  · rw [World.cell?_setCell_other w _ _ _ (fun e => h.ne i hi (by injection e with e1))]; exact h.out i' hi'
  · rw [World.frozen?_setCell]; exact h.ofree i' hi'
  · by_cases e : i' = i ∧ j' = j
    · obtain ⟨rfl, rfl⟩ := e
      rw [if_pos ⟨rfl, rfl⟩]
      exact World.cell?_setCell_same' w _ _ (by rw [h.row _ _ hi' hj']; rfl)
    · rw [if_neg e, World.cell?_setCell_other w _ _ _ (fun q => e (by injection q with q1 q2; exact ⟨(h.inj _ _ hi hi' (by omega)).symm, by omega⟩))]
      exact h.row i' j' hi' hj'
  · rw [World.frozen?_setCell]; exact h.free i' j' hi' hj'
/-- Two rows changed. -/
theorem sw_lt {k a m i : Nat} (hk : k < m) (ha : a < m) (hi : i < m) : sw k a i < m := by unfold sw; split; exact ha; split; exact hk; exact hi
theorem sw_inj {k a i j : Nat} (h : sw k a i = sw k a j) : i = j := by unfold sw at h; split at h <;> split at h <;> (try split at h) <;> (try split at h) <;> omega
theorem Mat.swap (h : Mat w O g c m n M) {k a : Nat} (hk : k < m) (ha : a < m) (hka : k ≠ a) :
    Mat ((w.setCell ⟨O, k, none⟩ (.slice (some ⟨g a, 0, none⟩) n (c a))).setCell ⟨O, a, none⟩ (.slice (some ⟨g k, 0, none⟩) n (c k))) O (fun i => g (sw k a i)) (fun i => c (sw k a i)) m n (fun i j => M (sw k a i) j) := by
  refine ⟨fun i hi => ?_, fun i hi => ?_, fun i j hi hj => ?_, fun i j hi hj => ?_, fun i hi => h.le _ (sw_lt hk ha hi), fun i j hi hj e => sw_inj (h.inj _ _ (sw_lt hk ha hi) (sw_lt hk ha hj) e), fun i hi => h.ne _ (sw_lt hk ha hi), fun i hi => by simpa using h.lt _ (sw_lt hk ha hi), by simpa using h.olt⟩
  · have hc : ((w.setCell ⟨O, k, none⟩ (.slice (some ⟨g a, 0, none⟩) n (c a))).cell? ⟨O, a, none⟩).isSome = true := by
      rw [World.cell?_setCell_other w _ _ _ (fun e => hka (by injection e)), h.out a ha]; rfl
    by_cases e1 : i = a
    · subst e1
      rw [World.cell?_setCell_same' _ _ _ hc]
      unfold sw; rw [if_neg (by omega), if_pos rfl]
    · rw [World.cell?_setCell_other _ _ _ _ (fun e => e1 (by injection e with _ e2; omega))]
      by_cases e2 : i = k
      · subst e2
        rw [World.cell?_setCell_same' w _ _ (by rw [h.out i hi]; rfl)]
        unfold sw; rw [if_pos rfl]
      · rw [World.cell?_setCell_other _ _ _ _ (fun e => e2 (by injection e with _ e3; omega)), h.out i hi]
        unfold sw; rw [if_neg e2, if_neg e1]
  · rw [World.frozen?_setCell, World.frozen?_setCell]; exact h.ofree i hi
  · have hn := h.ne _ (sw_lt hk ha hi)
    rw [World.cell?_setCell_other _ _ _ _ (fun e => hn (by injection e with e1; exact e1.symm)), World.cell?_setCell_other _ _ _ _ (fun e => hn (by injection e with e1; exact e1.symm))]
    exact h.row _ j (sw_lt hk ha hi) hj
  · rw [World.frozen?_setCell, World.frozen?_setCell]; exact h.free _ j (sw_lt hk ha hi) hj
end
end Go.Proofs.YtjcdkbalhleeeaaGreatDoor

namespace Go.Proofs.YtjcdkbalhleeeaaGreatDoor
open Go.RowKit

section
variable {ops : Array Oper} {rest : List Oper} {o : Oper} {a : Act} {w : World} {Q : Exit → Act → World → Prop}
end
theorem und_rows : Tryz.prog.underlying 115 = some (.slice 25) := by kernel_rfl
theorem inf_ints : (Tryz.prog.info? 25).map (fun i => (i.zero, i.size, i.bytes)) = some (some (.slice none 0 0), 1, 24) := by kernel_rfl

theorem addz (b j : Nat) : (⟨b, 0, none⟩ : Addr).add j = ⟨b, j, none⟩ := by unfold Addr.add; split <;> simp_all
/-- A slice of slices of numbers reads as rows. -/
structure Rm (w : World) (A : Option Addr) (c : Nat) (rs : List (List Int)) : Prop where
  le : rs.length ≤ c
  cap : c ≤ 9223372036854775807
  cells : 0 < rs.length → ∃ ad, A = some ad ∧ ∀ (j : Nat) (hj : j < rs.length), ∃ A' c', w.cell? (ad.add j) = some (.slice A' rs[j].length c') ∧ Rd w A' c' rs[j]
section
variable {w w' : World} {A : Option Addr} {c : Nat} {rs : List (List Int)}
theorem Rm.keep (h : Rm w A c rs) (hk : ∀ p : Addr, p.block < w.heap.size → w'.cell? p = w.cell? p) : Rm w' A c rs :=
  ⟨h.le, h.cap, fun hl => by
    obtain ⟨ad, e, hc⟩ := h.cells hl
    refine ⟨ad, e, fun j hj => ?_⟩
    obtain ⟨A', c', h1, h2⟩ := hc j hj
    exact ⟨A', c', (hk _ (World.block_lt_of_cell? w _ h1)).trans h1, h2.keep hk⟩⟩
theorem Rm.below (h : Rm w A c rs) (hb : Below w.heap.size w w') : Rm w' A c rs := h.keep fun _ hp => hb.cell hp
theorem Rm.at_ (h : Rm w A c rs) {k : Nat} (hk : k < rs.length) : ∃ ad A' c', A = some ad ∧ w.cell? (ad.add k) = some (.slice A' rs[k].length c') ∧ Rd w A' c' rs[k] := by
  obtain ⟨ad, e, hc⟩ := h.cells (by omega)
  obtain ⟨A', c', h1, h2⟩ := hc k hk
  exact ⟨ad, A', c', e, h1, h2⟩
end
end Go.Proofs.YtjcdkbalhleeeaaGreatDoor

namespace Go.Proofs.YtjcdkbalhleeeaaGreatDoor
open Go.RowKit

/-- The call's own slice of rows: its values, and each row reads. -/
def RowsOwn (w : World) (base : Nat) (v : Value) (k : Nat) (rs : List (List Int)) : Prop :=
  rs.length = k ∧ ∃ vs : List Value, vs.length = k ∧ w.ownsRow base 25 1 v k vs ∧
    ∀ j, j < k → ∃ A' c', vs[j]? = some (.slice A' (rs.getD j []).length c') ∧ Rd w A' c' (rs.getD j []) ∧ (0 < (rs.getD j []).length → ∀ ad, A' = some ad → some ad.block ≠ v.ownBlock)
section
variable {w w' : World} {base k : Nat} {v : Value} {rs : List (List Int)}
theorem RowsOwn.nil (w : World) (base : Nat) : RowsOwn w base (.slice none 0 0) 0 [] := ⟨rfl, [], rfl, World.ownsRow_nil _ _ _ _, fun j hj => by omega⟩
theorem RowsOwn.below (h : RowsOwn w base v k rs) (hb : Below w.heap.size w w') : RowsOwn w' base v k rs := by
  obtain ⟨h1, vs, h2, h3, h4⟩ := h
  refine ⟨h1, vs, h2, own_below h3 hb, fun j hj => ?_⟩
  obtain ⟨A', c', a, b, c⟩ := h4 j hj
  exact ⟨A', c', a, b.below hb, c⟩
theorem Rd.grown {A : Option Addr} {c : Nat} {l : List Int} {row : Option Nat} (h : Rd w A c l) (hg : w.grownBy w' row) (hd : 0 < l.length → ∀ ad, A = some ad → some ad.block ≠ row) : Rd w' A c l := by
  refine ⟨h.le, h.cap, h.small, fun hl => ?_⟩
  simp only [List.length_map] at hl
  obtain ⟨ad, e, hc⟩ := h.cells (by simpa using hl)
  refine ⟨ad, e, fun j u hu => ?_⟩
  have hcu := hc j u hu
  have hlt := World.block_lt_of_cell? _ _ hcu
  have hn := hd hl ad e
  rw [← hcu]
  have hb := hg.block (ad.add j).block hlt (by rw [block_add]; exact hn)
  unfold World.cell?
  rw [hb]
theorem RowsOwn.push (h1 : rs.length = k) {vs : List Value} (h2 : vs.length = k)
    (h4 : ∀ j, j < k → ∃ A' c', vs[j]? = some (.slice A' (rs.getD j []).length c') ∧ Rd w A' c' (rs.getD j []) ∧ (0 < (rs.getD j []).length → ∀ ad, A' = some ad → some ad.block ≠ v.ownBlock))
    {A : Option Addr} {c : Nat} {r : List Int} (hr : Rd w A c r) (hd : 0 < r.length → ∀ ad, A = some ad → some ad.block ≠ v.ownBlock)
    {g cap : Nat} (hown : w'.ownsRow base 25 1 (.slice (some ⟨g, 0, none⟩) (k + 1) cap) (k + 1) (vs ++ [.slice A r.length c])) (hg : w.grownBy w' v.ownBlock) (hat : v.ownBlock = some g ∨ g = w.heap.size) :
    RowsOwn w' base (.slice (some ⟨g, 0, none⟩) (k + 1) cap) (k + 1) (rs ++ [r]) := by
  have key : ∀ {A : Option Addr} {c : Nat} {l : List Int}, Rd w A c l → (0 < l.length → ∀ ad, A = some ad → some ad.block ≠ v.ownBlock) → 0 < l.length → ∀ ad, A = some ad → some ad.block ≠ (Value.slice (some ⟨g, 0, none⟩) (k + 1) cap).ownBlock := by
    intro A c l hr hd hl ad e
    subst e
    show some ad.block ≠ some g
    rcases hat with q | q
    · rw [← q]; exact hd hl ad rfl
    · obtain ⟨ad', e', hc⟩ := hr.cells (by simpa using hl)
      cases e'
      have h0 := World.block_lt_of_cell? _ _ (hc 0 (.int .i64 l[0]) (by simp [List.getElem?_eq_getElem hl]))
      rw [block_add] at h0
      intro e; injection e with e; omega
  refine ⟨by simp [h1], _, by simp [h2], hown, fun j hj => ?_⟩
  by_cases e : j = k
  · subst e
    refine ⟨A, c, ?_, ?_, ?_⟩
    · rw [List.getElem?_append_right (by omega), h2]; simp [List.getD, h1]
    · have : (rs ++ [r]).getD j [] = r := by simp [List.getD, ← h1]
      rw [this]; exact hr.grown hg hd
    · have : (rs ++ [r]).getD j [] = r := by simp [List.getD, ← h1]
      rw [this]; exact key hr hd
  · obtain ⟨A', c', a, b, d⟩ := h4 j (by omega)
    have e2 : (rs ++ [r]).getD j [] = rs.getD j [] := by simp only [List.getD]; rw [List.getElem?_append_left (by omega)]
    rw [e2]
    refine ⟨A', c', ?_, b.grown hg d, key b d⟩
    rw [List.getElem?_append_left (by omega)]; exact a
end

/-! The document's determinant. -/
def sg : Nat → Int
  | 0 => 1
  | k + 1 => 0 - sg k
end Go.Proofs.YtjcdkbalhleeeaaGreatDoor

namespace Go.Proofs.YtjcdkbalhleeeaaGreatDoor
open Go.RowKit

section
variable {w w' : World} {base n : Nat} {e : TypeId} {v : Value} {xs : List Value}
theorem own_same (h : w.ownsRow base e 1 v n xs) (hs : ∀ b, v.ownBlock = some b → w'.heap[b]? = w.heap[b]?) : w'.ownsRow base e 1 v n xs := by
  refine ⟨h.1, ?_⟩
  rcases h.2 with q | ⟨g, cap, cur, rfl, hb, hg, r⟩
  · exact .inl q
  · exact .inr ⟨g, cap, cur, rfl, hb, (hs g rfl).trans hg, r⟩
theorem own_weak {base' : Nat} (h : w.ownsRow base e 1 v n xs) (hb : base' ≤ base) : w.ownsRow base' e 1 v n xs := by
  refine ⟨h.1, ?_⟩
  rcases h.2 with q | ⟨g, cap, cur, rfl, hb', hg, r⟩
  · exact .inl q
  · exact .inr ⟨g, cap, cur, rfl, by omega, hg, r⟩
theorem own_cell' {g cap : Nat} (h : w.ownsRow base e 1 (.slice (some ⟨g, 0, none⟩) n cap) n xs) (j : Nat) (u : Value) (hu : xs[j]? = some u) : w.cell? ⟨g, j, none⟩ = some u := by
  have := h.cells (g := g) rfl j u hu
  rwa [addz] at this
theorem own_free' {g cap : Nat} (h : w.ownsRow base e 1 (.slice (some ⟨g, 0, none⟩) n cap) n xs) (j : Nat) : w.frozen? ⟨g, j, none⟩ = false := by
  rcases h.2 with ⟨e, _⟩ | ⟨g', cap', cur, e, hb, hg, _⟩
  · injection e with e1; cases e1
  · injection e with e1
    injection e1 with e1; injection e1 with e1
    subst e1
    exact Blk.frozen (w := w) hg j
theorem own_caps {g cap : Nat} (h : w.ownsRow base e 1 (.slice (some ⟨g, 0, none⟩) n cap) n xs) : n ≤ cap ∧ cap ≤ 9223372036854775807 := by
  rcases h.2 with ⟨e, _⟩ | ⟨g', cap', cur, e, hb, hg, h1, h2, _⟩
  · injection e with e1; cases e1
  · injection e with e1 e2 e3
    subst e3
    exact ⟨h1, by unfold maxLen at h2; omega⟩
/-- A slice that owns something is somewhere. -/
theorem own_some (h : w.ownsRow base e 1 v n xs) (hn : n ≠ 0) : ∃ g c, v = .slice (some ⟨g, 0, none⟩) n c := by
  rcases h.2 with ⟨_, q⟩ | ⟨g, cap, cur, q, _⟩
  · exact absurd q hn
  · exact ⟨g, cap, q⟩
/-- One cell of an own row stored. -/
theorem own_put {g cap : Nat} (h : w.ownsRow base e 1 (.slice (some ⟨g, 0, none⟩) n cap) n xs) (k : Nat) (u : Value) :
    (w.setCell ⟨g, k, none⟩ u).ownsRow base e 1 (.slice (some ⟨g, 0, none⟩) n cap) n (xs.set k u) := by
  obtain ⟨hx, hr⟩ := h
  refine ⟨by simpa using hx, Or.inr ?_⟩
  rcases hr with ⟨q, _⟩ | ⟨g', cap', cur, q, hb, hg, hnc, hcm, hcs, htake⟩
  · injection q with e1; cases e1
  · injection q with e1 e2 e3
    injection e1 with e1; injection e1 with e1
    subst e1 e3
    refine ⟨g, cap, cur.setIfInBounds k u, rfl, hb, ?_, hnc, hcm, by simpa using hcs, ?_⟩
    · exact Blk.set0 (w := w) (t := e) hg k _
    · rw [Array.toList_setIfInBounds, List.take_set, htake]
end

/-- A slice of the call's own, of k rows of n numbers, each of the call's own. -/
structure RowsM (w : World) (base : Nat) (v : Value) (k n : Nat) (g c : Nat → Nat) (M : Nat → Nat → Int) : Prop where
  own : w.ownsRow base 25 1 v k ((List.range k).map fun i => Value.slice (some ⟨g i, 0, none⟩) n (c i))
  row : ∀ i, i < k → w.ownsRow base 2 1 (.slice (some ⟨g i, 0, none⟩) n (c i)) n ((List.range n).map fun j => Value.int .i64 (M i j))
  inj : ∀ i j, i < k → j < k → g i = g j → i = j
  ne : ∀ i, i < k → v.ownBlock ≠ some (g i)
/-- Its blocks. -/
def rowsS (v : Value) (k : Nat) (g : Nat → Nat) (b : Nat) : Prop := v.ownBlock = some b ∨ ∃ i, i < k ∧ g i = b
section
variable {w w' : World} {base k n : Nat} {v : Value} {g c : Nat → Nat} {M : Nat → Nat → Int}
theorem RowsM.nil (w : World) (base n : Nat) (g c : Nat → Nat) (M : Nat → Nat → Int) : RowsM w base (.slice none 0 0) 0 n g c M :=
  ⟨World.ownsRow_nil _ _ _ _, fun i hi => by omega, fun i j hi => by omega, fun i hi => by omega⟩
theorem RowsM.lt (h : RowsM w base v k n g c M) {b : Nat} (hb : rowsS v k g b) : base ≤ b ∧ b < w.heap.size := by
  rcases hb with hb | ⟨i, hi, rfl⟩
  · exact h.own.lt b hb
  · exact (h.row i hi).lt (g i) rfl
theorem RowsM.same (h : RowsM w base v k n g c M) (hs : ∀ b, rowsS v k g b → w'.heap[b]? = w.heap[b]?) : RowsM w' base v k n g c M :=
  ⟨own_same h.own fun b hb => hs b (.inl hb), fun i hi => own_same (h.row i hi) fun b hb => hs b (.inr ⟨i, hi, by injection hb⟩), h.inj, h.ne⟩
theorem RowsM.below (h : RowsM w base v k n g c M) {B : Nat} (hb : Below B w w') (hB : w.heap.size ≤ B) : RowsM w' base v k n g c M :=
  h.same fun b hb' => hb.block b (by have := h.lt hb'; omega)
theorem RowsM.grown (h : RowsM w base v k n g c M) {row : Option Nat} (hg : w.grownBy w' row) (hr : ∀ b, row = some b → ¬ rowsS v k g b) : RowsM w' base v k n g c M :=
  h.same fun b hb => hg.block b (h.lt hb).2 fun q => hr b q.symm hb
/-- One row more: the row lies apart, and stays; the slice has grown. -/
theorem RowsM.push (h : RowsM w base v k n g c M) {r cr o cap : Nat}
    (hr : w.ownsRow base 2 1 (.slice (some ⟨r, 0, none⟩) n cr) n ((List.range n).map fun j => Value.int .i64 (M k j))) (hn : ¬ rowsS v k g r)
    (hown : w'.ownsRow base 25 1 (.slice (some ⟨o, 0, none⟩) (k + 1) cap) (k + 1) (((List.range k).map fun i => Value.slice (some ⟨g i, 0, none⟩) n (c i)) ++ [.slice (some ⟨r, 0, none⟩) n cr]))
    (hg : w.grownBy w' v.ownBlock) (hat : v.ownBlock = some o ∨ o = w.heap.size) :
    RowsM w' base (.slice (some ⟨o, 0, none⟩) (k + 1) cap) (k + 1) n (fun i => if i = k then r else g i) (fun i => if i = k then cr else c i) M := by
  have hlt : r < w.heap.size := (hr.lt r rfl).2
  have ho : ∀ i, i < k → o ≠ g i := fun i hi e => by
    rcases hat with q | q
    · exact h.ne i hi (by rw [q, e])
    · have := ((h.row i hi).lt (g i) rfl).2; omega
  have hor : o ≠ r := fun e => by
    rcases hat with q | q
    · exact hn (.inl (by rw [q, e]))
    · omega
  refine ⟨?_, fun i hi => ?_, fun i j hi hj e => ?_, fun i hi => ?_⟩
  · have e1 : ((List.range (k + 1)).map fun i => Value.slice (some ⟨if i = k then r else g i, 0, none⟩) n (if i = k then cr else c i)) = ((List.range k).map fun i => Value.slice (some ⟨g i, 0, none⟩) n (c i)) ++ [.slice (some ⟨r, 0, none⟩) n cr] := by
      rw [List.range_succ, List.map_append]
      congr 1
      · apply List.map_congr_left
        intro i hi
        have : i < k := by simpa using hi
        rw [if_neg (by omega), if_neg (by omega)]
      · simp
    show w'.ownsRow base 25 1 _ _ ((List.range (k + 1)).map fun i => Value.slice (some ⟨if i = k then r else g i, 0, none⟩) n (if i = k then cr else c i))
    rw [e1]; exact hown
  · by_cases e : i = k
    · subst e
      simp only [if_true]
      exact own_same hr fun b hb => hg.block b (hr.lt b hb).2 fun q => hn (.inl (q.symm.trans hb.symm))
    · simp only [e, if_false]
      have hik : i < k := by omega
      exact own_same (h.row i hik) fun b hb => hg.block b ((h.row i hik).lt b hb).2 fun q => h.ne i hik (q.symm.trans hb.symm)
  · by_cases e1 : i = k <;> by_cases e2 : j = k <;> simp only [e1, e2, if_true, if_false] at e
    · omega
    · exact absurd (.inr ⟨j, by omega, e.symm⟩) hn
    · exact absurd (.inr ⟨i, by omega, e⟩) hn
    · exact h.inj i j (by omega) (by omega) e
  · show (some o : Option Nat) ≠ some (if i = k then r else g i)
    intro q
    injection q with q
    by_cases e : i = k
    · rw [if_pos e] at q; exact hor q
    · rw [if_neg e] at q; exact ho i (by omega) q
theorem RowsM.S_push {r o cap : Nat} {b : Nat} (hb : rowsS (.slice (some ⟨o, 0, none⟩) (k + 1) cap) (k + 1) (fun i => if i = k then r else g i) b) : b = o ∨ b = r ∨ rowsS v k g b := by
  rcases hb with hb | ⟨i, hi, rfl⟩
  · left; exact (Option.some.inj hb).symm
  · by_cases e : i = k
    · right; left; simp [e]
    · right; right; exact .inr ⟨i, by omega, by simp [e]⟩
theorem RowsM.mat {O cap m : Nat} (h : RowsM w base (.slice (some ⟨O, 0, none⟩) m cap) m n g c M) : Mat w O g c m n M :=
  ⟨fun i hi => own_cell' h.own i _ (by simp [hi]), fun i _ => own_free' h.own i, fun i j hi hj => own_cell' (h.row i hi) j _ (by simp [hj]), fun i j hi _ => own_free' (h.row i hi) j,
   fun i hi => own_caps (h.row i hi), h.inj, fun i hi e => h.ne i hi (by show some O = _; rw [e]), fun i hi => ((h.row i hi).lt (g i) rfl).2, (h.own.lt O rfl).2⟩
end

theorem und_i64s' : Tryz.prog.underlying 25 = some (.slice 2) := by kernel_rfl
set_option maxRecDepth 100000 in
/-- Made: n numbers, all 0. -/
theorem made_i64 (w : World) (n : Nat) (z : Int) (hz : z = n) (hn : n ≤ 1000) : (Instr.makeSlice 25 (.int .i64 z) (.int .i64 z)).run Tryz.prog w = .ok (.slice (some ⟨w.heap.size, 0, none⟩) n n) (w.alloc (.cells (Array.replicate n (Value.int .i64 0)) 2)) := by
  subst hz
  obtain ⟨i, hi, hz0, hz1, hz2⟩ := info_parts inf_i64
  have := run_make (P := Tryz.prog) w 25 2 i _ und_i64s' hi hz0 .i64 .i64 n n (by omega) (Int.le_refl _) (by rw [hz2]; omega) (by omega)
  rw [this, hz1]
  simp only [Int.toNat_natCast, Nat.mul_one]
  congr 3
  simp only [madeCells, Value.cells]
  apply Array.ext_getElem?
  intro j
  by_cases hj : j < n
  · simp [hj, Nat.mod_one]
  · simp [hj]
theorem own_made (w : World) (base n g : Nat) (hg : g = w.heap.size) (hb : base ≤ g) (hn : n ≤ 1000) : (w.alloc (.cells (Array.replicate n (Value.int .i64 0)) 2)).ownsRow base 2 1 (.slice (some ⟨g, 0, none⟩) n n) n ((List.replicate n (0 : Int)).map (Value.int .i64)) := by
  subst hg
  refine ⟨by simp, Or.inr ⟨_, n, _, rfl, hb, heap_alloc_new w _, Nat.le_refl _, by unfold maxLen; omega, by simp, by simp⟩⟩
end Go.Proofs.YtjcdkbalhleeeaaGreatDoor

namespace Go.Proofs.YtjcdkbalhleeeaaGreatDoor
open Go.RowKit

theorem und_rowsT : Tryz.prog.underlying 26 = some (.slice 91) := by kernel_rfl
theorem inf_rowT : (Tryz.prog.info? 91).map (fun i => (i.zero, i.size, i.bytes)) = some (some (.agg #[.slice none 0 0, .int .i64 0]), 2, 32) := by kernel_rfl
/-- The rows' cells, of the first k. -/
def rowCells (As : Nat → Option Addr) (cs : Nat → Nat) (p : PG) (b : List Int) : Nat → List Value
  | 0 => []
  | k + 1 => rowCells As cs p b k ++ [.slice (As k) (p.rows.getD k ([], 0)).1.length (cs k), .int .i64 (b.getD k 0)]
theorem rowCells_len (As : Nat → Option Addr) (cs : Nat → Nat) (p : PG) (b : List Int) (k : Nat) : (rowCells As cs p b k).length = k * 2 := by
  induction k with
  | zero => rfl
  | succ k ih => rw [rowCells, List.length_append, ih]; simp; omega
theorem rowCells_at (As : Nat → Option Addr) (cs : Nat → Nat) (p : PG) (b : List Int) {k i : Nat} (h : i < k) :
    (rowCells As cs p b k)[i * 2]? = some (.slice (As i) (p.rows.getD i ([], 0)).1.length (cs i)) ∧ (rowCells As cs p b k)[i * 2 + 1]? = some (.int .i64 (b.getD i 0)) := by
  induction k with
  | zero => omega
  | succ k ih =>
    have hl := rowCells_len As cs p b k
    rw [rowCells]
    by_cases e : i = k
    · subst e
      rw [List.getElem?_append_right (by omega), List.getElem?_append_right (by omega), hl]
      simp
    · obtain ⟨h1, h2⟩ := ih (by omega)
      rw [List.getElem?_append_left (by omega), List.getElem?_append_left (by omega)]
      exact ⟨h1, h2⟩
/-- They read as the rows. -/
theorem rows_read {w : World} {base g cap k : Nat} {As : Nat → Option Addr} {cs : Nat → Nat} {p : PG} {b : List Int}
    (h : w.ownsRow base 91 2 (.slice (some ⟨g, 0, none⟩) k cap) k (rowCells As cs p b k)) (hk : k ≤ 1000) (hr : ∀ i, i < k → Rd w (As i) (cs i) (p.rows.getD i ([], 0)).1) :
    Rw w (some ⟨g, 0, none⟩) cap (rowsK p b k) := by
  have hcap : k ≤ cap ∧ cap ≤ 9223372036854775807 := by
    rcases h.2 with ⟨e, _⟩ | ⟨g', cap', cur, e, hb, hg, h1, h2, _⟩
    · injection e with e1; cases e1
    · injection e with e1 e2 e3
      subst e3
      exact ⟨h1, by unfold maxLen at h2; omega⟩
  refine ⟨by rw [rowsK_len]; exact hcap.1, hcap.2, by rw [rowsK_len]; omega, fun _ => ⟨_, rfl, fun j hj => ?_⟩⟩
  have hj' : j < k := by rwa [rowsK_len] at hj
  obtain ⟨c1, c2⟩ := rowCells_at As cs p b hj'
  have e1 : ∀ q, (⟨g, 0, none⟩ : Addr).add q = ⟨g, q, none⟩ := fun q => by unfold Addr.add; split <;> simp_all
  have d1 := h.cells (g := g) rfl (j * 2) _ c1
  have d2 := h.cells (g := g) rfl (j * 2 + 1) _ c2
  rw [e1] at d1 d2
  have er : (rowsK p b k)[j] = ((p.rows.getD j ([], 0)).1, b.getD j 0) := by
    have := rowsK_at p b hj'
    rwa [List.getD, List.getElem?_eq_getElem hj, Option.getD_some] at this
  rw [e1, er]
  exact ⟨As j, cs j, d1, d2, hr j hj'⟩
/-- The slices of a program's rows, one by one. -/
theorem Rw.all {w : World} {A : Option Addr} {c : Nat} {rs : List (List Int × Int)} (h : Rw w A c rs) (h0 : 0 < rs.length) :
    ∃ (ad : Addr) (As : Nat → Option Addr) (cs : Nat → Nat), A = some ad ∧ ∀ j, j < rs.length → w.cell? (ad.add (j * 2)) = some (.slice (As j) (rs.getD j ([], 0)).1.length (cs j)) ∧
      w.cell? ⟨(ad.add (j * 2)).block, (ad.add (j * 2)).off + 1, none⟩ = some (.int .i64 (rs.getD j ([], 0)).2) ∧ Rd w (As j) (cs j) (rs.getD j ([], 0)).1 := by
  obtain ⟨ad, e, hc⟩ := h.cells h0
  have key : ∀ j, ∃ x : Option Addr × Nat, j < rs.length → w.cell? (ad.add (j * 2)) = some (.slice x.1 (rs.getD j ([], 0)).1.length x.2) ∧
      w.cell? ⟨(ad.add (j * 2)).block, (ad.add (j * 2)).off + 1, none⟩ = some (.int .i64 (rs.getD j ([], 0)).2) ∧ Rd w x.1 x.2 (rs.getD j ([], 0)).1 := fun j => by
    by_cases hj : j < rs.length
    · obtain ⟨A', c', h1, h2, h3⟩ := hc j hj
      refine ⟨(A', c'), fun _ => ?_⟩
      have er : rs.getD j ([], 0) = rs[j] := by simp [List.getD, List.getElem?_eq_getElem hj]
      rw [er]
      exact ⟨h1, h2, h3⟩
    · exact ⟨(none, 0), fun q => absurd q hj⟩
  exact ⟨ad, fun j => (Classical.choose (key j)).1, fun j => (Classical.choose (key j)).2, e, fun j hj => Classical.choose_spec (key j) hj⟩
theorem news2 {w : World} {b : Nat} {u v : Value} {t : TypeId} (h : Blk w b t #[u, v]) : ∀ (j : Nat) (x : Value), [u, v][j]? = some x → w.cell? ((⟨b, 0, none⟩ : Addr).add j) = some x :=
  fun j x hx => World.news_of_block (cs := #[u, v]) h j x hx
section
variable {ops : Array Oper} {o : Oper} {a : Act} {w : World} {Q : Exit → Act → World → Prop}
theorem step_appRow {K : Act → World → Prop} {E' : Prop} (hgd : o.guard = none) (s x : Operand)
    (ho : o.op = .call { callee := .builtin .append, args := #[s, x], argTypes := #[26, 26] })
    (base : Nat) (v : Value) (n : Nat) (xs : List Value) (u1 u2 : Value) (hs : a.eval s = v) (hown : w.ownsRow base 91 2 v n xs)
    (b c : Nat) (hx : a.eval x = .slice (some ⟨b, 0, none⟩) 1 c) (hb : ∀ (j : Nat) (x : Value), [u1, u2][j]? = some x → w.cell? ((⟨b, 0, none⟩ : Addr).add j) = some x) (h1 : u1.oneCell' = true) (h2 : u2.oneCell' = true)
    (hn : n ≤ 100) (hbase : base ≤ w.heap.size)
    (h : ∀ g cap w', w'.ownsRow base 91 2 (.slice (some ⟨g, 0, none⟩) (n + 1) cap) (n + 1) (xs ++ [u1, u2]) → w.grownBy w' v.ownBlock → (v.ownBlock = some g ∨ g = w.heap.size) → g < w'.heap.size → K (a.put o.dst (.slice (some ⟨g, 0, none⟩) (n + 1) cap)) w') :
    if Region.wanted o (yielded ops a.tmps) = true then Oper.wp Tryz.prog o a w K Q else E' := by
  obtain ⟨i, hi, hz0, hz1, hz2⟩ := info_parts inf_rowT
  exact step_append_lies w hgd s x 26 ho base 91 i _ 2 32 und_rowsT hi hz0 hz1 hz2 rfl (by omega) v n xs hs hown _ 1 c [u1, u2] hx rfl hb (by simp [h1, h2]) (by omega) (by unfold maxLen; omega) (by omega) hbase _ rfl h
end
end Go.Proofs.YtjcdkbalhleeeaaGreatDoor

namespace Go.Proofs.YtjcdkbalhleeeaaGreatDoor
open Go.RowKit

theorem Rd.sameW {w w' : World} {A : Option Addr} {c : Nat} {l : List Int} (h : Rd w A c l) (hk : ∀ ad, A = some ad → ad.block < w.heap.size → w'.heap[ad.block]? = w.heap[ad.block]?) : Rd w' A c l :=
  ⟨h.le, h.cap, h.small, fun hl => by
    obtain ⟨ad, e, hc⟩ := h.cells hl
    have h0 := World.block_lt_of_cell? _ _ (hc 0 _ (List.getElem?_eq_getElem hl))
    rw [block_add] at h0
    exact ⟨ad, e, fun j u hu => (World.cell?_of_block (by rw [block_add]; exact hk ad e h0)).trans (hc j u hu)⟩⟩
/-- A row's slice's address and room, and the row. -/
abbrev RE := Option Addr × Nat × (List Int × Int)
def reCells (es : List RE) : List Value := es.flatMap fun e => [.slice e.1 e.2.2.1.length e.2.1, .int .i64 e.2.2.2]
theorem reCells_snoc (es : List RE) (e : RE) : reCells (es ++ [e]) = reCells es ++ [.slice e.1 e.2.2.1.length e.2.1, .int .i64 e.2.2.2] := by simp [reCells]
theorem reCells_at : ∀ (es : List RE) {i : Nat} (h : i < es.length), (reCells es)[i * 2]? = some (.slice es[i].1 es[i].2.2.1.length es[i].2.1) ∧ (reCells es)[i * 2 + 1]? = some (.int .i64 es[i].2.2.2)
  | [], i, h => by simp at h
  | e :: es, 0, h => by simp [reCells]
  | e :: es, i + 1, h => by
    have := reCells_at es (i := i) (by simpa using h)
    have e1 : (i + 1) * 2 = i * 2 + 2 := by omega
    rw [e1]
    simp only [reCells, List.flatMap_cons] at this ⊢
    rw [List.getElem?_append_right (by simp), List.getElem?_append_right (by simp)]
    simpa using this
/-- Rows that the call has made. -/
structure RwB (w : World) (base : Nat) (v : Value) (es : List RE) : Prop where
  own : w.ownsRow base 91 2 v es.length (reCells es)
  rd : ∀ e ∈ es, Rd w e.1 e.2.1 e.2.2.1
  ne : ∀ e ∈ es, ∀ ad, e.1 = some ad → v.ownBlock ≠ some ad.block
  lt : ∀ e ∈ es, ∀ ad, e.1 = some ad → ad.block < w.heap.size
  ge : ∀ e ∈ es, ∀ ad, e.1 = some ad → base ≤ ad.block
section
variable {w w' : World} {base : Nat} {v : Value} {es : List RE}
theorem RwB.nil (w : World) (base : Nat) : RwB w base (.slice none 0 0) [] := ⟨World.ownsRow_nil _ _ _ _, by simp, by simp, by simp, by simp⟩
theorem RwB.below (h : RwB w base v es) (hb : Below w.heap.size w w') : RwB w' base v es :=
  ⟨own_below h.own hb, fun e he => (h.rd e he).below hb, h.ne, fun e he ad ea => Nat.lt_of_lt_of_le (h.lt e he ad ea) hb.size, h.ge⟩
/-- Another cell's turn. -/
theorem RwB.same (h : RwB w base v es) (hs : ∀ b, (v.ownBlock = some b ∨ ∃ e ∈ es, ∃ ad, e.1 = some ad ∧ ad.block = b) → w'.heap[b]? = w.heap[b]?) (hz : w.heap.size ≤ w'.heap.size) : RwB w' base v es := by
  refine ⟨?_, fun e he => (h.rd e he).sameW fun ad ea _ => hs _ (Or.inr ⟨e, he, ad, ea, rfl⟩), h.ne, fun e he ad ea => Nat.lt_of_lt_of_le (h.lt e he ad ea) hz, h.ge⟩
  rcases h.own with ⟨h1, h2⟩
  refine ⟨h1, ?_⟩
  rcases h2 with h2 | ⟨g, cap, cur, e1, e2, e3, e4⟩
  · exact Or.inl h2
  · exact Or.inr ⟨g, cap, cur, e1, e2, (hs g (Or.inl (by rw [e1]; rfl))).trans e3, e4⟩
/-- One more. -/
theorem RwB.push (h : RwB w base v es) {A : Option Addr} {c o cap : Nat} {l : List Int} {m : Int} (hr : Rd w A c l) (hn : ∀ ad, A = some ad → v.ownBlock ≠ some ad.block) (hlt : ∀ ad, A = some ad → ad.block < w.heap.size) (hge : ∀ ad, A = some ad → base ≤ ad.block)
    (hown : w'.ownsRow base 91 2 (.slice (some ⟨o, 0, none⟩) (es.length + 1) cap) (es.length + 1) (reCells es ++ [.slice A l.length c, .int .i64 m]))
    (hg : w.grownBy w' v.ownBlock) (hat : v.ownBlock = some o ∨ o = w.heap.size) :
    RwB w' base (.slice (some ⟨o, 0, none⟩) (es.length + 1) cap) (es ++ [(A, c, (l, m))]) := by
  have hz := hg.size
  have key : ∀ (A' : Option Addr) (c' : Nat) (l' : List Int), Rd w A' c' l' → (∀ ad, A' = some ad → v.ownBlock ≠ some ad.block) → (∀ ad, A' = some ad → ad.block < w.heap.size) →
      Rd w' A' c' l' ∧ (∀ ad, A' = some ad → (Value.slice (some ⟨o, 0, none⟩) (es.length + 1) cap).ownBlock ≠ some ad.block) ∧ (∀ ad, A' = some ad → ad.block < w'.heap.size) := by
    intro A' c' l' h1 h2 h3
    refine ⟨h1.sameW fun ad e hl => hg.block _ hl fun q => h2 ad e q.symm, fun ad e q => ?_, fun ad e => Nat.lt_of_lt_of_le (h3 ad e) hz⟩
    have q' : o = ad.block := by simpa [Value.ownBlock] using q
    rcases hat with hat | hat
    · exact h2 ad e (by rw [hat, q'])
    · have := h3 ad e; omega
  have hall : ∀ e ∈ es ++ [(A, c, (l, m))], Rd w e.1 e.2.1 e.2.2.1 ∧ (∀ ad, e.1 = some ad → v.ownBlock ≠ some ad.block) ∧ (∀ ad, e.1 = some ad → ad.block < w.heap.size) := by
    intro e he
    rcases List.mem_append.1 he with he | he
    · exact ⟨h.rd e he, h.ne e he, h.lt e he⟩
    · simp at he; subst he; exact ⟨hr, hn, hlt⟩
  refine ⟨by rw [reCells_snoc, List.length_append]; exact hown, fun e he => ?_, fun e he => ?_, fun e he => ?_, fun e he => ?_⟩
  · obtain ⟨a, b, d⟩ := hall e he; exact (key _ _ _ a b d).1
  · obtain ⟨a, b, d⟩ := hall e he; exact (key _ _ _ a b d).2.1
  · obtain ⟨a, b, d⟩ := hall e he; exact (key _ _ _ a b d).2.2
  · rcases List.mem_append.1 he with he | he
    · exact h.ge e he
    · simp at he; subst he; exact hge
/-- They read as rows. -/
theorem RwB.read (h : RwB w base v es) (hk : es.length ≤ 4398046511104) : ∃ A c, v = .slice A es.length c ∧ Rw w A c (es.map (·.2.2)) := by
  rcases h.own.2 with ⟨rfl, h0⟩ | ⟨g, cap, cur, rfl, hb, hg, h1, h2, _⟩
  · have : es = [] := List.eq_nil_of_length_eq_zero h0
    subst this
    exact ⟨none, 0, rfl, ⟨by simp, by omega, by simp, fun h => by simp at h⟩⟩
  · refine ⟨_, cap, rfl, by rw [List.length_map]; exact h1, by unfold maxLen at h2; omega, by rw [List.length_map]; omega, fun _ => ⟨_, rfl, fun j hj => ?_⟩⟩
    have hj' : j < es.length := by simpa using hj
    obtain ⟨c1, c2⟩ := reCells_at es hj'
    have e1 : ∀ q, (⟨g, 0, none⟩ : Addr).add q = ⟨g, q, none⟩ := fun q => by unfold Addr.add; split <;> simp_all
    have d1 := h.own.cells (g := g) rfl (j * 2) _ c1
    have d2 := h.own.cells (g := g) rfl (j * 2 + 1) _ c2
    rw [e1] at d1 d2
    rw [e1, List.getElem_map]
    exact ⟨_, _, d1, d2, h.rd _ (List.getElem_mem hj')⟩
end
theorem step_appW {ops : Array Oper} {K : Act → World → Prop} {E' : Prop} {o : Oper} {a : Act} {w : World} {Q : Exit → Act → World → Prop} (hgd : o.guard = none) (s x : Operand)
    (ho : o.op = .call { callee := .builtin .append, args := #[s, x], argTypes := #[26, 26] })
    (base : Nat) (v : Value) (n : Nat) (xs : List Value) (u1 u2 : Value) (hs : a.eval s = v) (hown : w.ownsRow base 91 2 v n xs)
    (b c : Nat) (hx : a.eval x = .slice (some ⟨b, 0, none⟩) 1 c) (hb : Blk w b 91 #[u1, u2]) (h1 : u1.oneCell' = true) (h2 : u2.oneCell' = true)
    (hn : n ≤ 2199023255552) (hbase : base ≤ w.heap.size)
    (h : ∀ g cap w', w'.ownsRow base 91 2 (.slice (some ⟨g, 0, none⟩) (n + 1) cap) (n + 1) (xs ++ [u1, u2]) → w.grownBy w' v.ownBlock → (v.ownBlock = some g ∨ g = w.heap.size) → g < w'.heap.size → K (a.put o.dst (.slice (some ⟨g, 0, none⟩) (n + 1) cap)) w') :
    if Region.wanted o (yielded ops a.tmps) = true then Oper.wp Tryz.prog o a w K Q else E' := by
  obtain ⟨i, hi, hz0, hz1, hz2⟩ := info_parts inf_rowT
  exact step_append_lies w hgd s x 26 ho base 91 i _ 2 32 und_rowsT hi hz0 hz1 hz2 rfl (by omega) v n xs hs hown ⟨b, 0, none⟩ 1 c [u1, u2] hx rfl (news2 hb) (by simp [h1, h2]) (by omega) (by unfold maxLen; omega) (by omega) hbase _ rfl h
/-- A program under way, in the box b: what it has lies at base and beyond. -/
structure PgW (w : World) (b base : Nat) (A : Option Addr) (c : Nat) (v : Value) (es : List RE) (q : PG) : Prop where
  blk : Blk w b 28 #[.slice A q.costs.length c, v]
  below : b < base
  rd : Rd w A c q.costs
  ge : ∀ ad, A = some ad → base ≤ ad.block
  lt : ∀ ad, A = some ad → ad.block < w.heap.size
  ne : ∀ ad, A = some ad → v.ownBlock ≠ some ad.block
  rows : RwB w base v es
  eq : es.map (·.2.2) = q.rows
section
variable {w w' : World} {b base c : Nat} {A : Option Addr} {v : Value} {es : List RE} {q : PG}
theorem PgW.start (h : Blk w b 28 #[.slice none 0 0, .slice none 0 0]) (hb : b < base) : PgW w b base none 0 (.slice none 0 0) [] ⟨[], []⟩ :=
  ⟨h, hb, Rd.nil w, by simp, by simp, by simp, RwB.nil w base, rfl⟩
theorem PgW.next (h : PgW w b base A c v es q) (hb : Below w.heap.size w w') : PgW w' b base A c v es q :=
  ⟨h.blk.next hb, h.below, h.rd.below hb, h.ge, fun ad e => Nat.lt_of_lt_of_le (h.lt ad e) hb.size, h.ne, h.rows.below hb, h.eq⟩
/-- Other costs, in new memory. -/
theorem PgW.costs {w0 : World} (h : PgW w0 b base A c v es q) (hb : Below w0.heap.size w0 w) (hz : base ≤ w0.heap.size) {A' : Option Addr} {c' : Nat} {l : List Int} (hr : Rd w A' c' l) (hA : ∀ ad, A' = some ad → w0.heap.size ≤ ad.block ∧ ad.block < w.heap.size) :
    PgW (w.setCell ⟨b, 0, none⟩ (.slice A' l.length c')) b base A' c' v es ⟨l, q.rows⟩ := by
  have h1 := h.next hb
  have hs : ∀ g, base ≤ g → (w.setCell ⟨b, 0, none⟩ (.slice A' l.length c')).heap[g]? = w.heap[g]? := fun g hg => Below.heap_setCell w _ _ g (by have := h.below; show g ≠ b; omega)
  have hvb : ∀ g, v.ownBlock = some g → base ≤ g ∧ g < w0.heap.size := fun g e => h.rows.own.lt g e
  refine ⟨h1.blk.set0 0 _, h.below, hr.sameW fun ad e hl => hs _ (by have := hA ad e; omega), fun ad e => by have := hA ad e; omega, fun ad e => by simpa using (hA ad e).2, fun ad e q' => ?_, h1.rows.same ?_ (by simp), h.eq⟩
  · have := hvb _ q'; have := hA ad e; omega
  · rintro g (e | ⟨x, hx, ad, e, rfl⟩)
    · exact hs g (hvb g e).1
    · exact hs _ (h.rows.ge x hx ad e)
/-- One row more, whose slice is new memory. -/
theorem PgW.row {w0 w5 : World} (h : PgW w0 b base A c v es q) (hb : Below w0.heap.size w0 w) (hz : base ≤ w0.heap.size) {A' : Option Addr} {c' o cap : Nat} {l : List Int} {m : Int} (hr : Rd w A' c' l) (hA : ∀ ad, A' = some ad → w0.heap.size ≤ ad.block ∧ ad.block < w.heap.size)
    (hown : w5.ownsRow base 91 2 (.slice (some ⟨o, 0, none⟩) (es.length + 1) cap) (es.length + 1) (reCells es ++ [.slice A' l.length c', .int .i64 m]))
    (hg : w.grownBy w5 v.ownBlock) (hat : v.ownBlock = some o ∨ o = w.heap.size) :
    PgW (w5.setCell ⟨b, 1, none⟩ (.slice (some ⟨o, 0, none⟩) (es.length + 1) cap)) b base A c (.slice (some ⟨o, 0, none⟩) (es.length + 1) cap) (es ++ [(A', c', (l, m))]) ⟨q.costs, q.rows ++ [(l, m)]⟩ := by
  have h1 := h.next hb
  have hvb : ∀ g, v.ownBlock = some g → base ≤ g ∧ g < w0.heap.size := fun g e => h.rows.own.lt g e
  have hbz := hb.size
  have hp := h1.rows.push (w' := w5) (m := m) hr (fun ad e q' => by have := hvb _ q'; have := hA ad e; omega) (fun ad e => (hA ad e).2) (fun ad e => by have := hA ad e; omega) hown hg hat
  have hs : ∀ g, base ≤ g → (w5.setCell ⟨b, 1, none⟩ (.slice (some ⟨o, 0, none⟩) (es.length + 1) cap)).heap[g]? = w5.heap[g]? := fun g hg => Below.heap_setCell w5 _ _ g (by have := h.below; show g ≠ b; omega)
  have hkeep : ∀ ad, A = some ad → w5.heap[ad.block]? = w.heap[ad.block]? := fun ad e => hg.block _ (h1.lt ad e) fun q' => h1.ne ad e q'.symm
  have hbl : Blk w5 b 28 #[.slice A q.costs.length c, v] := (hg.block b (h1.blk.lt) (fun q' => by have := hvb _ q'.symm; have := h.below; omega)).trans h1.blk
  have hz5 := hg.size
  refine ⟨hbl.set0 1 _, h.below, (h1.rd.sameW fun ad e _ => hkeep ad e).sameW fun ad e _ => hs _ (h.ge ad e), h.ge, fun ad e => by have := h1.lt ad e; simp; omega, fun ad e q' => ?_, hp.same ?_ (by simp), by rw [List.map_append, h.eq]; rfl⟩
  · have q2 : o = ad.block := by simpa [Value.ownBlock] using q'
    rcases hat with hat | hat
    · exact h1.ne ad e (by rw [hat, q2])
    · have := h1.lt ad e; omega
  · rintro g (e | ⟨x, hx, ad, e, rfl⟩)
    · exact hs g (hp.own.lt g e).1
    · exact hs _ (hp.ge x hx ad e)
/-- Another box's turn. -/
theorem PgW.far (h : PgW w b base A c v es q) (p : Addr) (u : Value) (hp : p.block < base) (hne : p.block ≠ b) : PgW (w.setCell p u) b base A c v es q := by
  have hs : ∀ g, base ≤ g → (w.setCell p u).heap[g]? = w.heap[g]? := fun g hg => Below.heap_setCell w _ _ g (by omega)
  refine ⟨h.blk.far _ (fun e => hne e.symm), h.below, h.rd.sameW fun ad e _ => hs _ (h.ge ad e), h.ge, fun ad e => by simpa using h.lt ad e, h.ne, h.rows.same ?_ (by simp), h.eq⟩
  rintro g (e | ⟨x, hx, ad, e, rfl⟩)
  · exact hs g (h.rows.own.lt g e).1
  · exact hs _ (h.rows.ge x hx ad e)
theorem PgW.read (h : PgW w b base A c v es q) (hk : es.length ≤ 4398046511104) : ∃ A2 c2, v = .slice A2 q.rows.length c2 ∧ Pg w A c A2 c2 q := by
  obtain ⟨A2, c2, rfl, hr⟩ := h.rows.read hk
  rw [h.eq] at hr
  refine ⟨A2, c2, ?_, h.rd, hr⟩
  rw [← h.eq, List.length_map]
end
end Go.Proofs.YtjcdkbalhleeeaaGreatDoor
