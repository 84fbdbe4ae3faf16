/-
  Walk: the document's put makes rows with one column in the place of another one.
-/
import Derived.Test.YtjcdkbalhleeeabDet3
namespace Go.Proofs.Ytjcdkbalhleeeab
open Go.RowKit

/-- Rows with one number of each in the place of another one. -/
def putF (l : List (List Int)) (k : Nat) (col : List Int) : List (List Int) := (List.range l.length).map fun i => (l.getD i []).set k (col.getD i 0)
/-- Rows are handed back, in new memory. -/
def RetRm (w : World) (rs : List (List Int)) (e : Ending) (w' : World) : Prop := ∃ A c, e = .returned (.slice A rs.length c) ∧ Rm w' A c rs ∧ Below w.heap.size w w'
theorem own_cell {w : World} {base g n cap : Nat} {e : TypeId} {xs : List Value} (h : w.ownsRow base e 1 (.slice (some ⟨g, 0, none⟩) n cap) n xs) (j : Nat) (u : Value) (hu : xs[j]? = some u) : w.cell? ⟨g, j, none⟩ = some u := by
  have := h.cells (g := g) rfl j u hu
  rwa [addz] at this
theorem own_free {w : World} {base g n cap : Nat} {e : TypeId} {xs : List Value} (h : w.ownsRow base e 1 (.slice (some ⟨g, 0, none⟩) n cap) n xs) (j : Nat) : w.frozen? ⟨g, j, none⟩ = false := by
  rcases h.2 with ⟨e, _⟩ | ⟨g', cap', cur, e, hb, hg, _⟩
  · injection e with e1; cases e1
  · injection e with e1
    injection e1 with e1; injection e1 with e1
    subst e1
    exact Blk.frozen (w := w) hg j
theorem own_set {w : World} {base g n cap : Nat} {l : List Int} (h : w.ownsRow base 2 1 (.slice (some ⟨g, 0, none⟩) n cap) n (l.map (Value.int .i64))) (k : Nat) (z : Int) :
    (w.setCell ⟨g, k, none⟩ (.int .i64 z)).ownsRow base 2 1 (.slice (some ⟨g, 0, none⟩) n cap) n ((l.set k z).map (Value.int .i64)) := by
  obtain ⟨hx, hr⟩ := h
  refine ⟨by simpa using hx, Or.inr ?_⟩
  rcases hr with ⟨e, _⟩ | ⟨g', cap', cur, e, hb, hg, hnc, hcm, hcs, htake⟩
  · injection e with e1; cases e1
  · injection e with e1 e2 e3
    injection e1 with e1; injection e1 with e1
    subst e1 e3
    refine ⟨g, cap, cur.setIfInBounds k (.int .i64 z), rfl, hb, ?_, hnc, hcm, by simpa using hcs, ?_⟩
    · exact Blk.set0 (w := w) (t := 2) hg k _
    · simp only [List.length_map] at hx
      rw [Array.toList_setIfInBounds, List.take_set, htake, List.map_set]

set_option maxRecDepth 100000 in
set_option maxHeartbeats 2000000 in
theorem ref3_put (l : List (List Int)) (A : Option Addr) (c k : Nat) (C : Option Addr) (cc : Nat) (col : List Int) (m : Nat) (w : World) (h1 : 1 ≤ m) (h4 : m ≤ 4) (hl : l.length = m) (hrl : ∀ r ∈ l, r.length = m) (hk : k < m) (hcl : m ≤ col.length) (hr : Rm w A c l) (hc : Rd w C cc col) :
    Calls Try.prog 86 #[.slice A m c, .int .i64 k, .slice C col.length cc] w (RetRm w (putF l k col)) := by
  have HR := Lib.hid hr
  have HC := Lib.hid hc
  have HRL := Lib.hid hrl
  have HL := Lib.hid hl
  have hlc := hr.cap
  have hll : m ≤ c := by have := hr.le; omega
  obtain ⟨hc1, hc2, hc3, _⟩ := hc
  clear hr hrl hl
  go_enter Try.func86, Try.ntmps86
  go_wp2_with fail
  go_loopw [7, 8] (fun v i wx => ∃ q : Nat, q ≤ m ∧ i = .int .i64 q ∧ RowsOwn wx w.heap.size v q (((List.range q).map fun i => (l.getD i []).set k (col.getD i 0))) ∧ Below w.heap.size w wx) (fun _ i _ => m - (intOf i).toNat)
  case atStart => exact ⟨0, by omega, rfl, RowsOwn.nil _ _, Below.refl _ _⟩
  case round =>
    obtain ⟨q, hq, rfl, hown, hbel⟩ := hrel
    have HO := Lib.hid hown
    have HB := Lib.hid hbel
    have zB := hbel.size
    have HRx := Lib.hid (HR.out.below hbel)
    have HCx := Lib.hid (HC.out.below hbel)
    clear hown hbel
    rename World => U
    by_cases hqn : q < m
    · have hql : q < l.length := by have := HL.out; omega
      obtain ⟨ad, A', c', rfl, hd1, hrd⟩ := HRx.out.at_ hql
      have hlq : l[q]'hql ∈ l := List.getElem_mem hql
      have hrow := HRL.out _ hlq
      have hadl := World.block_lt_of_cell? _ _ hd1
      have hqe : l.getD q [] = l[q]'hql := by simp [List.getD, List.getElem?_eq_getElem hql]
      generalize hrq : l[q]'hql = row at *
      have hrc2 := hrd.cap
      have hnc : m ≤ c' := by have := hrd.le; omega
      obtain ⟨ad', rfl, hx0⟩ := hrd.at_ (k := 0) (by omega)
      obtain ⟨ac, rfl, hcc⟩ := HCx.out.at_ (k := q) (by omega)
      have hacl := World.block_lt_of_cell? _ _ hcc
      have hcq : col.getD q 0 = col[q]'(by omega) := by simp [List.getD, List.getElem?_eq_getElem (show q < col.length by omega)]
      rw [← hcq] at hcc
      have HRD := Lib.hid hrd
      have hi0 : (q : Int) < (m : Int) := by omega
      have hi1 : (q : Int) < (col.length : Int) := by omega
      have hi2 : (k : Int) < (m : Int) := by omega
      rw [hrow] at hd1
      have HROW := Lib.hid hrow
      have HQE := Lib.hid hqe
      obtain ⟨hO1, vs, hO2, hO3, hO4⟩ := HO.out
      have HO3 := Lib.hid hO3
      have HO4 := Lib.hid hO4
      have HO1 := Lib.hid hO1
      have HO2 := Lib.hid hO2
      generalize hzz : col.getD q 0 = z at *
      have HZ := Lib.hid hzz
      clear hzz
      clear hrd hrow hlq hx0 hqe hcq hO1 hO2 hO3 hO4
      go_wp2_with (first
        | (at_builtin; refine list_appM rfl (.tmp 16) (.tmp 20) _ _ _ 8 und_i64s inf_i64 rfl rfl U.heap.size (.slice (some ⟨U.heap.size, 0, none⟩) 0 0) 0 [] rfl (own_empty _ _ _ _ rfl (Nat.le_refl _)) (fun e => by cases e) (some ad') m _ (row.map (Value.int .i64)) rfl (by have := HROW.out; rw [List.length_map]; omega) (fun e => by cases e) (HRD.out.alloc _).cells (one_ints _) (by unfold maxLen; omega) (by omega) (by simp) ?_; intro g3 cap3 w3 hown3 hg3 hat3 hlt3; simp only [Nat.zero_add, List.nil_append] at hown3; have z3 := hg3.size; have hb3 : Below U.heap.size U w3 := ((Below.refl _ U).alloc (Nat.le_refl _) _).grown hg3 (by simp) (fun j e => by cases e; exact Nat.le_refl _); have hc3 : w3.cell? (ac.add q) = some (.int .i64 z) := (hb3.cell hacl).trans hcc; have G3 := (hown3.lt g3 rfl).1; have hkr : k < row.length := (by have := HROW.out; omega); have f3 : w3.frozen? ⟨g3, k, none⟩ = false := own_free hown3 k; have d3 : w3.cell? ⟨g3, k, none⟩ = some (.int .i64 (row[k]'hkr)) := own_cell hown3 k _ (by simp [List.getElem?_eq_getElem hkr]); have HW3 := Lib.hid hown3; have HB3 := Lib.hid hb3; clear hown3 hg3 hb3)
        | (at_builtin; refine list_app1 rfl (.tmp 29) (.tmp 31) _ _ _ 24 und_rows inf_ints rfl rfl w.heap.size u7 q vs _ rfl (own_below (own_below HO3.out (HB3.out.setCell (p := ⟨g3, k, none⟩) G3 _)) (by exact (Below.refl _ _).alloc (Nat.le_refl _) _)) _ 1 rfl (cell_new1b _ _ _ _ (by simp)) rfl (by unfold maxLen; omega) (by omega) (by have := HB3.out.size; simp; omega) ?_; intro g5 cap5 w5 hown5 hg5 hat5 hlt5; have z5 := hg5.size; have HW5 := Lib.hid hown5; have HG5 := Lib.hid hg5; clear hown5 hg5))
      go_roundw
      case rel =>
        have hb4 : Below U.heap.size U ((w3.setCell ⟨g3, k, none⟩ (.int .i64 z)).alloc (.cells #[.slice (some ⟨g3, 0, none⟩) m cap3] 22)) := (HB3.out.setCell (p := ⟨g3, k, none⟩) G3 _).alloc (by have := HB3.out.size; simp; omega) _
        have hlen : (row.set k z).length = m := by rw [List.length_set]; exact HROW.out
        have hr4 : Rd (w3.setCell ⟨g3, k, none⟩ (.int .i64 z)) (some ⟨g3, 0, none⟩) cap3 (row.set k z) := Rd.of_own (base := U.heap.size) (e := 2) (by rw [hlen]; exact own_set HW3.out k z) (by omega)
        have hp := RowsOwn.push (rs := (List.range q).map fun i => (l.getD i []).set k (col.getD i 0)) HO1.out HO2.out
          (fun j hj => by
            obtain ⟨a1, a2, a3, a4, a5⟩ := HO4.out j hj
            exact ⟨a1, a2, a3, a4.below hb4, a5⟩) (hr4.below ((Below.refl _ _).alloc (Nat.le_refl _) _)) (fun _ ad e => by
            cases e
            intro he
            have := (HO3.out.lt g3 he.symm).2
            omega) (by rw [hlen]; exact HW5.out) HG5.out (by simpa using hat5)
        have hel : ((List.range q).map fun i => (l.getD i []).set k (col.getD i 0)) ++ [row.set k z] = (List.range (q + 1)).map fun i => (l.getD i []).set k (col.getD i 0) := by
          rw [List.range_succ, List.map_append, ← HQE.out, ← HZ.out]; rfl
        rw [hel] at hp
        exact ⟨q + 1, by omega, by go_num, hp, (HB.out.trans (hb4.mono zB)).grown HG5.out (by have := hb4.size; omega) (own_ge HO3.out (Nat.le_refl _))⟩
      case measure => simp [intOf]; omega
    · obtain rfl : q = m := by omega
      have hO := HO.out
      obtain ⟨A6, c6, hv6, hR6⟩ := hO.reads (by omega)
      subst hv6
      have HR6 := Lib.hid hR6
      have hpl : (putF l k col).length = q := by unfold putF; have := HL.out; simpa using this
      have hpe : ((List.range q).map fun i => (l.getD i []).set k (col.getD i 0)) = putF l k col := by unfold putF; rw [HL.out]
      have HPL := Lib.hid hpl
      have HPE := Lib.hid hpe
      clear hO hR6 hpl hpe
      go_wp2_with fail
      go_ret
      exact ⟨A6, c6, by rw [HPL.out]; rfl, by rw [← HPE.out]; exact HR6.out, (by (repeat (any_goals (first | exact Below.refl _ _ | exact HB.out | refine below_drewN ?_ _ | refine Below.drew ?_ | refine Below.alloc ?_ ?_ _ | refine Below.setCell ?_ ?_ _ | refine Below.trans ?_ (Below.mono HB.out ?_)))); all_goals (first | omega | (simp; done) | (simp; omega) | ((try have z0 := HB.out.size); (try simp at z0); (try simp); omega)))⟩
end Go.Proofs.Ytjcdkbalhleeeab
