/-
  Walks: the keep package's at, and the document's In, compute what the plain words say.
-/
import Derived.Test.YtjcdkbalhleeeaaSpan3
import Derived.Test.YtjcdkbalhleeeaaSpanU
namespace Go.Proofs.Ytjcdkbalhleeeaa
open Go.RowKit

/-- Costs along the line, of the first k. -/
def lineL (p : PG) (b : List Int) (n d : Int) (k : Nat) : List Int := (List.range k).map fun i => d * p.costs.getD i 0 + n * b.getD i 0
theorem lineL_succ (p : PG) (b : List Int) (n d : Int) (k : Nat) : (lineL p b n d (k + 1)).map (Value.int .i64) = (lineL p b n d k).map (Value.int .i64) ++ [.int .i64 (d * p.costs.getD k 0 + n * b.getD k 0)] := by
  unfold lineL; rw [List.range_succ, List.map_append, List.map_append]; rfl
theorem lineL_len (p : PG) (b : List Int) (n d : Int) (k : Nat) : (lineL p b n d k).length = k := by simp [lineL]
/-- A program is handed back, its costs in new memory. -/
def RetPr (w : World) (A2 : Option Addr) (m c2 : Nat) (e : List Int) (en : Ending) (w' : World) : Prop :=
  ∃ E ce, en = .returned (.agg #[.slice E e.length ce, .slice A2 m c2]) ∧ Rd w' E ce e ∧ Below w.heap.size w w'

set_option maxRecDepth 100000 in
set_option maxHeartbeats 2000000 in
theorem keep_at (A : Option Addr) (c : Nat) (A2 : Option Addr) (c2 : Nat) (p : PG) (B : Option Addr) (b : List Int) (cb : Nat) (n d : Int) (w : World) (hp : Pg w A c A2 c2 p) (hb : Rd w B cb b) (hbl : b.length = p.costs.length) (h4 : p.costs.length ≤ 4)
    (hs : smallB 12 p.costs = true) (hbs : smallB 12 b = true) (hn : -16 ≤ n ∧ n ≤ 16) (hd : 1 ≤ d ∧ d ≤ 16) :
    Calls Try.prog 36 #[.agg #[.slice A p.costs.length c, .slice A2 p.rows.length c2], .slice B b.length cb, .int .i64 n, .int .i64 d] w (RetPr w A2 p.rows.length c2 (lineL p b n d p.costs.length)) := by
  have HP := Lib.hid hp
  have HD := Lib.hid hb
  have HBL := Lib.hid hbl
  have HS := Lib.hid hs
  have HBS := Lib.hid hbs
  obtain ⟨⟨hl, hc, hsm, _⟩, ⟨hl2, hc2, hsm2, _⟩⟩ := hp
  obtain ⟨hbl', hbc, hbs', _⟩ := hb
  obtain ⟨hn1, hn2⟩ := hn
  obtain ⟨hd1, hd2⟩ := hd
  clear hbl hs hbs
  go_enter Try.func36, Try.ntmps36
  go_wp2_with fail
  have BP := Lib.hid (show Blk (((w.alloc (.cells #[.slice A p.costs.length c, .slice A2 p.rows.length c2] 40)).alloc (.cells #[.slice none 0 0, .slice none 0 0] 40)).alloc (.cells #[.slice none 0 0, .slice A2 p.rows.length c2] 40)) w.heap.size 40 #[.slice A p.costs.length c, .slice A2 p.rows.length c2] from ((Blk.mk' _ _ _).alloc _).alloc _)
  have BR := Lib.hid (show Blk (((w.alloc (.cells #[.slice A p.costs.length c, .slice A2 p.rows.length c2] 40)).alloc (.cells #[.slice none 0 0, .slice none 0 0] 40)).alloc (.cells #[.slice none 0 0, .slice A2 p.rows.length c2] 40)) (w.heap.size + 1) 40 #[.slice none 0 0, .slice none 0 0] from (Blk.new _ _ _ _ (by simp)).alloc _)
  have BQ := Lib.hid (show Blk (((w.alloc (.cells #[.slice A p.costs.length c, .slice A2 p.rows.length c2] 40)).alloc (.cells #[.slice none 0 0, .slice none 0 0] 40)).alloc (.cells #[.slice none 0 0, .slice A2 p.rows.length c2] 40)) (w.heap.size + 1 + 1) 40 #[.slice none 0 0, .slice A2 p.rows.length c2] from Blk.new _ _ _ _ (by simp))
  have HVW := Lib.hid ((by (repeat (any_goals (first | exact Below.refl _ _ | refine below_drewN ?_ _ | refine Below.drew ?_ | refine Below.alloc ?_ ?_ _ | refine Below.setCell ?_ ?_ _))); all_goals (first | omega | (simp; done) | (simp; omega))) : Below w.heap.size w (((w.alloc (.cells #[.slice A p.costs.length c, .slice A2 p.rows.length c2] 40)).alloc (.cells #[.slice none 0 0, .slice none 0 0] 40)).alloc (.cells #[.slice none 0 0, .slice A2 p.rows.length c2] 40)))
  have hzV : (((w.alloc (.cells #[.slice A p.costs.length c, .slice A2 p.rows.length c2] 40)).alloc (.cells #[.slice none 0 0, .slice none 0 0] 40)).alloc (.cells #[.slice none 0 0, .slice A2 p.rows.length c2] 40)).heap.size = w.heap.size + 1 + 1 + 1 := by simp
  generalize (((w.alloc (.cells #[.slice A p.costs.length c, .slice A2 p.rows.length c2] 40)).alloc (.cells #[.slice none 0 0, .slice none 0 0] 40)).alloc (.cells #[.slice none 0 0, .slice A2 p.rows.length c2] 40)) = V at *
  go_loopw [10] (fun i wx => ∃ (k : Nat) (v : Value), k ≤ p.costs.length ∧ i = .int .i64 k ∧ Blk wx (w.heap.size + 1 + 1) 40 #[v, .slice A2 p.rows.length c2] ∧ wx.ownsRow (w.heap.size + 1 + 1 + 1) 2 1 v k ((lineL p b n d k).map (Value.int .i64)) ∧ Below (w.heap.size + 1 + 1) V wx) (fun i _ => p.costs.length - (intOf i).toNat)
  case atStart => exact ⟨0, _, by omega, rfl, BQ.out, World.ownsRow_nil _ _ _ _, Below.refl _ _⟩
  case round =>
    obtain ⟨k, v, hk, rfl, hQ, hown, hbel⟩ := hrel
    have HQ := Lib.hid hQ
    have HO := Lib.hid hown
    have HB := Lib.hid hbel
    have zB := hbel.size
    have lQ := hQ.lt
    have p0 : (_ : World).cell? ⟨w.heap.size, 0, none⟩ = some (.slice A p.costs.length c) := (BP.out.below hbel (by omega)).cell 0
    have HWU := Lib.hid (HVW.out.trans (hbel.mono (by omega)))
    have BR1 := Lib.hid (BR.out.below hbel (by omega))
    clear hQ hown hbel
    rename World => U
    by_cases hlt : k < p.costs.length
    · have hkd : decide ((k : Int) < (p.costs.length : Int)) = true := by simp; omega
      obtain ⟨aa, rfl, hca⟩ := (HP.out.below HWU.out).costs.getDk hlt
      obtain ⟨ab, rfl, hcb⟩ := (HD.out.below HWU.out).getDk (k := k) (by rw [HBL.out]; exact hlt)
      have hal := World.block_lt_of_cell? _ _ hca
      have hbl := World.block_lt_of_cell? _ _ hcb
      have hb1 := (smallB_getD (m := 12) (by omega)).1 HS.out k
      have hb2 := (smallB_getD (m := 12) (by omega)).1 HBS.out k
      have HSU := Lib.hid (lineL_succ p b n d k)
      have e0 : U.cell? ⟨w.heap.size + 1 + 1, 0, none⟩ = some v := HQ.out.cell 0
      have e1 := HQ.out.frozen 0
      generalize p.costs.getD k 0 = xv at *
      generalize b.getD k 0 = yv at *
      obtain ⟨hm1, hm2⟩ := mul_bound d xv 16 12 (by omega) hd2 hb1.1 hb1.2
      obtain ⟨hm3, hm4⟩ := mul_bound n yv 16 12 hn1 hn2 hb2.1 hb2.2
      have hw1 : IntKind.i64.wrap (d * xv) = d * xv := IntWalk.i64_in _ (by omega)
      have hw2 : IntKind.i64.wrap (n * yv) = n * yv := IntWalk.i64_in _ (by omega)
      have hw3 : IntKind.i64.wrap (d * xv + n * yv) = d * xv + n * yv := IntWalk.i64_in _ (by omega)
      have hi0 : (k : Int) < (p.costs.length : Int) := by omega
      have hi1 : (k : Int) < (b.length : Int) := by have := HBL.out; omega
      have lQ2 : w.heap.size < U.heap.size := by omega
      clear hb1 hb2 hm1 hm2 hm3 hm4
      go_wp2_with fail
      go_region_law (refine step_app1 rfl (.tmp 22) (.tmp 37) _ _ _ 8 und_i64s inf_i64 rfl rfl (w.heap.size + 1 + 1 + 1) v k _ _ (by simp [Act.eval]) ((HO.out.drew).alloc _) _ 1 (by simp [Act.eval]) (cell_new1 _ _ _) rfl (by unfold maxLen; omega) (by omega) (by simp; omega) ?_; intro g cap w5 hown5 hg5 hat5 hlt5; have hB5 := (((HQ.out.drew).alloc _).grown hg5 (fun q => by have := (HO.out.lt _ q.symm).1; omega)); have hq0 : w5.cell? ⟨w.heap.size + 1 + 1, 0, none⟩ = some v := hB5.cell 0; have hqf := hB5.frozen 0)
      all_goals
        have HB5 := Lib.hid hB5
        have HO5 := Lib.hid hown5
        have HG5 := Lib.hid hg5
        clear hB5 hown5 hg5 hq0 hqf
        go_wp2_with fail
        go_roundw
        case rel =>
          have hb6 : Below (w.heap.size + 1 + 1) V w5 := ((HB.out.drew).alloc (by simp; omega) _).grown HG5.out (by simp; omega) (fun j e => by have := (HO.out.lt j e).1; omega)
          refine ⟨k + 1, _, by omega, by go_num, HB5.out.set0 0 _, ?_, hb6.setCell (by simp) _⟩
          rw [HSU.out]
          exact ownsRow_setCell_below HO5.out (by simp) _
        case measure => simp [intOf]; omega
    · obtain rfl : k = p.costs.length := by omega
      have hkd : decide ((p.costs.length : Int) < (p.costs.length : Int)) = false := by simp
      obtain ⟨E, ce, hv, hE, hEn⟩ := Rd.of_ownv HO.out (lineL_len _ _ _ _ _).symm (by rw [lineL_len]; omega)
      rw [lineL_len] at hv
      subst hv
      have HE := Lib.hid hE
      have HEN := Lib.hid hEn
      have e0 : U.cell? ⟨w.heap.size + 1 + 1, 0, none⟩ = some (.slice E p.costs.length ce) := HQ.out.cell 0
      have e1 : U.cell? ⟨w.heap.size + 1 + 1, 1, none⟩ = some (.slice A2 p.rows.length c2) := HQ.out.cell 1
      have r0 : U.cell? ⟨w.heap.size + 1, 0, none⟩ = some (.slice none 0 0) := BR1.out.cell 0
      have r1 : U.cell? ⟨w.heap.size + 1, 1, none⟩ = some (.slice none 0 0) := BR1.out.cell 1
      have f0 := BR1.out.frozen 0
      have f1 := BR1.out.frozen 1
      clear hE hEn
      go_wp2_with fail
      refine bodyPost_ret (v := .agg #[.slice E p.costs.length ce, .slice A2 p.rows.length c2]) ?_ ?_ ?_
      · simp [results, Try.results36, go_sem, r0, r1]
      · rfl
      · refine ⟨E, ce, by rw [lineL_len], ?_, ?_⟩
        · iterate 2 refine Rd.setCell_out ?_ _ _ (fun ad e => by have := HEN.out ad e; simp only [ne_eq]; omega)
          exact HE.out
        · iterate 2 refine Below.setCell ?_ (by first | (simp; done) | (simp; omega)) _
          exact HWU.out
end Go.Proofs.Ytjcdkbalhleeeaa
