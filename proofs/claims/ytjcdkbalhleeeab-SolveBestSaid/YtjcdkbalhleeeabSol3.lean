/-
  Solve: walk.Variables, walk.Ray, solve.stuck compute what the plain words say.
-/
import Derived.Test.YtjcdkbalhleeeabSol2
import Derived.Test.YtjcdkbalhleeeabChg1
import Derived.Test.YtjcdkbalhleeeabLkA
import Derived.Test.YtjcdkbalhleeeabPlainA
namespace Go.Proofs.Ytjcdkbalhleeeab
open Go.RowKit

/-- By how much column l k becomes less, as r grows. -/
def chN (p : PG) (l : List Nat) (r k : Nat) : Int := (lookN (qOf p r) l).xs.getD (l.getD k 0) 0
def chL (p : PG) (l : List Nat) (r : Nat) : List Int := (List.range l.length).map (chN p l r)
theorem chL_len (p : PG) (l : List Nat) (r : Nat) : (chL p l r).length = l.length := by simp [chL]
theorem chL_at {p : PG} {l : List Nat} {r k : Nat} (hk : k < l.length) : (chL p l r).getD k 0 = chN p l r k := by
  unfold chL; simp [List.getD, hk]
theorem change_n (A : Option Addr) (c : Nat) (A2 : Option Addr) (c2 : Nat) (p : PG) (L : Option Addr) (l : List Int) (cl r : Nat) (w : World) (hp : Pg w A c A2 c2 p) (hr : Rd w L cl l) (h0 : lookE p l = 0) (hj : r < 1000000) :
    Calls Try.prog 40 #[.agg #[.slice A p.costs.length c, .slice A2 p.rows.length c2], .slice L l.length cl, .int .i64 r] w fun e w' => ∃ O co, e = .returned (.tuple #[.slice O l.length co, .int .i64 (lookN (qOf p r) (nats l)).xd]) ∧
      Rd w' O co (chL p (nats l) r) ∧ Below w.heap.size w w' := by
  refine (walk_Change A c A2 c2 p L l cl r w hp hr h0 hj).mono ?_
  rintro e w' ⟨O, co, rfl, hO, hb⟩
  have hq : lookN (qOf p r) (nats l) = lookC (qOf p r) l := lookN_eq (qOf_E h0 r)
  refine ⟨O, co, by rw [hq], ?_, hb⟩
  have : (l.map fun j => (lookC (qOf p r) l).xs.getD j.toNat 0) = chL p (nats l) r := by
    unfold chL chN
    rw [hq]
    apply List.ext_getElem
    · simp [nats]
    · intro i h1 h2
      simp only [List.length_map] at h1
      simp [nats, List.getD, h1]
  rwa [this] at hO
theorem chN_small {p : PG} {l : List Nat} (hb : Bs p l) {r k : Nat} : -1073741824 ≤ chN p l r k ∧ chN p l r k ≤ 1073741824 := by
  obtain ⟨a1, a2, a3, hq⟩ := corn_of (qOf_may hb.hp r) (qOf_right hb.hr r) (by rw [qOf_den hb.hr.len]; exact hb.hd)
  exact (smallB_getD (m := 1073741824) (by omega)).1 (mayB_parts hq.mx).2.2.1 _

set_option maxRecDepth 100000 in
theorem walk_Variables (A : Option Addr) (c : Nat) (A2 : Option Addr) (c2 : Nat) (p : PG) (X Y G : Option Addr) (cx ny cy ng cg : Nat) (xs : List Int) (xd yd gd : Int) (w : World) (hp : Pg w A c A2 c2 p) (hx : Rd w X cx xs) (h0 : 0 < xs.length) (hn : p.costs.length ≤ xs.length) :
    Calls Try.prog 66 #[.agg #[.slice A p.costs.length c, .slice A2 p.rows.length c2], .agg #[.slice X xs.length cx, .int .i64 xd, .slice Y ny cy, .int .i64 yd, .slice G ng cg, .int .i64 gd]] w fun e w' =>
      e = .returned (.slice X p.costs.length cx) ∧ Below w.heap.size w w' := by
  obtain ⟨ax, rfl, _⟩ := hx.getD_at (k := 0) h0
  obtain ⟨hl, hc, hs, _⟩ := hx
  obtain ⟨⟨hl1, hc1, hsm, _⟩, ⟨hl2, hc2, hsm2, _⟩⟩ := hp
  have hcx : p.costs.length ≤ cx := by omega
  go_enter Try.func66, Try.ntmps66
  go_wp2_with fail
  go_ret
  exact ⟨rfl, (by (repeat (any_goals (first | exact Below.refl _ _ | refine below_drewN ?_ _ | refine Below.drew ?_ | refine Below.alloc ?_ ?_ _ | refine Below.setCell ?_ ?_ _))); all_goals (first | omega | (simp; done) | (simp; omega)))⟩

/-- No column makes the k-th grow. -/
def stB (p : PG) (l : List Nat) (k : Nat) : Bool := (List.range (p.costs.length + p.rows.length)).all fun j => decide (0 ≤ chN p l j k)
set_option maxRecDepth 100000 in
set_option maxHeartbeats 1000000 in
theorem solve_stuck (A : Option Addr) (c : Nat) (A2 : Option Addr) (c2 : Nat) (p : PG) (L : Option Addr) (l : List Int) (cl k : Nat) (w : World) (hp : Pg w A c A2 c2 p) (hr : Rd w L cl l) (h0 : lookE p l = 0) (hk : k < l.length) :
    Calls Try.prog 110 #[.agg #[.slice A p.costs.length c, .slice A2 p.rows.length c2], .slice L l.length cl, .int .i64 k] w fun e w' => e = .returned (.bool (stB p (nats l) k)) ∧ Below w.heap.size w w' := by
  have HP := Lib.hid hp
  have HL := Lib.hid hr
  have HN := Lib.hid (look_eq h0)
  have HL0 := Lib.hid h0
  obtain ⟨q1, q2, q3⟩ := look_parts h0
  have HB0 := Lib.hid (show Bs p (nats l) from ⟨q1, (right_nats q2).1, q3⟩)
  have h4 := (mayPB_iff.1 q1).2.2.2.1
  have h5 := (mayPB_iff.1 q1).2.1
  obtain ⟨⟨hl, hc, hsm, _⟩, ⟨hl2, hc2, hsm2, _⟩⟩ := hp
  obtain ⟨hll, hlc, hls, _⟩ := hr
  have hnl : (nats l).length = l.length := by simp [nats]
  have HNL := Lib.hid hnl
  clear q1 q2 q3 hnl
  go_enter Try.func110, Try.ntmps110
  go_upto_region 1 with fail
  have BP := Lib.hid (Blk.mk' w 25 #[.slice A p.costs.length c, .slice A2 p.rows.length c2])
  have HW := Lib.hid ((Below.refl w.heap.size w).alloc (Nat.le_refl _) (.cells #[.slice A p.costs.length c, .slice A2 p.rows.length c2] 25))
  generalize (w.alloc (.cells #[.slice A p.costs.length c, .slice A2 p.rows.length c2] 25)) = W at *
  have zW := HW.out.size
  have p0 : W.cell? ⟨w.heap.size, 0, none⟩ = some (.slice A p.costs.length c) := BP.out.cell 0
  have p1 : W.cell? ⟨w.heap.size, 1, none⟩ = some (.slice A2 p.rows.length c2) := BP.out.cell 1
  have hc0 : (0 : Int) ≤ (p.costs.length : Int) := by omega
  go_wp2_with fail
  go_loopw [17] (fun i wx => ∃ j : Nat, j ≤ p.costs.length + p.rows.length ∧ i = .int .i64 j ∧ Hid (∀ q, q < j → 0 ≤ chN p (nats l) q k) ∧ Below W.heap.size W wx) (fun i _ => p.costs.length + p.rows.length - (intOf i).toNat)
  case atStart => exact ⟨0, by omega, rfl, Lib.hid fun q hq => by omega, Below.refl _ _⟩
  case round =>
    obtain ⟨j, hj, rfl, hall, hbel⟩ := hrel
    rename World => U
    have HU := Lib.hid hbel
    have HB := Lib.hid (HW.out.trans (hbel.mono zW))
    have u0 := (hbel.cell (World.block_lt_of_cell? _ _ p0)).trans p0
    have u1 := (hbel.cell (World.block_lt_of_cell? _ _ p1)).trans p1
    clear hbel
    by_cases hlt : j < p.costs.length + p.rows.length
    · have hi0 : (j : Int) < (p.costs.length : Int) + (p.rows.length : Int) := by omega
      go_wp2_with fail
      refine (change_n A c A2 c2 p L l cl j U (HP.out.below HB.out) (HL.out.below HB.out) HL0.out (by omega)).mono ?_
      rintro e w1 ⟨O, co, rfl, hO, hb1⟩
      have H1 := Lib.hid (HU.out.trans (hb1.mono HU.out.size))
      obtain ⟨ao, rfl, hco⟩ := hO.getD_at (k := k) (by rw [chL_len, HNL.out]; exact hk)
      rw [chL_at (by rw [HNL.out]; exact hk)] at hco
      have hao := World.block_lt_of_cell? _ _ hco
      have hocap := hO.le
      rw [chL_len, HNL.out] at hocap
      have hoc := hO.cap
      have hk0 : (k : Int) < (l.length : Int) := by omega
      clear hb1 hO u0 u1
      by_cases hneg : chN p (nats l) j k < 0
      · have HF := Lib.hid (show stB p (nats l) k = false by
          rw [Bool.eq_false_iff]
          intro h
          unfold stB at h
          rw [List.all_eq_true] at h
          have := h j (List.mem_range.2 hlt)
          simp at this; omega)
        obtain ⟨xv, hxv⟩ : ∃ xv, chN p (nats l) j k = xv := ⟨_, rfl⟩
        rw [hxv] at hco hneg
        clear hxv hall
        go_wp2_with fail
        go_ret
        exact ⟨by rw [HF.out]; rfl, HW.out.trans (H1.out.mono zW)⟩
      · have HA := Lib.hid (show ∀ q, q < j + 1 → 0 ≤ chN p (nats l) q k from fun q hq => by
          by_cases e : q = j
          · subst e; omega
          · exact hall.out q (by omega))
        obtain ⟨xv, hxv⟩ : ∃ xv, chN p (nats l) j k = xv := ⟨_, rfl⟩
        rw [hxv] at hco hneg
        clear hxv hall
        go_wp2_with fail
        go_roundw
        case rel => exact ⟨j + 1, by omega, by go_num, HA, H1.out⟩
        case measure => simp [intOf]; omega
    · obtain rfl : j = p.costs.length + p.rows.length := by omega
      have HT := Lib.hid (show stB p (nats l) k = true by
        unfold stB
        rw [List.all_eq_true]
        intro q hq
        simpa using hall.out q (List.mem_range.1 hq))
      have hi1 : ¬ (((p.costs.length + p.rows.length : Nat) : Int) < (p.costs.length : Int) + (p.rows.length : Int)) := by omega
      clear hall
      go_wp2_with fail
      go_ret
      exact ⟨by rw [HT.out]; rfl, HB.out⟩

/-- The way of one column, of the first i of the others. -/
def rayT (p : PG) (l : List Nat) (r i : Nat) : List Int := (List.range (p.costs.length + p.rows.length)).map fun j => if j = r then (lookN (qOf p r) l).xd else if j ∈ l.take i then -((lookN (qOf p r) l).xs.getD j 0) else 0
theorem rayT_len (p : PG) (l : List Nat) (r i : Nat) : (rayT p l r i).length = p.costs.length + p.rows.length := by simp [rayT]
theorem rayT_zero (p : PG) (l : List Nat) (r : Nat) : rayT p l r 0 = (List.replicate (p.costs.length + p.rows.length) (0 : Int)).set r (lookN (qOf p r) l).xd := by
  apply List.ext_getElem
  · simp [rayT]
  · intro j h1 h2
    simp [rayT, List.getElem_set, eq_comm]
theorem rayT_succ {p : PG} {l : List Nat} {r i : Nat} (hi : i < l.length) (hrl : r ∉ l) : rayT p l r (i + 1) = (rayT p l r i).set (l.getD i 0) (-(chN p l r i)) := by
  have hg : l.getD i 0 = l[i] := by simp [List.getD, List.getElem?_eq_getElem hi]
  unfold chN
  rw [hg]
  apply List.ext_getElem
  · simp [rayT]
  · intro j h1 h2
    simp only [rayT, List.getElem_map, List.getElem_range, List.getElem_set]
    have hmem : j ∈ l.take (i + 1) ↔ j ∈ l.take i ∨ j = l[i] := by rw [List.take_succ_eq_append_getElem hi, List.mem_append, List.mem_singleton]
    by_cases hj : j = r
    · subst hj
      have : l[i] ≠ j := fun q => hrl (q ▸ List.getElem_mem hi)
      rw [if_pos rfl, if_neg this, if_pos rfl]
    · by_cases hji : l[i] = j
      · rw [if_neg hj, if_pos (hmem.2 (.inr hji.symm)), if_pos hji, hji]
      · rw [if_neg hj, if_neg hji, if_neg hj]
        by_cases h : j ∈ l.take i
        · rw [if_pos (hmem.2 (.inl h)), if_pos h]
        · rw [if_neg (fun q => (hmem.1 q).elim h fun q => hji q.symm), if_neg h]
theorem rayT_end {p : PG} {l : List Nat} {r : Nat} (hb : Bs p l) : rayT p l r l.length = rayZ p l r := by
  obtain ⟨a1, a2, a3, hq⟩ := corn_of (qOf_may hb.hp r) (qOf_right hb.hr r) (by rw [qOf_den hb.hr.len]; exact hb.hd)
  unfold rayT rayZ
  rw [List.take_length]
  apply List.map_congr_left
  intro j _
  by_cases hj : j = r
  · simp [hj]
  · simp only [hj, if_false]
    split
    · rfl
    · rename_i hjl
      have h1 := hq.x j
      rw [xall_off (qOf_right hb.hr r) hjl] at h1
      have := Int.mul_eq_zero.1 h1.symm
      have hx : (lookN (qOf p r) l).xs.getD j 0 = 0 := by
        rcases this with q | q
        · exact absurd q hq.nx
        · exact q
      rw [hx]; rfl
set_option maxRecDepth 100000 in
set_option maxHeartbeats 1000000 in
theorem walk_Ray (A : Option Addr) (c : Nat) (A2 : Option Addr) (c2 : Nat) (p : PG) (L : Option Addr) (l : List Int) (cl r : Nat) (w : World) (hp : Pg w A c A2 c2 p) (hr : Rd w L cl l) (h0 : lookE p l = 0) (hrl : r ∉ nats l) (hrN : r < p.costs.length + p.rows.length) :
    Calls Try.prog 68 #[.agg #[.slice A p.costs.length c, .slice A2 p.rows.length c2], .slice L l.length cl, .int .i64 r] w fun e w' => ∃ O co, e = .returned (.slice O (p.costs.length + p.rows.length) co) ∧ Rd w' O co (rayZ p (nats l) r) ∧ (∀ ad, O = some ad → w.heap.size ≤ ad.block) ∧ Below w.heap.size w w' := by
  have HP := Lib.hid hp
  have HL := Lib.hid hr
  have HN := Lib.hid (look_eq h0)
  have HL0 := Lib.hid h0
  obtain ⟨q1, q2, q3⟩ := look_parts h0
  have HB0 := Lib.hid (show Bs p (nats l) from ⟨q1, (right_nats q2).1, q3⟩)
  have h4 := (mayPB_iff.1 q1).2.2.2.1
  have h5 := (mayPB_iff.1 q1).2.1
  obtain ⟨⟨hl, hc, hsm, _⟩, ⟨hl2, hc2, hsm2, _⟩⟩ := hp
  obtain ⟨hll, hlc, hls, _⟩ := hr
  have hnl : (nats l).length = l.length := by simp [nats]
  have HNL := Lib.hid hnl
  clear q1 q2 q3 hnl
  go_enter Try.func68, Try.ntmps68
  go_upto_region 1 with fail
  have BP := Lib.hid (Blk.mk' w 25 #[.slice A p.costs.length c, .slice A2 p.rows.length c2])
  have HW := Lib.hid ((Below.refl w.heap.size w).alloc (Nat.le_refl _) (.cells #[.slice A p.costs.length c, .slice A2 p.rows.length c2] 25))
  generalize (w.alloc (.cells #[.slice A p.costs.length c, .slice A2 p.rows.length c2] 25)) = W at *
  have zW := HW.out.size
  have p0 : W.cell? ⟨w.heap.size, 0, none⟩ = some (.slice A p.costs.length c) := BP.out.cell 0
  have p1 : W.cell? ⟨w.heap.size, 1, none⟩ = some (.slice A2 p.rows.length c2) := BP.out.cell 1
  go_wp2_with fail
  refine (change_n A c A2 c2 p L l cl r W (HP.out.below HW.out) (HL.out.below HW.out) HL0.out (by omega)).mono ?_
  rintro e w1 ⟨O, co, rfl, hO, hb1⟩
  have HO := Lib.hid hO
  have H1 := Lib.hid hb1
  have z1 := hb1.size
  have u0 := (hb1.cell (World.block_lt_of_cell? _ _ p0)).trans p0
  have u1 := (hb1.cell (World.block_lt_of_cell? _ _ p1)).trans p1
  have HRT := Lib.hid (rayT_zero p (nats l) r)
  have HRE := Lib.hid (rayT_end (r := r) HB0.out)
  obtain ⟨xd, hxd⟩ : ∃ xd, (lookN (qOf p r) (nats l)).xd = xd := ⟨_, rfl⟩
  rw [hxd] at HRT ⊢
  clear hxd hO hb1 p0 p1
  obtain ⟨N, hN⟩ : ∃ N, p.costs.length + p.rows.length = N := ⟨_, rfl⟩
  have HNN := Lib.hid hN
  have hNc : (p.costs.length : Int) + (p.rows.length : Int) = N := by omega
  have hmk := fun w => made_i64 w N ((p.costs.length : Int) + (p.rows.length : Int)) (by omega) (by omega)
  rw [hNc] at hmk
  have hwN : IntKind.i64.wrap (N : Int) = N := IntWalk.i64_in _ (by omega)
  rw [hN] at HRT
  go_upto_region 3 with fail
  have HM := Lib.hid (own_made w1 W.heap.size N w1.heap.size rfl z1 (by omega))
  have HB1 := Lib.hid (H1.out.alloc z1 (.cells (Array.replicate N (Value.int .i64 0)) 2))
  have lG : w1.heap.size < (w1.alloc (.cells (Array.replicate N (Value.int .i64 0)) 2)).heap.size := by simp
  have HO1 := Lib.hid (HO.out.alloc (.cells (Array.replicate N (Value.int .i64 0)) 2))
  generalize hG : w1.heap.size = g at *
  generalize (w1.alloc (.cells (Array.replicate N (Value.int .i64 0)) 2)) = V at *
  have e1 := own_cell' HM.out r (.int .i64 0) (by simp [hN ▸ hrN])
  have f1 := own_free' HM.out r
  have hrc : (r : Int) < (N : Int) := by omega
  clear u0 u1 hmk
  go_wp2_with fail
  have HM2 := Lib.hid (show (V.setCell ⟨g, r, none⟩ (.int .i64 xd)).ownsRow W.heap.size 2 1 (.slice (some ⟨g, 0, none⟩) N N) N ((rayT p (nats l) r 0).map (Value.int .i64)) from by rw [HRT.out, ← map_set_int]; exact own_put HM.out r _)
  have hrv : r < N := by rw [← hN]; exact hrN
  have HOV := Lib.hid (fun ad (e : O = some ad) (h : 0 < l.length) => (show ad.block ≠ g from by
    have := HO.out.blk_lt (by rw [chL_len, HNL.out]; exact h) ad e; omega))
  go_loopw [33] (fun i wx => ∃ k : Nat, k ≤ l.length ∧ i = .int .i64 k ∧ wx.ownsRow W.heap.size 2 1 (.slice (some ⟨g, 0, none⟩) N N) N ((rayT p (nats l) r k).map (Value.int .i64)) ∧ (0 < l.length → Rd wx O co (chL p (nats l) r)) ∧ Below W.heap.size W wx) (fun i _ => l.length - (intOf i).toNat)
  case atStart => exact ⟨0, by omega, rfl, HM2.out, fun h => HO1.out.setCell_out _ _ (fun ad e => HOV.out ad e h), HB1.out.setCell z1 _⟩
  case round =>
    obtain ⟨k, hk, rfl, hown, hro, hbel⟩ := hrel
    rename World => U
    have HU := Lib.hid hbel
    have HB := Lib.hid (HW.out.trans (hbel.mono zW))
    have HK := Lib.hid hown
    have lg := (hown.lt g rfl).2
    clear hown hbel
    by_cases hlt : k < l.length
    · have hro := hro (by omega)
      have HRO := Lib.hid hro
      obtain ⟨al, rfl, hcl⟩ := (HL.out.below HB.out).natAt HN.out hlt
      obtain ⟨ao, rfl, hco⟩ := hro.getD_at (k := k) (by rw [chL_len, HNL.out]; exact hlt)
      rw [chL_at (by rw [HNL.out]; exact hlt)] at hco
      have hal := World.block_lt_of_cell? _ _ hcl
      have hao := World.block_lt_of_cell? _ _ hco
      have hocap := hro.le
      rw [chL_len, HNL.out] at hocap
      have hoc := hro.cap
      have hi0 : (k : Int) < (l.length : Int) := by omega
      have hin : k < (nats l).length := by rw [HNL.out]; exact hlt
      have hjN : (nats l).getD k 0 < N := by rw [← hN]; exact HB0.out.hr.lt _ (mem_getD.2 ⟨k, hin, rfl⟩)
      have HS := Lib.hid (rayT_succ (p := p) hin hrl)
      obtain ⟨hs1, hs2⟩ := chN_small HB0.out (r := r) (k := k)
      obtain ⟨cv, hcv⟩ : ∃ cv, chN p (nats l) r k = cv := ⟨_, rfl⟩
      rw [hcv] at hco HS hs1 hs2
      obtain ⟨jn, hjn⟩ : ∃ jn, (nats l).getD k 0 = jn := ⟨_, rfl⟩
      rw [hjn] at hcl hjN HS
      have e2 := own_cell' HK.out jn _ (map_at_int (by rw [rayT_len, hN]; exact hjN))
      have f2 := own_free' HK.out jn
      have hj0 : (jn : Int) < (N : Int) := by omega
      have hwc : IntKind.i64.wrap (-cv) = -cv := IntWalk.i64_in _ (by omega)
      generalize (rayT p (nats l) r k).getD jn 0 = z0 at *
      clear hro hcv hjn hin e1 f1
      go_wp2_with fail
      go_roundw
      case rel => exact ⟨k + 1, by omega, by go_num, by rw [HS.out, ← map_set_int]; exact own_put HK.out jn _, fun h => HRO.out.setCell_out _ _ (fun ad e => HOV.out ad e h), HU.out.setCell z1 _⟩
      case measure => simp [intOf]; omega
    · obtain rfl : k = l.length := by omega
      have hown := HK.out
      rw [← HNL.out, HRE.out] at hown
      clear hro e1 f1
      go_wp2_with fail
      go_ret
      exact ⟨some ⟨g, 0, none⟩, N, by rw [hN]; rfl, Rd.of_own (base := W.heap.size) (e := 2) (by rw [ray_len, hN]; exact hown) (by rw [ray_len]; omega), fun ad e => (by cases e; exact Nat.le_trans zW z1), HB.out⟩
end Go.Proofs.Ytjcdkbalhleeeab
