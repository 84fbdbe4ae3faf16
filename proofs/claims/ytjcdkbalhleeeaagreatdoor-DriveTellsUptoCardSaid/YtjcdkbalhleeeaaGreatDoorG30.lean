/-
  Contracts of functions and plain laws that later parts of the proof use. The conditions stand in each theorem.
-/
import Derived.Test.YtjcdkbalhleeeaaGreatDoorG06
import Derived.Test.YtjcdkbalhleeeaaGreatDoorG19
import Derived.Test.YtjcdkbalhleeeaaGreatDoorG17
import Derived.Test.YtjcdkbalhleeeaaGreatDoorG22
import Derived.Test.YtjcdkbalhleeeaaGreatDoorG02
import Derived.Test.YtjcdkbalhleeeaaGreatDoorG12
import Derived.Sort.OwnSortedInts
set_option maxRecDepth 100000
namespace Go.Proofs.YtjcdkbalhleeeaaGreatDoor
open Go.RowKit Go.Sort
def RetNx (w : World) (p : PG) (l : List Int) (e : Ending) (w' : World) : Prop :=
 Below w.heap.size w w' ∧ (nextE p l ≠ 0 → e = .returned (.tuple #[.slice none 0 0, .int .i64 0, .int .i64 (nextE p l)])) ∧
 (nextE p l = 0 → (nxtZ p (nats l) = none → e = .returned (.tuple #[.slice none 0 0, .int .i64 (kindZ p (nats l)), .int .i64 0])) ∧
  ∀ l', nxtZ p (nats l) = some l' → ∃ g cap, e = .returned (.tuple #[.slice (some ⟨g, 0, none⟩) l'.length cap, .int .i64 0, .int .i64 0]) ∧
   w'.ownsRow w.heap.size 3 1 (.slice (some ⟨g, 0, none⟩) l'.length cap) l'.length ((ints l').map (Value.int .i64)))
theorem RetNx.bad {w w' : World} {p : PG} {l : List Int} {er : Int} (h : nextE p l = er) (h0 : er ≠ 0) (hb : Below w.heap.size w w') : RetNx w p l (.returned (.tuple #[.slice none 0 0, .int .i64 0, .int .i64 er])) w' :=
 ⟨hb, fun _ => by rw [h], fun q => absurd (h.symm.trans q) h0⟩
theorem RetNx.fin {w w' : World} {p : PG} {l : List Int} {k : Int} (h : nextE p l = 0) (hn : nxtZ p (nats l) = none) (hk : kindZ p (nats l) = k) (hb : Below w.heap.size w w') : RetNx w p l (.returned (.tuple #[.slice none 0 0, .int .i64 k, .int .i64 0])) w' :=
 ⟨hb, fun q => absurd h q, fun _ => ⟨fun _ => by rw [hk], fun l' q => by rw [hn] at q; cases q⟩⟩
theorem own_putRow {w : World} {base g cap n m q : Nat} {e : TypeId} {ss : List Int} {xs : List Value} (h : w.ownsRow base e 1 (.slice (some ⟨g, 0, none⟩) n cap) n xs) (hn : ss.length = n) (hm : m ≤ n) :
    (putRow (Value.int .i64) (Sort.ahead w q) g 0 ss.toArray).ownsRow base e 1 (.slice (some ⟨g, 0, none⟩) m cap) m ((ss.take m).map (Value.int .i64)) := by
 rcases h.2 with ⟨e, _⟩ | ⟨g', cap', cur, e, hb, hg, h1, h2, h3, h4⟩
 ·injection e with e1; cases e1
 ·injection e with e1 e2 e3
  injection e1 with e1; injection e1 with e1
  subst e1 e3
  have := ownsRow_sortedI (n := q) (os := #[]) (ss := ss) (ts := ss) rfl hb hg (by omega) h2 h3
  rw [grow_empty] at this
  refine ⟨by simp; omega, .inr ⟨g, cap, putCells (Value.int .i64) 0 ss.toArray cur, rfl, hb, ?_, by omega, h2, by simp [putCells, h3], ?_⟩⟩
  ·have := heap_sortedI (n := q) (os := #[]) ss.toArray hg
   rwa [grow_empty] at this
  ·have hts := take_putCellsI cur ss (by omega)
   rw [Nat.mul_one, List.map_take, ← hts, List.take_take]
   congr 1; omega
theorem own_holds {w : World} {base g cap n : Nat} {e : TypeId} {ss : List Int} (h : w.ownsRow base e 1 (.slice (some ⟨g, 0, none⟩) n cap) n (ss.map (Value.int .i64))) (hn : ss.length = n) : Holds (Value.int .i64) w g 0 ss.toArray := by
 rcases h.2 with ⟨e, _⟩ | ⟨g', cap', cur, e, hb, hg, h1, h2, h3, h4⟩
 ·injection e with e1; cases e1
 ·injection e with e1 e2 e3
  injection e1 with e1; injection e1 with e1
  subst e1 e3
  exact holds_of_blockI hg (by rw [Nat.mul_one] at h4; rw [hn]; exact h4)
theorem putRow_below {w : World} {B g q : Nat} {ss : List Int} (hg : B ≤ g) (hB : B ≤ w.heap.size) : Below B w (putRow (Value.int .i64) (Sort.ahead w q) g 0 ss.toArray) := by
 have := grownBy_sortedI (w := w) (g := g) (n := q) (os := #[]) ss.toArray
 rw [grow_empty] at this
 exact (Below.refl B w).grown this hB (fun j e => by cases e; exact hg)
theorem own_sorted {w : World} {base g cap n q : Nat} {e : TypeId} {ss ts : List Int} {os : Array Obj} {xs : List Value} (h : w.ownsRow base e 1 (.slice (some ⟨g, 0, none⟩) n cap) n xs) (hn : ss.length = n) (ht : ts.length = ss.length) :
    (grow (putRow (Value.int .i64) (Sort.ahead w q) g 0 ts.toArray) os).ownsRow base e 1 (.slice (some ⟨g, 0, none⟩) n cap) n (ts.map (Value.int .i64)) := by
 rcases h.2 with ⟨e, _⟩ | ⟨g', cap', cur, e, hb, hg, h1, h2, h3, h4⟩
 ·injection e with e1; cases e1
 ·injection e with e1 e2 e3
  injection e1 with e1; injection e1 with e1
  subst e1 e3 hn
  exact ownsRow_sortedI (ss := ss) (ts := ts) ht hb hg h1 h2 h3
theorem und_intS1 : Tryz.prog.underlying 51 = some (.slice 3) := by kernel_rfl
theorem inf_intS1 : (Tryz.prog.info? 3).map (fun i => (i.zero, i.size, i.bytes)) = some (some (.int .i64 0), 1, 8) := by kernel_rfl
def outI (o : Option Nat) : Int := match o with
 | some k => k
 | none => -1
set_option maxHeartbeats 2000000 in
theorem next_bad (A : Option Addr) (c : Nat) (A2 : Option Addr) (c2 : Nat) (p : PG) (L : Option Addr) (l : List Int) (cl : Nat) (w : World) (hp : Pg w A c A2 c2 p) (hr : Rd w L cl l) (er : Int) (he : lookE p l = er) (h0 : er ≠ 0) :
    Calls Tryz.prog 52 #[.agg #[.slice A p.costs.length c, .slice A2 p.rows.length c2], .slice L l.length cl] w (RetNx w p l) := by
 have HN := h_ (show nextE p l = er by unfold nextE; rw [if_neg (by rw [he]; exact h0), he])
 have HE := h_ he
 have H0 := h_ h0
 have hz : (er != 0) = true := by simpa using h0
 clear he h0
 have HP := h_ hp
 have HL := h_ hr
 obtain ⟨⟨hl, hc, hsm, _⟩, ⟨hl2, hc2, hsm2, _⟩⟩ := hp
 obtain ⟨hll, hlc, hls, _⟩ := hr
 go_enter Tryz.func52, Tryz.ntmps52
 go_wp2_with fail
 have BP := h_ (Blk.mk' w 28 #[.slice A p.costs.length c, .slice A2 p.rows.length c2])
 have HVW := h_ ((by (repeat (any_goals (first | exact qR _ _ | refine below_drewN ?_ _ | refine qD ?_ | refine qA ?_ ?_ _ | refine qS ?_ ?_ _))); all_goals (first | omega | (simp; done) | (simp; omega))) : Below w.heap.size w (w.alloc (.cells #[.slice A p.costs.length c, .slice A2 p.rows.length c2] 28)))
 generalize (w.alloc (.cells #[.slice A p.costs.length c, .slice A2 p.rows.length c2] 28)) = V at *
 have zV := HVW.out.size
 have lP := BP.out.lt
 refine (corner_Look _ _ _ _ _ _ _ _ _ (HP.out.below HVW.out) (HL.out.below HVW.out)).mono ?_
 rw [HE.out]
 obtain ⟨cc, hC⟩ : ∃ cc, lookC p l = cc := ⟨_, rfl⟩
 rw [hC]
 have HC := h_ hC
 clear hC
 rintro e w1 ⟨X, cx, Y, cy, G, cg, rfl, hX, hY, hG, hb1⟩
 have HCn := h_ (CnN.mk hX hY hG)
 have H1 := h_ hb1
 have z01 := hb1.size
 clear hX hY hG hb1
 go_upto_region 2 with fail
 have BC := h_ (Blk.mk' w1 64 #[.slice X cc.xs.length cx, .int .i64 cc.xd, .slice Y cc.ys.length cy, .int .i64 cc.yd, .slice G cc.gs.length cg, .int .i64 cc.gd])
 have HWL := (Below.refl w1.heap.size w1).alloc (Nat.le_refl _) (.cells #[.slice X cc.xs.length cx, .int .i64 cc.xd, .slice Y cc.ys.length cy, .int .i64 cc.yd, .slice G cc.gs.length cg, .int .i64 cc.gd] 64)
 have HV2 := h_ (H1.out.trans (HWL.mono z01))
 have HCW := h_ (HCn.out.below HWL)
 have HBW := h_ (HVW.out.trans (HV2.out.mono zV))
 clear HWL
 generalize (w1.alloc (.cells #[.slice X cc.xs.length cx, .int .i64 cc.xd, .slice Y cc.ys.length cy, .int .i64 cc.yd, .slice G cc.gs.length cg, .int .i64 cc.gd] 64)) = W at *
 go_wp2_with fail
 refine bodyPost_ret (v := .tuple #[.slice none 0 0, .int .i64 0, .int .i64 er]) ?_ ?_ ?_
 ·simp [results, Tryz.results52, go_sem]
 ·rfl
 exact RetNx.bad HN.out H0.out HBW.out
set_option maxHeartbeats 2000000 in
theorem next_off (A : Option Addr) (c : Nat) (A2 : Option Addr) (c2 : Nat) (p : PG) (L : Option Addr) (l : List Int) (cl : Nat) (w : World) (hp : Pg w A c A2 c2 p) (hr : Rd w L cl l) (he : lookE p l = 0) (hx : nonneg (lookC p l).xs = false) :
    Calls Tryz.prog 52 #[.agg #[.slice A p.costs.length c, .slice A2 p.rows.length c2], .slice L l.length cl] w (RetNx w p l) := by
 have HN := h_ (show nextE p l = 3 by unfold nextE; rw [if_pos he, if_neg (by rw [hx]; simp)])
 have HE := h_ he
 have HX := h_ hx
 obtain ⟨_, _, _, hco⟩ := look_corn he
 have HCO := h_ hco
 clear he hx hco
 have HP := h_ hp
 have HL := h_ hr
 obtain ⟨⟨hl, hc, hsm, _⟩, ⟨hl2, hc2, hsm2, _⟩⟩ := hp
 obtain ⟨hll, hlc, hls, _⟩ := hr
 go_enter Tryz.func52, Tryz.ntmps52
 go_wp2_with fail
 have BP := h_ (Blk.mk' w 28 #[.slice A p.costs.length c, .slice A2 p.rows.length c2])
 have HVW := h_ ((by (repeat (any_goals (first | exact qR _ _ | refine below_drewN ?_ _ | refine qD ?_ | refine qA ?_ ?_ _ | refine qS ?_ ?_ _))); all_goals (first | omega | (simp; done) | (simp; omega))) : Below w.heap.size w (w.alloc (.cells #[.slice A p.costs.length c, .slice A2 p.rows.length c2] 28)))
 generalize (w.alloc (.cells #[.slice A p.costs.length c, .slice A2 p.rows.length c2] 28)) = V at *
 have zV := HVW.out.size
 have lP := BP.out.lt
 refine (corner_Look _ _ _ _ _ _ _ _ _ (HP.out.below HVW.out) (HL.out.below HVW.out)).mono ?_
 rw [HE.out]
 obtain ⟨cc, hC⟩ : ∃ cc, lookC p l = cc := ⟨_, rfl⟩
 rw [hC]
 have HC := h_ hC
 clear hC
 rintro e w1 ⟨X, cx, Y, cy, G, cg, rfl, hX, hY, hG, hb1⟩
 have HCn := h_ (CnN.mk hX hY hG)
 have H1 := h_ hb1
 have z01 := hb1.size
 clear hX hY hG hb1
 go_upto_region 2 with fail
 have BC := h_ (Blk.mk' w1 64 #[.slice X cc.xs.length cx, .int .i64 cc.xd, .slice Y cc.ys.length cy, .int .i64 cc.yd, .slice G cc.gs.length cg, .int .i64 cc.gd])
 have HWL := (Below.refl w1.heap.size w1).alloc (Nat.le_refl _) (.cells #[.slice X cc.xs.length cx, .int .i64 cc.xd, .slice Y cc.ys.length cy, .int .i64 cc.yd, .slice G cc.gs.length cg, .int .i64 cc.gd] 64)
 have HV2 := h_ (H1.out.trans (HWL.mono z01))
 have HCW := h_ (HCn.out.below HWL)
 have HBW := h_ (HVW.out.trans (HV2.out.mono zV))
 clear HWL
 generalize (w1.alloc (.cells #[.slice X cc.xs.length cx, .int .i64 cc.xd, .slice Y cc.ys.length cy, .int .i64 cc.yd, .slice G cc.gs.length cg, .int .i64 cc.gd] 64)) = W at *
 have hco := HCO.out
 have hx := HX.out
 rw [HC.out] at hco hx
 have hp := (mayPB_iff.1 hco.hp).2.2.1
 have hlen := hco.lx
 obtain ⟨x0, xr, hxs⟩ : ∃ x0 xr, cc.xs = x0 :: xr := List.exists_cons_of_length_pos (by rw [hlen]; omega)
 have HMin := h_ (fun u (hu : Rd u X cx cc.xs) => by
  rw [hxs] at hu
  have := slices_Min X x0 xr cx u hu
  rw [← hxs] at this
  exact this)
 have hlt : minL x0 xr < 0 := by
  apply Classical.byContradiction
  intro q
  have := minL_nonneg.1 (show 0 ≤ minL x0 xr by omega)
  rw [hxs] at hx
  simp [nonneg] at hx
  have h2 := this.2
  unfold nonneg at h2
  rw [List.all_eq_true] at h2
  obtain ⟨y, hy, hy2⟩ := hx this.1
  have := h2 y hy
  simp at this
  omega
 clear hxs hlen hp hx hco
 generalize minL x0 xr = mv at *
 have k0 : (W).cell? ⟨w1.heap.size, 0, none⟩ = some (.slice X cc.xs.length cx) := (BC.out.next (Below.refl _ _)).cell 0
 have k1 : (W).cell? ⟨w1.heap.size, 1, none⟩ = some (.int .i64 cc.xd) := (BC.out.next (Below.refl _ _)).cell 1
 have k2 : (W).cell? ⟨w1.heap.size, 2, none⟩ = some (.slice Y cc.ys.length cy) := (BC.out.next (Below.refl _ _)).cell 2
 have k3 : (W).cell? ⟨w1.heap.size, 3, none⟩ = some (.int .i64 cc.yd) := (BC.out.next (Below.refl _ _)).cell 3
 have k4 : (W).cell? ⟨w1.heap.size, 4, none⟩ = some (.slice G cc.gs.length cg) := (BC.out.next (Below.refl _ _)).cell 4
 have k5 : (W).cell? ⟨w1.heap.size, 5, none⟩ = some (.int .i64 cc.gd) := (BC.out.next (Below.refl _ _)).cell 5
 go_wp2_with fail
 refine (HMin.out _ HCW.out.x).mono ?_
 rintro e w2 ⟨rfl, rfl⟩
 go_wp2_with fail
 refine bodyPost_ret (v := .tuple #[.slice none 0 0, .int .i64 0, .int .i64 3]) ?_ ?_ ?_
 ·simp [results, Tryz.results52, go_sem]
 ·rfl
 exact RetNx.bad HN.out (by omega) HBW.out
end Go.Proofs.YtjcdkbalhleeeaaGreatDoor

namespace Go.Proofs.YtjcdkbalhleeeaaGreatDoor
open Go.RowKit Go.Sort
theorem out_step (xs : List Int) (l : List Nat) (less : List Int) (k : Nat) : outZ xs l less (k + 1) = if 0 < less.getD k 0 ∧ nearB xs l less k (outZ xs l less k) = true then some k else outZ xs l less k := outZ_succ xs l less k
theorem out_lt {xs : List Int} {l : List Nat} {less : List Int} : ∀ {n q : Nat}, outZ xs l less n = some q → q < n
 | 0, q, h => by simp [outZ] at h
 | n + 1, q, h => by
  rw [outZ_succ] at h
  split at h
  ·simp at h; omega
  ·have := out_lt h; omega
set_option maxRecDepth 100000 in
set_option maxHeartbeats 4000000 in
theorem next_on (A : Option Addr) (c : Nat) (A2 : Option Addr) (c2 : Nat) (p : PG) (L : Option Addr) (l : List Int) (cl : Nat) (w : World) (hp : Pg w A c A2 c2 p) (hr : Rd w L cl l) (he : lookE p l = 0) (hx : nonneg (lookC p l).xs = true) :
    Calls Tryz.prog 52 #[.agg #[.slice A p.costs.length c, .slice A2 p.rows.length c2], .slice L l.length cl] w (RetNx w p l) := by
 have HN := h_ (show nextE p l = 0 by unfold nextE; rw [if_pos he, if_pos hx])
 have HE := h_ he
 have HX := h_ hx
 have HLN := h_ (lookN_eq he)
 have HNE := h_ (look_eq he)
 obtain ⟨_, _, _, hco⟩ := look_corn he
 have HCO := h_ hco
 have HR := h_ hco.hr
 clear he hx hco
 have HP := h_ hp
 have HL := h_ hr
 obtain ⟨⟨hl, hc, hsm, _⟩, ⟨hl2, hc2, hsm2, _⟩⟩ := hp
 obtain ⟨hll, hlc, hls, _⟩ := hr
 go_enter Tryz.func52, Tryz.ntmps52
 go_wp2_with fail
 have BP := h_ (Blk.mk' w 28 #[.slice A p.costs.length c, .slice A2 p.rows.length c2])
 have HVW := h_ ((by (repeat (any_goals (first | exact qR _ _ | refine below_drewN ?_ _ | refine qD ?_ | refine qA ?_ ?_ _ | refine qS ?_ ?_ _))); all_goals (first | omega | (simp; done) | (simp; omega))) : Below w.heap.size w (w.alloc (.cells #[.slice A p.costs.length c, .slice A2 p.rows.length c2] 28)))
 generalize (w.alloc (.cells #[.slice A p.costs.length c, .slice A2 p.rows.length c2] 28)) = V at *
 have zV := HVW.out.size
 have lP := BP.out.lt
 refine (corner_Look _ _ _ _ _ _ _ _ _ (HP.out.below HVW.out) (HL.out.below HVW.out)).mono ?_
 rw [HE.out]
 obtain ⟨cc, hC⟩ : ∃ cc, lookC p l = cc := ⟨_, rfl⟩
 rw [hC]
 have HC := h_ hC
 clear hC
 rintro e w1 ⟨X, cx, Y, cy, G, cg, rfl, hX, hY, hG, hb1⟩
 have HCn := h_ (CnN.mk hX hY hG)
 have H1 := h_ hb1
 have z01 := hb1.size
 clear hX hY hG hb1
 go_upto_region 2 with fail
 have BC := h_ (Blk.mk' w1 64 #[.slice X cc.xs.length cx, .int .i64 cc.xd, .slice Y cc.ys.length cy, .int .i64 cc.yd, .slice G cc.gs.length cg, .int .i64 cc.gd])
 have HWL := (Below.refl w1.heap.size w1).alloc (Nat.le_refl _) (.cells #[.slice X cc.xs.length cx, .int .i64 cc.xd, .slice Y cc.ys.length cy, .int .i64 cc.yd, .slice G cc.gs.length cg, .int .i64 cc.gd] 64)
 have HV2 := h_ (H1.out.trans (HWL.mono z01))
 have HCW := h_ (HCn.out.below HWL)
 have HBW := h_ (HVW.out.trans (HV2.out.mono zV))
 clear HWL
 generalize (w1.alloc (.cells #[.slice X cc.xs.length cx, .int .i64 cc.xd, .slice Y cc.ys.length cy, .int .i64 cc.yd, .slice G cc.gs.length cg, .int .i64 cc.gd] 64)) = W at *
 have hco := HCO.out
 have hx := HX.out
 have hln := HLN.out
 rw [HC.out] at hco hx hln
 have HCC := h_ hco
 have hp := (mayPB_iff.1 hco.hp).2.2.1
 have hp4 := (mayPB_iff.1 hco.hp).2.2.2.1
 have hp1 := (mayPB_iff.1 hco.hp).2.1
 have hlen := hco.lx
 have hlm : l.length = p.rows.length := by have := hco.hr.len; simpa [nats] using this
 have hgl : 0 < cc.gs.length := by rw [hco.lg]; omega
 have hxl : cc.xs.length ≤ 8 := by rw [hlen]; omega
 obtain ⟨x0, xr, hxs⟩ : ∃ x0 xr, cc.xs = x0 :: xr := List.exists_cons_of_length_pos (by rw [hlen]; omega)
 have HMin := h_ (fun u (hu : Rd u X cx cc.xs) => by
  rw [hxs] at hu
  have := slices_Min X x0 xr cx u hu
  rw [← hxs] at this
  exact this)
 have hlt : 0 ≤ minL x0 xr := by
  refine minL_nonneg.2 ?_
  rw [hxs] at hx
  simp only [nonneg, List.all_cons, Bool.and_eq_true, decide_eq_true_eq] at hx
  exact hx
 have HLM := h_ hlm
 clear hxs hlen hx hp hlm
 generalize minL x0 xr = mv at *
 have k0 : (W).cell? ⟨w1.heap.size, 0, none⟩ = some (.slice X cc.xs.length cx) := (BC.out.next (Below.refl _ _)).cell 0
 have k1 : (W).cell? ⟨w1.heap.size, 1, none⟩ = some (.int .i64 cc.xd) := (BC.out.next (Below.refl _ _)).cell 1
 have k2 : (W).cell? ⟨w1.heap.size, 2, none⟩ = some (.slice Y cc.ys.length cy) := (BC.out.next (Below.refl _ _)).cell 2
 have k3 : (W).cell? ⟨w1.heap.size, 3, none⟩ = some (.int .i64 cc.yd) := (BC.out.next (Below.refl _ _)).cell 3
 have k4 : (W).cell? ⟨w1.heap.size, 4, none⟩ = some (.slice G cc.gs.length cg) := (BC.out.next (Below.refl _ _)).cell 4
 have k5 : (W).cell? ⟨w1.heap.size, 5, none⟩ = some (.int .i64 cc.gd) := (BC.out.next (Below.refl _ _)).cell 5
 go_wp2_with fail
 refine (HMin.out _ HCW.out.x).mono ?_
 rintro e w2 ⟨rfl, rfl⟩
 rename World => W
 have HIN := h_ (fun u (hu : Rd u G cg cc.gs) => walk_In X Y G cx cy cg cc.xs.length cc.ys.length cc.xd cc.yd cc.gd cc.gs u hu hgl)
 have HGM := h_ (show inI cc.gs = inI (lookN p (nats l)).gs by rw [hln])
 clear hgl hln hco
 go_wp2_with fail
 refine (HIN.out _ HCW.out.g).mono ?_
 rintro e w2 ⟨rfl, hb2⟩
 have H2 := h_ hb2
 have z02 := hb2.size
 clear hb2 k0 k1 k2 k3 k4 k5
 cases hin : inZ (lookN p (nats l)).gs with
 | none =>
  have HK := h_ (show nxtZ p (nats l) = none ∧ kindZ p (nats l) = 1 by unfold nxtZ kindZ; rw [hin]; exact ⟨rfl, rfl⟩)
  have e0 : inI cc.gs = -1 := by rw [HGM.out]; unfold inI; rw [hin]
  rw [e0]
  clear hin e0
  go_wp2_with fail
  refine bodyPost_ret (v := .tuple #[.slice none 0 0, .int .i64 1, .int .i64 0]) ?_ ?_ ?_
  ·simp [results, Tryz.results52, go_sem]
  ·rfl
  exact RetNx.fin HN.out HK.out.1 HK.out.2 (HBW.out.trans (H2.out.mono HBW.out.size))
 | some r =>
  have e0 : inI cc.gs = (r : Int) := by rw [HGM.out]; unfold inI; rw [hin]
  rw [e0]
  have HI := h_ hin
  have HRN := h_ (in_new (nextE_ok HN.out) hin)
  have hr8 : r < 1000000 := by have := HRN.out.2.1; omega
  clear hin e0
  have p0 : w2.cell? ⟨w.heap.size, 0, none⟩ = some (.slice A p.costs.length c) := ((BP.out.next HV2.out).next H2.out).cell 0
  have p1 : w2.cell? ⟨w.heap.size, 1, none⟩ = some (.slice A2 p.rows.length c2) := ((BP.out.next HV2.out).next H2.out).cell 1
  go_wp2_with fail
  have HB2 := h_ (HBW.out.trans (H2.out.mono HBW.out.size))
  refine (walk_Change _ _ _ _ _ _ _ _ r _ (HP.out.below HB2.out) (HL.out.below HB2.out) HE.out hr8).mono ?_
  rintro e w3 ⟨O, co, rfl, hO, hb3⟩
  have HO := h_ hO
  have H3 := h_ hb3
  have z03 := hb3.size
  have HB3 := h_ (HB2.out.trans (hb3.mono HB2.out.size))
  have HC3 := h_ ((HCW.out.below H2.out).below hb3)
  clear hO hb3 p0 p1
  obtain ⟨ls, hls⟩ : ∃ ls, ls = l.map fun j => (lookC (qOf p r) l).xs.getD j.toNat 0 := ⟨_, rfl⟩
  rw [← hls] at HO
  have HLE := h_ (show ls = lessZ p (nats l) r by
   have hq := lookN_eq (p := qOf p r) (qOf_E HE.out r)
   rw [hls]
   unfold lessZ
   rw [hq]
   unfold nats
   rw [List.map_map]
   rfl)
  have hll' : ls.length = l.length := by rw [hls, List.length_map]
  have HLL := h_ hll'
  have HBX := h_ ((smallB_getD (l := cc.xs) (m := 1073741824) (by omega)).1 (mayB_parts HCC.out.mx).2.2.1)
  have HBL := h_ (show ∀ j, -1073741824 ≤ ls.getD j 0 ∧ ls.getD j 0 ≤ 1073741824 from fun j => by
   obtain ⟨_, _, _, hq⟩ := look_corn (qOf_E HE.out r)
   have hb := (smallB_getD (l := (lookC (qOf p r) l).xs) (m := 1073741824) (by omega)).1 (mayB_parts hq.mx).2.2.1
   by_cases hj : j < l.length
   ·have e : ls.getD j 0 = (lookC (qOf p r) l).xs.getD l[j].toNat 0 := by rw [hls]; simp [List.getD, hj]
    rw [e]; exact hb _
   ·have e : ls.getD j 0 = 0 := by rw [List.getD, List.getElem?_eq_none (by omega)]; rfl
    rw [e]; omega)
  clear hls hll'
  go_wp2_with fail
  go_loopw [12, 45] (fun o i wx => ∃ k : Nat, k ≤ l.length ∧ i = .int .i64 k ∧ o = .int .i64 (outI (outZ cc.xs (nats l) ls k)) ∧ Below w3.heap.size w3 wx) (fun _ i _ => l.length - (intOf i).toNat)
  case atStart => exact ⟨0, by omega, rfl, rfl, Below.refl _ _⟩
  case round =>
   obtain ⟨k, hk, rfl, rfl, hbel⟩ := hrel
   rename World => U
   have HBE := h_ hbel
   have HBU := h_ (HB3.out.trans (hbel.mono HB3.out.size))
   have HCU := h_ (HC3.out.below hbel)
   have HOU := h_ (HO.out.below hbel)
   have HLU := h_ (HL.out.below HBU.out)
   have HBC := h_ ((BC.out.next (H2.out.trans (H3.out.mono z02))).next hbel)
   have q0 : U.cell? ⟨w1.heap.size, 0, none⟩ = some (.slice X cc.xs.length cx) := HBC.out.cell 0
   clear hbel
   by_cases hlt : k < l.length
   ·have HNX : ∀ {i : Nat}, i < l.length → (nats l).getD i 0 < cc.xs.length := fun {i} hi => by
      rw [HCC.out.lx]; exact HR.out.lt _ (mem_getD.2 ⟨i, by simpa [nats] using hi, rfl⟩)
    have hNX := HNX hlt
    obtain ⟨al, rfl, hcl⟩ := HLU.out.natAt HNE.out hlt
    obtain ⟨ax, rfl, hcx⟩ := HCU.out.x.getD_at hNX
    obtain ⟨ao, rfl, hco⟩ := HOU.out.getD_at (k := k) (by rw [HLL.out]; exact hlt)
    have hacl := lc_ hcl
    have hacx := lc_ hcx
    have haco := lc_ hco
    have HST := h_ (out_step cc.xs (nats l) ls k)
    have hi0 : (k : Int) < (l.length : Int) := by omega
    have hi1 : (((nats l).getD k 0 : Nat) : Int) < (cc.xs.length : Int) := by omega
    by_cases hlv : 0 < ls.getD k 0
    ·have hd : decide (0 < ls.getD k 0) = true := by simpa using hlv
     cases ho : outZ cc.xs (nats l) ls k with
     | none =>
      have HSK := h_ (show outI (outZ cc.xs (nats l) ls (k + 1)) = k by rw [HST.out, ho, if_pos ⟨hlv, rfl⟩]; rfl)
      rw [show outI none = (-1 : Int) from rfl]
      clear ho hlv
      generalize ls.getD k 0 = lv at *
      generalize (nats l).getD k 0 = jk at *
      go_wp2_with fail
      go_quiet (fail)
      go_wp2_with fail
      go_roundw
      case rel => exact ⟨k + 1, by omega, by go_num, by rw [HSK.out], by first | exact HBE.out | exact below_drewN HBE.out _⟩
      case measure => simp [intOf]; omega
     | some q =>
      have hqk := out_lt ho
      have hql : q < l.length := by omega
      have hNQ := HNX hql
      obtain ⟨al', hal', hcl'⟩ := HLU.out.natAt HNE.out hql
      injection hal' with hal'
      subst hal'
      obtain ⟨ax', hax', hcx'⟩ := HCU.out.x.getD_at hNQ
      injection hax' with hax'
      subst hax'
      obtain ⟨ao', hao', hco'⟩ := HOU.out.getD_at (k := q) (by rw [HLL.out]; exact hql)
      injection hao' with hao'
      subst hao'
      have hacl' := lc_ hcl'
      have hacx' := lc_ hcx'
      have haco' := lc_ hco'
      have hi2 : (q : Int) < (l.length : Int) := by omega
      have hi3 : (((nats l).getD q 0 : Nat) : Int) < (cc.xs.length : Int) := by omega
      obtain ⟨m1, m2⟩ := mul_bound (cc.xs.getD ((nats l).getD k 0) 0) (ls.getD q 0) 1073741824 1073741824 (HBX.out _).1 (HBX.out _).2 (HBL.out _).1 (HBL.out _).2
      obtain ⟨m3, m4⟩ := mul_bound (cc.xs.getD ((nats l).getD q 0) 0) (ls.getD k 0) 1073741824 1073741824 (HBX.out _).1 (HBX.out _).2 (HBL.out _).1 (HBL.out _).2
      have w1' : IntKind.i64.wrap (cc.xs.getD ((nats l).getD k 0) 0 * ls.getD q 0) = cc.xs.getD ((nats l).getD k 0) 0 * ls.getD q 0 := IntWalk.i64_in _ (by omega)
      have w2' : IntKind.i64.wrap (cc.xs.getD ((nats l).getD q 0) 0 * ls.getD k 0) = cc.xs.getD ((nats l).getD q 0) 0 * ls.getD k 0 := IntWalk.i64_in _ (by omega)
      clear m1 m2 m3 m4
      by_cases hnr : cc.xs.getD ((nats l).getD k 0) 0 * ls.getD q 0 < cc.xs.getD ((nats l).getD q 0) 0 * ls.getD k 0
      ·have hd2 : decide (cc.xs.getD ((nats l).getD k 0) 0 * ls.getD q 0 < cc.xs.getD ((nats l).getD q 0) 0 * ls.getD k 0) = true := by simpa using hnr
       have HSK := h_ (show outI (outZ cc.xs (nats l) ls (k + 1)) = k by rw [HST.out, ho, if_pos ⟨hlv, hd2⟩]; rfl)
       rw [show outI (some q) = (q : Int) from rfl]
       clear ho hlv hnr
       generalize ls.getD k 0 = lv at *
       generalize ls.getD q 0 = lq at *
       generalize cc.xs.getD ((nats l).getD k 0) 0 = xv at *
       generalize cc.xs.getD ((nats l).getD q 0) 0 = xq at *
       generalize (nats l).getD k 0 = jk at *
       generalize (nats l).getD q 0 = jq at *
       go_wp2_with fail
       go_quiet (fail)
       go_wp2_with fail
       go_roundw
       case rel => exact ⟨k + 1, by omega, by go_num, by rw [HSK.out], by first | exact HBE.out | exact below_drewN HBE.out _⟩
       case measure => simp [intOf]; omega
      ·have hd2 : decide (cc.xs.getD ((nats l).getD k 0) 0 * ls.getD q 0 < cc.xs.getD ((nats l).getD q 0) 0 * ls.getD k 0) = false := by simpa using hnr
       have HSK := h_ (show outI (outZ cc.xs (nats l) ls (k + 1)) = q by rw [HST.out, ho, if_neg (fun w => by have q2 := hd2.symm.trans (show decide (_ < _) = true from w.2); cases q2)]; rfl)
       rw [show outI (some q) = (q : Int) from rfl]
       clear ho hlv hnr
       generalize ls.getD k 0 = lv at *
       generalize ls.getD q 0 = lq at *
       generalize cc.xs.getD ((nats l).getD k 0) 0 = xv at *
       generalize cc.xs.getD ((nats l).getD q 0) 0 = xq at *
       generalize (nats l).getD k 0 = jk at *
       generalize (nats l).getD q 0 = jq at *
       go_wp2_with fail
       go_quiet (fail)
       go_wp2_with fail
       go_roundw
       case rel => exact ⟨k + 1, by omega, by go_num, by rw [HSK.out], by first | exact HBE.out | exact below_drewN HBE.out _⟩
       case measure => simp [intOf]; omega
    ·have hd : decide (0 < ls.getD k 0) = false := by simpa using hlv
     have HSK := h_ (show outI (outZ cc.xs (nats l) ls (k + 1)) = outI (outZ cc.xs (nats l) ls k) by rw [HST.out, if_neg (fun w => hlv w.1)])
     clear hlv
     generalize outI (outZ cc.xs (nats l) ls k) = ov at *
     generalize ls.getD k 0 = lv at *
     generalize (nats l).getD k 0 = jk at *
     go_wp2_with fail
     go_quiet (fail)
     go_wp2_with fail
     go_roundw
     case rel => exact ⟨k + 1, by omega, by go_num, by rw [HSK.out], by first | exact HBE.out | exact below_drewN HBE.out _⟩
     case measure => simp [intOf]; omega
   ·obtain rfl : k = l.length := by omega
    have HOZ := h_ (show outZ (lookN p (nats l)).xs (nats l) (lessZ p (nats l) r) (nats l).length = outZ cc.xs (nats l) ls l.length by
     rw [HLN.out, HC.out, ← HLE.out, show (nats l).length = l.length by simp [nats]])
    cases ho : outZ cc.xs (nats l) ls l.length with
    | none =>
     have HK := h_ (show nxtZ p (nats l) = none ∧ kindZ p (nats l) = 2 by unfold nxtZ kindZ; rw [HI.out]; simp only []; rw [HOZ.out, ho]; exact ⟨rfl, rfl⟩)
     rw [show outI none = (-1 : Int) from rfl]
     clear ho
     go_wp2_with fail
     refine bodyPost_ret (v := .tuple #[.slice none 0 0, .int .i64 2, .int .i64 0]) ?_ ?_ ?_
     ·simp [results, Tryz.results52, go_sem]
     ·rfl
     exact RetNx.fin HN.out HK.out.1 HK.out.2 HBU.out
    | some q =>
     have hql := out_lt ho
     have HK := h_ (show nxtZ p (nats l) = some (insN ((nats l).eraseIdx q) r) by unfold nxtZ; rw [HI.out]; simp only []; rw [HOZ.out, ho])
     rw [show outI (some q) = (q : Int) from rfl]
     clear ho
     obtain ⟨bL, oL, rfl, hLc⟩ := HLU.out.plain (by omega)
     have zU := HBU.out.size
     obtain ⟨le, hle⟩ : ∃ le, le = l.eraseIdx q := ⟨_, rfl⟩
     have HLE2 := h_ hle
     have hlel : le.length = l.length - 1 := by rw [hle, List.length_eraseIdx, if_pos hql]
     obtain ⟨n1, hn1⟩ : ∃ n1, l.length = n1 + 1 := ⟨l.length - 1, by omega⟩
     have HCL := h_ (by
      have := slices_Clone bL oL l.length cl l U (Nat.le_refl _) (by omega) (fun j hj => hLc j hj)
      rw [hn1] at this
      exact this)
     clear hLc
     have HN1 := h_ hn1
     have HLEL := h_ (show le.length = n1 by omega)
     clear hle hlel
     have HDEL := h_ (fun (g cap : Nat) (u : World) (h : u.ownsRow U.heap.size 3 1 (.slice (some ⟨g, 0, none⟩) (n1 + 1) cap) (n1 + 1) (l.map (Value.int .i64))) (hcap : n1 + 1 ≤ cap ∧ cap ≤ 9223372036854775807) => by
      have := slices_Delete g 0 cap q (q + 1) l u (own_holds h hn1) (by omega) hcap.2 (by omega) (by omega)
      rw [show l.length - (q + 1 - q) = n1 by omega, hn1] at this
      exact this)
     have hq1 : q ≤ n1 := by omega
     rw [hn1] at hls ⊢
     clear hn1 hql hk
     go_wp2_with fail
     refine HCL.out.mono ?_
     rintro e w5 ⟨v5, rfl, hown5, _, hb5⟩
     rw [show l.take (n1 + 1) = l from List.take_of_length_le (by rw [HN1.out]; exact Nat.le_refl _)] at hown5
     obtain ⟨g5, cap5, rfl⟩ := own_some hown5 (by omega)
     have hcap5 := own_caps hown5
     have HD5 := h_ (HDEL.out g5 cap5 w5 hown5 hcap5)
     have HO5 := h_ hown5
     have HB5 := h_ hb5
     have z5 := hb5.size
     have lg5 := (hown5.lt g5 rfl)
     clear hown5 hb5
     go_wp2_with fail
     refine HD5.out.mono ?_
     rintro e w6 ⟨rfl, qq, rfl⟩
     obtain ⟨ts, hts⟩ : ∃ ts, ts = l.take q ++ l.drop (q + 1) ++ List.replicate (q + 1 - q) (0 : Int) := ⟨_, rfl⟩
     have htl : ts.length = n1 + 1 := by rw [hts]; have := HN1.out; simp; omega
     have htt : ts.take n1 = le := by
      have hl2 : (l.take q ++ l.drop (q + 1)).length = n1 := by have := HN1.out; simp; omega
      rw [hts, List.take_append_of_le_length (by omega), List.take_of_length_le (by omega), HLE2.out, List.eraseIdx_eq_take_drop_succ]
     rw [← hts]
     have hown6 := own_putRow (q := qq) (m := n1) HO5.out htl (by omega)
     rw [htt] at hown6
     have hb6 : Below U.heap.size w5 (putRow (Value.int .i64) (Sort.ahead w5 qq) g5 0 ts.toArray) := putRow_below lg5.1 z5
     have HO6 := h_ hown6
     have HB6 := h_ (HB5.out.trans hb6)
     clear hown6 hb6 hts htl htt
     generalize putRow (Value.int .i64) (Sort.ahead w5 qq) g5 0 ts.toArray = w6 at *
     have z6 := HB6.out.size
     go_wp2_with (at_builtin; refine list_app1 rfl (.tmp 96) (.tmp 98) _ _ _ 8 und_intS1 inf_intS1 rfl rfl U.heap.size (.slice (some ⟨g5, 0, none⟩) n1 cap5) n1 _ _ rfl (HO6.out.alloc _) _ 1 rfl (cell_new1 _ _ _) rfl (by unfold maxLen; omega) (by omega) (by simp; omega) ?_; intro g7 cap7 w7 hown7 hg7 hat7 hlt7; refine Hid.out ?_)
     refine h_ ?_
     have hown7' : w7.ownsRow U.heap.size 3 1 (.slice (some ⟨g7, 0, none⟩) (n1 + 1) cap7) (n1 + 1) ((le ++ [(r : Int)]).map (Value.int .i64)) := by rw [List.map_append]; exact hown7
     have HB7 := h_ ((HB6.out.alloc z6 _).grown hg7 (by simp; omega) (fun j e => by cases e; exact lg5.1))
     have hal : (le ++ [(r : Int)]).length = n1 + 1 := by rw [List.length_append, HLEL.out]; rfl
     have HS := h_ (by
      have := slices_Sort g7 0 cap7 (le ++ [(r : Int)]) w7 (own_holds hown7' hal) hlt7 (by rw [hal]; omega)
      rw [hal] at this
      exact this)
     have HO7 := h_ hown7'
     have HAL := h_ hal
     clear hown7 hown7' hg7 hat7 hal
     go_wp2_with fail
     refine HS.out.mono ?_
     rintro e w8 ⟨rfl, q8, os8, rfl⟩
     have hin : ints ((nats l).eraseIdx q) = le := by rw [← ints_erase, ← HNE.out, HLE2.out]
     have hsrt : (le ++ [(r : Int)]).mergeSort (fun x y => decide (x ≤ y)) = ints (insN ((nats l).eraseIdx q) r) := by
      rw [← hin]
      exact sort_ins (HR.out.pw.sublist (List.eraseIdx_sublist _ _)) (fun h => HRN.out.1 (List.mem_of_mem_eraseIdx h))
     rw [hsrt]
     have hln : (insN ((nats l).eraseIdx q) r).length = n1 + 1 := by
      rw [length_insN, List.length_eraseIdx, if_pos (by rw [show (nats l).length = l.length by simp [nats], HN1.out]; omega), show (nats l).length = l.length by simp [nats], HN1.out]; rfl
     have hown8 := own_sorted (q := q8) (os := os8) (ts := ints (insN ((nats l).eraseIdx q) r)) HO7.out HAL.out (by rw [HAL.out]; unfold ints; rw [List.length_map]; exact hln)
     have hb8 : Below U.heap.size U (grow (putRow (Value.int .i64) (Sort.ahead w7 q8) g7 0 (ints (insN ((nats l).eraseIdx q) r)).toArray) os8) := HB7.out.grown (grownBy_sortedI _) HB7.out.size (fun j e => by cases e; exact (HO7.out.lt g7 rfl).1)
     have HO8 := h_ hown8
     have HB8 := h_ hb8
     have HLN8 := h_ hln
     clear hown8 hb8 hln hsrt hin
     generalize grow (putRow (Value.int .i64) (Sort.ahead w7 q8) g7 0 (ints (insN ((nats l).eraseIdx q) r)).toArray) os8 = w8 at *
     go_wp2_with fail
     refine bodyPost_ret (v := .tuple #[.slice (some ⟨g7, 0, none⟩) (n1 + 1) cap7, .int .i64 0, .int .i64 0]) ?_ ?_ ?_
     ·simp [results, Tryz.results52, go_sem]
     ·rfl
     refine ⟨HBU.out.trans (HB8.out.mono zU), fun h => absurd HN.out h, fun _ => ⟨fun h => ?_, fun l' h => ?_⟩⟩
     ·rw [HK.out] at h; cases h
     ·rw [HK.out] at h
      injection h with h
      subst h
      exact ⟨g7, cap7, by rw [HLN8.out], by rw [HLN8.out]; exact own_weak HO8.out zU⟩
end Go.Proofs.YtjcdkbalhleeeaaGreatDoor
