/-
  Walk: walk.Next computes what the plain words say.
-/
import Derived.Test.YtjcdkbalhleeeabNxt1
import Derived.Test.YtjcdkbalhleeeabChg1
import Derived.Test.YtjcdkbalhleeeabShf1
import Derived.Test.YtjcdkbalhleeeabPlainA
import Derived.Test.YtjcdkbalhleeeabPrf1
import Derived.Sort.OwnSortedInts
namespace Go.Proofs.Ytjcdkbalhleeeab
open Go.RowKit Go.Sort

/-- What walk.Next hands back. -/
def RetNx (w : World) (p : PG) (l : List Int) (e : Ending) (w' : World) : Prop :=
  Below w.heap.size w w' ∧ (nextE p l ≠ 0 → e = .returned (.tuple #[.slice none 0 0, .int .i64 0, .int .i64 (nextE p l)])) ∧
  (nextE p l = 0 → (nxtZ p (nats l) = none → e = .returned (.tuple #[.slice none 0 0, .int .i64 (kindZ p (nats l)), .int .i64 0])) ∧
    ∀ l', nxtZ p (nats l) = some l' → ∃ g cap, e = .returned (.tuple #[.slice (some ⟨g, 0, none⟩) l'.length cap, .int .i64 0, .int .i64 0]) ∧
      w'.ownsRow w.heap.size 3 1 (.slice (some ⟨g, 0, none⟩) l'.length cap) l'.length ((ints l').map (Value.int .i64)))
theorem RetNx.bad {w w' : World} {p : PG} {l : List Int} {er : Int} (h : nextE p l = er) (h0 : er ≠ 0) (hb : Below w.heap.size w w') : RetNx w p l (.returned (.tuple #[.slice none 0 0, .int .i64 0, .int .i64 er])) w' :=
  ⟨hb, fun _ => by rw [h], fun q => absurd (h.symm.trans q) h0⟩
theorem RetNx.fin {w w' : World} {p : PG} {l : List Int} {k : Int} (h : nextE p l = 0) (hn : nxtZ p (nats l) = none) (hk : kindZ p (nats l) = k) (hb : Below w.heap.size w w') : RetNx w p l (.returned (.tuple #[.slice none 0 0, .int .i64 k, .int .i64 0])) w' :=
  ⟨hb, fun q => absurd h q, fun _ => ⟨fun _ => by rw [hk], fun l' q => by rw [hn] at q; cases q⟩⟩

/-- Behind a row of the library's in place, the same block owns as many as are kept. -/
theorem own_putRow {w : World} {base g cap n m q : Nat} {e : TypeId} {ss : List Int} {xs : List Value} (h : w.ownsRow base e 1 (.slice (some ⟨g, 0, none⟩) n cap) n xs) (hn : ss.length = n) (hm : m ≤ n) :
    (putRow (Value.int .i64) (Sort.ahead w q) g 0 ss.toArray).ownsRow base e 1 (.slice (some ⟨g, 0, none⟩) m cap) m ((ss.take m).map (Value.int .i64)) := by
  rcases h.2 with ⟨e, _⟩ | ⟨g', cap', cur, e, hb, hg, h1, h2, h3, h4⟩
  · injection e with e1; cases e1
  · injection e with e1 e2 e3
    injection e1 with e1; injection e1 with e1
    subst e1 e3
    have := ownsRow_sortedI (n := q) (os := #[]) (ss := ss) (ts := ss) rfl hb hg (by omega) h2 h3
    rw [grow_empty] at this
    refine ⟨by simp; omega, .inr ⟨g, cap, putCells (Value.int .i64) 0 ss.toArray cur, rfl, hb, ?_, by omega, h2, by simp [putCells, h3], ?_⟩⟩
    · have := heap_sortedI (n := q) (os := #[]) ss.toArray hg
      rwa [grow_empty] at this
    · have hts := take_putCellsI cur ss (by omega)
      rw [Nat.mul_one, List.map_take, ← hts, List.take_take]
      congr 1; omega
theorem own_holds {w : World} {base g cap n : Nat} {e : TypeId} {ss : List Int} (h : w.ownsRow base e 1 (.slice (some ⟨g, 0, none⟩) n cap) n (ss.map (Value.int .i64))) (hn : ss.length = n) : Holds (Value.int .i64) w g 0 ss.toArray := by
  rcases h.2 with ⟨e, _⟩ | ⟨g', cap', cur, e, hb, hg, h1, h2, h3, h4⟩
  · injection e with e1; cases e1
  · injection e with e1 e2 e3
    injection e1 with e1; injection e1 with e1
    subst e1 e3
    exact holds_of_blockI hg (by rw [Nat.mul_one] at h4; rw [hn]; exact h4)
theorem putRow_below {w : World} {B g q : Nat} {ss : List Int} (hg : B ≤ g) (hB : B ≤ w.heap.size) : Below B w (putRow (Value.int .i64) (Sort.ahead w q) g 0 ss.toArray) := by
  have := grownBy_sortedI (w := w) (g := g) (n := q) (os := #[]) ss.toArray
  rw [grow_empty] at this
  exact (Below.refl B w).grown this hB (fun j e => by cases e; exact hg)

/-- Behind a sort in place the same block owns the sorted row. -/
theorem own_sorted {w : World} {base g cap n q : Nat} {e : TypeId} {ss ts : List Int} {os : Array Obj} {xs : List Value} (h : w.ownsRow base e 1 (.slice (some ⟨g, 0, none⟩) n cap) n xs) (hn : ss.length = n) (ht : ts.length = ss.length) :
    (grow (putRow (Value.int .i64) (Sort.ahead w q) g 0 ts.toArray) os).ownsRow base e 1 (.slice (some ⟨g, 0, none⟩) n cap) n (ts.map (Value.int .i64)) := by
  rcases h.2 with ⟨e, _⟩ | ⟨g', cap', cur, e, hb, hg, h1, h2, h3, h4⟩
  · injection e with e1; cases e1
  · injection e with e1 e2 e3
    injection e1 with e1; injection e1 with e1
    subst e1 e3 hn
    exact ownsRow_sortedI (ss := ss) (ts := ts) ht hb hg h1 h2 h3
theorem und_intS1 : Try.prog.underlying 26 = some (.slice 3) := by kernel_rfl
theorem inf_intS1 : (Try.prog.info? 3).map (fun i => (i.zero, i.size, i.bytes)) = some (some (.int .i64 0), 1, 8) := by kernel_rfl
/-- The place of the column that goes out, as a number. -/
def outI (o : Option Nat) : Int := match o with
  | some k => k
  | none => -1


set_option maxRecDepth 100000 in
set_option maxHeartbeats 2000000 in
/-- Columns that do not come to a corner. -/
theorem next_bad (A : Option Addr) (c : Nat) (A2 : Option Addr) (c2 : Nat) (p : PG) (L : Option Addr) (l : List Int) (cl : Nat) (w : World) (hp : Pg w A c A2 c2 p) (hr : Rd w L cl l) (er : Int) (he : lookE p l = er) (h0 : er ≠ 0) :
    Calls Try.prog 11 #[.agg #[.slice A p.costs.length c, .slice A2 p.rows.length c2], .slice L l.length cl] w (RetNx w p l) := by
  have HN := Lib.hid (show nextE p l = er by unfold nextE; rw [if_neg (by rw [he]; exact h0), he])
  have HE := Lib.hid he
  have H0 := Lib.hid h0
  have hz : (er != 0) = true := by simpa using h0
  clear he h0
  have HP := Lib.hid hp
  have HL := Lib.hid hr
  obtain ⟨⟨hl, hc, hsm, _⟩, ⟨hl2, hc2, hsm2, _⟩⟩ := hp
  obtain ⟨hll, hlc, hls, _⟩ := hr
  go_enter Try.func11, Try.ntmps11
  go_wp2_with fail
  have BP := Lib.hid (Blk.mk' w 25 #[.slice A p.costs.length c, .slice A2 p.rows.length c2])
  have HVW := Lib.hid ((by (repeat (any_goals (first | exact Below.refl _ _ | refine below_drewN ?_ _ | refine Below.drew ?_ | refine Below.alloc ?_ ?_ _ | refine Below.setCell ?_ ?_ _))); all_goals (first | omega | (simp; done) | (simp; omega))) : Below w.heap.size w (w.alloc (.cells #[.slice A p.costs.length c, .slice A2 p.rows.length c2] 25)))
  generalize (w.alloc (.cells #[.slice A p.costs.length c, .slice A2 p.rows.length c2] 25)) = V at *
  have zV := HVW.out.size
  have lP := BP.out.lt
  refine (corner_Look _ _ _ _ _ _ _ _ _ (HP.out.below HVW.out) (HL.out.below HVW.out)).mono ?_
  rw [HE.out]
  obtain ⟨cc, hC⟩ : ∃ cc, lookC p l = cc := ⟨_, rfl⟩
  rw [hC]
  have HC := Lib.hid hC
  clear hC
  rintro e w1 ⟨X, cx, Y, cy, G, cg, rfl, hX, hY, hG, hb1⟩
  have HCn := Lib.hid (CnN.mk hX hY hG)
  have H1 := Lib.hid hb1
  have z01 := hb1.size
  clear hX hY hG hb1
  go_upto_region 2 with fail
  have BC := Lib.hid (Blk.mk' w1 42 #[.slice X cc.xs.length cx, .int .i64 cc.xd, .slice Y cc.ys.length cy, .int .i64 cc.yd, .slice G cc.gs.length cg, .int .i64 cc.gd])
  have HWL := (Below.refl w1.heap.size w1).alloc (Nat.le_refl _) (.cells #[.slice X cc.xs.length cx, .int .i64 cc.xd, .slice Y cc.ys.length cy, .int .i64 cc.yd, .slice G cc.gs.length cg, .int .i64 cc.gd] 42)
  have HV2 := Lib.hid (H1.out.trans (HWL.mono z01))
  have HCW := Lib.hid (HCn.out.below HWL)
  have HBW := Lib.hid (HVW.out.trans (HV2.out.mono zV))
  clear HWL
  generalize (w1.alloc (.cells #[.slice X cc.xs.length cx, .int .i64 cc.xd, .slice Y cc.ys.length cy, .int .i64 cc.yd, .slice G cc.gs.length cg, .int .i64 cc.gd] 42)) = W at *
  go_wp2_with fail
  refine bodyPost_ret (v := .tuple #[.slice none 0 0, .int .i64 0, .int .i64 er]) ?_ ?_ ?_
  · simp [results, Try.results11, go_sem]
  · rfl
  exact RetNx.bad HN.out H0.out HBW.out

set_option maxRecDepth 100000 in
set_option maxHeartbeats 2000000 in
/-- A corner that does not go. -/
theorem next_off (A : Option Addr) (c : Nat) (A2 : Option Addr) (c2 : Nat) (p : PG) (L : Option Addr) (l : List Int) (cl : Nat) (w : World) (hp : Pg w A c A2 c2 p) (hr : Rd w L cl l) (he : lookE p l = 0) (hx : nonneg (lookC p l).xs = false) :
    Calls Try.prog 11 #[.agg #[.slice A p.costs.length c, .slice A2 p.rows.length c2], .slice L l.length cl] w (RetNx w p l) := by
  have HN := Lib.hid (show nextE p l = 3 by unfold nextE; rw [if_pos he, if_neg (by rw [hx]; simp)])
  have HE := Lib.hid he
  have HX := Lib.hid hx
  obtain ⟨_, _, _, hco⟩ := look_corn he
  have HCO := Lib.hid hco
  clear he hx hco
  have HP := Lib.hid hp
  have HL := Lib.hid hr
  obtain ⟨⟨hl, hc, hsm, _⟩, ⟨hl2, hc2, hsm2, _⟩⟩ := hp
  obtain ⟨hll, hlc, hls, _⟩ := hr
  go_enter Try.func11, Try.ntmps11
  go_wp2_with fail
  have BP := Lib.hid (Blk.mk' w 25 #[.slice A p.costs.length c, .slice A2 p.rows.length c2])
  have HVW := Lib.hid ((by (repeat (any_goals (first | exact Below.refl _ _ | refine below_drewN ?_ _ | refine Below.drew ?_ | refine Below.alloc ?_ ?_ _ | refine Below.setCell ?_ ?_ _))); all_goals (first | omega | (simp; done) | (simp; omega))) : Below w.heap.size w (w.alloc (.cells #[.slice A p.costs.length c, .slice A2 p.rows.length c2] 25)))
  generalize (w.alloc (.cells #[.slice A p.costs.length c, .slice A2 p.rows.length c2] 25)) = V at *
  have zV := HVW.out.size
  have lP := BP.out.lt
  refine (corner_Look _ _ _ _ _ _ _ _ _ (HP.out.below HVW.out) (HL.out.below HVW.out)).mono ?_
  rw [HE.out]
  obtain ⟨cc, hC⟩ : ∃ cc, lookC p l = cc := ⟨_, rfl⟩
  rw [hC]
  have HC := Lib.hid hC
  clear hC
  rintro e w1 ⟨X, cx, Y, cy, G, cg, rfl, hX, hY, hG, hb1⟩
  have HCn := Lib.hid (CnN.mk hX hY hG)
  have H1 := Lib.hid hb1
  have z01 := hb1.size
  clear hX hY hG hb1
  go_upto_region 2 with fail
  have BC := Lib.hid (Blk.mk' w1 42 #[.slice X cc.xs.length cx, .int .i64 cc.xd, .slice Y cc.ys.length cy, .int .i64 cc.yd, .slice G cc.gs.length cg, .int .i64 cc.gd])
  have HWL := (Below.refl w1.heap.size w1).alloc (Nat.le_refl _) (.cells #[.slice X cc.xs.length cx, .int .i64 cc.xd, .slice Y cc.ys.length cy, .int .i64 cc.yd, .slice G cc.gs.length cg, .int .i64 cc.gd] 42)
  have HV2 := Lib.hid (H1.out.trans (HWL.mono z01))
  have HCW := Lib.hid (HCn.out.below HWL)
  have HBW := Lib.hid (HVW.out.trans (HV2.out.mono zV))
  clear HWL
  generalize (w1.alloc (.cells #[.slice X cc.xs.length cx, .int .i64 cc.xd, .slice Y cc.ys.length cy, .int .i64 cc.yd, .slice G cc.gs.length cg, .int .i64 cc.gd] 42)) = W at *
  have hco := HCO.out
  have hx := HX.out
  rw [HC.out] at hco hx
  have hp := (mayPB_iff.1 hco.hp).2.2.1
  have hlen := hco.lx
  obtain ⟨x0, xr, hxs⟩ : ∃ x0 xr, cc.xs = x0 :: xr := List.exists_cons_of_length_pos (by rw [hlen]; omega)
  have HMin := Lib.hid (fun u (hu : Rd u X cx cc.xs) => by
    rw [hxs] at hu
    have := slices_Min X x0 xr cx u hu
    rw [← hxs] at this
    exact this)
  have hlt : minL x0 xr < 0 := by
    apply Classical.byContradiction
    intro q
    have := minL_nonneg.1 (show 0 ≤ minL x0 xr by omega)
    rw [hxs] at hx
    simp [nonneg] at hx
    have h2 := this.2
    unfold nonneg at h2
    rw [List.all_eq_true] at h2
    obtain ⟨y, hy, hy2⟩ := hx this.1
    have := h2 y hy
    simp at this
    omega
  clear hxs hlen hp hx hco
  generalize minL x0 xr = mv at *
  have k0 : (W).cell? ⟨w1.heap.size, 0, none⟩ = some (.slice X cc.xs.length cx) := (BC.out.next (Below.refl _ _)).cell 0
  have k1 : (W).cell? ⟨w1.heap.size, 1, none⟩ = some (.int .i64 cc.xd) := (BC.out.next (Below.refl _ _)).cell 1
  have k2 : (W).cell? ⟨w1.heap.size, 2, none⟩ = some (.slice Y cc.ys.length cy) := (BC.out.next (Below.refl _ _)).cell 2
  have k3 : (W).cell? ⟨w1.heap.size, 3, none⟩ = some (.int .i64 cc.yd) := (BC.out.next (Below.refl _ _)).cell 3
  have k4 : (W).cell? ⟨w1.heap.size, 4, none⟩ = some (.slice G cc.gs.length cg) := (BC.out.next (Below.refl _ _)).cell 4
  have k5 : (W).cell? ⟨w1.heap.size, 5, none⟩ = some (.int .i64 cc.gd) := (BC.out.next (Below.refl _ _)).cell 5
  go_wp2_with fail
  refine (HMin.out _ HCW.out.x).mono ?_
  rintro e w2 ⟨rfl, rfl⟩
  go_wp2_with fail
  refine bodyPost_ret (v := .tuple #[.slice none 0 0, .int .i64 0, .int .i64 3]) ?_ ?_ ?_
  · simp [results, Try.results11, go_sem]
  · rfl
  exact RetNx.bad HN.out (by omega) HBW.out
end Go.Proofs.Ytjcdkbalhleeeab
