/-
  Contracts of functions and plain laws that later parts of the proof use. The conditions stand in each theorem.
-/
import Derived.Test.YtjcdkbalhleeeaaGreatDoorG08
import Derived.Test.YtjcdkbalhleeeaaGreatDoorG12
import Derived.Test.YtjcdkbalhleeeaaGreatDoorG02
import Derived.Shelf.SlicesE.IndexFunc
import Derived.Ground.SlgfProg
import Derived.Lib.SliceRun
import Derived.Test.YtjcdkbalhleeeaaGreatDoorG09
import Derived.Test.YtjcdkbalhleeeaaGreatDoorG05
import Derived.Test.YtjcdkbalhleeeaaGreatDoorG13
import Derived.Test.YtjcdkbalhleeeaaGreatDoorG11
import Derived.Shelf.Sort.Plain
import Derived.Shelf.Slices.In.SortNone
import Derived.Ground.Names2Prog
import Derived.Ground.NamesProg
import Derived.Shelf.Slices.Clone
import Derived.Shelf.Slices.Delete
import Derived.Test.YtjcdkbalhleeeaaGreatDoorG04
import Derived.Sort.OwnSortedInts
namespace Go.Proofs
open Go.Shelf
def Tryz.idx6_ren : Go.Shelf.Ren := ⟨fun | 6 => 86 | n => n, fun | 22 => 25 | 23 => 2 | 25 => 125 | 3 => 3 | 0 => 0 | 4 => 4 | n => n, fun | n => n⟩
theorem Tryz.idx6 : SlLaysH.n6 Tryz.prog Tryz.idx6_ren := {
  mixed := by kernel_rfl
  f6 := ⟨Tryz.f86.name, by decide, Tryz.func86.trans (congrArg some (by kernel_rfl))⟩
  t0 := Tryz.underlying0
  a0 := Tryz.isAgg0
  z0 := Tryz.sizeOf0
  v0 := Tryz.zeroValue0
  t3 := Tryz.underlying3
  a3 := Tryz.isAgg3
  z3 := Tryz.sizeOf3
  v3 := Tryz.zeroValue3
  t4 := Tryz.underlying4
  a4 := Tryz.isAgg4
  z4 := Tryz.sizeOf4
  v4 := Tryz.zeroValue4
  t22 := Tryz.underlying25
  a22 := Tryz.isAgg25
  z22 := Tryz.sizeOf25
  v22 := Tryz.zeroValue25
  a23 := Tryz.isAgg2
  z23 := Tryz.sizeOf2
  t25 := Tryz.underlying125
  a25 := Tryz.isAgg125
  z25 := Tryz.sizeOf125
  v25 := Tryz.zeroValue125
  }
end Go.Proofs
namespace Go.Proofs.YtjcdkbalhleeeaaGreatDoor
open Go.Proofs Go.Shelf Go.RowKit Go.Lib

/-- A corner's three slices read as its numbers. -/
structure CnN (w : World) (X : Option Addr) (cx : Nat) (Y : Option Addr) (cy : Nat) (G : Option Addr) (cg : Nat) (c : CO) : Prop where
  x : Rd w X cx c.xs
  y : Rd w Y cy c.ys
  g : Rd w G cg c.gs
theorem CnN.below {w w' : World} {X : Option Addr} {cx : Nat} {Y : Option Addr} {cy : Nat} {G : Option Addr} {cg : Nat} {c : CO} (h : CnN w X cx Y cy G cg c) (hb : Below w.heap.size w w') : CnN w' X cx Y cy G cg c := ⟨h.x.below hb, h.y.below hb, h.g.below hb⟩
/-- A slice that holds something lies in plain cells. -/
theorem Rd.plain {w : World} {A : Option Addr} {c : Nat} {l : List Int} (h : Rd w A c l) (h0 : 0 < l.length) : ∃ b off, A = some ⟨b, off, none⟩ ∧ ∀ j, j < l.length → w.cell? ⟨b, off + j, none⟩ = some (.int .i64 (l.getD j 0)) := by
  obtain ⟨ad, e, hc⟩ := h.cells (by simpa using h0)
  obtain ⟨b, off, sp⟩ := ad
  have h1 := hc 0 (.int .i64 (l.getD 0 0)) (by simp [List.getD, List.getElem?_eq_getElem h0])
  have hs : sp = none := by
    cases sp with
    | none => rfl
    | some s =>
      simp only [Addr.add, if_true, World.cell?] at h1
      split at h1 <;> simp at h1
  subst hs
  refine ⟨b, off, e, fun j hj => ?_⟩
  have h2 := hc j (.int .i64 (l.getD j 0)) (by simp [List.getD, List.getElem?_eq_getElem hj])
  have e2 : (⟨b, off, none⟩ : Addr).add j = ⟨b, off + j, none⟩ := by unfold Addr.add; split <;> simp_all
  rwa [e2] at h2

def inI (gs : List Int) : Int := match inZ gs with
  | some r => r
  | none => -1
theorem idxBy_find (gs : List Int) : ∀ i, Lib.idxByFrom (fun (_ : Int) y => decide (0 < y)) default gs i = match inZ gs with
  | some r => ((i + r : Nat) : Int)
  | none => -1 := by
  induction gs with
  | nil => intro i; simp [Lib.idxByFrom, inZ]
  | cons y gs ih =>
    intro i
    rw [Lib.idxByFrom]
    unfold inZ
    rw [List.findIdx?_cons]
    by_cases h : decide (0 < y) = true
    · rw [if_pos h, if_pos h]; simp
    · rw [if_neg h, if_neg h, ih]
      unfold inZ
      cases hh : List.findIdx? (fun n => decide (0 < n)) gs with
      | none => simp
      | some r =>
        simp only [Option.map_some]
        show ((i + 1 + r : Nat) : Int) = ((i + (r + 1) : Nat) : Int)
        congr 1; omega
theorem idx_in (gs : List Int) : Lib.idxBy (fun (_ : Int) y => decide (0 < y)) gs default = inI gs := by
  unfold Lib.idxBy inI
  rw [idxBy_find]
  cases inZ gs with
  | none => rfl
  | some r => simp

theorem in_pred (w : World) : PredAt Tryz.prog 87 #[] (Value.int .i64) (fun x => decide (0 < x)) w := fun W x hb => by
  show Calls Tryz.prog 87 #[.int .i64 x] W _
  go_enter Tryz.func87, Tryz.ntmps87
  go_wp2
  all_goals (go_ret; exact ⟨by simp_all, 0, rfl⟩)
theorem idx_plain (b off n c : Nat) (gs : List Int) (w : World) (hn : n = gs.length) (hs : gs.length ≤ 17592186044416) (hc : ∀ j, j < gs.length → w.cell? ⟨b, off + j, none⟩ = some (.int .i64 (gs.getD j 0))) :
    Calls Tryz.prog 86 #[.slice (some ⟨b, off, none⟩) n c, .func (.func 87) #[] #[]] w fun e w' => e = .returned (.int .i64 (inI gs)) ∧ ∃ q, w' = w.drewN q := by
  subst hn
  have eg : ∀ args w, (callFunc 87 args).run Tryz.prog w = .ok (.enter 87 args) w := enters_of Tryz.func87 (by kernel_rfl) rfl
  have := AnyE.slices_IndexFunc Tryz.idx6 (Value.int .i64) (fun x => decide (0 < x)) 87 #[] eg b off gs.length c gs w (in_pred w) (Nat.le_refl _) (by omega) (fun j hj => by rw [hc j hj]; simp [List.getD, List.getElem?_eq_getElem hj])
  rw [List.take_length, idx_in] at this
  exact this

set_option maxRecDepth 100000 in
theorem walk_In (X Y G : Option Addr) (cx cy cg nx ny : Nat) (xd yd gd : Int) (gs : List Int) (w : World) (hG : Rd w G cg gs) (h0 : 0 < gs.length) :
    Calls Tryz.prog 39 #[.agg #[.slice X nx cx, .int .i64 xd, .slice Y ny cy, .int .i64 yd, .slice G gs.length cg, .int .i64 gd]] w fun e w' => e = .returned (.int .i64 (inI gs)) ∧ Below w.heap.size w w' := by
  have HG := Lib.hid hG
  have hs := hG.small
  obtain ⟨b, off, rfl, hc⟩ := hG.plain h0
  have HI := Lib.hid (fun (u : World) (hu : Below w.heap.size w u) => idx_plain b off gs.length cg gs u rfl hs (fun j hj => by
    have := hc j hj
    exact (hu.cell (World.block_lt_of_cell? _ _ this)).trans this))
  have HN := Lib.hid (show inI gs = inI gs from rfl)
  obtain ⟨hl, hcap, _, _⟩ := hG
  clear hc hs
  generalize inI gs = r at *
  generalize gs.length = n at *
  go_enter Tryz.func39, Tryz.ntmps39
  go_wp2_with fail
  refine (HI.out _ (by (repeat (any_goals (first | exact Below.refl _ _ | refine below_drewN ?_ _ | refine Below.drew ?_ | refine Below.alloc ?_ ?_ _ | refine Below.setCell ?_ ?_ _))); all_goals (first | omega | (simp; done) | (simp; omega)))).mono ?_
  rintro e w2 ⟨rfl, q, rfl⟩
  go_wp2_with fail
  go_ret
  exact ⟨rfl, (by (repeat (any_goals (first | exact Below.refl _ _ | refine below_drewN ?_ _ | refine Below.drew ?_ | refine Below.alloc ?_ ?_ _ | refine Below.setCell ?_ ?_ _))); all_goals (first | omega | (simp; done) | (simp; omega)))⟩
end Go.Proofs.YtjcdkbalhleeeaaGreatDoor

namespace Go.Proofs.YtjcdkbalhleeeaaGreatDoor
open Go.RowKit

theorem und_rowsT : Tryz.prog.underlying 26 = some (.slice 91) := by kernel_rfl
theorem inf_rowT : (Tryz.prog.info? 91).map (fun i => (i.zero, i.size, i.bytes)) = some (some (.agg #[.slice none 0 0, .int .i64 0]), 2, 32) := by kernel_rfl
/-- The rows' cells, of the first k. -/
def rowCells (As : Nat → Option Addr) (cs : Nat → Nat) (p : PG) (b : List Int) : Nat → List Value
  | 0 => []
  | k + 1 => rowCells As cs p b k ++ [.slice (As k) (p.rows.getD k ([], 0)).1.length (cs k), .int .i64 (b.getD k 0)]
theorem rowCells_len (As : Nat → Option Addr) (cs : Nat → Nat) (p : PG) (b : List Int) (k : Nat) : (rowCells As cs p b k).length = k * 2 := by
  induction k with
  | zero => rfl
  | succ k ih => rw [rowCells, List.length_append, ih]; simp; omega
theorem rowCells_at (As : Nat → Option Addr) (cs : Nat → Nat) (p : PG) (b : List Int) {k i : Nat} (h : i < k) :
    (rowCells As cs p b k)[i * 2]? = some (.slice (As i) (p.rows.getD i ([], 0)).1.length (cs i)) ∧ (rowCells As cs p b k)[i * 2 + 1]? = some (.int .i64 (b.getD i 0)) := by
  induction k with
  | zero => omega
  | succ k ih =>
    have hl := rowCells_len As cs p b k
    rw [rowCells]
    by_cases e : i = k
    · subst e
      rw [List.getElem?_append_right (by omega), List.getElem?_append_right (by omega), hl]
      simp
    · obtain ⟨h1, h2⟩ := ih (by omega)
      rw [List.getElem?_append_left (by omega), List.getElem?_append_left (by omega)]
      exact ⟨h1, h2⟩
/-- They read as the rows. -/
theorem rows_read {w : World} {base g cap k : Nat} {As : Nat → Option Addr} {cs : Nat → Nat} {p : PG} {b : List Int}
    (h : w.ownsRow base 91 2 (.slice (some ⟨g, 0, none⟩) k cap) k (rowCells As cs p b k)) (hk : k ≤ 1000) (hr : ∀ i, i < k → Rd w (As i) (cs i) (p.rows.getD i ([], 0)).1) :
    Rw w (some ⟨g, 0, none⟩) cap (rowsK p b k) := by
  have hcap : k ≤ cap ∧ cap ≤ 9223372036854775807 := by
    rcases h.2 with ⟨e, _⟩ | ⟨g', cap', cur, e, hb, hg, h1, h2, _⟩
    · injection e with e1; cases e1
    · injection e with e1 e2 e3
      subst e3
      exact ⟨h1, by unfold maxLen at h2; omega⟩
  refine ⟨by rw [rowsK_len]; exact hcap.1, hcap.2, by rw [rowsK_len]; omega, fun _ => ⟨_, rfl, fun j hj => ?_⟩⟩
  have hj' : j < k := by rwa [rowsK_len] at hj
  obtain ⟨c1, c2⟩ := rowCells_at As cs p b hj'
  have e1 : ∀ q, (⟨g, 0, none⟩ : Addr).add q = ⟨g, q, none⟩ := fun q => by unfold Addr.add; split <;> simp_all
  have d1 := h.cells (g := g) rfl (j * 2) _ c1
  have d2 := h.cells (g := g) rfl (j * 2 + 1) _ c2
  rw [e1] at d1 d2
  have er : (rowsK p b k)[j] = ((p.rows.getD j ([], 0)).1, b.getD j 0) := by
    have := rowsK_at p b hj'
    rwa [List.getD, List.getElem?_eq_getElem hj, Option.getD_some] at this
  rw [e1, er]
  exact ⟨As j, cs j, d1, d2, hr j hj'⟩
/-- The slices of a program's rows, one by one. -/
theorem Rw.all {w : World} {A : Option Addr} {c : Nat} {rs : List (List Int × Int)} (h : Rw w A c rs) (h0 : 0 < rs.length) :
    ∃ (ad : Addr) (As : Nat → Option Addr) (cs : Nat → Nat), A = some ad ∧ ∀ j, j < rs.length → w.cell? (ad.add (j * 2)) = some (.slice (As j) (rs.getD j ([], 0)).1.length (cs j)) ∧
      w.cell? ⟨(ad.add (j * 2)).block, (ad.add (j * 2)).off + 1, none⟩ = some (.int .i64 (rs.getD j ([], 0)).2) ∧ Rd w (As j) (cs j) (rs.getD j ([], 0)).1 := by
  obtain ⟨ad, e, hc⟩ := h.cells h0
  have key : ∀ j, ∃ x : Option Addr × Nat, j < rs.length → w.cell? (ad.add (j * 2)) = some (.slice x.1 (rs.getD j ([], 0)).1.length x.2) ∧
      w.cell? ⟨(ad.add (j * 2)).block, (ad.add (j * 2)).off + 1, none⟩ = some (.int .i64 (rs.getD j ([], 0)).2) ∧ Rd w x.1 x.2 (rs.getD j ([], 0)).1 := fun j => by
    by_cases hj : j < rs.length
    · obtain ⟨A', c', h1, h2, h3⟩ := hc j hj
      refine ⟨(A', c'), fun _ => ?_⟩
      have er : rs.getD j ([], 0) = rs[j] := by simp [List.getD, List.getElem?_eq_getElem hj]
      rw [er]
      exact ⟨h1, h2, h3⟩
    · exact ⟨(none, 0), fun q => absurd q hj⟩
  exact ⟨ad, fun j => (Classical.choose (key j)).1, fun j => (Classical.choose (key j)).2, e, fun j hj => Classical.choose_spec (key j) hj⟩
theorem news2 {w : World} {b : Nat} {u v : Value} {t : TypeId} (h : Blk w b t #[u, v]) : ∀ (j : Nat) (x : Value), [u, v][j]? = some x → w.cell? ((⟨b, 0, none⟩ : Addr).add j) = some x :=
  fun j x hx => World.news_of_block (cs := #[u, v]) h j x hx
section
variable {ops : Array Oper} {o : Oper} {a : Act} {w : World} {Q : Exit → Act → World → Prop}
theorem step_appRow {K : Act → World → Prop} {E' : Prop} (hgd : o.guard = none) (s x : Operand)
    (ho : o.op = .call { callee := .builtin .append, args := #[s, x], argTypes := #[26, 26] })
    (base : Nat) (v : Value) (n : Nat) (xs : List Value) (u1 u2 : Value) (hs : a.eval s = v) (hown : w.ownsRow base 91 2 v n xs)
    (b c : Nat) (hx : a.eval x = .slice (some ⟨b, 0, none⟩) 1 c) (hb : ∀ (j : Nat) (x : Value), [u1, u2][j]? = some x → w.cell? ((⟨b, 0, none⟩ : Addr).add j) = some x) (h1 : u1.oneCell' = true) (h2 : u2.oneCell' = true)
    (hn : n ≤ 100) (hbase : base ≤ w.heap.size)
    (h : ∀ g cap w', w'.ownsRow base 91 2 (.slice (some ⟨g, 0, none⟩) (n + 1) cap) (n + 1) (xs ++ [u1, u2]) → w.grownBy w' v.ownBlock → (v.ownBlock = some g ∨ g = w.heap.size) → g < w'.heap.size → K (a.put o.dst (.slice (some ⟨g, 0, none⟩) (n + 1) cap)) w') :
    if Region.wanted o (yielded ops a.tmps) = true then Oper.wp Tryz.prog o a w K Q else E' := by
  obtain ⟨i, hi, hz0, hz1, hz2⟩ := info_parts inf_rowT
  exact step_append_lies w hgd s x 26 ho base 91 i _ 2 32 und_rowsT hi hz0 hz1 hz2 rfl (by omega) v n xs hs hown _ 1 c [u1, u2] hx rfl hb (by simp [h1, h2]) (by omega) (by unfold maxLen; omega) (by omega) hbase _ rfl h
end
end Go.Proofs.YtjcdkbalhleeeaaGreatDoor

namespace Go.Proofs.YtjcdkbalhleeeaaGreatDoor
open Go.RowKit

section
variable {rest : List Oper} {o : Oper} {a : Act} {w : World} {Q : Exit → Act → World → Prop}
theorem step_callW {P : Program} {ops : Array Oper} {K : Act → World → Prop} {E' : Prop} (hg : o.guard = none) {f : FuncId} {args : Array Value} (hrun : (execOp a.eval o).run P w = .ok (.enter f args) w) {U : World} {v : Value}
    (hc : Calls P f args w fun e w' => e = .returned v ∧ ∃ u : Wk U, w' = u.1) (hK : ∀ u : Wk U, K (a.put o.dst v) u.1) : if Region.wanted o (yielded ops a.tmps) = true then Oper.wp P o a w K Q else E' := by
  rw [if_pos (by simp [Region.wanted, hg])]
  unfold Oper.wp
  rw [hrun, Oper.upon_enter]
  exact hc.mono (by rintro _ _ ⟨rfl, u, rfl⟩; exact hK u)
end

set_option maxRecDepth 100000 in
set_option maxHeartbeats 2000000 in
theorem walk_Change (A : Option Addr) (c : Nat) (A2 : Option Addr) (c2 : Nat) (p : PG) (L : Option Addr) (l : List Int) (cl r : Nat) (w : World) (hp : Pg w A c A2 c2 p) (hr : Rd w L cl l) (h0 : lookE p l = 0) (hj : r < 1000000) :
    Calls Tryz.prog 85 #[.agg #[.slice A p.costs.length c, .slice A2 p.rows.length c2], .slice L l.length cl, .int .i64 r] w fun e w' => ∃ O co, e = .returned (.tuple #[.slice O l.length co, .int .i64 (lookC (qOf p r) l).xd]) ∧
      Rd w' O co (l.map fun j => (lookC (qOf p r) l).xs.getD j.toNat 0) ∧ Below w.heap.size w w' := by
  have hE2 := qOf_E h0 r
  obtain ⟨_, _, _, hco⟩ := look_corn h0
  obtain ⟨_, _, _, hcd⟩ := look_corn hE2
  obtain ⟨dd, hC2⟩ : ∃ dd, lookC (qOf p r) l = dd := ⟨_, rfl⟩
  rw [hC2] at hcd ⊢
  have HM := Lib.hid hco.hp
  have h4 := hco.rows4
  have h1 := (mayPB_iff.1 hco.hp).2.2.1
  have HRT := Lib.hid hco.hr
  have HNE := Lib.hid (show l = (nats l).map Int.ofNat from (right_nats (by
    unfold lookE at h0
    split at h0
    · omega
    · split at h0
      · omega
      · rename_i g; simpa using g)).2)
  have HE2 := Lib.hid hE2
  have HC2 := Lib.hid hC2
  have HCD := Lib.hid hcd
  clear h0 hE2 hC2 hco hcd
  have HP := Lib.hid hp
  have HL := Lib.hid hr
  obtain ⟨⟨hl, hc, hsm, _⟩, ⟨hl2, hc2, hsm2, _⟩⟩ := hp
  obtain ⟨hll, hlc, hls, _⟩ := hr
  go_enter Tryz.func85, Tryz.ntmps85
  obtain ⟨ad, As, cs, rfl, hrs⟩ := HP.out.rows.all (by omega)
  have HRS := Lib.hid hrs
  clear hrs
  go_wp2_with fail
  have BP := Lib.hid (show Blk ((w.alloc (.cells #[.slice A p.costs.length c, .slice (some ad) p.rows.length c2] 28)).alloc (.cells #[.slice A p.costs.length c, .slice none 0 0] 28)) w.heap.size 28 #[.slice A p.costs.length c, .slice (some ad) p.rows.length c2] from Blk.alloc (Blk.mk' _ _ _) _)
  have BQ := Lib.hid (show Blk ((w.alloc (.cells #[.slice A p.costs.length c, .slice (some ad) p.rows.length c2] 28)).alloc (.cells #[.slice A p.costs.length c, .slice none 0 0] 28)) (w.heap.size + 1) 28 #[.slice A p.costs.length c, .slice none 0 0] from by
    have := Blk.mk' (w.alloc (.cells #[.slice A p.costs.length c, .slice (some ad) p.rows.length c2] 28)) 28 #[.slice A p.costs.length c, .slice none 0 0]
    simpa using this)
  have HB := Lib.hid ((by (repeat (any_goals (first | exact Below.refl _ _ | refine below_drewN ?_ _ | refine Below.drew ?_ | refine Below.alloc ?_ ?_ _ | refine Below.setCell ?_ ?_ _))); all_goals (first | omega | (simp; done) | (simp; omega))) : Below w.heap.size w ((w.alloc (.cells #[.slice A p.costs.length c, .slice (some ad) p.rows.length c2] 28)).alloc (.cells #[.slice A p.costs.length c, .slice none 0 0] 28)))
  have lW : ((w.alloc (.cells #[.slice A p.costs.length c, .slice (some ad) p.rows.length c2] 28)).alloc (.cells #[.slice A p.costs.length c, .slice none 0 0] 28)).heap.size = w.heap.size + 2 := by simp
  generalize ((w.alloc (.cells #[.slice A p.costs.length c, .slice (some ad) p.rows.length c2] 28)).alloc (.cells #[.slice A p.costs.length c, .slice none 0 0] 28)) = W at *
  go_loopw [22] (fun i wx => ∃ (k : Nat) (v : Value), k ≤ p.rows.length ∧ i = .int .i64 k ∧ Blk wx w.heap.size 28 #[.slice A p.costs.length c, .slice (some ad) p.rows.length c2] ∧ Blk wx (w.heap.size + 1) 28 #[.slice A p.costs.length c, v] ∧ wx.ownsRow (w.heap.size + 2) 91 2 v k (rowCells As cs p (colP p r) k) ∧ Below w.heap.size w wx) (fun i _ => p.rows.length - (intOf i).toNat)
  case atStart => exact ⟨0, _, by omega, rfl, BP.out, BQ.out, World.ownsRow_nil _ _ _ _, HB.out⟩
  case round =>
    obtain ⟨k, v, hk, rfl, hPP, hQ, hown, hbel⟩ := hrel
    have HPP := Lib.hid hPP
    have HQ := Lib.hid hQ
    have HO := Lib.hid hown
    have HB := Lib.hid hbel
    have zB := hbel.size
    have lQ := hQ.lt
    clear hPP hQ hown hbel
    rename World => U
    by_cases hlt : k < p.rows.length
    · obtain ⟨r1, r2, r3⟩ := HRS.out k hlt
      have r1' := (HB.out.cell (World.block_lt_of_cell? _ _ r1)).trans r1
      have r2' := (HB.out.cell (World.block_lt_of_cell? _ _ r2)).trans r2
      have hral := World.block_lt_of_cell? _ _ r1'
      have HRC := Lib.hid (show rowCells As cs p (colP p r) (k + 1) = rowCells As cs p (colP p r) k ++ [.slice (As k) (p.rows.getD k ([], 0)).1.length (cs k), .int .i64 (hasZ p k r)] by rw [rowCells, colP_at p r hlt])
      have HCL := Lib.hid (fun u hu => corner_Has A c (some ad) c2 p k r u (HP.out.below (HB.out.trans hu)) HM.out hlt hj)
      generalize hasZ p k r = hv at *
      generalize (p.rows.getD k ([], 0)).1.length = rl at *
      generalize (p.rows.getD k ([], 0)).2 = rm at *
      generalize As k = Ak at *
      generalize cs k = ck at *
      have hi0 : (k : Int) < (p.rows.length : Int) := by omega
      clear r1 r2 r3
      go_upto_region 5 with fail
      have HU1 := Lib.hid (Blk.mk' U 91 #[.slice Ak rl ck, .int .i64 rm])
      have HP1 := Lib.hid (HPP.out.alloc (.cells #[.slice Ak rl ck, .int .i64 rm] 91))
      have HQ1 := Lib.hid (HQ.out.alloc (.cells #[.slice Ak rl ck, .int .i64 rm] 91))
      have HO1 := Lib.hid (HO.out.alloc (.cells #[.slice Ak rl ck, .int .i64 rm] 91))
      have HB1 := Lib.hid (HB.out.alloc zB (.cells #[.slice Ak rl ck, .int .i64 rm] 91))
      have hz1 : (U.alloc (.cells #[.slice Ak rl ck, .int .i64 rm] 91)).heap.size = U.heap.size + 1 := by simp
      have HC := Lib.hid (fun u hu => HCL.out u (((by (repeat (any_goals (first | exact Below.refl _ _ | refine below_drewN ?_ _ | refine Below.drew ?_ | refine Below.alloc ?_ ?_ _ | refine Below.setCell ?_ ?_ _))); all_goals (first | omega | (simp; done) | (simp; omega))) : Below w.heap.size U (U.alloc (.cells #[.slice Ak rl ck, .int .i64 rm] 91))).trans hu))
      generalize (U.alloc (.cells #[.slice Ak rl ck, .int .i64 rm] 91)) = U1 at *
      have HD := Lib.hid (show Calls Tryz.prog 47 #[.agg #[.slice A p.costs.length c, .slice (some ad) p.rows.length c2], .int .i64 k, .int .i64 r] U1.drew (fun e w' => e = Ending.returned (.int .i64 hv) ∧ ∃ u : Wk U1, w' = u.1) from
        (HC.out U1.drew (Below.refl _ _).drew).mono fun e w' h => ⟨h.1, ⟨w', ((Below.refl U1.heap.size U1).drew).trans h.2⟩, rfl⟩)
      have t0 := HQ1.out.cell 1
      have t1 := HU1.out.cell 0
      have t2 := HP1.out.cell 0
      have t3 := HP1.out.cell 1
      simp at t0 t1 t2 t3
      have s0 : ∀ u : Wk U1, u.1.cell? ⟨w.heap.size + 1, 1, none⟩ = some v := fun u => (HQ1.out.next u.2).cell 1
      have s1 : ∀ u : Wk U1, u.1.cell? ⟨U.heap.size, 0, none⟩ = some (.slice Ak rl ck) := fun u => (HU1.out.next u.2).cell 0
      have sA : ∀ (u : Wk U1) (o : Obj), (u.1.alloc o).cell? ⟨w.heap.size + 1, 1, none⟩ = some v := fun u o => ((HQ1.out.next u.2).alloc o).cell 1
      have zz : w.heap.size + 2 ≤ U1.heap.size := by omega
      clear r1' r2'
      go_region_law (first
        | (refine step_callW (f := 47) rfl (by go_simp; done) HD.out ?_; intro u7; have zu7 := u7.2.size; have c7 := s0 u7; have d7 := s1 u7)
        | (refine step_appRow rfl (.tmp 28) (.tmp 36) rfl (w.heap.size + 2) v k _ (.slice Ak rl ck) (.int .i64 hv) (by simp [Act.eval]) (own_below (own_below HO1.out u7.2) ((Below.refl _ _).alloc (Nat.le_refl _) _)) _ 1 (by simp [Act.eval]) (news2 (Blk.mk' _ _ _)) rfl rfl (by omega) (by have := u7.2.size; simp; omega) ?_; intro g cap w5 hown5 hg5 hat5 hlt5; have hB5 := (((HQ1.out.next u7.2).alloc _).grown hg5 (fun q => by have := (HO1.out.lt _ q.symm).1; omega)); have hP5 := (((HP1.out.next u7.2).alloc _).grown hg5 (fun q => by have := (HO1.out.lt _ q.symm).1; omega)); have hq0 : w5.cell? ⟨w.heap.size + 1, 1, none⟩ = some v := hB5.cell 1; have hqf := hB5.frozen 1))
      all_goals try have HB7 := Lib.hid (HB1.out.trans (u7.2.mono (by omega)))
      all_goals
        have HB5 := Lib.hid hB5
        have HP5 := Lib.hid hP5
        have HO5 := Lib.hid hown5
        have HG5 := Lib.hid hg5
        clear hB5 hP5 hown5 hg5 hq0 hqf
        go_wp2_with fail
        go_roundw
        case rel =>
          have hb6 : Below w.heap.size w w5 := (HB7.out.alloc (by have := HB7.out.size; exact this) _).grown HG5.out (by simp; have := HB7.out.size; omega) (fun j e => by have := (HO1.out.lt j e).1; omega)
          refine ⟨k + 1, _, by omega, by go_num, HP5.out.far _ (by simp), HB5.out.set0 1 _, ?_, hb6.setCell (by simp) _⟩
          rw [HRC.out]
          exact ownsRow_setCell_below HO5.out (by simp) _
        case measure => simp [intOf]; omega
    · obtain rfl : k = p.rows.length := by omega
      have hv : ∃ g cap, v = .slice (some ⟨g, 0, none⟩) p.rows.length cap := by
        rcases HO.out.2 with ⟨_, q⟩ | ⟨g, cap, cur, q, _⟩
        · omega
        · exact ⟨g, cap, q⟩
      obtain ⟨gq, cq, rfl⟩ := hv
      have HRW := Lib.hid (show Pg U A c (some ⟨gq, 0, none⟩) cq (mostsOf p (colP p r)) from ⟨(HP.out.below HB.out).costs, rows_read HO.out (by omega) fun i hi => ((HRS.out i hi).2.2).below HB.out⟩)
      have HLK := Lib.hid (show ∀ u : World, Below U.heap.size U u → Calls Tryz.prog 20 #[.agg #[.slice A p.costs.length c, .slice (some ⟨gq, 0, none⟩) p.rows.length cq], .slice L l.length cl] u (RetCo u dd 0) from fun u hu => by
        have := corner_Look A c (some ⟨gq, 0, none⟩) cq (mostsOf p (colP p r)) L l cl u (HRW.out.below hu) ((HL.out.below HB.out).below hu)
        rw [← qOf_mosts, HE2.out, HC2.out, qOf_len] at this
        exact this)
      have e0 : U.cell? ⟨w.heap.size + 1, 0, none⟩ = some (.slice A p.costs.length c) := HQ.out.cell 0
      have e1 : U.cell? ⟨w.heap.size + 1, 1, none⟩ = some (.slice (some ⟨gq, 0, none⟩) p.rows.length cq) := HQ.out.cell 1
      go_wp2_with fail
      refine (HLK.out _ (Below.refl _ _)).mono ?_
      rintro e w3 ⟨X', cx', Y', cy', G', cg', rfl, hX', hY', hG', hb3⟩
      have HX' := Lib.hid hX'
      have H3 := Lib.hid (HB.out.trans (hb3.mono zB))
      have z03 := H3.out.size
      clear hX' hY' hG' hb3 e0 e1
      go_upto_region 7 with fail
      have BD := Lib.hid (Blk.mk' w3 64 #[.slice X' dd.xs.length cx', .int .i64 dd.xd, .slice Y' dd.ys.length cy', .int .i64 dd.yd, .slice G' dd.gs.length cg', .int .i64 dd.gd])
      have HW4 := (Below.refl w3.heap.size w3).alloc (Nat.le_refl _) (.cells #[.slice X' dd.xs.length cx', .int .i64 dd.xd, .slice Y' dd.ys.length cy', .int .i64 dd.yd, .slice G' dd.gs.length cg', .int .i64 dd.gd] 64)
      have HX4 := Lib.hid (HX'.out.below HW4)
      have HL4 := Lib.hid ((HL.out.below H3.out).below HW4)
      have H4 := Lib.hid (H3.out.trans (HW4.mono z03))
      have l4 : (w3.alloc (.cells #[.slice X' dd.xs.length cx', .int .i64 dd.xd, .slice Y' dd.ys.length cy', .int .i64 dd.yd, .slice G' dd.gs.length cg', .int .i64 dd.gd] 64)).heap.size = w3.heap.size + 1 := by simp
      clear HW4
      generalize (w3.alloc (.cells #[.slice X' dd.xs.length cx', .int .i64 dd.xd, .slice Y' dd.ys.length cy', .int .i64 dd.yd, .slice G' dd.gs.length cg', .int .i64 dd.gd] 64)) = w4 at *
      obtain ⟨ls, hls⟩ : ∃ ls, ls = l.map fun j => dd.xs.getD j.toNat 0 := ⟨_, rfl⟩
      have HLS := Lib.hid hls
      have HLN := Lib.hid (show ls.length = l.length by rw [hls, List.length_map])
      clear hls
      go_loopw [13, 48] (fun v i wx => ∃ k : Nat, k ≤ l.length ∧ i = .int .i64 k ∧ wx.ownsRow w4.heap.size 2 1 v k ((ls.take k).map (Value.int .i64)) ∧ Below w4.heap.size w4 wx) (fun _ i _ => l.length - (intOf i).toNat)
      case atStart => exact ⟨0, by omega, rfl, World.ownsRow_nil _ _ _ _, Below.refl _ _⟩
      case round =>
        obtain ⟨k, hk, rfl, hown, hbel⟩ := hrel
        rename World => U2
        have HO2 := Lib.hid hown
        have HB2 := Lib.hid hbel
        have zB2 := hbel.size
        have BD2 := Lib.hid ((BD.out.at_ rfl).below HB2.out (by omega))
        clear hown hbel
        by_cases hlt : k < l.length
        · obtain ⟨al, rfl, hcl⟩ := (HL4.out.below HB2.out).natAt HNE.out hlt
          have hjN : (nats l).getD k 0 < dd.xs.length := by rw [HCD.out.lx, qOf_len]; exact HRT.out.lt _ (mem_getD.2 ⟨k, by simpa [nats] using hlt, rfl⟩)
          obtain ⟨ax, rfl, hcx⟩ := (HX4.out.below HB2.out).getD_at hjN
          have HSC := Lib.hid (show ls.take (k + 1) = ls.take k ++ [dd.xs.getD ((nats l).getD k 0) 0] by
            rw [List.take_succ_eq_append_getElem (by rw [HLN.out]; exact hlt)]
            congr 2
            simp only [HLS.out, List.getElem_map]
            congr 1
            simp [nats, List.getD, List.getElem?_eq_getElem hlt])
          have v0 : U2.cell? ⟨w3.heap.size, 0, none⟩ = some (.slice (some ax) dd.xs.length cx') := BD2.out.cell 0
          have hll' := World.block_lt_of_cell? _ _ hcl
          have hxl' := World.block_lt_of_cell? _ _ hcx
          have hi0 : (k : Int) < (l.length : Int) := by omega
          have hi1 : (((nats l).getD k 0 : Nat) : Int) < (dd.xs.length : Int) := by omega
          generalize (nats l).getD k 0 = jn at *
          generalize dd.xs.getD jn 0 = xv at *
          go_wp2_with (at_builtin; refine list_app1 rfl (.tmp 52) (.tmp 59) _ _ _ 8 und_i64s inf_i64 rfl rfl w4.heap.size u13 k _ _ rfl (HO2.out.alloc _) _ 1 rfl (cell_new1 _ _ _) rfl (by unfold maxLen; omega) (by omega) (by simp; omega) ?_; intro g cap w5 hown5 hg5 hat5 hlt5)
          have HO5 := Lib.hid hown5
          have HG5 := Lib.hid hg5
          clear hown5 hg5
          go_roundw
          case rel => exact ⟨k + 1, by omega, by go_num, by rw [HSC.out, List.map_append]; exact HO5.out, (HB2.out.alloc zB2 _).grown HG5.out (by simp; omega) (fun j e => (HO2.out.lt j e).1)⟩
          case measure => simp [intOf]; omega
        · obtain rfl : k = l.length := by omega
          have hln : l.length = p.rows.length := by have := HRT.out.len; simpa [nats] using this
          have hv : ∃ g cap, u13 = .slice (some ⟨g, 0, none⟩) l.length cap := by
            rcases HO2.out.2 with ⟨_, q⟩ | ⟨g, cap, cur, q, _⟩
            · omega
            · exact ⟨g, cap, q⟩
          obtain ⟨go, co, rfl⟩ := hv
          have v1 : U2.cell? ⟨w3.heap.size, 1, none⟩ = some (.int .i64 dd.xd) := BD2.out.cell 1
          have HRE := Lib.hid (show Rd U2 (some ⟨go, 0, none⟩) co ls from Rd.of_own (base := w4.heap.size) (e := 2) (by have := HO2.out; rw [List.take_of_length_le (by rw [HLN.out]; exact Nat.le_refl _)] at this; rw [HLN.out]; exact this) (by rw [HLN.out]; omega))
          go_wp2_with fail
          go_region
          all_goals
            go_wp2_with fail
            refine bodyPost_ret (v := .tuple #[.slice (some ⟨go, 0, none⟩) l.length co, .int .i64 dd.xd]) ?_ ?_ ?_
            · simp [results, Tryz.results85, go_sem]
            · rfl
            exact ⟨_, _, rfl, by rw [← HLS.out]; exact HRE.out.below (Below.refl _ _).drew, (H4.out.trans (HB2.out.mono (by omega))).drew⟩
end Go.Proofs.YtjcdkbalhleeeaaGreatDoor

namespace Go.Proofs
open Go.Shelf
def Tryz.lays189_ren : Go.Shelf.Ren := ⟨fun | 189 => 94 | 125 => 101 | 257 => 125 | 128 => 136 | 129 => 137 | 294 => 154 | 295 => 155 | 296 => 156 | 297 => 157 | 298 => 158 | 299 => 159 | 216 => 160 | 300 => 161 | 301 => 162 | 328 => 178 | 329 => 166 | 330 => 167 | 331 => 179 | 332 => 180 | 215 => 181 | 343 => 183 | n => n, fun | 28 => 51 | 3 => 3 | 46 => 166 | 0 => 0 | 51 => 197 | 53 => 178 | 4 => 4 | 183 => 190 | 182 => 189 | 131 => 194 | 5 => 5 | 9 => 9 | 218 => 221 | 222 => 225 | 228 => 239 | 229 => 240 | n => n, fun | n => n⟩
theorem Tryz.lays189 : Lays.n189 Tryz.prog Tryz.lays189_ren := {
  mixed := by kernel_rfl
  f125 := Tryz.func101.trans (congrArg some (by kernel_rfl))
  f128 := Tryz.func136.trans (congrArg some (by kernel_rfl))
  f129 := Tryz.func137.trans (congrArg some (by kernel_rfl))
  f189 := Tryz.func94.trans (congrArg some (by kernel_rfl))
  f215 := Tryz.func181.trans (congrArg some (by kernel_rfl))
  f216 := Tryz.func160.trans (congrArg some (by kernel_rfl))
  f257 := Tryz.func125.trans (congrArg some (by kernel_rfl))
  f294 := Tryz.func154.trans (congrArg some (by kernel_rfl))
  f295 := Tryz.func155.trans (congrArg some (by kernel_rfl))
  f296 := Tryz.func156.trans (congrArg some (by kernel_rfl))
  f297 := Tryz.func157.trans (congrArg some (by kernel_rfl))
  f298 := Tryz.func158.trans (congrArg some (by kernel_rfl))
  f299 := Tryz.func159.trans (congrArg some (by kernel_rfl))
  f300 := Tryz.func161.trans (congrArg some (by kernel_rfl))
  f301 := Tryz.func162.trans (congrArg some (by kernel_rfl))
  f328 := Tryz.func178.trans (congrArg some (by kernel_rfl))
  f329 := Tryz.func166.trans (congrArg some (by kernel_rfl))
  f330 := Tryz.func167.trans (congrArg some (by kernel_rfl))
  f331 := Tryz.func179.trans (congrArg some (by kernel_rfl))
  f332 := Tryz.func180.trans (congrArg some (by kernel_rfl))
  f343 := Tryz.func183.trans (congrArg some (by kernel_rfl))
  t0 := Tryz.underlying0
  a0 := Tryz.isAgg0
  z0 := Tryz.sizeOf0
  v0 := Tryz.zeroValue0
  t3 := Tryz.underlying3
  a3 := Tryz.isAgg3
  z3 := Tryz.sizeOf3
  v3 := Tryz.zeroValue3
  t4 := Tryz.underlying4
  a4 := Tryz.isAgg4
  z4 := Tryz.sizeOf4
  v4 := Tryz.zeroValue4
  t5 := Tryz.underlying5
  a5 := Tryz.isAgg5
  z5 := Tryz.sizeOf5
  v5 := Tryz.zeroValue5
  t9 := Tryz.underlying9
  a9 := Tryz.isAgg9
  z9 := Tryz.sizeOf9
  v9 := Tryz.zeroValue9
  t28 := Tryz.underlying51
  a28 := Tryz.isAgg51
  z28 := Tryz.sizeOf51
  v28 := Tryz.zeroValue51
  t46 := Tryz.underlying166
  a46 := Tryz.isAgg166
  z46 := Tryz.sizeOf166
  v46 := Tryz.zeroValue166
  t51 := Tryz.underlying197
  a51 := Tryz.isAgg197
  z51 := Tryz.sizeOf197
  v51 := Tryz.zeroValue197
  t53 := Tryz.underlying178
  a53 := Tryz.isAgg178
  z53 := Tryz.sizeOf178
  v53 := Tryz.zeroValue178
  t131 := Tryz.underlying194
  a131 := Tryz.isAgg194
  z131 := Tryz.sizeOf194
  v131 := Tryz.zeroValue194
  t182 := Tryz.underlying189
  a182 := Tryz.isAgg189
  z182 := Tryz.sizeOf189
  v182 := Tryz.zeroValue189
  t183 := Tryz.underlying190
  a183 := Tryz.isAgg190
  z183 := Tryz.sizeOf190
  v183 := Tryz.zeroValue190
  t218 := Tryz.underlying221
  a218 := Tryz.isAgg221
  z218 := Tryz.sizeOf221
  v218 := Tryz.zeroValue221
  t222 := Tryz.underlying225
  a222 := Tryz.isAgg225
  z222 := Tryz.sizeOf225
  v222 := Tryz.zeroValue225
  t228 := Tryz.underlying239
  a228 := Tryz.isAgg239
  z228 := Tryz.sizeOf239
  v228 := Tryz.zeroValue239
  t229 := Tryz.underlying240
  a229 := Tryz.isAgg240
  z229 := Tryz.sizeOf240
  v229 := Tryz.zeroValue240
  }
def Tryz.lays2_15_ren : Go.Shelf.Ren := ⟨fun | 15 => 51 | n => n, fun | 22 => 51 | 3 => 3 | 4 => 4 | n => n, fun | n => n⟩
theorem Tryz.lays2_15 : Lays2.n15 Tryz.prog Tryz.lays2_15_ren := {
  mixed := by kernel_rfl
  f15 := Tryz.func51.trans (congrArg some (by kernel_rfl))
  t3 := Tryz.underlying3
  a3 := Tryz.isAgg3
  z3 := Tryz.sizeOf3
  v3 := Tryz.zeroValue3
  t4 := Tryz.underlying4
  a4 := Tryz.isAgg4
  z4 := Tryz.sizeOf4
  v4 := Tryz.zeroValue4
  t22 := Tryz.underlying51
  a22 := Tryz.isAgg51
  z22 := Tryz.sizeOf51
  v22 := Tryz.zeroValue51
  i3 := by kernel_rfl
  }
def Tryz.lays2_23_ren : Go.Shelf.Ren := ⟨fun | 23 => 93 | n => n, fun | 22 => 51 | 3 => 3 | 4 => 4 | 0 => 0 | n => n, fun | n => n⟩
theorem Tryz.lays2_23 : Lays2.n23 Tryz.prog Tryz.lays2_23_ren := {
  mixed := by kernel_rfl
  f23 := Tryz.func93.trans (congrArg some (by kernel_rfl))
  t0 := Tryz.underlying0
  a0 := Tryz.isAgg0
  z0 := Tryz.sizeOf0
  v0 := Tryz.zeroValue0
  t3 := Tryz.underlying3
  a3 := Tryz.isAgg3
  z3 := Tryz.sizeOf3
  v3 := Tryz.zeroValue3
  t4 := Tryz.underlying4
  a4 := Tryz.isAgg4
  z4 := Tryz.sizeOf4
  v4 := Tryz.zeroValue4
  t22 := Tryz.underlying51
  a22 := Tryz.isAgg51
  z22 := Tryz.sizeOf51
  v22 := Tryz.zeroValue51
  i3 := by kernel_rfl
  }
end Go.Proofs
namespace Go.Proofs.YtjcdkbalhleeeaaGreatDoor
open Go.Proofs Go.Shelf Go.RowKit Go.Sort Go.Lib

theorem slices_Sort (blk off cap : Nat) (zs : List Int) (w : World) (hH : Holds (Value.int .i64) w blk off zs.toArray) (hblk : blk < w.heap.size) (hsz : zs.length < 4611686018427387904) :
    Calls Tryz.prog 94 #[.slice (some ⟨blk, off, none⟩) zs.length cap] w fun e w' =>
      e = .returned (.tuple #[]) ∧ ∃ n os, w' = grow (putRow (Value.int .i64) (Sort.ahead w n) blk off (zs.mergeSort fun x y => decide (x ≤ y)).toArray) os := Any.slices_Sort_int Tryz.lays189 blk off cap zs w hH hblk hsz
theorem slices_Clone (b off n c : Nat) (zs : List Int) (w : World) (hz : n ≤ zs.length) (hbig : n * 8 ≤ 140737488355328) (hc : ∀ j, j < zs.length → w.cell? ⟨b, off + j, none⟩ = some (.int .i64 (zs.getD j 0))) :
    Calls Tryz.prog 51 #[.slice (some ⟨b, off, none⟩) n c] w fun e w' => ∃ v', e = .returned v' ∧ w'.ownsRow w.heap.size 3 1 v' n ((zs.take n).map (Value.int .i64)) ∧ v' ≠ .slice none 0 0 ∧ Below w.heap.size w w' := Any.slices_Clone_int Tryz.lays2_15 b off n c zs w hz hbig hc
theorem slices_Clone_nil (n c : Nat) (w : World) :
    Calls Tryz.prog 51 #[.slice none n c] w fun e w' => e = .returned (.slice none 0 0) ∧ w' = w := Any.slices_Clone_int_nil Tryz.lays2_15 n c w
theorem slices_Clone_zero (a : Addr) (c : Nat) (w : World) :
    Calls Tryz.prog 51 #[.slice (some a) 0 c] w fun e w' => ∃ v', e = .returned v' ∧ w'.ownsRow w.heap.size 3 1 v' 0 [] ∧ v' ≠ .slice none 0 0 ∧ Below w.heap.size w w' := Any.slices_Clone_int_zero Tryz.lays2_15 a c w
theorem slices_Delete (blk off cap i j : Nat) (zs : List Int) (w : World) (hH : Holds (Value.int .i64) w blk off zs.toArray) (hcap : zs.length ≤ cap) (hm : cap ≤ 9223372036854775807) (hij : i ≤ j) (hj : j ≤ zs.length) :
    Calls Tryz.prog 93 #[.slice (some ⟨blk, off, none⟩) zs.length cap, .int .i64 i, .int .i64 j] w fun e w' => e = .returned (.slice (some ⟨blk, off, none⟩) (zs.length - (j - i)) cap) ∧ ∃ q, w' = putRow (Value.int .i64) (Sort.ahead w q) blk off (zs.take i ++ zs.drop j ++ List.replicate (j - i) 0).toArray := Any.slices_Delete_int Tryz.lays2_23 blk off cap i j zs w hH hcap hm hij hj
end Go.Proofs.YtjcdkbalhleeeaaGreatDoor

namespace Go.Proofs.YtjcdkbalhleeeaaGreatDoor
open Go.RowKit Go.Sort

/-- What walk.Next hands back. -/
def RetNx (w : World) (p : PG) (l : List Int) (e : Ending) (w' : World) : Prop :=
  Below w.heap.size w w' ∧ (nextE p l ≠ 0 → e = .returned (.tuple #[.slice none 0 0, .int .i64 0, .int .i64 (nextE p l)])) ∧
  (nextE p l = 0 → (nxtZ p (nats l) = none → e = .returned (.tuple #[.slice none 0 0, .int .i64 (kindZ p (nats l)), .int .i64 0])) ∧
    ∀ l', nxtZ p (nats l) = some l' → ∃ g cap, e = .returned (.tuple #[.slice (some ⟨g, 0, none⟩) l'.length cap, .int .i64 0, .int .i64 0]) ∧
      w'.ownsRow w.heap.size 3 1 (.slice (some ⟨g, 0, none⟩) l'.length cap) l'.length ((ints l').map (Value.int .i64)))
theorem RetNx.bad {w w' : World} {p : PG} {l : List Int} {er : Int} (h : nextE p l = er) (h0 : er ≠ 0) (hb : Below w.heap.size w w') : RetNx w p l (.returned (.tuple #[.slice none 0 0, .int .i64 0, .int .i64 er])) w' :=
  ⟨hb, fun _ => by rw [h], fun q => absurd (h.symm.trans q) h0⟩
theorem RetNx.fin {w w' : World} {p : PG} {l : List Int} {k : Int} (h : nextE p l = 0) (hn : nxtZ p (nats l) = none) (hk : kindZ p (nats l) = k) (hb : Below w.heap.size w w') : RetNx w p l (.returned (.tuple #[.slice none 0 0, .int .i64 k, .int .i64 0])) w' :=
  ⟨hb, fun q => absurd h q, fun _ => ⟨fun _ => by rw [hk], fun l' q => by rw [hn] at q; cases q⟩⟩

/-- Behind a row of the library's in place, the same block owns as many as are kept. -/
theorem own_putRow {w : World} {base g cap n m q : Nat} {e : TypeId} {ss : List Int} {xs : List Value} (h : w.ownsRow base e 1 (.slice (some ⟨g, 0, none⟩) n cap) n xs) (hn : ss.length = n) (hm : m ≤ n) :
    (putRow (Value.int .i64) (Sort.ahead w q) g 0 ss.toArray).ownsRow base e 1 (.slice (some ⟨g, 0, none⟩) m cap) m ((ss.take m).map (Value.int .i64)) := by
  rcases h.2 with ⟨e, _⟩ | ⟨g', cap', cur, e, hb, hg, h1, h2, h3, h4⟩
  · injection e with e1; cases e1
  · injection e with e1 e2 e3
    injection e1 with e1; injection e1 with e1
    subst e1 e3
    have := ownsRow_sortedI (n := q) (os := #[]) (ss := ss) (ts := ss) rfl hb hg (by omega) h2 h3
    rw [grow_empty] at this
    refine ⟨by simp; omega, .inr ⟨g, cap, putCells (Value.int .i64) 0 ss.toArray cur, rfl, hb, ?_, by omega, h2, by simp [putCells, h3], ?_⟩⟩
    · have := heap_sortedI (n := q) (os := #[]) ss.toArray hg
      rwa [grow_empty] at this
    · have hts := take_putCellsI cur ss (by omega)
      rw [Nat.mul_one, List.map_take, ← hts, List.take_take]
      congr 1; omega
theorem own_holds {w : World} {base g cap n : Nat} {e : TypeId} {ss : List Int} (h : w.ownsRow base e 1 (.slice (some ⟨g, 0, none⟩) n cap) n (ss.map (Value.int .i64))) (hn : ss.length = n) : Holds (Value.int .i64) w g 0 ss.toArray := by
  rcases h.2 with ⟨e, _⟩ | ⟨g', cap', cur, e, hb, hg, h1, h2, h3, h4⟩
  · injection e with e1; cases e1
  · injection e with e1 e2 e3
    injection e1 with e1; injection e1 with e1
    subst e1 e3
    exact holds_of_blockI hg (by rw [Nat.mul_one] at h4; rw [hn]; exact h4)
theorem putRow_below {w : World} {B g q : Nat} {ss : List Int} (hg : B ≤ g) (hB : B ≤ w.heap.size) : Below B w (putRow (Value.int .i64) (Sort.ahead w q) g 0 ss.toArray) := by
  have := grownBy_sortedI (w := w) (g := g) (n := q) (os := #[]) ss.toArray
  rw [grow_empty] at this
  exact (Below.refl B w).grown this hB (fun j e => by cases e; exact hg)

/-- Behind a sort in place the same block owns the sorted row. -/
theorem own_sorted {w : World} {base g cap n q : Nat} {e : TypeId} {ss ts : List Int} {os : Array Obj} {xs : List Value} (h : w.ownsRow base e 1 (.slice (some ⟨g, 0, none⟩) n cap) n xs) (hn : ss.length = n) (ht : ts.length = ss.length) :
    (grow (putRow (Value.int .i64) (Sort.ahead w q) g 0 ts.toArray) os).ownsRow base e 1 (.slice (some ⟨g, 0, none⟩) n cap) n (ts.map (Value.int .i64)) := by
  rcases h.2 with ⟨e, _⟩ | ⟨g', cap', cur, e, hb, hg, h1, h2, h3, h4⟩
  · injection e with e1; cases e1
  · injection e with e1 e2 e3
    injection e1 with e1; injection e1 with e1
    subst e1 e3 hn
    exact ownsRow_sortedI (ss := ss) (ts := ts) ht hb hg h1 h2 h3
theorem und_intS1 : Tryz.prog.underlying 51 = some (.slice 3) := by kernel_rfl
theorem inf_intS1 : (Tryz.prog.info? 3).map (fun i => (i.zero, i.size, i.bytes)) = some (some (.int .i64 0), 1, 8) := by kernel_rfl
/-- The place of the column that goes out, as a number. -/
def outI (o : Option Nat) : Int := match o with
  | some k => k
  | none => -1


set_option maxRecDepth 100000 in
set_option maxHeartbeats 2000000 in
/-- Columns that do not come to a corner. -/
theorem next_bad (A : Option Addr) (c : Nat) (A2 : Option Addr) (c2 : Nat) (p : PG) (L : Option Addr) (l : List Int) (cl : Nat) (w : World) (hp : Pg w A c A2 c2 p) (hr : Rd w L cl l) (er : Int) (he : lookE p l = er) (h0 : er ≠ 0) :
    Calls Tryz.prog 52 #[.agg #[.slice A p.costs.length c, .slice A2 p.rows.length c2], .slice L l.length cl] w (RetNx w p l) := by
  have HN := Lib.hid (show nextE p l = er by unfold nextE; rw [if_neg (by rw [he]; exact h0), he])
  have HE := Lib.hid he
  have H0 := Lib.hid h0
  have hz : (er != 0) = true := by simpa using h0
  clear he h0
  have HP := Lib.hid hp
  have HL := Lib.hid hr
  obtain ⟨⟨hl, hc, hsm, _⟩, ⟨hl2, hc2, hsm2, _⟩⟩ := hp
  obtain ⟨hll, hlc, hls, _⟩ := hr
  go_enter Tryz.func52, Tryz.ntmps52
  go_wp2_with fail
  have BP := Lib.hid (Blk.mk' w 28 #[.slice A p.costs.length c, .slice A2 p.rows.length c2])
  have HVW := Lib.hid ((by (repeat (any_goals (first | exact Below.refl _ _ | refine below_drewN ?_ _ | refine Below.drew ?_ | refine Below.alloc ?_ ?_ _ | refine Below.setCell ?_ ?_ _))); all_goals (first | omega | (simp; done) | (simp; omega))) : Below w.heap.size w (w.alloc (.cells #[.slice A p.costs.length c, .slice A2 p.rows.length c2] 28)))
  generalize (w.alloc (.cells #[.slice A p.costs.length c, .slice A2 p.rows.length c2] 28)) = V at *
  have zV := HVW.out.size
  have lP := BP.out.lt
  refine (corner_Look _ _ _ _ _ _ _ _ _ (HP.out.below HVW.out) (HL.out.below HVW.out)).mono ?_
  rw [HE.out]
  obtain ⟨cc, hC⟩ : ∃ cc, lookC p l = cc := ⟨_, rfl⟩
  rw [hC]
  have HC := Lib.hid hC
  clear hC
  rintro e w1 ⟨X, cx, Y, cy, G, cg, rfl, hX, hY, hG, hb1⟩
  have HCn := Lib.hid (CnN.mk hX hY hG)
  have H1 := Lib.hid hb1
  have z01 := hb1.size
  clear hX hY hG hb1
  go_upto_region 2 with fail
  have BC := Lib.hid (Blk.mk' w1 64 #[.slice X cc.xs.length cx, .int .i64 cc.xd, .slice Y cc.ys.length cy, .int .i64 cc.yd, .slice G cc.gs.length cg, .int .i64 cc.gd])
  have HWL := (Below.refl w1.heap.size w1).alloc (Nat.le_refl _) (.cells #[.slice X cc.xs.length cx, .int .i64 cc.xd, .slice Y cc.ys.length cy, .int .i64 cc.yd, .slice G cc.gs.length cg, .int .i64 cc.gd] 64)
  have HV2 := Lib.hid (H1.out.trans (HWL.mono z01))
  have HCW := Lib.hid (HCn.out.below HWL)
  have HBW := Lib.hid (HVW.out.trans (HV2.out.mono zV))
  clear HWL
  generalize (w1.alloc (.cells #[.slice X cc.xs.length cx, .int .i64 cc.xd, .slice Y cc.ys.length cy, .int .i64 cc.yd, .slice G cc.gs.length cg, .int .i64 cc.gd] 64)) = W at *
  go_wp2_with fail
  refine bodyPost_ret (v := .tuple #[.slice none 0 0, .int .i64 0, .int .i64 er]) ?_ ?_ ?_
  · simp [results, Tryz.results52, go_sem]
  · rfl
  exact RetNx.bad HN.out H0.out HBW.out

set_option maxRecDepth 100000 in
set_option maxHeartbeats 2000000 in
/-- A corner that does not go. -/
theorem next_off (A : Option Addr) (c : Nat) (A2 : Option Addr) (c2 : Nat) (p : PG) (L : Option Addr) (l : List Int) (cl : Nat) (w : World) (hp : Pg w A c A2 c2 p) (hr : Rd w L cl l) (he : lookE p l = 0) (hx : nonneg (lookC p l).xs = false) :
    Calls Tryz.prog 52 #[.agg #[.slice A p.costs.length c, .slice A2 p.rows.length c2], .slice L l.length cl] w (RetNx w p l) := by
  have HN := Lib.hid (show nextE p l = 3 by unfold nextE; rw [if_pos he, if_neg (by rw [hx]; simp)])
  have HE := Lib.hid he
  have HX := Lib.hid hx
  obtain ⟨_, _, _, hco⟩ := look_corn he
  have HCO := Lib.hid hco
  clear he hx hco
  have HP := Lib.hid hp
  have HL := Lib.hid hr
  obtain ⟨⟨hl, hc, hsm, _⟩, ⟨hl2, hc2, hsm2, _⟩⟩ := hp
  obtain ⟨hll, hlc, hls, _⟩ := hr
  go_enter Tryz.func52, Tryz.ntmps52
  go_wp2_with fail
  have BP := Lib.hid (Blk.mk' w 28 #[.slice A p.costs.length c, .slice A2 p.rows.length c2])
  have HVW := Lib.hid ((by (repeat (any_goals (first | exact Below.refl _ _ | refine below_drewN ?_ _ | refine Below.drew ?_ | refine Below.alloc ?_ ?_ _ | refine Below.setCell ?_ ?_ _))); all_goals (first | omega | (simp; done) | (simp; omega))) : Below w.heap.size w (w.alloc (.cells #[.slice A p.costs.length c, .slice A2 p.rows.length c2] 28)))
  generalize (w.alloc (.cells #[.slice A p.costs.length c, .slice A2 p.rows.length c2] 28)) = V at *
  have zV := HVW.out.size
  have lP := BP.out.lt
  refine (corner_Look _ _ _ _ _ _ _ _ _ (HP.out.below HVW.out) (HL.out.below HVW.out)).mono ?_
  rw [HE.out]
  obtain ⟨cc, hC⟩ : ∃ cc, lookC p l = cc := ⟨_, rfl⟩
  rw [hC]
  have HC := Lib.hid hC
  clear hC
  rintro e w1 ⟨X, cx, Y, cy, G, cg, rfl, hX, hY, hG, hb1⟩
  have HCn := Lib.hid (CnN.mk hX hY hG)
  have H1 := Lib.hid hb1
  have z01 := hb1.size
  clear hX hY hG hb1
  go_upto_region 2 with fail
  have BC := Lib.hid (Blk.mk' w1 64 #[.slice X cc.xs.length cx, .int .i64 cc.xd, .slice Y cc.ys.length cy, .int .i64 cc.yd, .slice G cc.gs.length cg, .int .i64 cc.gd])
  have HWL := (Below.refl w1.heap.size w1).alloc (Nat.le_refl _) (.cells #[.slice X cc.xs.length cx, .int .i64 cc.xd, .slice Y cc.ys.length cy, .int .i64 cc.yd, .slice G cc.gs.length cg, .int .i64 cc.gd] 64)
  have HV2 := Lib.hid (H1.out.trans (HWL.mono z01))
  have HCW := Lib.hid (HCn.out.below HWL)
  have HBW := Lib.hid (HVW.out.trans (HV2.out.mono zV))
  clear HWL
  generalize (w1.alloc (.cells #[.slice X cc.xs.length cx, .int .i64 cc.xd, .slice Y cc.ys.length cy, .int .i64 cc.yd, .slice G cc.gs.length cg, .int .i64 cc.gd] 64)) = W at *
  have hco := HCO.out
  have hx := HX.out
  rw [HC.out] at hco hx
  have hp := (mayPB_iff.1 hco.hp).2.2.1
  have hlen := hco.lx
  obtain ⟨x0, xr, hxs⟩ : ∃ x0 xr, cc.xs = x0 :: xr := List.exists_cons_of_length_pos (by rw [hlen]; omega)
  have HMin := Lib.hid (fun u (hu : Rd u X cx cc.xs) => by
    rw [hxs] at hu
    have := slices_Min X x0 xr cx u hu
    rw [← hxs] at this
    exact this)
  have hlt : minL x0 xr < 0 := by
    apply Classical.byContradiction
    intro q
    have := minL_nonneg.1 (show 0 ≤ minL x0 xr by omega)
    rw [hxs] at hx
    simp [nonneg] at hx
    have h2 := this.2
    unfold nonneg at h2
    rw [List.all_eq_true] at h2
    obtain ⟨y, hy, hy2⟩ := hx this.1
    have := h2 y hy
    simp at this
    omega
  clear hxs hlen hp hx hco
  generalize minL x0 xr = mv at *
  have k0 : (W).cell? ⟨w1.heap.size, 0, none⟩ = some (.slice X cc.xs.length cx) := (BC.out.next (Below.refl _ _)).cell 0
  have k1 : (W).cell? ⟨w1.heap.size, 1, none⟩ = some (.int .i64 cc.xd) := (BC.out.next (Below.refl _ _)).cell 1
  have k2 : (W).cell? ⟨w1.heap.size, 2, none⟩ = some (.slice Y cc.ys.length cy) := (BC.out.next (Below.refl _ _)).cell 2
  have k3 : (W).cell? ⟨w1.heap.size, 3, none⟩ = some (.int .i64 cc.yd) := (BC.out.next (Below.refl _ _)).cell 3
  have k4 : (W).cell? ⟨w1.heap.size, 4, none⟩ = some (.slice G cc.gs.length cg) := (BC.out.next (Below.refl _ _)).cell 4
  have k5 : (W).cell? ⟨w1.heap.size, 5, none⟩ = some (.int .i64 cc.gd) := (BC.out.next (Below.refl _ _)).cell 5
  go_wp2_with fail
  refine (HMin.out _ HCW.out.x).mono ?_
  rintro e w2 ⟨rfl, rfl⟩
  go_wp2_with fail
  refine bodyPost_ret (v := .tuple #[.slice none 0 0, .int .i64 0, .int .i64 3]) ?_ ?_ ?_
  · simp [results, Tryz.results52, go_sem]
  · rfl
  exact RetNx.bad HN.out (by omega) HBW.out
end Go.Proofs.YtjcdkbalhleeeaaGreatDoor
