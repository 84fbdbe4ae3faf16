/-
  Words for a statement 'c, e := Look(p, l[i])' whose order is drawn: the corner's box may be made ahead of the call or behind it. No condition.
-/
import Derived.Test.YtjcdkbalhleeeabLookK
import Derived.Test.YtjcdkbalhleeeabLook1
namespace Go.Proofs.Ytjcdkbalhleeeab
open Go.RowKit

/-- A corner and one more value are handed back. -/
def RetCv (w : World) (c : CO) (v2 : Value) (e : Ending) (w' : World) : Prop :=
  ∃ X cx Y cy G cg, e = .returned (.tuple #[.agg #[.slice X c.xs.length cx, .int .i64 c.xd, .slice Y c.ys.length cy, .int .i64 c.yd, .slice G c.gs.length cg, .int .i64 c.gd], v2]) ∧
    Rd w' X cx c.xs ∧ Rd w' Y cy c.ys ∧ Rd w' G cg c.gs ∧ Below w.heap.size w w'
theorem step_callCv {P : Program} {ops : Array Oper} {K : Act → World → Prop} {E' : Prop} {o : Oper} {a : Act} {w : World} {Q : Exit → Act → World → Prop} (hg : o.guard = none) {f : FuncId} {args : Array Value} {c : CO} {v2 : Value}
    (hrun : (execOp a.eval o).run P w = .ok (.enter f args) w) (hc : Calls P f args w (RetCv w c v2))
    (hK : ∀ X cx Y cy G cg w', Rd w' X cx c.xs → Below w.heap.size w w' → K (a.put o.dst (.tuple #[.agg #[.slice X c.xs.length cx, .int .i64 c.xd, .slice Y c.ys.length cy, .int .i64 c.yd, .slice G c.gs.length cg, .int .i64 c.gd], v2])) w') :
    if Region.wanted o (yielded ops a.tmps) = true then Oper.wp P o a w K Q else E' := by
  rw [if_pos (by simp [Region.wanted, hg])]
  unfold Oper.wp
  rw [hrun, Oper.upon_enter]
  exact hc.mono (by rintro _ _ ⟨X, cx, Y, cy, G, cg, rfl, hX, _, _, hb⟩; exact hK X cx Y cy G cg _ hX hb)
/-- Two numbers side by side do not lie in a corner's box. -/
theorem Rd.not_box {w : World} {b : Nat} {X Y1 Y2 Y3 : Option Addr} {cx n1 n2 n3 c1 c2 c3 : Nat} {z1 z2 z3 : Int} {xs : List Int} {t : TypeId} (h : Rd w X cx xs) (h2 : 2 ≤ xs.length)
    (hb : Blk w b t #[.slice Y1 n1 c1, .int .i64 z1, .slice Y2 n2 c2, .int .i64 z2, .slice Y3 n3 c3, .int .i64 z3]) : ∀ ad, X = some ad → ad.block ≠ b := by
  intro ad e q
  obtain ⟨ad', e', hc⟩ := h.cells (by simp; omega)
  rw [e] at e'
  injection e' with e'
  subst e'
  have h0 := hc 0 (.int .i64 xs[0]) (by simp)
  have h1 := hc 1 (.int .i64 xs[1]) (by simp)
  obtain ⟨b', off, sp⟩ := ad
  have q : b' = b := q
  subst q
  have e0 : (⟨b', off, sp⟩ : Addr).add 0 = ⟨b', off, sp⟩ := rfl
  have e1 : (⟨b', off, sp⟩ : Addr).add 1 = ⟨b', off + 1, none⟩ := rfl
  have hb' : w.heap[b']? = some (.cells #[.slice Y1 n1 c1, .int .i64 z1, .slice Y2 n2 c2, .int .i64 z2, .slice Y3 n3 c3, .int .i64 z3] t (0, 0)) := hb
  rw [e0] at h0
  rw [e1] at h1
  simp only [World.cell?, hb'] at h0 h1
  have hs : sp.isSome = false := by
    cases sp with
    | none => rfl
    | some s => simp at h0
  simp only [hs] at h0
  simp at h0 h1
  rcases (show off = 0 ∨ off = 1 ∨ off = 2 ∨ off = 3 ∨ off = 4 ∨ off = 5 ∨ 6 ≤ off by omega) with rfl | rfl | rfl | rfl | rfl | rfl | ho
  · simp at h0
  · simp at h1
  · simp at h0
  · simp at h1
  · simp at h0
  · simp at h1
  · rw [List.getElem?_eq_none (by simpa using ho)] at h0; cases h0
/-- Behind the statement: a box that holds the corner, whose columns read. -/
def CutC (W : World) (c : CO) (v2 : Value) (s t : Value) (wx : World) : Prop :=
  ∃ b X cx Y cy G cg, s = .pointer (some ⟨b, 0, none⟩) ∧ t = v2 ∧ W.heap.size ≤ b ∧
    Blk wx b 42 #[.slice X c.xs.length cx, .int .i64 c.xd, .slice Y c.ys.length cy, .int .i64 c.yd, .slice G c.gs.length cg, .int .i64 c.gd] ∧ Rd wx X cx c.xs ∧ Below W.heap.size W wx
theorem cutC {W w5 : World} {b : Nat} {c : CO} {v2 : Value} {X Y G : Option Addr} {cx cy cg : Nat} {z0 z1 z2 z3 z4 z5 : Value} (hb : W.heap.size ≤ b) (hblk : Blk w5 b 42 #[z0, z1, z2, z3, z4, z5])
    (hX : Rd w5 X cx c.xs) (hne : ∀ ad, X = some ad → ad.block ≠ b) (hbel : Below W.heap.size W w5) :
    CutC W c v2 (.pointer (some ⟨b, 0, none⟩)) v2 ((((((w5.setCell ⟨b, 0, none⟩ (.slice X c.xs.length cx)).setCell ⟨b, 1, none⟩ (.int .i64 c.xd)).setCell ⟨b, 2, none⟩ (.slice Y c.ys.length cy)).setCell ⟨b, 3, none⟩ (.int .i64 c.yd)).setCell ⟨b, 4, none⟩ (.slice G c.gs.length cg)).setCell ⟨b, 5, none⟩ (.int .i64 c.gd)) :=
  ⟨b, X, cx, Y, cy, G, cg, rfl, rfl, hb, (((((hblk.set0 0 _).set0 1 _).set0 2 _).set0 3 _).set0 4 _).set0 5 _,
    (((((hX.setCell_out _ _ (fun ad e => hne ad e)).setCell_out _ _ (fun ad e => hne ad e)).setCell_out _ _ (fun ad e => hne ad e)).setCell_out _ _ (fun ad e => hne ad e)).setCell_out _ _ (fun ad e => hne ad e)).setCell_out _ _ (fun ad e => hne ad e),
    (((((hbel.setCell hb _).setCell hb _).setCell hb _).setCell hb _).setCell hb _).setCell hb _⟩
theorem Rd.blk_lt {w : World} {A : Option Addr} {c : Nat} {l : List Int} (h : Rd w A c l) (h0 : 0 < l.length) : ∀ ad, A = some ad → ad.block < w.heap.size := by
  intro ad e
  obtain ⟨ad', e', hc⟩ := h.at_ h0
  rw [e] at e'
  injection e' with e'
  subst e'
  exact World.block_lt_of_cell? _ _ hc
theorem cutC_after {W w5 : World} {c : CO} {v2 : Value} {X Y G : Option Addr} {cx cy cg : Nat} (hX : Rd w5 X cx c.xs) (_h2 : 2 ≤ c.xs.length) (hbel : Below W.heap.size W w5) :
    CutC W c v2 (.pointer (some ⟨w5.heap.size, 0, none⟩)) v2 (w5.alloc (.cells #[.slice X c.xs.length cx, .int .i64 c.xd, .slice Y c.ys.length cy, .int .i64 c.yd, .slice G c.gs.length cg, .int .i64 c.gd] 42)) :=
  ⟨w5.heap.size, X, cx, Y, cy, G, cg, rfl, rfl, hbel.size, Blk.mk' _ _ _, hX.alloc _, hbel.alloc hbel.size _⟩
/-- Behind a statement 'x := Of(..)' whose order is drawn: a box that holds the fraction. -/
def CutF (W : World) (n d : Int) (s : Value) (wx : World) : Prop :=
  ∃ b, s = .pointer (some ⟨b, 0, none⟩) ∧ W.heap.size ≤ b ∧ Blk wx b 38 #[.int .i64 n, .int .i64 d] ∧ Below W.heap.size W wx
theorem cutF {W w5 : World} {b : Nat} {n d : Int} {z0 z1 : Value} (hb : W.heap.size ≤ b) (hblk : Blk w5 b 38 #[z0, z1]) (hbel : Below W.heap.size W w5) :
    CutF W n d (.pointer (some ⟨b, 0, none⟩)) ((w5.setCell ⟨b, 0, none⟩ (.int .i64 n)).setCell ⟨b, 1, none⟩ (.int .i64 d)) :=
  ⟨b, rfl, hb, (hblk.set0 0 _).set0 1 _, (hbel.setCell hb _).setCell hb _⟩
theorem cutF_after {W w5 : World} {n d : Int} (hbel : Below W.heap.size W w5) : CutF W n d (.pointer (some ⟨w5.heap.size, 0, none⟩)) (w5.alloc (.cells #[.int .i64 n, .int .i64 d] 38)) :=
  ⟨w5.heap.size, rfl, hbel.size, Blk.mk' _ _ _, hbel.alloc hbel.size _⟩
theorem Rd.takeW {w : World} {A : Option Addr} {c : Nat} {l : List Int} (h : Rd w A c l) (n : Nat) (hn : n ≤ l.length) : Rd w A c (l.take n) ∧ (l.take n).length = n := by
  have hl : (l.take n).length = n := by rw [List.length_take]; omega
  refine ⟨⟨by rw [hl]; have := h.le; omega, h.cap, by rw [hl]; have := h.small; omega, fun h0 => ?_⟩, hl⟩
  simp only [List.length_map] at h0
  obtain ⟨ad, e, hc⟩ := h.cells (by simp; omega)
  refine ⟨ad, e, fun j u hu => hc j u ?_⟩
  rw [List.map_take, List.getElem?_take] at hu
  split at hu
  · exact hu
  · simp at hu
/-- A fraction's parts are small, such as have none among them. -/
theorem fr_small (n d : Int) : (-1073741824 ≤ frN n d ∧ frN n d ≤ 1073741824) ∧ (-1073741824 ≤ ptD [n] d ∧ ptD [n] d ≤ 1073741824) := by
  by_cases h : ptE [n] d = 0
  · have hm := mayB_parts (mayB_pt h)
    obtain ⟨h1, h2, h3, _⟩ := hm
    refine ⟨?_, by omega⟩
    have hl : (ptN [n] d).length = 1 := by unfold ptN; rw [if_pos h]; simp [divs]
    obtain ⟨x, hx⟩ := List.length_eq_one_iff.1 hl
    have : frN n d = x := by unfold frN; rw [hx]; rfl
    rw [this]
    have := smallB_mem h3 (n := x) (by rw [hx]; simp)
    exact this
  · have e1 : frN n d = 0 := by unfold frN ptN; rw [if_neg h]; rfl
    have e2 : ptD [n] d = 0 := by unfold ptD; rw [if_neg h]
    rw [e1, e2]; omega
theorem Blk.two {w : World} {g : Nat} {t : TypeId} {u v : Value} (h : Blk w g t #[u, v]) : w.cell? ⟨g, 0, none⟩ = some u ∧ w.cell? ⟨g, 1, none⟩ = some v ∧ w.frozen? ⟨g, 0, none⟩ = false ∧ w.frozen? ⟨g, 1, none⟩ = false :=
  ⟨h.cell 0, h.cell 1, h.frozen 0, h.frozen 1⟩
end Go.Proofs.Ytjcdkbalhleeeab
