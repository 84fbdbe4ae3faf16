/-
  Contracts of functions and plain laws that later parts of the proof use. The conditions stand in each theorem.
-/
import Derived.Test.YtjcdkbalhleeeabChecked
import Derived.WalkKit
import Derived.Below
import Derived.Lib.Hide
import Derived.RegionTactic
import Derived.BigRegion
import Derived.Deep.QuietTactic
import Derived.BigQuiet
import Derived.Deep.RegionHeld3
import Derived.Deep.Draws
import Derived.Outline
import Derived.OwnWalk
import Derived.KernelRfl
import Derived.Deep.AppendLies
import Derived.Deep.RegionLaw
import Derived.StillTailTactics
import Derived.Test.YtjcdkbalhleeeabG01
import Derived.Test.YtjcdkbalhleeeabG02
namespace Go.Proofs.Ytjcdkbalhleeeab
open Go.RowKit

theorem ret_bool {a b : Bool} (h : a = b) : Ending.returned (.bool a) = .returned (.bool b) := by rw [h]
theorem ret_int {k : IntKind} {a b : Int} (h : a = b) : Ending.returned (.int k a) = .returned (.int k b) := by rw [h]
/-- The cells from an address on hold these values. -/
def Cells (w : World) (A : Option Addr) (l : List Value) : Prop :=
  0 < l.length → ∃ ad, A = some ad ∧ ∀ (j : Nat) (u : Value), l[j]? = some u → w.cell? (ad.add j) = some u

theorem block_add (a : Addr) (n : Nat) : (a.add n).block = a.block := by unfold Addr.add; split <;> rfl

section
variable {w w' : World} {A : Option Addr} {l : List Value}
theorem Cells.keep (h : Cells w A l) (hk : ∀ p : Addr, p.block < w.heap.size → w'.cell? p = w.cell? p) : Cells w' A l := fun hl => by
  obtain ⟨ad, e, hc⟩ := h hl
  exact ⟨ad, e, fun j u hu => (hk _ (World.block_lt_of_cell? w _ (hc j u hu))).trans (hc j u hu)⟩
theorem Cells.below {B : Nat} (h : Cells w A l) (hb : Below B w w') (hB : B = w.heap.size) : Cells w' A l := h.keep fun _ hp => hb.cell (by omega)
theorem Cells.at_ (h : Cells w A l) {k : Nat} (hk : k < l.length) : ∃ ad, A = some ad ∧ w.cell? (ad.add k) = some l[k] := by
  obtain ⟨ad, e, hc⟩ := h (by omega)
  exact ⟨ad, e, hc k _ (List.getElem?_eq_getElem hk)⟩
end

/-- A slice of 64-bit whole numbers reads as a list. -/
structure Rd (w : World) (A : Option Addr) (c : Nat) (l : List Int) : Prop where
  le : l.length ≤ c
  cap : c ≤ 9223372036854775807
  small : l.length ≤ 17592186044416
  cells : Cells w A (l.map (Value.int .i64))

section
variable {w w' : World} {A : Option Addr} {c : Nat} {l : List Int}
theorem Rd.keep (h : Rd w A c l) (hk : ∀ p : Addr, p.block < w.heap.size → w'.cell? p = w.cell? p) : Rd w' A c l := ⟨h.le, h.cap, h.small, h.cells.keep hk⟩
theorem Rd.below (h : Rd w A c l) (hb : Below w.heap.size w w') : Rd w' A c l := h.keep fun _ hp => hb.cell hp
theorem Rd.hop {w1 : World} (h : Rd w A c l) (hl : Below w.heap.size w w1) (hb : Below w1.heap.size w1 w') : Rd w' A c l := (h.below hl).below hb
theorem Rd.drewN (h : Rd w A c l) (n : Nat) : Rd (w.drewN n) A c l := h.keep fun _ _ => rfl
theorem Rd.drew (h : Rd w A c l) : Rd w.drew A c l := h.keep fun _ _ => rfl
theorem Rd.alloc (h : Rd w A c l) (o : Obj) : Rd (w.alloc o) A c l := h.below ((Below.refl _ w).alloc (Nat.le_refl _) o)
theorem Rd.setCell_out (h : Rd w A c l) (p : Addr) (u : Value) (hp : ∀ ad, A = some ad → ad.block ≠ p.block) : Rd (w.setCell p u) A c l :=
  ⟨h.le, h.cap, h.small, fun hl => by
    obtain ⟨ad, e, hc⟩ := h.cells hl
    exact ⟨ad, e, fun j u hu => (World.cell?_setCell_other w p _ _ (fun e' => hp ad e (by rw [← block_add ad j, e']))).trans (hc j u hu)⟩⟩
theorem Rd.at_ (h : Rd w A c l) {k : Nat} (hk : k < l.length) : ∃ ad, A = some ad ∧ w.cell? (ad.add k) = some (.int .i64 l[k]) := by
  obtain ⟨ad, e, hc⟩ := h.cells.at_ (k := k) (by simpa using hk)
  exact ⟨ad, e, by simpa using hc⟩
theorem Rd.of_own {base : Nat} {e : TypeId} (h : w.ownsRow base e 1 (.slice A l.length c) l.length (l.map (Value.int .i64))) (hs : l.length ≤ 17592186044416) : Rd w A c l := by
  rcases h.2 with ⟨hv, hn⟩ | ⟨g, cap, cur, hv, hb, hg, hnc, hcm, hcs, htake⟩
  · injection hv with h1 h2 h3
    subst h3
    exact ⟨by omega, by omega, hs, fun hl => by simp at hl; omega⟩
  · injection hv with h1 h2 h3
    subst h3 h1
    exact ⟨hnc, by unfold maxLen at hcm; omega, hs, fun _ => ⟨_, rfl, h.cells (g := g) rfl⟩⟩
theorem Rd.of_ownv {base : Nat} {e : TypeId} {v : Value} {n : Nat} (h : w.ownsRow base e 1 v n (l.map (Value.int .i64))) (hn : n = l.length) (hs : l.length ≤ 17592186044416) :
    ∃ A c, v = .slice A l.length c ∧ Rd w A c l ∧ ∀ ad, A = some ad → base ≤ ad.block := by
  subst hn
  have h' := h
  rcases h.2 with ⟨rfl, hn⟩ | ⟨g, cap, cur, rfl, hb, _⟩
  · refine ⟨none, 0, by rw [hn], ?_, by simp⟩
    have : l = [] := List.eq_nil_of_length_eq_zero hn
    subst this
    exact ⟨by simp, by omega, by simp, fun h => by simp at h⟩
  · exact ⟨_, _, rfl, Rd.of_own h' hs, fun ad e => by cases e; exact hb⟩
theorem Rd.new (w : World) (t : TypeId) (l : List Int) (b : Nat) (hb : b = w.heap.size) (hs : l.length ≤ 17592186044416) : Rd (w.alloc (.cells (l.map (Value.int .i64)).toArray t)) (some ⟨b, 0, none⟩) l.length l := by
  subst hb
  refine ⟨Nat.le_refl _, by omega, hs, fun _ => ⟨_, rfl, fun j u hu => ?_⟩⟩
  have e : (⟨w.heap.size, 0, none⟩ : Addr).add j = ⟨w.heap.size, j, none⟩ := by unfold Addr.add; split <;> simp_all
  rw [e, cell_of_row _ w.heap.size j _ t (0, 0) (heap_alloc_new w _)]
  simpa using hu
theorem Rd.new1 (w : World) (t : TypeId) (n : Int) (b : Nat) (hb : b = w.heap.size) : Rd (w.alloc (.cells #[.int .i64 n] t)) (some ⟨b, 0, none⟩) 1 [n] := Rd.new w t [n] b hb (by simp)
theorem Rd.nil (w : World) : Rd w none 0 [] := ⟨by simp, by omega, by simp, fun h => by simp at h⟩
end

theorem size_drewN' (w : World) (n : Nat) : (w.drewN n).heap.size = w.heap.size := rfl
/-- Block g holds just these cells, all of which may be written. -/
def Blk (w : World) (g : Nat) (t : TypeId) (cs : Array Value) : Prop := w.heap[g]? = some (.cells cs t (0, 0))
section
variable {w w' : World} {g : Nat} {t : TypeId} {cs : Array Value}
theorem Blk.lt (h : Blk w g t cs) : g < w.heap.size := (Array.getElem?_eq_some_iff.1 h).1
theorem Blk.cell (h : Blk w g t cs) (i : Nat) : w.cell? ⟨g, i, none⟩ = cs[i]? := cell_of_row w g i cs t (0, 0) h
theorem Blk.frozen (h : Blk w g t cs) (i : Nat) : w.frozen? ⟨g, i, none⟩ = false := by unfold Blk at h; simp [World.frozen?, h]
theorem Blk.new (w : World) (t : TypeId) (cs : Array Value) (g : Nat) (hg : g = w.heap.size) : Blk (w.alloc (.cells cs t)) g t cs := by subst hg; exact heap_alloc_new w _
theorem Blk.drewN (h : Blk w g t cs) (n : Nat) : Blk (w.drewN n) g t cs := h
theorem Blk.drew (h : Blk w g t cs) : Blk w.drew g t cs := h
theorem Blk.alloc (h : Blk w g t cs) (o : Obj) : Blk (w.alloc o) g t cs := (Below.heap_alloc w o g h.lt).trans h
theorem Blk.set0 (h : Blk w g t cs) (i : Nat) (u : Value) : Blk (w.setCell ⟨g, i, none⟩ u) g t (cs.setIfInBounds i u) := by
  unfold Blk at h ⊢
  simp [World.setCell, Array.getElem?_modify, h]
theorem Blk.far (h : Blk w g t cs) {p : Addr} (u : Value) (hp : g ≠ p.block) : Blk (w.setCell p u) g t cs := (Below.heap_setCell w p u g hp).trans h
theorem Blk.below {B : Nat} (h : Blk w g t cs) (hb : Below B w w') (hg : g < B) : Blk w' g t cs := (hb.block g hg).trans h
theorem Blk.next (h : Blk w g t cs) (hb : Below w.heap.size w w') : Blk w' g t cs := h.below hb h.lt
theorem Blk.mk' (w : World) (t : TypeId) (cs : Array Value) : Blk (w.alloc (.cells cs t)) w.heap.size t cs := heap_alloc_new w _
theorem Blk.hop {w1 : World} (h : Blk w g t cs) (hl : Below w.heap.size w w1) (hb : Below w1.heap.size w1 w') : Blk w' g t cs := (h.next hl).next hb
theorem Blk.at_ (h : Blk w g t cs) {g' : Nat} (e : g = g') : Blk w g' t cs := e ▸ h
theorem Blk.grown {row : Option Nat} (h : Blk w g t cs) (hb : w.grownBy w' row) (hg : some g ≠ row) : Blk w' g t cs := (hb.block g h.lt hg).trans h
end

theorem below_drewN {B : Nat} {a w : World} (h : Below B a w) (n : Nat) : Below B a (w.drewN n) := ⟨h.os, h.tape, h.output, h.size, h.block⟩

/-! A region that draws its order, whose operations read and call functions that make memory alone: one walk of the text's order. -/
/-- The worlds in which below W's heap nothing has turned. -/
def Wk (W : World) : Type := { u : World // Below W.heap.size W u }
instance wkNonempty (W : World) : Nonempty (Wk W) := ⟨⟨W, Below.refl _ _⟩⟩
theorem wk_region {P : Program} {id : Nat} {Q : Exit → Act → World → Prop} {a : Act} {W : World} {l : List Oper} (hm : P.follows .mixedOrders = true) (hB : Region.lexB .any l.toArray = true)
    (h : wpQuiet P l.toArray (fun w' => ∃ u : Wk W, w' = u.1) (fun a' => ∀ w', (∃ u : Wk W, w' = u.1) → Q .normal a' w') l a) : (Code.region id l.toArray true).wp P Q a W :=
  wp_region_quiet (C := fun w' => ∃ u : Wk W, w' = u.1) hm hB ⟨⟨W.drew, (Below.refl _ _).drew⟩, rfl⟩ (by simpa using h)
theorem wk_call {P : Program} {f : FuncId} {args : Array Value} {W : World} {u : Wk W} {v : Value}
    (h : Calls P f args u.1 fun e w' => e = .returned v ∧ Below u.1.heap.size u.1 w') : Calls P f args u.1 fun e w'' => e = .returned v ∧ ∃ u' : Wk W, w'' = u'.1 :=
  h.mono fun _ w'' ⟨he, hb⟩ => ⟨he, ⟨w'', u.2.trans (hb.mono u.2.size)⟩, rfl⟩
theorem wk_quiet {P : Program} {f : FuncId} {args : Array Value} {W : World} {u : Wk W} {v : Value}
    (h : Calls P f args u.1 fun e w' => e = .returned v ∧ ∃ n, w' = u.1.drewN n) : Calls P f args u.1 fun e w'' => e = .returned v ∧ ∃ u' : Wk W, w'' = u'.1 :=
  h.mono fun _ w'' ⟨he, n, hn⟩ => ⟨he, ⟨w'', hn ▸ below_drewN u.2 n⟩, rfl⟩

/-! One new element of one cell behind a slice of the call's own. -/
section
variable {ops : Array Oper} {rest : List Oper} {o : Oper} {a : Act} {w : World} {Q : Exit → Act → World → Prop}
theorem news1 {b : Nat} {u : Value} (hb : w.cell? ⟨b, 0, none⟩ = some u) : ∀ (j : Nat) (x : Value), [u][j]? = some x → w.cell? ((⟨b, 0, none⟩ : Addr).add j) = some x := by
  intro j x hx
  cases j with
  | zero => simp at hx; subst hx; simpa [Addr.add] using hb
  | succ j => simp at hx
theorem own_ne {w : World} {base g : Nat} {e : TypeId} {size n : Nat} {v : Value} {xs : List Value} (h : w.ownsRow base e size v n xs) (hg : g < base) : some g ≠ v.ownBlock :=
  fun e' => by have := (h.lt g e'.symm).1; omega
theorem own_ge {w : World} {base B : Nat} {e : TypeId} {size n : Nat} {v : Value} {xs : List Value} (h : w.ownsRow base e size v n xs) (hB : B ≤ base) : ∀ k, v.ownBlock = some k → B ≤ k :=
  fun k e' => by have := (h.lt k e').1; omega
theorem own_below {w w' : World} {base : Nat} {e : TypeId} {size n : Nat} {v : Value} {xs : List Value} (h : w.ownsRow base e size v n xs) (hb : Below w.heap.size w w') : w'.ownsRow base e size v n xs :=
  h.kept (row := none) ⟨hb.os, hb.tape, hb.output, hb.size, fun i hi _ => hb.block i hi⟩ (by cases hv : v.ownBlock <;> simp)
theorem own_drewN {w : World} {base : Nat} {e : TypeId} {size n : Nat} {v : Value} {xs : List Value} (h : w.ownsRow base e size v n xs) (k : Nat) : (w.drewN k).ownsRow base e size v n xs := h
theorem cell_new1 (w : World) (u : Value) (t : TypeId) : (w.alloc (.cells #[u] t)).cell? ⟨w.heap.size, 0, none⟩ = some u := by
  rw [cell_of_row _ w.heap.size 0 _ t (0, 0) (heap_alloc_new w _)]; rfl
theorem step_app1 {K : Act → World → Prop} {E' : Prop} (hgd : o.guard = none) (s x : Operand) (T E : TypeId) (z : Value) (bytes : Nat) (hT : Try.prog.underlying T = some (.slice E))
    (hI : (Try.prog.info? E).map (fun i => (i.zero, i.size, i.bytes)) = some (some z, 1, bytes)) (hz : z.cells.size = 1)
    (ho : o.op = .call { callee := .builtin .append, args := #[s, x], argTypes := #[T, T] })
    (base : Nat) (v : Value) (n : Nat) (xs : List Value) (u : Value) (hs : a.eval s = v) (hown : w.ownsRow base E 1 v n xs)
    (b c : Nat) (hx : a.eval x = .slice (some ⟨b, 0, none⟩) 1 c) (hb : w.cell? ⟨b, 0, none⟩ = some u) (hu : u.oneCell' = true)
    (h63 : n + 1 ≤ maxLen) (hbytes : (n + 1) * bytes ≤ 140737488355328) (hbase : base ≤ w.heap.size)
    (h : ∀ g cap w', w'.ownsRow base E 1 (.slice (some ⟨g, 0, none⟩) (n + 1) cap) (n + 1) (xs ++ [u]) → w.grownBy w' v.ownBlock → (v.ownBlock = some g ∨ g = w.heap.size) → g < w'.heap.size → K (a.put o.dst (.slice (some ⟨g, 0, none⟩) (n + 1) cap)) w') :
    if Region.wanted o (yielded ops a.tmps) = true then Oper.wp Try.prog o a w K Q else E' := by
  obtain ⟨i, hi, hz0, hz1, hz2⟩ := info_parts hI
  exact step_append_lies w hgd s x T ho base E i z 1 bytes hT hi hz0 hz1 hz2 hz (by omega) v n xs hs hown _ 1 c [u] hx rfl (news1 hb) (by simpa using hu) (by omega) h63 hbytes hbase _ rfl h
theorem list_app1 (hgd : o.guard = none) (s x : Operand) (T E : TypeId) (z : Value) (bytes : Nat) (hT : Try.prog.underlying T = some (.slice E))
    (hI : (Try.prog.info? E).map (fun i => (i.zero, i.size, i.bytes)) = some (some z, 1, bytes)) (hz : z.cells.size = 1)
    (ho : o.op = .call { callee := .builtin .append, args := #[s, x], argTypes := #[T, T] })
    (base : Nat) (v : Value) (n : Nat) (xs : List Value) (u : Value) (hs : a.eval s = v) (hown : w.ownsRow base E 1 v n xs)
    (b c : Nat) (hx : a.eval x = .slice (some ⟨b, 0, none⟩) 1 c) (hb : w.cell? ⟨b, 0, none⟩ = some u) (hu : u.oneCell' = true)
    (h63 : n + 1 ≤ maxLen) (hbytes : (n + 1) * bytes ≤ 140737488355328) (hbase : base ≤ w.heap.size)
    (h : ∀ g cap w', w'.ownsRow base E 1 (.slice (some ⟨g, 0, none⟩) (n + 1) cap) (n + 1) (xs ++ [u]) → w.grownBy w' v.ownBlock → (v.ownBlock = some g ∨ g = w.heap.size) → g < w'.heap.size → wpList Try.prog ops Q rest (a.put o.dst (.slice (some ⟨g, 0, none⟩) (n + 1) cap)) w') :
    wpList Try.prog ops Q (o :: rest) a w := by
  obtain ⟨i, hi, hz0, hz1, hz2⟩ := info_parts hI
  exact wpList_append_lies w hgd s x T ho base E i z 1 bytes hT hi hz0 hz1 hz2 hz (by omega) v n xs hs hown _ 1 c [u] hx rfl (news1 hb) (by simpa using hu) (by omega) h63 hbytes hbase _ rfl h
end
theorem und_i64s : Try.prog.underlying 22 = some (.slice 2) := by kernel_rfl
theorem inf_i64 : (Try.prog.info? 2).map (fun i => (i.zero, i.size, i.bytes)) = some (some (.int .i64 0), 1, 8) := by kernel_rfl
end Go.Proofs.Ytjcdkbalhleeeab

namespace Go.Proofs.Ytjcdkbalhleeeab
open Go.RowKit

/-- The rows' slice reads as these rows. -/
structure Rw (w : World) (A : Option Addr) (c : Nat) (rs : List (List Int × Int)) : Prop where
  le : rs.length ≤ c
  cap : c ≤ 9223372036854775807
  small : rs.length ≤ 17592186044416
  cells : 0 < rs.length → ∃ ad, A = some ad ∧ ∀ (j : Nat) (hj : j < rs.length), ∃ A' c', w.cell? (ad.add (j * 2)) = some (.slice A' rs[j].1.length c') ∧ w.cell? ⟨(ad.add (j * 2)).block, (ad.add (j * 2)).off + 1, none⟩ = some (.int .i64 rs[j].2) ∧ Rd w A' c' rs[j].1
section
variable {w w' : World} {A : Option Addr} {c : Nat} {rs : List (List Int × Int)}
theorem Rw.keep (h : Rw w A c rs) (hk : ∀ p : Addr, p.block < w.heap.size → w'.cell? p = w.cell? p) : Rw w' A c rs :=
  ⟨h.le, h.cap, h.small, fun hl => by
    obtain ⟨ad, e, hc⟩ := h.cells hl
    refine ⟨ad, e, fun j hj => ?_⟩
    obtain ⟨A', c', h1, h2, h3⟩ := hc j hj
    exact ⟨A', c', (hk _ (World.block_lt_of_cell? _ _ h1)).trans h1, (hk _ (World.block_lt_of_cell? _ _ h2)).trans h2, h3.keep hk⟩⟩
theorem Rw.below (h : Rw w A c rs) (hb : Below w.heap.size w w') : Rw w' A c rs := h.keep fun _ hp => hb.cell hp
theorem Rw.hop {w1 : World} (h : Rw w A c rs) (hl : Below w.heap.size w w1) (hb : Below w1.heap.size w1 w') : Rw w' A c rs := (h.below hl).below hb
theorem Rw.at_ (h : Rw w A c rs) {k : Nat} (hk : k < rs.length) : ∃ ad A' c', A = some ad ∧ w.cell? (ad.add (k * 2)) = some (.slice A' rs[k].1.length c') ∧ w.cell? ⟨(ad.add (k * 2)).block, (ad.add (k * 2)).off + 1, none⟩ = some (.int .i64 rs[k].2) ∧ Rd w A' c' rs[k].1 := by
  obtain ⟨ad, e, hc⟩ := h.cells (by omega)
  obtain ⟨A', c', h1, h2, h3⟩ := hc k hk
  exact ⟨ad, A', c', e, h1, h2, h3⟩
end
/-- A program's two slices read as it. -/
structure Pg (w : World) (A : Option Addr) (c : Nat) (A2 : Option Addr) (c2 : Nat) (p : PG) : Prop where
  costs : Rd w A c p.costs
  rows : Rw w A2 c2 p.rows
section
variable {w w' : World} {A A2 : Option Addr} {c c2 : Nat} {p : PG}
theorem Pg.below (h : Pg w A c A2 c2 p) (hb : Below w.heap.size w w') : Pg w' A c A2 c2 p := ⟨h.costs.below hb, h.rows.below hb⟩
theorem Pg.hop {w1 : World} (h : Pg w A c A2 c2 p) (hl : Below w.heap.size w w1) (hb : Below w1.heap.size w1 w') : Pg w' A c A2 c2 p := (h.below hl).below hb
end
end Go.Proofs.Ytjcdkbalhleeeab

namespace Go.Proofs.Ytjcdkbalhleeeab
open Go.RowKit

theorem und_rowsT : Try.prog.underlying 23 = some (.slice 36) := by kernel_rfl
theorem inf_rowT : (Try.prog.info? 36).map (fun i => (i.zero, i.size, i.bytes)) = some (some (.agg #[.slice none 0 0, .int .i64 0]), 2, 32) := by kernel_rfl
/-- The rows' cells, of the first k. -/
def rowCells (As : Nat → Option Addr) (cs : Nat → Nat) (p : PG) (b : List Int) : Nat → List Value
  | 0 => []
  | k + 1 => rowCells As cs p b k ++ [.slice (As k) (p.rows.getD k ([], 0)).1.length (cs k), .int .i64 (b.getD k 0)]
theorem rowCells_len (As : Nat → Option Addr) (cs : Nat → Nat) (p : PG) (b : List Int) (k : Nat) : (rowCells As cs p b k).length = k * 2 := by
  induction k with
  | zero => rfl
  | succ k ih => rw [rowCells, List.length_append, ih]; simp; omega
theorem rowCells_at (As : Nat → Option Addr) (cs : Nat → Nat) (p : PG) (b : List Int) {k i : Nat} (h : i < k) :
    (rowCells As cs p b k)[i * 2]? = some (.slice (As i) (p.rows.getD i ([], 0)).1.length (cs i)) ∧ (rowCells As cs p b k)[i * 2 + 1]? = some (.int .i64 (b.getD i 0)) := by
  induction k with
  | zero => omega
  | succ k ih =>
    have hl := rowCells_len As cs p b k
    rw [rowCells]
    by_cases e : i = k
    · subst e
      rw [List.getElem?_append_right (by omega), List.getElem?_append_right (by omega), hl]
      simp
    · obtain ⟨h1, h2⟩ := ih (by omega)
      rw [List.getElem?_append_left (by omega), List.getElem?_append_left (by omega)]
      exact ⟨h1, h2⟩
/-- They read as the rows. -/
theorem rows_read {w : World} {base g cap k : Nat} {As : Nat → Option Addr} {cs : Nat → Nat} {p : PG} {b : List Int}
    (h : w.ownsRow base 36 2 (.slice (some ⟨g, 0, none⟩) k cap) k (rowCells As cs p b k)) (hk : k ≤ 1000) (hr : ∀ i, i < k → Rd w (As i) (cs i) (p.rows.getD i ([], 0)).1) :
    Rw w (some ⟨g, 0, none⟩) cap (rowsK p b k) := by
  have hcap : k ≤ cap ∧ cap ≤ 9223372036854775807 := by
    rcases h.2 with ⟨e, _⟩ | ⟨g', cap', cur, e, hb, hg, h1, h2, _⟩
    · injection e with e1; cases e1
    · injection e with e1 e2 e3
      subst e3
      exact ⟨h1, by unfold maxLen at h2; omega⟩
  refine ⟨by rw [rowsK_len]; exact hcap.1, hcap.2, by rw [rowsK_len]; omega, fun _ => ⟨_, rfl, fun j hj => ?_⟩⟩
  have hj' : j < k := by rwa [rowsK_len] at hj
  obtain ⟨c1, c2⟩ := rowCells_at As cs p b hj'
  have e1 : ∀ q, (⟨g, 0, none⟩ : Addr).add q = ⟨g, q, none⟩ := fun q => by unfold Addr.add; split <;> simp_all
  have d1 := h.cells (g := g) rfl (j * 2) _ c1
  have d2 := h.cells (g := g) rfl (j * 2 + 1) _ c2
  rw [e1] at d1 d2
  have er : (rowsK p b k)[j] = ((p.rows.getD j ([], 0)).1, b.getD j 0) := by
    have := rowsK_at p b hj'
    rwa [List.getD, List.getElem?_eq_getElem hj, Option.getD_some] at this
  rw [e1, er]
  exact ⟨As j, cs j, d1, d2, hr j hj'⟩
/-- The slices of a program's rows, one by one. -/
theorem Rw.all {w : World} {A : Option Addr} {c : Nat} {rs : List (List Int × Int)} (h : Rw w A c rs) (h0 : 0 < rs.length) :
    ∃ (ad : Addr) (As : Nat → Option Addr) (cs : Nat → Nat), A = some ad ∧ ∀ j, j < rs.length → w.cell? (ad.add (j * 2)) = some (.slice (As j) (rs.getD j ([], 0)).1.length (cs j)) ∧
      w.cell? ⟨(ad.add (j * 2)).block, (ad.add (j * 2)).off + 1, none⟩ = some (.int .i64 (rs.getD j ([], 0)).2) ∧ Rd w (As j) (cs j) (rs.getD j ([], 0)).1 := by
  obtain ⟨ad, e, hc⟩ := h.cells h0
  have key : ∀ j, ∃ x : Option Addr × Nat, j < rs.length → w.cell? (ad.add (j * 2)) = some (.slice x.1 (rs.getD j ([], 0)).1.length x.2) ∧
      w.cell? ⟨(ad.add (j * 2)).block, (ad.add (j * 2)).off + 1, none⟩ = some (.int .i64 (rs.getD j ([], 0)).2) ∧ Rd w x.1 x.2 (rs.getD j ([], 0)).1 := fun j => by
    by_cases hj : j < rs.length
    · obtain ⟨A', c', h1, h2, h3⟩ := hc j hj
      refine ⟨(A', c'), fun _ => ?_⟩
      have er : rs.getD j ([], 0) = rs[j] := by simp [List.getD, List.getElem?_eq_getElem hj]
      rw [er]
      exact ⟨h1, h2, h3⟩
    · exact ⟨(none, 0), fun q => absurd q hj⟩
  exact ⟨ad, fun j => (Classical.choose (key j)).1, fun j => (Classical.choose (key j)).2, e, fun j hj => Classical.choose_spec (key j) hj⟩
theorem news2 {w : World} {b : Nat} {u v : Value} {t : TypeId} (h : Blk w b t #[u, v]) : ∀ (j : Nat) (x : Value), [u, v][j]? = some x → w.cell? ((⟨b, 0, none⟩ : Addr).add j) = some x :=
  fun j x hx => World.news_of_block (cs := #[u, v]) h j x hx
section
variable {ops : Array Oper} {o : Oper} {a : Act} {w : World} {Q : Exit → Act → World → Prop}
theorem step_appRow {K : Act → World → Prop} {E' : Prop} (hgd : o.guard = none) (s x : Operand)
    (ho : o.op = .call { callee := .builtin .append, args := #[s, x], argTypes := #[23, 23] })
    (base : Nat) (v : Value) (n : Nat) (xs : List Value) (u1 u2 : Value) (hs : a.eval s = v) (hown : w.ownsRow base 36 2 v n xs)
    (b c : Nat) (hx : a.eval x = .slice (some ⟨b, 0, none⟩) 1 c) (hb : ∀ (j : Nat) (x : Value), [u1, u2][j]? = some x → w.cell? ((⟨b, 0, none⟩ : Addr).add j) = some x) (h1 : u1.oneCell' = true) (h2 : u2.oneCell' = true)
    (hn : n ≤ 100) (hbase : base ≤ w.heap.size)
    (h : ∀ g cap w', w'.ownsRow base 36 2 (.slice (some ⟨g, 0, none⟩) (n + 1) cap) (n + 1) (xs ++ [u1, u2]) → w.grownBy w' v.ownBlock → (v.ownBlock = some g ∨ g = w.heap.size) → g < w'.heap.size → K (a.put o.dst (.slice (some ⟨g, 0, none⟩) (n + 1) cap)) w') :
    if Region.wanted o (yielded ops a.tmps) = true then Oper.wp Try.prog o a w K Q else E' := by
  obtain ⟨i, hi, hz0, hz1, hz2⟩ := info_parts inf_rowT
  exact step_append_lies w hgd s x 23 ho base 36 i _ 2 32 und_rowsT hi hz0 hz1 hz2 rfl (by omega) v n xs hs hown _ 1 c [u1, u2] hx rfl hb (by simp [h1, h2]) (by omega) (by unfold maxLen; omega) (by omega) hbase _ rfl h
end
end Go.Proofs.Ytjcdkbalhleeeab

namespace Go.Proofs.Ytjcdkbalhleeeab
open Go.RowKit

/-- Outer block O, rows in blocks g i with room c i: n cells a row, m rows. -/
structure Mat (w : World) (O : Nat) (g c : Nat → Nat) (m n : Nat) (M : Nat → Nat → Int) : Prop where
  out : ∀ i, i < m → w.cell? ⟨O, i, none⟩ = some (.slice (some ⟨g i, 0, none⟩) n (c i))
  ofree : ∀ i, i < m → w.frozen? ⟨O, i, none⟩ = false
  row : ∀ i j, i < m → j < n → w.cell? ⟨g i, j, none⟩ = some (.int .i64 (M i j))
  free : ∀ i j, i < m → j < n → w.frozen? ⟨g i, j, none⟩ = false
  le : ∀ i, i < m → n ≤ c i ∧ c i ≤ 9223372036854775807
  inj : ∀ i j, i < m → j < m → g i = g j → i = j
  ne : ∀ i, i < m → g i ≠ O
  lt : ∀ i, i < m → g i < w.heap.size
  olt : O < w.heap.size

/-- Only these blocks have turned, and new ones have come. -/
structure Turned (S : Nat → Prop) (w w' : World) : Prop where
  os : w'.os = w.os
  tape : w'.tape = w.tape
  output : w'.output = w.output
  size : w.heap.size ≤ w'.heap.size
  block : ∀ k, k < w.heap.size → ¬ S k → w'.heap[k]? = w.heap[k]?
theorem Turned.refl (S : Nat → Prop) (w : World) : Turned S w w := ⟨rfl, rfl, rfl, Nat.le_refl _, fun _ _ _ => rfl⟩
theorem Turned.trans {S : Nat → Prop} {a b c : World} (h : Turned S a b) (k : Turned S b c) : Turned S a c :=
  ⟨k.os.trans h.os, k.tape.trans h.tape, k.output.trans h.output, Nat.le_trans h.size k.size, fun i hi hs => (k.block i (Nat.lt_of_lt_of_le hi h.size) hs).trans (h.block i hi hs)⟩
theorem Turned.drewN {S : Nat → Prop} {a w : World} (h : Turned S a w) (n : Nat) : Turned S a (w.drewN n) := ⟨h.os, h.tape, h.output, h.size, h.block⟩
theorem Turned.drew {S : Nat → Prop} {a w : World} (h : Turned S a w) : Turned S a w.drew := ⟨h.os, h.tape, h.output, h.size, h.block⟩
theorem Turned.alloc {S : Nat → Prop} {a w : World} (h : Turned S a w) (o : Obj) : Turned S a (w.alloc o) :=
  h.trans ⟨rfl, rfl, rfl, by simp, fun k hk _ => Below.heap_alloc _ _ _ hk⟩
theorem Turned.setCell {S : Nat → Prop} {a w : World} (h : Turned S a w) {p : Addr} (hp : S p.block) (u : Value) : Turned S a (w.setCell p u) :=
  h.trans ⟨rfl, rfl, rfl, by simp [World.setCell], fun k _ hs => Below.heap_setCell _ _ _ _ (fun e => hs (e ▸ hp))⟩
theorem Turned.of_below {S : Nat → Prop} {a b : World} (h : Below a.heap.size a b) : Turned S a b := ⟨h.os, h.tape, h.output, h.size, fun k hk _ => h.block k hk⟩
theorem Turned.below {S : Nat → Prop} {a b : World} (h : Turned S a b) {B : Nat} (hB : B ≤ a.heap.size) (hS : ∀ k, S k → B ≤ k) : Below B a b :=
  ⟨h.os, h.tape, h.output, h.size, fun k hk => h.block k (by omega) (fun q => by have := hS k q; omega)⟩
theorem Turned.grown {S : Nat → Prop} {a w w' : World} {row : Option Nat} (h : Turned S a w) (hg : w.grownBy w' row) (hr : ∀ k, row = some k → a.heap.size ≤ k) : Turned S a w' :=
  ⟨hg.os.trans h.os, hg.tape.trans h.tape, hg.output.trans h.output, Nat.le_trans h.size hg.size, fun k hk hs => (hg.block k (Nat.lt_of_lt_of_le hk h.size) (fun e => by have := hr k e.symm; omega)).trans (h.block k hk hs)⟩

section
variable {w w' : World} {O : Nat} {g c : Nat → Nat} {m n : Nat} {M : Nat → Nat → Int}
theorem Mat.congr (h : Mat w O g c m n M) {M' : Nat → Nat → Int} (e : ∀ i j, i < m → j < n → M i j = M' i j) : Mat w O g c m n M' :=
  ⟨h.out, h.ofree, fun i j hi hj => by rw [← e i j hi hj]; exact h.row i j hi hj, h.free, h.le, h.inj, h.ne, h.lt, h.olt⟩
theorem Mat.drewN (h : Mat w O g c m n M) (k : Nat) : Mat (w.drewN k) O g c m n M := ⟨h.out, h.ofree, h.row, h.free, h.le, h.inj, h.ne, h.lt, h.olt⟩
theorem Mat.drew (h : Mat w O g c m n M) : Mat w.drew O g c m n M := ⟨h.out, h.ofree, h.row, h.free, h.le, h.inj, h.ne, h.lt, h.olt⟩
theorem Mat.below (h : Mat w O g c m n M) (hb : Below w.heap.size w w') : Mat w' O g c m n M :=
  ⟨fun i hi => (hb.cell (p := ⟨O, i, none⟩) h.olt).trans (h.out i hi), fun i hi => (hb.frozen (p := ⟨O, i, none⟩) h.olt).trans (h.ofree i hi),
   fun i j hi hj => (hb.cell (p := ⟨g i, j, none⟩) (h.lt i hi)).trans (h.row i j hi hj), fun i j hi hj => (hb.frozen (p := ⟨g i, j, none⟩) (h.lt i hi)).trans (h.free i j hi hj),
   h.le, h.inj, h.ne, fun i hi => Nat.lt_of_lt_of_le (h.lt i hi) hb.size, Nat.lt_of_lt_of_le h.olt hb.size⟩
/-- One number stored. -/
theorem Mat.put (h : Mat w O g c m n M) {i j : Nat} (hi : i < m) (hj : j < n) (z : Int) : Mat (w.setCell ⟨g i, j, none⟩ (.int .i64 z)) O g c m n (fun i' j' => if i' = i ∧ j' = j then z else M i' j') := by
  refine ⟨fun i' hi' => ?_, fun i' hi' => ?_, fun i' j' hi' hj' => ?_, fun i' j' hi' hj' => ?_, h.le, h.inj, h.ne, fun i' hi' => by simpa using h.lt i' hi', by simpa using h.olt⟩
  · rw [World.cell?_setCell_other w _ _ _ (fun e => h.ne i hi (by injection e with e1))]; exact h.out i' hi'
  · rw [World.frozen?_setCell]; exact h.ofree i' hi'
  · by_cases e : i' = i ∧ j' = j
    · obtain ⟨rfl, rfl⟩ := e
      rw [if_pos ⟨rfl, rfl⟩]
      exact World.cell?_setCell_same' w _ _ (by rw [h.row _ _ hi' hj']; rfl)
    · rw [if_neg e, World.cell?_setCell_other w _ _ _ (fun q => e (by injection q with q1 q2; exact ⟨(h.inj _ _ hi hi' (by omega)).symm, by omega⟩))]
      exact h.row i' j' hi' hj'
  · rw [World.frozen?_setCell]; exact h.free i' j' hi' hj'
/-- Two rows changed. -/
theorem sw_lt {k a m i : Nat} (hk : k < m) (ha : a < m) (hi : i < m) : sw k a i < m := by unfold sw; split; exact ha; split; exact hk; exact hi
theorem sw_inj {k a i j : Nat} (h : sw k a i = sw k a j) : i = j := by unfold sw at h; split at h <;> split at h <;> (try split at h) <;> (try split at h) <;> omega
theorem Mat.swap (h : Mat w O g c m n M) {k a : Nat} (hk : k < m) (ha : a < m) (hka : k ≠ a) :
    Mat ((w.setCell ⟨O, k, none⟩ (.slice (some ⟨g a, 0, none⟩) n (c a))).setCell ⟨O, a, none⟩ (.slice (some ⟨g k, 0, none⟩) n (c k))) O (fun i => g (sw k a i)) (fun i => c (sw k a i)) m n (fun i j => M (sw k a i) j) := by
  refine ⟨fun i hi => ?_, fun i hi => ?_, fun i j hi hj => ?_, fun i j hi hj => ?_, fun i hi => h.le _ (sw_lt hk ha hi), fun i j hi hj e => sw_inj (h.inj _ _ (sw_lt hk ha hi) (sw_lt hk ha hj) e), fun i hi => h.ne _ (sw_lt hk ha hi), fun i hi => by simpa using h.lt _ (sw_lt hk ha hi), by simpa using h.olt⟩
  · have hc : ((w.setCell ⟨O, k, none⟩ (.slice (some ⟨g a, 0, none⟩) n (c a))).cell? ⟨O, a, none⟩).isSome = true := by
      rw [World.cell?_setCell_other w _ _ _ (fun e => hka (by injection e)), h.out a ha]; rfl
    by_cases e1 : i = a
    · subst e1
      rw [World.cell?_setCell_same' _ _ _ hc]
      unfold sw; rw [if_neg (by omega), if_pos rfl]
    · rw [World.cell?_setCell_other _ _ _ _ (fun e => e1 (by injection e with _ e2; omega))]
      by_cases e2 : i = k
      · subst e2
        rw [World.cell?_setCell_same' w _ _ (by rw [h.out i hi]; rfl)]
        unfold sw; rw [if_pos rfl]
      · rw [World.cell?_setCell_other _ _ _ _ (fun e => e2 (by injection e with _ e3; omega)), h.out i hi]
        unfold sw; rw [if_neg e2, if_neg e1]
  · rw [World.frozen?_setCell, World.frozen?_setCell]; exact h.ofree i hi
  · have hn := h.ne _ (sw_lt hk ha hi)
    rw [World.cell?_setCell_other _ _ _ _ (fun e => hn (by injection e with e1; exact e1.symm)), World.cell?_setCell_other _ _ _ _ (fun e => hn (by injection e with e1; exact e1.symm))]
    exact h.row _ j (sw_lt hk ha hi) hj
  · rw [World.frozen?_setCell, World.frozen?_setCell]; exact h.free _ j (sw_lt hk ha hi) hj
end
end Go.Proofs.Ytjcdkbalhleeeab

namespace Go.Proofs.Ytjcdkbalhleeeab
open Go.RowKit

theorem frac_gcd (a b : Nat) (w : World) (ha' : a ≤ 4611686018427387904) (hb' : b ≤ 4611686018427387904) :
    Calls Try.prog 133 #[.int .i64 a, .int .i64 b] w fun e w' => e = .returned (.int .i64 (Nat.gcd a b)) ∧ ∃ n, w' = w.drewN n := by
  go_enter Try.func133, Try.ntmps133
  go_wp2
  go_loopw [0, 1] (fun x y wr => ∃ c d : Nat, c ≤ 4611686018427387904 ∧ d ≤ 4611686018427387904 ∧ Nat.gcd c d = Nat.gcd a b ∧ x = .int .i64 c ∧ y = .int .i64 d ∧ ∃ n, wr = w.drewN n) (fun _ y _ => (intOf y).toNat)
  case atStart => exact ⟨a, b, ha', hb', rfl, rfl, rfl, 0, rfl⟩
  case round =>
    obtain ⟨c, d, hc, hd, hg, rfl, rfl, n, rfl⟩ := hrel
    have HG := Lib.hid hg
    clear hg
    by_cases h0 : d = 0
    · subst h0
      go_wp2
      go_ret
      exact ⟨ret_int (by rw [← HG.out]; simp), _, rfl⟩
    · have hz' : ((d : Int) != 0) = true := by simp; omega
      have hm : c % d < d := Nat.mod_lt _ (by omega)
      go_wp2
      go_region
      all_goals
        go_wp2
        go_roundw
        case rel => exact ⟨d, c % d, hd, by omega, by rw [← HG.out, Nat.gcd_comm c d, Nat.gcd_rec d c, Nat.gcd_comm], rfl, by simp, n + 1, rfl⟩
        case measure => simp [intOf]; omega

theorem frac_gcdI (a b : Int) (w : World) (ha : 0 ≤ a) (hb : 0 ≤ b) (ha' : a ≤ 4611686018427387904) (hb' : b ≤ 4611686018427387904) :
    Calls Try.prog 133 #[.int .i64 a, .int .i64 b] w fun e w' => e = .returned (.int .i64 (Nat.gcd a.natAbs b.natAbs)) ∧ ∃ n, w' = w.drewN n := by
  obtain ⟨a, rfl⟩ := Int.eq_ofNat_of_zero_le ha
  obtain ⟨b, rfl⟩ := Int.eq_ofNat_of_zero_le hb
  exact frac_gcd a b w (by omega) (by omega)

theorem frac_small (m : Int) (A : Option Addr) (l : List Int) (c : Nat) (w : World) (hm : 0 ≤ m) (hm' : m ≤ 4611686018427387904) (hr : Rd w A c l) :
    Calls Try.prog 95 #[.int .i64 m, .slice A l.length c] w fun e w' => e = .returned (.bool (smallB m l)) ∧ ∃ n, w' = w.drewN n := by
  obtain ⟨hl, hc, hsm, hr⟩ := hr
  go_enter Try.func95, Try.ntmps95
  go_wp2
  go_loop [9] (fun i => ∃ k : Nat, k ≤ l.length ∧ smallB m (l.take k) = true ∧ i = .int .i64 k) (fun i => l.length - (intOf i).toNat)
  case atStart => exact ⟨0, by omega, by simp [smallB], rfl⟩
  case round =>
    obtain ⟨k, hk, hs, rfl⟩ := hrel
    have HS := Lib.hid hs
    clear hs
    by_cases hlt : k < l.length
    · obtain ⟨ad, rfl, hc1⟩ := hr.at_ (k := k) (by simpa using hlt)
      rw [List.getElem_map] at hc1
      clear hr
      have HT := Lib.hid (smallB_take (m := m) hlt)
      have HF := Lib.hid (smallB_false (m := m) hlt)
      by_cases h1 : l[k] < -m
      · go_wp2
        go_ret
        exact ⟨ret_bool (HF.out (by simp; omega)).symm, 0, rfl⟩
      · by_cases h2 : m < l[k]
        · go_wp2
          go_ret
          exact ⟨ret_bool (HF.out (by simp; omega)).symm, 0, rfl⟩
        · go_wp2
          go_round
          case rel => exact ⟨k + 1, by omega, by rw [HT.out, HS.out]; simp; omega, by go_num⟩
          case measure => simp [intOf]; omega
    · obtain rfl : k = l.length := by omega
      go_wp2
      go_ret
      exact ⟨ret_bool (by rw [← HS.out, List.take_length]), 0, rfl⟩

theorem frac_common (d : Nat) (A : Option Addr) (l : List Int) (c : Nat) (w : World) (hd : d ≤ 4611686018427387904) (hs : smallB 4611686018427387904 l = true) (hr : Rd w A c l) :
    Calls Try.prog 96 #[.int .i64 d, .slice A l.length c] w fun e w' => e = .returned (.int .i64 (comm d l)) ∧ ∃ n, w' = w.drewN n := by
  obtain ⟨hl, hc, hsm, hr⟩ := hr
  have hbd : ∀ n ∈ l, n.natAbs ≤ 4611686018427387904 := fun n hn => by have := smallB_mem hs hn; omega
  have HB := Lib.hid hbd
  have HS := Lib.hid hs
  clear hs hbd
  go_enter Try.func96, Try.ntmps96
  go_wp2
  go_loopw [0, 9] (fun x i wr => ∃ k : Nat, k ≤ l.length ∧ x = .int .i64 (comm d (l.take k)) ∧ i = .int .i64 k ∧ ∃ n, wr = w.drewN n) (fun _ i _ => l.length - (intOf i).toNat)
  case atStart => exact ⟨0, by omega, rfl, rfl, 0, rfl⟩
  case round =>
    obtain ⟨k, hk, rfl, rfl, n, rfl⟩ := hrel
    have hb1 : comm d (l.take k) ≤ 4611686018427387904 := comm_bound _ _ _ hd fun x hx => HB.out x (List.mem_of_mem_take hx)
    by_cases hlt : k < l.length
    · obtain ⟨ad, rfl, hc1⟩ := hr.at_ (k := k) (by simpa using hlt)
      rw [List.getElem_map] at hc1
      clear hr
      have hb2 := smallB_at HS.out hlt
      obtain ⟨hb2, hb3⟩ := hb2
      have HT := Lib.hid (comm_take d hlt)
      go_wp2_with (go_at_call 133; refine (frac_gcdI _ _ _ (by omega) (by omega) (by omega) (by omega)).mono ?_; rintro e w' ⟨rfl, n', rfl⟩)
      all_goals
        go_roundw
        case rel => exact ⟨k + 1, by omega, by rw [HT.out]; (try split) <;> simp, by go_num, _, rfl⟩
        case measure => simp [intOf]; omega
    · obtain rfl : k = l.length := by omega
      go_wp2
      go_ret
      exact ⟨ret_int (by rw [List.take_length]), _, rfl⟩

theorem frac_commonI (d : Int) (A : Option Addr) (l : List Int) (c : Nat) (w : World) (h0 : 0 ≤ d) (hd : d ≤ 4611686018427387904) (hs : smallB 4611686018427387904 l = true) (hr : Rd w A c l) :
    Calls Try.prog 96 #[.int .i64 d, .slice A l.length c] w fun e w' => e = .returned (.int .i64 (comm d.natAbs l)) ∧ ∃ n, w' = w.drewN n := by
  obtain ⟨d, rfl⟩ := Int.eq_ofNat_of_zero_le h0
  exact frac_common d A l c w (by omega) hs hr
end Go.Proofs.Ytjcdkbalhleeeab

namespace Go.Proofs.Ytjcdkbalhleeeab
open Go.RowKit

theorem frac_right (A : Option Addr) (l : List Int) (c : Nat) (d : Int) (w : World) (hr : Rd w A c l) :
    Calls Try.prog 97 #[.slice A l.length c, .int .i64 d] w fun e w' => e = .returned (.bool (rightB l d)) ∧ ∃ n, w' = w.drewN n := by
  have HR := Lib.hid hr
  obtain ⟨hl, hc, hsm, _⟩ := hr
  by_cases h1 : d < 1
  · have hv : rightB l d = false := by simp [rightB]; omega
    rw [hv]
    go_enter Try.func97, Try.ntmps97
    go_wp2_with fail
    go_ret
    exact ⟨rfl, 0, rfl⟩
  · by_cases h2 : 1073741824 < d
    · have hv : rightB l d = false := by simp [rightB]; omega
      rw [hv]
      go_enter Try.func97, Try.ntmps97
      go_wp2_with fail
      go_ret
      exact ⟨rfl, 0, rfl⟩
    · cases hs : smallB 1073741824 l with
      | false =>
        have hv : rightB l d = false := by simp [rightB, hs]
        rw [hv]
        clear hv
        go_enter Try.func97, Try.ntmps97
        go_wp2_with (go_at_call 95; refine (frac_small _ _ _ _ _ (by omega) (by omega) HR.out).mono ?_; rintro e w' ⟨rfl, n', rfl⟩)
        go_ret
        exact ⟨rfl, _, rfl⟩
      | true =>
        by_cases h3 : l.length ≤ 8
        · have hv : rightB l d = true := by simp [rightB, hs]; omega
          rw [hv]
          clear hv
          go_enter Try.func97, Try.ntmps97
          go_wp2_with (go_at_call 95; refine (frac_small _ _ _ _ _ (by omega) (by omega) HR.out).mono ?_; rintro e w' ⟨rfl, n', rfl⟩)
          go_ret
          exact ⟨ret_bool (by simp; omega), _, rfl⟩
        · have hv : rightB l d = false := by simp [rightB, hs]; omega
          rw [hv]
          clear hv
          go_enter Try.func97, Try.ntmps97
          go_wp2_with (go_at_call 95; refine (frac_small _ _ _ _ _ (by omega) (by omega) HR.out).mono ?_; rintro e w' ⟨rfl, n', rfl⟩)
          go_ret
          exact ⟨ret_bool (by simp; omega), _, rfl⟩

theorem frac_MayPoint (A : Option Addr) (l : List Int) (c : Nat) (d : Int) (w : World) (hr : Rd w A c l) :
    Calls Try.prog 118 #[.agg #[.slice A l.length c, .int .i64 d]] w fun e w' => e = .returned (.bool (mayB l d)) ∧ Below w.heap.size w w' := by
  have HR := Lib.hid hr
  obtain ⟨hl, hc, hsm, _⟩ := hr
  cases hs : rightB l d with
  | false =>
    have hv : mayB l d = false := by simp [mayB, hs]
    rw [hv]
    clear hv
    go_enter Try.func118, Try.ntmps118
    go_wp2_with (go_at_call 97; refine (frac_right _ _ _ _ _ (HR.out.alloc _)).mono ?_; rintro e w' ⟨rfl, n', rfl⟩)
    go_ret
    exact ⟨rfl, below_drewN ((Below.refl _ _).alloc (Nat.le_refl _) _) _⟩
  | true =>
    obtain ⟨d, rfl⟩ : ∃ n : Nat, d = n := ⟨d.toNat, by simp [rightB] at hs; omega⟩
    have hd : d ≤ 4611686018427387904 := by simp [rightB] at hs; omega
    have hz : smallB 4611686018427387904 l = true := by
      rw [smallB_iff]; simp [rightB] at hs; intro n hn; have := smallB_mem hs.2.2.1 hn; omega
    have HZ := Lib.hid hz
    have hv : mayB l d = ((comm d l : Int) == 1) := by rw [Bool.eq_iff_iff]; simp [mayB, hs]; omega
    rw [hv]
    clear hv hz
    go_enter Try.func118, Try.ntmps118
    go_wp2_with (first
      | (go_at_call 97; refine (frac_right _ _ _ _ _ (HR.out.alloc _)).mono ?_; rintro e w' ⟨rfl, n', rfl⟩)
      | (go_at_call 96; refine (frac_common _ _ _ _ _ hd HZ.out ((HR.out.alloc _).drewN _)).mono ?_; rintro e w' ⟨rfl, n', rfl⟩))
    go_ret
    exact ⟨rfl, below_drewN ((Below.refl _ _).alloc (Nat.le_refl _) _) _⟩

theorem frac_small1 (m : Int) (A : Option Addr) (n : Int) (c : Nat) (w : World) (hm : 0 ≤ m) (hm' : m ≤ 4611686018427387904) (hr : Rd w A c [n]) :
    Calls Try.prog 95 #[.int .i64 m, .slice A 1 c] w fun e w' => e = .returned (.bool (smallB m [n])) ∧ ∃ n, w' = w.drewN n := frac_small m A [n] c w hm hm' hr

theorem frac_MayPoint1 (A : Option Addr) (n : Int) (c : Nat) (d : Int) (w : World) (hr : Rd w A c [n]) :
    Calls Try.prog 118 #[.agg #[.slice A 1 c, .int .i64 d]] w fun e w' => e = .returned (.bool (mayB [n] d)) ∧ Below w.heap.size w w' := frac_MayPoint A [n] c d w hr

theorem frac_May (a b : Int) (w : World) :
    Calls Try.prog 82 #[.agg #[.int .i64 a, .int .i64 b]] w fun e w' => e = .returned (.bool (mayB [a] b)) ∧ Below w.heap.size w w' := by
  go_enter Try.func82, Try.ntmps82
  go_wp2_with (go_at_call 118; refine (frac_MayPoint1 _ _ _ _ _ (by exact Rd.new1 _ _ _ _ (by simp))).mono ?_; rintro e w' ⟨rfl, hb⟩)
  go_ret
  exact ⟨rfl, (((Below.refl _ _).alloc (Nat.le_refl _) _).alloc (by simp) _).trans (hb.mono (by simp; omega))⟩

/-- A point and an error are handed back; nothing that was there has turned. -/
def RetPt (w : World) (ns : List Int) (d er : Int) (e : Ending) (w' : World) : Prop :=
  ∃ A c, e = .returned (.tuple #[.agg #[.slice A ns.length c, .int .i64 d], .int .i64 er]) ∧ Rd w' A c ns ∧ Below w.heap.size w w' ∧ ∀ ad, A = some ad → w.heap.size ≤ ad.block

set_option maxHeartbeats 2000000 in
theorem frac_Point (A : Option Addr) (l : List Int) (c : Nat) (d : Int) (w : World) (hr : Rd w A c l) :
    Calls Try.prog 47 #[.slice A l.length c, .int .i64 d] w (RetPt w (ptN l d) (ptD l d) (ptE l d)) := by
  have HR := Lib.hid hr
  obtain ⟨hl, hc, hsm, _⟩ := hr
  by_cases h0 : d = 0
  · subst h0
    have HE := Lib.hid (show ptE l 0 = 3 by simp [ptE])
    go_enter Try.func47, Try.ntmps47
    go_wp2_with fail
    refine bodyPost_ret (v := .tuple #[.agg #[.slice none 0 0, .int .i64 0], .int .i64 3]) (by simp [results, Try.results47, go_sem]) rfl ?_
    refine ⟨none, 0, by simp [ptN, ptD, HE.out], by simp [ptN, HE.out, Rd.nil], (Below.refl _ _).alloc (Nat.le_refl _) _, fun ad e => by cases e⟩
  · have hd0 : (d == 0) = false := by simpa using h0
    cases h1 : smallB 4611686018427387904 l with
    | false =>
      have HE := Lib.hid (show ptE l d = 3 by simp [ptE, h1])
      go_enter Try.func47, Try.ntmps47
      go_wp2_with (first
       | (go_at_call 95; refine (frac_small _ _ _ _ _ (by omega) (by omega) (HR.out.alloc _)).mono ?_; rintro e w' ⟨rfl, n', rfl⟩))
      refine bodyPost_ret (v := .tuple #[.agg #[.slice none 0 0, .int .i64 0], .int .i64 3]) (by simp [results, Try.results47, go_sem]) rfl ?_
      refine ⟨none, 0, by simp [ptN, ptD, HE.out], by simp [ptN, HE.out, Rd.nil], (by (repeat (any_goals (first | exact Below.refl _ _ | refine below_drewN ?_ _ | refine Below.drew ?_ | refine Below.alloc ?_ ?_ _ | refine Below.setCell ?_ ?_ _))); all_goals (first | omega | (simp; done) | (simp; omega))), fun ad e => by cases e⟩
    | true =>
      cases h2 : smallB 4611686018427387904 [d] with
      | false =>
        have HE := Lib.hid (show ptE l d = 3 by simp [ptE, h2])
        go_enter Try.func47, Try.ntmps47
        go_wp2_with fail
        refine (frac_small _ _ _ _ _ (by omega) (by omega) (by exact HR.out.alloc _)).mono ?_
        rintro e w' ⟨rfl, n', rfl⟩
        go_wp2_with fail
        refine (frac_small1 _ _ _ _ _ (by omega) (by omega) (by exact Rd.new1 _ _ _ _ (by simp))).mono ?_
        rintro e w' ⟨rfl, n', rfl⟩
        go_wp2_with fail
        refine bodyPost_ret (v := .tuple #[.agg #[.slice none 0 0, .int .i64 0], .int .i64 3]) (by simp [results, Try.results47, go_sem]) rfl ?_
        refine ⟨none, 0, by simp [ptN, ptD, HE.out], by simp [ptN, HE.out, Rd.nil], (by (repeat (any_goals (first | exact Below.refl _ _ | refine below_drewN ?_ _ | refine Below.drew ?_ | refine Below.alloc ?_ ?_ _ | refine Below.setCell ?_ ?_ _))); all_goals (first | omega | (simp; done) | (simp; omega))), fun ad e => by cases e⟩
      | true =>
        have hb := h2
        rw [smallB_one] at hb
        simp at hb
        obtain ⟨hb1, hb2⟩ := hb
        have HZ := Lib.hid h1
        by_cases hn : d < 0
        all_goals
          go_enter Try.func47, Try.ntmps47
          go_wp2_with fail
          refine (frac_small _ _ _ _ _ (by omega) (by omega) (by exact HR.out.alloc _)).mono ?_
          rintro e w' ⟨rfl, n1, rfl⟩
          go_wp2_with fail
          refine (frac_small1 _ _ _ _ _ (by omega) (by omega) (by exact Rd.new1 _ _ _ _ (by simp))).mono ?_
          rintro e w' ⟨rfl, n2, rfl⟩
          go_wp2_with fail
          all_goals (try (exfalso; unfold wrap64 at *; omega))
          refine (frac_commonI _ _ _ _ _ (by omega) (by omega) (by assumption) (by exact (by repeat (first | exact HR.out | refine Rd.alloc ?_ _ | refine Rd.drewN ?_ _ | refine Rd.drew ?_ | refine Rd.setCell ?_ (by simp) _ | refine Rd.below ?_ (by assumption))))).mono ?_
          rintro e w' ⟨rfl, n3, rfl⟩
          have hg1 := comm_pos d.natAbs l (by omega)
          have hg2 := comm_le d.natAbs l (by omega)
          generalize hG : (Nat.cast (comm _ l) : Int) = G
          have hS : sgcd l d = (if d < 0 then -G else G) := by unfold sgcd; rw [← hG]; (try simp)
          have hg3 : 1 ≤ G := by rw [← hG]; first | omega | (rw [Int.natAbs_neg]; omega)
          have hg4 : G ≤ 4611686018427387904 := by rw [← hG]; first | omega | (rw [Int.natAbs_neg]; omega)
          clear hG hg1 hg2
          first | rw [if_pos hn] at hS | rw [if_neg (by omega)] at hS
          have HS := Lib.hid hS
          have hq := tdiv_bound 4611686018427387904 d G (by omega) (by omega)
          obtain ⟨hq1, hq2⟩ := hq
          clear hS h1
          go_wp2_with fail
          go_loopw [40] (fun i wr => ∃ (k : Nat) (v : Value), k ≤ l.length ∧ i = .int .i64 k ∧ Blk wr (w.heap.size + 1 + 1) 40 #[v, .int .i64 (d.tdiv (sgcd l d))] ∧
            wr.ownsRow (w.heap.size + 1 + 1 + 1) 2 1 v k ((divs (l.take k) (sgcd l d)).map (Value.int .i64)) ∧ Below w.heap.size w wr ∧ Blk wr w.heap.size 40 #[.slice none 0 0, .int .i64 0])
            (fun i _ => l.length - (intOf i).toNat)
          case atStart =>
            refine ⟨0, .slice none 0 0, by omega, rfl, ?_, World.ownsRow_nil _ _ _ _, (by (repeat (any_goals (first | exact Below.refl _ _ | refine below_drewN ?_ _ | refine Below.drew ?_ | refine Below.alloc ?_ ?_ _ | refine Below.setCell ?_ ?_ _))); all_goals (first | omega | (simp; done) | (simp; omega))), ?_⟩
            · rw [HS.out]; (try rw [Int.tdiv_neg]); exact Blk.new _ _ _ _ (by simp)
            · exact (((Blk.new w _ _ _ rfl).drewN _).alloc _).alloc _
          case round =>
            obtain ⟨k, v, hk, rfl, hB, hown, hbel, hRv⟩ := hrel
            obtain ⟨hq3, hq4⟩ := tdiv_bound 4611686018427387904 d G (by omega) (by omega)
            by_cases hlt : k < l.length
            · obtain ⟨ad, rfl, hc1⟩ := (HR.out.below hbel).at_ hlt
              have hp0 := hB.cell 0
              have hp1 := hB.cell 1
              have hpf := hB.frozen 0
              have hpl := hB.lt
              obtain ⟨hs1, hs2⟩ := smallB_at HZ.out hlt
              obtain ⟨hs3, hs4⟩ := tdiv_bound 4611686018427387904 l[k] G (by omega) (by omega)
              simp at hp0 hp1
              have HB := Lib.hid hB
              have HW := Lib.hid hown
              have HL := Lib.hid hbel
              have HV := Lib.hid hRv
              clear hB hown hbel hRv
              have hz : ¬ G = 0 := by omega
              have hw1 : IntKind.i64.wrap (-l[k].tdiv G) = -l[k].tdiv G := IntWalk.i64_in _ (by omega)
              have hw2 : IntKind.i64.wrap (l[k].tdiv G) = l[k].tdiv G := IntWalk.i64_in _ (by omega)
              go_wp2_with fail
              go_region_law (refine step_app1 rfl (.tmp 45) (.tmp 49) _ _ _ 8 und_i64s inf_i64 rfl rfl _ v k _ _ (by simp [Act.eval]) ((HW.out.drew).alloc _) _ 1 (by simp [Act.eval]) (cell_new1 _ _ _) rfl (by unfold maxLen; omega) (by omega) (by simp; omega) ?_; intro g cap w1 hown1 hg1 hat hlt1; have hB1 := ((HB.out.drew).alloc _).grown hg1 (own_ne HW.out (by omega)); have hq0 : w1.cell? ⟨w.heap.size + 1 + 1, 0, none⟩ = some v := hB1.cell 0; have hqf := hB1.frozen 0)
              all_goals
                have HB1 := Lib.hid hB1
                have HW1 := Lib.hid hown1
                have HG1 := Lib.hid hg1
                clear hB1 hown1 hg1 hq0 hqf
                go_wp2_with fail
                go_roundw
                case rel =>
                  have hb2 : Below w.heap.size w w1 := (((HL.out.drew).alloc (by have := HL.out.size; simp; omega) _).grown HG1.out (by have := HL.out.size; simp; omega) (own_ge HW.out (by omega)))
                  refine ⟨k + 1, _, by omega, by go_num, HB1.out.set0 0 _, ?_, hb2.setCell (by simp; omega) _, ?_⟩
                  · have he : (divs (l.take (k + 1)) (sgcd l d)).map (Value.int .i64) = (divs (l.take k) (sgcd l d)).map (Value.int .i64) ++ [Value.int .i64 (l[k].tdiv (sgcd l d))] := by
                      rw [divs_take hlt, List.map_append]; rfl
                    rw [he]
                    refine ownsRow_setCell_below ?_ (by simp) _
                    refine Eq.mp (congrArg (fun q : Int => w1.ownsRow (w.heap.size + 1 + 1 + 1) 2 1 (.slice (some ⟨g, 0, none⟩) (k + 1) cap) (k + 1) ((divs (l.take k) (sgcd l d)).map (Value.int .i64) ++ [Value.int .i64 q])) ?_) HW1.out
                    rw [HS.out]
                    try rw [Int.tdiv_neg]
                  · exact (((HV.out.drew).alloc _).grown HG1.out (own_ne HW.out (by omega))).far _ (by simp; omega)
                case measure => simp [intOf]; omega
            · obtain rfl : k = l.length := by omega
              rw [List.take_length] at hown
              obtain ⟨A', c', rfl, hRd, hA'⟩ := Rd.of_ownv hown (by rw [length_divs]) (by rw [length_divs]; exact hsm)
              have hp0 : wr.cell? ⟨w.heap.size + 1 + 1, 0, none⟩ = some (.slice A' (divs l (sgcd l d)).length c') := hB.cell 0
              have hp1 : wr.cell? ⟨w.heap.size + 1 + 1, 1, none⟩ = some (.int .i64 (d.tdiv (sgcd l d))) := hB.cell 1
              have hr0 : wr.cell? ⟨w.heap.size, 0, none⟩ = some (.slice none 0 0) := hRv.cell 0
              have hr1 : wr.cell? ⟨w.heap.size, 1, none⟩ = some (.int .i64 0) := hRv.cell 1
              have hrf0 := hRv.frozen 0
              have hrf1 := hRv.frozen 1
              have HL := Lib.hid hbel
              have HRd := Lib.hid hRd
              have HA := Lib.hid hA'
              clear hB hown hbel hRv hRd hA'
              cases hrb : rightB (divs l (sgcd l d)) (d.tdiv (sgcd l d)) with
              | true =>
                have HE := Lib.hid (show ptE l d = 0 by unfold ptE; rw [if_neg (by simp [h0, HZ.out, h2]), if_pos hrb])
                go_wp2_with fail
                refine (frac_right _ _ _ _ _ HRd.out).mono ?_
                rintro e w' ⟨rfl, n4, rfl⟩
                rw [hrb]
                go_wp2_with fail
                refine bodyPost_ret (v := .tuple #[.agg #[.slice A' (divs l (sgcd l d)).length c', .int .i64 (d.tdiv (sgcd l d))], .int .i64 0]) (by simp [results, Try.results47, go_sem, hr0, hr1]) rfl ?_
                unfold RetPt ptN ptD
                rw [HE.out, if_pos rfl, if_pos rfl]
                refine ⟨A', c', rfl, ?_, (by (repeat (any_goals (first | exact Below.refl _ _ | exact HL.out | refine below_drewN ?_ _ | refine Below.drew ?_ | refine Below.alloc ?_ ?_ _ | refine Below.setCell ?_ ?_ _ | refine Below.trans ?_ (Below.mono HL.out ?_)))); all_goals (first | omega | (simp; done) | (simp; omega) | ((try have z0 := HL.out.size); (try simp at z0); (try simp); omega))), fun ad e => by have := HA.out ad e; omega⟩
                exact ((HRd.out.drewN _).setCell_out _ _ (fun ad e => by have := HA.out ad e; simp; omega)).setCell_out _ _ (fun ad e => by have := HA.out ad e; simp; omega)
              | false =>
                have HE := Lib.hid (show ptE l d = 1 by unfold ptE; rw [if_neg (by simp [h0, HZ.out, h2]), if_neg (by simp [hrb])])
                go_wp2_with fail
                refine (frac_right _ _ _ _ _ HRd.out).mono ?_
                rintro e w' ⟨rfl, n4, rfl⟩
                rw [hrb]
                go_wp2_with fail
                refine bodyPost_ret (v := .tuple #[.agg #[.slice none 0 0, .int .i64 0], .int .i64 1]) (by simp [results, Try.results47, go_sem, hr0, hr1]) rfl ?_
                unfold RetPt ptN ptD
                rw [HE.out, if_neg (by omega), if_neg (by omega)]
                refine ⟨none, 0, rfl, Rd.nil _, (by (repeat (any_goals (first | exact Below.refl _ _ | exact HL.out | refine below_drewN ?_ _ | refine Below.drew ?_ | refine Below.alloc ?_ ?_ _ | refine Below.setCell ?_ ?_ _ | refine Below.trans ?_ (Below.mono HL.out ?_)))); all_goals (first | omega | (simp; done) | (simp; omega) | ((try have z0 := HL.out.size); (try simp at z0); (try simp); omega))), fun ad e => by cases e⟩
end Go.Proofs.Ytjcdkbalhleeeab
