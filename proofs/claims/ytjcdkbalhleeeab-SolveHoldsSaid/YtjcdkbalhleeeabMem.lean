/-
  Words for memory that all walks of this seat use: a slice of whole numbers that reads as a list. No condition.
-/
import Derived.Test.YtjcdkbalhleeeabChecked
import Derived.WalkKit
import Derived.Below
import Derived.Lib.Hide
import Derived.RegionTactic
import Derived.BigRegion
import Derived.Deep.QuietTactic
import Derived.BigQuiet
import Derived.Deep.RegionHeld3
import Derived.Deep.Draws
import Derived.Outline
import Derived.OwnWalk
import Derived.KernelRfl
import Derived.Deep.AppendLies
import Derived.Deep.RegionLaw
import Derived.StillTailTactics
namespace Go.Proofs.Ytjcdkbalhleeeab
open Go.RowKit

theorem ret_bool {a b : Bool} (h : a = b) : Ending.returned (.bool a) = .returned (.bool b) := by rw [h]
theorem ret_int {k : IntKind} {a b : Int} (h : a = b) : Ending.returned (.int k a) = .returned (.int k b) := by rw [h]
theorem ret_val {a b : Value} (h : a = b) : Ending.returned a = .returned b := by rw [h]

/-- The cells from an address on hold these values. -/
def Cells (w : World) (A : Option Addr) (l : List Value) : Prop :=
  0 < l.length → ∃ ad, A = some ad ∧ ∀ (j : Nat) (u : Value), l[j]? = some u → w.cell? (ad.add j) = some u

theorem block_add (a : Addr) (n : Nat) : (a.add n).block = a.block := by unfold Addr.add; split <;> rfl

section
variable {w w' : World} {A : Option Addr} {l : List Value}
theorem Cells.keep (h : Cells w A l) (hk : ∀ p : Addr, p.block < w.heap.size → w'.cell? p = w.cell? p) : Cells w' A l := fun hl => by
  obtain ⟨ad, e, hc⟩ := h hl
  exact ⟨ad, e, fun j u hu => (hk _ (World.block_lt_of_cell? w _ (hc j u hu))).trans (hc j u hu)⟩
theorem Cells.below {B : Nat} (h : Cells w A l) (hb : Below B w w') (hB : B = w.heap.size) : Cells w' A l := h.keep fun _ hp => hb.cell (by omega)
theorem Cells.at_ (h : Cells w A l) {k : Nat} (hk : k < l.length) : ∃ ad, A = some ad ∧ w.cell? (ad.add k) = some l[k] := by
  obtain ⟨ad, e, hc⟩ := h (by omega)
  exact ⟨ad, e, hc k _ (List.getElem?_eq_getElem hk)⟩
end

/-- A slice of 64-bit whole numbers reads as a list. -/
structure Rd (w : World) (A : Option Addr) (c : Nat) (l : List Int) : Prop where
  le : l.length ≤ c
  cap : c ≤ 9223372036854775807
  small : l.length ≤ 17592186044416
  cells : Cells w A (l.map (Value.int .i64))

section
variable {w w' : World} {A : Option Addr} {c : Nat} {l : List Int}
theorem Rd.keep (h : Rd w A c l) (hk : ∀ p : Addr, p.block < w.heap.size → w'.cell? p = w.cell? p) : Rd w' A c l := ⟨h.le, h.cap, h.small, h.cells.keep hk⟩
theorem Rd.below (h : Rd w A c l) (hb : Below w.heap.size w w') : Rd w' A c l := h.keep fun _ hp => hb.cell hp
theorem Rd.hop {w1 : World} (h : Rd w A c l) (hl : Below w.heap.size w w1) (hb : Below w1.heap.size w1 w') : Rd w' A c l := (h.below hl).below hb
theorem Rd.drewN (h : Rd w A c l) (n : Nat) : Rd (w.drewN n) A c l := h.keep fun _ _ => rfl
theorem Rd.drew (h : Rd w A c l) : Rd w.drew A c l := h.keep fun _ _ => rfl
theorem Rd.alloc (h : Rd w A c l) (o : Obj) : Rd (w.alloc o) A c l := h.below ((Below.refl _ w).alloc (Nat.le_refl _) o)
theorem Rd.setCell_out (h : Rd w A c l) (p : Addr) (u : Value) (hp : ∀ ad, A = some ad → ad.block ≠ p.block) : Rd (w.setCell p u) A c l :=
  ⟨h.le, h.cap, h.small, fun hl => by
    obtain ⟨ad, e, hc⟩ := h.cells hl
    exact ⟨ad, e, fun j u hu => (World.cell?_setCell_other w p _ _ (fun e' => hp ad e (by rw [← block_add ad j, e']))).trans (hc j u hu)⟩⟩
theorem Rd.at_ (h : Rd w A c l) {k : Nat} (hk : k < l.length) : ∃ ad, A = some ad ∧ w.cell? (ad.add k) = some (.int .i64 l[k]) := by
  obtain ⟨ad, e, hc⟩ := h.cells.at_ (k := k) (by simpa using hk)
  exact ⟨ad, e, by simpa using hc⟩
theorem Rd.of_own {base : Nat} {e : TypeId} (h : w.ownsRow base e 1 (.slice A l.length c) l.length (l.map (Value.int .i64))) (hs : l.length ≤ 17592186044416) : Rd w A c l := by
  rcases h.2 with ⟨hv, hn⟩ | ⟨g, cap, cur, hv, hb, hg, hnc, hcm, hcs, htake⟩
  · injection hv with h1 h2 h3
    subst h3
    exact ⟨by omega, by omega, hs, fun hl => by simp at hl; omega⟩
  · injection hv with h1 h2 h3
    subst h3 h1
    exact ⟨hnc, by unfold maxLen at hcm; omega, hs, fun _ => ⟨_, rfl, h.cells (g := g) rfl⟩⟩
theorem Rd.of_ownv {base : Nat} {e : TypeId} {v : Value} {n : Nat} (h : w.ownsRow base e 1 v n (l.map (Value.int .i64))) (hn : n = l.length) (hs : l.length ≤ 17592186044416) :
    ∃ A c, v = .slice A l.length c ∧ Rd w A c l ∧ ∀ ad, A = some ad → base ≤ ad.block := by
  subst hn
  have h' := h
  rcases h.2 with ⟨rfl, hn⟩ | ⟨g, cap, cur, rfl, hb, _⟩
  · refine ⟨none, 0, by rw [hn], ?_, by simp⟩
    have : l = [] := List.eq_nil_of_length_eq_zero hn
    subst this
    exact ⟨by simp, by omega, by simp, fun h => by simp at h⟩
  · exact ⟨_, _, rfl, Rd.of_own h' hs, fun ad e => by cases e; exact hb⟩
theorem Rd.new (w : World) (t : TypeId) (l : List Int) (b : Nat) (hb : b = w.heap.size) (hs : l.length ≤ 17592186044416) : Rd (w.alloc (.cells (l.map (Value.int .i64)).toArray t)) (some ⟨b, 0, none⟩) l.length l := by
  subst hb
  refine ⟨Nat.le_refl _, by omega, hs, fun _ => ⟨_, rfl, fun j u hu => ?_⟩⟩
  have e : (⟨w.heap.size, 0, none⟩ : Addr).add j = ⟨w.heap.size, j, none⟩ := by unfold Addr.add; split <;> simp_all
  rw [e, cell_of_row _ w.heap.size j _ t (0, 0) (heap_alloc_new w _)]
  simpa using hu
theorem Rd.new1 (w : World) (t : TypeId) (n : Int) (b : Nat) (hb : b = w.heap.size) : Rd (w.alloc (.cells #[.int .i64 n] t)) (some ⟨b, 0, none⟩) 1 [n] := Rd.new w t [n] b hb (by simp)
theorem Rd.nil (w : World) : Rd w none 0 [] := ⟨by simp, by omega, by simp, fun h => by simp at h⟩
end

theorem size_drewN' (w : World) (n : Nat) : (w.drewN n).heap.size = w.heap.size := rfl
/-- Block g holds just these cells, all of which may be written. -/
def Blk (w : World) (g : Nat) (t : TypeId) (cs : Array Value) : Prop := w.heap[g]? = some (.cells cs t (0, 0))
section
variable {w w' : World} {g : Nat} {t : TypeId} {cs : Array Value}
theorem Blk.lt (h : Blk w g t cs) : g < w.heap.size := (Array.getElem?_eq_some_iff.1 h).1
theorem Blk.cell (h : Blk w g t cs) (i : Nat) : w.cell? ⟨g, i, none⟩ = cs[i]? := cell_of_row w g i cs t (0, 0) h
theorem Blk.frozen (h : Blk w g t cs) (i : Nat) : w.frozen? ⟨g, i, none⟩ = false := by unfold Blk at h; simp [World.frozen?, h]
theorem Blk.new (w : World) (t : TypeId) (cs : Array Value) (g : Nat) (hg : g = w.heap.size) : Blk (w.alloc (.cells cs t)) g t cs := by subst hg; exact heap_alloc_new w _
theorem Blk.drewN (h : Blk w g t cs) (n : Nat) : Blk (w.drewN n) g t cs := h
theorem Blk.drew (h : Blk w g t cs) : Blk w.drew g t cs := h
theorem Blk.alloc (h : Blk w g t cs) (o : Obj) : Blk (w.alloc o) g t cs := (Below.heap_alloc w o g h.lt).trans h
theorem Blk.set0 (h : Blk w g t cs) (i : Nat) (u : Value) : Blk (w.setCell ⟨g, i, none⟩ u) g t (cs.setIfInBounds i u) := by
  unfold Blk at h ⊢
  simp [World.setCell, Array.getElem?_modify, h]
theorem Blk.far (h : Blk w g t cs) {p : Addr} (u : Value) (hp : g ≠ p.block) : Blk (w.setCell p u) g t cs := (Below.heap_setCell w p u g hp).trans h
theorem Blk.below {B : Nat} (h : Blk w g t cs) (hb : Below B w w') (hg : g < B) : Blk w' g t cs := (hb.block g hg).trans h
theorem Blk.next (h : Blk w g t cs) (hb : Below w.heap.size w w') : Blk w' g t cs := h.below hb h.lt
theorem Blk.mk' (w : World) (t : TypeId) (cs : Array Value) : Blk (w.alloc (.cells cs t)) w.heap.size t cs := heap_alloc_new w _
theorem Blk.hop {w1 : World} (h : Blk w g t cs) (hl : Below w.heap.size w w1) (hb : Below w1.heap.size w1 w') : Blk w' g t cs := (h.next hl).next hb
theorem Blk.at_ (h : Blk w g t cs) {g' : Nat} (e : g = g') : Blk w g' t cs := e ▸ h
theorem Blk.grown {row : Option Nat} (h : Blk w g t cs) (hb : w.grownBy w' row) (hg : some g ≠ row) : Blk w' g t cs := (hb.block g h.lt hg).trans h
end

/-- A quiet call in a world that has been drawn from before. -/
theorem quiet_more {P : Program} {f : FuncId} {args : Array Value} {w : World} {a n : Nat} {v : Value}
    (h : Calls P f args (w.drewN (a + n)) fun e w' => e = .returned v ∧ ∃ m, w' = (w.drewN (a + n)).drewN m) :
    Calls P f args (w.drewN (a + n)) fun e w'' => e = .returned v ∧ ∃ m, w'' = w.drewN (a + m) :=
  h.mono fun _ _ ⟨he, m, hm⟩ => ⟨he, n + m, by rw [hm, World.drewN_drewN, Nat.add_assoc]⟩

/-- What the caller of a function that makes memory alone knows of all old cells. -/
theorem bcell {W w1 : World} (hb : Below W.heap.size W w1) :
    (∀ b o, b < W.heap.size → w1.cell? ⟨b, o, none⟩ = W.cell? ⟨b, o, none⟩) ∧ (∀ b o, b < W.heap.size → w1.frozen? ⟨b, o, none⟩ = W.frozen? ⟨b, o, none⟩) :=
  ⟨fun b o h => hb.cell (p := ⟨b, o, none⟩) h, fun b o h => hb.frozen (p := ⟨b, o, none⟩) h⟩
theorem below_drewN {B : Nat} {a w : World} (h : Below B a w) (n : Nat) : Below B a (w.drewN n) := ⟨h.os, h.tape, h.output, h.size, h.block⟩

/-! A region that draws its order, whose operations read and call functions that make memory alone: one walk of the text's order. -/
/-- The worlds in which below W's heap nothing has turned. -/
def Wk (W : World) : Type := { u : World // Below W.heap.size W u }
instance wkNonempty (W : World) : Nonempty (Wk W) := ⟨⟨W, Below.refl _ _⟩⟩
theorem wk_region {P : Program} {id : Nat} {Q : Exit → Act → World → Prop} {a : Act} {W : World} {l : List Oper} (hm : P.follows .mixedOrders = true) (hB : Region.lexB .any l.toArray = true)
    (h : wpQuiet P l.toArray (fun w' => ∃ u : Wk W, w' = u.1) (fun a' => ∀ w', (∃ u : Wk W, w' = u.1) → Q .normal a' w') l a) : (Code.region id l.toArray true).wp P Q a W :=
  wp_region_quiet (C := fun w' => ∃ u : Wk W, w' = u.1) hm hB ⟨⟨W.drew, (Below.refl _ _).drew⟩, rfl⟩ (by simpa using h)
theorem wk_call {P : Program} {f : FuncId} {args : Array Value} {W : World} {u : Wk W} {v : Value}
    (h : Calls P f args u.1 fun e w' => e = .returned v ∧ Below u.1.heap.size u.1 w') : Calls P f args u.1 fun e w'' => e = .returned v ∧ ∃ u' : Wk W, w'' = u'.1 :=
  h.mono fun _ w'' ⟨he, hb⟩ => ⟨he, ⟨w'', u.2.trans (hb.mono u.2.size)⟩, rfl⟩
theorem wk_quiet {P : Program} {f : FuncId} {args : Array Value} {W : World} {u : Wk W} {v : Value}
    (h : Calls P f args u.1 fun e w' => e = .returned v ∧ ∃ n, w' = u.1.drewN n) : Calls P f args u.1 fun e w'' => e = .returned v ∧ ∃ u' : Wk W, w'' = u'.1 :=
  h.mono fun _ w'' ⟨he, n, hn⟩ => ⟨he, ⟨w'', hn ▸ below_drewN u.2 n⟩, rfl⟩

/-! One new element of one cell behind a slice of the call's own. -/
section
variable {ops : Array Oper} {rest : List Oper} {o : Oper} {a : Act} {w : World} {Q : Exit → Act → World → Prop}
theorem news1 {b : Nat} {u : Value} (hb : w.cell? ⟨b, 0, none⟩ = some u) : ∀ (j : Nat) (x : Value), [u][j]? = some x → w.cell? ((⟨b, 0, none⟩ : Addr).add j) = some x := by
  intro j x hx
  cases j with
  | zero => simp at hx; subst hx; simpa [Addr.add] using hb
  | succ j => simp at hx
theorem own_ne {w : World} {base g : Nat} {e : TypeId} {size n : Nat} {v : Value} {xs : List Value} (h : w.ownsRow base e size v n xs) (hg : g < base) : some g ≠ v.ownBlock :=
  fun e' => by have := (h.lt g e'.symm).1; omega
theorem own_ge {w : World} {base B : Nat} {e : TypeId} {size n : Nat} {v : Value} {xs : List Value} (h : w.ownsRow base e size v n xs) (hB : B ≤ base) : ∀ k, v.ownBlock = some k → B ≤ k :=
  fun k e' => by have := (h.lt k e').1; omega
theorem own_below {w w' : World} {base : Nat} {e : TypeId} {size n : Nat} {v : Value} {xs : List Value} (h : w.ownsRow base e size v n xs) (hb : Below w.heap.size w w') : w'.ownsRow base e size v n xs :=
  h.kept (row := none) ⟨hb.os, hb.tape, hb.output, hb.size, fun i hi _ => hb.block i hi⟩ (by cases hv : v.ownBlock <;> simp)
theorem own_drewN {w : World} {base : Nat} {e : TypeId} {size n : Nat} {v : Value} {xs : List Value} (h : w.ownsRow base e size v n xs) (k : Nat) : (w.drewN k).ownsRow base e size v n xs := h
theorem cell_new1 (w : World) (u : Value) (t : TypeId) : (w.alloc (.cells #[u] t)).cell? ⟨w.heap.size, 0, none⟩ = some u := by
  rw [cell_of_row _ w.heap.size 0 _ t (0, 0) (heap_alloc_new w _)]; rfl
theorem cell_new1b (w : World) (u : Value) (t : TypeId) (b : Nat) (hb : b = w.heap.size) : (w.alloc (.cells #[u] t)).cell? ⟨b, 0, none⟩ = some u := by subst hb; exact cell_new1 w u t
theorem step_app1 {K : Act → World → Prop} {E' : Prop} (hgd : o.guard = none) (s x : Operand) (T E : TypeId) (z : Value) (bytes : Nat) (hT : Try.prog.underlying T = some (.slice E))
    (hI : (Try.prog.info? E).map (fun i => (i.zero, i.size, i.bytes)) = some (some z, 1, bytes)) (hz : z.cells.size = 1)
    (ho : o.op = .call { callee := .builtin .append, args := #[s, x], argTypes := #[T, T] })
    (base : Nat) (v : Value) (n : Nat) (xs : List Value) (u : Value) (hs : a.eval s = v) (hown : w.ownsRow base E 1 v n xs)
    (b c : Nat) (hx : a.eval x = .slice (some ⟨b, 0, none⟩) 1 c) (hb : w.cell? ⟨b, 0, none⟩ = some u) (hu : u.oneCell' = true)
    (h63 : n + 1 ≤ maxLen) (hbytes : (n + 1) * bytes ≤ 140737488355328) (hbase : base ≤ w.heap.size)
    (h : ∀ g cap w', w'.ownsRow base E 1 (.slice (some ⟨g, 0, none⟩) (n + 1) cap) (n + 1) (xs ++ [u]) → w.grownBy w' v.ownBlock → (v.ownBlock = some g ∨ g = w.heap.size) → g < w'.heap.size → K (a.put o.dst (.slice (some ⟨g, 0, none⟩) (n + 1) cap)) w') :
    if Region.wanted o (yielded ops a.tmps) = true then Oper.wp Try.prog o a w K Q else E' := by
  obtain ⟨i, hi, hz0, hz1, hz2⟩ := info_parts hI
  exact step_append_lies w hgd s x T ho base E i z 1 bytes hT hi hz0 hz1 hz2 hz (by omega) v n xs hs hown _ 1 c [u] hx rfl (news1 hb) (by simpa using hu) (by omega) h63 hbytes hbase _ rfl h
theorem list_app1 (hgd : o.guard = none) (s x : Operand) (T E : TypeId) (z : Value) (bytes : Nat) (hT : Try.prog.underlying T = some (.slice E))
    (hI : (Try.prog.info? E).map (fun i => (i.zero, i.size, i.bytes)) = some (some z, 1, bytes)) (hz : z.cells.size = 1)
    (ho : o.op = .call { callee := .builtin .append, args := #[s, x], argTypes := #[T, T] })
    (base : Nat) (v : Value) (n : Nat) (xs : List Value) (u : Value) (hs : a.eval s = v) (hown : w.ownsRow base E 1 v n xs)
    (b c : Nat) (hx : a.eval x = .slice (some ⟨b, 0, none⟩) 1 c) (hb : w.cell? ⟨b, 0, none⟩ = some u) (hu : u.oneCell' = true)
    (h63 : n + 1 ≤ maxLen) (hbytes : (n + 1) * bytes ≤ 140737488355328) (hbase : base ≤ w.heap.size)
    (h : ∀ g cap w', w'.ownsRow base E 1 (.slice (some ⟨g, 0, none⟩) (n + 1) cap) (n + 1) (xs ++ [u]) → w.grownBy w' v.ownBlock → (v.ownBlock = some g ∨ g = w.heap.size) → g < w'.heap.size → wpList Try.prog ops Q rest (a.put o.dst (.slice (some ⟨g, 0, none⟩) (n + 1) cap)) w') :
    wpList Try.prog ops Q (o :: rest) a w := by
  obtain ⟨i, hi, hz0, hz1, hz2⟩ := info_parts hI
  exact wpList_append_lies w hgd s x T ho base E i z 1 bytes hT hi hz0 hz1 hz2 hz (by omega) v n xs hs hown _ 1 c [u] hx rfl (news1 hb) (by simpa using hu) (by omega) h63 hbytes hbase _ rfl h
end
theorem und_i64s : Try.prog.underlying 22 = some (.slice 2) := by kernel_rfl
theorem inf_i64 : (Try.prog.info? 2).map (fun i => (i.zero, i.size, i.bytes)) = some (some (.int .i64 0), 1, 8) := by kernel_rfl
end Go.Proofs.Ytjcdkbalhleeeab
