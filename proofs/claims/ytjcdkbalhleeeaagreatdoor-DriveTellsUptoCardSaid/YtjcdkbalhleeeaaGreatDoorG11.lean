/-
  Contracts of functions and plain laws that later parts of the proof use. The conditions stand in each theorem.
-/
import Derived.Test.YtjcdkbalhleeeaaGreatDoorChecked
import Derived.WalkKit
import Derived.Below
import Derived.Lib.Hide
import Derived.RegionTactic
import Derived.BigRegion
import Derived.Deep.QuietTactic
import Derived.BigQuiet
import Derived.Deep.RegionHeld3
import Derived.Deep.Draws
import Derived.Outline
import Derived.OwnWalk
import Derived.KernelRfl
import Derived.Deep.AppendLies
import Derived.Deep.RegionLaw
import Derived.StillTailTactics
import Derived.Test.YtjcdkbalhleeeaaGreatDoorG06
import Derived.Test.YtjcdkbalhleeeaaGreatDoorG01
namespace Go.Proofs.YtjcdkbalhleeeaaGreatDoor
open Go.RowKit
theorem ret_bool {a b : Bool} (h : a = b) : Ending.returned (.bool a) = .returned (.bool b) := by rw [h]
theorem ret_int {k : IntKind} {a b : Int} (h : a = b) : Ending.returned (.int k a) = .returned (.int k b) := by rw [h]
def Cells (w : World) (A : Option Addr) (l : List Value) : Prop :=
 0 < l.length → ∃ ad, A = some ad ∧ ∀ (j : Nat) (u : Value), l[j]? = some u → w.cell? (ad.add j) = some u
theorem block_add (a : Addr) (n : Nat) : (a.add n).block = a.block := by unfold Addr.add; split <;> rfl
section
variable {w w' : World} {A : Option Addr} {l : List Value}
theorem Cells.keep (h : Cells w A l) (hk : ∀ p : Addr, p.block < w.heap.size → w'.cell? p = w.cell? p) : Cells w' A l := fun hl => by
 obtain ⟨ad, e, hc⟩ := h hl
 exact ⟨ad, e, fun j u hu => (hk _ (World.block_lt_of_cell? w _ (hc j u hu))).trans (hc j u hu)⟩
theorem Cells.at_ (h : Cells w A l) {k : Nat} (hk : k < l.length) : ∃ ad, A = some ad ∧ w.cell? (ad.add k) = some l[k] := by
 obtain ⟨ad, e, hc⟩ := h (by omega)
 exact ⟨ad, e, hc k _ (List.getElem?_eq_getElem hk)⟩
end
structure Rd (w : World) (A : Option Addr) (c : Nat) (l : List Int) : Prop where
 le : l.length ≤ c
 cap : c ≤ 9223372036854775807
 small : l.length ≤ 17592186044416
 cells : Cells w A (l.map (Value.int .i64))
section
variable {w w' : World} {A : Option Addr} {c : Nat} {l : List Int}
theorem Rd.keep (h : Rd w A c l) (hk : ∀ p : Addr, p.block < w.heap.size → w'.cell? p = w.cell? p) : Rd w' A c l := ⟨h.le, h.cap, h.small, h.cells.keep hk⟩
theorem Rd.below (h : Rd w A c l) (hb : Below w.heap.size w w') : Rd w' A c l := h.keep fun _ hp => hb.cell hp
theorem Rd.hop {w1 : World} (h : Rd w A c l) (hl : Below w.heap.size w w1) (hb : Below w1.heap.size w1 w') : Rd w' A c l := (h.below hl).below hb
theorem Rd.drewN (h : Rd w A c l) (n : Nat) : Rd (w.drewN n) A c l := h.keep fun _ _ => rfl
theorem Rd.drew (h : Rd w A c l) : Rd w.drew A c l := h.keep fun _ _ => rfl
theorem Rd.alloc (h : Rd w A c l) (o : Obj) : Rd (w.alloc o) A c l := h.below ((Below.refl _ w).alloc (Nat.le_refl _) o)
theorem Rd.setCell_out (h : Rd w A c l) (p : Addr) (u : Value) (hp : ∀ ad, A = some ad → ad.block ≠ p.block) : Rd (w.setCell p u) A c l :=
 ⟨h.le, h.cap, h.small, fun hl => by
  obtain ⟨ad, e, hc⟩ := h.cells hl
  exact ⟨ad, e, fun j u hu => (World.cell?_setCell_other w p _ _ (fun e' => hp ad e (by rw [← block_add ad j, e']))).trans (hc j u hu)⟩⟩
theorem Rd.at_ (h : Rd w A c l) {k : Nat} (hk : k < l.length) : ∃ ad, A = some ad ∧ w.cell? (ad.add k) = some (.int .i64 l[k]) := by
 obtain ⟨ad, e, hc⟩ := h.cells.at_ (k := k) (by simpa using hk)
 exact ⟨ad, e, by simpa using hc⟩
theorem Rd.of_own {base : Nat} {e : TypeId} (h : w.ownsRow base e 1 (.slice A l.length c) l.length (l.map (Value.int .i64))) (hs : l.length ≤ 17592186044416) : Rd w A c l := by
 rcases h.2 with ⟨hv, hn⟩ | ⟨g, cap, cur, hv, hb, hg, hnc, hcm, hcs, htake⟩
 ·injection hv with h1 h2 h3
  subst h3
  exact ⟨by omega, by omega, hs, fun hl => by simp at hl; omega⟩
 ·injection hv with h1 h2 h3
  subst h3 h1
  exact ⟨hnc, by unfold maxLen at hcm; omega, hs, fun _ => ⟨_, rfl, h.cells (g := g) rfl⟩⟩
theorem Rd.of_ownv {base : Nat} {e : TypeId} {v : Value} {n : Nat} (h : w.ownsRow base e 1 v n (l.map (Value.int .i64))) (hn : n = l.length) (hs : l.length ≤ 17592186044416) :
    ∃ A c, v = .slice A l.length c ∧ Rd w A c l ∧ ∀ ad, A = some ad → base ≤ ad.block := by
 subst hn
 have h' := h
 rcases h.2 with ⟨rfl, hn⟩ | ⟨g, cap, cur, rfl, hb, _⟩
 ·refine ⟨none, 0, by rw [hn], ?_, by simp⟩
  have : l = [] := List.eq_nil_of_length_eq_zero hn
  subst this
  exact ⟨by simp, by omega, by simp, fun h => by simp at h⟩
 ·exact ⟨_, _, rfl, Rd.of_own h' hs, fun ad e => by cases e; exact hb⟩
theorem Rd.new (w : World) (t : TypeId) (l : List Int) (b : Nat) (hb : b = w.heap.size) (hs : l.length ≤ 17592186044416) : Rd (w.alloc (.cells (l.map (Value.int .i64)).toArray t)) (some ⟨b, 0, none⟩) l.length l := by
 subst hb
 refine ⟨Nat.le_refl _, by omega, hs, fun _ => ⟨_, rfl, fun j u hu => ?_⟩⟩
 have e : (⟨w.heap.size, 0, none⟩ : Addr).add j = ⟨w.heap.size, j, none⟩ := by unfold Addr.add; split <;> simp_all
 rw [e, cell_of_row _ w.heap.size j _ t (0, 0) (heap_alloc_new w _)]
 simpa using hu
theorem Rd.new1 (w : World) (t : TypeId) (n : Int) (b : Nat) (hb : b = w.heap.size) : Rd (w.alloc (.cells #[.int .i64 n] t)) (some ⟨b, 0, none⟩) 1 [n] := Rd.new w t [n] b hb (by simp)
theorem Rd.nil (w : World) : Rd w none 0 [] := ⟨by simp, by omega, by simp, fun h => by simp at h⟩
end
theorem size_drewN' (w : World) (n : Nat) : (w.drewN n).heap.size = w.heap.size := rfl
def Blk (w : World) (g : Nat) (t : TypeId) (cs : Array Value) : Prop := w.heap[g]? = some (.cells cs t (0, 0))
section
variable {w w' : World} {g : Nat} {t : TypeId} {cs : Array Value}
theorem Blk.lt (h : Blk w g t cs) : g < w.heap.size := (Array.getElem?_eq_some_iff.1 h).1
theorem Blk.cell (h : Blk w g t cs) (i : Nat) : w.cell? ⟨g, i, none⟩ = cs[i]? := cell_of_row w g i cs t (0, 0) h
theorem Blk.frozen (h : Blk w g t cs) (i : Nat) : w.frozen? ⟨g, i, none⟩ = false := by unfold Blk at h; simp [World.frozen?, h]
theorem Blk.new (w : World) (t : TypeId) (cs : Array Value) (g : Nat) (hg : g = w.heap.size) : Blk (w.alloc (.cells cs t)) g t cs := by subst hg; exact heap_alloc_new w _
theorem Blk.drewN (h : Blk w g t cs) (n : Nat) : Blk (w.drewN n) g t cs := h
theorem Blk.drew (h : Blk w g t cs) : Blk w.drew g t cs := h
theorem Blk.alloc (h : Blk w g t cs) (o : Obj) : Blk (w.alloc o) g t cs := (Below.heap_alloc w o g h.lt).trans h
theorem Blk.set0 (h : Blk w g t cs) (i : Nat) (u : Value) : Blk (w.setCell ⟨g, i, none⟩ u) g t (cs.setIfInBounds i u) := by
 unfold Blk at h ⊢
 simp [World.setCell, Array.getElem?_modify, h]
theorem Blk.far (h : Blk w g t cs) {p : Addr} (u : Value) (hp : g ≠ p.block) : Blk (w.setCell p u) g t cs := (Below.heap_setCell w p u g hp).trans h
theorem Blk.below {B : Nat} (h : Blk w g t cs) (hb : Below B w w') (hg : g < B) : Blk w' g t cs := (hb.block g hg).trans h
theorem Blk.next (h : Blk w g t cs) (hb : Below w.heap.size w w') : Blk w' g t cs := h.below hb h.lt
theorem Blk.mk' (w : World) (t : TypeId) (cs : Array Value) : Blk (w.alloc (.cells cs t)) w.heap.size t cs := heap_alloc_new w _
theorem Blk.hop {w1 : World} (h : Blk w g t cs) (hl : Below w.heap.size w w1) (hb : Below w1.heap.size w1 w') : Blk w' g t cs := (h.next hl).next hb
theorem Blk.at_ (h : Blk w g t cs) {g' : Nat} (e : g = g') : Blk w g' t cs := e ▸ h
theorem Blk.grown {row : Option Nat} (h : Blk w g t cs) (hb : w.grownBy w' row) (hg : some g ≠ row) : Blk w' g t cs := (hb.block g h.lt hg).trans h
end
theorem below_drewN {B : Nat} {a w : World} (h : Below B a w) (n : Nat) : Below B a (w.drewN n) := ⟨h.os, h.tape, h.output, h.size, h.block⟩
def Wk (W : World) : Type := { u : World // Below W.heap.size W u }
instance wkNonempty (W : World) : Nonempty (Wk W) := ⟨⟨W, Below.refl _ _⟩⟩
theorem wk_region {P : Program} {id : Nat} {Q : Exit → Act → World → Prop} {a : Act} {W : World} {l : List Oper} (hm : P.follows .mixedOrders = true) (hB : Region.lexB .any l.toArray = true)
    (h : wpQuiet P l.toArray (fun w' => ∃ u : Wk W, w' = u.1) (fun a' => ∀ w', (∃ u : Wk W, w' = u.1) → Q .normal a' w') l a) : (Code.region id l.toArray true).wp P Q a W :=
 wp_region_quiet (C := fun w' => ∃ u : Wk W, w' = u.1) hm hB ⟨⟨W.drew, (Below.refl _ _).drew⟩, rfl⟩ (by simpa using h)
theorem wk_call {P : Program} {f : FuncId} {args : Array Value} {W : World} {u : Wk W} {v : Value}
    (h : Calls P f args u.1 fun e w' => e = .returned v ∧ Below u.1.heap.size u.1 w') : Calls P f args u.1 fun e w'' => e = .returned v ∧ ∃ u' : Wk W, w'' = u'.1 :=
 h.mono fun _ w'' ⟨he, hb⟩ => ⟨he, ⟨w'', u.2.trans (hb.mono u.2.size)⟩, rfl⟩
theorem wk_quiet {P : Program} {f : FuncId} {args : Array Value} {W : World} {u : Wk W} {v : Value}
    (h : Calls P f args u.1 fun e w' => e = .returned v ∧ ∃ n, w' = u.1.drewN n) : Calls P f args u.1 fun e w'' => e = .returned v ∧ ∃ u' : Wk W, w'' = u'.1 :=
 h.mono fun _ w'' ⟨he, n, hn⟩ => ⟨he, ⟨w'', hn ▸ below_drewN u.2 n⟩, rfl⟩
section
variable {ops : Array Oper} {rest : List Oper} {o : Oper} {a : Act} {w : World} {Q : Exit → Act → World → Prop}
theorem news1 {b : Nat} {u : Value} (hb : w.cell? ⟨b, 0, none⟩ = some u) : ∀ (j : Nat) (x : Value), [u][j]? = some x → w.cell? ((⟨b, 0, none⟩ : Addr).add j) = some x := by
 intro j x hx
 cases j with
 | zero => simp at hx; subst hx; simpa [Addr.add] using hb
 | succ j => simp at hx
theorem own_ne {w : World} {base g : Nat} {e : TypeId} {size n : Nat} {v : Value} {xs : List Value} (h : w.ownsRow base e size v n xs) (hg : g < base) : some g ≠ v.ownBlock :=
 fun e' => by have := (h.lt g e'.symm).1; omega
theorem own_ge {w : World} {base B : Nat} {e : TypeId} {size n : Nat} {v : Value} {xs : List Value} (h : w.ownsRow base e size v n xs) (hB : B ≤ base) : ∀ k, v.ownBlock = some k → B ≤ k :=
 fun k e' => by have := (h.lt k e').1; omega
theorem own_below {w w' : World} {base : Nat} {e : TypeId} {size n : Nat} {v : Value} {xs : List Value} (h : w.ownsRow base e size v n xs) (hb : Below w.heap.size w w') : w'.ownsRow base e size v n xs :=
 h.kept (row := none) ⟨hb.os, hb.tape, hb.output, hb.size, fun i hi _ => hb.block i hi⟩ (by cases hv : v.ownBlock <;> simp)
theorem own_drewN {w : World} {base : Nat} {e : TypeId} {size n : Nat} {v : Value} {xs : List Value} (h : w.ownsRow base e size v n xs) (k : Nat) : (w.drewN k).ownsRow base e size v n xs := h
theorem cell_new1 (w : World) (u : Value) (t : TypeId) : (w.alloc (.cells #[u] t)).cell? ⟨w.heap.size, 0, none⟩ = some u := by
 rw [cell_of_row _ w.heap.size 0 _ t (0, 0) (heap_alloc_new w _)]; rfl
theorem step_app1 {K : Act → World → Prop} {E' : Prop} (hgd : o.guard = none) (s x : Operand) (T E : TypeId) (z : Value) (bytes : Nat) (hT : Tryz.prog.underlying T = some (.slice E))
    (hI : (Tryz.prog.info? E).map (fun i => (i.zero, i.size, i.bytes)) = some (some z, 1, bytes)) (hz : z.cells.size = 1)
    (ho : o.op = .call { callee := .builtin .append, args := #[s, x], argTypes := #[T, T] })
    (base : Nat) (v : Value) (n : Nat) (xs : List Value) (u : Value) (hs : a.eval s = v) (hown : w.ownsRow base E 1 v n xs)
    (b c : Nat) (hx : a.eval x = .slice (some ⟨b, 0, none⟩) 1 c) (hb : w.cell? ⟨b, 0, none⟩ = some u) (hu : u.oneCell' = true)
    (h63 : n + 1 ≤ maxLen) (hbytes : (n + 1) * bytes ≤ 140737488355328) (hbase : base ≤ w.heap.size)
    (h : ∀ g cap w', w'.ownsRow base E 1 (.slice (some ⟨g, 0, none⟩) (n + 1) cap) (n + 1) (xs ++ [u]) → w.grownBy w' v.ownBlock → (v.ownBlock = some g ∨ g = w.heap.size) → g < w'.heap.size → K (a.put o.dst (.slice (some ⟨g, 0, none⟩) (n + 1) cap)) w') :
    if Region.wanted o (yielded ops a.tmps) = true then Oper.wp Tryz.prog o a w K Q else E' := by
 obtain ⟨i, hi, hz0, hz1, hz2⟩ := info_parts hI
 exact step_append_lies w hgd s x T ho base E i z 1 bytes hT hi hz0 hz1 hz2 hz (by omega) v n xs hs hown _ 1 c [u] hx rfl (news1 hb) (by simpa using hu) (by omega) h63 hbytes hbase _ rfl h
theorem list_app1 (hgd : o.guard = none) (s x : Operand) (T E : TypeId) (z : Value) (bytes : Nat) (hT : Tryz.prog.underlying T = some (.slice E))
    (hI : (Tryz.prog.info? E).map (fun i => (i.zero, i.size, i.bytes)) = some (some z, 1, bytes)) (hz : z.cells.size = 1)
    (ho : o.op = .call { callee := .builtin .append, args := #[s, x], argTypes := #[T, T] })
    (base : Nat) (v : Value) (n : Nat) (xs : List Value) (u : Value) (hs : a.eval s = v) (hown : w.ownsRow base E 1 v n xs)
    (b c : Nat) (hx : a.eval x = .slice (some ⟨b, 0, none⟩) 1 c) (hb : w.cell? ⟨b, 0, none⟩ = some u) (hu : u.oneCell' = true)
    (h63 : n + 1 ≤ maxLen) (hbytes : (n + 1) * bytes ≤ 140737488355328) (hbase : base ≤ w.heap.size)
    (h : ∀ g cap w', w'.ownsRow base E 1 (.slice (some ⟨g, 0, none⟩) (n + 1) cap) (n + 1) (xs ++ [u]) → w.grownBy w' v.ownBlock → (v.ownBlock = some g ∨ g = w.heap.size) → g < w'.heap.size → wpList Tryz.prog ops Q rest (a.put o.dst (.slice (some ⟨g, 0, none⟩) (n + 1) cap)) w') :
    wpList Tryz.prog ops Q (o :: rest) a w := by
 obtain ⟨i, hi, hz0, hz1, hz2⟩ := info_parts hI
 exact wpList_append_lies w hgd s x T ho base E i z 1 bytes hT hi hz0 hz1 hz2 hz (by omega) v n xs hs hown _ 1 c [u] hx rfl (news1 hb) (by simpa using hu) (by omega) h63 hbytes hbase _ rfl h
end
theorem und_i64s : Tryz.prog.underlying 25 = some (.slice 2) := by kernel_rfl
theorem inf_i64 : (Tryz.prog.info? 2).map (fun i => (i.zero, i.size, i.bytes)) = some (some (.int .i64 0), 1, 8) := by kernel_rfl
end Go.Proofs.YtjcdkbalhleeeaaGreatDoor

namespace Go.Proofs.YtjcdkbalhleeeaaGreatDoor
open Go.RowKit
section
variable {ops : Array Oper} {rest : List Oper} {o : Oper} {a : Act} {w : World} {Q : Exit → Act → World → Prop}
theorem list_appG (hgd : o.guard = none) (s x : Operand) (T E : TypeId) (z : Value) (bytes : Nat) (hT : Tryz.prog.underlying T = some (.slice E))
    (hI : (Tryz.prog.info? E).map (fun i => (i.zero, i.size, i.bytes)) = some (some z, 1, bytes)) (hz : z.cells.size = 1)
    (ho : o.op = .call { callee := .builtin .append, args := #[s, x], argTypes := #[T, T] })
    (base : Nat) (v : Value) (n : Nat) (xs : List Value) (hs : a.eval s = v) (hown : w.ownsRow base E 1 v n xs) (hv : v ≠ .slice none 0 0)
    (A : Option Addr) (m c : Nat) (news : List Value) (hx : a.eval x = .slice A m c) (hl : news.length = m) (h0 : A = none → m = 0 ∧ c = 0) (hnews : Cells w A news) (h1 : ∀ u ∈ news, u.oneCell' = true)
    (h63 : n + m ≤ maxLen) (hbytes : (n + m) * bytes ≤ 140737488355328) (hbase : base ≤ w.heap.size)
    (h : ∀ g cap w', w'.ownsRow base E 1 (.slice (some ⟨g, 0, none⟩) (n + m) cap) (n + m) (xs ++ news) → w.grownBy w' v.ownBlock → (v.ownBlock = some g ∨ g = w.heap.size) → g < w'.heap.size → wpList Tryz.prog ops Q rest (a.put o.dst (.slice (some ⟨g, 0, none⟩) (n + m) cap)) w') :
    wpList Tryz.prog ops Q (o :: rest) a w := by
 obtain ⟨i, hi, hz0, hz1, hz2⟩ := info_parts hI
 by_cases hm : m = 0
 ·subst hm
  obtain rfl : news = [] := List.eq_nil_of_length_eq_zero hl
  have hown' := hown
  rcases hown.2 with ⟨rfl, hn⟩ | ⟨g, cap, cur, rfl, hb, hg, hnc, hcm, hcs, htake⟩
  ·subst hn; exact absurd rfl hv
  ·have hlt := (hown.lt g rfl).2
   refine wpList_append_fits_any w hgd s x T ho base E i 1 hT hi hz1 g n cap xs hs hown' A 0 c [] hx (by simp) h0 (fun ad _ j u hu => by simp at hu) (by simp) (by omega) fun w' h2 h3 => ?_
   exact h g cap w' h2 h3 (Or.inl rfl) (Nat.lt_of_lt_of_le hlt h3.size)
 ·obtain ⟨ad, rfl, hc⟩ := hnews (by omega)
  exact wpList_append_lies w hgd s x T ho base E i z 1 bytes hT hi hz0 hz1 hz2 hz (by omega) v n xs hs hown ad m c news hx (by omega) hc h1 (by omega) h63 hbytes hbase _ rfl h
end
theorem addzG (b j : Nat) : (⟨b, 0, none⟩ : Addr).add j = ⟨b, j, none⟩ := by unfold Addr.add; split <;> simp_all
end Go.Proofs.YtjcdkbalhleeeaaGreatDoor

namespace Go.Proofs.YtjcdkbalhleeeaaGreatDoor
open Go.RowKit
structure Rw (w : World) (A : Option Addr) (c : Nat) (rs : List (List Int × Int)) : Prop where
 le : rs.length ≤ c
 cap : c ≤ 9223372036854775807
 small : rs.length ≤ 17592186044416
 cells : 0 < rs.length → ∃ ad, A = some ad ∧ ∀ (j : Nat) (hj : j < rs.length), ∃ A' c', w.cell? (ad.add (j * 2)) = some (.slice A' rs[j].1.length c') ∧ w.cell? ⟨(ad.add (j * 2)).block, (ad.add (j * 2)).off + 1, none⟩ = some (.int .i64 rs[j].2) ∧ Rd w A' c' rs[j].1
section
variable {w w' : World} {A : Option Addr} {c : Nat} {rs : List (List Int × Int)}
theorem Rw.keep (h : Rw w A c rs) (hk : ∀ p : Addr, p.block < w.heap.size → w'.cell? p = w.cell? p) : Rw w' A c rs :=
 ⟨h.le, h.cap, h.small, fun hl => by
  obtain ⟨ad, e, hc⟩ := h.cells hl
  refine ⟨ad, e, fun j hj => ?_⟩
  obtain ⟨A', c', h1, h2, h3⟩ := hc j hj
  exact ⟨A', c', (hk _ (lc_ h1)).trans h1, (hk _ (lc_ h2)).trans h2, h3.keep hk⟩⟩
theorem Rw.below (h : Rw w A c rs) (hb : Below w.heap.size w w') : Rw w' A c rs := h.keep fun _ hp => hb.cell hp
theorem Rw.at_ (h : Rw w A c rs) {k : Nat} (hk : k < rs.length) : ∃ ad A' c', A = some ad ∧ w.cell? (ad.add (k * 2)) = some (.slice A' rs[k].1.length c') ∧ w.cell? ⟨(ad.add (k * 2)).block, (ad.add (k * 2)).off + 1, none⟩ = some (.int .i64 rs[k].2) ∧ Rd w A' c' rs[k].1 := by
 obtain ⟨ad, e, hc⟩ := h.cells (by omega)
 obtain ⟨A', c', h1, h2, h3⟩ := hc k hk
 exact ⟨ad, A', c', e, h1, h2, h3⟩
end
structure Pg (w : World) (A : Option Addr) (c : Nat) (A2 : Option Addr) (c2 : Nat) (p : PG) : Prop where
 costs : Rd w A c p.costs
 rows : Rw w A2 c2 p.rows
section
variable {w w' : World} {A A2 : Option Addr} {c c2 : Nat} {p : PG}
theorem Pg.below (h : Pg w A c A2 c2 p) (hb : Below w.heap.size w w') : Pg w' A c A2 c2 p := ⟨h.costs.below hb, h.rows.below hb⟩
theorem Pg.hop {w1 : World} (h : Pg w A c A2 c2 p) (hl : Below w.heap.size w w1) (hb : Below w1.heap.size w1 w') : Pg w' A c A2 c2 p := (h.below hl).below hb
end
end Go.Proofs.YtjcdkbalhleeeaaGreatDoor

namespace Go.Proofs.YtjcdkbalhleeeaaGreatDoor
open Go.RowKit
theorem layout_within (m : Int) (A : Option Addr) (l : List Int) (c : Nat) (w : World) (hm : 0 ≤ m) (hm' : m ≤ 4611686018427387904) (hr : Rd w A c l) :
    Calls Tryz.prog 31 #[.int .i64 m, .slice A l.length c] w fun e w' => e = .returned (.bool (smallB m l)) ∧ ∃ n, w' = w.drewN n := by
 obtain ⟨hl, hc, hsm, hr⟩ := hr
 go_enter Tryz.func31, Tryz.ntmps31
 go_wp2
 go_loop [9] (fun i => ∃ k : Nat, k ≤ l.length ∧ smallB m (l.take k) = true ∧ i = .int .i64 k) (fun i => l.length - (intOf i).toNat)
 case atStart => exact ⟨0, by omega, by simp [smallB], rfl⟩
 case round =>
  obtain ⟨k, hk, hs, rfl⟩ := hrel
  have HS := h_ hs
  clear hs
  by_cases hlt : k < l.length
  ·obtain ⟨ad, rfl, hc1⟩ := hr.at_ (k := k) (by simpa using hlt)
   rw [List.getElem_map] at hc1
   clear hr
   have HT := h_ (smallB_take (m := m) hlt)
   have HF := h_ (smallB_false (m := m) hlt)
   by_cases h1 : l[k] < -m
   ·go_wp2
    go_ret
    exact ⟨ret_bool (HF.out (by simp; omega)).symm, 0, rfl⟩
   ·by_cases h2 : m < l[k]
    ·go_wp2
     go_ret
     exact ⟨ret_bool (HF.out (by simp; omega)).symm, 0, rfl⟩
    ·go_wp2
     go_round
     case rel => exact ⟨k + 1, by omega, by rw [HT.out, HS.out]; simp; omega, by go_num⟩
     case measure => simp [intOf]; omega
  ·obtain rfl : k = l.length := by omega
   go_wp2
   go_ret
   exact ⟨ret_bool (by rw [← HS.out, List.take_length]), 0, rfl⟩
theorem layout_within1 (m : Int) (A : Option Addr) (n : Int) (c : Nat) (w : World) (hm : 0 ≤ m) (hm' : m ≤ 4611686018427387904) (hr : Rd w A c [n]) :
    Calls Tryz.prog 31 #[.int .i64 m, .slice A 1 c] w fun e w' => e = .returned (.bool (smallB m [n])) ∧ ∃ n, w' = w.drewN n := layout_within m A [n] c w hm hm' hr
theorem layout_Dot0 (A : Option Addr) (a : List Int) (c : Nat) (B : Option Addr) (b : List Int) (c' : Nat) (X Y : Int) (w : World) (hr : Rd w A c a) (hr' : Rd w B c' b) (hlen : a.length ≤ b.length)
    (hX : 0 ≤ X) (hY : 0 ≤ Y) (ha : smallB X a = true) (hb : smallB Y b = true) (h8 : a.length * (X * Y) ≤ 4611686018427387904) :
    Calls Tryz.prog 84 #[.slice A a.length c, .slice B b.length c'] w fun e w' => e = .returned (.int .i64 (dot a b)) ∧ w' = w := by
 have HR := h_ hr
 have HR' := h_ hr'
 obtain ⟨hl, hc, hsm, _⟩ := hr
 obtain ⟨hl', hc', hsm', _⟩ := hr'
 have HA := h_ ha
 have HB := h_ hb
 have HD := h_ (dot_take_bound ha hb hX hY)
 clear ha hb
 go_enter Tryz.func84, Tryz.ntmps84
 go_wp2_with fail
 go_loop [5, 10] (fun s i => ∃ k : Nat, k ≤ a.length ∧ s = .int .i64 (dot (a.take k) b) ∧ i = .int .i64 k) (fun _ i => a.length - (intOf i).toNat)
 case atStart => exact ⟨0, by omega, rfl, rfl⟩
 case round =>
  obtain ⟨k, hk, rfl, rfl⟩ := hrel
  by_cases hlt : k < a.length
  ·have hlt' : k < b.length := by omega
   obtain ⟨ad, rfl, hc1⟩ := HR.out.at_ hlt
   obtain ⟨ad', rfl, hc2⟩ := HR'.out.at_ hlt'
   have hi0 : (k : Int) < (b.length : Int) := by omega
   have h1 := HD.out k
   have h2 := HD.out (k + 1)
   have HT := h_ (dot_take hlt hlt')
   rw [HT.out] at h2
   have hx := smallB_at HA.out hlt
   have hy := smallB_at HB.out hlt'
   have h3 := mul_bound _ _ X Y hx.1 hx.2 hy.1 hy.2
   have h4 : X * Y ≤ a.length * (X * Y) := by
    have h0 : (1 : Int) * (X * Y) ≤ a.length * (X * Y) := Int.mul_le_mul_of_nonneg_right (by omega) (Int.mul_nonneg hX hY)
    omega
   obtain ⟨h3a, h3b⟩ := h3
   obtain ⟨h1a, h1b⟩ := h1
   obtain ⟨h2a, h2b⟩ := h2
   have g1 : -4611686018427387904 ≤ a[k] * b[k] := by omega
   have g2 : a[k] * b[k] ≤ 4611686018427387904 := by omega
   have g3 : -4611686018427387904 ≤ dot (a.take k) b + a[k] * b[k] := by omega
   have g4 : dot (a.take k) b + a[k] * b[k] ≤ 4611686018427387904 := by omega
   clear h3a h3b h1a h1b h2a h2b h4 h8
   go_wp2_with fail
   go_round
   case rel => exact ⟨k + 1, by omega, by rw [HT.out], by go_num⟩
   case measure => simp [intOf]; omega
  ·obtain rfl : k = a.length := by omega
   go_wp2_with fail
   go_ret
   exact ⟨ret_int (by simp), rfl⟩
theorem layout_Dot (A : Option Addr) (a : List Int) (c : Nat) (B : Option Addr) (b : List Int) (c' : Nat) (X Y : Int) (w : World) (hr : Rd w A c a) (hr' : Rd w B c' b) (hlen : a.length ≤ b.length)
    (hX : 0 ≤ X) (hY : 0 ≤ Y) (ha : smallB X a = true) (hb : smallB Y b = true) (h8 : a.length * (X * Y) ≤ 4611686018427387904) :
    Calls Tryz.prog 84 #[.slice A a.length c, .slice B b.length c'] w fun e w' => e = .returned (.int .i64 (dot a b)) ∧ ∃ n, w' = w.drewN n :=
 (layout_Dot0 A a c B b c' X Y w hr hr' hlen hX hY ha hb h8).mono fun _ _ h => ⟨h.1, 0, h.2⟩
theorem layout_May (A : Option Addr) (c : Nat) (A2 : Option Addr) (c2 : Nat) (p : PG) (w : World) (hp : Pg w A c A2 c2 p) :
    Calls Tryz.prog 16 #[.agg #[.slice A p.costs.length c, .slice A2 p.rows.length c2]] w fun e w' => e = .returned (.bool (mayPB p)) ∧ Below w.heap.size w w' := by
 have HP := h_ hp
 obtain ⟨⟨hl, hc, hsm, _⟩, ⟨hl2, hc2, hsm2, _⟩⟩ := hp
 by_cases hn1 : p.costs.length < 1
 ·have hv : mayPB p = false := by
    rw [Bool.eq_false_iff]; intro h; have := mayPB_iff.1 h; omega
  rw [hv]
  clear hv
  go_enter Tryz.func16, Tryz.ntmps16
  go_wp2_with fail
  go_quiet (fail)
  go_wp2_with fail
  go_ret
  exact ⟨rfl, (by (repeat (any_goals (first | exact qR _ _ | refine below_drewN ?_ _ | refine qD ?_ | refine qA ?_ ?_ _ | refine qS ?_ ?_ _))); all_goals (first | omega | (simp; done) | (simp; omega)))⟩
 by_cases hn2 : 4 < p.costs.length
 ·have hv : mayPB p = false := by
    rw [Bool.eq_false_iff]; intro h; have := mayPB_iff.1 h; omega
  rw [hv]
  clear hv
  go_enter Tryz.func16, Tryz.ntmps16
  go_wp2_with fail
  go_quiet (fail)
  go_wp2_with fail
  go_ret
  exact ⟨rfl, (by (repeat (any_goals (first | exact qR _ _ | refine below_drewN ?_ _ | refine qD ?_ | refine qA ?_ ?_ _ | refine qS ?_ ?_ _))); all_goals (first | omega | (simp; done) | (simp; omega)))⟩
 by_cases hm1 : p.rows.length < 1
 ·have hv : mayPB p = false := by
    rw [Bool.eq_false_iff]; intro h; have := mayPB_iff.1 h; omega
  rw [hv]
  clear hv
  go_enter Tryz.func16, Tryz.ntmps16
  go_wp2_with fail
  go_quiet (fail)
  go_wp2_with fail
  go_ret
  exact ⟨rfl, (by (repeat (any_goals (first | exact qR _ _ | refine below_drewN ?_ _ | refine qD ?_ | refine qA ?_ ?_ _ | refine qS ?_ ?_ _))); all_goals (first | omega | (simp; done) | (simp; omega)))⟩
 by_cases hm2 : 4 < p.rows.length
 ·have hv : mayPB p = false := by
    rw [Bool.eq_false_iff]; intro h; have := mayPB_iff.1 h; omega
  rw [hv]
  clear hv
  go_enter Tryz.func16, Tryz.ntmps16
  go_wp2_with fail
  go_quiet (fail)
  go_wp2_with fail
  go_ret
  exact ⟨rfl, (by (repeat (any_goals (first | exact qR _ _ | refine below_drewN ?_ _ | refine qD ?_ | refine qA ?_ ?_ _ | refine qS ?_ ?_ _))); all_goals (first | omega | (simp; done) | (simp; omega)))⟩
 cases hs : smallB 400 p.costs with
 | false =>
  have hv : mayPB p = false := by
   rw [Bool.eq_false_iff]; intro h; have := mayPB_iff.1 h; simp [hs] at this
  rw [hv]
  clear hv
  go_enter Tryz.func16, Tryz.ntmps16
  go_wp2_with fail
  go_quiet (fail)
  go_wp2_with fail
  refine (layout_within _ _ _ _ _ (by omega) (by omega) (by exact (HP.out.costs.alloc _).drewN _)).mono ?_
  rintro e w' ⟨rfl, n, rfl⟩
  rw [hs]
  go_wp2_with fail
  go_ret
  exact ⟨rfl, (by (repeat (any_goals (first | exact qR _ _ | refine below_drewN ?_ _ | refine qD ?_ | refine qA ?_ ?_ _ | refine qS ?_ ?_ _))); all_goals (first | omega | (simp; done) | (simp; omega)))⟩
 | true =>
  have hv : mayPB p = p.rows.all (rowB p.costs.length) := by
   rw [Bool.eq_iff_iff, mayPB_iff]; simp only [hs]; constructor
   ·intro h; exact h.2.2.2.2.2
   ·intro h; exact ⟨by omega, by omega, by omega, by omega, trivial, h⟩
  rw [hv]
  clear hv
  go_enter Tryz.func16, Tryz.ntmps16
  go_wp2_with fail
  go_quiet (fail)
  go_wp2_with fail
  refine (layout_within _ _ _ _ _ (by omega) (by omega) (by exact (HP.out.costs.alloc _).drewN _)).mono ?_
  rintro e w' ⟨rfl, n, rfl⟩
  rw [hs]
  go_wp2_with fail
  go_loopw [36] (fun i wr => ∃ k : Nat, k ≤ p.rows.length ∧ i = .int .i64 k ∧ (p.rows.take k).all (rowB p.costs.length) = true ∧ Below w.heap.size w wr) (fun i _ => p.rows.length - (intOf i).toNat)
  case atStart => exact ⟨0, by omega, rfl, by simp, (by (repeat (any_goals (first | exact qR _ _ | refine below_drewN ?_ _ | refine qD ?_ | refine qA ?_ ?_ _ | refine qS ?_ ?_ _))); all_goals (first | omega | (simp; done) | (simp; omega)))⟩
  case round =>
   obtain ⟨k, hk, rfl, hall, hbel⟩ := hrel
   have HA := h_ hall
   have HL := h_ hbel
   have HPr := h_ (HP.out.below hbel)
   have zL := hbel.size
   clear hall hbel
   by_cases hlt : k < p.rows.length
   ·obtain ⟨ad, A', c', rfl, hc1, hc2', hr⟩ := HPr.out.rows.at_ hlt
    have hadl := lc_ hc1
    have HR := h_ hr
    obtain ⟨hrl, hrc, _, _⟩ := hr
    have HT := h_ (all_take (f := rowB p.costs.length) hlt)
    have HF := h_ (all_false (f := rowB p.costs.length) hlt)
    have HRB := h_ (show rowB p.costs.length p.rows[k] = (decide (p.rows[k].1.length = p.costs.length) && (smallB 12 [p.rows[k].2] && smallB 12 p.rows[k].1)) from rfl)
    generalize hr1 : p.rows[k].1 = r1 at *
    generalize hr2 : p.rows[k].2 = r2 at *
    clear hr1 hr2
    by_cases h1 : r1.length = p.costs.length
    ·have h1z : ((r1.length : Int) != (p.costs.length : Int)) = false := by simp [h1]
     have H1 := h_ h1
     clear h1
     go_wp2_with fail
     refine (layout_within1 _ _ _ _ _ (by omega) (by omega) (by exact Rd.new1 _ _ _ _ (by simp))).mono ?_
     rintro e w1 ⟨rfl, n1, rfl⟩
     cases hs1 : smallB 12 [r2] with
     | false =>
      go_wp2_with fail
      go_ret
      exact ⟨ret_bool (by rw [HF.out (by rw [HRB.out]; simp [hs1])]), (by (repeat (any_goals (first | exact qR _ _ | exact HL.out | refine below_drewN ?_ _ | refine qD ?_ | refine qA ?_ ?_ _ | refine qS ?_ ?_ _ | refine Below.trans ?_ (Below.mono HL.out ?_)))); all_goals (first | omega | (simp; done) | (simp; omega) | ((try have z0 := HL.out.size); (try simp at z0); (try simp); omega)))⟩
     | true =>
      go_wp2_with fail
      refine (layout_within _ _ _ _ _ (by omega) (by omega) (by exact ((HR.out.alloc _).alloc _).drewN _)).mono ?_
      rintro e w2 ⟨rfl, n2, rfl⟩
      cases hs2 : smallB 12 r1 with
      | false =>
       go_wp2_with fail
       go_ret
       exact ⟨ret_bool (by rw [HF.out (by rw [HRB.out]; simp [hs2])]), (by (repeat (any_goals (first | exact qR _ _ | exact HL.out | refine below_drewN ?_ _ | refine qD ?_ | refine qA ?_ ?_ _ | refine qS ?_ ?_ _ | refine Below.trans ?_ (Below.mono HL.out ?_)))); all_goals (first | omega | (simp; done) | (simp; omega) | ((try have z0 := HL.out.size); (try simp at z0); (try simp); omega)))⟩
      | true =>
       go_wp2_with fail
       go_roundw
       case rel => exact ⟨k + 1, by omega, by go_num, by rw [HT.out, HA.out, HRB.out]; simp [H1.out, hs1, hs2], (by (repeat (any_goals (first | exact qR _ _ | exact HL.out | refine below_drewN ?_ _ | refine qD ?_ | refine qA ?_ ?_ _ | refine qS ?_ ?_ _ | refine Below.trans ?_ (Below.mono HL.out ?_)))); all_goals (first | omega | (simp; done) | (simp; omega) | ((try have z0 := HL.out.size); (try simp at z0); (try simp); omega)))⟩
       case measure => simp [intOf]; omega
    ·have h1z : ((r1.length : Int) != (p.costs.length : Int)) = true := by simp; omega
     go_wp2_with fail
     go_ret
     exact ⟨ret_bool (by rw [HF.out (by rw [HRB.out]; simp [h1])]), (by (repeat (any_goals (first | exact qR _ _ | exact HL.out | refine below_drewN ?_ _ | refine qD ?_ | refine qA ?_ ?_ _ | refine qS ?_ ?_ _ | refine Below.trans ?_ (Below.mono HL.out ?_)))); all_goals (first | omega | (simp; done) | (simp; omega) | ((try have z0 := HL.out.size); (try simp at z0); (try simp); omega)))⟩
   ·obtain rfl : k = p.rows.length := by omega
    go_wp2_with fail
    go_ret
    exact ⟨ret_bool (by rw [← HA.out, List.take_length]), (by (repeat (any_goals (first | exact qR _ _ | exact HL.out | refine below_drewN ?_ _ | refine qD ?_ | refine qA ?_ ?_ _ | refine qS ?_ ?_ _ | refine Below.trans ?_ (Below.mono HL.out ?_)))); all_goals (first | omega | (simp; done) | (simp; omega) | ((try have z0 := HL.out.size); (try simp at z0); (try simp); omega)))⟩
end Go.Proofs.YtjcdkbalhleeeaaGreatDoor

namespace Go.Proofs.YtjcdkbalhleeeaaGreatDoor
open Go.RowKit
theorem frac_gcd (a b : Nat) (w : World) (ha' : a ≤ 4611686018427387904) (hb' : b ≤ 4611686018427387904) :
    Calls Tryz.prog 113 #[.int .i64 a, .int .i64 b] w fun e w' => e = .returned (.int .i64 (Nat.gcd a b)) ∧ ∃ n, w' = w.drewN n := by
 go_enter Tryz.func113, Tryz.ntmps113
 go_wp2
 go_loopw [0, 1] (fun x y wr => ∃ c d : Nat, c ≤ 4611686018427387904 ∧ d ≤ 4611686018427387904 ∧ Nat.gcd c d = Nat.gcd a b ∧ x = .int .i64 c ∧ y = .int .i64 d ∧ ∃ n, wr = w.drewN n) (fun _ y _ => (intOf y).toNat)
 case atStart => exact ⟨a, b, ha', hb', rfl, rfl, rfl, 0, rfl⟩
 case round =>
  obtain ⟨c, d, hc, hd, hg, rfl, rfl, n, rfl⟩ := hrel
  have HG := h_ hg
  clear hg
  by_cases h0 : d = 0
  ·subst h0
   go_wp2
   go_ret
   exact ⟨ret_int (by rw [← HG.out]; simp), _, rfl⟩
  ·have hz' : ((d : Int) != 0) = true := by simp; omega
   have hm : c % d < d := Nat.mod_lt _ (by omega)
   go_wp2
   go_region
   all_goals
    go_wp2
    go_roundw
    case rel => exact ⟨d, c % d, hd, by omega, by rw [← HG.out, Nat.gcd_comm c d, Nat.gcd_rec d c, Nat.gcd_comm], rfl, by simp, n + 1, rfl⟩
    case measure => simp [intOf]; omega
theorem frac_gcdI (a b : Int) (w : World) (ha : 0 ≤ a) (hb : 0 ≤ b) (ha' : a ≤ 4611686018427387904) (hb' : b ≤ 4611686018427387904) :
    Calls Tryz.prog 113 #[.int .i64 a, .int .i64 b] w fun e w' => e = .returned (.int .i64 (Nat.gcd a.natAbs b.natAbs)) ∧ ∃ n, w' = w.drewN n := by
 obtain ⟨a, rfl⟩ := Int.eq_ofNat_of_zero_le ha
 obtain ⟨b, rfl⟩ := Int.eq_ofNat_of_zero_le hb
 exact frac_gcd a b w (by omega) (by omega)
theorem frac_small (m : Int) (A : Option Addr) (l : List Int) (c : Nat) (w : World) (hm : 0 ≤ m) (hm' : m ≤ 4611686018427387904) (hr : Rd w A c l) :
    Calls Tryz.prog 79 #[.int .i64 m, .slice A l.length c] w fun e w' => e = .returned (.bool (smallB m l)) ∧ ∃ n, w' = w.drewN n := by
 obtain ⟨hl, hc, hsm, hr⟩ := hr
 go_enter Tryz.func79, Tryz.ntmps79
 go_wp2
 go_loop [9] (fun i => ∃ k : Nat, k ≤ l.length ∧ smallB m (l.take k) = true ∧ i = .int .i64 k) (fun i => l.length - (intOf i).toNat)
 case atStart => exact ⟨0, by omega, by simp [smallB], rfl⟩
 case round =>
  obtain ⟨k, hk, hs, rfl⟩ := hrel
  have HS := h_ hs
  clear hs
  by_cases hlt : k < l.length
  ·obtain ⟨ad, rfl, hc1⟩ := hr.at_ (k := k) (by simpa using hlt)
   rw [List.getElem_map] at hc1
   clear hr
   have HT := h_ (smallB_take (m := m) hlt)
   have HF := h_ (smallB_false (m := m) hlt)
   by_cases h1 : l[k] < -m
   ·go_wp2
    go_ret
    exact ⟨ret_bool (HF.out (by simp; omega)).symm, 0, rfl⟩
   ·by_cases h2 : m < l[k]
    ·go_wp2
     go_ret
     exact ⟨ret_bool (HF.out (by simp; omega)).symm, 0, rfl⟩
    ·go_wp2
     go_round
     case rel => exact ⟨k + 1, by omega, by rw [HT.out, HS.out]; simp; omega, by go_num⟩
     case measure => simp [intOf]; omega
  ·obtain rfl : k = l.length := by omega
   go_wp2
   go_ret
   exact ⟨ret_bool (by rw [← HS.out, List.take_length]), 0, rfl⟩
theorem frac_common (d : Nat) (A : Option Addr) (l : List Int) (c : Nat) (w : World) (hd : d ≤ 4611686018427387904) (hs : smallB 4611686018427387904 l = true) (hr : Rd w A c l) :
    Calls Tryz.prog 80 #[.int .i64 d, .slice A l.length c] w fun e w' => e = .returned (.int .i64 (comm d l)) ∧ ∃ n, w' = w.drewN n := by
 obtain ⟨hl, hc, hsm, hr⟩ := hr
 have hbd : ∀ n ∈ l, n.natAbs ≤ 4611686018427387904 := fun n hn => by have := smallB_mem hs hn; omega
 have HB := h_ hbd
 have HS := h_ hs
 clear hs hbd
 go_enter Tryz.func80, Tryz.ntmps80
 go_wp2
 go_loopw [0, 9] (fun x i wr => ∃ k : Nat, k ≤ l.length ∧ x = .int .i64 (comm d (l.take k)) ∧ i = .int .i64 k ∧ ∃ n, wr = w.drewN n) (fun _ i _ => l.length - (intOf i).toNat)
 case atStart => exact ⟨0, by omega, rfl, rfl, 0, rfl⟩
 case round =>
  obtain ⟨k, hk, rfl, rfl, n, rfl⟩ := hrel
  have hb1 : comm d (l.take k) ≤ 4611686018427387904 := comm_bound _ _ _ hd fun x hx => HB.out x (List.mem_of_mem_take hx)
  by_cases hlt : k < l.length
  ·obtain ⟨ad, rfl, hc1⟩ := hr.at_ (k := k) (by simpa using hlt)
   rw [List.getElem_map] at hc1
   clear hr
   have hb2 := smallB_at HS.out hlt
   obtain ⟨hb2, hb3⟩ := hb2
   have HT := h_ (comm_take d hlt)
   go_wp2_with (go_at_call 113; refine (frac_gcdI _ _ _ (by omega) (by omega) (by omega) (by omega)).mono ?_; rintro e w' ⟨rfl, n', rfl⟩)
   all_goals
    go_roundw
    case rel => exact ⟨k + 1, by omega, by rw [HT.out]; (try split) <;> simp, by go_num, _, rfl⟩
    case measure => simp [intOf]; omega
  ·obtain rfl : k = l.length := by omega
   go_wp2
   go_ret
   exact ⟨ret_int (by rw [List.take_length]), _, rfl⟩
theorem frac_commonI (d : Int) (A : Option Addr) (l : List Int) (c : Nat) (w : World) (h0 : 0 ≤ d) (hd : d ≤ 4611686018427387904) (hs : smallB 4611686018427387904 l = true) (hr : Rd w A c l) :
    Calls Tryz.prog 80 #[.int .i64 d, .slice A l.length c] w fun e w' => e = .returned (.int .i64 (comm d.natAbs l)) ∧ ∃ n, w' = w.drewN n := by
 obtain ⟨d, rfl⟩ := Int.eq_ofNat_of_zero_le h0
 exact frac_common d A l c w (by omega) hs hr
end Go.Proofs.YtjcdkbalhleeeaaGreatDoor

namespace Go.Proofs.YtjcdkbalhleeeaaGreatDoor
open Go.RowKit
theorem frac_right (A : Option Addr) (l : List Int) (c : Nat) (d : Int) (w : World) (hr : Rd w A c l) :
    Calls Tryz.prog 81 #[.slice A l.length c, .int .i64 d] w fun e w' => e = .returned (.bool (rightB l d)) ∧ ∃ n, w' = w.drewN n := by
 have HR := h_ hr
 obtain ⟨hl, hc, hsm, _⟩ := hr
 by_cases h1 : d < 1
 ·have hv : rightB l d = false := by simp [rightB]; omega
  rw [hv]
  go_enter Tryz.func81, Tryz.ntmps81
  go_wp2_with fail
  go_ret
  exact ⟨rfl, 0, rfl⟩
 ·by_cases h2 : 1073741824 < d
  ·have hv : rightB l d = false := by simp [rightB]; omega
   rw [hv]
   go_enter Tryz.func81, Tryz.ntmps81
   go_wp2_with fail
   go_ret
   exact ⟨rfl, 0, rfl⟩
  ·cases hs : smallB 1073741824 l with
   | false =>
    have hv : rightB l d = false := by simp [rightB, hs]
    rw [hv]
    clear hv
    go_enter Tryz.func81, Tryz.ntmps81
    go_wp2_with (go_at_call 79; refine (frac_small _ _ _ _ _ (by omega) (by omega) HR.out).mono ?_; rintro e w' ⟨rfl, n', rfl⟩)
    go_ret
    exact ⟨rfl, _, rfl⟩
   | true =>
    by_cases h3 : l.length ≤ 8
    ·have hv : rightB l d = true := by simp [rightB, hs]; omega
     rw [hv]
     clear hv
     go_enter Tryz.func81, Tryz.ntmps81
     go_wp2_with (go_at_call 79; refine (frac_small _ _ _ _ _ (by omega) (by omega) HR.out).mono ?_; rintro e w' ⟨rfl, n', rfl⟩)
     go_ret
     exact ⟨ret_bool (by simp; omega), _, rfl⟩
    ·have hv : rightB l d = false := by simp [rightB, hs]; omega
     rw [hv]
     clear hv
     go_enter Tryz.func81, Tryz.ntmps81
     go_wp2_with (go_at_call 79; refine (frac_small _ _ _ _ _ (by omega) (by omega) HR.out).mono ?_; rintro e w' ⟨rfl, n', rfl⟩)
     go_ret
     exact ⟨ret_bool (by simp; omega), _, rfl⟩
theorem frac_MayPoint (A : Option Addr) (l : List Int) (c : Nat) (d : Int) (w : World) (hr : Rd w A c l) :
    Calls Tryz.prog 114 #[.agg #[.slice A l.length c, .int .i64 d]] w fun e w' => e = .returned (.bool (mayB l d)) ∧ Below w.heap.size w w' := by
 have HR := h_ hr
 obtain ⟨hl, hc, hsm, _⟩ := hr
 cases hs : rightB l d with
 | false =>
  have hv : mayB l d = false := by simp [mayB, hs]
  rw [hv]
  clear hv
  go_enter Tryz.func114, Tryz.ntmps114
  go_wp2_with (go_at_call 81; refine (frac_right _ _ _ _ _ (HR.out.alloc _)).mono ?_; rintro e w' ⟨rfl, n', rfl⟩)
  go_ret
  exact ⟨rfl, below_drewN ((Below.refl _ _).alloc (Nat.le_refl _) _) _⟩
 | true =>
  obtain ⟨d, rfl⟩ : ∃ n : Nat, d = n := ⟨d.toNat, by simp [rightB] at hs; omega⟩
  have hd : d ≤ 4611686018427387904 := by simp [rightB] at hs; omega
  have hz : smallB 4611686018427387904 l = true := by
   rw [smallB_iff]; simp [rightB] at hs; intro n hn; have := smallB_mem hs.2.2.1 hn; omega
  have HZ := h_ hz
  have hv : mayB l d = ((comm d l : Int) == 1) := by rw [Bool.eq_iff_iff]; simp [mayB, hs]; omega
  rw [hv]
  clear hv hz
  go_enter Tryz.func114, Tryz.ntmps114
  go_wp2_with (first
   | (go_at_call 81; refine (frac_right _ _ _ _ _ (HR.out.alloc _)).mono ?_; rintro e w' ⟨rfl, n', rfl⟩)
   | (go_at_call 80; refine (frac_common _ _ _ _ _ hd HZ.out ((HR.out.alloc _).drewN _)).mono ?_; rintro e w' ⟨rfl, n', rfl⟩))
  go_ret
  exact ⟨rfl, below_drewN ((Below.refl _ _).alloc (Nat.le_refl _) _) _⟩
theorem frac_small1 (m : Int) (A : Option Addr) (n : Int) (c : Nat) (w : World) (hm : 0 ≤ m) (hm' : m ≤ 4611686018427387904) (hr : Rd w A c [n]) :
    Calls Tryz.prog 79 #[.int .i64 m, .slice A 1 c] w fun e w' => e = .returned (.bool (smallB m [n])) ∧ ∃ n, w' = w.drewN n := frac_small m A [n] c w hm hm' hr
theorem frac_MayPoint1 (A : Option Addr) (n : Int) (c : Nat) (d : Int) (w : World) (hr : Rd w A c [n]) :
    Calls Tryz.prog 114 #[.agg #[.slice A 1 c, .int .i64 d]] w fun e w' => e = .returned (.bool (mayB [n] d)) ∧ Below w.heap.size w w' := frac_MayPoint A [n] c d w hr
theorem frac_May (a b : Int) (w : World) :
    Calls Tryz.prog 102 #[.agg #[.int .i64 a, .int .i64 b]] w fun e w' => e = .returned (.bool (mayB [a] b)) ∧ Below w.heap.size w w' := by
 go_enter Tryz.func102, Tryz.ntmps102
 go_wp2_with (go_at_call 114; refine (frac_MayPoint1 _ _ _ _ _ (by exact Rd.new1 _ _ _ _ (by simp))).mono ?_; rintro e w' ⟨rfl, hb⟩)
 go_ret
 exact ⟨rfl, (((Below.refl _ _).alloc (Nat.le_refl _) _).alloc (by simp) _).trans (hb.mono (by simp; omega))⟩
def RetPt (w : World) (ns : List Int) (d er : Int) (e : Ending) (w' : World) : Prop :=
 ∃ A c, e = .returned (.tuple #[.agg #[.slice A ns.length c, .int .i64 d], .int .i64 er]) ∧ Rd w' A c ns ∧ Below w.heap.size w w' ∧ ∀ ad, A = some ad → w.heap.size ≤ ad.block
set_option maxHeartbeats 2000000 in
theorem frac_Point (A : Option Addr) (l : List Int) (c : Nat) (d : Int) (w : World) (hr : Rd w A c l) :
    Calls Tryz.prog 34 #[.slice A l.length c, .int .i64 d] w (RetPt w (ptN l d) (ptD l d) (ptE l d)) := by
 have HR := h_ hr
 obtain ⟨hl, hc, hsm, _⟩ := hr
 by_cases h0 : d = 0
 ·subst h0
  have HE := h_ (show ptE l 0 = 3 by simp [ptE])
  go_enter Tryz.func34, Tryz.ntmps34
  go_wp2_with fail
  refine bodyPost_ret (v := .tuple #[.agg #[.slice none 0 0, .int .i64 0], .int .i64 3]) (by simp [results, Tryz.results34, go_sem]) rfl ?_
  refine ⟨none, 0, by simp [ptN, ptD, HE.out], by simp [ptN, HE.out, Rd.nil], (Below.refl _ _).alloc (Nat.le_refl _) _, fun ad e => by cases e⟩
 ·have hd0 : (d == 0) = false := by simpa using h0
  cases h1 : smallB 4611686018427387904 l with
  | false =>
   have HE := h_ (show ptE l d = 3 by simp [ptE, h1])
   go_enter Tryz.func34, Tryz.ntmps34
   go_wp2_with (first
    | (go_at_call 79; refine (frac_small _ _ _ _ _ (by omega) (by omega) (HR.out.alloc _)).mono ?_; rintro e w' ⟨rfl, n', rfl⟩))
   refine bodyPost_ret (v := .tuple #[.agg #[.slice none 0 0, .int .i64 0], .int .i64 3]) (by simp [results, Tryz.results34, go_sem]) rfl ?_
   refine ⟨none, 0, by simp [ptN, ptD, HE.out], by simp [ptN, HE.out, Rd.nil], (by (repeat (any_goals (first | exact qR _ _ | refine below_drewN ?_ _ | refine qD ?_ | refine qA ?_ ?_ _ | refine qS ?_ ?_ _))); all_goals (first | omega | (simp; done) | (simp; omega))), fun ad e => by cases e⟩
  | true =>
   cases h2 : smallB 4611686018427387904 [d] with
   | false =>
    have HE := h_ (show ptE l d = 3 by simp [ptE, h2])
    go_enter Tryz.func34, Tryz.ntmps34
    go_wp2_with fail
    refine (frac_small _ _ _ _ _ (by omega) (by omega) (by exact HR.out.alloc _)).mono ?_
    rintro e w' ⟨rfl, n', rfl⟩
    go_wp2_with fail
    refine (frac_small1 _ _ _ _ _ (by omega) (by omega) (by exact Rd.new1 _ _ _ _ (by simp))).mono ?_
    rintro e w' ⟨rfl, n', rfl⟩
    go_wp2_with fail
    refine bodyPost_ret (v := .tuple #[.agg #[.slice none 0 0, .int .i64 0], .int .i64 3]) (by simp [results, Tryz.results34, go_sem]) rfl ?_
    refine ⟨none, 0, by simp [ptN, ptD, HE.out], by simp [ptN, HE.out, Rd.nil], (by (repeat (any_goals (first | exact qR _ _ | refine below_drewN ?_ _ | refine qD ?_ | refine qA ?_ ?_ _ | refine qS ?_ ?_ _))); all_goals (first | omega | (simp; done) | (simp; omega))), fun ad e => by cases e⟩
   | true =>
    have hb := h2
    rw [smallB_one] at hb
    simp at hb
    obtain ⟨hb1, hb2⟩ := hb
    have HZ := h_ h1
    by_cases hn : d < 0
    all_goals
     go_enter Tryz.func34, Tryz.ntmps34
     go_wp2_with fail
     refine (frac_small _ _ _ _ _ (by omega) (by omega) (by exact HR.out.alloc _)).mono ?_
     rintro e w' ⟨rfl, n1, rfl⟩
     go_wp2_with fail
     refine (frac_small1 _ _ _ _ _ (by omega) (by omega) (by exact Rd.new1 _ _ _ _ (by simp))).mono ?_
     rintro e w' ⟨rfl, n2, rfl⟩
     go_wp2_with fail
     all_goals (try (exfalso; unfold wrap64 at *; omega))
     refine (frac_commonI _ _ _ _ _ (by omega) (by omega) (by assumption) (by exact (by repeat (first | exact HR.out | refine Rd.alloc ?_ _ | refine Rd.drewN ?_ _ | refine Rd.drew ?_ | refine Rd.setCell ?_ (by simp) _ | refine Rd.below ?_ (by assumption))))).mono ?_
     rintro e w' ⟨rfl, n3, rfl⟩
     have hg1 := comm_pos d.natAbs l (by omega)
     have hg2 := comm_le d.natAbs l (by omega)
     generalize hG : (Nat.cast (comm _ l) : Int) = G
     have hS : sgcd l d = (if d < 0 then -G else G) := by unfold sgcd; rw [← hG]; (try simp)
     have hg3 : 1 ≤ G := by rw [← hG]; first | omega | (rw [Int.natAbs_neg]; omega)
     have hg4 : G ≤ 4611686018427387904 := by rw [← hG]; first | omega | (rw [Int.natAbs_neg]; omega)
     clear hG hg1 hg2
     first | rw [if_pos hn] at hS | rw [if_neg (by omega)] at hS
     have HS := h_ hS
     have hq := tdiv_bound 4611686018427387904 d G (by omega) (by omega)
     obtain ⟨hq1, hq2⟩ := hq
     clear hS h1
     go_wp2_with fail
     go_loopw [40] (fun i wr => ∃ (k : Nat) (v : Value), k ≤ l.length ∧ i = .int .i64 k ∧ Blk wr (w.heap.size + 1 + 1) 53 #[v, .int .i64 (d.tdiv (sgcd l d))] ∧
      wr.ownsRow (w.heap.size + 1 + 1 + 1) 2 1 v k ((divs (l.take k) (sgcd l d)).map (Value.int .i64)) ∧ Below w.heap.size w wr ∧ Blk wr w.heap.size 53 #[.slice none 0 0, .int .i64 0])
      (fun i _ => l.length - (intOf i).toNat)
     case atStart =>
      refine ⟨0, .slice none 0 0, by omega, rfl, ?_, World.ownsRow_nil _ _ _ _, (by (repeat (any_goals (first | exact qR _ _ | refine below_drewN ?_ _ | refine qD ?_ | refine qA ?_ ?_ _ | refine qS ?_ ?_ _))); all_goals (first | omega | (simp; done) | (simp; omega))), ?_⟩
      ·rw [HS.out]; (try rw [Int.tdiv_neg]); exact Blk.new _ _ _ _ (by simp)
      ·exact (((Blk.new w _ _ _ rfl).drewN _).alloc _).alloc _
     case round =>
      obtain ⟨k, v, hk, rfl, hB, hown, hbel, hRv⟩ := hrel
      obtain ⟨hq3, hq4⟩ := tdiv_bound 4611686018427387904 d G (by omega) (by omega)
      by_cases hlt : k < l.length
      ·obtain ⟨ad, rfl, hc1⟩ := (HR.out.below hbel).at_ hlt
       have hp0 := hB.cell 0
       have hp1 := hB.cell 1
       have hpf := hB.frozen 0
       have hpl := hB.lt
       obtain ⟨hs1, hs2⟩ := smallB_at HZ.out hlt
       obtain ⟨hs3, hs4⟩ := tdiv_bound 4611686018427387904 l[k] G (by omega) (by omega)
       simp at hp0 hp1
       have HB := h_ hB
       have HW := h_ hown
       have HL := h_ hbel
       have HV := h_ hRv
       clear hB hown hbel hRv
       have hz : ¬ G = 0 := by omega
       have hw1 : IntKind.i64.wrap (-l[k].tdiv G) = -l[k].tdiv G := IntWalk.i64_in _ (by omega)
       have hw2 : IntKind.i64.wrap (l[k].tdiv G) = l[k].tdiv G := IntWalk.i64_in _ (by omega)
       go_wp2_with fail
       go_region_law (refine step_app1 rfl (.tmp 45) (.tmp 49) _ _ _ 8 und_i64s inf_i64 rfl rfl _ v k _ _ (by simp [Act.eval]) ((HW.out.drew).alloc _) _ 1 (by simp [Act.eval]) (cell_new1 _ _ _) rfl (by unfold maxLen; omega) (by omega) (by simp; omega) ?_; intro g cap w1 hown1 hg1 hat hlt1; have hB1 := ((HB.out.drew).alloc _).grown hg1 (own_ne HW.out (by omega)); have hq0 : w1.cell? ⟨w.heap.size + 1 + 1, 0, none⟩ = some v := hB1.cell 0; have hqf := hB1.frozen 0)
       all_goals
        have HB1 := h_ hB1
        have HW1 := h_ hown1
        have HG1 := h_ hg1
        clear hB1 hown1 hg1 hq0 hqf
        go_wp2_with fail
        go_roundw
        case rel =>
         have hb2 : Below w.heap.size w w1 := (((HL.out.drew).alloc (by have := HL.out.size; simp; omega) _).grown HG1.out (by have := HL.out.size; simp; omega) (own_ge HW.out (by omega)))
         refine ⟨k + 1, _, by omega, by go_num, HB1.out.set0 0 _, ?_, hb2.setCell (by simp; omega) _, ?_⟩
         ·have he : (divs (l.take (k + 1)) (sgcd l d)).map (Value.int .i64) = (divs (l.take k) (sgcd l d)).map (Value.int .i64) ++ [Value.int .i64 (l[k].tdiv (sgcd l d))] := by
            rw [divs_take hlt, List.map_append]; rfl
          rw [he]
          refine ownsRow_setCell_below ?_ (by simp) _
          refine Eq.mp (congrArg (fun q : Int => w1.ownsRow (w.heap.size + 1 + 1 + 1) 2 1 (.slice (some ⟨g, 0, none⟩) (k + 1) cap) (k + 1) ((divs (l.take k) (sgcd l d)).map (Value.int .i64) ++ [Value.int .i64 q])) ?_) HW1.out
          rw [HS.out]
          try rw [Int.tdiv_neg]
         ·exact (((HV.out.drew).alloc _).grown HG1.out (own_ne HW.out (by omega))).far _ (by simp; omega)
        case measure => simp [intOf]; omega
      ·obtain rfl : k = l.length := by omega
       rw [List.take_length] at hown
       obtain ⟨A', c', rfl, hRd, hA'⟩ := Rd.of_ownv hown (by rw [length_divs]) (by rw [length_divs]; exact hsm)
       have hp0 : wr.cell? ⟨w.heap.size + 1 + 1, 0, none⟩ = some (.slice A' (divs l (sgcd l d)).length c') := hB.cell 0
       have hp1 : wr.cell? ⟨w.heap.size + 1 + 1, 1, none⟩ = some (.int .i64 (d.tdiv (sgcd l d))) := hB.cell 1
       have hr0 : wr.cell? ⟨w.heap.size, 0, none⟩ = some (.slice none 0 0) := hRv.cell 0
       have hr1 : wr.cell? ⟨w.heap.size, 1, none⟩ = some (.int .i64 0) := hRv.cell 1
       have hrf0 := hRv.frozen 0
       have hrf1 := hRv.frozen 1
       have HL := h_ hbel
       have HRd := h_ hRd
       have HA := h_ hA'
       clear hB hown hbel hRv hRd hA'
       cases hrb : rightB (divs l (sgcd l d)) (d.tdiv (sgcd l d)) with
       | true =>
        have HE := h_ (show ptE l d = 0 by unfold ptE; rw [if_neg (by simp [h0, HZ.out, h2]), if_pos hrb])
        go_wp2_with fail
        refine (frac_right _ _ _ _ _ HRd.out).mono ?_
        rintro e w' ⟨rfl, n4, rfl⟩
        rw [hrb]
        go_wp2_with fail
        refine bodyPost_ret (v := .tuple #[.agg #[.slice A' (divs l (sgcd l d)).length c', .int .i64 (d.tdiv (sgcd l d))], .int .i64 0]) (by simp [results, Tryz.results34, go_sem, hr0, hr1]) rfl ?_
        unfold RetPt ptN ptD
        rw [HE.out, if_pos rfl, if_pos rfl]
        refine ⟨A', c', rfl, ?_, (by (repeat (any_goals (first | exact qR _ _ | exact HL.out | refine below_drewN ?_ _ | refine qD ?_ | refine qA ?_ ?_ _ | refine qS ?_ ?_ _ | refine Below.trans ?_ (Below.mono HL.out ?_)))); all_goals (first | omega | (simp; done) | (simp; omega) | ((try have z0 := HL.out.size); (try simp at z0); (try simp); omega))), fun ad e => by have := HA.out ad e; omega⟩
        exact ((HRd.out.drewN _).setCell_out _ _ (fun ad e => by have := HA.out ad e; simp; omega)).setCell_out _ _ (fun ad e => by have := HA.out ad e; simp; omega)
       | false =>
        have HE := h_ (show ptE l d = 1 by unfold ptE; rw [if_neg (by simp [h0, HZ.out, h2]), if_neg (by simp [hrb])])
        go_wp2_with fail
        refine (frac_right _ _ _ _ _ HRd.out).mono ?_
        rintro e w' ⟨rfl, n4, rfl⟩
        rw [hrb]
        go_wp2_with fail
        refine bodyPost_ret (v := .tuple #[.agg #[.slice none 0 0, .int .i64 0], .int .i64 1]) (by simp [results, Tryz.results34, go_sem, hr0, hr1]) rfl ?_
        unfold RetPt ptN ptD
        rw [HE.out, if_neg (by omega), if_neg (by omega)]
        refine ⟨none, 0, rfl, Rd.nil _, (by (repeat (any_goals (first | exact qR _ _ | exact HL.out | refine below_drewN ?_ _ | refine qD ?_ | refine qA ?_ ?_ _ | refine qS ?_ ?_ _ | refine Below.trans ?_ (Below.mono HL.out ?_)))); all_goals (first | omega | (simp; done) | (simp; omega) | ((try have z0 := HL.out.size); (try simp at z0); (try simp); omega))), fun ad e => by cases e⟩
end Go.Proofs.YtjcdkbalhleeeaaGreatDoor

namespace Go.Proofs.YtjcdkbalhleeeaaGreatDoor
open Go.RowKit
def RetFr (w : World) (n d er : Int) (e : Ending) (w' : World) : Prop :=
 e = .returned (.tuple #[.agg #[.int .i64 n, .int .i64 d], .int .i64 er]) ∧ Below w.heap.size w w'
theorem frac_Point1 (A : Option Addr) (n : Int) (c : Nat) (d : Int) (w : World) (hr : Rd w A c [n]) :
    Calls Tryz.prog 34 #[.slice A 1 c, .int .i64 d] w (RetPt w (ptN [n] d) (ptD [n] d) (ptE [n] d)) := frac_Point A [n] c d w hr
theorem frac_Make (n d : Int) (w : World) :
    Calls Tryz.prog 83 #[.int .i64 n, .int .i64 d] w (RetFr w (frN n d) (ptD [n] d) (ptE [n] d)) := by
 by_cases h0 : ptE [n] d = 0
 ·have HE := h_ h0
  have hN : ptN [n] d = [frN n d] := by
   unfold frN ptN; rw [if_pos h0]; simp [divs]
  have HN := h_ hN
  clear h0 hN
  go_enter Tryz.func83, Tryz.ntmps83
  go_wp2_with fail
  refine (frac_Point1 _ _ _ _ _ (by exact Rd.new1 _ _ _ _ (by simp))).mono ?_
  rintro e w' ⟨A', c', rfl, hRd, hb, _⟩
  rw [HN.out, HE.out]
  rw [HN.out] at hRd
  obtain ⟨ad, rfl, hc0⟩ := hRd.at_ (k := 0) (by simp)
  have hc1 : w'.cell? ad = some (.int .i64 (frN n d)) := by simpa [Addr.add] using hc0
  have hc2 : ∀ o, (w'.alloc o).cell? ad = some (.int .i64 (frN n d)) := fun o => (World.cell?_alloc_lt w' o ad (lc_ hc1)).trans hc1
  have hV := ((Blk.new w 55 #[.int .i64 0, .int .i64 0] _ rfl).alloc (.cells #[.int .i64 n] 2)).below hb (by simp; omega)
  have hv0 : w'.cell? ⟨w.heap.size, 0, none⟩ = some (.int .i64 0) := hV.cell 0
  have hv1 : w'.cell? ⟨w.heap.size, 1, none⟩ = some (.int .i64 0) := hV.cell 1
  have hf0 := hV.frozen 0
  have hf1 := hV.frozen 1
  have hlt := hV.lt
  have HB := h_ hb
  simp at hc0
  clear hb hRd hV
  go_wp2_with fail
  go_region
  go_wp2_with fail
  refine bodyPost_ret (v := .tuple #[.agg #[.int .i64 (frN n d), .int .i64 (ptD [n] d)], .int .i64 0]) (by simp [results, Tryz.results83, go_sem, hv0, hv1, hlt]) rfl ?_
  exact ⟨by rw [HE.out], (by (repeat (any_goals (first | exact qR _ _ | exact HB.out | refine below_drewN ?_ _ | refine qD ?_ | refine qA ?_ ?_ _ | refine qS ?_ ?_ _ | refine Below.trans ?_ (Below.mono HB.out ?_)))); all_goals (first | omega | (simp; done) | (simp; omega) | ((try have z0 := HB.out.size); (try simp at z0); (try simp); omega)))⟩
 ·have HE := h_ h0
  have hN : ptN [n] d = [] := by unfold ptN; rw [if_neg h0]
  have hD : ptD [n] d = 0 := by unfold ptD; rw [if_neg h0]
  have hF : frN n d = 0 := by unfold frN; rw [hN]; rfl
  rw [hD, hF]
  have HN := h_ hN
  have HD := h_ hD
  clear hN hD hF
  go_enter Tryz.func83, Tryz.ntmps83
  go_wp2_with fail
  refine (frac_Point1 _ _ _ _ _ (by exact Rd.new1 _ _ _ _ (by simp))).mono ?_
  rintro e w' ⟨A', c', rfl, hRd, hb, _⟩
  rw [HN.out, HD.out]
  have hV := ((Blk.new w 55 #[.int .i64 0, .int .i64 0] _ rfl).alloc (.cells #[.int .i64 n] 2)).below hb (by simp; omega)
  have hv0 : w'.cell? ⟨w.heap.size, 0, none⟩ = some (.int .i64 0) := hV.cell 0
  have hv1 : w'.cell? ⟨w.heap.size, 1, none⟩ = some (.int .i64 0) := hV.cell 1
  have hf0 := hV.frozen 0
  have hf1 := hV.frozen 1
  have hlt := hV.lt
  have HB := h_ hb
  clear hb hRd hV
  go_wp2_with fail
  refine bodyPost_ret (v := .tuple #[.agg #[.int .i64 0, .int .i64 0], .int .i64 (ptE [n] d)]) (by simp [results, Tryz.results83, go_sem, hv0, hv1, hlt]) rfl ?_
  exact ⟨rfl, (by (repeat (any_goals (first | exact qR _ _ | exact HB.out | refine below_drewN ?_ _ | refine qD ?_ | refine qA ?_ ?_ _ | refine qS ?_ ?_ _ | refine Below.trans ?_ (Below.mono HB.out ?_)))); all_goals (first | omega | (simp; done) | (simp; omega) | ((try have z0 := HB.out.size); (try simp at z0); (try simp); omega)))⟩
theorem frac_Less (a b c d : Int) (w : World) :
    Calls Tryz.prog 62 #[.agg #[.int .i64 a, .int .i64 b], .agg #[.int .i64 c, .int .i64 d]] w fun e w' => e = .returned (.bool (lessB a b c d)) ∧ Below w.heap.size w w' := by
 cases h1 : mayB [a] b with
 | false =>
  have hv : lessB a b c d = false := by simp [lessB, h1]
  rw [hv]
  clear hv
  go_enter Tryz.func62, Tryz.ntmps62
  go_wp2_with fail
  refine (frac_May _ _ _).mono ?_
  rintro e w' ⟨rfl, hb⟩
  have HB := h_ hb
  clear hb
  go_wp2_with fail
  go_ret
  exact ⟨rfl, (by (repeat (any_goals (first | exact qR _ _ | exact HB.out | refine below_drewN ?_ _ | refine qD ?_ | refine qA ?_ ?_ _ | refine qS ?_ ?_ _ | refine Below.trans ?_ (Below.mono HB.out ?_)))); all_goals (first | omega | (simp; done) | (simp; omega) | ((try have z0 := HB.out.size); (try simp at z0); (try simp); omega)))⟩
 | true =>
  cases h2 : mayB [c] d with
  | false =>
   have hv : lessB a b c d = false := by simp [lessB, h2]
   rw [hv]
   clear hv
   go_enter Tryz.func62, Tryz.ntmps62
   go_wp2_with fail
   refine (frac_May _ _ _).mono ?_
   rintro e w' ⟨rfl, hb⟩
   have hV := (Blk.new (w.alloc (.cells #[.int .i64 a, .int .i64 b] 55)) 55 #[.int .i64 c, .int .i64 d] (w.heap.size + 1) (by simp)).below hb (by simp)
   have hv0 : w'.cell? ⟨w.heap.size + 1, 0, none⟩ = some (.int .i64 c) := hV.cell 0
   have hv1 : w'.cell? ⟨w.heap.size + 1, 1, none⟩ = some (.int .i64 d) := hV.cell 1
   have HB := h_ hb
   clear hb hV
   go_wp2_with fail
   refine (frac_May _ _ _).mono ?_
   rintro e w2 ⟨rfl, hb⟩
   have HB2 := h_ hb
   clear hb
   go_wp2_with fail
   go_ret
   exact ⟨rfl, (by (repeat (any_goals (first | exact qR _ _ | exact HB.out | exact HB2.out | refine below_drewN ?_ _ | refine qD ?_ | refine qA ?_ ?_ _ | refine qS ?_ ?_ _ | refine Below.trans ?_ (Below.mono HB.out ?_) | refine Below.trans ?_ (Below.mono HB2.out ?_)))); all_goals (first | omega | (simp; done) | (simp; omega) | ((try have z0 := HB.out.size); (try simp at z0); (try have z1 := HB2.out.size); (try simp at z1); (try simp); omega)))⟩
  | true =>
   have ha : -1073741824 ≤ a ∧ a ≤ 1073741824 ∧ 1 ≤ b ∧ b ≤ 1073741824 := by
    simp [mayB, rightB, smallB] at h1; omega
   have hc : -1073741824 ≤ c ∧ c ≤ 1073741824 ∧ 1 ≤ d ∧ d ≤ 1073741824 := by
    simp [mayB, rightB, smallB] at h2; omega
   have hv : lessB a b c d = decide (a * d < c * b) := by simp [lessB, h1, h2]
   rw [hv]
   clear hv
   obtain ⟨hm1, hm2⟩ := mul_bound a d 1073741824 1073741824 (by omega) (by omega) (by omega) (by omega)
   obtain ⟨hm3, hm4⟩ := mul_bound c b 1073741824 1073741824 (by omega) (by omega) (by omega) (by omega)
   go_enter Tryz.func62, Tryz.ntmps62
   go_wp2_with fail
   refine (frac_May _ _ _).mono ?_
   rintro e w' ⟨rfl, hb⟩
   have hV := (Blk.new (w.alloc (.cells #[.int .i64 a, .int .i64 b] 55)) 55 #[.int .i64 c, .int .i64 d] (w.heap.size + 1) (by simp)).below hb (by simp)
   have hU := ((Blk.new w 55 #[.int .i64 a, .int .i64 b] _ rfl).alloc (.cells #[.int .i64 c, .int .i64 d] 55)).below hb (by simp; omega)
   have hv0 : w'.cell? ⟨w.heap.size + 1, 0, none⟩ = some (.int .i64 c) := hV.cell 0
   have hv1 : w'.cell? ⟨w.heap.size + 1, 1, none⟩ = some (.int .i64 d) := hV.cell 1
   have HB := h_ hb
   have HV := h_ hV
   have HU := h_ hU
   clear hb hV hU
   go_wp2_with fail
   refine (frac_May _ _ _).mono ?_
   rintro e w2 ⟨rfl, hb⟩
   have hV := HV.out.below hb HV.out.lt
   have hU := HU.out.below hb HU.out.lt
   have hx0 : w2.cell? ⟨w.heap.size + 1, 0, none⟩ = some (.int .i64 c) := hV.cell 0
   have hx1 : w2.cell? ⟨w.heap.size + 1, 1, none⟩ = some (.int .i64 d) := hV.cell 1
   have hx2 : w2.cell? ⟨w.heap.size, 0, none⟩ = some (.int .i64 a) := hU.cell 0
   have hx3 : w2.cell? ⟨w.heap.size, 1, none⟩ = some (.int .i64 b) := hU.cell 1
   have HB2 := h_ hb
   clear hb hV hU hv0 hv1
   go_wp2_with fail
   go_ret
   exact ⟨rfl, (by (repeat (any_goals (first | exact qR _ _ | exact HB.out | exact HB2.out | refine below_drewN ?_ _ | refine qD ?_ | refine qA ?_ ?_ _ | refine qS ?_ ?_ _ | refine Below.trans ?_ (Below.mono HB.out ?_) | refine Below.trans ?_ (Below.mono HB2.out ?_)))); all_goals (first | omega | (simp; done) | (simp; omega) | ((try have z0 := HB.out.size); (try simp at z0); (try have z1 := HB2.out.size); (try simp at z1); (try simp); omega)))⟩
end Go.Proofs.YtjcdkbalhleeeaaGreatDoor

namespace Go.Proofs.YtjcdkbalhleeeaaGreatDoor
open Go.RowKit
theorem layout_fits (A : Option Addr) (c : Nat) (A2 : Option Addr) (c2 : Nat) (p : PG) (X : Option Addr) (l : List Int) (cx : Nat) (d : Int) (w : World) (hp : Pg w A c A2 c2 p) (hx : Rd w X cx l) :
    Calls Tryz.prog 82 #[.agg #[.slice A p.costs.length c, .slice A2 p.rows.length c2], .agg #[.slice X l.length cx, .int .i64 d]] w fun e w' => e = .returned (.bool (fitsB p l d)) ∧ Below w.heap.size w w' := by
 have HP := h_ hp
 have HX := h_ hx
 obtain ⟨⟨hl, hc, hsm, _⟩, ⟨hl2, hc2, hsm2, _⟩⟩ := hp
 obtain ⟨hlx, hcx, hsx, _⟩ := hx
 cases h1 : mayPB p with
 | false =>
  have hv : fitsB p l d = false := by simp [fitsB, h1]
  rw [hv]
  clear hv
  go_enter Tryz.func82, Tryz.ntmps82
  go_wp2_with fail
  refine (layout_May _ _ _ _ _ _ (by exact HP.out.below (by (repeat (any_goals (first | exact qR _ _ | refine below_drewN ?_ _ | refine qD ?_ | refine qA ?_ ?_ _ | refine qS ?_ ?_ _))); all_goals (first | omega | (simp; done) | (simp; omega))))).mono ?_
  rintro e w1 ⟨rfl, hb1⟩
  rw [h1]
  have HB1 := h_ hb1
  clear hb1
  go_wp2_with fail
  go_ret
  exact ⟨rfl, (by (repeat (any_goals (first | exact qR _ _ | exact HB1.out | refine below_drewN ?_ _ | refine qD ?_ | refine qA ?_ ?_ _ | refine qS ?_ ?_ _ | refine Below.trans ?_ (Below.mono HB1.out ?_)))); all_goals (first | omega | (simp; done) | (simp; omega) | ((try have z0 := HB1.out.size); (try simp at z0); (try simp); omega)))⟩
 | true =>
  cases h2 : mayB l d with
  | false =>
   have hv : fitsB p l d = false := by simp [fitsB, h2]
   rw [hv]
   clear hv
   go_enter Tryz.func82, Tryz.ntmps82
   go_wp2_with fail
   refine (layout_May _ _ _ _ _ _ (by exact HP.out.below (by (repeat (any_goals (first | exact qR _ _ | refine below_drewN ?_ _ | refine qD ?_ | refine qA ?_ ?_ _ | refine qS ?_ ?_ _))); all_goals (first | omega | (simp; done) | (simp; omega))))).mono ?_
   rintro e w1 ⟨rfl, hb1⟩
   rw [h1]
   have Vp0 := Blk.next (Blk.alloc (Blk.mk' _ _ _) _) hb1; (try simp only [World.size_alloc, World.size_drew, World.size_setCell, size_drewN'] at Vp0); have Vp := h_ Vp0; clear Vp0; have lVp := Vp.out.lt; have Vx0 := Blk.next (Blk.mk' _ _ _) hb1; (try simp only [World.size_alloc, World.size_drew, World.size_setCell, size_drewN'] at Vx0); have Vx := h_ Vx0; clear Vx0; have lVx := Vx.out.lt; have HX := h_ (HX.out.hop (by (repeat (any_goals (first | exact qR _ _ | refine below_drewN ?_ _ | refine qD ?_ | refine qA ?_ ?_ _ | refine qS ?_ ?_ _))); all_goals (first | omega | (simp; done) | (simp; omega))) hb1); have zhb1 := hb1.size; (try simp only [World.size_alloc, World.size_drew, World.size_setCell, size_drewN'] at zhb1); have HB1 := h_ hb1; clear hb1
   have k0 : w1.cell? ⟨w.heap.size + 1, 0, none⟩ = some (.slice X l.length cx) := Vx.out.cell 0
   have k1 : w1.cell? ⟨w.heap.size + 1, 1, none⟩ = some (.int .i64 d) := Vx.out.cell 1
   go_wp2_with fail
   refine (frac_MayPoint _ _ _ _ _ HX.out).mono ?_
   rintro e w2 ⟨rfl, hb2⟩
   rw [h2]
   have HB2 := h_ hb2
   clear hb2
   go_wp2_with fail
   go_ret
   exact ⟨rfl, (by (repeat (any_goals (first | exact qR _ _ | exact HB1.out | exact HB2.out | refine below_drewN ?_ _ | refine qD ?_ | refine qA ?_ ?_ _ | refine qS ?_ ?_ _ | refine Below.trans ?_ (Below.mono HB1.out ?_) | refine Below.trans ?_ (Below.mono HB2.out ?_)))); all_goals (first | omega | (simp; done) | (simp; omega) | ((try have z0 := HB1.out.size); (try simp at z0); (try have z1 := HB2.out.size); (try simp at z1); (try simp); omega)))⟩
  | true =>
   have hv : fitsB p l d = ((l.length : Int) == (p.costs.length : Int)) := by rw [Bool.eq_iff_iff]; simp [fitsB, h1, h2]; omega
   rw [hv]
   clear hv
   go_enter Tryz.func82, Tryz.ntmps82
   go_wp2_with fail
   refine (layout_May _ _ _ _ _ _ (by exact HP.out.below (by (repeat (any_goals (first | exact qR _ _ | refine below_drewN ?_ _ | refine qD ?_ | refine qA ?_ ?_ _ | refine qS ?_ ?_ _))); all_goals (first | omega | (simp; done) | (simp; omega))))).mono ?_
   rintro e w1 ⟨rfl, hb1⟩
   rw [h1]
   have Vp0 := Blk.next (Blk.alloc (Blk.mk' _ _ _) _) hb1; (try simp only [World.size_alloc, World.size_drew, World.size_setCell, size_drewN'] at Vp0); have Vp := h_ Vp0; clear Vp0; have lVp := Vp.out.lt; have Vx0 := Blk.next (Blk.mk' _ _ _) hb1; (try simp only [World.size_alloc, World.size_drew, World.size_setCell, size_drewN'] at Vx0); have Vx := h_ Vx0; clear Vx0; have lVx := Vx.out.lt; have HX := h_ (HX.out.hop (by (repeat (any_goals (first | exact qR _ _ | refine below_drewN ?_ _ | refine qD ?_ | refine qA ?_ ?_ _ | refine qS ?_ ?_ _))); all_goals (first | omega | (simp; done) | (simp; omega))) hb1); have zhb1 := hb1.size; (try simp only [World.size_alloc, World.size_drew, World.size_setCell, size_drewN'] at zhb1); have HB1 := h_ hb1; clear hb1
   have k0 : w1.cell? ⟨w.heap.size + 1, 0, none⟩ = some (.slice X l.length cx) := Vx.out.cell 0
   have k1 : w1.cell? ⟨w.heap.size + 1, 1, none⟩ = some (.int .i64 d) := Vx.out.cell 1
   go_wp2_with fail
   refine (frac_MayPoint _ _ _ _ _ HX.out).mono ?_
   rintro e w2 ⟨rfl, hb2⟩
   rw [h2]
   have Vp := h_ (Blk.hop Vp.out (by (repeat (any_goals (first | exact qR _ _ | refine below_drewN ?_ _ | refine qD ?_ | refine qA ?_ ?_ _ | refine qS ?_ ?_ _))); all_goals (first | omega | (simp; done) | (simp; omega))) hb2); have lVp := Vp.out.lt; have Vx := h_ (Blk.hop Vx.out (by (repeat (any_goals (first | exact qR _ _ | refine below_drewN ?_ _ | refine qD ?_ | refine qA ?_ ?_ _ | refine qS ?_ ?_ _))); all_goals (first | omega | (simp; done) | (simp; omega))) hb2); have lVx := Vx.out.lt; have zhb2 := hb2.size; (try simp only [World.size_alloc, World.size_drew, World.size_setCell, size_drewN'] at zhb2); have HB2 := h_ hb2; clear hb2
   have k2 : w2.cell? ⟨w.heap.size + 1, 0, none⟩ = some (.slice X l.length cx) := Vx.out.cell 0
   have k3 : w2.cell? ⟨w.heap.size, 0, none⟩ = some (.slice A p.costs.length c) := Vp.out.cell 0
   go_wp2_with fail
   go_ret
   exact ⟨rfl, (by (repeat (any_goals (first | exact qR _ _ | exact HB1.out | exact HB2.out | refine below_drewN ?_ _ | refine qD ?_ | refine qA ?_ ?_ _ | refine qS ?_ ?_ _ | refine Below.trans ?_ (Below.mono HB1.out ?_) | refine Below.trans ?_ (Below.mono HB2.out ?_)))); all_goals (first | omega | (simp; done) | (simp; omega) | ((try have z0 := HB1.out.size); (try simp at z0); (try have z1 := HB2.out.size); (try simp at z1); (try simp); omega)))⟩
set_option maxRecDepth 100000 in
theorem layout_Worth (A : Option Addr) (c : Nat) (A2 : Option Addr) (c2 : Nat) (p : PG) (X : Option Addr) (l : List Int) (cx : Nat) (d : Int) (w : World) (hp : Pg w A c A2 c2 p) (hx : Rd w X cx l) :
    Calls Tryz.prog 36 #[.agg #[.slice A p.costs.length c, .slice A2 p.rows.length c2], .agg #[.slice X l.length cx, .int .i64 d]] w
     (RetFr w (worN p l d) (worD p l d) (worE p l d)) := by
 unfold worN worD worE
 have HP := h_ hp
 have HX := h_ hx
 obtain ⟨⟨hl, hc, hsm, _⟩, ⟨hl2, hc2, hsm2, _⟩⟩ := hp
 obtain ⟨hlx, hcx, hsx, _⟩ := hx
 cases h1 : fitsB p l d with
 | false =>
  simp only [Bool.false_eq_true, if_false]
  go_enter Tryz.func36, Tryz.ntmps36
  go_wp2_with fail
  refine (layout_fits _ _ _ _ _ _ _ _ _ _ (by exact HP.out.below (by (repeat (any_goals (first | exact qR _ _ | refine below_drewN ?_ _ | refine qD ?_ | refine qA ?_ ?_ _ | refine qS ?_ ?_ _))); all_goals (first | omega | (simp; done) | (simp; omega)))) (by exact HX.out.below (by (repeat (any_goals (first | exact qR _ _ | refine below_drewN ?_ _ | refine qD ?_ | refine qA ?_ ?_ _ | refine qS ?_ ?_ _))); all_goals (first | omega | (simp; done) | (simp; omega))))).mono ?_
  rintro e w1 ⟨rfl, hb1⟩
  rw [h1]
  have Vp0 := Blk.next (Blk.alloc (Blk.alloc (Blk.mk' _ _ _) _) _) hb1; (try simp only [World.size_alloc, World.size_drew, World.size_setCell, size_drewN'] at Vp0); have Vp := h_ Vp0; clear Vp0; have lVp := Vp.out.lt; have Vx0 := Blk.next (Blk.alloc (Blk.mk' _ _ _) _) hb1; (try simp only [World.size_alloc, World.size_drew, World.size_setCell, size_drewN'] at Vx0); have Vx := h_ Vx0; clear Vx0; have lVx := Vx.out.lt; have Vr0 := Blk.next (Blk.mk' _ _ _) hb1; (try simp only [World.size_alloc, World.size_drew, World.size_setCell, size_drewN'] at Vr0); have Vr := h_ Vr0; clear Vr0; have lVr := Vr.out.lt; have zhb1 := hb1.size; (try simp only [World.size_alloc, World.size_drew, World.size_setCell, size_drewN'] at zhb1); have HB1 := h_ hb1; clear hb1
  have k0 : w1.cell? ⟨w.heap.size + 1 + 1, 0, none⟩ = some (.int .i64 0) := Vr.out.cell 0
  have k1 : w1.cell? ⟨w.heap.size + 1 + 1, 1, none⟩ = some (.int .i64 0) := Vr.out.cell 1
  have k2 := Vr.out.frozen 0
  have k3 := Vr.out.frozen 1
  go_wp2_with fail
  refine bodyPost_ret (v := .tuple #[.agg #[.int .i64 0, .int .i64 0], .int .i64 2]) (by simp [results, Tryz.results36, go_sem, k0, k1]) rfl ?_
  exact ⟨rfl, (by (repeat (any_goals (first | exact qR _ _ | exact HB1.out | refine below_drewN ?_ _ | refine qD ?_ | refine qA ?_ ?_ _ | refine qS ?_ ?_ _ | refine Below.trans ?_ (Below.mono HB1.out ?_)))); all_goals (first | omega | (simp; done) | (simp; omega) | ((try have z0 := HB1.out.size); (try simp at z0); (try simp); omega)))⟩
 | true =>
  simp only [if_true]
  obtain ⟨hf1, hf2, hf3⟩ := fitsB_iff.1 h1
  obtain ⟨hd1, hd2, hsX, hl8⟩ := mayB_parts hf2
  obtain ⟨g1, g2, g3, g4, g5, g6⟩ := mayPB_iff.1 hf1
  have HD := h_ (show ∀ W : World, Rd W A c p.costs → Rd W X cx l → Calls Tryz.prog 84 #[.slice A p.costs.length c, .slice X l.length cx] W fun e w' => e = .returned (.int .i64 (dot p.costs l)) ∧ w' = W from
            fun W h1 h2 => layout_Dot0 A p.costs c X l cx 400 1073741824 W h1 h2 (by omega) (by omega) (by omega) g5 hsX (by omega))
  clear hf1 hf2 hf3 hsX g1 g2 g3 g4 g5 g6
  go_enter Tryz.func36, Tryz.ntmps36
  go_wp2_with fail
  refine (layout_fits _ _ _ _ _ _ _ _ _ _ (by exact HP.out.below (by (repeat (any_goals (first | exact qR _ _ | refine below_drewN ?_ _ | refine qD ?_ | refine qA ?_ ?_ _ | refine qS ?_ ?_ _))); all_goals (first | omega | (simp; done) | (simp; omega)))) (by exact HX.out.below (by (repeat (any_goals (first | exact qR _ _ | refine below_drewN ?_ _ | refine qD ?_ | refine qA ?_ ?_ _ | refine qS ?_ ?_ _))); all_goals (first | omega | (simp; done) | (simp; omega))))).mono ?_
  rintro e w1 ⟨rfl, hb1⟩
  rw [h1]
  clear h1
  have Vp0 := Blk.next (Blk.alloc (Blk.alloc (Blk.mk' _ _ _) _) _) hb1; (try simp only [World.size_alloc, World.size_drew, World.size_setCell, size_drewN'] at Vp0); have Vp := h_ Vp0; clear Vp0; have lVp := Vp.out.lt; have Vx0 := Blk.next (Blk.alloc (Blk.mk' _ _ _) _) hb1; (try simp only [World.size_alloc, World.size_drew, World.size_setCell, size_drewN'] at Vx0); have Vx := h_ Vx0; clear Vx0; have lVx := Vx.out.lt; have Vr0 := Blk.next (Blk.mk' _ _ _) hb1; (try simp only [World.size_alloc, World.size_drew, World.size_setCell, size_drewN'] at Vr0); have Vr := h_ Vr0; clear Vr0; have lVr := Vr.out.lt; have HX := h_ (HX.out.hop (by (repeat (any_goals (first | exact qR _ _ | refine below_drewN ?_ _ | refine qD ?_ | refine qA ?_ ?_ _ | refine qS ?_ ?_ _))); all_goals (first | omega | (simp; done) | (simp; omega))) hb1); have HP := h_ (HP.out.hop (by (repeat (any_goals (first | exact qR _ _ | refine below_drewN ?_ _ | refine qD ?_ | refine qA ?_ ?_ _ | refine qS ?_ ?_ _))); all_goals (first | omega | (simp; done) | (simp; omega))) hb1); have zhb1 := hb1.size; (try simp only [World.size_alloc, World.size_drew, World.size_setCell, size_drewN'] at zhb1); have HB1 := h_ hb1; clear hb1
  have k0 : w1.cell? ⟨w.heap.size + 1 + 1, 0, none⟩ = some (.int .i64 0) := Vr.out.cell 0
  have k1 : w1.cell? ⟨w.heap.size + 1 + 1, 1, none⟩ = some (.int .i64 0) := Vr.out.cell 1
  have k2 := Vr.out.frozen 0
  have k3 := Vr.out.frozen 1
  have k4 : w1.cell? ⟨w.heap.size, 0, none⟩ = some (.slice A p.costs.length c) := Vp.out.cell 0
  have k5 : w1.cell? ⟨w.heap.size + 1, 0, none⟩ = some (.slice X l.length cx) := Vx.out.cell 0
  have k6 : w1.cell? ⟨w.heap.size + 1, 1, none⟩ = some (.int .i64 d) := Vx.out.cell 1
  go_wp2_with fail
  have SK := h_ (show ∀ w', Below (w.heap.size + 1 + 1) w1 w' → (w'.cell? ⟨w.heap.size, 0, none⟩ = some (.slice A p.costs.length c) ∧ w'.cell? ⟨w.heap.size + 1, 0, none⟩ = some (.slice X l.length cx) ∧ w'.cell? ⟨w.heap.size + 1, 1, none⟩ = some (.int .i64 d)) from fun w' h =>
   ⟨(Vp.out.below h (by omega)).cell 0, (Vx.out.below h (by omega)).cell 0, (Vx.out.below h (by omega)).cell 1⟩)
  have hlr := Vr.out.lt
  go_region_held3 (fun w' => (w'.cell? ⟨w.heap.size, 0, none⟩ = some (.slice A p.costs.length c) ∧ w'.cell? ⟨w.heap.size + 1, 0, none⟩ = some (.slice X l.length cx) ∧ w'.cell? ⟨w.heap.size + 1, 1, none⟩ = some (.int .i64 d)))
   (first | (refine SK.out _ ?_; exact (by (repeat (any_goals (first | exact qR _ _ | exact hb3 | refine below_drewN ?_ _ | refine qD ?_ | refine qA ?_ ?_ _ | refine qS ?_ ?_ _ | refine Below.trans ?_ (Below.mono hb3 ?_)))); all_goals (first | omega | (simp; done) | (simp; omega) | ((try have z0 := hb3.size); (try simp at z0); (try simp); omega)))))
   (first
    | (go_at_call 84; refine (HD.out _ (by exact HP.out.costs.drew) (by exact HX.out.drew)).mono ?_; rintro e w2 ⟨rfl, rfl⟩)
    | (go_at_call 83; refine (frac_Make _ _ _).mono ?_; rintro e w3 ⟨rfl, hb3⟩; have hV3 := Vr.out.drew.next hb3; have q0 : w3.cell? ⟨w.heap.size + 1 + 1, 0, none⟩ = some (.int .i64 0) := hV3.cell 0; have q1 : w3.cell? ⟨w.heap.size + 1 + 1, 1, none⟩ = some (.int .i64 0) := hV3.cell 1; have q2 := hV3.frozen 0; have q3 := hV3.frozen 1))
  have HB3 := h_ hb3
  clear hb3
  go_wp2_with fail
  refine bodyPost_ret (v := .tuple #[.agg #[.int .i64 (frN (dot p.costs l) d), .int .i64 (ptD [dot p.costs l] d)], .int .i64 (ptE [dot p.costs l] d)]) (by simp [results, Tryz.results36, go_sem, q0, q1]) rfl ?_
  exact ⟨rfl, (by (repeat (any_goals (first | exact qR _ _ | exact HB1.out | exact HB3.out | refine below_drewN ?_ _ | refine qD ?_ | refine qA ?_ ?_ _ | refine qS ?_ ?_ _ | refine Below.trans ?_ (Below.mono HB1.out ?_) | refine Below.trans ?_ (Below.mono HB3.out ?_)))); all_goals (first | omega | (simp; done) | (simp; omega) | ((try have z0 := HB1.out.size); (try simp at z0); (try have z1 := HB3.out.size); (try simp at z1); (try simp); omega)))⟩
end Go.Proofs.YtjcdkbalhleeeaaGreatDoor

namespace Go.Proofs.YtjcdkbalhleeeaaGreatDoor
open Go.RowKit
theorem ref1_size (n : Int) (w : World) (h : -9223372036854775807 ≤ n) (h' : n ≤ 9223372036854775807) :
    Calls Tryz.prog 122 #[.int .i64 n] w fun e w' => e = .returned (.int .i64 n.natAbs) ∧ w = w' := by
 by_cases h0 : n < 0
 ·have e : (n.natAbs : Int) = -n := by omega
  rw [e]
  clear e
  go_enter Tryz.func122, Tryz.ntmps122
  go_wp2_with fail
  go_ret
  exact ⟨ret_int (by simp), rfl⟩
 ·have e : (n.natAbs : Int) = n := by omega
  rw [e]
  clear e
  go_enter Tryz.func122, Tryz.ntmps122
  go_wp2_with fail
  go_ret
  exact ⟨rfl, rfl⟩
theorem ref1_common (k : Nat) : ∀ (a b : Nat) (w : World), b ≤ k → a ≤ 4611686018427387904 → b ≤ 4611686018427387904 →
    Calls Tryz.prog 153 #[.int .i64 a, .int .i64 b] w fun e w' => e = .returned (.int .i64 (Nat.gcd a b)) ∧ w = w' := by
 induction k with
 | zero =>
  intro a b w hk ha hb
  obtain rfl : b = 0 := by omega
  go_enter Tryz.func153, Tryz.ntmps153
  go_wp2_with fail
  go_ret
  exact ⟨ret_int (by simp), rfl⟩
 | succ k ih =>
  intro a b w hk ha hb
  have IH := h_ ih
  clear ih
  by_cases h0 : b = 0
  ·subst h0
   go_enter Tryz.func153, Tryz.ntmps153
   go_wp2_with fail
   go_ret
   exact ⟨ret_int (by simp), rfl⟩
  ·have hz : ((b : Int) == 0) = false := by simp; omega
   have hm : a % b < b := Nat.mod_lt _ (by omega)
   have he : Nat.gcd a b = Nat.gcd b (a % b) := by rw [Nat.gcd_comm, Nat.gcd_rec, Nat.gcd_comm]
   rw [he]
   clear he
   go_enter Tryz.func153, Tryz.ntmps153
   go_wp2_with fail
   rw [show ((a : Int) % (b : Int)) = ((a % b : Nat) : Int) from by simp]
   refine (IH.out b (a % b) _ (by omega) (by omega) (by omega)).mono ?_
   rintro e w' ⟨rfl, rfl⟩
   go_wp2_with fail
   go_ret
   exact ⟨rfl, rfl⟩
theorem ref1_commonI (a b : Int) (w : World) (ha : 0 ≤ a) (hb : 0 ≤ b) (ha' : a ≤ 4611686018427387904) (hb' : b ≤ 4611686018427387904) :
    Calls Tryz.prog 153 #[.int .i64 a, .int .i64 b] w fun e w' => e = .returned (.int .i64 (Nat.gcd a.natAbs b.natAbs)) ∧ w = w' := by
 obtain ⟨a, rfl⟩ := Int.eq_ofNat_of_zero_le ha
 obtain ⟨b, rfl⟩ := Int.eq_ofNat_of_zero_le hb
 exact ref1_common b a b w (Nat.le_refl _) (by omega) (by omega)
theorem ref1_All (A : Option Addr) (l : List Int) (c : Nat) (d : Nat) (w : World) (hd : d ≤ 4611686018427387904) (hs : smallB 4611686018427387904 l = true) (hr : Rd w A c l) :
    Calls Tryz.prog 123 #[.slice A l.length c, .int .i64 d] w fun e w' => e = .returned (.int .i64 (comm d l)) ∧ w = w' := by
 have HR := h_ hr
 obtain ⟨hl, hc, hsm, _⟩ := hr
 have HB := h_ (show ∀ n ∈ l, n.natAbs ≤ 4611686018427387904 from fun n hn => by have := smallB_mem hs hn; omega)
 have HS := h_ hs
 clear hs
 go_enter Tryz.func123, Tryz.ntmps123
 go_wp2_with fail
 go_loop [5, 6] (fun g i => ∃ k : Nat, k ≤ l.length ∧ g = .int .i64 (comm d (l.take k)) ∧ i = .int .i64 k) (fun _ i => l.length - (intOf i).toNat)
 case atStart => exact ⟨0, by omega, rfl, rfl⟩
 case round =>
  obtain ⟨k, hk, rfl, rfl⟩ := hrel
  have hb1 : comm d (l.take k) ≤ 4611686018427387904 := comm_bound _ _ _ hd fun x hx => HB.out x (List.mem_of_mem_take hx)
  by_cases hlt : k < l.length
  ·obtain ⟨ad, rfl, hc1⟩ := HR.out.at_ hlt
   obtain ⟨hb2, hb3⟩ := smallB_at HS.out hlt
   have HT := h_ (comm_take d hlt)
   go_wp2_with fail
   refine (ref1_size _ _ (by omega) (by omega)).mono ?_
   rintro e w' ⟨rfl, rfl⟩
   go_wp2_with fail
   refine (ref1_commonI _ _ _ (by omega) (by omega) (by omega) (by omega)).mono ?_
   rintro e w' ⟨rfl, rfl⟩
   go_wp2_with fail
   go_round
   case rel => exact ⟨k + 1, by omega, by rw [HT.out]; try simp, by go_num⟩
   case measure => simp [intOf]; omega
  ·obtain rfl : k = l.length := by omega
   go_wp2_with fail
   go_ret
   exact ⟨ret_int (by simp), rfl⟩
theorem ref1_AllI (A : Option Addr) (l : List Int) (c : Nat) (d : Int) (w : World) (h0 : 0 ≤ d) (hd : d ≤ 4611686018427387904) (hs : smallB 4611686018427387904 l = true) (hr : Rd w A c l) :
    Calls Tryz.prog 123 #[.slice A l.length c, .int .i64 d] w fun e w' => e = .returned (.int .i64 (comm d.natAbs l)) ∧ w = w' := by
 obtain ⟨d, rfl⟩ := Int.eq_ofNat_of_zero_le h0
 exact ref1_All A l c d w (by omega) hs hr
theorem ref1_within (A : Option Addr) (l : List Int) (c : Nat) (m : Int) (w : World) (hm : 0 ≤ m) (hm' : m ≤ 4611686018427387904) (hr : Rd w A c l) :
    Calls Tryz.prog 121 #[.slice A l.length c, .int .i64 m] w fun e w' => e = .returned (.bool (smallB m l)) ∧ w = w' := by
 have HR := h_ hr
 obtain ⟨hl, hc, hsm, _⟩ := hr
 go_enter Tryz.func121, Tryz.ntmps121
 go_wp2_with fail
 go_loop [5] (fun i => ∃ k : Nat, k ≤ l.length ∧ smallB m (l.take k) = true ∧ i = .int .i64 k) (fun i => l.length - (intOf i).toNat)
 case atStart => exact ⟨0, by omega, by simp [smallB], rfl⟩
 case round =>
  obtain ⟨k, hk, hs, rfl⟩ := hrel
  have HS := h_ hs
  clear hs
  by_cases hlt : k < l.length
  ·obtain ⟨ad, rfl, hc1⟩ := HR.out.at_ hlt
   have HT := h_ (smallB_take (m := m) hlt)
   have HF := h_ (smallB_false (m := m) hlt)
   by_cases h1 : l[k] < -m
   ·go_wp2_with fail
    go_ret
    exact ⟨ret_bool (HF.out (by simp; omega)).symm, rfl⟩
   ·by_cases h2 : m < l[k]
    ·go_wp2_with fail
     go_ret
     exact ⟨ret_bool (HF.out (by simp; omega)).symm, rfl⟩
    ·go_wp2_with fail
     go_round
     case rel => exact ⟨k + 1, by omega, by rw [HT.out, HS.out]; simp; omega, by go_num⟩
     case measure => simp [intOf]; omega
  ·obtain rfl : k = l.length := by omega
   go_wp2_with fail
   go_ret
   exact ⟨ret_bool (by rw [← HS.out, List.take_length]), rfl⟩
theorem ref1_within1 (A : Option Addr) (n : Int) (c : Nat) (m : Int) (w : World) (hm : 0 ≤ m) (hm' : m ≤ 4611686018427387904) (hr : Rd w A c [n]) :
    Calls Tryz.prog 121 #[.slice A 1 c, .int .i64 m] w fun e w' => e = .returned (.bool (smallB m [n])) ∧ w = w' := ref1_within A [n] c m w hm hm' hr
theorem ref1_MayPoint (A : Option Addr) (l : List Int) (c : Nat) (d : Int) (w : World) (hr : Rd w A c l) :
    Calls Tryz.prog 124 #[.agg #[.slice A l.length c, .int .i64 d]] w fun e w' => e = .returned (.bool (mayB l d)) ∧ Below w.heap.size w w' := by
 have HR := h_ hr
 obtain ⟨hl, hc, hsm, _⟩ := hr
 by_cases h1 : d < 1
 ·have hv : mayB l d = false := by simp [mayB, rightB]; omega
  rw [hv]
  clear hv
  go_enter Tryz.func124, Tryz.ntmps124
  go_wp2_with fail
  go_ret
  exact ⟨rfl, (by (repeat (any_goals (first | exact qR _ _ | refine below_drewN ?_ _ | refine qD ?_ | refine qA ?_ ?_ _ | refine qS ?_ ?_ _))); all_goals (first | omega | (simp; done) | (simp; omega)))⟩
 by_cases h2 : 1073741824 < d
 ·have hv : mayB l d = false := by simp [mayB, rightB]; omega
  rw [hv]
  clear hv
  go_enter Tryz.func124, Tryz.ntmps124
  go_wp2_with fail
  go_ret
  exact ⟨rfl, (by (repeat (any_goals (first | exact qR _ _ | refine below_drewN ?_ _ | refine qD ?_ | refine qA ?_ ?_ _ | refine qS ?_ ?_ _))); all_goals (first | omega | (simp; done) | (simp; omega)))⟩
 cases hs : smallB 1073741824 l with
 | false =>
  have hv : mayB l d = false := by simp [mayB, rightB, hs]
  rw [hv]
  clear hv
  go_enter Tryz.func124, Tryz.ntmps124
  go_wp2_with fail
  refine (ref1_within _ _ _ _ _ (by omega) (by omega) (by exact HR.out.alloc _)).mono ?_
  rintro e w' ⟨rfl, rfl⟩
  rw [hs]
  go_wp2_with fail
  go_ret
  exact ⟨rfl, (by (repeat (any_goals (first | exact qR _ _ | refine below_drewN ?_ _ | refine qD ?_ | refine qA ?_ ?_ _ | refine qS ?_ ?_ _))); all_goals (first | omega | (simp; done) | (simp; omega)))⟩
 | true =>
  have hz := h_ (show smallB 4611686018427387904 l = true by rw [smallB_iff]; intro n hn; have := smallB_mem hs hn; omega)
  by_cases h3 : l.length ≤ 8
  ·have hv : mayB l d = ((comm d.natAbs l : Int) == 1) := by rw [Bool.eq_iff_iff]; simp [mayB, rightB, hs]; omega
   rw [hv]
   clear hv
   go_enter Tryz.func124, Tryz.ntmps124
   go_wp2_with fail
   refine (ref1_within _ _ _ _ _ (by omega) (by omega) (by exact HR.out.alloc _)).mono ?_
   rintro e w' ⟨rfl, rfl⟩
   rw [hs]
   go_wp2_with fail
   refine (ref1_AllI _ _ _ _ _ (by omega) (by omega) hz.out (by exact HR.out.alloc _)).mono ?_
   rintro e w' ⟨rfl, rfl⟩
   go_wp2_with fail
   go_ret
   exact ⟨rfl, (by (repeat (any_goals (first | exact qR _ _ | refine below_drewN ?_ _ | refine qD ?_ | refine qA ?_ ?_ _ | refine qS ?_ ?_ _))); all_goals (first | omega | (simp; done) | (simp; omega)))⟩
  ·have hv : mayB l d = false := by simp [mayB, rightB, hs]; omega
   rw [hv]
   clear hv
   go_enter Tryz.func124, Tryz.ntmps124
   go_wp2_with fail
   refine (ref1_within _ _ _ _ _ (by omega) (by omega) (by exact HR.out.alloc _)).mono ?_
   rintro e w' ⟨rfl, rfl⟩
   rw [hs]
   go_wp2_with fail
   go_ret
   exact ⟨ret_bool (by simp <;> omega), (by (repeat (any_goals (first | exact qR _ _ | refine below_drewN ?_ _ | refine qD ?_ | refine qA ?_ ?_ _ | refine qS ?_ ?_ _))); all_goals (first | omega | (simp; done) | (simp; omega)))⟩
end Go.Proofs.YtjcdkbalhleeeaaGreatDoor
