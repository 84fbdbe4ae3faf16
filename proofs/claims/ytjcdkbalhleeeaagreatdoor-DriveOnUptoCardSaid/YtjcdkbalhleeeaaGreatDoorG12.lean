/-
  Contracts of functions and plain laws that later parts of the proof use. The conditions stand in each theorem.
-/
import Derived.Test.YtjcdkbalhleeeaaGreatDoorG11
import Derived.Test.YtjcdkbalhleeeaaGreatDoorG02
import Derived.Test.YtjcdkbalhleeeaaGreatDoorG08
import Derived.StillTail
import Derived.Deep.DeepCutAuto
import Derived.StillTailTactics
namespace Go.Proofs.YtjcdkbalhleeeaaGreatDoor
open Go.RowKit

section
variable {w w' : World} {base n : Nat} {e : TypeId} {v : Value} {xs : List Value}
theorem own_same (h : w.ownsRow base e 1 v n xs) (hs : ∀ b, v.ownBlock = some b → w'.heap[b]? = w.heap[b]?) : w'.ownsRow base e 1 v n xs := by
  refine ⟨h.1, ?_⟩
  rcases h.2 with q | ⟨g, cap, cur, rfl, hb, hg, r⟩
  · exact .inl q
  · exact .inr ⟨g, cap, cur, rfl, hb, (hs g rfl).trans hg, r⟩
theorem own_weak {base' : Nat} (h : w.ownsRow base e 1 v n xs) (hb : base' ≤ base) : w.ownsRow base' e 1 v n xs := by
  refine ⟨h.1, ?_⟩
  rcases h.2 with q | ⟨g, cap, cur, rfl, hb', hg, r⟩
  · exact .inl q
  · exact .inr ⟨g, cap, cur, rfl, by omega, hg, r⟩
theorem own_cell' {g cap : Nat} (h : w.ownsRow base e 1 (.slice (some ⟨g, 0, none⟩) n cap) n xs) (j : Nat) (u : Value) (hu : xs[j]? = some u) : w.cell? ⟨g, j, none⟩ = some u := by
  have := h.cells (g := g) rfl j u hu
  rwa [addz] at this
theorem own_free' {g cap : Nat} (h : w.ownsRow base e 1 (.slice (some ⟨g, 0, none⟩) n cap) n xs) (j : Nat) : w.frozen? ⟨g, j, none⟩ = false := by
  rcases h.2 with ⟨e, _⟩ | ⟨g', cap', cur, e, hb, hg, _⟩
  · injection e with e1; cases e1
  · injection e with e1
    injection e1 with e1; injection e1 with e1
    subst e1
    exact Blk.frozen (w := w) hg j
theorem own_caps {g cap : Nat} (h : w.ownsRow base e 1 (.slice (some ⟨g, 0, none⟩) n cap) n xs) : n ≤ cap ∧ cap ≤ 9223372036854775807 := by
  rcases h.2 with ⟨e, _⟩ | ⟨g', cap', cur, e, hb, hg, h1, h2, _⟩
  · injection e with e1; cases e1
  · injection e with e1 e2 e3
    subst e3
    exact ⟨h1, by unfold maxLen at h2; omega⟩
/-- A slice that owns something is somewhere. -/
theorem own_some (h : w.ownsRow base e 1 v n xs) (hn : n ≠ 0) : ∃ g c, v = .slice (some ⟨g, 0, none⟩) n c := by
  rcases h.2 with ⟨_, q⟩ | ⟨g, cap, cur, q, _⟩
  · exact absurd q hn
  · exact ⟨g, cap, q⟩
/-- One cell of an own row stored. -/
theorem own_put {g cap : Nat} (h : w.ownsRow base e 1 (.slice (some ⟨g, 0, none⟩) n cap) n xs) (k : Nat) (u : Value) :
    (w.setCell ⟨g, k, none⟩ u).ownsRow base e 1 (.slice (some ⟨g, 0, none⟩) n cap) n (xs.set k u) := by
  obtain ⟨hx, hr⟩ := h
  refine ⟨by simpa using hx, Or.inr ?_⟩
  rcases hr with ⟨q, _⟩ | ⟨g', cap', cur, q, hb, hg, hnc, hcm, hcs, htake⟩
  · injection q with e1; cases e1
  · injection q with e1 e2 e3
    injection e1 with e1; injection e1 with e1
    subst e1 e3
    refine ⟨g, cap, cur.setIfInBounds k u, rfl, hb, ?_, hnc, hcm, by simpa using hcs, ?_⟩
    · exact Blk.set0 (w := w) (t := e) hg k _
    · rw [Array.toList_setIfInBounds, List.take_set, htake]
end

/-- A slice of the call's own, of k rows of n numbers, each of the call's own. -/
structure RowsM (w : World) (base : Nat) (v : Value) (k n : Nat) (g c : Nat → Nat) (M : Nat → Nat → Int) : Prop where
  own : w.ownsRow base 25 1 v k ((List.range k).map fun i => Value.slice (some ⟨g i, 0, none⟩) n (c i))
  row : ∀ i, i < k → w.ownsRow base 2 1 (.slice (some ⟨g i, 0, none⟩) n (c i)) n ((List.range n).map fun j => Value.int .i64 (M i j))
  inj : ∀ i j, i < k → j < k → g i = g j → i = j
  ne : ∀ i, i < k → v.ownBlock ≠ some (g i)
/-- Its blocks. -/
def rowsS (v : Value) (k : Nat) (g : Nat → Nat) (b : Nat) : Prop := v.ownBlock = some b ∨ ∃ i, i < k ∧ g i = b
section
variable {w w' : World} {base k n : Nat} {v : Value} {g c : Nat → Nat} {M : Nat → Nat → Int}
theorem RowsM.nil (w : World) (base n : Nat) (g c : Nat → Nat) (M : Nat → Nat → Int) : RowsM w base (.slice none 0 0) 0 n g c M :=
  ⟨World.ownsRow_nil _ _ _ _, fun i hi => by omega, fun i j hi => by omega, fun i hi => by omega⟩
theorem RowsM.lt (h : RowsM w base v k n g c M) {b : Nat} (hb : rowsS v k g b) : base ≤ b ∧ b < w.heap.size := by
  rcases hb with hb | ⟨i, hi, rfl⟩
  · exact h.own.lt b hb
  · exact (h.row i hi).lt (g i) rfl
theorem RowsM.same (h : RowsM w base v k n g c M) (hs : ∀ b, rowsS v k g b → w'.heap[b]? = w.heap[b]?) : RowsM w' base v k n g c M :=
  ⟨own_same h.own fun b hb => hs b (.inl hb), fun i hi => own_same (h.row i hi) fun b hb => hs b (.inr ⟨i, hi, by injection hb⟩), h.inj, h.ne⟩
theorem RowsM.below (h : RowsM w base v k n g c M) {B : Nat} (hb : Below B w w') (hB : w.heap.size ≤ B) : RowsM w' base v k n g c M :=
  h.same fun b hb' => hb.block b (by have := h.lt hb'; omega)
theorem RowsM.grown (h : RowsM w base v k n g c M) {row : Option Nat} (hg : w.grownBy w' row) (hr : ∀ b, row = some b → ¬ rowsS v k g b) : RowsM w' base v k n g c M :=
  h.same fun b hb => hg.block b (h.lt hb).2 fun q => hr b q.symm hb
/-- One row more: the row lies apart, and stays; the slice has grown. -/
theorem RowsM.push (h : RowsM w base v k n g c M) {r cr o cap : Nat}
    (hr : w.ownsRow base 2 1 (.slice (some ⟨r, 0, none⟩) n cr) n ((List.range n).map fun j => Value.int .i64 (M k j))) (hn : ¬ rowsS v k g r)
    (hown : w'.ownsRow base 25 1 (.slice (some ⟨o, 0, none⟩) (k + 1) cap) (k + 1) (((List.range k).map fun i => Value.slice (some ⟨g i, 0, none⟩) n (c i)) ++ [.slice (some ⟨r, 0, none⟩) n cr]))
    (hg : w.grownBy w' v.ownBlock) (hat : v.ownBlock = some o ∨ o = w.heap.size) :
    RowsM w' base (.slice (some ⟨o, 0, none⟩) (k + 1) cap) (k + 1) n (fun i => if i = k then r else g i) (fun i => if i = k then cr else c i) M := by
  have hlt : r < w.heap.size := (hr.lt r rfl).2
  have ho : ∀ i, i < k → o ≠ g i := fun i hi e => by
    rcases hat with q | q
    · exact h.ne i hi (by rw [q, e])
    · have := ((h.row i hi).lt (g i) rfl).2; omega
  have hor : o ≠ r := fun e => by
    rcases hat with q | q
    · exact hn (.inl (by rw [q, e]))
    · omega
  refine ⟨?_, fun i hi => ?_, fun i j hi hj e => ?_, fun i hi => ?_⟩
  · have e1 : ((List.range (k + 1)).map fun i => Value.slice (some ⟨if i = k then r else g i, 0, none⟩) n (if i = k then cr else c i)) = ((List.range k).map fun i => Value.slice (some ⟨g i, 0, none⟩) n (c i)) ++ [.slice (some ⟨r, 0, none⟩) n cr] := by
      rw [List.range_succ, List.map_append]
      congr 1
      · apply List.map_congr_left
        intro i hi
        have : i < k := by simpa using hi
        rw [if_neg (by omega), if_neg (by omega)]
      · simp
    show w'.ownsRow base 25 1 _ _ ((List.range (k + 1)).map fun i => Value.slice (some ⟨if i = k then r else g i, 0, none⟩) n (if i = k then cr else c i))
    rw [e1]; exact hown
  · by_cases e : i = k
    · subst e
      simp only [if_true]
      exact own_same hr fun b hb => hg.block b (hr.lt b hb).2 fun q => hn (.inl (q.symm.trans hb.symm))
    · simp only [e, if_false]
      have hik : i < k := by omega
      exact own_same (h.row i hik) fun b hb => hg.block b ((h.row i hik).lt b hb).2 fun q => h.ne i hik (q.symm.trans hb.symm)
  · by_cases e1 : i = k <;> by_cases e2 : j = k <;> simp only [e1, e2, if_true, if_false] at e
    · omega
    · exact absurd (.inr ⟨j, by omega, e.symm⟩) hn
    · exact absurd (.inr ⟨i, by omega, e⟩) hn
    · exact h.inj i j (by omega) (by omega) e
  · show (some o : Option Nat) ≠ some (if i = k then r else g i)
    intro q
    injection q with q
    by_cases e : i = k
    · rw [if_pos e] at q; exact hor q
    · rw [if_neg e] at q; exact ho i (by omega) q
theorem RowsM.S_push {r o cap : Nat} {b : Nat} (hb : rowsS (.slice (some ⟨o, 0, none⟩) (k + 1) cap) (k + 1) (fun i => if i = k then r else g i) b) : b = o ∨ b = r ∨ rowsS v k g b := by
  rcases hb with hb | ⟨i, hi, rfl⟩
  · left; exact (Option.some.inj hb).symm
  · by_cases e : i = k
    · right; left; simp [e]
    · right; right; exact .inr ⟨i, by omega, by simp [e]⟩
theorem RowsM.mat {O cap m : Nat} (h : RowsM w base (.slice (some ⟨O, 0, none⟩) m cap) m n g c M) : Mat w O g c m n M :=
  ⟨fun i hi => own_cell' h.own i _ (by simp [hi]), fun i _ => own_free' h.own i, fun i j hi hj => own_cell' (h.row i hi) j _ (by simp [hj]), fun i j hi _ => own_free' (h.row i hi) j,
   fun i hi => own_caps (h.row i hi), h.inj, fun i hi e => h.ne i hi (by show some O = _; rw [e]), fun i hi => ((h.row i hi).lt (g i) rfl).2, (h.own.lt O rfl).2⟩
end

theorem und_i64s' : Tryz.prog.underlying 25 = some (.slice 2) := by kernel_rfl
set_option maxRecDepth 100000 in
/-- Made: n numbers, all 0. -/
theorem made_i64 (w : World) (n : Nat) (z : Int) (hz : z = n) (hn : n ≤ 1000) : (Instr.makeSlice 25 (.int .i64 z) (.int .i64 z)).run Tryz.prog w = .ok (.slice (some ⟨w.heap.size, 0, none⟩) n n) (w.alloc (.cells (Array.replicate n (Value.int .i64 0)) 2)) := by
  subst hz
  obtain ⟨i, hi, hz0, hz1, hz2⟩ := info_parts inf_i64
  have := run_make (P := Tryz.prog) w 25 2 i _ und_i64s' hi hz0 .i64 .i64 n n (by omega) (Int.le_refl _) (by rw [hz2]; omega) (by omega)
  rw [this, hz1]
  simp only [Int.toNat_natCast, Nat.mul_one]
  congr 3
  simp only [madeCells, Value.cells]
  apply Array.ext_getElem?
  intro j
  by_cases hj : j < n
  · simp [hj, Nat.mod_one]
  · simp [hj]
theorem own_made (w : World) (base n g : Nat) (hg : g = w.heap.size) (hb : base ≤ g) (hn : n ≤ 1000) : (w.alloc (.cells (Array.replicate n (Value.int .i64 0)) 2)).ownsRow base 2 1 (.slice (some ⟨g, 0, none⟩) n n) n ((List.replicate n (0 : Int)).map (Value.int .i64)) := by
  subst hg
  refine ⟨by simp, Or.inr ⟨_, n, _, rfl, hb, heap_alloc_new w _, Nat.le_refl _, by unfold maxLen; omega, by simp, by simp⟩⟩
end Go.Proofs.YtjcdkbalhleeeaaGreatDoor

namespace Go.Proofs.YtjcdkbalhleeeaaGreatDoor
open Go.RowKit

section
variable {P : Program} {ops : Array Oper} {md : Region.Mode} {C : World → Prop}
/-- Whatever order is picked among those ahead of the tail. -/
def hq (P : Program) (md : Region.Mode) (ops : Array Oper) (C : World → Prop) (n : Nat) (L : Array Bool → Act → Prop) : Nat → Array Bool → Act → Prop
  | 0, ls, a => L ls a
  | f + 1, ls, a => Region.ready md ops ls ≠ [] ∧ ∀ i ∈ Region.ready md ops ls, i < n ∧ qOp P ops C i (hq P md ops C n L f (ls.setIfInBounds i true)) a
theorem hq_any {n k : Nat} {L : Array Bool → Act → Prop} {Q : Exit → Act → World → Prop} (hL : ∀ ls a w, C w → L ls a → wpAny P md ops Q k ls a w) (f : Nat) :
    ∀ (ls : Array Bool) (a : Act) (w : World), C w → hq P md ops C n L f ls a → wpAny P md ops Q (f + k) ls a w := by
  induction f with
  | zero => intro ls a w hw h; rw [Nat.zero_add]; exact hL _ _ _ hw h
  | succ f ih =>
    intro ls a w hw h
    rw [Nat.succ_add]
    exact ⟨fun e => absurd e h.1, fun i hi => wpOp_of_qOp hw (fun a' w' c k => ih _ a' w' c k) (h.2 i hi).2⟩
theorem hq_first {n i : Nat} {o : Oper} {v : Value} {L : Array Bool → Act → Prop} (hi : ops[i]? = some o) (hsel : ∀ (j : Nat) (o : Oper) cs b, ops[j]? = some o → o.op ≠ .select cs b)
    (hs : Region.sinkB md ops n = true) (hc : Region.chainB md ops n = true) (hn : n < ops.size) (hin : i < n) (hL : ∀ ls a, L ls a → ∀ j ∈ Region.ready md ops ls, n ≤ j) (f : Nat) :
    ∀ (ls : Array Bool) (a : Act), HeadInv md ops n ls →
      (∀ j oj, ops[j]? = some oj → j ≠ i → ls.getD j true = false → (∀ e ∈ oj.after, Region.binds md e = true → e.on ≠ i) → o.apart ops oj = true) →
      i ∈ Region.ready md ops ls → YieldsIn P ops C o v a → hq P md ops C n L f (ls.setIfInBounds i true) (a.put o.dst v) → hq P md ops C n L (f + 1) ls a := by
  have early : ∀ ls : Array Bool, HeadInv md ops n ls → i ∈ Region.ready md ops ls → ∀ j ∈ Region.ready md ops ls, j < n := fun ls inv hr j hj =>
    Decidable.byContradiction fun h => tail_waits hs hc hn inv _ i rfl hin (mem_ready.1 hr).1 j (by omega) hj
  induction f with
  | zero =>
    intro ls a inv _ hr hy H
    refine ⟨fun e => (by rw [e] at hr; cases hr), fun j hj => ⟨early ls inv hr j hj, ?_⟩⟩
    by_cases e : j = i
    · subst e; exact hy.qOp hi H
    · have := hL _ _ H j (ready_mono hj e); have := early ls inv hr j hj; omega
  | succ f ih =>
    intro ls a inv hfree hr hy H
    have hun := (mem_ready.1 hr).1
    refine ⟨fun e => (by rw [e] at hr; cases hr), fun j hj => ⟨early ls inv hr j hj, ?_⟩⟩
    by_cases e : j = i
    · subst e; exact hy.qOp hi H
    · obtain ⟨hj1, oj, hoj, hall⟩ := mem_ready.1 hj
      have hq := qOp_put hoj (hfree j oj hoj e hj1 fun e' he hb q => by
        have h1 := hall e' he hb
        rw [q, getD_both hun] at h1
        cases h1) (fun cs b => hsel i o cs b hi) (fun cs b => hsel j oj cs b hoj) hy (H.2 j (ready_mono hj e)).2
      refine qOp_mono (fun a' k => ih _ a' (inv.set hj (early ls inv hr j hj)) (fun q oq hoq hqi hu hno => hfree q oq hoq hqi ?_ hno) (ready_mono hr (Ne.symm e)) k.1 ?_) hq
      · by_cases e' : j = q
        · subst e'; exact hj1
        · rwa [getD_set_ne true e'] at hu
      · rw [Array.setIfInBounds_comm _ _ e]; exact k.2
theorem hq_lex {n k : Nat} {K : Act → Prop} (hsel : Region.noSelect ops = true) (hs : Region.sinkB md ops n = true) (hc : Region.chainB md ops n = true) (hn : n < ops.size) (l : List Oper) :
    ∀ (q : Nat) (ls : Array Bool) (a : Act), (∀ j, j < l.length → l[j]? = ops[q + j]?) → q + l.length = n → HeadInv md ops n ls → Region.lexHead md ops k l.length q ls = true → wpQuiet P ops C K l a →
      hq P md ops C n (fun ls' a' => Region.seqB md ops k n ls' = true ∧ K a') l.length ls a := by
  induction l with
  | nil =>
    intro q ls a _ hq' _ hB h
    obtain rfl : q = n := by simpa using hq'
    exact ⟨by simpa [Region.lexHead] using hB, h⟩
  | cons o l ih =>
    intro q ls a hl hq' inv hB h
    have h0 : ops[q]? = some o := by simpa using (hl 0 (by simp)).symm
    simp only [List.length_cons, Region.lexHead, Bool.and_eq_true] at hB hq'
    have hr : q ∈ Region.ready md ops ls := by simpa using hB.1.1
    obtain ⟨v, hy, hK⟩ := yieldsIn_of_qOp h0 (show qOp P ops C q (wpQuiet P ops C K l) a by unfold qOp; simp only [h0]; exact h)
    exact hq_first h0 (Region.noSelect_spec hsel) hs hc hn (by omega) (fun ls' a' hL => seqB_ready hL.1) l.length ls a inv (Region.free_spec h0 hB.1.2) hr hy
      (ih (q + 1) _ _ (fun j hj => by have := hl (j + 1) (by simp; omega); simpa [Nat.add_assoc, Nat.add_comm 1 j] using this) (by omega) (inv.set hr (by omega)) hB.2 hK)
theorem wp_quiet_tail {id : Nat} {Q : Exit → Act → World → Prop} {a : Act} {w : World} {l : List Oper} (n : Nat) (hm : P.follows .mixedOrders = true) (hB : Region.lexTailB .any l.toArray n = true) (hC : C w.drew)
    (h : wpQuiet P l.toArray C (fun a' => ∀ w', C w' → wpList P l.toArray Q (l.drop n) a' w') (l.take n) a) : (Code.region id l.toArray true).wp P Q a w := by
  simp only [Region.lexTailB, Bool.and_eq_true, decide_eq_true_eq] at hB
  obtain ⟨⟨⟨⟨hsel, hn⟩, hs⟩, hc⟩, hlex⟩ := hB
  have hn' : n < l.length := by simpa using hn
  have ht : (l.take n).length = n := by rw [List.length_take]; omega
  have hd : (l.drop n).length = l.toArray.size - n := by simp
  have inv0 : HeadInv .any l.toArray n (Array.replicate l.toArray.size false) :=
    ⟨by simp, fun j oj _ hl => (by rw [getD_replicate_false] at hl; cases hl), fun t _ ht => getD_in (by simpa using ht) (getD_replicate_false _ _)⟩
  have H := hq_lex (md := .any) (k := l.toArray.size - n) hsel hs hc hn (l.take n) 0 _ a (fun j hj => by rw [ht] at hj; simp [hj]) (by omega) inv0 (by rw [ht]; exact hlex) h
  refine wp_region_any hm ?_
  have := hq_any (Q := Q) (k := l.toArray.size - n) (fun ls a' w' hw' hL => by
    have := wpAny_of_seq (md := .any) (Q' := Q) (l.drop n) n ls a' w' (fun j => by simp [List.getElem?_drop]) (by rw [hd]; exact hL.1) (hL.2 w' hw')
    rwa [hd] at this) _ _ _ _ hC H
  rw [ht, show n + (l.toArray.size - n) = l.toArray.size by omega] at this
  exact this
end

theorem wk_tail {P : Program} {id : Nat} {Q : Exit → Act → World → Prop} {a : Act} {W : World} {l : List Oper} (n : Nat) (hm : P.follows .mixedOrders = true) (hB : Region.lexTailB .any l.toArray n = true)
    (h : wpQuiet P l.toArray (fun w' => ∃ u : Wk W, w' = u.1) (fun a' => ∀ w', (∃ u : Wk W, w' = u.1) → wpList P l.toArray Q (l.drop n) a' w') (l.take n) a) : (Code.region id l.toArray true).wp P Q a W :=
  wp_quiet_tail (C := fun w' => ∃ u : Wk W, w' = u.1) n hm hB ⟨⟨W.drew, (Below.refl _ _).drew⟩, rfl⟩ h
end Go.Proofs.YtjcdkbalhleeeaaGreatDoor

namespace Go.Proofs.YtjcdkbalhleeeaaGreatDoor
open Go.RowKit

theorem Rd.natAt {w : World} {A : Option Addr} {c : Nat} {l : List Int} (h : Rd w A c l) (e : l = (nats l).map Int.ofNat) {k : Nat} (hk : k < l.length) :
    ∃ ad, A = some ad ∧ w.cell? (ad.add k) = some (.int .i64 (((nats l).getD k 0 : Nat) : Int)) := by
  obtain ⟨ad, e1, e2⟩ := h.at_ hk
  refine ⟨ad, e1, ?_⟩
  have hk' : k < (nats l).length := by simpa [nats] using hk
  have e3 : l[k] = (((nats l).getD k 0 : Nat) : Int) := by
    have : l[k] = ((nats l).map Int.ofNat)[k]'(by simpa using hk') := by congr 1
    rw [this]; simp [List.getD, List.getElem?_eq_getElem hk']
  rw [← e3]; exact e2
/-- What the first loop has made: two slices of rows, of n numbers each; their blocks from B on; ahead of W's end nothing has turned. -/
structure LookL (B n : Nat) (W wx : World) (p : PG) (q : List Nat) (kd ka : Nat) (v8 v9 : Value) (gd cd ga ca : Nat → Nat) : Prop where
  down : RowsM wx B v8 kd n gd cd (matD p q)
  across : RowsM wx B v9 ka n ga ca (matU p q)
  apart : ∀ b, rowsS v8 kd gd b → ¬ rowsS v9 ka ga b
  base : W.heap.size ≤ B
  below : Below W.heap.size W wx
def LookR (B n : Nat) (W wx : World) (p : PG) (q : List Nat) (k : Nat) (v8 v9 : Value) : Prop := ∃ gd cd ga ca, LookL B n W wx p q k k v8 v9 gd cd ga ca
section
variable {B n : Nat} {W U w' : World} {p : PG} {q : List Nat} {kd ka : Nat} {v8 v9 : Value} {gd cd ga ca : Nat → Nat}
theorem LookL.to (h : LookL B n W U p q kd ka v8 v9 gd cd ga ca) (hb : Below U.heap.size U w') : LookL B n W w' p q kd ka v8 v9 gd cd ga ca :=
  ⟨h.down.below hb (Nat.le_refl _), h.across.below hb (Nat.le_refl _), h.apart, h.base, h.below.trans (hb.mono h.below.size)⟩
theorem LookL.push_down (h : LookL B n W U p q kd ka v8 v9 gd cd ga ca) {r cr o cap : Nat}
    (hr : U.ownsRow B 2 1 (.slice (some ⟨r, 0, none⟩) n cr) n ((List.range n).map fun j => Value.int .i64 (matD p q kd j)))
    (hn8 : ¬ rowsS v8 kd gd r) (hn9 : ¬ rowsS v9 ka ga r)
    (hown : w'.ownsRow B 25 1 (.slice (some ⟨o, 0, none⟩) (kd + 1) cap) (kd + 1) (((List.range kd).map fun i => Value.slice (some ⟨gd i, 0, none⟩) n (cd i)) ++ [.slice (some ⟨r, 0, none⟩) n cr]))
    (hg : U.grownBy w' v8.ownBlock) (hat : v8.ownBlock = some o ∨ o = U.heap.size) :
    LookL B n W w' p q (kd + 1) ka (.slice (some ⟨o, 0, none⟩) (kd + 1) cap) v9 (fun i => if i = kd then r else gd i) (fun i => if i = kd then cr else cd i) ga ca := by
  refine ⟨h.down.push hr hn8 hown hg hat, h.across.grown hg fun b hb hs => h.apart b (.inl hb) hs, fun b hb hs => ?_, h.base, h.below.grown hg h.below.size fun k e => Nat.le_trans h.base (h.down.own.lt k e).1⟩
  rcases RowsM.S_push hb with rfl | rfl | hb
  · rcases hat with e | e
    · exact h.apart _ (.inl e) hs
    · have := (h.across.lt hs).2; omega
  · exact hn9 hs
  · exact h.apart b hb hs
theorem LookL.push_across (h : LookL B n W U p q kd ka v8 v9 gd cd ga ca) {r cr o cap : Nat}
    (hr : U.ownsRow B 2 1 (.slice (some ⟨r, 0, none⟩) n cr) n ((List.range n).map fun j => Value.int .i64 (matU p q ka j)))
    (hn8 : ¬ rowsS v8 kd gd r) (hn9 : ¬ rowsS v9 ka ga r)
    (hown : w'.ownsRow B 25 1 (.slice (some ⟨o, 0, none⟩) (ka + 1) cap) (ka + 1) (((List.range ka).map fun i => Value.slice (some ⟨ga i, 0, none⟩) n (ca i)) ++ [.slice (some ⟨r, 0, none⟩) n cr]))
    (hg : U.grownBy w' v9.ownBlock) (hat : v9.ownBlock = some o ∨ o = U.heap.size) :
    LookL B n W w' p q kd (ka + 1) v8 (.slice (some ⟨o, 0, none⟩) (ka + 1) cap) gd cd (fun i => if i = ka then r else ga i) (fun i => if i = ka then cr else ca i) := by
  refine ⟨h.down.grown hg fun b hb hs => h.apart b hs (.inl hb), h.across.push hr hn9 hown hg hat, fun b hs hb => ?_, h.base, h.below.grown hg h.below.size fun k e => Nat.le_trans h.base (h.across.own.lt k e).1⟩
  rcases RowsM.S_push hb with rfl | rfl | hb
  · rcases hat with e | e
    · exact h.apart _ hs (.inl e)
    · have := (h.down.lt hs).2; omega
  · exact hn8 hs
  · exact h.apart b hs hb
theorem LookL.same (h : LookL B n W U p q kd ka v8 v9 gd cd ga ca)
    (hd : ∀ b, rowsS v8 kd gd b → w'.heap[b]? = U.heap[b]?) (ha : ∀ b, rowsS v9 ka ga b → w'.heap[b]? = U.heap[b]?) (hb : Below W.heap.size W w') : LookL B n W w' p q kd ka v8 v9 gd cd ga ca :=
  ⟨h.down.same hd, h.across.same ha, h.apart, h.base, hb⟩
end
theorem matD_has {p : PG} {q : List Nat} {i j : Nat} (h : j < q.length) : matD p q i j = hasZ p i (q.getD j 0) := by unfold matD; rw [if_pos h]
theorem matU_has {p : PG} {q : List Nat} {i j : Nat} (h : j < q.length) : matU p q i j = hasZ p j (q.getD i 0) := by unfold matU; rw [if_pos h]
theorem matU_cost {p : PG} {q : List Nat} {i : Nat} : matU p q i q.length = costZ p (q.getD i 0) := by unfold matU; rw [if_neg (Nat.lt_irrefl _)]
theorem own_nil_map (w : World) (base : Nat) (f : Nat → Int) : w.ownsRow base 2 1 (.slice none 0 0) 0 ((List.range 0).map fun j => Value.int .i64 (f j)) := World.ownsRow_nil _ _ _ _
/-- A round of the first loop: a row more in each. -/
theorem look_round {W U V X w3 w4 w5 w6 w7 : World} {p : PG} {q : List Nat} {k : Nat} {v8 v9 va vb : Value} {gd cd ga ca : Nat → Nat} {g3 cap3 g4 cap4 g6 cap6 g7 cap7 UB : Nat} {o3 o4 o6 o7 : Obj} {xa xb : List Value} {n : Nat}
    (hk : LookL W.heap.size (p.rows.length + 1) W U p q k k v8 v9 gd cd ga ca) (hUV : Below U.heap.size U V) (hVX : Below V.heap.size V X) (hUB : U.heap.size ≤ UB) (hWU : W.heap.size ≤ U.heap.size)
    (hva : V.ownsRow UB 2 1 va n xa) (hvb : X.ownsRow V.heap.size 2 1 vb n xb)
    (hg3 : (X.alloc o3).grownBy w3 va.ownBlock) (hat3 : va.ownBlock = some g3 ∨ g3 = (X.alloc o3).heap.size)
    (hown3 : w3.ownsRow UB 2 1 (.slice (some ⟨g3, 0, none⟩) (p.rows.length + 1) cap3) (p.rows.length + 1) ((List.range (p.rows.length + 1)).map fun j => Value.int .i64 (matD p q k j)))
    (hg4 : (w3.alloc o4).grownBy w4 v8.ownBlock) (hat4 : v8.ownBlock = some g4 ∨ g4 = (w3.alloc o4).heap.size)
    (hown4 : w4.ownsRow W.heap.size 25 1 (.slice (some ⟨g4, 0, none⟩) (k + 1) cap4) (k + 1) (((List.range k).map fun i => Value.slice (some ⟨gd i, 0, none⟩) (p.rows.length + 1) (cd i)) ++ [.slice (some ⟨g3, 0, none⟩) (p.rows.length + 1) cap3]))
    (hb5 : Below w4.heap.size w4 w5)
    (hg6 : (w5.alloc o6).grownBy w6 vb.ownBlock) (hat6 : vb.ownBlock = some g6 ∨ g6 = (w5.alloc o6).heap.size)
    (hown6 : w6.ownsRow V.heap.size 2 1 (.slice (some ⟨g6, 0, none⟩) (p.rows.length + 1) cap6) (p.rows.length + 1) ((List.range (p.rows.length + 1)).map fun j => Value.int .i64 (matU p q k j)))
    (hg7 : (w6.alloc o7).grownBy w7 v9.ownBlock) (hat7 : v9.ownBlock = some g7 ∨ g7 = (w6.alloc o7).heap.size)
    (hown7 : w7.ownsRow W.heap.size 25 1 (.slice (some ⟨g7, 0, none⟩) (k + 1) cap7) (k + 1) (((List.range k).map fun i => Value.slice (some ⟨ga i, 0, none⟩) (p.rows.length + 1) (ca i)) ++ [.slice (some ⟨g6, 0, none⟩) (p.rows.length + 1) cap6])) :
    LookR W.heap.size (p.rows.length + 1) W w7 p q (k + 1) (.slice (some ⟨g4, 0, none⟩) (k + 1) cap4) (.slice (some ⟨g7, 0, none⟩) (k + 1) cap7) := by
  have z0 := hUV.size
  have z1 := hVX.size
  have z3 := hg3.size
  have z4 := hg4.size
  have z5 := hb5.size
  have z6 := hg6.size
  simp only [World.size_alloc] at z3 z4 z6 hat3 hat4 hat6
  have la := hva.lt
  have lb := hvb.lt
  have G3 : U.heap.size ≤ g3 ∧ (g3 < V.heap.size ∨ X.heap.size ≤ g3) := by
    rcases hat3 with e | e
    · have := la g3 e; omega
    · omega
  have G3' := (hown3.lt g3 rfl).2
  have G4' := (hown4.lt g4 rfl).2
  have hUX : Below U.heap.size U X := hUV.trans (hVX.mono z0)
  have hU3 : Below U.heap.size U w3 := (hUX.alloc hUX.size o3).grown hg3 (by simp; omega) fun j e => by have := la j e; omega
  have h3 := (hk.to hU3).to ((Below.refl _ w3).alloc (Nat.le_refl _) o4)
  have G4 : g4 < U.heap.size ∨ X.heap.size ≤ g4 := by
    rcases hat4 with e | e
    · have := hk.down.lt (.inl e); omega
    · omega
  have hlow : ∀ b, rowsS v8 k gd b ∨ rowsS v9 k ga b → b < U.heap.size := fun b h => by
    rcases h with h | h
    · exact (hk.down.lt h).2
    · exact (hk.across.lt h).2
  have h4 := h3.push_down (own_weak (hown3.alloc _) (by omega)) (fun h => by have := hlow _ (.inl h); omega) (fun h => by have := hlow _ (.inr h); omega) hown4 hg4 (by rcases hat4 with e | e; exact .inl e; exact .inr (by simp; omega))
  have G6 : V.heap.size ≤ g6 ∧ (g6 < X.heap.size ∨ w4.heap.size ≤ g6) := by
    rcases hat6 with e | e
    · have := lb g6 e; omega
    · omega
  have keep : ∀ b, b < w4.heap.size → vb.ownBlock ≠ some b → (w6.alloc o7).heap[b]? = w4.heap[b]? := fun b hb hn => by
    rw [Below.heap_alloc w6 o7 b (by omega), hg6.block b (by simp; omega) (fun e => hn e.symm), Below.heap_alloc w5 o6 b (by omega), hb5.block b hb]
  have h6 : LookL W.heap.size (p.rows.length + 1) W (w6.alloc o7) p q (k + 1) k _ v9 _ _ ga ca := h4.same
    (fun b hb => keep b (h4.down.lt hb).2 fun e => by
      have := lb b e
      rcases RowsM.S_push hb with e' | e' | e'
      · omega
      · omega
      · have := hlow b (.inl e'); omega)
    (fun b hb => keep b (h4.across.lt hb).2 fun e => by have := lb b e; have := hlow b (.inr hb); omega)
    (((h4.below.trans (hb5.mono h4.below.size)).alloc (by have := h4.below.size; omega) o6 |>.grown hg6 (by have := h4.below.size; simp; omega) fun j e => by have := lb j e; omega).alloc (by have := h4.below.size; omega) o7)
  have h7 := h6.push_across (own_weak (hown6.alloc _) (by omega)) (fun h => by
      rcases RowsM.S_push h with e' | e' | e'
      · omega
      · omega
      · have := hlow _ (.inl e'); omega) (fun h => by have := hlow _ (.inr h); omega) hown7 hg7 (by rcases hat7 with e | e; exact .inl e; exact .inr e)
  exact ⟨_, _, _, _, h7⟩
/-- The gains as far as they have come. -/
def gainL (p : PG) (q : List Nat) (N j : Nat) (v : Int) : List Int := (List.range N).map fun i => if i < j then gk p q i p.rows.length else if i = j then v else 0
theorem gainL_zero (p : PG) (q : List Nat) (N : Nat) : List.replicate N (0 : Int) = gainL p q N 0 0 := by
  refine List.ext_getElem (by simp [gainL]) fun i h1 h2 => ?_
  simp [gainL]
theorem gainL_set {p : PG} {q : List Nat} {N j : Nat} {u v : Int} : (gainL p q N j u).set j v = gainL p q N j v := by
  refine List.ext_getElem (by simp [gainL]) fun i h1 h2 => ?_
  rw [List.getElem_set]
  simp only [gainL, List.getElem_map, List.getElem_range]
  by_cases e : j = i
  · subst e; simp
  · rw [if_neg e]; split; rfl; rw [if_neg (by omega), if_neg (by omega)]
theorem gainL_succ {p : PG} {q : List Nat} {N j : Nat} : gainL p q N j (gk p q j p.rows.length) = gainL p q N (j + 1) 0 := by
  unfold gainL
  apply List.map_congr_left
  intro i _
  by_cases e : i = j
  · subst e; simp
  · by_cases e2 : i < j
    · rw [if_pos e2, if_pos (by omega)]
    · rw [if_neg e2, if_neg e, if_neg (by omega)]; split <;> rfl
theorem gainL_at {p : PG} {q : List Nat} {N j : Nat} {v : Int} (h : j < N) : ((gainL p q N j v).map (Value.int .i64))[j]? = some (.int .i64 v) := by
  simp [gainL, h]
theorem gainL_end (p : PG) (q : List Nat) : gainL p q (p.costs.length + p.rows.length) (p.costs.length + p.rows.length) 0 = gall p q := by
  unfold gainL gall
  apply List.map_congr_left
  intro i hi
  have : i < p.costs.length + p.rows.length := by simpa using hi
  rw [if_pos this]
theorem putAll_none (q : List Nat) (v : Nat → Int) (N : Nat) : List.replicate N (0 : Int) = putAll q v N 0 := by simp [putAll]
theorem map_set_int (l : List Int) (k : Nat) (z : Int) : (l.map (Value.int .i64)).set k (.int .i64 z) = (l.set k z).map (Value.int .i64) := by rw [List.map_set]
theorem map_at_int {l : List Int} {k : Nat} (h : k < l.length) : (l.map (Value.int .i64))[k]? = some (.int .i64 (l.getD k 0)) := by simp [List.getD, List.getElem?_eq_getElem h]
theorem own_far {w : World} {base n : Nat} {e : TypeId} {v : Value} {xs : List Value} (h : w.ownsRow base e 1 v n xs) {p : Addr} (u : Value) (hp : v.ownBlock ≠ some p.block) : (w.setCell p u).ownsRow base e 1 v n xs :=
  own_same h fun b hb => Below.heap_setCell _ _ _ _ fun q => hp (by rw [hb, q])
theorem Rd.getD_at {w : World} {A : Option Addr} {c : Nat} {l : List Int} (h : Rd w A c l) {k : Nat} (hk : k < l.length) : ∃ ad, A = some ad ∧ w.cell? (ad.add k) = some (.int .i64 (l.getD k 0)) := by
  obtain ⟨ad, e, hc⟩ := h.at_ hk
  exact ⟨ad, e, by rw [hc]; simp [List.getD, List.getElem?_eq_getElem hk]⟩
theorem Rd.same {w w' : World} {A : Option Addr} {c : Nat} {l : List Int} (h : Rd w A c l) (hk : ∀ ad, A = some ad → ad.block < w.heap.size → w'.heap[ad.block]? = w.heap[ad.block]?) : Rd w' A c l :=
  ⟨h.le, h.cap, h.small, fun hl => by
    obtain ⟨ad, e, hc⟩ := h.cells hl
    have h0 := World.block_lt_of_cell? _ _ (hc 0 _ (List.getElem?_eq_getElem hl))
    rw [block_add] at h0
    exact ⟨ad, e, fun j u hu => (World.cell?_of_block (by rw [block_add]; exact hk ad e h0)).trans (hc j u hu)⟩⟩
theorem row_succ (f : Nat → Int) (k : Nat) : ((List.range k).map fun j => Value.int .i64 (f j)) ++ [Value.int .i64 (f k)] = (List.range (k + 1)).map fun j => Value.int .i64 (f j) := by rw [List.range_succ, List.map_append]; rfl

end Go.Proofs.YtjcdkbalhleeeaaGreatDoor

namespace Go.Proofs.YtjcdkbalhleeeaaGreatDoor
open Go.RowKit

/-- The rows' blocks. -/
def rowsOf (O : Nat) (g : Nat → Nat) (m : Nat) (b : Nat) : Prop := b = O ∨ ∃ i, i < m ∧ b = g i
/-- What stands ahead of step k. -/
structure St (wr : World) (w : World) (O : Nat) (g : Nat → Nat) (m k : Nat) (A A' : Nat → Nat → Int) (g' c' : Nat → Nat) (tv : Int) (M : Nat → Nat → Int) : Prop where
  tv1 : tv = 1 ∨ tv = -1
  small : Small A' m
  ne : lst A' k ≠ 0
  sign : ∀ cs : List Nat, cs.length = m → tv * dt A' (List.range m) cs = dt A (List.range m) cs
  mat : Mat wr O g' c' m (m + 1) M
  sub : ∀ i, i < m → ∃ i', i' < m ∧ g' i = g i'
  turned : Turned (rowsOf O g m) w wr
/-- What it hands back. -/
def RetW (w : World) (O : Nat) (g : Nat → Nat) (m : Nat) (A : Nat → Nat → Int) (e : Ending) (w' : World) : Prop :=
  Turned (rowsOf O g m) w w' ∧ ((dtm A m = 0 ∧ e = .returned (.tuple #[.slice none 0 0, .int .i64 0])) ∨
    (dtm A m ≠ 0 ∧ ∃ S c, e = .returned (.tuple #[.slice S m c, .int .i64 (dtm A m)]) ∧ Rd w' S c ((List.range m).map fun k => dtp A m k m) ∧ ∀ ad, S = some ad → w.heap.size ≤ ad.block))

theorem ent_tdiv (A : Nat → Nat → Int) {k i : Nat} (j : Nat) (hk : k < 4) (hi : i < 4) (hne : i ≠ k) (hl : lst A k ≠ 0) :
    (ent A k i j * ent A k k k - ent A k i k * ent A k k j).tdiv (lst A k) = ent A (k + 1) i j := by
  rw [ent_step A j hk hi hne]; exact Int.mul_tdiv_cancel_left _ hl

set_option maxRecDepth 100000 in
set_option maxHeartbeats 4000000 in
theorem corner_whole (O c0 : Nat) (g c : Nat → Nat) (m : Nat) (A : Nat → Nat → Int) (w : World) (hM : Mat w O g c m (m + 1) A) (h1 : 1 ≤ m) (h4 : m ≤ 4) (hs : Small A m) (hc0 : m ≤ c0) (hc1 : c0 ≤ 9223372036854775807) :
    Calls Tryz.prog 49 #[.slice (some ⟨O, 0, none⟩) m c0] w (RetW w O g m A) := by
  have HM := Lib.hid hM
  have HS := Lib.hid hs
  clear hM hs
  go_enter Tryz.func49, Tryz.ntmps49
  go_wp2_with fail
  go_loopw [5, 6, 17] (fun l t i wr => ∃ (k : Nat) (A' : Nat → Nat → Int) (g' c' : Nat → Nat) (tv : Int), k ≤ m ∧ i = .int .i64 k ∧ l = .int .i64 (lst A' k) ∧ t = .int .i64 tv ∧ St wr w O g m k A A' g' c' tv (fun i j => ent A' k i j)) (fun _ _ i _ => m - (intOf i).toNat)
  case atStart => exact ⟨0, A, g, c, 1, by omega, rfl, rfl, rfl, ⟨Or.inl rfl, HS.out, by rw [lst_zero]; decide, fun cs _ => by omega, HM.out.congr fun i j _ _ => (ent_zero A i j).symm, fun i hi => ⟨i, hi, rfl⟩, Turned.refl _ _⟩⟩
  case round =>
    obtain ⟨k, A', g', c', tv, hk, rfl, rfl, rfl, hst⟩ := hrel
    have HST := Lib.hid hst
    clear hst
    by_cases hlt : k < m
    · go_wp2_with fail
      go_loop [8] (fun a => ∃ b : Nat, k ≤ b ∧ b ≤ m ∧ a = .int .i64 b ∧ ∀ i, k ≤ i → i < b → ent A' k i k = 0) (fun a => m - (intOf a).toNat)
      case atStart => exact ⟨k, by omega, by omega, rfl, fun i h1 h2 => by omega⟩
      case round =>
        obtain ⟨b, hb1, hb2, rfl, hz⟩ := hrel
        have HZ := Lib.hid hz
        clear hz
        by_cases hbm : b < m
        · have k0 := HST.out.mat.out b hbm
          have k1 := HST.out.mat.row b k hbm (by omega)
          have k2 := HST.out.mat.lt b hbm
          have k3 := HST.out.mat.olt
          obtain ⟨k4, k5⟩ := HST.out.mat.le b hbm
          by_cases hp : ent A' k b k = 0
          · have HP := Lib.hid hp
            have hp' : (ent A' k b k == 0) = true := by simpa using hp
            clear hp
            go_wp2_with fail
            go_round
            case rel => exact ⟨b + 1, by omega, by omega, by go_num, fun i h1 h2 => by
              by_cases e : i = b
              · subst e; exact HP.out
              · exact HZ.out i h1 (by omega)⟩
            case measure => simp [intOf]; omega
          · have hp' : (ent A' k b k == 0) = false := by simpa using hp
            have HP := Lib.hid hp
            clear hp
            have hbe : ((b : Int) == (m : Int)) = false := by simp; omega
            go_upto_if 41 with fail
            go_cut [6] (fun s6 wx => ∃ (A2 : Nat → Nat → Int) (g2 c2 : Nat → Nat) (tv2 : Int), s6 = .int .i64 tv2 ∧ ent A2 k k k ≠ 0 ∧ lst A2 k = lst A' k ∧ St wx w O g m k A A2 g2 c2 tv2 (fun i j => ent A2 k i j))
            case first =>
              by_cases hbk : b = k
              · subst hbk
                have hbz : ((b : Int) != (b : Int)) = false := by simp
                go_wp2_with fail
                go_meet
                exact ⟨A', g', c', tv, rfl, HP.out, rfl, HST.out⟩
              · have hbz : ((b : Int) != (k : Int)) = true := by simp; omega
                have q0 := HST.out.mat.out k hlt
                have q1 := HST.out.mat.ofree k hlt
                have q2 := HST.out.mat.ofree b hbm
                have hn1 : IntKind.i64.wrap (-tv) = -tv := IntWalk.i64_in _ (by have := HST.out.tv1; omega)
                have hb0 : (b : Int) < (m : Int) := by omega
                have hb5 : (k : Int) < (m : Int) := by omega
                go_wp2_with fail
                go_region
                go_wp2_with fail
                go_meet
                have hst := HST.out
                have hent : ∀ i j, i < m → ent (swA A' k b) k i j = ent A' k (sw k b i) j := fun i j hi => by
                  by_cases hik : i < k
                  · rw [ent_swap_up A' hb1 hik]; unfold sw; rw [if_neg (by omega), if_neg (by omega)]
                  · rw [ent_swap A' hb1 (by omega)]
                refine ⟨swA A' k b, fun i => g' (sw k b i), fun i => c' (sw k b i), -tv, rfl, ?_, lst_swap A' hb1, ?_, hst.small.swA k b, ?_, ?_, ?_, ?_, ?_⟩
                · rw [hent k k hlt]; have : sw k b k = b := by unfold sw; rw [if_pos rfl]
                  rw [this]; exact HP.out
                · rcases hst.tv1 with h | h <;> omega
                · rw [lst_swap A' hb1]; exact hst.ne
                · intro cs hcs
                  rw [dt_swap A' h4 (show k < b by omega) hbm hcs, ← hst.sign cs hcs]; grind
                · first
                  | exact ((hst.mat.swap hlt hbm (fun e => hbk e.symm)).congr fun i j hi _ => (hent i j hi).symm)
                  | exact ((hst.mat.swap hlt hbm (fun e => hbk e.symm)).congr fun i j hi _ => (hent i j hi).symm).drew
                  | exact ((hst.mat.swap hlt hbm (fun e => hbk e.symm)).congr fun i j hi _ => (hent i j hi).symm).drewN _
                · intro i hi; exact hst.sub _ (sw_lt hlt hbm hi)
                · first
                  | exact (hst.turned.setCell (Or.inl rfl) _).setCell (Or.inl rfl) _
                  | exact ((hst.turned.setCell (Or.inl rfl) _).setCell (Or.inl rfl) _).drew
                  | exact ((hst.turned.setCell (Or.inl rfl) _).setCell (Or.inl rfl) _).drewN _
            case rest =>
              obtain ⟨A2, g2, c2, tv2, rfl, hpiv, hlst, hst2⟩ := hcut
              have HPV := Lib.hid hpiv
              have HST2 := Lib.hid hst2
              have HLS := Lib.hid hlst
              clear hpiv hst2 hlst
              go_wp2_with fail
              go_loopw [59] (fun i wr => ∃ q : Nat, q ≤ m ∧ i = .int .i64 q ∧ St wr w O g m k A A2 g2 c2 tv2 (fun i j => if i < q ∧ i ≠ k then ent A2 (k + 1) i j else ent A2 k i j)) (fun i _ => m - (intOf i).toNat)
              case atStart => exact ⟨0, by omega, rfl, HST2.out.tv1, HST2.out.small, HST2.out.ne, HST2.out.sign, HST2.out.mat.congr fun i j _ _ => by rw [if_neg (by omega)], HST2.out.sub, HST2.out.turned⟩
              case round =>
                obtain ⟨q, hq, rfl, hsq⟩ := hrel
                have HSQ := Lib.hid hsq
                clear hsq
                by_cases hqm : q < m
                · by_cases hqk : q = k
                  · have hqz : ((q : Int) == (k : Int)) = true := by simp; omega
                    have HQK := Lib.hid hqk
                    clear hqk
                    go_wp2_with fail
                    go_roundw
                    case rel => exact ⟨q + 1, by omega, by go_num, HSQ.out.tv1, HSQ.out.small, HSQ.out.ne, HSQ.out.sign, HSQ.out.mat.congr fun i j _ _ => by
                      by_cases e : i < q ∧ i ≠ k
                      · rw [if_pos e, if_pos ⟨by omega, e.2⟩]
                      · have := HQK.out; rw [if_neg e, if_neg (by omega)], HSQ.out.sub, HSQ.out.turned⟩
                    case measure => simp [intOf]; omega
                  · have hqz : ((q : Int) == (k : Int)) = false := by simp; omega
                    have r0 := HSQ.out.mat.out q hqm
                    have r1 := HSQ.out.mat.row q k hqm (by omega)
                    rw [if_neg (by omega)] at r1
                    obtain ⟨r2, r3⟩ := HSQ.out.mat.le q hqm
                    have r4 := HSQ.out.mat.lt q hqm
                    have r5 := HSQ.out.mat.olt
                    have hq5 : (q : Int) < (m : Int) := by omega
                    go_wp2_with fail
                    rename World => wq
                    go_loopw [77] (fun i wx => ∃ jj : Nat, jj ≤ m + 1 ∧ i = .int .i64 jj ∧ St wx w O g m k A A2 g2 c2 tv2 (fun i j => if (i < q ∧ i ≠ k) ∨ (i = q ∧ j < jj) then ent A2 (k + 1) i j else ent A2 k i j)) (fun i _ => m + 1 - (intOf i).toNat)
                    case atStart => exact ⟨0, by omega, rfl, HSQ.out.tv1, HSQ.out.small, HSQ.out.ne, HSQ.out.sign, HSQ.out.mat.congr fun i j _ _ => by
                      by_cases e : i < q ∧ i ≠ k
                      · rw [if_pos e, if_pos (Or.inl e)]
                      · rw [if_neg e, if_neg (by omega)], HSQ.out.sub, HSQ.out.turned⟩
                    case round =>
                      obtain ⟨jj, hj, rfl, hsj⟩ := hrel
                      have HSJ := Lib.hid hsj
                      clear hsj r0 r1
                      by_cases hjm : jj < m + 1
                      · have e0 := HSJ.out.mat.out q hqm
                        have e1 := HSJ.out.mat.out k hlt
                        have e2 := HSJ.out.mat.row q jj hqm hjm
                        rw [if_neg (by omega)] at e2
                        have e3 := HSJ.out.mat.row k k hlt (by omega)
                        rw [if_neg (by omega)] at e3
                        have e4 := HSJ.out.mat.row k jj hlt hjm
                        rw [if_neg (by omega)] at e4
                        have e5 := HSJ.out.mat.free q jj hqm hjm
                        obtain ⟨e6, e7⟩ := HSJ.out.mat.le k hlt
                        have e8 := HSJ.out.mat.lt q hqm
                        have e9 := HSJ.out.mat.lt k hlt
                        have b1 := ent_within jj HSJ.out.small h4 hk hqm
                        have b2 := ent_within k HSJ.out.small h4 hk hlt
                        have b3 := ent_within jj HSJ.out.small h4 hk hlt
                        have b4 := ent_within k HSJ.out.small h4 hk hqm
                        have HE := Lib.hid (ent_tdiv A2 (k := k) (i := q) jj (by omega) (by omega) hqk HSJ.out.ne)
                        rw [HLS.out] at HE
                        have hd : lst A' k ≠ 0 := by rw [← HLS.out]; exact HSJ.out.ne
                        have hd0 : (lst A' k == 0) = false := by simpa using hd
                        have hk5 : (k : Int) < (m : Int) := by omega
                        have hj5 : (jj : Int) < ((m : Int) + 1) := by omega
                        have hk6 : (k : Int) < ((m : Int) + 1) := by omega
                        have m1 := mul_bound (ent A2 k q jj) (ent A2 k k k) 16588800 16588800 b1.1 b1.2 b2.1 b2.2
                        have m2 := mul_bound (ent A2 k q k) (ent A2 k k jj) 16588800 16588800 b4.1 b4.2 b3.1 b3.2
                        generalize ent A2 k q jj = x at *
                        generalize ent A2 k k k = pv at *
                        generalize ent A2 k k jj = y at *
                        generalize ent A2 k q k = f at *
                        generalize lst A' k = d at *
                        have hw1 : IntKind.i64.wrap (x * pv) = x * pv := IntWalk.i64_in _ (by omega)
                        have hw2 : IntKind.i64.wrap (f * y) = f * y := IntWalk.i64_in _ (by omega)
                        have hw3 : IntKind.i64.wrap (x * pv - f * y) = x * pv - f * y := IntWalk.i64_in _ (by omega)
                        have ht := tdiv_bound 600000000000000 (x * pv - f * y) d (by omega) (by omega)
                        have hw4 : IntKind.i64.wrap ((x * pv - f * y).tdiv d) = (x * pv - f * y).tdiv d := IntWalk.i64_in _ (by omega)
                        clear m1 m2 ht b1 b2 b3 b4
                        go_wp2_with fail
                        go_still_tail 33, (by kernel_rfl)
                        go_wp2_with fail
                        go_roundw
                        case rel =>
                          have hst := HSJ.out
                          refine ⟨jj + 1, by omega, by go_num, hst.tv1, hst.small, hst.ne, hst.sign, ?_, hst.sub, ?_⟩
                          · rw [HE.out]
                            refine ((hst.mat.drew).put hqm hjm _).congr fun i j _ _ => ?_
                            by_cases e1 : i = q ∧ j = jj
                            · obtain ⟨rfl, rfl⟩ := e1
                              rw [if_pos ⟨rfl, rfl⟩, if_pos (Or.inr ⟨rfl, by omega⟩)]
                            · rw [if_neg e1]
                              by_cases e2 : (i < q ∧ i ≠ k) ∨ (i = q ∧ j < jj)
                              · rw [if_pos e2, if_pos (by omega)]
                              · rw [if_neg e2, if_neg (by omega)]
                          · obtain ⟨i', hi', e⟩ := hst.sub q hqm
                            exact hst.turned.drew.setCell (Or.inr ⟨i', hi', e⟩) _
                        case measure => simp [intOf]; omega
                      · obtain rfl : jj = m + 1 := by omega
                        go_wp2_with fail
                        go_roundw
                        case rel => exact ⟨q + 1, by omega, by go_num, HSJ.out.tv1, HSJ.out.small, HSJ.out.ne, HSJ.out.sign, HSJ.out.mat.congr fun i j _ hj' => by
                          by_cases e : (i < q ∧ i ≠ k) ∨ (i = q ∧ j < m + 1)
                          · rw [if_pos e, if_pos (by omega)]
                          · rw [if_neg e, if_neg (by omega)], HSJ.out.sub, HSJ.out.turned⟩
                        case measure => simp [intOf]; omega
                · obtain rfl : q = m := by omega
                  have r0 := HSQ.out.mat.out k hlt
                  have r1 := HSQ.out.mat.row k k hlt (by omega)
                  rw [if_neg (by omega), ← lst_ent] at r1
                  obtain ⟨r2, r3⟩ := HSQ.out.mat.le k hlt
                  have r4 := HSQ.out.mat.lt k hlt
                  have r5 := HSQ.out.mat.olt
                  go_wp2_with fail
                  go_roundw
                  case rel => exact ⟨k + 1, A2, g2, c2, tv2, by omega, by go_num, rfl, rfl, HSQ.out.tv1, HSQ.out.small, by rw [lst_ent]; exact HPV.out, HSQ.out.sign, HSQ.out.mat.congr fun i j hi _ => by
                    by_cases e : i = k
                    · subst e; rw [if_neg (by omega), ent_pivot]
                    · rw [if_pos ⟨hi, e⟩], HSQ.out.sub, HSQ.out.turned⟩
                  case measure => simp [intOf]; omega
        · obtain rfl : b = m := by omega
          have HD := Lib.hid (no_pivot A' h4 hlt HST.out.ne HZ.out)
          go_wp2_with fail
          go_ret2
          refine ⟨HST.out.turned, Or.inl ⟨?_, rfl⟩⟩
          have := HST.out.sign (List.range b) (by simp)
          rw [← show dtm A' b = dt A' (List.range b) (List.range b) from rfl, HD.out] at this
          unfold dtm; omega
    · obtain rfl : k = m := by omega
      have hst := HST.out
      have hsg : ∀ q, q < k → tv * ent A' k q k = dtp A k q k := fun q hq => by
        rw [ent_dtp A' k hq]; exact hst.sign _ (by simp)
      have HSG := Lib.hid hsg
      have HDM := Lib.hid (show tv * lst A' k = dtm A k from hst.sign _ (by simp))
      have HNE := Lib.hid (show dtm A k ≠ 0 by
        have := hst.sign (List.range k) (by simp)
        have hn : dt A' (List.range k) (List.range k) ≠ 0 := hst.ne
        unfold dtm
        rw [← this]
        rcases hst.tv1 with h | h <;> rw [h] <;> omega)
      have hdb := dtm_within HS.out h4
      have hw0 : IntKind.i64.wrap (tv * lst A' k) = dtm A k := by rw [HDM.out]; exact IntWalk.i64_in _ (by omega)
      have HW0 := Lib.hid hw0
      clear hst hsg hw0 hdb
      go_wp2_with fail
      rename World => wq
      go_loopw [12, 124] (fun v i wx => ∃ q : Nat, q ≤ k ∧ i = .int .i64 q ∧ wx.ownsRow wq.heap.size 2 1 v q (((List.range q).map fun k' => dtp A k k' k).map (Value.int .i64)) ∧ Below wq.heap.size wq wx) (fun _ i _ => k - (intOf i).toNat)
      case atStart => exact ⟨0, by omega, rfl, World.ownsRow_nil _ _ _ _, Below.refl _ _⟩
      case round =>
        obtain ⟨q, hq, rfl, hown, hbel⟩ := hrel
        have HW := Lib.hid hown
        have HL := Lib.hid hbel
        have zL := hbel.size
        have hMq := HST.out.mat.below hbel
        clear hown hbel
        by_cases hqk : q < k
        · have r0 := hMq.out q hqk
          have r1 := hMq.row q k hqk (by omega)
          obtain ⟨r2, r3⟩ := hMq.le q hqk
          have r4 := hMq.lt q hqk
          have r5 := hMq.olt
          have hb := dtp_within (i := q) k HS.out h4 hqk
          have hq5 : (q : Int) < (k : Int) := by omega
          have hk5 : (k : Int) < ((k : Int) + 1) := by omega
          have HM1 := Lib.hid (HSG.out q hqk)
          clear hMq
          generalize ent A' k q k = x at *
          have HE := Lib.hid (show ((List.range (q + 1)).map fun k' => dtp A k k' k).map (Value.int .i64) = ((List.range q).map fun k' => dtp A k k' k).map (Value.int .i64) ++ [Value.int .i64 (dtp A k q k)] by
            rw [List.range_succ]; simp)
          generalize dtp A k q k = z at *
          obtain ⟨hb1, hb2⟩ := hb
          have hxz : -9223372036854775808 ≤ tv * x ∧ tv * x ≤ 9223372036854775807 := by rw [HM1.out]; omega
          obtain ⟨hx1, hx2⟩ := hxz
          go_wp2_with (at_builtin; refine list_app1 rfl (.tmp 127) (.tmp 137) _ _ _ 8 und_i64s inf_i64 rfl rfl _ u12 q _ _ rfl (HW.out.alloc _) _ 1 rfl (cell_new1 _ _ _) rfl (by unfold maxLen; omega) (by omega) (by simp; omega) ?_; intro g3 cap w3 hown3 hg3 hat hlt3; have hz3 := hg3.size)
          have HW3 := Lib.hid hown3
          have HG3 := Lib.hid hg3
          clear hown3 hg3
          go_roundw
          case rel => exact ⟨q + 1, by omega, by go_num, by rw [HE.out]; first | exact HW3.out | (have := HW3.out; rw [HM1.out] at this; exact this), ((by (repeat (any_goals (first | exact Below.refl _ _ | exact HL.out | refine below_drewN ?_ _ | refine Below.drew ?_ | refine Below.alloc ?_ ?_ _ | refine Below.setCell ?_ ?_ _ | refine Below.trans ?_ (Below.mono HL.out ?_)))); all_goals (first | omega | (simp; done) | (simp; omega) | ((try have z0 := HL.out.size); (try simp at z0); (try simp); omega))) : Below wq.heap.size wq (World.alloc _ _)).grown HG3.out (by simp; omega) (own_ge HW.out (by omega))⟩
          case measure => simp [intOf]; omega
        · obtain rfl : q = k := by omega
          obtain ⟨S', c', hv, hRd, hnw⟩ := Rd.of_ownv HW.out (by simp) (by simp; omega)
          subst hv
          have HRd := Lib.hid hRd
          have HNW := Lib.hid hnw
          clear hRd hnw
          have hw0 := HW0.out
          go_wp2_with fail
          go_ret2
          refine ⟨HST.out.turned.trans (Turned.of_below HL.out), Or.inr ⟨HNE.out, S', c', ?_, HRd.out, fun ad e => Nat.le_trans HST.out.turned.size (HNW.out ad e)⟩⟩
          simp
end Go.Proofs.YtjcdkbalhleeeaaGreatDoor
