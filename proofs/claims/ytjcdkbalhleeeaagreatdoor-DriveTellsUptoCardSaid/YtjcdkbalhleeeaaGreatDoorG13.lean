/-
  Contracts of functions and plain laws that later parts of the proof use. The conditions stand in each theorem.
-/
import Derived.Test.YtjcdkbalhleeeaaGreatDoorG11
import Derived.StillTail
import Derived.Test.YtjcdkbalhleeeaaGreatDoorG06
import Derived.Test.YtjcdkbalhleeeaaGreatDoorG12
import Derived.Test.YtjcdkbalhleeeaaGreatDoorG02
namespace Go.Proofs.YtjcdkbalhleeeaaGreatDoor
open Go.RowKit
section
variable {P : Program} {ops : Array Oper} {md : Region.Mode} {C : World → Prop}
def hq (P : Program) (md : Region.Mode) (ops : Array Oper) (C : World → Prop) (n : Nat) (L : Array Bool → Act → Prop) : Nat → Array Bool → Act → Prop
 | 0, ls, a => L ls a
 | f + 1, ls, a => Region.ready md ops ls ≠ [] ∧ ∀ i ∈ Region.ready md ops ls, i < n ∧ qOp P ops C i (hq P md ops C n L f (ls.setIfInBounds i true)) a
theorem hq_any {n k : Nat} {L : Array Bool → Act → Prop} {Q : Exit → Act → World → Prop} (hL : ∀ ls a w, C w → L ls a → wpAny P md ops Q k ls a w) (f : Nat) :
    ∀ (ls : Array Bool) (a : Act) (w : World), C w → hq P md ops C n L f ls a → wpAny P md ops Q (f + k) ls a w := by
 induction f with
 | zero => intro ls a w hw h; rw [Nat.zero_add]; exact hL _ _ _ hw h
 | succ f ih =>
  intro ls a w hw h
  rw [Nat.succ_add]
  exact ⟨fun e => absurd e h.1, fun i hi => wpOp_of_qOp hw (fun a' w' c k => ih _ a' w' c k) (h.2 i hi).2⟩
theorem hq_first {n i : Nat} {o : Oper} {v : Value} {L : Array Bool → Act → Prop} (hi : ops[i]? = some o) (hsel : ∀ (j : Nat) (o : Oper) cs b, ops[j]? = some o → o.op ≠ .select cs b)
    (hs : Region.sinkB md ops n = true) (hc : Region.chainB md ops n = true) (hn : n < ops.size) (hin : i < n) (hL : ∀ ls a, L ls a → ∀ j ∈ Region.ready md ops ls, n ≤ j) (f : Nat) :
    ∀ (ls : Array Bool) (a : Act), HeadInv md ops n ls →
     (∀ j oj, ops[j]? = some oj → j ≠ i → ls.getD j true = false → (∀ e ∈ oj.after, Region.binds md e = true → e.on ≠ i) → o.apart ops oj = true) →
     i ∈ Region.ready md ops ls → YieldsIn P ops C o v a → hq P md ops C n L f (ls.setIfInBounds i true) (a.put o.dst v) → hq P md ops C n L (f + 1) ls a := by
 have early : ∀ ls : Array Bool, HeadInv md ops n ls → i ∈ Region.ready md ops ls → ∀ j ∈ Region.ready md ops ls, j < n := fun ls inv hr j hj =>
  Decidable.byContradiction fun h => tail_waits hs hc hn inv _ i rfl hin (mem_ready.1 hr).1 j (by omega) hj
 induction f with
 | zero =>
  intro ls a inv _ hr hy H
  refine ⟨fun e => (by rw [e] at hr; cases hr), fun j hj => ⟨early ls inv hr j hj, ?_⟩⟩
  by_cases e : j = i
  ·subst e; exact hy.qOp hi H
  ·have := hL _ _ H j (ready_mono hj e); have := early ls inv hr j hj; omega
 | succ f ih =>
  intro ls a inv hfree hr hy H
  have hun := (mem_ready.1 hr).1
  refine ⟨fun e => (by rw [e] at hr; cases hr), fun j hj => ⟨early ls inv hr j hj, ?_⟩⟩
  by_cases e : j = i
  ·subst e; exact hy.qOp hi H
  ·obtain ⟨hj1, oj, hoj, hall⟩ := mem_ready.1 hj
   have hq := qOp_put hoj (hfree j oj hoj e hj1 fun e' he hb q => by
    have h1 := hall e' he hb
    rw [q, getD_both hun] at h1
    cases h1) (fun cs b => hsel i o cs b hi) (fun cs b => hsel j oj cs b hoj) hy (H.2 j (ready_mono hj e)).2
   refine qOp_mono (fun a' k => ih _ a' (inv.set hj (early ls inv hr j hj)) (fun q oq hoq hqi hu hno => hfree q oq hoq hqi ?_ hno) (ready_mono hr (Ne.symm e)) k.1 ?_) hq
   ·by_cases e' : j = q
    ·subst e'; exact hj1
    ·rwa [getD_set_ne true e'] at hu
   ·rw [Array.setIfInBounds_comm _ _ e]; exact k.2
theorem hq_lex {n k : Nat} {K : Act → Prop} (hsel : Region.noSelect ops = true) (hs : Region.sinkB md ops n = true) (hc : Region.chainB md ops n = true) (hn : n < ops.size) (l : List Oper) :
    ∀ (q : Nat) (ls : Array Bool) (a : Act), (∀ j, j < l.length → l[j]? = ops[q + j]?) → q + l.length = n → HeadInv md ops n ls → Region.lexHead md ops k l.length q ls = true → wpQuiet P ops C K l a →
     hq P md ops C n (fun ls' a' => Region.seqB md ops k n ls' = true ∧ K a') l.length ls a := by
 induction l with
 | nil =>
  intro q ls a _ hq' _ hB h
  obtain rfl : q = n := by simpa using hq'
  exact ⟨by simpa [Region.lexHead] using hB, h⟩
 | cons o l ih =>
  intro q ls a hl hq' inv hB h
  have h0 : ops[q]? = some o := by simpa using (hl 0 (by simp)).symm
  simp only [List.length_cons, Region.lexHead, Bool.and_eq_true] at hB hq'
  have hr : q ∈ Region.ready md ops ls := by simpa using hB.1.1
  obtain ⟨v, hy, hK⟩ := yieldsIn_of_qOp h0 (show qOp P ops C q (wpQuiet P ops C K l) a by unfold qOp; simp only [h0]; exact h)
  exact hq_first h0 (Region.noSelect_spec hsel) hs hc hn (by omega) (fun ls' a' hL => seqB_ready hL.1) l.length ls a inv (Region.free_spec h0 hB.1.2) hr hy
   (ih (q + 1) _ _ (fun j hj => by have := hl (j + 1) (by simp; omega); simpa [Nat.add_assoc, Nat.add_comm 1 j] using this) (by omega) (inv.set hr (by omega)) hB.2 hK)
theorem wp_quiet_tail {id : Nat} {Q : Exit → Act → World → Prop} {a : Act} {w : World} {l : List Oper} (n : Nat) (hm : P.follows .mixedOrders = true) (hB : Region.lexTailB .any l.toArray n = true) (hC : C w.drew)
    (h : wpQuiet P l.toArray C (fun a' => ∀ w', C w' → wpList P l.toArray Q (l.drop n) a' w') (l.take n) a) : (Code.region id l.toArray true).wp P Q a w := by
 simp only [Region.lexTailB, Bool.and_eq_true, decide_eq_true_eq] at hB
 obtain ⟨⟨⟨⟨hsel, hn⟩, hs⟩, hc⟩, hlex⟩ := hB
 have hn' : n < l.length := by simpa using hn
 have ht : (l.take n).length = n := by rw [List.length_take]; omega
 have hd : (l.drop n).length = l.toArray.size - n := by simp
 have inv0 : HeadInv .any l.toArray n (Array.replicate l.toArray.size false) :=
  ⟨by simp, fun j oj _ hl => (by rw [getD_replicate_false] at hl; cases hl), fun t _ ht => getD_in (by simpa using ht) (getD_replicate_false _ _)⟩
 have H := hq_lex (md := .any) (k := l.toArray.size - n) hsel hs hc hn (l.take n) 0 _ a (fun j hj => by rw [ht] at hj; simp [hj]) (by omega) inv0 (by rw [ht]; exact hlex) h
 refine wp_region_any hm ?_
 have := hq_any (Q := Q) (k := l.toArray.size - n) (fun ls a' w' hw' hL => by
  have := wpAny_of_seq (md := .any) (Q' := Q) (l.drop n) n ls a' w' (fun j => by simp [List.getElem?_drop]) (by rw [hd]; exact hL.1) (hL.2 w' hw')
  rwa [hd] at this) _ _ _ _ hC H
 rw [ht, show n + (l.toArray.size - n) = l.toArray.size by omega] at this
 exact this
end
theorem wk_tail {P : Program} {id : Nat} {Q : Exit → Act → World → Prop} {a : Act} {W : World} {l : List Oper} (n : Nat) (hm : P.follows .mixedOrders = true) (hB : Region.lexTailB .any l.toArray n = true)
    (h : wpQuiet P l.toArray (fun w' => ∃ u : Wk W, w' = u.1) (fun a' => ∀ w', (∃ u : Wk W, w' = u.1) → wpList P l.toArray Q (l.drop n) a' w') (l.take n) a) : (Code.region id l.toArray true).wp P Q a W :=
 wp_quiet_tail (C := fun w' => ∃ u : Wk W, w' = u.1) n hm hB ⟨⟨W.drew, (Below.refl _ _).drew⟩, rfl⟩ h
end Go.Proofs.YtjcdkbalhleeeaaGreatDoor

namespace Go.Proofs.YtjcdkbalhleeeaaGreatDoor
open Go.RowKit
theorem Rd.natAt {w : World} {A : Option Addr} {c : Nat} {l : List Int} (h : Rd w A c l) (e : l = (nats l).map Int.ofNat) {k : Nat} (hk : k < l.length) :
    ∃ ad, A = some ad ∧ w.cell? (ad.add k) = some (.int .i64 (((nats l).getD k 0 : Nat) : Int)) := by
 obtain ⟨ad, e1, e2⟩ := h.at_ hk
 refine ⟨ad, e1, ?_⟩
 have hk' : k < (nats l).length := by simpa [nats] using hk
 have e3 : l[k] = (((nats l).getD k 0 : Nat) : Int) := by
  have : l[k] = ((nats l).map Int.ofNat)[k]'(by simpa using hk') := by congr 1
  rw [this]; simp [List.getD, List.getElem?_eq_getElem hk']
 rw [← e3]; exact e2
structure LookL (B n : Nat) (W wx : World) (p : PG) (q : List Nat) (kd ka : Nat) (v8 v9 : Value) (gd cd ga ca : Nat → Nat) : Prop where
 down : RowsM wx B v8 kd n gd cd (matD p q)
 across : RowsM wx B v9 ka n ga ca (matU p q)
 apart : ∀ b, rowsS v8 kd gd b → ¬ rowsS v9 ka ga b
 base : W.heap.size ≤ B
 below : Below W.heap.size W wx
def LookR (B n : Nat) (W wx : World) (p : PG) (q : List Nat) (k : Nat) (v8 v9 : Value) : Prop := ∃ gd cd ga ca, LookL B n W wx p q k k v8 v9 gd cd ga ca
section
variable {B n : Nat} {W U w' : World} {p : PG} {q : List Nat} {kd ka : Nat} {v8 v9 : Value} {gd cd ga ca : Nat → Nat}
theorem LookL.to (h : LookL B n W U p q kd ka v8 v9 gd cd ga ca) (hb : Below U.heap.size U w') : LookL B n W w' p q kd ka v8 v9 gd cd ga ca :=
 ⟨h.down.below hb (Nat.le_refl _), h.across.below hb (Nat.le_refl _), h.apart, h.base, h.below.trans (hb.mono h.below.size)⟩
theorem LookL.push_down (h : LookL B n W U p q kd ka v8 v9 gd cd ga ca) {r cr o cap : Nat}
    (hr : U.ownsRow B 2 1 (.slice (some ⟨r, 0, none⟩) n cr) n ((List.range n).map fun j => Value.int .i64 (matD p q kd j)))
    (hn8 : ¬ rowsS v8 kd gd r) (hn9 : ¬ rowsS v9 ka ga r)
    (hown : w'.ownsRow B 25 1 (.slice (some ⟨o, 0, none⟩) (kd + 1) cap) (kd + 1) (((List.range kd).map fun i => Value.slice (some ⟨gd i, 0, none⟩) n (cd i)) ++ [.slice (some ⟨r, 0, none⟩) n cr]))
    (hg : U.grownBy w' v8.ownBlock) (hat : v8.ownBlock = some o ∨ o = U.heap.size) :
    LookL B n W w' p q (kd + 1) ka (.slice (some ⟨o, 0, none⟩) (kd + 1) cap) v9 (fun i => if i = kd then r else gd i) (fun i => if i = kd then cr else cd i) ga ca := by
 refine ⟨h.down.push hr hn8 hown hg hat, h.across.grown hg fun b hb hs => h.apart b (.inl hb) hs, fun b hb hs => ?_, h.base, h.below.grown hg h.below.size fun k e => Nat.le_trans h.base (h.down.own.lt k e).1⟩
 rcases RowsM.S_push hb with rfl | rfl | hb
 ·rcases hat with e | e
  ·exact h.apart _ (.inl e) hs
  ·have := (h.across.lt hs).2; omega
 ·exact hn9 hs
 ·exact h.apart b hb hs
theorem LookL.push_across (h : LookL B n W U p q kd ka v8 v9 gd cd ga ca) {r cr o cap : Nat}
    (hr : U.ownsRow B 2 1 (.slice (some ⟨r, 0, none⟩) n cr) n ((List.range n).map fun j => Value.int .i64 (matU p q ka j)))
    (hn8 : ¬ rowsS v8 kd gd r) (hn9 : ¬ rowsS v9 ka ga r)
    (hown : w'.ownsRow B 25 1 (.slice (some ⟨o, 0, none⟩) (ka + 1) cap) (ka + 1) (((List.range ka).map fun i => Value.slice (some ⟨ga i, 0, none⟩) n (ca i)) ++ [.slice (some ⟨r, 0, none⟩) n cr]))
    (hg : U.grownBy w' v9.ownBlock) (hat : v9.ownBlock = some o ∨ o = U.heap.size) :
    LookL B n W w' p q kd (ka + 1) v8 (.slice (some ⟨o, 0, none⟩) (ka + 1) cap) gd cd (fun i => if i = ka then r else ga i) (fun i => if i = ka then cr else ca i) := by
 refine ⟨h.down.grown hg fun b hb hs => h.apart b hs (.inl hb), h.across.push hr hn9 hown hg hat, fun b hs hb => ?_, h.base, h.below.grown hg h.below.size fun k e => Nat.le_trans h.base (h.across.own.lt k e).1⟩
 rcases RowsM.S_push hb with rfl | rfl | hb
 ·rcases hat with e | e
  ·exact h.apart _ hs (.inl e)
  ·have := (h.down.lt hs).2; omega
 ·exact hn8 hs
 ·exact h.apart b hs hb
theorem LookL.same (h : LookL B n W U p q kd ka v8 v9 gd cd ga ca)
    (hd : ∀ b, rowsS v8 kd gd b → w'.heap[b]? = U.heap[b]?) (ha : ∀ b, rowsS v9 ka ga b → w'.heap[b]? = U.heap[b]?) (hb : Below W.heap.size W w') : LookL B n W w' p q kd ka v8 v9 gd cd ga ca :=
 ⟨h.down.same hd, h.across.same ha, h.apart, h.base, hb⟩
end
theorem matD_has {p : PG} {q : List Nat} {i j : Nat} (h : j < q.length) : matD p q i j = hasZ p i (q.getD j 0) := by unfold matD; rw [if_pos h]
theorem matU_has {p : PG} {q : List Nat} {i j : Nat} (h : j < q.length) : matU p q i j = hasZ p j (q.getD i 0) := by unfold matU; rw [if_pos h]
theorem matU_cost {p : PG} {q : List Nat} {i : Nat} : matU p q i q.length = costZ p (q.getD i 0) := by unfold matU; rw [if_neg (Nat.lt_irrefl _)]
theorem own_nil_map (w : World) (base : Nat) (f : Nat → Int) : w.ownsRow base 2 1 (.slice none 0 0) 0 ((List.range 0).map fun j => Value.int .i64 (f j)) := World.ownsRow_nil _ _ _ _
theorem look_round {W U V X w3 w4 w5 w6 w7 : World} {p : PG} {q : List Nat} {k : Nat} {v8 v9 va vb : Value} {gd cd ga ca : Nat → Nat} {g3 cap3 g4 cap4 g6 cap6 g7 cap7 UB : Nat} {o3 o4 o6 o7 : Obj} {xa xb : List Value} {n : Nat}
    (hk : LookL W.heap.size (p.rows.length + 1) W U p q k k v8 v9 gd cd ga ca) (hUV : Below U.heap.size U V) (hVX : Below V.heap.size V X) (hUB : U.heap.size ≤ UB) (hWU : W.heap.size ≤ U.heap.size)
    (hva : V.ownsRow UB 2 1 va n xa) (hvb : X.ownsRow V.heap.size 2 1 vb n xb)
    (hg3 : (X.alloc o3).grownBy w3 va.ownBlock) (hat3 : va.ownBlock = some g3 ∨ g3 = (X.alloc o3).heap.size)
    (hown3 : w3.ownsRow UB 2 1 (.slice (some ⟨g3, 0, none⟩) (p.rows.length + 1) cap3) (p.rows.length + 1) ((List.range (p.rows.length + 1)).map fun j => Value.int .i64 (matD p q k j)))
    (hg4 : (w3.alloc o4).grownBy w4 v8.ownBlock) (hat4 : v8.ownBlock = some g4 ∨ g4 = (w3.alloc o4).heap.size)
    (hown4 : w4.ownsRow W.heap.size 25 1 (.slice (some ⟨g4, 0, none⟩) (k + 1) cap4) (k + 1) (((List.range k).map fun i => Value.slice (some ⟨gd i, 0, none⟩) (p.rows.length + 1) (cd i)) ++ [.slice (some ⟨g3, 0, none⟩) (p.rows.length + 1) cap3]))
    (hb5 : Below w4.heap.size w4 w5)
    (hg6 : (w5.alloc o6).grownBy w6 vb.ownBlock) (hat6 : vb.ownBlock = some g6 ∨ g6 = (w5.alloc o6).heap.size)
    (hown6 : w6.ownsRow V.heap.size 2 1 (.slice (some ⟨g6, 0, none⟩) (p.rows.length + 1) cap6) (p.rows.length + 1) ((List.range (p.rows.length + 1)).map fun j => Value.int .i64 (matU p q k j)))
    (hg7 : (w6.alloc o7).grownBy w7 v9.ownBlock) (hat7 : v9.ownBlock = some g7 ∨ g7 = (w6.alloc o7).heap.size)
    (hown7 : w7.ownsRow W.heap.size 25 1 (.slice (some ⟨g7, 0, none⟩) (k + 1) cap7) (k + 1) (((List.range k).map fun i => Value.slice (some ⟨ga i, 0, none⟩) (p.rows.length + 1) (ca i)) ++ [.slice (some ⟨g6, 0, none⟩) (p.rows.length + 1) cap6])) :
    LookR W.heap.size (p.rows.length + 1) W w7 p q (k + 1) (.slice (some ⟨g4, 0, none⟩) (k + 1) cap4) (.slice (some ⟨g7, 0, none⟩) (k + 1) cap7) := by
 have z0 := hUV.size
 have z1 := hVX.size
 have z3 := hg3.size
 have z4 := hg4.size
 have z5 := hb5.size
 have z6 := hg6.size
 simp only [World.size_alloc] at z3 z4 z6 hat3 hat4 hat6
 have la := hva.lt
 have lb := hvb.lt
 have G3 : U.heap.size ≤ g3 ∧ (g3 < V.heap.size ∨ X.heap.size ≤ g3) := by
  rcases hat3 with e | e
  ·have := la g3 e; omega
  ·omega
 have G3' := (hown3.lt g3 rfl).2
 have G4' := (hown4.lt g4 rfl).2
 have hUX : Below U.heap.size U X := hUV.trans (hVX.mono z0)
 have hU3 : Below U.heap.size U w3 := (hUX.alloc hUX.size o3).grown hg3 (by simp; omega) fun j e => by have := la j e; omega
 have h3 := (hk.to hU3).to ((Below.refl _ w3).alloc (Nat.le_refl _) o4)
 have G4 : g4 < U.heap.size ∨ X.heap.size ≤ g4 := by
  rcases hat4 with e | e
  ·have := hk.down.lt (.inl e); omega
  ·omega
 have hlow : ∀ b, rowsS v8 k gd b ∨ rowsS v9 k ga b → b < U.heap.size := fun b h => by
  rcases h with h | h
  ·exact (hk.down.lt h).2
  ·exact (hk.across.lt h).2
 have h4 := h3.push_down (own_weak (hown3.alloc _) (by omega)) (fun h => by have := hlow _ (.inl h); omega) (fun h => by have := hlow _ (.inr h); omega) hown4 hg4 (by rcases hat4 with e | e; exact .inl e; exact .inr (by simp; omega))
 have G6 : V.heap.size ≤ g6 ∧ (g6 < X.heap.size ∨ w4.heap.size ≤ g6) := by
  rcases hat6 with e | e
  ·have := lb g6 e; omega
  ·omega
 have keep : ∀ b, b < w4.heap.size → vb.ownBlock ≠ some b → (w6.alloc o7).heap[b]? = w4.heap[b]? := fun b hb hn => by
  rw [Below.heap_alloc w6 o7 b (by omega), hg6.block b (by simp; omega) (fun e => hn e.symm), Below.heap_alloc w5 o6 b (by omega), hb5.block b hb]
 have h6 : LookL W.heap.size (p.rows.length + 1) W (w6.alloc o7) p q (k + 1) k _ v9 _ _ ga ca := h4.same
  (fun b hb => keep b (h4.down.lt hb).2 fun e => by
   have := lb b e
   rcases RowsM.S_push hb with e' | e' | e'
   ·omega
   ·omega
   ·have := hlow b (.inl e'); omega)
  (fun b hb => keep b (h4.across.lt hb).2 fun e => by have := lb b e; have := hlow b (.inr hb); omega)
  (((h4.below.trans (hb5.mono h4.below.size)).alloc (by have := h4.below.size; omega) o6 |>.grown hg6 (by have := h4.below.size; simp; omega) fun j e => by have := lb j e; omega).alloc (by have := h4.below.size; omega) o7)
 have h7 := h6.push_across (own_weak (hown6.alloc _) (by omega)) (fun h => by
     rcases RowsM.S_push h with e' | e' | e'
     ·omega
     ·omega
     ·have := hlow _ (.inl e'); omega) (fun h => by have := hlow _ (.inr h); omega) hown7 hg7 (by rcases hat7 with e | e; exact .inl e; exact .inr e)
 exact ⟨_, _, _, _, h7⟩
def gainL (p : PG) (q : List Nat) (N j : Nat) (v : Int) : List Int := (List.range N).map fun i => if i < j then gk p q i p.rows.length else if i = j then v else 0
theorem gainL_zero (p : PG) (q : List Nat) (N : Nat) : List.replicate N (0 : Int) = gainL p q N 0 0 := by
 refine List.ext_getElem (by simp [gainL]) fun i h1 h2 => ?_
 simp [gainL]
theorem gainL_set {p : PG} {q : List Nat} {N j : Nat} {u v : Int} : (gainL p q N j u).set j v = gainL p q N j v := by
 refine List.ext_getElem (by simp [gainL]) fun i h1 h2 => ?_
 rw [List.getElem_set]
 simp only [gainL, List.getElem_map, List.getElem_range]
 by_cases e : j = i
 ·subst e; simp
 ·rw [if_neg e]; split; rfl; rw [if_neg (by omega), if_neg (by omega)]
theorem gainL_succ {p : PG} {q : List Nat} {N j : Nat} : gainL p q N j (gk p q j p.rows.length) = gainL p q N (j + 1) 0 := by
 unfold gainL
 apply List.map_congr_left
 intro i _
 by_cases e : i = j
 ·subst e; simp
 ·by_cases e2 : i < j
  ·rw [if_pos e2, if_pos (by omega)]
  ·rw [if_neg e2, if_neg e, if_neg (by omega)]; split <;> rfl
theorem gainL_at {p : PG} {q : List Nat} {N j : Nat} {v : Int} (h : j < N) : ((gainL p q N j v).map (Value.int .i64))[j]? = some (.int .i64 v) := by
 simp [gainL, h]
theorem gainL_end (p : PG) (q : List Nat) : gainL p q (p.costs.length + p.rows.length) (p.costs.length + p.rows.length) 0 = gall p q := by
 unfold gainL gall
 apply List.map_congr_left
 intro i hi
 have : i < p.costs.length + p.rows.length := by simpa using hi
 rw [if_pos this]
theorem putAll_none (q : List Nat) (v : Nat → Int) (N : Nat) : List.replicate N (0 : Int) = putAll q v N 0 := by simp [putAll]
theorem map_set_int (l : List Int) (k : Nat) (z : Int) : (l.map (Value.int .i64)).set k (.int .i64 z) = (l.set k z).map (Value.int .i64) := by rw [List.map_set]
theorem map_at_int {l : List Int} {k : Nat} (h : k < l.length) : (l.map (Value.int .i64))[k]? = some (.int .i64 (l.getD k 0)) := by simp [List.getD, List.getElem?_eq_getElem h]
theorem own_far {w : World} {base n : Nat} {e : TypeId} {v : Value} {xs : List Value} (h : w.ownsRow base e 1 v n xs) {p : Addr} (u : Value) (hp : v.ownBlock ≠ some p.block) : (w.setCell p u).ownsRow base e 1 v n xs :=
 own_same h fun b hb => Below.heap_setCell _ _ _ _ fun q => hp (by rw [hb, q])
theorem Rd.getD_at {w : World} {A : Option Addr} {c : Nat} {l : List Int} (h : Rd w A c l) {k : Nat} (hk : k < l.length) : ∃ ad, A = some ad ∧ w.cell? (ad.add k) = some (.int .i64 (l.getD k 0)) := by
 obtain ⟨ad, e, hc⟩ := h.at_ hk
 exact ⟨ad, e, by rw [hc]; simp [List.getD, List.getElem?_eq_getElem hk]⟩
theorem Rd.same {w w' : World} {A : Option Addr} {c : Nat} {l : List Int} (h : Rd w A c l) (hk : ∀ ad, A = some ad → ad.block < w.heap.size → w'.heap[ad.block]? = w.heap[ad.block]?) : Rd w' A c l :=
 ⟨h.le, h.cap, h.small, fun hl => by
  obtain ⟨ad, e, hc⟩ := h.cells hl
  have h0 := lc_ (hc 0 _ (List.getElem?_eq_getElem hl))
  rw [block_add] at h0
  exact ⟨ad, e, fun j u hu => (World.cell?_of_block (by rw [block_add]; exact hk ad e h0)).trans (hc j u hu)⟩⟩
theorem row_succ (f : Nat → Int) (k : Nat) : ((List.range k).map fun j => Value.int .i64 (f j)) ++ [Value.int .i64 (f k)] = (List.range (k + 1)).map fun j => Value.int .i64 (f j) := by rw [List.range_succ, List.map_append]; rfl
end Go.Proofs.YtjcdkbalhleeeaaGreatDoor

namespace Go.Proofs.YtjcdkbalhleeeaaGreatDoor
open Go.RowKit
theorem Rd.not_box {w : World} {b : Nat} {X Y1 Y2 Y3 : Option Addr} {cx n1 n2 n3 c1 c2 c3 : Nat} {z1 z2 z3 : Int} {xs : List Int} {t : TypeId} (h : Rd w X cx xs) (h2 : 2 ≤ xs.length)
    (hb : Blk w b t #[.slice Y1 n1 c1, .int .i64 z1, .slice Y2 n2 c2, .int .i64 z2, .slice Y3 n3 c3, .int .i64 z3]) : ∀ ad, X = some ad → ad.block ≠ b := by
 intro ad e q
 obtain ⟨ad', e', hc⟩ := h.cells (by simp; omega)
 rw [e] at e'
 injection e' with e'
 subst e'
 have h0 := hc 0 (.int .i64 xs[0]) (by simp)
 have h1 := hc 1 (.int .i64 xs[1]) (by simp)
 obtain ⟨b', off, sp⟩ := ad
 have q : b' = b := q
 subst q
 have e0 : (⟨b', off, sp⟩ : Addr).add 0 = ⟨b', off, sp⟩ := rfl
 have e1 : (⟨b', off, sp⟩ : Addr).add 1 = ⟨b', off + 1, none⟩ := rfl
 have hb' : w.heap[b']? = some (.cells #[.slice Y1 n1 c1, .int .i64 z1, .slice Y2 n2 c2, .int .i64 z2, .slice Y3 n3 c3, .int .i64 z3] t (0, 0)) := hb
 rw [e0] at h0
 rw [e1] at h1
 simp only [World.cell?, hb'] at h0 h1
 have hs : sp.isSome = false := by
  cases sp with
  | none => rfl
  | some s => simp at h0
 simp only [hs] at h0
 simp at h0 h1
 rcases (show off = 0 ∨ off = 1 ∨ off = 2 ∨ off = 3 ∨ off = 4 ∨ off = 5 ∨ 6 ≤ off by omega) with rfl | rfl | rfl | rfl | rfl | rfl | ho
 ·simp at h0
 ·simp at h1
 ·simp at h0
 ·simp at h1
 ·simp at h0
 ·simp at h1
 ·rw [List.getElem?_eq_none (by simpa using ho)] at h0; cases h0
theorem Rd.blk_lt {w : World} {A : Option Addr} {c : Nat} {l : List Int} (h : Rd w A c l) (h0 : 0 < l.length) : ∀ ad, A = some ad → ad.block < w.heap.size := by
 intro ad e
 obtain ⟨ad', e', hc⟩ := h.at_ h0
 rw [e] at e'
 injection e' with e'
 subst e'
 exact lc_ hc
theorem Rd.takeW {w : World} {A : Option Addr} {c : Nat} {l : List Int} (h : Rd w A c l) (n : Nat) (hn : n ≤ l.length) : Rd w A c (l.take n) ∧ (l.take n).length = n := by
 have hl : (l.take n).length = n := by rw [List.length_take]; omega
 refine ⟨⟨by rw [hl]; have := h.le; omega, h.cap, by rw [hl]; have := h.small; omega, fun h0 => ?_⟩, hl⟩
 simp only [List.length_map] at h0
 obtain ⟨ad, e, hc⟩ := h.cells (by simp; omega)
 refine ⟨ad, e, fun j u hu => hc j u ?_⟩
 rw [List.map_take, List.getElem?_take] at hu
 split at hu
 ·exact hu
 ·simp at hu
end Go.Proofs.YtjcdkbalhleeeaaGreatDoor

namespace Go.Proofs.YtjcdkbalhleeeaaGreatDoor
open Go.RowKit
theorem und_intss : Tryz.prog.underlying 70 = some (.slice 51) := by kernel_rfl
theorem inf_intS : (Tryz.prog.info? 51).map (fun i => (i.zero, i.size, i.bytes)) = some (some (.slice none 0 0), 1, 24) := by kernel_rfl
structure Ls (w : World) (A : Option Addr) (c : Nat) (ls : List (List Int)) : Prop where
 le : ls.length ≤ c
 cap : c ≤ 9223372036854775807
 small : ls.length ≤ 100000
 cells : 0 < ls.length → ∃ ad, A = some ad ∧ ∀ j, j < ls.length → ∃ A' c', w.cell? (ad.add j) = some (.slice A' (ls.getD j []).length c') ∧ Rd w A' c' (ls.getD j [])
section
variable {w w' : World} {A : Option Addr} {c : Nat} {ls : List (List Int)}
theorem Ls.at_ (h : Ls w A c ls) {k : Nat} (hk : k < ls.length) : ∃ ad A' c', A = some ad ∧ w.cell? (ad.add k) = some (.slice A' (ls.getD k []).length c') ∧ Rd w A' c' (ls.getD k []) := by
 obtain ⟨ad, e, hc⟩ := h.cells (by omega)
 obtain ⟨A', c', h1, h2⟩ := hc k hk
 exact ⟨ad, A', c', e, h1, h2⟩
end
structure LsB (w : World) (base : Nat) (v : Value) (k : Nat) (As : Nat → Option Addr) (cs : Nat → Nat) (f : Nat → List Int) : Prop where
 own : w.ownsRow base 51 1 v k ((List.range k).map fun i => Value.slice (As i) (f i).length (cs i))
 rd : ∀ i, i < k → Rd w (As i) (cs i) (f i)
 ne : ∀ i, i < k → ∀ ad, As i = some ad → v.ownBlock ≠ some ad.block
section
variable {w w' : World} {base k : Nat} {v : Value} {As : Nat → Option Addr} {cs : Nat → Nat} {f : Nat → List Int}
theorem LsB.nil (w : World) (base : Nat) (As : Nat → Option Addr) (cs : Nat → Nat) (f : Nat → List Int) : LsB w base (.slice none 0 0) 0 As cs f :=
 ⟨World.ownsRow_nil _ _ _ _, fun i hi => by omega, fun i hi => by omega⟩
theorem LsB.below (h : LsB w base v k As cs f) (hb : Below w.heap.size w w') : LsB w' base v k As cs f :=
 ⟨own_below h.own hb, fun i hi => (h.rd i hi).below hb, h.ne⟩
theorem Rd.grown' {A : Option Addr} {c : Nat} {l : List Int} {row : Option Nat} (h : Rd w A c l) (hg : w.grownBy w' row) (hr : ∀ ad, A = some ad → row ≠ some ad.block) : Rd w' A c l :=
 h.same fun ad e hlt => hg.block _ hlt fun q => hr ad e q.symm
theorem LsB.push (h : LsB w base v k As cs f) {A : Option Addr} {c o cap : Nat} (hr : Rd w A c (f k)) (hn : ∀ ad, A = some ad → v.ownBlock ≠ some ad.block) (hlt : ∀ ad, A = some ad → ad.block < w.heap.size)
    (hlts : ∀ i, i < k → ∀ ad, As i = some ad → ad.block < w.heap.size)
    (hown : w'.ownsRow base 51 1 (.slice (some ⟨o, 0, none⟩) (k + 1) cap) (k + 1) (((List.range k).map fun i => Value.slice (As i) (f i).length (cs i)) ++ [.slice A (f k).length c]))
    (hg : w.grownBy w' v.ownBlock) (hat : v.ownBlock = some o ∨ o = w.heap.size) :
    LsB w' base (.slice (some ⟨o, 0, none⟩) (k + 1) cap) (k + 1) (fun i => if i = k then A else As i) (fun i => if i = k then c else cs i) f := by
 refine ⟨?_, fun i hi => ?_, fun i hi ad e => ?_⟩
 ·have e1 : ((List.range (k + 1)).map fun i => Value.slice (if i = k then A else As i) (f i).length (if i = k then c else cs i)) = ((List.range k).map fun i => Value.slice (As i) (f i).length (cs i)) ++ [.slice A (f k).length c] := by
    rw [List.range_succ, List.map_append]
    congr 1
    ·apply List.map_congr_left
     intro i hi
     have : i < k := by simpa using hi
     rw [if_neg (by omega), if_neg (by omega)]
    ·simp
  show w'.ownsRow base 51 1 _ _ ((List.range (k + 1)).map fun i => Value.slice (if i = k then A else As i) (f i).length (if i = k then c else cs i))
  rw [e1]; exact hown
 ·by_cases e : i = k
  ·subst e; simp only [if_true]; exact hr.grown' hg hn
  ·simp only [e, if_false]; exact (h.rd i (by omega)).grown' hg (h.ne i (by omega))
 ·have key : ∀ ad : Addr, ad.block < w.heap.size → v.ownBlock ≠ some ad.block → (Value.slice (some ⟨o, 0, none⟩) (k + 1) cap).ownBlock ≠ some ad.block := by
    intro ad h1 h2 q
    have q' : o = ad.block := Option.some.inj q
    rcases hat with w | w
    ·exact h2 (w.trans q)
    ·omega
  by_cases e' : i = k
  ·subst e'; simp only [if_true] at e; exact key ad (hlt ad e) (hn ad e)
  ·simp only [e', if_false] at e; exact key ad (hlts i (by omega) ad e) (h.ne i (by omega) ad e)
theorem LsB.read {g cap : Nat} (h : LsB w base (.slice (some ⟨g, 0, none⟩) k cap) k As cs f) (hk : k ≤ 100000) : Ls w (some ⟨g, 0, none⟩) cap ((List.range k).map f) := by
 have hc := own_caps h.own
 refine ⟨by simpa using hc.1, hc.2, by simpa using hk, fun _ => ⟨_, rfl, fun j hj => ?_⟩⟩
 have hj' : j < k := by simpa using hj
 have e : ((List.range k).map f).getD j [] = f j := by simp [List.getD, hj']
 rw [e]
 refine ⟨As j, cs j, ?_, h.rd j hj'⟩
 have h1 := own_cell' h.own j (.slice (As j) (f j).length (cs j)) (by simp [hj'])
 have e1 : (⟨g, 0, none⟩ : Addr).add j = ⟨g, j, none⟩ := by unfold Addr.add; split <;> simp_all
 rw [e1]; exact h1
end
section
variable {ops : Array Oper} {rest : List Oper} {o : Oper} {a : Act} {w : World} {Q : Exit → Act → World → Prop}
set_option maxRecDepth 100000 in
theorem list_appS (hgd : o.guard = none) (s x : Operand) (ho : o.op = .call { callee := .builtin .append, args := #[s, x], argTypes := #[70, 70] })
    (base : Nat) (v : Value) (n : Nat) (xs : List Value) (u : Value) (hs : a.eval s = v) (hown : w.ownsRow base 51 1 v n xs)
    (b c : Nat) (hx : a.eval x = .slice (some ⟨b, 0, none⟩) 1 c) (hb : w.cell? ⟨b, 0, none⟩ = some u) (hu : u.oneCell' = true) (hn : n ≤ 100000) (hbase : base ≤ w.heap.size)
    (h : ∀ g cap w', w'.ownsRow base 51 1 (.slice (some ⟨g, 0, none⟩) (n + 1) cap) (n + 1) (xs ++ [u]) → w.grownBy w' v.ownBlock → (v.ownBlock = some g ∨ g = w.heap.size) → g < w'.heap.size → wpList Tryz.prog ops Q rest (a.put o.dst (.slice (some ⟨g, 0, none⟩) (n + 1) cap)) w') :
    wpList Tryz.prog ops Q (o :: rest) a w :=
 list_app1 hgd s x 70 51 (.slice none 0 0) 24 und_intss inf_intS rfl ho base v n xs u hs hown b c hx hb hu (by unfold maxLen; omega) (by omega) hbase h
end
end Go.Proofs.YtjcdkbalhleeeaaGreatDoor

set_option maxRecDepth 100000
namespace Go.Proofs.YtjcdkbalhleeeaaGreatDoor
open Go.RowKit
def nwA (s : NW) : Array Value := #[.bool s.fr.op, .int .i64 s.fr.n, .int .i64 s.fr.d, .bool s.to.op, .int .i64 s.to.n, .int .i64 s.to.d, .bool s.no]
set_option maxHeartbeats 2000000 in
theorem span_below (s : NW) (g : Nat) (a b : Int) (w : World) (hB : Blk w g 218 (nwA s)) (ha : -4611686018427387904 ≤ a ∧ a ≤ 4611686018427387904) :
    Calls Tryz.prog 163 #[.pointer (some ⟨g, 0, none⟩), .int .i64 a, .int .i64 b] w fun e w' => e = .returned (.tuple #[]) ∧ Blk w' g 218 (nwA (belowZ s a b)) ∧ Turned (· = g) w w' := by
 have HB := h_ hB
 obtain ⟨ha1, ha2⟩ := ha
 have hg := hB.lt
 clear hB
 by_cases hb : b = 0
 ·subst hb
  have c6 : w.cell? ⟨g, 6, none⟩ = some (.bool s.no) := HB.out.cell 6
  have f6 := HB.out.frozen 6
  have HV := h_ (show belowZ s a 0 = ⟨s.fr, s.to, s.no || decide (0 < a)⟩ by simp [belowZ])
  by_cases hno : s.no = true
  ·rw [hno] at c6
   go_enter Tryz.func163, Tryz.ntmps163
   go_wp2_with fail
   ((try simp only [Exit.inBlock, Exit.then]); refine bodyPost_ret (results_none rfl _ _ _) rfl ?_)
   refine ⟨rfl, ?_, (Turned.refl (· = g) _).setCell (p := ⟨g, 6, none⟩) rfl _⟩
   rw [HV.out, hno]; exact HB.out.set0 6 (.bool true)
  ·have hno : s.no = false := by simpa using hno
   rw [hno] at c6
   by_cases h0 : 0 < a
   ·have hd : decide (0 < a) = true := by simpa using h0
    go_enter Tryz.func163, Tryz.ntmps163
    go_wp2_with fail
    ((try simp only [Exit.inBlock, Exit.then]); refine bodyPost_ret (results_none rfl _ _ _) rfl ?_)
    refine ⟨rfl, ?_, (Turned.refl (· = g) _).setCell (p := ⟨g, 6, none⟩) rfl _⟩
    rw [HV.out, hno, hd]; exact HB.out.set0 6 (.bool true)
   ·have hd : decide (0 < a) = false := by simpa using h0
    go_enter Tryz.func163, Tryz.ntmps163
    go_wp2_with fail
    ((try simp only [Exit.inBlock, Exit.then]); refine bodyPost_ret (results_none rfl _ _ _) rfl ?_)
    refine ⟨rfl, ?_, (Turned.refl (· = g) _).setCell (p := ⟨g, 6, none⟩) rfl _⟩
    rw [HV.out, hno, hd]; exact HB.out.set0 6 (.bool false)
 ·have hbz : (b == 0) = false := by simpa using hb
  have hw1 : IntKind.i64.wrap (-a) = -a := IntWalk.i64_in _ (by omega)
  by_cases hpos : 0 < b
  ·have hp1 : decide (0 < b) = true := by simpa using hpos
   have hp2 : decide (b < 0) = false := by simp; omega
   by_cases ho : s.to.op = true
   ·have HV := h_ (show belowZ s a b = ⟨s.fr, endE (-a) b, s.no⟩ by unfold belowZ; rw [if_neg hb, if_pos ⟨hpos, .inl ho⟩])
    go_enter Tryz.func163, Tryz.ntmps163
    go_wp2_with fail
    refine (frac_Make _ _ _).mono ?_
    rintro e w1 ⟨rfl, hb1⟩
    have HVB := h_ ((HB.out.next hb1).alloc (.cells #[.int .i64 (frN (-a) b), .int .i64 (ptD [-a] b)] 55))
    have HVT := h_ (Blk.mk' w1 55 #[.int .i64 (frN (-a) b), .int .i64 (ptD [-a] b)])
    have HVW := h_ (hb1.alloc hb1.size (.cells #[.int .i64 (frN (-a) b), .int .i64 (ptD [-a] b)] 55))
    have z1 := hb1.size
    clear hb1
    go_wp2_with fail
    generalize (w1.alloc (.cells #[.int .i64 (frN (-a) b), .int .i64 (ptD [-a] b)] 55)) = V at *
    have k0 : ∀ u : Wk V, u.1.cell? ⟨g, 0, none⟩ = some (.bool s.fr.op) := fun u => ((HVB.out).next u.2).cell 0
    have k1 : ∀ u : Wk V, u.1.cell? ⟨g, 1, none⟩ = some (.int .i64 s.fr.n) := fun u => ((HVB.out).next u.2).cell 1
    have k2 : ∀ u : Wk V, u.1.cell? ⟨g, 2, none⟩ = some (.int .i64 s.fr.d) := fun u => ((HVB.out).next u.2).cell 2
    have k3 : ∀ u : Wk V, u.1.cell? ⟨g, 3, none⟩ = some (.bool s.to.op) := fun u => ((HVB.out).next u.2).cell 3
    have k4 : ∀ u : Wk V, u.1.cell? ⟨g, 4, none⟩ = some (.int .i64 s.to.n) := fun u => ((HVB.out).next u.2).cell 4
    have k5 : ∀ u : Wk V, u.1.cell? ⟨g, 5, none⟩ = some (.int .i64 s.to.d) := fun u => ((HVB.out).next u.2).cell 5
    have k6 : ∀ u : Wk V, u.1.cell? ⟨g, 6, none⟩ = some (.bool s.no) := fun u => ((HVB.out).next u.2).cell 6
    have f0 : ∀ u : Wk V, u.1.frozen? ⟨g, 0, none⟩ = false := fun u => ((HVB.out).next u.2).frozen 0
    have f1 : ∀ u : Wk V, u.1.frozen? ⟨g, 1, none⟩ = false := fun u => ((HVB.out).next u.2).frozen 1
    have f2 : ∀ u : Wk V, u.1.frozen? ⟨g, 2, none⟩ = false := fun u => ((HVB.out).next u.2).frozen 2
    have f3 : ∀ u : Wk V, u.1.frozen? ⟨g, 3, none⟩ = false := fun u => ((HVB.out).next u.2).frozen 3
    have f4 : ∀ u : Wk V, u.1.frozen? ⟨g, 4, none⟩ = false := fun u => ((HVB.out).next u.2).frozen 4
    have f5 : ∀ u : Wk V, u.1.frozen? ⟨g, 5, none⟩ = false := fun u => ((HVB.out).next u.2).frozen 5
    have f6 : ∀ u : Wk V, u.1.frozen? ⟨g, 6, none⟩ = false := fun u => ((HVB.out).next u.2).frozen 6
    have t0 : ∀ u : Wk V, u.1.cell? ⟨w1.heap.size, 0, none⟩ = some (.int .i64 (frN (-a) b)) := fun u => (HVT.out.next u.2).cell 0
    have t1 : ∀ u : Wk V, u.1.cell? ⟨w1.heap.size, 1, none⟩ = some (.int .i64 (ptD [-a] b)) := fun u => (HVT.out.next u.2).cell 1
    have zV := HVW.out.size
    rw [ho] at k3
    refine wk_region (by kernel_rfl) (by kernel_rfl) ?_
    repeat (go_big_quiet_step (fail))
    refine wpQuiet_nil ?_
    rintro w2 ⟨u2, rfl⟩
    go_wp2_with fail
    go_end0
    refine ⟨rfl, ?_, (((Turned.of_below (S := (· = g)) (HVW.out.trans (u2.2.mono zV))).setCell (p := ⟨g, 3, none⟩) rfl _).setCell (p := ⟨g, 4, none⟩) rfl _).setCell (p := ⟨g, 5, none⟩) rfl _⟩
    rw [HV.out]; exact (((HVB.out.next u2.2).set0 3 (.bool false)).set0 4 (.int .i64 (frN (-a) b))).set0 5 (.int .i64 (ptD [-a] b))
   ·have ho : s.to.op = false := by simpa using ho
    by_cases hl : lessB (frN (-a) b) (ptD [-a] b) s.to.n s.to.d = true
    ·have HV := h_ (show belowZ s a b = ⟨s.fr, endE (-a) b, s.no⟩ by unfold belowZ; rw [if_neg hb, if_pos ⟨hpos, .inr hl⟩])
     have HC := h_ (show ∀ w, Calls Tryz.prog 62 #[.agg #[.int .i64 (frN (-a) b), .int .i64 (ptD [-a] b)], .agg #[.int .i64 s.to.n, .int .i64 s.to.d]] w fun e w' => e = .returned (.bool true) ∧ Below w.heap.size w w' from fun w => by rw [← hl]; exact frac_Less _ _ _ _ w)
     clear hl
     go_enter Tryz.func163, Tryz.ntmps163
     go_wp2_with fail
     refine (frac_Make _ _ _).mono ?_
     rintro e w1 ⟨rfl, hb1⟩
     have HVB := h_ ((HB.out.next hb1).alloc (.cells #[.int .i64 (frN (-a) b), .int .i64 (ptD [-a] b)] 55))
     have HVT := h_ (Blk.mk' w1 55 #[.int .i64 (frN (-a) b), .int .i64 (ptD [-a] b)])
     have HVW := h_ (hb1.alloc hb1.size (.cells #[.int .i64 (frN (-a) b), .int .i64 (ptD [-a] b)] 55))
     have z1 := hb1.size
     clear hb1
     go_wp2_with fail
     generalize (w1.alloc (.cells #[.int .i64 (frN (-a) b), .int .i64 (ptD [-a] b)] 55)) = V at *
     have k0 : ∀ u : Wk V, u.1.cell? ⟨g, 0, none⟩ = some (.bool s.fr.op) := fun u => ((HVB.out).next u.2).cell 0
     have k1 : ∀ u : Wk V, u.1.cell? ⟨g, 1, none⟩ = some (.int .i64 s.fr.n) := fun u => ((HVB.out).next u.2).cell 1
     have k2 : ∀ u : Wk V, u.1.cell? ⟨g, 2, none⟩ = some (.int .i64 s.fr.d) := fun u => ((HVB.out).next u.2).cell 2
     have k3 : ∀ u : Wk V, u.1.cell? ⟨g, 3, none⟩ = some (.bool s.to.op) := fun u => ((HVB.out).next u.2).cell 3
     have k4 : ∀ u : Wk V, u.1.cell? ⟨g, 4, none⟩ = some (.int .i64 s.to.n) := fun u => ((HVB.out).next u.2).cell 4
     have k5 : ∀ u : Wk V, u.1.cell? ⟨g, 5, none⟩ = some (.int .i64 s.to.d) := fun u => ((HVB.out).next u.2).cell 5
     have k6 : ∀ u : Wk V, u.1.cell? ⟨g, 6, none⟩ = some (.bool s.no) := fun u => ((HVB.out).next u.2).cell 6
     have f0 : ∀ u : Wk V, u.1.frozen? ⟨g, 0, none⟩ = false := fun u => ((HVB.out).next u.2).frozen 0
     have f1 : ∀ u : Wk V, u.1.frozen? ⟨g, 1, none⟩ = false := fun u => ((HVB.out).next u.2).frozen 1
     have f2 : ∀ u : Wk V, u.1.frozen? ⟨g, 2, none⟩ = false := fun u => ((HVB.out).next u.2).frozen 2
     have f3 : ∀ u : Wk V, u.1.frozen? ⟨g, 3, none⟩ = false := fun u => ((HVB.out).next u.2).frozen 3
     have f4 : ∀ u : Wk V, u.1.frozen? ⟨g, 4, none⟩ = false := fun u => ((HVB.out).next u.2).frozen 4
     have f5 : ∀ u : Wk V, u.1.frozen? ⟨g, 5, none⟩ = false := fun u => ((HVB.out).next u.2).frozen 5
     have f6 : ∀ u : Wk V, u.1.frozen? ⟨g, 6, none⟩ = false := fun u => ((HVB.out).next u.2).frozen 6
     have t0 : ∀ u : Wk V, u.1.cell? ⟨w1.heap.size, 0, none⟩ = some (.int .i64 (frN (-a) b)) := fun u => (HVT.out.next u.2).cell 0
     have t1 : ∀ u : Wk V, u.1.cell? ⟨w1.heap.size, 1, none⟩ = some (.int .i64 (ptD [-a] b)) := fun u => (HVT.out.next u.2).cell 1
     have zV := HVW.out.size
     rw [ho] at k3
     refine wk_region (by kernel_rfl) (by kernel_rfl) ?_
     repeat (go_big_quiet_step ((go_at_call 62; with_reducible exact wk_call (HC.out _))))
     refine wpQuiet_nil ?_
     rintro w2 ⟨u2, rfl⟩
     go_wp2_with fail
     go_end0
     refine ⟨rfl, ?_, (((Turned.of_below (S := (· = g)) (HVW.out.trans (u2.2.mono zV))).setCell (p := ⟨g, 3, none⟩) rfl _).setCell (p := ⟨g, 4, none⟩) rfl _).setCell (p := ⟨g, 5, none⟩) rfl _⟩
     rw [HV.out]; exact (((HVB.out.next u2.2).set0 3 (.bool false)).set0 4 (.int .i64 (frN (-a) b))).set0 5 (.int .i64 (ptD [-a] b))
    ·have hl : lessB (frN (-a) b) (ptD [-a] b) s.to.n s.to.d = false := by simpa using hl
     have HV := h_ (show belowZ s a b = s by
      unfold belowZ; rw [if_neg hb, if_neg (fun h => by rcases h.2 with e | e; rw [ho] at e; cases e; rw [hl] at e; cases e), if_neg (fun h => by omega)])
     have HC := h_ (show ∀ w, Calls Tryz.prog 62 #[.agg #[.int .i64 (frN (-a) b), .int .i64 (ptD [-a] b)], .agg #[.int .i64 s.to.n, .int .i64 s.to.d]] w fun e w' => e = .returned (.bool false) ∧ Below w.heap.size w w' from fun w => by rw [← hl]; exact frac_Less _ _ _ _ w)
     clear hl
     go_enter Tryz.func163, Tryz.ntmps163
     go_wp2_with fail
     refine (frac_Make _ _ _).mono ?_
     rintro e w1 ⟨rfl, hb1⟩
     have HVB := h_ ((HB.out.next hb1).alloc (.cells #[.int .i64 (frN (-a) b), .int .i64 (ptD [-a] b)] 55))
     have HVT := h_ (Blk.mk' w1 55 #[.int .i64 (frN (-a) b), .int .i64 (ptD [-a] b)])
     have HVW := h_ (hb1.alloc hb1.size (.cells #[.int .i64 (frN (-a) b), .int .i64 (ptD [-a] b)] 55))
     have z1 := hb1.size
     clear hb1
     go_wp2_with fail
     generalize (w1.alloc (.cells #[.int .i64 (frN (-a) b), .int .i64 (ptD [-a] b)] 55)) = V at *
     have k0 : ∀ u : Wk V, u.1.cell? ⟨g, 0, none⟩ = some (.bool s.fr.op) := fun u => ((HVB.out).next u.2).cell 0
     have k1 : ∀ u : Wk V, u.1.cell? ⟨g, 1, none⟩ = some (.int .i64 s.fr.n) := fun u => ((HVB.out).next u.2).cell 1
     have k2 : ∀ u : Wk V, u.1.cell? ⟨g, 2, none⟩ = some (.int .i64 s.fr.d) := fun u => ((HVB.out).next u.2).cell 2
     have k3 : ∀ u : Wk V, u.1.cell? ⟨g, 3, none⟩ = some (.bool s.to.op) := fun u => ((HVB.out).next u.2).cell 3
     have k4 : ∀ u : Wk V, u.1.cell? ⟨g, 4, none⟩ = some (.int .i64 s.to.n) := fun u => ((HVB.out).next u.2).cell 4
     have k5 : ∀ u : Wk V, u.1.cell? ⟨g, 5, none⟩ = some (.int .i64 s.to.d) := fun u => ((HVB.out).next u.2).cell 5
     have k6 : ∀ u : Wk V, u.1.cell? ⟨g, 6, none⟩ = some (.bool s.no) := fun u => ((HVB.out).next u.2).cell 6
     have f0 : ∀ u : Wk V, u.1.frozen? ⟨g, 0, none⟩ = false := fun u => ((HVB.out).next u.2).frozen 0
     have f1 : ∀ u : Wk V, u.1.frozen? ⟨g, 1, none⟩ = false := fun u => ((HVB.out).next u.2).frozen 1
     have f2 : ∀ u : Wk V, u.1.frozen? ⟨g, 2, none⟩ = false := fun u => ((HVB.out).next u.2).frozen 2
     have f3 : ∀ u : Wk V, u.1.frozen? ⟨g, 3, none⟩ = false := fun u => ((HVB.out).next u.2).frozen 3
     have f4 : ∀ u : Wk V, u.1.frozen? ⟨g, 4, none⟩ = false := fun u => ((HVB.out).next u.2).frozen 4
     have f5 : ∀ u : Wk V, u.1.frozen? ⟨g, 5, none⟩ = false := fun u => ((HVB.out).next u.2).frozen 5
     have f6 : ∀ u : Wk V, u.1.frozen? ⟨g, 6, none⟩ = false := fun u => ((HVB.out).next u.2).frozen 6
     have t0 : ∀ u : Wk V, u.1.cell? ⟨w1.heap.size, 0, none⟩ = some (.int .i64 (frN (-a) b)) := fun u => (HVT.out.next u.2).cell 0
     have t1 : ∀ u : Wk V, u.1.cell? ⟨w1.heap.size, 1, none⟩ = some (.int .i64 (ptD [-a] b)) := fun u => (HVT.out.next u.2).cell 1
     have zV := HVW.out.size
     rw [ho] at k3
     refine wk_region (by kernel_rfl) (by kernel_rfl) ?_
     repeat (go_big_quiet_step ((go_at_call 62; with_reducible exact wk_call (HC.out _))))
     refine wpQuiet_nil ?_
     rintro w2 ⟨u2, rfl⟩
     go_wp2_with fail
     have HVB3 := h_ (HVB.out.next u2.2)
     have HVT3 := h_ (HVT.out.next u2.2)
     clear k0 k1 k2 k3 k4 k5 k6 f0 f1 f2 f3 f4 f5 f6 t0 t1
     have k0 : ∀ u : Wk u2.1, u.1.cell? ⟨g, 0, none⟩ = some (.bool s.fr.op) := fun u => ((HVB3.out).next u.2).cell 0
     have k1 : ∀ u : Wk u2.1, u.1.cell? ⟨g, 1, none⟩ = some (.int .i64 s.fr.n) := fun u => ((HVB3.out).next u.2).cell 1
     have k2 : ∀ u : Wk u2.1, u.1.cell? ⟨g, 2, none⟩ = some (.int .i64 s.fr.d) := fun u => ((HVB3.out).next u.2).cell 2
     have k3 : ∀ u : Wk u2.1, u.1.cell? ⟨g, 3, none⟩ = some (.bool s.to.op) := fun u => ((HVB3.out).next u.2).cell 3
     have k4 : ∀ u : Wk u2.1, u.1.cell? ⟨g, 4, none⟩ = some (.int .i64 s.to.n) := fun u => ((HVB3.out).next u.2).cell 4
     have k5 : ∀ u : Wk u2.1, u.1.cell? ⟨g, 5, none⟩ = some (.int .i64 s.to.d) := fun u => ((HVB3.out).next u.2).cell 5
     have k6 : ∀ u : Wk u2.1, u.1.cell? ⟨g, 6, none⟩ = some (.bool s.no) := fun u => ((HVB3.out).next u.2).cell 6
     have f0 : ∀ u : Wk u2.1, u.1.frozen? ⟨g, 0, none⟩ = false := fun u => ((HVB3.out).next u.2).frozen 0
     have f1 : ∀ u : Wk u2.1, u.1.frozen? ⟨g, 1, none⟩ = false := fun u => ((HVB3.out).next u.2).frozen 1
     have f2 : ∀ u : Wk u2.1, u.1.frozen? ⟨g, 2, none⟩ = false := fun u => ((HVB3.out).next u.2).frozen 2
     have f3 : ∀ u : Wk u2.1, u.1.frozen? ⟨g, 3, none⟩ = false := fun u => ((HVB3.out).next u.2).frozen 3
     have f4 : ∀ u : Wk u2.1, u.1.frozen? ⟨g, 4, none⟩ = false := fun u => ((HVB3.out).next u.2).frozen 4
     have f5 : ∀ u : Wk u2.1, u.1.frozen? ⟨g, 5, none⟩ = false := fun u => ((HVB3.out).next u.2).frozen 5
     have f6 : ∀ u : Wk u2.1, u.1.frozen? ⟨g, 6, none⟩ = false := fun u => ((HVB3.out).next u.2).frozen 6
     have t0 : ∀ u : Wk u2.1, u.1.cell? ⟨w1.heap.size, 0, none⟩ = some (.int .i64 (frN (-a) b)) := fun u => (HVT3.out.next u.2).cell 0
     have t1 : ∀ u : Wk u2.1, u.1.cell? ⟨w1.heap.size, 1, none⟩ = some (.int .i64 (ptD [-a] b)) := fun u => (HVT3.out.next u.2).cell 1
     (try rw [ho] at k0)
     refine wk_region (by kernel_rfl) (by kernel_rfl) ?_
     repeat (go_big_quiet_step (fail))
     refine wpQuiet_nil ?_
     rintro w3 ⟨u3, rfl⟩
     go_wp2_with fail
     go_end0
     have hu := u2.2.trans (u3.2.mono u2.2.size)
     refine ⟨rfl, ?_, Turned.of_below (S := (· = g)) (HVW.out.trans (hu.mono zV))⟩
     rw [HV.out]; exact HVB.out.next hu
  ·have hneg : b < 0 := by omega
   have hp1 : decide (0 < b) = false := by simp; omega
   have hp2 : decide (b < 0) = true := by simpa using hneg
   by_cases ho : s.fr.op = true
   ·have HV := h_ (show belowZ s a b = ⟨endE (-a) b, s.to, s.no⟩ by unfold belowZ; rw [if_neg hb, if_neg (fun h => by omega), if_pos ⟨hneg, .inl ho⟩])
    go_enter Tryz.func163, Tryz.ntmps163
    go_wp2_with fail
    refine (frac_Make _ _ _).mono ?_
    rintro e w1 ⟨rfl, hb1⟩
    have HVB := h_ ((HB.out.next hb1).alloc (.cells #[.int .i64 (frN (-a) b), .int .i64 (ptD [-a] b)] 55))
    have HVT := h_ (Blk.mk' w1 55 #[.int .i64 (frN (-a) b), .int .i64 (ptD [-a] b)])
    have HVW := h_ (hb1.alloc hb1.size (.cells #[.int .i64 (frN (-a) b), .int .i64 (ptD [-a] b)] 55))
    have z1 := hb1.size
    clear hb1
    go_wp2_with fail
    generalize (w1.alloc (.cells #[.int .i64 (frN (-a) b), .int .i64 (ptD [-a] b)] 55)) = V at *
    have k0 : ∀ u : Wk V, u.1.cell? ⟨g, 0, none⟩ = some (.bool s.fr.op) := fun u => ((HVB.out).next u.2).cell 0
    have k1 : ∀ u : Wk V, u.1.cell? ⟨g, 1, none⟩ = some (.int .i64 s.fr.n) := fun u => ((HVB.out).next u.2).cell 1
    have k2 : ∀ u : Wk V, u.1.cell? ⟨g, 2, none⟩ = some (.int .i64 s.fr.d) := fun u => ((HVB.out).next u.2).cell 2
    have k3 : ∀ u : Wk V, u.1.cell? ⟨g, 3, none⟩ = some (.bool s.to.op) := fun u => ((HVB.out).next u.2).cell 3
    have k4 : ∀ u : Wk V, u.1.cell? ⟨g, 4, none⟩ = some (.int .i64 s.to.n) := fun u => ((HVB.out).next u.2).cell 4
    have k5 : ∀ u : Wk V, u.1.cell? ⟨g, 5, none⟩ = some (.int .i64 s.to.d) := fun u => ((HVB.out).next u.2).cell 5
    have k6 : ∀ u : Wk V, u.1.cell? ⟨g, 6, none⟩ = some (.bool s.no) := fun u => ((HVB.out).next u.2).cell 6
    have f0 : ∀ u : Wk V, u.1.frozen? ⟨g, 0, none⟩ = false := fun u => ((HVB.out).next u.2).frozen 0
    have f1 : ∀ u : Wk V, u.1.frozen? ⟨g, 1, none⟩ = false := fun u => ((HVB.out).next u.2).frozen 1
    have f2 : ∀ u : Wk V, u.1.frozen? ⟨g, 2, none⟩ = false := fun u => ((HVB.out).next u.2).frozen 2
    have f3 : ∀ u : Wk V, u.1.frozen? ⟨g, 3, none⟩ = false := fun u => ((HVB.out).next u.2).frozen 3
    have f4 : ∀ u : Wk V, u.1.frozen? ⟨g, 4, none⟩ = false := fun u => ((HVB.out).next u.2).frozen 4
    have f5 : ∀ u : Wk V, u.1.frozen? ⟨g, 5, none⟩ = false := fun u => ((HVB.out).next u.2).frozen 5
    have f6 : ∀ u : Wk V, u.1.frozen? ⟨g, 6, none⟩ = false := fun u => ((HVB.out).next u.2).frozen 6
    have t0 : ∀ u : Wk V, u.1.cell? ⟨w1.heap.size, 0, none⟩ = some (.int .i64 (frN (-a) b)) := fun u => (HVT.out.next u.2).cell 0
    have t1 : ∀ u : Wk V, u.1.cell? ⟨w1.heap.size, 1, none⟩ = some (.int .i64 (ptD [-a] b)) := fun u => (HVT.out.next u.2).cell 1
    have zV := HVW.out.size
    rw [ho] at k0
    refine wk_region (by kernel_rfl) (by kernel_rfl) ?_
    repeat (go_big_quiet_step (fail))
    refine wpQuiet_nil ?_
    rintro w2 ⟨u2, rfl⟩
    go_wp2_with fail
    have HVB3 := h_ (HVB.out.next u2.2)
    have HVT3 := h_ (HVT.out.next u2.2)
    clear k0 k1 k2 k3 k4 k5 k6 f0 f1 f2 f3 f4 f5 f6 t0 t1
    have k0 : ∀ u : Wk u2.1, u.1.cell? ⟨g, 0, none⟩ = some (.bool s.fr.op) := fun u => ((HVB3.out).next u.2).cell 0
    have k1 : ∀ u : Wk u2.1, u.1.cell? ⟨g, 1, none⟩ = some (.int .i64 s.fr.n) := fun u => ((HVB3.out).next u.2).cell 1
    have k2 : ∀ u : Wk u2.1, u.1.cell? ⟨g, 2, none⟩ = some (.int .i64 s.fr.d) := fun u => ((HVB3.out).next u.2).cell 2
    have k3 : ∀ u : Wk u2.1, u.1.cell? ⟨g, 3, none⟩ = some (.bool s.to.op) := fun u => ((HVB3.out).next u.2).cell 3
    have k4 : ∀ u : Wk u2.1, u.1.cell? ⟨g, 4, none⟩ = some (.int .i64 s.to.n) := fun u => ((HVB3.out).next u.2).cell 4
    have k5 : ∀ u : Wk u2.1, u.1.cell? ⟨g, 5, none⟩ = some (.int .i64 s.to.d) := fun u => ((HVB3.out).next u.2).cell 5
    have k6 : ∀ u : Wk u2.1, u.1.cell? ⟨g, 6, none⟩ = some (.bool s.no) := fun u => ((HVB3.out).next u.2).cell 6
    have f0 : ∀ u : Wk u2.1, u.1.frozen? ⟨g, 0, none⟩ = false := fun u => ((HVB3.out).next u.2).frozen 0
    have f1 : ∀ u : Wk u2.1, u.1.frozen? ⟨g, 1, none⟩ = false := fun u => ((HVB3.out).next u.2).frozen 1
    have f2 : ∀ u : Wk u2.1, u.1.frozen? ⟨g, 2, none⟩ = false := fun u => ((HVB3.out).next u.2).frozen 2
    have f3 : ∀ u : Wk u2.1, u.1.frozen? ⟨g, 3, none⟩ = false := fun u => ((HVB3.out).next u.2).frozen 3
    have f4 : ∀ u : Wk u2.1, u.1.frozen? ⟨g, 4, none⟩ = false := fun u => ((HVB3.out).next u.2).frozen 4
    have f5 : ∀ u : Wk u2.1, u.1.frozen? ⟨g, 5, none⟩ = false := fun u => ((HVB3.out).next u.2).frozen 5
    have f6 : ∀ u : Wk u2.1, u.1.frozen? ⟨g, 6, none⟩ = false := fun u => ((HVB3.out).next u.2).frozen 6
    have t0 : ∀ u : Wk u2.1, u.1.cell? ⟨w1.heap.size, 0, none⟩ = some (.int .i64 (frN (-a) b)) := fun u => (HVT3.out.next u.2).cell 0
    have t1 : ∀ u : Wk u2.1, u.1.cell? ⟨w1.heap.size, 1, none⟩ = some (.int .i64 (ptD [-a] b)) := fun u => (HVT3.out.next u.2).cell 1
    (try rw [ho] at k0)
    refine wk_region (by kernel_rfl) (by kernel_rfl) ?_
    repeat (go_big_quiet_step (fail))
    refine wpQuiet_nil ?_
    rintro w3 ⟨u3, rfl⟩
    go_wp2_with fail
    go_end0
    have hu := u2.2.trans (u3.2.mono u2.2.size)
    refine ⟨rfl, ?_, (((Turned.of_below (S := (· = g)) (HVW.out.trans (hu.mono zV))).setCell (p := ⟨g, 0, none⟩) rfl _).setCell (p := ⟨g, 1, none⟩) rfl _).setCell (p := ⟨g, 2, none⟩) rfl _⟩
    rw [HV.out]; exact (((HVB.out.next hu).set0 0 (.bool false)).set0 1 (.int .i64 (frN (-a) b))).set0 2 (.int .i64 (ptD [-a] b))
   ·have ho : s.fr.op = false := by simpa using ho
    by_cases hl : lessB s.fr.n s.fr.d (frN (-a) b) (ptD [-a] b) = true
    ·have HV := h_ (show belowZ s a b = ⟨endE (-a) b, s.to, s.no⟩ by unfold belowZ; rw [if_neg hb, if_neg (fun h => by omega), if_pos ⟨hneg, .inr hl⟩])
     have HC := h_ (show ∀ w, Calls Tryz.prog 62 #[.agg #[.int .i64 s.fr.n, .int .i64 s.fr.d], .agg #[.int .i64 (frN (-a) b), .int .i64 (ptD [-a] b)]] w fun e w' => e = .returned (.bool true) ∧ Below w.heap.size w w' from fun w => by rw [← hl]; exact frac_Less _ _ _ _ w)
     clear hl
     go_enter Tryz.func163, Tryz.ntmps163
     go_wp2_with fail
     refine (frac_Make _ _ _).mono ?_
     rintro e w1 ⟨rfl, hb1⟩
     have HVB := h_ ((HB.out.next hb1).alloc (.cells #[.int .i64 (frN (-a) b), .int .i64 (ptD [-a] b)] 55))
     have HVT := h_ (Blk.mk' w1 55 #[.int .i64 (frN (-a) b), .int .i64 (ptD [-a] b)])
     have HVW := h_ (hb1.alloc hb1.size (.cells #[.int .i64 (frN (-a) b), .int .i64 (ptD [-a] b)] 55))
     have z1 := hb1.size
     clear hb1
     go_wp2_with fail
     generalize (w1.alloc (.cells #[.int .i64 (frN (-a) b), .int .i64 (ptD [-a] b)] 55)) = V at *
     have k0 : ∀ u : Wk V, u.1.cell? ⟨g, 0, none⟩ = some (.bool s.fr.op) := fun u => ((HVB.out).next u.2).cell 0
     have k1 : ∀ u : Wk V, u.1.cell? ⟨g, 1, none⟩ = some (.int .i64 s.fr.n) := fun u => ((HVB.out).next u.2).cell 1
     have k2 : ∀ u : Wk V, u.1.cell? ⟨g, 2, none⟩ = some (.int .i64 s.fr.d) := fun u => ((HVB.out).next u.2).cell 2
     have k3 : ∀ u : Wk V, u.1.cell? ⟨g, 3, none⟩ = some (.bool s.to.op) := fun u => ((HVB.out).next u.2).cell 3
     have k4 : ∀ u : Wk V, u.1.cell? ⟨g, 4, none⟩ = some (.int .i64 s.to.n) := fun u => ((HVB.out).next u.2).cell 4
     have k5 : ∀ u : Wk V, u.1.cell? ⟨g, 5, none⟩ = some (.int .i64 s.to.d) := fun u => ((HVB.out).next u.2).cell 5
     have k6 : ∀ u : Wk V, u.1.cell? ⟨g, 6, none⟩ = some (.bool s.no) := fun u => ((HVB.out).next u.2).cell 6
     have f0 : ∀ u : Wk V, u.1.frozen? ⟨g, 0, none⟩ = false := fun u => ((HVB.out).next u.2).frozen 0
     have f1 : ∀ u : Wk V, u.1.frozen? ⟨g, 1, none⟩ = false := fun u => ((HVB.out).next u.2).frozen 1
     have f2 : ∀ u : Wk V, u.1.frozen? ⟨g, 2, none⟩ = false := fun u => ((HVB.out).next u.2).frozen 2
     have f3 : ∀ u : Wk V, u.1.frozen? ⟨g, 3, none⟩ = false := fun u => ((HVB.out).next u.2).frozen 3
     have f4 : ∀ u : Wk V, u.1.frozen? ⟨g, 4, none⟩ = false := fun u => ((HVB.out).next u.2).frozen 4
     have f5 : ∀ u : Wk V, u.1.frozen? ⟨g, 5, none⟩ = false := fun u => ((HVB.out).next u.2).frozen 5
     have f6 : ∀ u : Wk V, u.1.frozen? ⟨g, 6, none⟩ = false := fun u => ((HVB.out).next u.2).frozen 6
     have t0 : ∀ u : Wk V, u.1.cell? ⟨w1.heap.size, 0, none⟩ = some (.int .i64 (frN (-a) b)) := fun u => (HVT.out.next u.2).cell 0
     have t1 : ∀ u : Wk V, u.1.cell? ⟨w1.heap.size, 1, none⟩ = some (.int .i64 (ptD [-a] b)) := fun u => (HVT.out.next u.2).cell 1
     have zV := HVW.out.size
     rw [ho] at k0
     refine wk_region (by kernel_rfl) (by kernel_rfl) ?_
     repeat (go_big_quiet_step (fail))
     refine wpQuiet_nil ?_
     rintro w2 ⟨u2, rfl⟩
     go_wp2_with fail
     have HVB3 := h_ (HVB.out.next u2.2)
     have HVT3 := h_ (HVT.out.next u2.2)
     clear k0 k1 k2 k3 k4 k5 k6 f0 f1 f2 f3 f4 f5 f6 t0 t1
     have k0 : ∀ u : Wk u2.1, u.1.cell? ⟨g, 0, none⟩ = some (.bool s.fr.op) := fun u => ((HVB3.out).next u.2).cell 0
     have k1 : ∀ u : Wk u2.1, u.1.cell? ⟨g, 1, none⟩ = some (.int .i64 s.fr.n) := fun u => ((HVB3.out).next u.2).cell 1
     have k2 : ∀ u : Wk u2.1, u.1.cell? ⟨g, 2, none⟩ = some (.int .i64 s.fr.d) := fun u => ((HVB3.out).next u.2).cell 2
     have k3 : ∀ u : Wk u2.1, u.1.cell? ⟨g, 3, none⟩ = some (.bool s.to.op) := fun u => ((HVB3.out).next u.2).cell 3
     have k4 : ∀ u : Wk u2.1, u.1.cell? ⟨g, 4, none⟩ = some (.int .i64 s.to.n) := fun u => ((HVB3.out).next u.2).cell 4
     have k5 : ∀ u : Wk u2.1, u.1.cell? ⟨g, 5, none⟩ = some (.int .i64 s.to.d) := fun u => ((HVB3.out).next u.2).cell 5
     have k6 : ∀ u : Wk u2.1, u.1.cell? ⟨g, 6, none⟩ = some (.bool s.no) := fun u => ((HVB3.out).next u.2).cell 6
     have f0 : ∀ u : Wk u2.1, u.1.frozen? ⟨g, 0, none⟩ = false := fun u => ((HVB3.out).next u.2).frozen 0
     have f1 : ∀ u : Wk u2.1, u.1.frozen? ⟨g, 1, none⟩ = false := fun u => ((HVB3.out).next u.2).frozen 1
     have f2 : ∀ u : Wk u2.1, u.1.frozen? ⟨g, 2, none⟩ = false := fun u => ((HVB3.out).next u.2).frozen 2
     have f3 : ∀ u : Wk u2.1, u.1.frozen? ⟨g, 3, none⟩ = false := fun u => ((HVB3.out).next u.2).frozen 3
     have f4 : ∀ u : Wk u2.1, u.1.frozen? ⟨g, 4, none⟩ = false := fun u => ((HVB3.out).next u.2).frozen 4
     have f5 : ∀ u : Wk u2.1, u.1.frozen? ⟨g, 5, none⟩ = false := fun u => ((HVB3.out).next u.2).frozen 5
     have f6 : ∀ u : Wk u2.1, u.1.frozen? ⟨g, 6, none⟩ = false := fun u => ((HVB3.out).next u.2).frozen 6
     have t0 : ∀ u : Wk u2.1, u.1.cell? ⟨w1.heap.size, 0, none⟩ = some (.int .i64 (frN (-a) b)) := fun u => (HVT3.out.next u.2).cell 0
     have t1 : ∀ u : Wk u2.1, u.1.cell? ⟨w1.heap.size, 1, none⟩ = some (.int .i64 (ptD [-a] b)) := fun u => (HVT3.out.next u.2).cell 1
     (try rw [ho] at k0)
     refine wk_region (by kernel_rfl) (by kernel_rfl) ?_
     repeat (go_big_quiet_step ((go_at_call 62; with_reducible exact wk_call (HC.out _))))
     refine wpQuiet_nil ?_
     rintro w3 ⟨u3, rfl⟩
     go_wp2_with fail
     go_end0
     have hu := u2.2.trans (u3.2.mono u2.2.size)
     refine ⟨rfl, ?_, (((Turned.of_below (S := (· = g)) (HVW.out.trans (hu.mono zV))).setCell (p := ⟨g, 0, none⟩) rfl _).setCell (p := ⟨g, 1, none⟩) rfl _).setCell (p := ⟨g, 2, none⟩) rfl _⟩
     rw [HV.out]; exact (((HVB.out.next hu).set0 0 (.bool false)).set0 1 (.int .i64 (frN (-a) b))).set0 2 (.int .i64 (ptD [-a] b))
    ·have hl : lessB s.fr.n s.fr.d (frN (-a) b) (ptD [-a] b) = false := by simpa using hl
     have HV := h_ (show belowZ s a b = s by
      unfold belowZ; rw [if_neg hb, if_neg (fun h => by omega), if_neg (fun h => by rcases h.2 with e | e; rw [ho] at e; cases e; rw [hl] at e; cases e)])
     have HC := h_ (show ∀ w, Calls Tryz.prog 62 #[.agg #[.int .i64 s.fr.n, .int .i64 s.fr.d], .agg #[.int .i64 (frN (-a) b), .int .i64 (ptD [-a] b)]] w fun e w' => e = .returned (.bool false) ∧ Below w.heap.size w w' from fun w => by rw [← hl]; exact frac_Less _ _ _ _ w)
     clear hl
     go_enter Tryz.func163, Tryz.ntmps163
     go_wp2_with fail
     refine (frac_Make _ _ _).mono ?_
     rintro e w1 ⟨rfl, hb1⟩
     have HVB := h_ ((HB.out.next hb1).alloc (.cells #[.int .i64 (frN (-a) b), .int .i64 (ptD [-a] b)] 55))
     have HVT := h_ (Blk.mk' w1 55 #[.int .i64 (frN (-a) b), .int .i64 (ptD [-a] b)])
     have HVW := h_ (hb1.alloc hb1.size (.cells #[.int .i64 (frN (-a) b), .int .i64 (ptD [-a] b)] 55))
     have z1 := hb1.size
     clear hb1
     go_wp2_with fail
     generalize (w1.alloc (.cells #[.int .i64 (frN (-a) b), .int .i64 (ptD [-a] b)] 55)) = V at *
     have k0 : ∀ u : Wk V, u.1.cell? ⟨g, 0, none⟩ = some (.bool s.fr.op) := fun u => ((HVB.out).next u.2).cell 0
     have k1 : ∀ u : Wk V, u.1.cell? ⟨g, 1, none⟩ = some (.int .i64 s.fr.n) := fun u => ((HVB.out).next u.2).cell 1
     have k2 : ∀ u : Wk V, u.1.cell? ⟨g, 2, none⟩ = some (.int .i64 s.fr.d) := fun u => ((HVB.out).next u.2).cell 2
     have k3 : ∀ u : Wk V, u.1.cell? ⟨g, 3, none⟩ = some (.bool s.to.op) := fun u => ((HVB.out).next u.2).cell 3
     have k4 : ∀ u : Wk V, u.1.cell? ⟨g, 4, none⟩ = some (.int .i64 s.to.n) := fun u => ((HVB.out).next u.2).cell 4
     have k5 : ∀ u : Wk V, u.1.cell? ⟨g, 5, none⟩ = some (.int .i64 s.to.d) := fun u => ((HVB.out).next u.2).cell 5
     have k6 : ∀ u : Wk V, u.1.cell? ⟨g, 6, none⟩ = some (.bool s.no) := fun u => ((HVB.out).next u.2).cell 6
     have f0 : ∀ u : Wk V, u.1.frozen? ⟨g, 0, none⟩ = false := fun u => ((HVB.out).next u.2).frozen 0
     have f1 : ∀ u : Wk V, u.1.frozen? ⟨g, 1, none⟩ = false := fun u => ((HVB.out).next u.2).frozen 1
     have f2 : ∀ u : Wk V, u.1.frozen? ⟨g, 2, none⟩ = false := fun u => ((HVB.out).next u.2).frozen 2
     have f3 : ∀ u : Wk V, u.1.frozen? ⟨g, 3, none⟩ = false := fun u => ((HVB.out).next u.2).frozen 3
     have f4 : ∀ u : Wk V, u.1.frozen? ⟨g, 4, none⟩ = false := fun u => ((HVB.out).next u.2).frozen 4
     have f5 : ∀ u : Wk V, u.1.frozen? ⟨g, 5, none⟩ = false := fun u => ((HVB.out).next u.2).frozen 5
     have f6 : ∀ u : Wk V, u.1.frozen? ⟨g, 6, none⟩ = false := fun u => ((HVB.out).next u.2).frozen 6
     have t0 : ∀ u : Wk V, u.1.cell? ⟨w1.heap.size, 0, none⟩ = some (.int .i64 (frN (-a) b)) := fun u => (HVT.out.next u.2).cell 0
     have t1 : ∀ u : Wk V, u.1.cell? ⟨w1.heap.size, 1, none⟩ = some (.int .i64 (ptD [-a] b)) := fun u => (HVT.out.next u.2).cell 1
     have zV := HVW.out.size
     rw [ho] at k0
     refine wk_region (by kernel_rfl) (by kernel_rfl) ?_
     repeat (go_big_quiet_step (fail))
     refine wpQuiet_nil ?_
     rintro w2 ⟨u2, rfl⟩
     go_wp2_with fail
     have HVB3 := h_ (HVB.out.next u2.2)
     have HVT3 := h_ (HVT.out.next u2.2)
     clear k0 k1 k2 k3 k4 k5 k6 f0 f1 f2 f3 f4 f5 f6 t0 t1
     have k0 : ∀ u : Wk u2.1, u.1.cell? ⟨g, 0, none⟩ = some (.bool s.fr.op) := fun u => ((HVB3.out).next u.2).cell 0
     have k1 : ∀ u : Wk u2.1, u.1.cell? ⟨g, 1, none⟩ = some (.int .i64 s.fr.n) := fun u => ((HVB3.out).next u.2).cell 1
     have k2 : ∀ u : Wk u2.1, u.1.cell? ⟨g, 2, none⟩ = some (.int .i64 s.fr.d) := fun u => ((HVB3.out).next u.2).cell 2
     have k3 : ∀ u : Wk u2.1, u.1.cell? ⟨g, 3, none⟩ = some (.bool s.to.op) := fun u => ((HVB3.out).next u.2).cell 3
     have k4 : ∀ u : Wk u2.1, u.1.cell? ⟨g, 4, none⟩ = some (.int .i64 s.to.n) := fun u => ((HVB3.out).next u.2).cell 4
     have k5 : ∀ u : Wk u2.1, u.1.cell? ⟨g, 5, none⟩ = some (.int .i64 s.to.d) := fun u => ((HVB3.out).next u.2).cell 5
     have k6 : ∀ u : Wk u2.1, u.1.cell? ⟨g, 6, none⟩ = some (.bool s.no) := fun u => ((HVB3.out).next u.2).cell 6
     have f0 : ∀ u : Wk u2.1, u.1.frozen? ⟨g, 0, none⟩ = false := fun u => ((HVB3.out).next u.2).frozen 0
     have f1 : ∀ u : Wk u2.1, u.1.frozen? ⟨g, 1, none⟩ = false := fun u => ((HVB3.out).next u.2).frozen 1
     have f2 : ∀ u : Wk u2.1, u.1.frozen? ⟨g, 2, none⟩ = false := fun u => ((HVB3.out).next u.2).frozen 2
     have f3 : ∀ u : Wk u2.1, u.1.frozen? ⟨g, 3, none⟩ = false := fun u => ((HVB3.out).next u.2).frozen 3
     have f4 : ∀ u : Wk u2.1, u.1.frozen? ⟨g, 4, none⟩ = false := fun u => ((HVB3.out).next u.2).frozen 4
     have f5 : ∀ u : Wk u2.1, u.1.frozen? ⟨g, 5, none⟩ = false := fun u => ((HVB3.out).next u.2).frozen 5
     have f6 : ∀ u : Wk u2.1, u.1.frozen? ⟨g, 6, none⟩ = false := fun u => ((HVB3.out).next u.2).frozen 6
     have t0 : ∀ u : Wk u2.1, u.1.cell? ⟨w1.heap.size, 0, none⟩ = some (.int .i64 (frN (-a) b)) := fun u => (HVT3.out.next u.2).cell 0
     have t1 : ∀ u : Wk u2.1, u.1.cell? ⟨w1.heap.size, 1, none⟩ = some (.int .i64 (ptD [-a] b)) := fun u => (HVT3.out.next u.2).cell 1
     (try rw [ho] at k0)
     refine wk_region (by kernel_rfl) (by kernel_rfl) ?_
     repeat (go_big_quiet_step ((go_at_call 62; with_reducible exact wk_call (HC.out _))))
     refine wpQuiet_nil ?_
     rintro w3 ⟨u3, rfl⟩
     go_wp2_with fail
     go_end0
     have hu := u2.2.trans (u3.2.mono u2.2.size)
     refine ⟨rfl, ?_, Turned.of_below (S := (· = g)) (HVW.out.trans (hu.mono zV))⟩
     rw [HV.out]; exact HVB.out.next hu
def RetEn (w : World) (a b : EN) (er : Int) (e : Ending) (w' : World) : Prop :=
 e = .returned (.tuple #[.agg #[.bool a.op, .int .i64 a.n, .int .i64 a.d], .agg #[.bool b.op, .int .i64 b.n, .int .i64 b.d], .int .i64 er]) ∧ Below w.heap.size w w'
set_option maxHeartbeats 2000000 in
theorem span_ends (s : NW) (g : Nat) (w : World) (hB : Blk w g 218 (nwA s)) :
    Calls Tryz.prog 164 #[.pointer (some ⟨g, 0, none⟩)] w (RetEn w (endsF s) (endsT s) (endsE s)) := by
 have HB := h_ hB
 have hg := hB.lt
 clear hB
 by_cases hno : s.no = true
 ·have HE := h_ (show endsE s = 4 by unfold endsE; rw [if_pos (.inl hno)])
  go_enter Tryz.func164, Tryz.ntmps164
  go_wp2_with fail
  have HR := h_ (show Blk ((w.alloc (.cells #[.bool false, .int .i64 0, .int .i64 0] 77)).alloc (.cells #[.bool false, .int .i64 0, .int .i64 0] 77)) w.heap.size 77 #[.bool false, .int .i64 0, .int .i64 0] from (Blk.mk' _ _ _).alloc _)
  have HQ := h_ (Blk.new (w.alloc (.cells #[.bool false, .int .i64 0, .int .i64 0] 77)) 77 #[.bool false, .int .i64 0, .int .i64 0] (w.heap.size + 1) (by simp))
  have HG := h_ ((HB.out.alloc (.cells #[.bool false, .int .i64 0, .int .i64 0] 77)).alloc (.cells #[.bool false, .int .i64 0, .int .i64 0] 77))
  have HVW := h_ ((by (repeat (any_goals (first | exact qR _ _ | refine below_drewN ?_ _ | refine qD ?_ | refine qA ?_ ?_ _ | refine qS ?_ ?_ _))); all_goals (first | omega | (simp; done) | (simp; omega))) : Below w.heap.size w ((w.alloc (.cells #[.bool false, .int .i64 0, .int .i64 0] 77)).alloc (.cells #[.bool false, .int .i64 0, .int .i64 0] 77)))
  generalize ((w.alloc (.cells #[.bool false, .int .i64 0, .int .i64 0] 77)).alloc (.cells #[.bool false, .int .i64 0, .int .i64 0] 77)) = V at *
  have k0 : ∀ u : Wk V, u.1.cell? ⟨g, 0, none⟩ = some (.bool s.fr.op) := fun u => ((HG.out).next u.2).cell 0
  have k1 : ∀ u : Wk V, u.1.cell? ⟨g, 1, none⟩ = some (.int .i64 s.fr.n) := fun u => ((HG.out).next u.2).cell 1
  have k2 : ∀ u : Wk V, u.1.cell? ⟨g, 2, none⟩ = some (.int .i64 s.fr.d) := fun u => ((HG.out).next u.2).cell 2
  have k3 : ∀ u : Wk V, u.1.cell? ⟨g, 3, none⟩ = some (.bool s.to.op) := fun u => ((HG.out).next u.2).cell 3
  have k4 : ∀ u : Wk V, u.1.cell? ⟨g, 4, none⟩ = some (.int .i64 s.to.n) := fun u => ((HG.out).next u.2).cell 4
  have k5 : ∀ u : Wk V, u.1.cell? ⟨g, 5, none⟩ = some (.int .i64 s.to.d) := fun u => ((HG.out).next u.2).cell 5
  have k6 : ∀ u : Wk V, u.1.cell? ⟨g, 6, none⟩ = some (.bool s.no) := fun u => ((HG.out).next u.2).cell 6
  have f0 : ∀ u : Wk V, u.1.frozen? ⟨g, 0, none⟩ = false := fun u => ((HG.out).next u.2).frozen 0
  have f1 : ∀ u : Wk V, u.1.frozen? ⟨g, 1, none⟩ = false := fun u => ((HG.out).next u.2).frozen 1
  have f2 : ∀ u : Wk V, u.1.frozen? ⟨g, 2, none⟩ = false := fun u => ((HG.out).next u.2).frozen 2
  have f3 : ∀ u : Wk V, u.1.frozen? ⟨g, 3, none⟩ = false := fun u => ((HG.out).next u.2).frozen 3
  have f4 : ∀ u : Wk V, u.1.frozen? ⟨g, 4, none⟩ = false := fun u => ((HG.out).next u.2).frozen 4
  have f5 : ∀ u : Wk V, u.1.frozen? ⟨g, 5, none⟩ = false := fun u => ((HG.out).next u.2).frozen 5
  have f6 : ∀ u : Wk V, u.1.frozen? ⟨g, 6, none⟩ = false := fun u => ((HG.out).next u.2).frozen 6
  have r0 : ∀ u : Wk V, u.1.cell? ⟨w.heap.size, 0, none⟩ = some (.bool false) := fun u => ((HR.out).next u.2).cell 0
  have r1 : ∀ u : Wk V, u.1.cell? ⟨w.heap.size, 1, none⟩ = some (.int .i64 0) := fun u => ((HR.out).next u.2).cell 1
  have r2 : ∀ u : Wk V, u.1.cell? ⟨w.heap.size, 2, none⟩ = some (.int .i64 0) := fun u => ((HR.out).next u.2).cell 2
  have q0 : ∀ u : Wk V, u.1.cell? ⟨w.heap.size + 1, 0, none⟩ = some (.bool false) := fun u => ((HQ.out).next u.2).cell 0
  have q1 : ∀ u : Wk V, u.1.cell? ⟨w.heap.size + 1, 1, none⟩ = some (.int .i64 0) := fun u => ((HQ.out).next u.2).cell 1
  have q2 : ∀ u : Wk V, u.1.cell? ⟨w.heap.size + 1, 2, none⟩ = some (.int .i64 0) := fun u => ((HQ.out).next u.2).cell 2
  have rf0 : ∀ u : Wk V, u.1.frozen? ⟨w.heap.size, 0, none⟩ = false := fun u => ((HR.out).next u.2).frozen 0
  have rf1 : ∀ u : Wk V, u.1.frozen? ⟨w.heap.size, 1, none⟩ = false := fun u => ((HR.out).next u.2).frozen 1
  have rf2 : ∀ u : Wk V, u.1.frozen? ⟨w.heap.size, 2, none⟩ = false := fun u => ((HR.out).next u.2).frozen 2
  have qf0 : ∀ u : Wk V, u.1.frozen? ⟨w.heap.size + 1, 0, none⟩ = false := fun u => ((HQ.out).next u.2).frozen 0
  have qf1 : ∀ u : Wk V, u.1.frozen? ⟨w.heap.size + 1, 1, none⟩ = false := fun u => ((HQ.out).next u.2).frozen 1
  have qf2 : ∀ u : Wk V, u.1.frozen? ⟨w.heap.size + 1, 2, none⟩ = false := fun u => ((HQ.out).next u.2).frozen 2
  have zV := HVW.out.size
  rw [hno] at k6
  refine wk_region (by kernel_rfl) (by kernel_rfl) ?_
  repeat (go_big_quiet_step (fail))
  refine wpQuiet_nil ?_
  rintro w2 ⟨u2, rfl⟩
  have HV2 := h_ (HVW.out.trans (u2.2.mono zV))
  go_wp2_with fail
  refine bodyPost_ret (v := .tuple #[.agg #[.bool false, .int .i64 0, .int .i64 0], .agg #[.bool false, .int .i64 0, .int .i64 0], .int .i64 4]) ?_ ?_ ?_
  ·simp [results, Tryz.results164, go_sem, r0, r1, r2, q0, q1, q2]
  ·rfl
  ·rw [show endsF s = zeroE by unfold endsF; rw [if_neg (by rw [HE.out]; decide)], show endsT s = zeroE by unfold endsT; rw [if_neg (by rw [HE.out]; decide)], HE.out]
   refine ⟨rfl, ?_⟩
   iterate 6 refine Below.setCell ?_ (by first | (simp; done) | (simp; omega)) _
   exact HV2.out
 ·have hno : s.no = false := by simpa using hno
  by_cases hfo : s.fr.op = true
  ·have HE := h_ (show endsE s = 0 by unfold endsE; rw [if_neg (fun h => by rcases h with e | e; rw [hno] at e; cases e; rw [hfo] at e; exact absurd e.1 (by decide))])
   have hro := hfo
   go_enter Tryz.func164, Tryz.ntmps164
   go_wp2_with fail
   have HR := h_ (show Blk ((w.alloc (.cells #[.bool false, .int .i64 0, .int .i64 0] 77)).alloc (.cells #[.bool false, .int .i64 0, .int .i64 0] 77)) w.heap.size 77 #[.bool false, .int .i64 0, .int .i64 0] from (Blk.mk' _ _ _).alloc _)
   have HQ := h_ (Blk.new (w.alloc (.cells #[.bool false, .int .i64 0, .int .i64 0] 77)) 77 #[.bool false, .int .i64 0, .int .i64 0] (w.heap.size + 1) (by simp))
   have HG := h_ ((HB.out.alloc (.cells #[.bool false, .int .i64 0, .int .i64 0] 77)).alloc (.cells #[.bool false, .int .i64 0, .int .i64 0] 77))
   have HVW := h_ ((by (repeat (any_goals (first | exact qR _ _ | refine below_drewN ?_ _ | refine qD ?_ | refine qA ?_ ?_ _ | refine qS ?_ ?_ _))); all_goals (first | omega | (simp; done) | (simp; omega))) : Below w.heap.size w ((w.alloc (.cells #[.bool false, .int .i64 0, .int .i64 0] 77)).alloc (.cells #[.bool false, .int .i64 0, .int .i64 0] 77)))
   generalize ((w.alloc (.cells #[.bool false, .int .i64 0, .int .i64 0] 77)).alloc (.cells #[.bool false, .int .i64 0, .int .i64 0] 77)) = V at *
   have k0 : ∀ u : Wk V, u.1.cell? ⟨g, 0, none⟩ = some (.bool s.fr.op) := fun u => ((HG.out).next u.2).cell 0
   have k1 : ∀ u : Wk V, u.1.cell? ⟨g, 1, none⟩ = some (.int .i64 s.fr.n) := fun u => ((HG.out).next u.2).cell 1
   have k2 : ∀ u : Wk V, u.1.cell? ⟨g, 2, none⟩ = some (.int .i64 s.fr.d) := fun u => ((HG.out).next u.2).cell 2
   have k3 : ∀ u : Wk V, u.1.cell? ⟨g, 3, none⟩ = some (.bool s.to.op) := fun u => ((HG.out).next u.2).cell 3
   have k4 : ∀ u : Wk V, u.1.cell? ⟨g, 4, none⟩ = some (.int .i64 s.to.n) := fun u => ((HG.out).next u.2).cell 4
   have k5 : ∀ u : Wk V, u.1.cell? ⟨g, 5, none⟩ = some (.int .i64 s.to.d) := fun u => ((HG.out).next u.2).cell 5
   have k6 : ∀ u : Wk V, u.1.cell? ⟨g, 6, none⟩ = some (.bool s.no) := fun u => ((HG.out).next u.2).cell 6
   have f0 : ∀ u : Wk V, u.1.frozen? ⟨g, 0, none⟩ = false := fun u => ((HG.out).next u.2).frozen 0
   have f1 : ∀ u : Wk V, u.1.frozen? ⟨g, 1, none⟩ = false := fun u => ((HG.out).next u.2).frozen 1
   have f2 : ∀ u : Wk V, u.1.frozen? ⟨g, 2, none⟩ = false := fun u => ((HG.out).next u.2).frozen 2
   have f3 : ∀ u : Wk V, u.1.frozen? ⟨g, 3, none⟩ = false := fun u => ((HG.out).next u.2).frozen 3
   have f4 : ∀ u : Wk V, u.1.frozen? ⟨g, 4, none⟩ = false := fun u => ((HG.out).next u.2).frozen 4
   have f5 : ∀ u : Wk V, u.1.frozen? ⟨g, 5, none⟩ = false := fun u => ((HG.out).next u.2).frozen 5
   have f6 : ∀ u : Wk V, u.1.frozen? ⟨g, 6, none⟩ = false := fun u => ((HG.out).next u.2).frozen 6
   have r0 : ∀ u : Wk V, u.1.cell? ⟨w.heap.size, 0, none⟩ = some (.bool false) := fun u => ((HR.out).next u.2).cell 0
   have r1 : ∀ u : Wk V, u.1.cell? ⟨w.heap.size, 1, none⟩ = some (.int .i64 0) := fun u => ((HR.out).next u.2).cell 1
   have r2 : ∀ u : Wk V, u.1.cell? ⟨w.heap.size, 2, none⟩ = some (.int .i64 0) := fun u => ((HR.out).next u.2).cell 2
   have q0 : ∀ u : Wk V, u.1.cell? ⟨w.heap.size + 1, 0, none⟩ = some (.bool false) := fun u => ((HQ.out).next u.2).cell 0
   have q1 : ∀ u : Wk V, u.1.cell? ⟨w.heap.size + 1, 1, none⟩ = some (.int .i64 0) := fun u => ((HQ.out).next u.2).cell 1
   have q2 : ∀ u : Wk V, u.1.cell? ⟨w.heap.size + 1, 2, none⟩ = some (.int .i64 0) := fun u => ((HQ.out).next u.2).cell 2
   have rf0 : ∀ u : Wk V, u.1.frozen? ⟨w.heap.size, 0, none⟩ = false := fun u => ((HR.out).next u.2).frozen 0
   have rf1 : ∀ u : Wk V, u.1.frozen? ⟨w.heap.size, 1, none⟩ = false := fun u => ((HR.out).next u.2).frozen 1
   have rf2 : ∀ u : Wk V, u.1.frozen? ⟨w.heap.size, 2, none⟩ = false := fun u => ((HR.out).next u.2).frozen 2
   have qf0 : ∀ u : Wk V, u.1.frozen? ⟨w.heap.size + 1, 0, none⟩ = false := fun u => ((HQ.out).next u.2).frozen 0
   have qf1 : ∀ u : Wk V, u.1.frozen? ⟨w.heap.size + 1, 1, none⟩ = false := fun u => ((HQ.out).next u.2).frozen 1
   have qf2 : ∀ u : Wk V, u.1.frozen? ⟨w.heap.size + 1, 2, none⟩ = false := fun u => ((HQ.out).next u.2).frozen 2
   have zV := HVW.out.size
   rw [hno] at k6
   rw [hfo] at k0
   refine wk_region (by kernel_rfl) (by kernel_rfl) ?_
   repeat (go_big_quiet_step (fail))
   refine wpQuiet_nil ?_
   rintro w2 ⟨u2, rfl⟩
   have HV2 := h_ (HVW.out.trans (u2.2.mono zV))
   go_wp2_with fail
   go_region
   all_goals go_wp2_with fail
   all_goals refine bodyPost_ret (v := .tuple #[.agg #[.bool s.fr.op, .int .i64 s.fr.n, .int .i64 s.fr.d], .agg #[.bool s.to.op, .int .i64 s.to.n, .int .i64 s.to.d], .int .i64 0]) ?_ ?_ ?_
   all_goals first
    | rfl
    | (simp [results, Tryz.results164, go_sem, r0, r1, r2, q0, q1, q2, hro]; done)
    | (rw [show endsF s = s.fr by unfold endsF; rw [if_pos HE.out], show endsT s = s.to by unfold endsT; rw [if_pos HE.out], HE.out]
       refine ⟨rfl, ?_⟩
       (try refine Below.drew ?_)
       iterate 6 refine Below.setCell ?_ (by first | (simp; done) | (simp; omega)) _
       first | exact HV2.out | exact HV2.out.drew)
    | skip
  ·have hfo : s.fr.op = false := by simpa using hfo
   have hro := hfo
   by_cases hto : s.to.op = true
   ·have HE := h_ (show endsE s = 0 by unfold endsE; rw [if_neg (fun h => by rcases h with e | e; rw [hno] at e; cases e; rw [hto] at e; exact absurd e.2.1 (by decide))])
    go_enter Tryz.func164, Tryz.ntmps164
    go_wp2_with fail
    have HR := h_ (show Blk ((w.alloc (.cells #[.bool false, .int .i64 0, .int .i64 0] 77)).alloc (.cells #[.bool false, .int .i64 0, .int .i64 0] 77)) w.heap.size 77 #[.bool false, .int .i64 0, .int .i64 0] from (Blk.mk' _ _ _).alloc _)
    have HQ := h_ (Blk.new (w.alloc (.cells #[.bool false, .int .i64 0, .int .i64 0] 77)) 77 #[.bool false, .int .i64 0, .int .i64 0] (w.heap.size + 1) (by simp))
    have HG := h_ ((HB.out.alloc (.cells #[.bool false, .int .i64 0, .int .i64 0] 77)).alloc (.cells #[.bool false, .int .i64 0, .int .i64 0] 77))
    have HVW := h_ ((by (repeat (any_goals (first | exact qR _ _ | refine below_drewN ?_ _ | refine qD ?_ | refine qA ?_ ?_ _ | refine qS ?_ ?_ _))); all_goals (first | omega | (simp; done) | (simp; omega))) : Below w.heap.size w ((w.alloc (.cells #[.bool false, .int .i64 0, .int .i64 0] 77)).alloc (.cells #[.bool false, .int .i64 0, .int .i64 0] 77)))
    generalize ((w.alloc (.cells #[.bool false, .int .i64 0, .int .i64 0] 77)).alloc (.cells #[.bool false, .int .i64 0, .int .i64 0] 77)) = V at *
    have k0 : ∀ u : Wk V, u.1.cell? ⟨g, 0, none⟩ = some (.bool s.fr.op) := fun u => ((HG.out).next u.2).cell 0
    have k1 : ∀ u : Wk V, u.1.cell? ⟨g, 1, none⟩ = some (.int .i64 s.fr.n) := fun u => ((HG.out).next u.2).cell 1
    have k2 : ∀ u : Wk V, u.1.cell? ⟨g, 2, none⟩ = some (.int .i64 s.fr.d) := fun u => ((HG.out).next u.2).cell 2
    have k3 : ∀ u : Wk V, u.1.cell? ⟨g, 3, none⟩ = some (.bool s.to.op) := fun u => ((HG.out).next u.2).cell 3
    have k4 : ∀ u : Wk V, u.1.cell? ⟨g, 4, none⟩ = some (.int .i64 s.to.n) := fun u => ((HG.out).next u.2).cell 4
    have k5 : ∀ u : Wk V, u.1.cell? ⟨g, 5, none⟩ = some (.int .i64 s.to.d) := fun u => ((HG.out).next u.2).cell 5
    have k6 : ∀ u : Wk V, u.1.cell? ⟨g, 6, none⟩ = some (.bool s.no) := fun u => ((HG.out).next u.2).cell 6
    have f0 : ∀ u : Wk V, u.1.frozen? ⟨g, 0, none⟩ = false := fun u => ((HG.out).next u.2).frozen 0
    have f1 : ∀ u : Wk V, u.1.frozen? ⟨g, 1, none⟩ = false := fun u => ((HG.out).next u.2).frozen 1
    have f2 : ∀ u : Wk V, u.1.frozen? ⟨g, 2, none⟩ = false := fun u => ((HG.out).next u.2).frozen 2
    have f3 : ∀ u : Wk V, u.1.frozen? ⟨g, 3, none⟩ = false := fun u => ((HG.out).next u.2).frozen 3
    have f4 : ∀ u : Wk V, u.1.frozen? ⟨g, 4, none⟩ = false := fun u => ((HG.out).next u.2).frozen 4
    have f5 : ∀ u : Wk V, u.1.frozen? ⟨g, 5, none⟩ = false := fun u => ((HG.out).next u.2).frozen 5
    have f6 : ∀ u : Wk V, u.1.frozen? ⟨g, 6, none⟩ = false := fun u => ((HG.out).next u.2).frozen 6
    have r0 : ∀ u : Wk V, u.1.cell? ⟨w.heap.size, 0, none⟩ = some (.bool false) := fun u => ((HR.out).next u.2).cell 0
    have r1 : ∀ u : Wk V, u.1.cell? ⟨w.heap.size, 1, none⟩ = some (.int .i64 0) := fun u => ((HR.out).next u.2).cell 1
    have r2 : ∀ u : Wk V, u.1.cell? ⟨w.heap.size, 2, none⟩ = some (.int .i64 0) := fun u => ((HR.out).next u.2).cell 2
    have q0 : ∀ u : Wk V, u.1.cell? ⟨w.heap.size + 1, 0, none⟩ = some (.bool false) := fun u => ((HQ.out).next u.2).cell 0
    have q1 : ∀ u : Wk V, u.1.cell? ⟨w.heap.size + 1, 1, none⟩ = some (.int .i64 0) := fun u => ((HQ.out).next u.2).cell 1
    have q2 : ∀ u : Wk V, u.1.cell? ⟨w.heap.size + 1, 2, none⟩ = some (.int .i64 0) := fun u => ((HQ.out).next u.2).cell 2
    have rf0 : ∀ u : Wk V, u.1.frozen? ⟨w.heap.size, 0, none⟩ = false := fun u => ((HR.out).next u.2).frozen 0
    have rf1 : ∀ u : Wk V, u.1.frozen? ⟨w.heap.size, 1, none⟩ = false := fun u => ((HR.out).next u.2).frozen 1
    have rf2 : ∀ u : Wk V, u.1.frozen? ⟨w.heap.size, 2, none⟩ = false := fun u => ((HR.out).next u.2).frozen 2
    have qf0 : ∀ u : Wk V, u.1.frozen? ⟨w.heap.size + 1, 0, none⟩ = false := fun u => ((HQ.out).next u.2).frozen 0
    have qf1 : ∀ u : Wk V, u.1.frozen? ⟨w.heap.size + 1, 1, none⟩ = false := fun u => ((HQ.out).next u.2).frozen 1
    have qf2 : ∀ u : Wk V, u.1.frozen? ⟨w.heap.size + 1, 2, none⟩ = false := fun u => ((HQ.out).next u.2).frozen 2
    have zV := HVW.out.size
    rw [hno] at k6
    rw [hfo] at k0
    rw [hto] at k3
    refine wk_region (by kernel_rfl) (by kernel_rfl) ?_
    repeat (go_big_quiet_step (fail))
    refine wpQuiet_nil ?_
    rintro w2 ⟨u2, rfl⟩
    have HV2 := h_ (HVW.out.trans (u2.2.mono zV))
    go_wp2_with fail
    go_region
    all_goals go_wp2_with fail
    all_goals refine bodyPost_ret (v := .tuple #[.agg #[.bool s.fr.op, .int .i64 s.fr.n, .int .i64 s.fr.d], .agg #[.bool s.to.op, .int .i64 s.to.n, .int .i64 s.to.d], .int .i64 0]) ?_ ?_ ?_
    all_goals first
     | rfl
     | (simp [results, Tryz.results164, go_sem, r0, r1, r2, q0, q1, q2, hro, hto]; done)
     | (rw [show endsF s = s.fr by unfold endsF; rw [if_pos HE.out], show endsT s = s.to by unfold endsT; rw [if_pos HE.out], HE.out]
        refine ⟨rfl, ?_⟩
        (try refine Below.drew ?_)
        iterate 6 refine Below.setCell ?_ (by first | (simp; done) | (simp; omega)) _
        first | exact HV2.out | exact HV2.out.drew)
     | skip
   ·have hto : s.to.op = false := by simpa using hto
    by_cases hl : lessB s.to.n s.to.d s.fr.n s.fr.d = true
    ·have HE := h_ (show endsE s = 4 by unfold endsE; rw [if_pos (.inr ⟨hfo, hto, hl⟩)])
     have HC := h_ (show ∀ w, Calls Tryz.prog 62 #[.agg #[.int .i64 s.to.n, .int .i64 s.to.d], .agg #[.int .i64 s.fr.n, .int .i64 s.fr.d]] w fun e w' => e = .returned (.bool true) ∧ Below w.heap.size w w' from fun w => by rw [← hl]; exact frac_Less _ _ _ _ w)
     clear hl
     go_enter Tryz.func164, Tryz.ntmps164
     go_wp2_with fail
     have HR := h_ (show Blk ((w.alloc (.cells #[.bool false, .int .i64 0, .int .i64 0] 77)).alloc (.cells #[.bool false, .int .i64 0, .int .i64 0] 77)) w.heap.size 77 #[.bool false, .int .i64 0, .int .i64 0] from (Blk.mk' _ _ _).alloc _)
     have HQ := h_ (Blk.new (w.alloc (.cells #[.bool false, .int .i64 0, .int .i64 0] 77)) 77 #[.bool false, .int .i64 0, .int .i64 0] (w.heap.size + 1) (by simp))
     have HG := h_ ((HB.out.alloc (.cells #[.bool false, .int .i64 0, .int .i64 0] 77)).alloc (.cells #[.bool false, .int .i64 0, .int .i64 0] 77))
     have HVW := h_ ((by (repeat (any_goals (first | exact qR _ _ | refine below_drewN ?_ _ | refine qD ?_ | refine qA ?_ ?_ _ | refine qS ?_ ?_ _))); all_goals (first | omega | (simp; done) | (simp; omega))) : Below w.heap.size w ((w.alloc (.cells #[.bool false, .int .i64 0, .int .i64 0] 77)).alloc (.cells #[.bool false, .int .i64 0, .int .i64 0] 77)))
     generalize ((w.alloc (.cells #[.bool false, .int .i64 0, .int .i64 0] 77)).alloc (.cells #[.bool false, .int .i64 0, .int .i64 0] 77)) = V at *
     have k0 : ∀ u : Wk V, u.1.cell? ⟨g, 0, none⟩ = some (.bool s.fr.op) := fun u => ((HG.out).next u.2).cell 0
     have k1 : ∀ u : Wk V, u.1.cell? ⟨g, 1, none⟩ = some (.int .i64 s.fr.n) := fun u => ((HG.out).next u.2).cell 1
     have k2 : ∀ u : Wk V, u.1.cell? ⟨g, 2, none⟩ = some (.int .i64 s.fr.d) := fun u => ((HG.out).next u.2).cell 2
     have k3 : ∀ u : Wk V, u.1.cell? ⟨g, 3, none⟩ = some (.bool s.to.op) := fun u => ((HG.out).next u.2).cell 3
     have k4 : ∀ u : Wk V, u.1.cell? ⟨g, 4, none⟩ = some (.int .i64 s.to.n) := fun u => ((HG.out).next u.2).cell 4
     have k5 : ∀ u : Wk V, u.1.cell? ⟨g, 5, none⟩ = some (.int .i64 s.to.d) := fun u => ((HG.out).next u.2).cell 5
     have k6 : ∀ u : Wk V, u.1.cell? ⟨g, 6, none⟩ = some (.bool s.no) := fun u => ((HG.out).next u.2).cell 6
     have f0 : ∀ u : Wk V, u.1.frozen? ⟨g, 0, none⟩ = false := fun u => ((HG.out).next u.2).frozen 0
     have f1 : ∀ u : Wk V, u.1.frozen? ⟨g, 1, none⟩ = false := fun u => ((HG.out).next u.2).frozen 1
     have f2 : ∀ u : Wk V, u.1.frozen? ⟨g, 2, none⟩ = false := fun u => ((HG.out).next u.2).frozen 2
     have f3 : ∀ u : Wk V, u.1.frozen? ⟨g, 3, none⟩ = false := fun u => ((HG.out).next u.2).frozen 3
     have f4 : ∀ u : Wk V, u.1.frozen? ⟨g, 4, none⟩ = false := fun u => ((HG.out).next u.2).frozen 4
     have f5 : ∀ u : Wk V, u.1.frozen? ⟨g, 5, none⟩ = false := fun u => ((HG.out).next u.2).frozen 5
     have f6 : ∀ u : Wk V, u.1.frozen? ⟨g, 6, none⟩ = false := fun u => ((HG.out).next u.2).frozen 6
     have r0 : ∀ u : Wk V, u.1.cell? ⟨w.heap.size, 0, none⟩ = some (.bool false) := fun u => ((HR.out).next u.2).cell 0
     have r1 : ∀ u : Wk V, u.1.cell? ⟨w.heap.size, 1, none⟩ = some (.int .i64 0) := fun u => ((HR.out).next u.2).cell 1
     have r2 : ∀ u : Wk V, u.1.cell? ⟨w.heap.size, 2, none⟩ = some (.int .i64 0) := fun u => ((HR.out).next u.2).cell 2
     have q0 : ∀ u : Wk V, u.1.cell? ⟨w.heap.size + 1, 0, none⟩ = some (.bool false) := fun u => ((HQ.out).next u.2).cell 0
     have q1 : ∀ u : Wk V, u.1.cell? ⟨w.heap.size + 1, 1, none⟩ = some (.int .i64 0) := fun u => ((HQ.out).next u.2).cell 1
     have q2 : ∀ u : Wk V, u.1.cell? ⟨w.heap.size + 1, 2, none⟩ = some (.int .i64 0) := fun u => ((HQ.out).next u.2).cell 2
     have rf0 : ∀ u : Wk V, u.1.frozen? ⟨w.heap.size, 0, none⟩ = false := fun u => ((HR.out).next u.2).frozen 0
     have rf1 : ∀ u : Wk V, u.1.frozen? ⟨w.heap.size, 1, none⟩ = false := fun u => ((HR.out).next u.2).frozen 1
     have rf2 : ∀ u : Wk V, u.1.frozen? ⟨w.heap.size, 2, none⟩ = false := fun u => ((HR.out).next u.2).frozen 2
     have qf0 : ∀ u : Wk V, u.1.frozen? ⟨w.heap.size + 1, 0, none⟩ = false := fun u => ((HQ.out).next u.2).frozen 0
     have qf1 : ∀ u : Wk V, u.1.frozen? ⟨w.heap.size + 1, 1, none⟩ = false := fun u => ((HQ.out).next u.2).frozen 1
     have qf2 : ∀ u : Wk V, u.1.frozen? ⟨w.heap.size + 1, 2, none⟩ = false := fun u => ((HQ.out).next u.2).frozen 2
     have zV := HVW.out.size
     rw [hno] at k6
     rw [hfo] at k0
     rw [hto] at k3
     refine wk_region (by kernel_rfl) (by kernel_rfl) ?_
     repeat (go_big_quiet_step ((go_at_call 62; with_reducible exact wk_call (HC.out _))))
     refine wpQuiet_nil ?_
     rintro w2 ⟨u2, rfl⟩
     have HV2 := h_ (HVW.out.trans (u2.2.mono zV))
     go_wp2_with fail
     refine bodyPost_ret (v := .tuple #[.agg #[.bool false, .int .i64 0, .int .i64 0], .agg #[.bool false, .int .i64 0, .int .i64 0], .int .i64 4]) ?_ ?_ ?_
     ·simp [results, Tryz.results164, go_sem, r0, r1, r2, q0, q1, q2]
     ·rfl
     ·rw [show endsF s = zeroE by unfold endsF; rw [if_neg (by rw [HE.out]; decide)], show endsT s = zeroE by unfold endsT; rw [if_neg (by rw [HE.out]; decide)], HE.out]
      refine ⟨rfl, ?_⟩
      iterate 6 refine Below.setCell ?_ (by first | (simp; done) | (simp; omega)) _
      exact HV2.out
    ·have hl : lessB s.to.n s.to.d s.fr.n s.fr.d = false := by simpa using hl
     have HE := h_ (show endsE s = 0 by unfold endsE; rw [if_neg (fun h => by rcases h with e | e; rw [hno] at e; cases e; rw [hl] at e; exact absurd e.2.2 (by decide))])
     have HC := h_ (show ∀ w, Calls Tryz.prog 62 #[.agg #[.int .i64 s.to.n, .int .i64 s.to.d], .agg #[.int .i64 s.fr.n, .int .i64 s.fr.d]] w fun e w' => e = .returned (.bool false) ∧ Below w.heap.size w w' from fun w => by rw [← hl]; exact frac_Less _ _ _ _ w)
     clear hl
     go_enter Tryz.func164, Tryz.ntmps164
     go_wp2_with fail
     have HR := h_ (show Blk ((w.alloc (.cells #[.bool false, .int .i64 0, .int .i64 0] 77)).alloc (.cells #[.bool false, .int .i64 0, .int .i64 0] 77)) w.heap.size 77 #[.bool false, .int .i64 0, .int .i64 0] from (Blk.mk' _ _ _).alloc _)
     have HQ := h_ (Blk.new (w.alloc (.cells #[.bool false, .int .i64 0, .int .i64 0] 77)) 77 #[.bool false, .int .i64 0, .int .i64 0] (w.heap.size + 1) (by simp))
     have HG := h_ ((HB.out.alloc (.cells #[.bool false, .int .i64 0, .int .i64 0] 77)).alloc (.cells #[.bool false, .int .i64 0, .int .i64 0] 77))
     have HVW := h_ ((by (repeat (any_goals (first | exact qR _ _ | refine below_drewN ?_ _ | refine qD ?_ | refine qA ?_ ?_ _ | refine qS ?_ ?_ _))); all_goals (first | omega | (simp; done) | (simp; omega))) : Below w.heap.size w ((w.alloc (.cells #[.bool false, .int .i64 0, .int .i64 0] 77)).alloc (.cells #[.bool false, .int .i64 0, .int .i64 0] 77)))
     generalize ((w.alloc (.cells #[.bool false, .int .i64 0, .int .i64 0] 77)).alloc (.cells #[.bool false, .int .i64 0, .int .i64 0] 77)) = V at *
     have k0 : ∀ u : Wk V, u.1.cell? ⟨g, 0, none⟩ = some (.bool s.fr.op) := fun u => ((HG.out).next u.2).cell 0
     have k1 : ∀ u : Wk V, u.1.cell? ⟨g, 1, none⟩ = some (.int .i64 s.fr.n) := fun u => ((HG.out).next u.2).cell 1
     have k2 : ∀ u : Wk V, u.1.cell? ⟨g, 2, none⟩ = some (.int .i64 s.fr.d) := fun u => ((HG.out).next u.2).cell 2
     have k3 : ∀ u : Wk V, u.1.cell? ⟨g, 3, none⟩ = some (.bool s.to.op) := fun u => ((HG.out).next u.2).cell 3
     have k4 : ∀ u : Wk V, u.1.cell? ⟨g, 4, none⟩ = some (.int .i64 s.to.n) := fun u => ((HG.out).next u.2).cell 4
     have k5 : ∀ u : Wk V, u.1.cell? ⟨g, 5, none⟩ = some (.int .i64 s.to.d) := fun u => ((HG.out).next u.2).cell 5
     have k6 : ∀ u : Wk V, u.1.cell? ⟨g, 6, none⟩ = some (.bool s.no) := fun u => ((HG.out).next u.2).cell 6
     have f0 : ∀ u : Wk V, u.1.frozen? ⟨g, 0, none⟩ = false := fun u => ((HG.out).next u.2).frozen 0
     have f1 : ∀ u : Wk V, u.1.frozen? ⟨g, 1, none⟩ = false := fun u => ((HG.out).next u.2).frozen 1
     have f2 : ∀ u : Wk V, u.1.frozen? ⟨g, 2, none⟩ = false := fun u => ((HG.out).next u.2).frozen 2
     have f3 : ∀ u : Wk V, u.1.frozen? ⟨g, 3, none⟩ = false := fun u => ((HG.out).next u.2).frozen 3
     have f4 : ∀ u : Wk V, u.1.frozen? ⟨g, 4, none⟩ = false := fun u => ((HG.out).next u.2).frozen 4
     have f5 : ∀ u : Wk V, u.1.frozen? ⟨g, 5, none⟩ = false := fun u => ((HG.out).next u.2).frozen 5
     have f6 : ∀ u : Wk V, u.1.frozen? ⟨g, 6, none⟩ = false := fun u => ((HG.out).next u.2).frozen 6
     have r0 : ∀ u : Wk V, u.1.cell? ⟨w.heap.size, 0, none⟩ = some (.bool false) := fun u => ((HR.out).next u.2).cell 0
     have r1 : ∀ u : Wk V, u.1.cell? ⟨w.heap.size, 1, none⟩ = some (.int .i64 0) := fun u => ((HR.out).next u.2).cell 1
     have r2 : ∀ u : Wk V, u.1.cell? ⟨w.heap.size, 2, none⟩ = some (.int .i64 0) := fun u => ((HR.out).next u.2).cell 2
     have q0 : ∀ u : Wk V, u.1.cell? ⟨w.heap.size + 1, 0, none⟩ = some (.bool false) := fun u => ((HQ.out).next u.2).cell 0
     have q1 : ∀ u : Wk V, u.1.cell? ⟨w.heap.size + 1, 1, none⟩ = some (.int .i64 0) := fun u => ((HQ.out).next u.2).cell 1
     have q2 : ∀ u : Wk V, u.1.cell? ⟨w.heap.size + 1, 2, none⟩ = some (.int .i64 0) := fun u => ((HQ.out).next u.2).cell 2
     have rf0 : ∀ u : Wk V, u.1.frozen? ⟨w.heap.size, 0, none⟩ = false := fun u => ((HR.out).next u.2).frozen 0
     have rf1 : ∀ u : Wk V, u.1.frozen? ⟨w.heap.size, 1, none⟩ = false := fun u => ((HR.out).next u.2).frozen 1
     have rf2 : ∀ u : Wk V, u.1.frozen? ⟨w.heap.size, 2, none⟩ = false := fun u => ((HR.out).next u.2).frozen 2
     have qf0 : ∀ u : Wk V, u.1.frozen? ⟨w.heap.size + 1, 0, none⟩ = false := fun u => ((HQ.out).next u.2).frozen 0
     have qf1 : ∀ u : Wk V, u.1.frozen? ⟨w.heap.size + 1, 1, none⟩ = false := fun u => ((HQ.out).next u.2).frozen 1
     have qf2 : ∀ u : Wk V, u.1.frozen? ⟨w.heap.size + 1, 2, none⟩ = false := fun u => ((HQ.out).next u.2).frozen 2
     have zV := HVW.out.size
     rw [hno] at k6
     rw [hfo] at k0
     rw [hto] at k3
     refine wk_region (by kernel_rfl) (by kernel_rfl) ?_
     repeat (go_big_quiet_step ((go_at_call 62; with_reducible exact wk_call (HC.out _))))
     refine wpQuiet_nil ?_
     rintro w2 ⟨u2, rfl⟩
     have HV2 := h_ (HVW.out.trans (u2.2.mono zV))
     go_wp2_with fail
     go_region
     all_goals go_wp2_with fail
     all_goals refine bodyPost_ret (v := .tuple #[.agg #[.bool s.fr.op, .int .i64 s.fr.n, .int .i64 s.fr.d], .agg #[.bool s.to.op, .int .i64 s.to.n, .int .i64 s.to.d], .int .i64 0]) ?_ ?_ ?_
     all_goals first
      | rfl
      | (simp [results, Tryz.results164, go_sem, r0, r1, r2, q0, q1, q2, hro, hto]; done)
      | (rw [show endsF s = s.fr by unfold endsF; rw [if_pos HE.out], show endsT s = s.to by unfold endsT; rw [if_pos HE.out], HE.out]
         refine ⟨rfl, ?_⟩
         (try refine Below.drew ?_)
         iterate 6 refine Below.setCell ?_ (by first | (simp; done) | (simp; omega)) _
         first | exact HV2.out | exact HV2.out.drew)
      | skip
end Go.Proofs.YtjcdkbalhleeeaaGreatDoor
