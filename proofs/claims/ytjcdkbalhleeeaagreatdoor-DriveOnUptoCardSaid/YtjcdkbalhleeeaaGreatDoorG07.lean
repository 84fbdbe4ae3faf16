/-
  Contracts of functions and plain laws that later parts of the proof use. The conditions stand in each theorem.
-/
import Derived.RangeFuncNested
import Derived.RangeFuncLeaves
import Derived.RangeFuncCalls
import Derived.RangeFuncBound
import Derived.Below
namespace Go.Proofs.YtjcdkbalhleeeaaGreatDoor
open Go.RowKit

/-- Whatever is cells, and whatever lies below B, lies as it lay. -/
structure KW (B : Nat) (W W' : World) : Prop where
  size : W.heap.size ≤ W'.heap.size
  same : ∀ (k : Nat) (o : Obj), W.heap[k]? = some o → (k < B ∨ o.isCells = true) → W'.heap[k]? = some o
theorem KW.refl (B : Nat) (W : World) : KW B W W := ⟨Nat.le_refl _, fun _ _ h _ => h⟩
theorem KW.trans {B : Nat} {X Y Z : World} (h : KW B X Y) (k : KW B Y Z) : KW B X Z := ⟨Nat.le_trans h.size k.size, fun i o hi ho => k.same i o (h.same i o hi ho) ho⟩
theorem KW.of_below {B : Nat} {W W' : World} (h : Below W.heap.size W W') : KW B W W' := ⟨h.size, fun k o hk _ => (h.block k (Array.getElem?_eq_some_iff.1 hk).1).trans hk⟩
theorem KW.putObj {B : Nat} {W : World} {l : Nat} {o : Obj} (o' : Obj) (hB : B ≤ l) (hl : W.heap[l]? = some o) (ho : o.isCells = false) : KW B W (W.putObj l o') :=
  ⟨by simp, fun k x hk hx => by
    by_cases e : k = l
    · subst e
      rw [hl] at hk; cases hk
      rcases hx with q | q
      · omega
      · rw [ho] at q; cases q
    · exact (World.putObj_heap_other e).trans hk⟩
theorem KW.cell {B : Nat} {W W' : World} (h : KW B W W') {p : Addr} {v : Value} (hc : W.cell? p = some v) : W'.cell? p = some v := by
  obtain ⟨b, off, sp⟩ := p
  cases hb : W.heap[b]? with
  | none => simp [World.cell?, hb] at hc
  | some o =>
    have : o.isCells = true := by cases o <;> first | rfl | (simp [World.cell?, hb] at hc)
    simp only [World.cell?, h.same b o hb (.inr this)]
    simpa only [World.cell?, hb] using hc
/-- The blocks of S lie as they lay. -/
structure KS (S : Nat → Prop) (W W' : World) : Prop where
  os : W'.os = W.os
  tape : W'.tape = W.tape
  output : W'.output = W.output
  size : W.heap.size ≤ W'.heap.size
  block : ∀ i, i < W.heap.size → S i → W'.heap[i]? = W.heap[i]?
section
variable {S : Nat → Prop} {W W' : World}
theorem KS.refl (S : Nat → Prop) (W : World) : KS S W W := ⟨rfl, rfl, rfl, Nat.le_refl _, fun _ _ _ => rfl⟩
theorem KS.trans {X Y Z : World} (h : KS S X Y) (k : KS S Y Z) : KS S X Z :=
  ⟨k.os.trans h.os, k.tape.trans h.tape, k.output.trans h.output, Nat.le_trans h.size k.size, fun i hi hs => (k.block i (Nat.lt_of_lt_of_le hi h.size) hs).trans (h.block i hi hs)⟩
theorem KS.of_below (h : Below W.heap.size W W') : KS S W W' := ⟨h.os, h.tape, h.output, h.size, fun i hi _ => h.block i hi⟩
theorem KS.of_grown {row : Option Nat} (h : W.grownBy W' row) (hr : ∀ j, row = some j → ¬ S j) : KS S W W' :=
  ⟨h.os, h.tape, h.output, h.size, fun i hi hs => h.block i hi fun e => hr i e.symm hs⟩
theorem KS.setCell (p : Addr) (v : Value) (h : KS S W W') (hp : ¬ S p.block) : KS S W (W'.setCell p v) :=
  h.trans ⟨rfl, rfl, rfl, by simp, fun i _ hs => Below.heap_setCell W' p v i fun e => hp (e ▸ hs)⟩
theorem KS.alloc (o : Obj) (h : KS S W W') : KS S W (W'.alloc o) := h.trans (.of_below ((Below.refl _ W').alloc (Nat.le_refl _) o))
theorem KS.next {W2 : World} (h : KS S W W') (k : Below W'.heap.size W' W2) : KS S W W2 := h.trans (.of_below k)
theorem KS.putObj {l : Nat} (o' : Obj) (h : KS S W W') (hl : ¬ S l) : KS S W (W'.putObj l o') :=
  h.trans (.of_grown (grownBy_putObj' W' l o') fun j e => by cases e; exact hl)
theorem KS.below {n : Nat} (h : KS S W W') (hS : ∀ i, i < n → S i) (hn : n ≤ W.heap.size) : Below n W W' :=
  ⟨h.os, h.tape, h.output, h.size, fun i hi => h.block i (by omega) (hS i hi)⟩
theorem KS.cell (h : KS S W W') {b off : Nat} {v : Value} (hs : S b) (hc : W.cell? ⟨b, off, none⟩ = some v) : W'.cell? ⟨b, off, none⟩ = some v := by
  have hlt := World.block_lt_of_cell? _ _ hc
  have := h.block b hlt hs
  simp only [World.cell?, this]
  simpa only [World.cell?] using hc
end

/-- The contract of an iterator's value: N rounds; the k-th is handed what En k says, in the world where it begins. -/
def IterC (P : Program) (gf : Nat) (lb : Array Value) (S : Nat → Prop) (N : Nat) (En : Nat → Array Value → World → Prop) (w0 : World) : Prop :=
  ∀ (l : Nat) (J Jx : Nat → World → Prop) (W : World), KS S w0 W →
    (∀ k A B, J k A → Below A.heap.size A B → J k B) → (∀ k A B, Jx k A → Below A.heap.size A B → Jx k B) →
    (∀ k args W1, k < N → J k W1 → KS S w0 W1 → En k args W1 → YieldAt Fence.wide 0 P l args W1 fun e W' => (e = .returned (.bool true) ∧ J (k + 1) W' ∧ KS S W1 W') ∨ (e = .returned (.bool false) ∧ Jx k W')) →
    J 0 W →
    Calls P gf (#[.func (.yield l) #[] #[]] ++ lb) W fun e W' => (∃ v, e = .returned v) ∧ (J N W' ∨ ∃ k, k < N ∧ Jx k W')

theorem KeepsFrom.of_below {W W' : World} (h : Below W.heap.size W W') (B : Nat) : KeepsFrom B W W' := ⟨h.size, fun k o _ hk _ => (h.block k (Array.getElem?_eq_some_iff.1 hk).1).trans hk⟩
/-- How the body of a round may be left. -/
def rndPost (B : Nat) (S : Nat → Prop) (I : Nat → World → Prop) (Ix : Code → Nat → World → Prop) (k : Nat) (W : World) : Exit → Act → World → Prop
  | .normal, _, W' => KeepsFrom B W W' ∧ KS S W W' ∧ I (k + 1) W'
  | .ret, _, W' => KeepsFrom B W W' ∧ KS S W W' ∧ Ix .ret k W'
  | .exit id, _, W' => KeepsFrom B W W' ∧ KS S W W' ∧ Ix (.exit id) k W'
  | .goto t, _, W' => KeepsFrom B W W' ∧ KS S W W' ∧ Ix (.goto t) k W'
  | .panic _, _, _ => False
  | .outgrown, _, _ => False
abbrev markD (D : Nat) : Deferred := { target := .collected D, args := #[] }

/-- The law. -/
theorem wp_iter {P : Program} {g : Operand} {ps : Array Tmp} {assign body : Code} {Q : Exit → Act → World → Prop} {a : Act} {w : World} {gf : Nat} {lb : Array Value}
    (hg : a.eval g = .func (.func gf) #[] lb) (eg : ∀ args w, (callFunc gf args).run P w = .ok (.enter gf args) w)
    {S : Nat → Prop} {N : Nat} {En : Nat → Array Value → World → Prop} {w0 : World} (hseq : IterC P gf lb S N En w0) (hb0 : KS S w0 w) (hS : ∀ i, S i → i < w.heap.size) (hps : ∀ k args W, En k args W → args.size = ps.size)
    (I : Nat → World → Prop) (Ix : Code → Nat → World → Prop) (hI : ∀ k A B, I k A → KW w.heap.size A B → I k B) (hIx : ∀ c k A B, Ix c k A → KW w.heap.size A B → Ix c k B) (h0 : I 0 w)
    (hround : ∀ l k args W, w.heap.size ≤ l → k < N → I k W → KS S w W → En k args W → W.heap.size > l →
      assign.wpIn (Fence.wide.inRound l) 0 P (Exit.then (fun a' Wa => KeepsFrom w.heap.size W Wa ∧ KS S W Wa ∧ ∀ Wb, KW w.heap.size Wa Wb → KS S Wa Wb → body.wpIn (Fence.wide.inRound l) 0 P (rndPost w.heap.size S I Ix k Wb) a' Wb) (fun _ _ _ => False))
        { tmps := (ps.zip args).foldl (fun t (p, v) => t.setIfInBounds p v) a.tmps, defers := [] } W)
    (hdone : ∀ D W, w.heap.size ≤ D → I N W → KS S w W → W.heap[D]? = some (.deferred (some [])) → Q .normal { a with defers := markD D :: a.defers } W)
    (hstop : ∀ D c k W, w.heap.size ≤ D → k < N → Ix c k W → KS S w W → W.heap[D]? = some (.deferred (some [])) → c.wp P Q { a with defers := markD D :: a.defers } W) :
    (Code.rangeFunc g ps assign body).wp P Q a w := by
  refine (wpIn_wide (n := 0)).1 (wpIn_rangeFunc ?_)
  intro fn hfn
  rw [show Fence.wide.round = none from rfl]
  obtain ⟨rec, hrec⟩ : ∃ rec : LoopState → Option Code → Loop, rec = fun st pe => { state := st, pending := pe, fn, tmps := a.tmps, params := ps, assign, body, defers := w.heap.size } := ⟨_, rfl⟩
  obtain ⟨W1, hW1⟩ : ∃ W1, (w.alloc (.deferred (some []))).alloc (.loop (rec .ready none)) = W1 := ⟨_, rfl⟩
  have hL1 : W1.heap[w.heap.size + 1]? = some (.loop (rec .ready none)) := by
    rw [← hW1]; have := World.alloc_heap_new (w.alloc (.deferred (some []))) (.loop (rec .ready none)); rwa [World.size_alloc] at this
  have hK1 : W1.heap[w.heap.size]? = some (.deferred (some [])) := by
    rw [← hW1]; exact (Below.heap_alloc _ _ _ (by simp)).trans (World.alloc_heap_new w _)
  have hbW : Below w.heap.size w W1 := by rw [← hW1]; exact ((Below.refl _ w).alloc (Nat.le_refl _) _).alloc (by simp) _
  have hI1 : I 0 W1 := hI 0 w W1 h0 (.of_below hbW)
  have hb1 : KS S w W1 := .of_below hbW
  have hl0 : ¬ S (w.heap.size + 1) := fun q => by have := hS _ q; omega
  refine ⟨w.heap.size + 1, [markD w.heap.size], W1, { target := .fn (.func gf) lb, args := #[.func (.yield (w.heap.size + 1)) #[] #[]] }, W1, gf,
    #[.func (.yield (w.heap.size + 1)) #[] #[]] ++ lb, W1, ?_, ?_, fun _ _ => trivial, ?_, fun h => by simp [Fence.wide] at h, ?_⟩
  · rw [← hW1, hrec]; exact run_enterLoop_outer _ _ _ _ _
  · simp only [resolve, hg]
    simp [go_sem]
  · simp [invoke, go_sem, eg]
  · refine callsIn_wide.2 ((hseq (w.heap.size + 1)
      (fun k W => I k W ∧ W.heap[w.heap.size + 1]? = some (.loop (rec .ready none)) ∧ W.heap[w.heap.size]? = some (.deferred (some [])) ∧ KS S w W)
      (fun k W => ∃ c, Ix c k W ∧ W.heap[w.heap.size + 1]? = some (.loop (rec .done (some c))) ∧ W.heap[w.heap.size]? = some (.deferred (some [])) ∧ KS S w W)
      W1 (hb0.trans hb1) ?_ ?_ ?_ ⟨hI1, hL1, hK1, hb1⟩).mono ?_)
    · rintro k A B ⟨hi, hl, hk, hb⟩ hAB
      exact ⟨hI k A B hi (.of_below hAB), (hAB.block _ (Array.getElem?_eq_some_iff.1 hl).1).trans hl, (hAB.block _ (Array.getElem?_eq_some_iff.1 hk).1).trans hk, hb.next hAB⟩
    · rintro k A B ⟨c, hi, hl, hk, hb⟩ hAB
      exact ⟨c, hIx c k A B hi (.of_below hAB), (hAB.block _ (Array.getElem?_eq_some_iff.1 hl).1).trans hl, (hAB.block _ (Array.getElem?_eq_some_iff.1 hk).1).trans hk, hb.next hAB⟩
    · rintro k args W hkN ⟨hi, hl, hk, hb⟩ _ hen
      have hlt : w.heap.size + 1 < W.heap.size := (Array.getElem?_eq_some_iff.1 hl).1
      have hy := run_yield (P := P) (args := args) hl (by rw [hrec]; exact hps k args W hen)
      rw [hrec] at hy
      refine ⟨fn, _, assign, body, hy, roundIn_of_wpIn trivial ?_⟩
      refine Go.wpIn_mono (hround (w.heap.size + 1) k args W (by omega) hkN hi hb hen hlt) ?_
      rintro e a' Wa hq
      cases e with
      | normal =>
        obtain ⟨hkf, hba, hbody⟩ := hq
        have hla := hkf.same _ _ (by omega) hl rfl
        have hka := hkf.same _ _ (Nat.le_refl _) hk rfl
        refine ⟨_, run_beginRound hla (by rw [hrec]), ?_⟩
        have hlta : w.heap.size + 1 < Wa.heap.size := (Array.getElem?_eq_some_iff.1 hla).1
        have hl2 : (Wa.putObj (w.heap.size + 1) (.loop { rec .ready none with state := .busy })).heap[w.heap.size + 1]? = some (.loop { rec .ready none with state := .busy }) := World.putObj_heap_same hlta
        have hk2 : (Wa.putObj (w.heap.size + 1) (.loop { rec .ready none with state := .busy })).heap[w.heap.size]? = some (.deferred (some [])) := (World.putObj_heap_other (by omega)).trans hka
        refine Go.wpIn_mono (hbody _ (KW.putObj _ (by omega) hla rfl) ((KS.refl _ _).putObj _ hl0)) ?_
        have hbP : KS S W (Wa.putObj (w.heap.size + 1) (.loop { rec .ready none with state := .busy })) := hba.putObj _ hl0
        have fin : ∀ (jump : Option Code) (W3 : World), KeepsFrom w.heap.size (Wa.putObj (w.heap.size + 1) (.loop { rec .ready none with state := .busy })) W3 → KS S (Wa.putObj (w.heap.size + 1) (.loop { rec .ready none with state := .busy })) W3 →
            (Instr.endRound (w.heap.size + 1) jump).run P W3 = .ok (.bool jump.isNone) (W3.putObj (w.heap.size + 1) (.loop (rec (if jump.isNone then .ready else .done) jump))) ∧
            W3.heap[w.heap.size + 1]? = some (.loop { rec .ready none with state := .busy }) ∧
            (W3.putObj (w.heap.size + 1) (.loop (rec (if jump.isNone then .ready else .done) jump))).heap[w.heap.size + 1]? = some (.loop (rec (if jump.isNone then .ready else .done) jump)) ∧
            (W3.putObj (w.heap.size + 1) (.loop (rec (if jump.isNone then .ready else .done) jump))).heap[w.heap.size]? = some (.deferred (some [])) ∧
            KS S W (W3.putObj (w.heap.size + 1) (.loop (rec (if jump.isNone then .ready else .done) jump))) := fun jump W3 hk3 hb3 => by
          have hl3 := hk3.same _ _ (by omega) hl2 rfl
          have := run_endRound (P := P) jump hl3
          rw [hrec] at this ⊢
          exact ⟨this, by rw [hrec] at hl3; exact hl3, World.putObj_heap_same (Array.getElem?_eq_some_iff.1 hl3).1, (World.putObj_heap_other (by omega)).trans (hk3.same _ _ (Nat.le_refl _) hk2 rfl), (hbP.trans hb3).putObj _ hl0⟩
        rintro e a3 W3 hp
        cases e with
        | normal =>
          obtain ⟨hk3, hb3, hi3⟩ := hp
          obtain ⟨hr, hl3, hl4, hk4, hb4⟩ := fin none W3 hk3 hb3
          exact ⟨_, _, hr, .inl ⟨rfl, ⟨hI _ _ _ hi3 (KW.putObj _ (by omega) hl3 rfl), hl4, hk4, hb.trans hb4⟩, hb4⟩⟩
        | ret =>
          obtain ⟨hk3, hb3, hi3⟩ := hp
          obtain ⟨hr, hl3, hl4, hk4, hb4⟩ := fin (some .ret) W3 hk3 hb3
          exact ⟨_, _, hr, .inr ⟨rfl, .ret, hIx _ _ _ _ hi3 (KW.putObj _ (by omega) hl3 rfl), hl4, hk4, hb.trans hb4⟩⟩
        | exit id =>
          obtain ⟨hk3, hb3, hi3⟩ := hp
          obtain ⟨hr, hl3, hl4, hk4, hb4⟩ := fin (some (.exit id)) W3 hk3 hb3
          exact ⟨_, _, hr, .inr ⟨rfl, .exit id, hIx _ _ _ _ hi3 (KW.putObj _ (by omega) hl3 rfl), hl4, hk4, hb.trans hb4⟩⟩
        | goto t =>
          obtain ⟨hk3, hb3, hi3⟩ := hp
          obtain ⟨hr, hl3, hl4, hk4, hb4⟩ := fin (some (.goto t)) W3 hk3 hb3
          exact ⟨_, _, hr, .inr ⟨rfl, .goto t, hIx _ _ _ _ hi3 (KW.putObj _ (by omega) hl3 rfl), hl4, hk4, hb.trans hb4⟩⟩
        | panic ch => exact hp.elim
        | outgrown => exact hp.elim
      | exit id => exact hq.elim
      | goto t => exact hq.elim
      | ret => exact hq.elim
      | panic chain => exact hq.elim
      | outgrown => exact hq.elim
    · rintro e W2 ⟨⟨v, rfl⟩, (⟨hi, hl, hk, hb⟩ | ⟨k, hkN, c, hi, hl, hk, hb⟩)⟩
      · refine ⟨none, _, by have := run_endLoop (P := P) hl (by rw [hrec]; simp); rw [hrec] at this; exact this, ?_⟩
        exact hdone _ _ (Nat.le_refl _) (hI _ _ _ hi (KW.putObj _ (by omega) hl rfl)) (hb.putObj _ hl0) ((World.putObj_heap_other (by omega)).trans hk)
      · refine ⟨some c, _, by have := run_endLoop (P := P) hl (by rw [hrec]; simp); rw [hrec] at this; exact this, ?_⟩
        exact wpIn_wide.2 (hstop _ c k _ (Nat.le_refl _) hkN (hIx _ _ _ _ hi (KW.putObj _ (by omega) hl rfl)) (hb.putObj _ hl0) ((World.putObj_heap_other (by omega)).trans hk))

/-- A function that holds such a loop, from its body. -/
theorem calls_of_marks {P : Program} {f : FuncId} {fn : Func} {c : Code} {args : Array Value} {w : World} {R : Ending → World → Prop} (hf : P.funcs[f]? = some fn) (hb : fn.body = some c)
    (h : c.wp P (bodyPostM Fence.wide 0 P fn R) { tmps := args ++ Array.replicate (fn.ntmps - args.size) undef, defers := [] } w) : Calls P f args w R :=
  callsIn_wide.1 (callsIn_of_wp_marks hf hb trivial (wpIn_wide.2 h) rfl)
end Go.Proofs.YtjcdkbalhleeeaaGreatDoor
