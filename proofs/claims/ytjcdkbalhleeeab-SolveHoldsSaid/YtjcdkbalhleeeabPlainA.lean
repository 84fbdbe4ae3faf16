/-
  Plain words and laws of linear programs, put together: no program in sight. No condition.
-/
import Derived.RangeFuncNested
import Derived.RangeFuncLeaves
import Derived.RangeFuncCalls
import Derived.RangeFuncBound
import Derived.Below
/-
  A loop over an iterator whose rounds are handed memory: one law for the caller, over a contract of the iterator that says what each round is handed, in which world. No program in sight; no condition.
-/
namespace Go.Proofs.Ytjcdkbalhleeeab
open Go.RowKit

/-- Whatever is cells, and whatever lies below B, lies as it lay. -/
structure KW (B : Nat) (W W' : World) : Prop where
  size : W.heap.size ≤ W'.heap.size
  same : ∀ (k : Nat) (o : Obj), W.heap[k]? = some o → (k < B ∨ o.isCells = true) → W'.heap[k]? = some o
theorem KW.refl (B : Nat) (W : World) : KW B W W := ⟨Nat.le_refl _, fun _ _ h _ => h⟩
theorem KW.trans {B : Nat} {X Y Z : World} (h : KW B X Y) (k : KW B Y Z) : KW B X Z := ⟨Nat.le_trans h.size k.size, fun i o hi ho => k.same i o (h.same i o hi ho) ho⟩
theorem KW.of_below {B : Nat} {W W' : World} (h : Below W.heap.size W W') : KW B W W' := ⟨h.size, fun k o hk _ => (h.block k (Array.getElem?_eq_some_iff.1 hk).1).trans hk⟩
theorem KW.putObj {B : Nat} {W : World} {l : Nat} {o : Obj} (o' : Obj) (hB : B ≤ l) (hl : W.heap[l]? = some o) (ho : o.isCells = false) : KW B W (W.putObj l o') :=
  ⟨by simp, fun k x hk hx => by
    by_cases e : k = l
    · subst e
      rw [hl] at hk; cases hk
      rcases hx with q | q
      · omega
      · rw [ho] at q; cases q
    · exact (World.putObj_heap_other e).trans hk⟩
theorem KW.cell {B : Nat} {W W' : World} (h : KW B W W') {p : Addr} {v : Value} (hc : W.cell? p = some v) : W'.cell? p = some v := by
  obtain ⟨b, off, sp⟩ := p
  cases hb : W.heap[b]? with
  | none => simp [World.cell?, hb] at hc
  | some o =>
    have : o.isCells = true := by cases o <;> first | rfl | (simp [World.cell?, hb] at hc)
    simp only [World.cell?, h.same b o hb (.inr this)]
    simpa only [World.cell?, hb] using hc
/-- The blocks of S lie as they lay. -/
structure KS (S : Nat → Prop) (W W' : World) : Prop where
  os : W'.os = W.os
  tape : W'.tape = W.tape
  output : W'.output = W.output
  size : W.heap.size ≤ W'.heap.size
  block : ∀ i, i < W.heap.size → S i → W'.heap[i]? = W.heap[i]?
section
variable {S : Nat → Prop} {W W' : World}
theorem KS.refl (S : Nat → Prop) (W : World) : KS S W W := ⟨rfl, rfl, rfl, Nat.le_refl _, fun _ _ _ => rfl⟩
theorem KS.trans {X Y Z : World} (h : KS S X Y) (k : KS S Y Z) : KS S X Z :=
  ⟨k.os.trans h.os, k.tape.trans h.tape, k.output.trans h.output, Nat.le_trans h.size k.size, fun i hi hs => (k.block i (Nat.lt_of_lt_of_le hi h.size) hs).trans (h.block i hi hs)⟩
theorem KS.of_below (h : Below W.heap.size W W') : KS S W W' := ⟨h.os, h.tape, h.output, h.size, fun i hi _ => h.block i hi⟩
theorem KS.of_grown {row : Option Nat} (h : W.grownBy W' row) (hr : ∀ j, row = some j → ¬ S j) : KS S W W' :=
  ⟨h.os, h.tape, h.output, h.size, fun i hi hs => h.block i hi fun e => hr i e.symm hs⟩
theorem KS.setCell (p : Addr) (v : Value) (h : KS S W W') (hp : ¬ S p.block) : KS S W (W'.setCell p v) :=
  h.trans ⟨rfl, rfl, rfl, by simp, fun i _ hs => Below.heap_setCell W' p v i fun e => hp (e ▸ hs)⟩
theorem KS.alloc (o : Obj) (h : KS S W W') : KS S W (W'.alloc o) := h.trans (.of_below ((Below.refl _ W').alloc (Nat.le_refl _) o))
theorem KS.next {W2 : World} (h : KS S W W') (k : Below W'.heap.size W' W2) : KS S W W2 := h.trans (.of_below k)
theorem KS.putObj {l : Nat} (o' : Obj) (h : KS S W W') (hl : ¬ S l) : KS S W (W'.putObj l o') :=
  h.trans (.of_grown (grownBy_putObj' W' l o') fun j e => by cases e; exact hl)
theorem KS.below {n : Nat} (h : KS S W W') (hS : ∀ i, i < n → S i) (hn : n ≤ W.heap.size) : Below n W W' :=
  ⟨h.os, h.tape, h.output, h.size, fun i hi => h.block i (by omega) (hS i hi)⟩
theorem KS.cell (h : KS S W W') {b off : Nat} {v : Value} (hs : S b) (hc : W.cell? ⟨b, off, none⟩ = some v) : W'.cell? ⟨b, off, none⟩ = some v := by
  have hlt := World.block_lt_of_cell? _ _ hc
  have := h.block b hlt hs
  simp only [World.cell?, this]
  simpa only [World.cell?] using hc
end

/-- The contract of an iterator's value: N rounds; the k-th is handed what En k says, in the world where it begins. -/
def IterC (P : Program) (gf : Nat) (lb : Array Value) (S : Nat → Prop) (N : Nat) (En : Nat → Array Value → World → Prop) (w0 : World) : Prop :=
  ∀ (l : Nat) (J Jx : Nat → World → Prop) (W : World), KS S w0 W →
    (∀ k A B, J k A → Below A.heap.size A B → J k B) → (∀ k A B, Jx k A → Below A.heap.size A B → Jx k B) →
    (∀ k args W1, k < N → J k W1 → KS S w0 W1 → En k args W1 → YieldAt Fence.wide 0 P l args W1 fun e W' => (e = .returned (.bool true) ∧ J (k + 1) W' ∧ KS S W1 W') ∨ (e = .returned (.bool false) ∧ Jx k W')) →
    J 0 W →
    Calls P gf (#[.func (.yield l) #[] #[]] ++ lb) W fun e W' => (∃ v, e = .returned v) ∧ (J N W' ∨ ∃ k, k < N ∧ Jx k W')

theorem KeepsFrom.of_below {W W' : World} (h : Below W.heap.size W W') (B : Nat) : KeepsFrom B W W' := ⟨h.size, fun k o _ hk _ => (h.block k (Array.getElem?_eq_some_iff.1 hk).1).trans hk⟩
/-- How the body of a round may be left. -/
def rndPost (B : Nat) (S : Nat → Prop) (I : Nat → World → Prop) (Ix : Code → Nat → World → Prop) (k : Nat) (W : World) : Exit → Act → World → Prop
  | .normal, _, W' => KeepsFrom B W W' ∧ KS S W W' ∧ I (k + 1) W'
  | .ret, _, W' => KeepsFrom B W W' ∧ KS S W W' ∧ Ix .ret k W'
  | .exit id, _, W' => KeepsFrom B W W' ∧ KS S W W' ∧ Ix (.exit id) k W'
  | .goto t, _, W' => KeepsFrom B W W' ∧ KS S W W' ∧ Ix (.goto t) k W'
  | .panic _, _, _ => False
  | .outgrown, _, _ => False
abbrev markD (D : Nat) : Deferred := { target := .collected D, args := #[] }

/-- The law. -/
theorem wp_iter {P : Program} {g : Operand} {ps : Array Tmp} {assign body : Code} {Q : Exit → Act → World → Prop} {a : Act} {w : World} {gf : Nat} {lb : Array Value}
    (hg : a.eval g = .func (.func gf) #[] lb) (eg : ∀ args w, (callFunc gf args).run P w = .ok (.enter gf args) w)
    {S : Nat → Prop} {N : Nat} {En : Nat → Array Value → World → Prop} {w0 : World} (hseq : IterC P gf lb S N En w0) (hb0 : KS S w0 w) (hS : ∀ i, S i → i < w.heap.size) (hps : ∀ k args W, En k args W → args.size = ps.size)
    (I : Nat → World → Prop) (Ix : Code → Nat → World → Prop) (hI : ∀ k A B, I k A → KW w.heap.size A B → I k B) (hIx : ∀ c k A B, Ix c k A → KW w.heap.size A B → Ix c k B) (h0 : I 0 w)
    (hround : ∀ l k args W, w.heap.size ≤ l → k < N → I k W → KS S w W → En k args W → W.heap.size > l →
      assign.wpIn (Fence.wide.inRound l) 0 P (Exit.then (fun a' Wa => KeepsFrom w.heap.size W Wa ∧ KS S W Wa ∧ ∀ Wb, KW w.heap.size Wa Wb → KS S Wa Wb → body.wpIn (Fence.wide.inRound l) 0 P (rndPost w.heap.size S I Ix k Wb) a' Wb) (fun _ _ _ => False))
        { tmps := (ps.zip args).foldl (fun t (p, v) => t.setIfInBounds p v) a.tmps, defers := [] } W)
    (hdone : ∀ D W, w.heap.size ≤ D → I N W → KS S w W → W.heap[D]? = some (.deferred (some [])) → Q .normal { a with defers := markD D :: a.defers } W)
    (hstop : ∀ D c k W, w.heap.size ≤ D → k < N → Ix c k W → KS S w W → W.heap[D]? = some (.deferred (some [])) → c.wp P Q { a with defers := markD D :: a.defers } W) :
    (Code.rangeFunc g ps assign body).wp P Q a w := by
  refine (wpIn_wide (n := 0)).1 (wpIn_rangeFunc ?_)
  intro fn hfn
  rw [show Fence.wide.round = none from rfl]
  obtain ⟨rec, hrec⟩ : ∃ rec : LoopState → Option Code → Loop, rec = fun st pe => { state := st, pending := pe, fn, tmps := a.tmps, params := ps, assign, body, defers := w.heap.size } := ⟨_, rfl⟩
  obtain ⟨W1, hW1⟩ : ∃ W1, (w.alloc (.deferred (some []))).alloc (.loop (rec .ready none)) = W1 := ⟨_, rfl⟩
  have hL1 : W1.heap[w.heap.size + 1]? = some (.loop (rec .ready none)) := by
    rw [← hW1]; have := World.alloc_heap_new (w.alloc (.deferred (some []))) (.loop (rec .ready none)); rwa [World.size_alloc] at this
  have hK1 : W1.heap[w.heap.size]? = some (.deferred (some [])) := by
    rw [← hW1]; exact (Below.heap_alloc _ _ _ (by simp)).trans (World.alloc_heap_new w _)
  have hbW : Below w.heap.size w W1 := by rw [← hW1]; exact ((Below.refl _ w).alloc (Nat.le_refl _) _).alloc (by simp) _
  have hI1 : I 0 W1 := hI 0 w W1 h0 (.of_below hbW)
  have hb1 : KS S w W1 := .of_below hbW
  have hl0 : ¬ S (w.heap.size + 1) := fun q => by have := hS _ q; omega
  refine ⟨w.heap.size + 1, [markD w.heap.size], W1, { target := .fn (.func gf) lb, args := #[.func (.yield (w.heap.size + 1)) #[] #[]] }, W1, gf,
    #[.func (.yield (w.heap.size + 1)) #[] #[]] ++ lb, W1, ?_, ?_, fun _ _ => trivial, ?_, fun h => by simp [Fence.wide] at h, ?_⟩
  · rw [← hW1, hrec]; exact run_enterLoop_outer _ _ _ _ _
  · simp only [resolve, hg]
    simp [go_sem]
  · simp [invoke, go_sem, eg]
  · refine callsIn_wide.2 ((hseq (w.heap.size + 1)
      (fun k W => I k W ∧ W.heap[w.heap.size + 1]? = some (.loop (rec .ready none)) ∧ W.heap[w.heap.size]? = some (.deferred (some [])) ∧ KS S w W)
      (fun k W => ∃ c, Ix c k W ∧ W.heap[w.heap.size + 1]? = some (.loop (rec .done (some c))) ∧ W.heap[w.heap.size]? = some (.deferred (some [])) ∧ KS S w W)
      W1 (hb0.trans hb1) ?_ ?_ ?_ ⟨hI1, hL1, hK1, hb1⟩).mono ?_)
    · rintro k A B ⟨hi, hl, hk, hb⟩ hAB
      exact ⟨hI k A B hi (.of_below hAB), (hAB.block _ (Array.getElem?_eq_some_iff.1 hl).1).trans hl, (hAB.block _ (Array.getElem?_eq_some_iff.1 hk).1).trans hk, hb.next hAB⟩
    · rintro k A B ⟨c, hi, hl, hk, hb⟩ hAB
      exact ⟨c, hIx c k A B hi (.of_below hAB), (hAB.block _ (Array.getElem?_eq_some_iff.1 hl).1).trans hl, (hAB.block _ (Array.getElem?_eq_some_iff.1 hk).1).trans hk, hb.next hAB⟩
    · rintro k args W hkN ⟨hi, hl, hk, hb⟩ _ hen
      have hlt : w.heap.size + 1 < W.heap.size := (Array.getElem?_eq_some_iff.1 hl).1
      have hy := run_yield (P := P) (args := args) hl (by rw [hrec]; exact hps k args W hen)
      rw [hrec] at hy
      refine ⟨fn, _, assign, body, hy, roundIn_of_wpIn trivial ?_⟩
      refine Go.wpIn_mono (hround (w.heap.size + 1) k args W (by omega) hkN hi hb hen hlt) ?_
      rintro e a' Wa hq
      cases e with
      | normal =>
        obtain ⟨hkf, hba, hbody⟩ := hq
        have hla := hkf.same _ _ (by omega) hl rfl
        have hka := hkf.same _ _ (Nat.le_refl _) hk rfl
        refine ⟨_, run_beginRound hla (by rw [hrec]), ?_⟩
        have hlta : w.heap.size + 1 < Wa.heap.size := (Array.getElem?_eq_some_iff.1 hla).1
        have hl2 : (Wa.putObj (w.heap.size + 1) (.loop { rec .ready none with state := .busy })).heap[w.heap.size + 1]? = some (.loop { rec .ready none with state := .busy }) := World.putObj_heap_same hlta
        have hk2 : (Wa.putObj (w.heap.size + 1) (.loop { rec .ready none with state := .busy })).heap[w.heap.size]? = some (.deferred (some [])) := (World.putObj_heap_other (by omega)).trans hka
        refine Go.wpIn_mono (hbody _ (KW.putObj _ (by omega) hla rfl) ((KS.refl _ _).putObj _ hl0)) ?_
        have hbP : KS S W (Wa.putObj (w.heap.size + 1) (.loop { rec .ready none with state := .busy })) := hba.putObj _ hl0
        have fin : ∀ (jump : Option Code) (W3 : World), KeepsFrom w.heap.size (Wa.putObj (w.heap.size + 1) (.loop { rec .ready none with state := .busy })) W3 → KS S (Wa.putObj (w.heap.size + 1) (.loop { rec .ready none with state := .busy })) W3 →
            (Instr.endRound (w.heap.size + 1) jump).run P W3 = .ok (.bool jump.isNone) (W3.putObj (w.heap.size + 1) (.loop (rec (if jump.isNone then .ready else .done) jump))) ∧
            W3.heap[w.heap.size + 1]? = some (.loop { rec .ready none with state := .busy }) ∧
            (W3.putObj (w.heap.size + 1) (.loop (rec (if jump.isNone then .ready else .done) jump))).heap[w.heap.size + 1]? = some (.loop (rec (if jump.isNone then .ready else .done) jump)) ∧
            (W3.putObj (w.heap.size + 1) (.loop (rec (if jump.isNone then .ready else .done) jump))).heap[w.heap.size]? = some (.deferred (some [])) ∧
            KS S W (W3.putObj (w.heap.size + 1) (.loop (rec (if jump.isNone then .ready else .done) jump))) := fun jump W3 hk3 hb3 => by
          have hl3 := hk3.same _ _ (by omega) hl2 rfl
          have := run_endRound (P := P) jump hl3
          rw [hrec] at this ⊢
          exact ⟨this, by rw [hrec] at hl3; exact hl3, World.putObj_heap_same (Array.getElem?_eq_some_iff.1 hl3).1, (World.putObj_heap_other (by omega)).trans (hk3.same _ _ (Nat.le_refl _) hk2 rfl), (hbP.trans hb3).putObj _ hl0⟩
        rintro e a3 W3 hp
        cases e with
        | normal =>
          obtain ⟨hk3, hb3, hi3⟩ := hp
          obtain ⟨hr, hl3, hl4, hk4, hb4⟩ := fin none W3 hk3 hb3
          exact ⟨_, _, hr, .inl ⟨rfl, ⟨hI _ _ _ hi3 (KW.putObj _ (by omega) hl3 rfl), hl4, hk4, hb.trans hb4⟩, hb4⟩⟩
        | ret =>
          obtain ⟨hk3, hb3, hi3⟩ := hp
          obtain ⟨hr, hl3, hl4, hk4, hb4⟩ := fin (some .ret) W3 hk3 hb3
          exact ⟨_, _, hr, .inr ⟨rfl, .ret, hIx _ _ _ _ hi3 (KW.putObj _ (by omega) hl3 rfl), hl4, hk4, hb.trans hb4⟩⟩
        | exit id =>
          obtain ⟨hk3, hb3, hi3⟩ := hp
          obtain ⟨hr, hl3, hl4, hk4, hb4⟩ := fin (some (.exit id)) W3 hk3 hb3
          exact ⟨_, _, hr, .inr ⟨rfl, .exit id, hIx _ _ _ _ hi3 (KW.putObj _ (by omega) hl3 rfl), hl4, hk4, hb.trans hb4⟩⟩
        | goto t =>
          obtain ⟨hk3, hb3, hi3⟩ := hp
          obtain ⟨hr, hl3, hl4, hk4, hb4⟩ := fin (some (.goto t)) W3 hk3 hb3
          exact ⟨_, _, hr, .inr ⟨rfl, .goto t, hIx _ _ _ _ hi3 (KW.putObj _ (by omega) hl3 rfl), hl4, hk4, hb.trans hb4⟩⟩
        | panic ch => exact hp.elim
        | outgrown => exact hp.elim
      | exit id => exact hq.elim
      | goto t => exact hq.elim
      | ret => exact hq.elim
      | panic chain => exact hq.elim
      | outgrown => exact hq.elim
    · rintro e W2 ⟨⟨v, rfl⟩, (⟨hi, hl, hk, hb⟩ | ⟨k, hkN, c, hi, hl, hk, hb⟩)⟩
      · refine ⟨none, _, by have := run_endLoop (P := P) hl (by rw [hrec]; simp); rw [hrec] at this; exact this, ?_⟩
        exact hdone _ _ (Nat.le_refl _) (hI _ _ _ hi (KW.putObj _ (by omega) hl rfl)) (hb.putObj _ hl0) ((World.putObj_heap_other (by omega)).trans hk)
      · refine ⟨some c, _, by have := run_endLoop (P := P) hl (by rw [hrec]; simp); rw [hrec] at this; exact this, ?_⟩
        exact wpIn_wide.2 (hstop _ c k _ (Nat.le_refl _) hkN (hIx _ _ _ _ hi (KW.putObj _ (by omega) hl rfl)) (hb.putObj _ hl0) ((World.putObj_heap_other (by omega)).trans hk))

/-- A function that holds such a loop, from its body. -/
theorem calls_of_marks {P : Program} {f : FuncId} {fn : Func} {c : Code} {args : Array Value} {w : World} {R : Ending → World → Prop} (hf : P.funcs[f]? = some fn) (hb : fn.body = some c)
    (h : c.wp P (bodyPostM Fence.wide 0 P fn R) { tmps := args ++ Array.replicate (fn.ntmps - args.size) undef, defers := [] } w) : Calls P f args w R :=
  callsIn_wide.1 (callsIn_of_wp_marks hf hb trivial (wpIn_wide.2 h) rfl)
end Go.Proofs.Ytjcdkbalhleeeab

/-
  Plain words for chapter 1: what the functions on fractions and points compute, as plain functions on lists of whole numbers. No program in sight; no condition.
-/
namespace Go.Proofs.Ytjcdkbalhleeeab

/-- Are all numbers from -m to m? -/
def smallB (m : Int) (l : List Int) : Bool := l.all fun n => decide (-m ≤ n) && decide (n ≤ m)
/-- The greatest number that divides den and all of l. -/
def comm (g : Nat) (l : List Int) : Nat := l.foldl (fun g n => Nat.gcd g n.natAbs) g
/-- Parts within their limits. -/
def rightB (l : List Int) (d : Int) : Bool := decide (1 ≤ d) && (decide (d ≤ 1073741824) && (smallB 1073741824 l && decide (l.length ≤ 8)))
/-- May a point be? -/
def mayB (l : List Int) (d : Int) : Bool := rightB l d && decide (comm d.natAbs l = 1)
/-- The divisor with den's sign. -/
def sgcd (l : List Int) (d : Int) : Int := if d < 0 then -(comm d.natAbs l : Int) else comm d.natAbs l
def divs (l : List Int) (g : Int) : List Int := l.map fun n => n.tdiv g
/-- A point's making: the error (0: none). -/
def ptE (l : List Int) (d : Int) : Int :=
  if d = 0 ∨ smallB 4611686018427387904 l = false ∨ smallB 4611686018427387904 [d] = false then 3
  else if rightB (divs l (sgcd l d)) (d.tdiv (sgcd l d)) then 0 else 1
def ptN (l : List Int) (d : Int) : List Int := if ptE l d = 0 then divs l (sgcd l d) else []
def ptD (l : List Int) (d : Int) : Int := if ptE l d = 0 then d.tdiv (sgcd l d) else 0
def frN (n d : Int) : Int := (ptN [n] d).headD 0
def lessB (a b c d : Int) : Bool := mayB [a] b && (mayB [c] d && decide (a * d < c * b))

theorem smallB_nil (m : Int) : smallB m [] = true := rfl
theorem smallB_take {m : Int} {l : List Int} {k : Nat} (h : k < l.length) : smallB m (l.take (k + 1)) = (smallB m (l.take k) && (decide (-m ≤ l[k]) && decide (l[k] ≤ m))) := by
  unfold smallB; rw [List.take_succ_eq_append_getElem h, List.all_append]; simp
theorem smallB_false {m : Int} {l : List Int} {k : Nat} (h : k < l.length) (hn : (decide (-m ≤ l[k]) && decide (l[k] ≤ m)) = false) : smallB m l = false := by
  unfold smallB; rw [List.all_eq_false]; exact ⟨l[k], List.getElem_mem h, by simpa using hn⟩
theorem smallB_at {m : Int} {l : List Int} (hs : smallB m l = true) {k : Nat} (h : k < l.length) : -m ≤ l[k] ∧ l[k] ≤ m := by
  unfold smallB at hs; rw [List.all_eq_true] at hs
  simpa using hs l[k] (List.getElem_mem h)
theorem smallB_mem {m : Int} {l : List Int} (hs : smallB m l = true) {n : Int} (h : n ∈ l) : -m ≤ n ∧ n ≤ m := by
  unfold smallB at hs; rw [List.all_eq_true] at hs
  simpa using hs n h
theorem smallB_iff {m : Int} {l : List Int} : smallB m l = true ↔ ∀ n ∈ l, -m ≤ n ∧ n ≤ m := by
  unfold smallB; rw [List.all_eq_true]; simp
theorem smallB_one (m d : Int) : smallB m [d] = (decide (-m ≤ d) && decide (d ≤ m)) := by simp [smallB]

theorem comm_take (g : Nat) {l : List Int} {k : Nat} (h : k < l.length) : comm g (l.take (k + 1)) = Nat.gcd (comm g (l.take k)) l[k].natAbs := by
  unfold comm; rw [List.take_succ_eq_append_getElem h, List.foldl_append]; rfl
theorem comm_cons (g : Nat) (n : Int) (l : List Int) : comm g (n :: l) = comm (Nat.gcd g n.natAbs) l := rfl
theorem comm_dvd (g : Nat) (l : List Int) : comm g l ∣ g ∧ ∀ n ∈ l, (comm g l : Int) ∣ n := by
  induction l generalizing g with
  | nil => exact ⟨Nat.dvd_refl _, by simp⟩
  | cons n l ih =>
    rw [comm_cons]
    obtain ⟨h1, h2⟩ := ih (Nat.gcd g n.natAbs)
    refine ⟨Nat.dvd_trans h1 (Nat.gcd_dvd_left _ _), ?_⟩
    intro x hx
    rcases List.mem_cons.1 hx with rfl | hx
    · exact Int.ofNat_dvd_left.2 (Nat.dvd_trans h1 (Nat.gcd_dvd_right _ _))
    · exact h2 x hx
theorem comm_great (g : Nat) (l : List Int) (d : Nat) (hg : d ∣ g) (hl : ∀ n ∈ l, (d : Int) ∣ n) : d ∣ comm g l := by
  induction l generalizing g with
  | nil => exact hg
  | cons n l ih =>
    rw [comm_cons]
    exact ih _ (Nat.dvd_gcd hg (Int.ofNat_dvd_left.1 (hl n (by simp)))) fun x hx => hl x (by simp [hx])
theorem comm_pos (g : Nat) (l : List Int) (hg : 0 < g) : 0 < comm g l :=
  Nat.pos_of_dvd_of_pos (comm_dvd g l).1 hg
theorem comm_le (g : Nat) (l : List Int) (hg : 0 < g) : comm g l ≤ g := Nat.le_of_dvd hg (comm_dvd g l).1
theorem comm_bound (g B : Nat) (l : List Int) (hg : g ≤ B) (hl : ∀ n ∈ l, n.natAbs ≤ B) : comm g l ≤ B := by
  induction l generalizing g with
  | nil => exact hg
  | cons n l ih =>
    rw [comm_cons]
    refine ih _ ?_ fun x hx => hl x (by simp [hx])
    rcases Nat.eq_zero_or_pos g with rfl | h0
    · rw [Nat.gcd_zero_left]; exact hl n (by simp)
    · exact Nat.le_trans (Nat.gcd_le_left _ h0) hg
/-- What is left when all are divided has nothing in common. -/
theorem comm_divs (l : List Int) (d : Int) (hd : d ≠ 0) : comm (d.tdiv (sgcd l d)).natAbs (divs l (sgcd l d)) = 1 := by
  have hp : 0 < d.natAbs := Int.natAbs_pos.2 hd
  have hg : 0 < comm d.natAbs l := comm_pos _ _ hp
  obtain ⟨h1, h2⟩ := comm_dvd d.natAbs l
  have hs : (sgcd l d).natAbs = comm d.natAbs l := by unfold sgcd; split <;> simp
  have hsd : (sgcd l d) ∣ d := by rw [← Int.natAbs_dvd_natAbs, hs]; exact h1
  have hsl : ∀ n ∈ l, sgcd l d ∣ n := fun n hn => by
    have := h2 n hn
    rw [Int.ofNat_dvd_left] at this
    rw [← Int.natAbs_dvd_natAbs, hs]; exact this
  have hs0 : sgcd l d ≠ 0 := fun h => by rw [h] at hs; simp at hs; omega
  generalize hk : comm (d.tdiv (sgcd l d)).natAbs (divs l (sgcd l d)) = k
  have hkd := comm_dvd (d.tdiv (sgcd l d)).natAbs (divs l (sgcd l d))
  rw [hk] at hkd
  have hdvd : ∀ x : Int, sgcd l d ∣ x → (k : Int) ∣ x.tdiv (sgcd l d) → ((k * comm d.natAbs l : Nat) : Int) ∣ x := by
    intro x hx hkx
    obtain ⟨y, rfl⟩ := hx
    rw [Int.mul_tdiv_cancel_left _ hs0] at hkx
    obtain ⟨z, rfl⟩ := hkx
    rw [← Int.natAbs_dvd_natAbs]
    refine ⟨z.natAbs, ?_⟩
    rw [Int.natAbs_mul, Int.natAbs_mul, hs, Int.natAbs_natCast, Int.natAbs_natCast]
    ac_rfl
  have hgreat : k * comm d.natAbs l ∣ comm d.natAbs l := by
    refine comm_great _ _ _ ?_ ?_
    · have := hdvd d hsd (Int.ofNat_dvd_left.2 hkd.1)
      rw [Int.ofNat_dvd_left] at this
      exact this
    · intro n hn
      exact hdvd n (hsl n hn) (hkd.2 _ (by unfold divs; exact List.mem_map_of_mem hn))
  have := Nat.le_of_dvd hg hgreat
  have hk0 : k ≠ 0 := by
    intro h
    subst h
    rw [Nat.zero_mul] at hgreat
    have := Nat.eq_zero_of_zero_dvd hgreat
    omega
  have : k * comm d.natAbs l ≤ 1 * comm d.natAbs l := by omega
  have := Nat.le_of_mul_le_mul_right this hg
  omega
theorem divs_neg (l : List Int) (g : Int) : divs l (-g) = (divs l g).map fun n => -n := by
  unfold divs; rw [List.map_map]; apply List.map_congr_left; intro n _; simp [Int.tdiv_neg]
theorem length_divs (l : List Int) (g : Int) : (divs l g).length = l.length := by simp [divs]
theorem sgcd_ne {l : List Int} {d : Int} (hd : d ≠ 0) : sgcd l d ≠ 0 := by
  have := comm_pos d.natAbs l (Int.natAbs_pos.2 hd)
  unfold sgcd; split <;> omega
theorem sgcd_bound {l : List Int} {d : Int} (h : -4611686018427387904 ≤ d) (h' : d ≤ 4611686018427387904) (hd : d ≠ 0) : -4611686018427387904 ≤ sgcd l d ∧ sgcd l d ≤ 4611686018427387904 := by
  have := comm_le d.natAbs l (Int.natAbs_pos.2 hd)
  unfold sgcd; split <;> omega
theorem mul_bound (a b A B : Int) (h1 : -A ≤ a) (h2 : a ≤ A) (h3 : -B ≤ b) (h4 : b ≤ B) : -(A * B) ≤ a * b ∧ a * b ≤ A * B := by
  have h : (a * b).natAbs ≤ A.natAbs * B.natAbs := by
    rw [Int.natAbs_mul]; exact Nat.mul_le_mul (by omega) (by omega)
  have hA : (0 : Int) ≤ A := by omega
  have hB : (0 : Int) ≤ B := by omega
  have e : (A.natAbs * B.natAbs : Nat) = (A * B).natAbs := (Int.natAbs_mul A B).symm
  have hp : 0 ≤ A * B := Int.mul_nonneg hA hB
  rw [e] at h
  omega
theorem tdiv_bound (B : Int) (n g : Int) (h : -B ≤ n) (h' : n ≤ B) : -B ≤ n.tdiv g ∧ n.tdiv g ≤ B := by
  have := Int.natAbs_tdiv_le_natAbs n g
  omega
theorem divs_take {l : List Int} {g : Int} {k : Nat} (h : k < l.length) : divs (l.take (k + 1)) g = divs (l.take k) g ++ [l[k].tdiv g] := by
  unfold divs; rw [List.take_succ_eq_append_getElem h, List.map_append]; rfl
end Go.Proofs.Ytjcdkbalhleeeab

/-
  Plain words for chapter 2: programs as lists, which may be, what a point is worth. No program in sight.
-/
namespace Go.Proofs.Ytjcdkbalhleeeab

/-- A linear program: costs, and rows (what the variables have, and what they may be at most). -/
structure PG where
  costs : List Int
  rows : List (List Int × Int)

/-- May a row be, of n variables? -/
def rowB (n : Nat) (r : List Int × Int) : Bool := decide (r.1.length = n) && (smallB 12 [r.2] && smallB 12 r.1)
/-- May a program be? -/
def mayPB (p : PG) : Bool :=
  decide (1 ≤ p.costs.length) && (decide (p.costs.length ≤ 4) && (decide (1 ≤ p.rows.length) && (decide (p.rows.length ≤ 4) && (smallB 400 p.costs && p.rows.all (rowB p.costs.length)))))
/-- Numbers, each times another one, together. -/
def dot : List Int → List Int → Int
  | x :: a, y :: b => x * y + dot a b
  | _, _ => 0
/-- May a program be, and a point with so many numbers? -/
def fitsB (p : PG) (x : List Int) (d : Int) : Bool := mayPB p && (mayB x d && decide (x.length = p.costs.length))
/-- Are all numbers 0 or above? -/
def nonneg (l : List Int) : Bool := l.all fun n => decide (0 ≤ n)
/-- Does a point go? -/
def goesB (p : PG) (x : List Int) (d : Int) : Bool := fitsB p x d && (nonneg x && p.rows.all fun r => decide (dot r.1 x ≤ r.2 * d))

/-- What a point is worth: num, den, error. -/
def worN (p : PG) (x : List Int) (d : Int) : Int := if fitsB p x d then frN (dot p.costs x) d else 0
def worD (p : PG) (x : List Int) (d : Int) : Int := if fitsB p x d then ptD [dot p.costs x] d else 0
def worE (p : PG) (x : List Int) (d : Int) : Int := if fitsB p x d then ptE [dot p.costs x] d else 2

theorem dot_take {a b : List Int} {k : Nat} (h : k < a.length) (h' : k < b.length) : dot (a.take (k + 1)) b = dot (a.take k) b + a[k] * b[k] := by
  induction a generalizing b k with
  | nil => simp at h
  | cons x a ih =>
    cases b with
    | nil => simp at h'
    | cons y b =>
      cases k with
      | zero => simp [dot]
      | succ k =>
        simp only [List.take_succ_cons, dot, List.getElem_cons_succ]
        rw [ih (by simpa using h) (by simpa using h')]
        omega
theorem dot_bound {A B : Int} {a b : List Int} (ha : smallB A a = true) (hb : smallB B b = true) (hA : 0 ≤ A) (hB : 0 ≤ B) : -(a.length * (A * B)) ≤ dot a b ∧ dot a b ≤ a.length * (A * B) := by
  have hAB : 0 ≤ A * B := Int.mul_nonneg hA hB
  induction a generalizing b with
  | nil => simp [dot]
  | cons x a ih =>
    cases b with
    | nil =>
      have : (0 : Int) ≤ ((x :: a).length : Int) * (A * B) := Int.mul_nonneg (by omega) hAB
      simp only [dot]; omega
    | cons y b =>
      simp only [dot]
      have hx := smallB_mem ha (n := x) (by simp)
      have hy := smallB_mem hb (n := y) (by simp)
      have h1 := mul_bound x y A B hx.1 hx.2 hy.1 hy.2
      have h2 := ih (b := b) (smallB_iff.2 fun n hn => smallB_mem ha (by simp [hn])) (smallB_iff.2 fun n hn => smallB_mem hb (by simp [hn]))
      have e : ((x :: a).length : Int) * (A * B) = (a.length : Int) * (A * B) + A * B := by
        rw [List.length_cons, Int.natCast_add, Int.add_mul]; simp
      rw [e]
      omega
theorem dot_take_bound {A B : Int} {a b : List Int} (ha : smallB A a = true) (hb : smallB B b = true) (hA : 0 ≤ A) (hB : 0 ≤ B) (k : Nat) : -(a.length * (A * B)) ≤ dot (a.take k) b ∧ dot (a.take k) b ≤ a.length * (A * B) := by
  have h := dot_bound (a := a.take k) (b := b) (A := A) (B := B) (smallB_iff.2 fun n hn => smallB_mem ha (List.mem_of_mem_take hn)) hb hA hB
  have hl : ((a.take k).length : Int) * (A * B) ≤ (a.length : Int) * (A * B) :=
    Int.mul_le_mul_of_nonneg_right (by have := List.length_take_le' k a; omega) (Int.mul_nonneg hA hB)
  omega
theorem all_take {α : Type} {f : α → Bool} {l : List α} {k : Nat} (h : k < l.length) : (l.take (k + 1)).all f = ((l.take k).all f && f l[k]) := by
  rw [List.take_succ_eq_append_getElem h, List.all_append]; simp
theorem all_false {α : Type} {f : α → Bool} {l : List α} {k : Nat} (h : k < l.length) (hn : f l[k] = false) : l.all f = false := by
  rw [List.all_eq_false]; exact ⟨l[k], List.getElem_mem h, by simpa using hn⟩

theorem mayPB_iff {p : PG} : mayPB p = true ↔ 1 ≤ p.costs.length ∧ p.costs.length ≤ 4 ∧ 1 ≤ p.rows.length ∧ p.rows.length ≤ 4 ∧ smallB 400 p.costs = true ∧ p.rows.all (rowB p.costs.length) = true := by
  unfold mayPB; simp only [Bool.and_eq_true, decide_eq_true_eq]
theorem mayPB_row {p : PG} (h : mayPB p = true) {k : Nat} (hk : k < p.rows.length) : p.rows[k].1.length = p.costs.length ∧ (-12 ≤ p.rows[k].2 ∧ p.rows[k].2 ≤ 12) ∧ smallB 12 p.rows[k].1 = true := by
  have h6 := (mayPB_iff.1 h).2.2.2.2.2
  rw [List.all_eq_true] at h6
  have := h6 _ (List.getElem_mem hk)
  unfold rowB at this
  simp only [Bool.and_eq_true, decide_eq_true_eq, smallB_one] at this
  exact ⟨this.1, this.2.1, this.2.2⟩
theorem fitsB_iff {p : PG} {x : List Int} {d : Int} : fitsB p x d = true ↔ mayPB p = true ∧ mayB x d = true ∧ x.length = p.costs.length := by
  unfold fitsB; simp only [Bool.and_eq_true, decide_eq_true_eq]
theorem mayB_parts {l : List Int} {d : Int} (h : mayB l d = true) : 1 ≤ d ∧ d ≤ 1073741824 ∧ smallB 1073741824 l = true ∧ l.length ≤ 8 := by
  simp only [mayB, rightB, Bool.and_eq_true, decide_eq_true_eq] at h
  exact ⟨h.1.1, h.1.2.1, h.1.2.2.1, h.1.2.2.2⟩
end Go.Proofs.Ytjcdkbalhleeeab

/-
  Plain words for chapters 3 (what a column has, is worth) and 4 (what proves an answer). No program in sight.
-/
namespace Go.Proofs.Ytjcdkbalhleeeab

/-- What a column has in a row. -/
def hasZ (p : PG) (i j : Nat) : Int := if j < p.costs.length then ((p.rows.getD i ([], 0)).1.getD j 0) else if j - p.costs.length = i then 1 else 0
/-- What a column is worth. -/
def costZ (p : PG) (j : Nat) : Int := if j < p.costs.length then p.costs.getD j 0 else 0
/-- What a column has in all rows. -/
def colZ (p : PG) (j : Nat) : List Int := (List.range p.rows.length).map fun i => hasZ p i j
def mosts (p : PG) : List Int := p.rows.map fun r => r.2

/-- An answer. -/
structure AN where
  kind : Int
  xs : List Int
  xd : Int
  ys : List Int
  yd : Int
  rs : List Int
  rd : Int
  wn : Int
  wd : Int

def emptyB (l : List Int) (d : Int) : Bool := decide (l.length = 0) && decide (d = 0)
def aboveB (l : List Int) (d : Int) (n : Nat) : Bool := mayB l d && (decide (l.length = n) && nonneg l)
def coversB (p : PG) (ys : List Int) (t : Int) : Bool := (List.range p.costs.length).all fun j => decide (costZ p j * t ≤ dot (colZ p j) ys)
def bestB (p : PG) (a : AN) : Bool :=
  emptyB a.rs a.rd && (goesB p a.xs a.xd && (aboveB a.ys a.yd p.rows.length && (coversB p a.ys a.yd &&
    (decide (worE p a.xs a.xd = 0) && (decide (ptE [dot (mosts p) a.ys] a.yd = 0) && ((decide (worN p a.xs a.xd = a.wn) && decide (worD p a.xs a.xd = a.wd)) && (decide (frN (dot (mosts p) a.ys) a.yd = worN p a.xs a.xd) && decide (ptD [dot (mosts p) a.ys] a.yd = worD p a.xs a.xd))))))))
def endlessB (p : PG) (a : AN) : Bool :=
  emptyB a.ys a.yd && ((decide (a.wn = 0) && decide (a.wd = 0)) && (goesB p a.xs a.xd && (aboveB a.rs a.rd p.costs.length && (decide (a.rd = 1) &&
    (p.rows.all (fun r => decide (dot r.1 a.rs ≤ 0)) && decide (0 < dot p.costs a.rs))))))
def nothingB (p : PG) (a : AN) : Bool :=
  emptyB a.xs a.xd && (emptyB a.rs a.rd && ((decide (a.wn = 0) && decide (a.wd = 0)) && (aboveB a.ys a.yd p.rows.length && (decide (a.yd = 1) && (coversB p a.ys 0 && decide (dot (mosts p) a.ys < 0))))))
def holdsB (p : PG) (a : AN) : Bool :=
  mayPB p && (if a.kind = 1 then bestB p a else if a.kind = 2 then endlessB p a else if a.kind = 3 then nothingB p a else false)

theorem length_colZ (p : PG) (j : Nat) : (colZ p j).length = p.rows.length := by simp [colZ]
theorem length_mosts (p : PG) : (mosts p).length = p.rows.length := by simp [mosts]
theorem hasZ_var {p : PG} {i j : Nat} (hi : i < p.rows.length) (hj : j < p.costs.length) : hasZ p i j = (p.rows[i]).1.getD j 0 := by
  simp [hasZ, hj, List.getD, List.getElem?_eq_getElem hi]
theorem hasZ_bound {p : PG} (hp : mayPB p = true) (i j : Nat) : -12 ≤ hasZ p i j ∧ hasZ p i j ≤ 12 := by
  unfold hasZ
  split
  · rename_i hj
    by_cases hi : i < p.rows.length
    · obtain ⟨hl, _, hs⟩ := mayPB_row hp hi
      have hj' : j < (p.rows[i]).1.length := by omega
      have := smallB_at hs hj'
      simpa [List.getD, List.getElem?_eq_getElem hi, List.getElem?_eq_getElem hj'] using this
    · have : p.rows[i]? = none := List.getElem?_eq_none (by omega)
      simp [List.getD, this]
  · split <;> omega
theorem costZ_bound {p : PG} (hp : mayPB p = true) (j : Nat) : -400 ≤ costZ p j ∧ costZ p j ≤ 400 := by
  unfold costZ
  split
  · rename_i hj
    have := smallB_at (mayPB_iff.1 hp).2.2.2.2.1 hj
    simpa [List.getD, List.getElem?_eq_getElem hj] using this
  · omega
theorem colZ_small {p : PG} (hp : mayPB p = true) (j : Nat) : smallB 12 (colZ p j) = true := by
  rw [smallB_iff]; intro n hn
  simp only [colZ, List.mem_map] at hn
  obtain ⟨i, _, rfl⟩ := hn
  exact hasZ_bound hp i j
theorem mosts_small {p : PG} (hp : mayPB p = true) : smallB 12 (mosts p) = true := by
  rw [smallB_iff]; intro n hn
  simp only [mosts, List.mem_map] at hn
  obtain ⟨r, hr, rfl⟩ := hn
  obtain ⟨i, hi, rfl⟩ := List.mem_iff_getElem.1 hr
  exact (mayPB_row hp hi).2.1
theorem aboveB_iff {l : List Int} {d : Int} {n : Nat} : aboveB l d n = true ↔ mayB l d = true ∧ l.length = n ∧ nonneg l = true := by
  unfold aboveB; simp only [Bool.and_eq_true, decide_eq_true_eq]
end Go.Proofs.Ytjcdkbalhleeeab

/-
  Plain words: sums of whole numbers, and what lists come to, each number times another one. No program in sight.
-/
namespace Go.Proofs.Ytjcdkbalhleeeab

/-- The sum of f 0 .. f (n-1). -/
def sumN (f : Nat → Int) : Nat → Int
  | 0 => 0
  | n + 1 => sumN f n + f n

theorem sumN_congr {f g : Nat → Int} : ∀ {n : Nat}, (∀ i, i < n → f i = g i) → sumN f n = sumN g n
  | 0, _ => rfl
  | n + 1, h => by rw [sumN, sumN, sumN_congr fun i hi => h i (by omega), h n (by omega)]
theorem sumN_le {f g : Nat → Int} : ∀ {n : Nat}, (∀ i, i < n → f i ≤ g i) → sumN f n ≤ sumN g n
  | 0, _ => by simp [sumN]
  | n + 1, h => by
    rw [sumN, sumN]
    have := sumN_le (n := n) fun i hi => h i (by omega)
    have := h n (by omega)
    omega
theorem sumN_add {f g : Nat → Int} : ∀ {n : Nat}, sumN (fun i => f i + g i) n = sumN f n + sumN g n
  | 0 => rfl
  | n + 1 => by rw [sumN, sumN, sumN, sumN_add]; omega
theorem sumN_mul {f : Nat → Int} {c : Int} : ∀ {n : Nat}, sumN (fun i => c * f i) n = c * sumN f n
  | 0 => by simp [sumN]
  | n + 1 => by rw [sumN, sumN, sumN_mul, Int.mul_add]
theorem sumN_mul' {f : Nat → Int} {c : Int} : ∀ {n : Nat}, sumN (fun i => f i * c) n = sumN f n * c
  | 0 => by simp [sumN]
  | n + 1 => by rw [sumN, sumN, sumN_mul', Int.add_mul]
theorem sumN_zero : ∀ {n : Nat}, sumN (fun _ => 0) n = 0
  | 0 => rfl
  | n + 1 => by rw [sumN, sumN_zero]; rfl
theorem sumN_neg {f : Nat → Int} : ∀ {n : Nat}, sumN (fun i => -f i) n = -sumN f n
  | 0 => rfl
  | n + 1 => by rw [sumN, sumN, sumN_neg]; omega
theorem sumN_sub {f g : Nat → Int} : ∀ {n : Nat}, sumN (fun i => f i - g i) n = sumN f n - sumN g n
  | 0 => rfl
  | n + 1 => by rw [sumN, sumN, sumN, sumN_sub]; omega
theorem sumN_comm {f : Nat → Nat → Int} {m : Nat} : ∀ {n : Nat}, sumN (fun i => sumN (fun j => f i j) m) n = sumN (fun j => sumN (fun i => f i j) n) m
  | 0 => by simp only [sumN]; exact sumN_zero.symm
  | n + 1 => by simp only [sumN]; rw [sumN_comm, sumN_add]
theorem sumN_split {f : Nat → Int} {a : Nat} : ∀ {b : Nat}, sumN f (a + b) = sumN f a + sumN (fun i => f (a + i)) b
  | 0 => by simp [sumN]
  | b + 1 => by rw [← Nat.add_assoc, sumN, sumN, sumN_split]; omega

theorem dot_sum {a b : List Int} {n : Nat} (ha : a.length = n) (hb : b.length = n) : dot a b = sumN (fun k => a.getD k 0 * b.getD k 0) n := by
  have h : ∀ k, k ≤ n → dot (a.take k) b = sumN (fun k => a.getD k 0 * b.getD k 0) k := by
    intro k
    induction k with
    | zero => intro _; simp [dot, sumN]
    | succ k ih =>
      intro hk
      have h1 : k < a.length := by omega
      have h2 : k < b.length := by omega
      rw [dot_take h1 h2, ih (by omega), sumN]
      simp [List.getD, List.getElem?_eq_getElem h1, List.getElem?_eq_getElem h2]
  have := h n (Nat.le_refl _)
  rwa [List.take_of_length_le (by omega)] at this
theorem getD_map_range {f : Nat → Int} {n k : Nat} (h : k < n) : ((List.range n).map f).getD k 0 = f k := by
  simp [List.getD, h]
theorem nonneg_at {l : List Int} (h : nonneg l = true) (k : Nat) : 0 ≤ l.getD k 0 := by
  unfold nonneg at h
  rw [List.all_eq_true] at h
  by_cases hk : k < l.length
  · have := h l[k] (List.getElem_mem hk)
    simpa [List.getD, List.getElem?_eq_getElem hk] using this
  · simp [List.getD, List.getElem?_eq_none (Nat.le_of_not_lt hk)]
theorem getD_mosts {p : PG} {i : Nat} : (mosts p).getD i 0 = (p.rows.getD i ([], 0)).2 := by
  unfold mosts
  by_cases h : i < p.rows.length
  · simp [List.getD, List.getElem?_eq_getElem h]
  · simp [List.getD, List.getElem?_eq_none (Nat.le_of_not_lt h)]
/-- What the variables have in a row, as a sum. -/
theorem dot_row {p : PG} {i : Nat} (hp : mayPB p = true) (hi : i < p.rows.length) {x : List Int} (hx : x.length = p.costs.length) :
    dot (p.rows[i]).1 x = sumN (fun j => hasZ p i j * x.getD j 0) p.costs.length := by
  obtain ⟨h1, _, _⟩ := mayPB_row hp hi
  rw [dot_sum h1 hx]
  exact sumN_congr fun j hj => by rw [hasZ_var hi hj]
theorem dot_col {p : PG} {j : Nat} {y : List Int} (hy : y.length = p.rows.length) :
    dot (colZ p j) y = sumN (fun i => hasZ p i j * y.getD i 0) p.rows.length := by
  rw [dot_sum (length_colZ p j) hy]
  exact sumN_congr fun i hi => by unfold colZ; rw [getD_map_range hi]
end Go.Proofs.Ytjcdkbalhleeeab

/-
  Plain words: the determinant by the first row's numbers, and what holds of it for up to four rows. No program in sight.
-/
namespace Go.Proofs.Ytjcdkbalhleeeab

/-- The determinant of some rows and columns, by the first row's numbers. s is the sign of the next one. -/
def dtGo (A : Nat → Int) (rest : List Nat → Int) (pre : List Nat) (s : Int) : List Nat → Int
  | [] => 0
  | c :: cs => s * A c * rest (pre ++ cs) + dtGo A rest (pre ++ [c]) (-s) cs
def dt (A : Nat → Nat → Int) : List Nat → List Nat → Int
  | [], _ => 1
  | r :: rs, cs => dtGo (A r) (dt A rs) [] 1 cs

theorem dt2 (A : Nat → Nat → Int) (r0 r1 c0 c1 : Nat) : dt A [r0, r1] [c0, c1] = A r0 c0 * A r1 c1 - A r0 c1 * A r1 c0 := by
  simp [dt, dtGo]; grind
theorem dt1 (A : Nat → Nat → Int) (r0 c0 : Nat) : dt A [r0] [c0] = A r0 c0 := by
  simp [dt, dtGo]
theorem dt3 (A : Nat → Nat → Int) (r0 r1 r2 c0 c1 c2 : Nat) : dt A [r0, r1, r2] [c0, c1, c2] =
    A r0 c0 * (A r1 c1 * A r2 c2 - A r1 c2 * A r2 c1) - A r0 c1 * (A r1 c0 * A r2 c2 - A r1 c2 * A r2 c0) + A r0 c2 * (A r1 c0 * A r2 c1 - A r1 c1 * A r2 c0) := by
  simp [dt, dtGo]; grind
theorem dt4 (A : Nat → Nat → Int) (r0 r1 r2 r3 c0 c1 c2 c3 : Nat) : dt A [r0, r1, r2, r3] [c0, c1, c2, c3] =
    A r0 c0 * dt A [r1, r2, r3] [c1, c2, c3] - A r0 c1 * dt A [r1, r2, r3] [c0, c2, c3] + A r0 c2 * dt A [r1, r2, r3] [c0, c1, c3] - A r0 c3 * dt A [r1, r2, r3] [c0, c1, c2] := by
  rw [dt]; simp [dtGo]; grind

/-- What stands at a place behind k steps. -/
def ent (A : Nat → Nat → Int) (k i j : Nat) : Int :=
  if i < k then dt A (List.range k) ((List.range k).set i j) else dt A (List.range k ++ [i]) (List.range k ++ [j])
def lst (A : Nat → Nat → Int) (k : Nat) : Int := dt A (List.range k) (List.range k)

theorem ent_zero (A : Nat → Nat → Int) (i j : Nat) : ent A 0 i j = A i j := by simp [ent, dt1]
theorem lst_zero (A : Nat → Nat → Int) : lst A 0 = 1 := rfl

theorem range1 : List.range 1 = [0] := rfl
theorem range2 : List.range 2 = [0, 1] := rfl
theorem range3 : List.range 3 = [0, 1, 2] := rfl
theorem range4 : List.range 4 = [0, 1, 2, 3] := rfl

theorem lst_ent (A : Nat → Nat → Int) (k : Nat) : lst A (k + 1) = ent A k k k := by
  unfold lst ent
  rw [if_neg (by omega), List.range_succ]
theorem ent_pivot (A : Nat → Nat → Int) (k j : Nat) : ent A (k + 1) k j = ent A k k j := by
  unfold ent
  rw [if_pos (by omega), if_neg (by omega), List.range_succ]
  congr 1
  simp

set_option maxHeartbeats 2000000 in
/-- One step, each row but the pivot's. -/
theorem ent_step (A : Nat → Nat → Int) {k i : Nat} (j : Nat) (hk : k < 4) (hi : i < 4) (hne : i ≠ k) :
    ent A k i j * ent A k k k - ent A k i k * ent A k k j = lst A k * ent A (k + 1) i j := by
  rcases (show k = 0 ∨ k = 1 ∨ k = 2 ∨ k = 3 by omega) with rfl | rfl | rfl | rfl
  · simp only [ent, lst, range1, List.range_zero, List.nil_append, dt1, show ¬ i < 0 by omega, show ¬ (0 : Nat) < 0 by omega, show ¬ i < 0 + 1 by omega, if_false, dt, Nat.zero_add, List.cons_append, dt2]
    grind
  · rcases (show i = 0 ∨ i ≥ 2 by omega) with rfl | hi'
    · simp [ent, lst, range2, dt1, dt2]
      grind
    · simp [ent, lst, range2, dt1, dt2, dt3, show i ≠ 0 by omega, show ¬ i < 2 by omega]
      grind
  · rcases (show i = 0 ∨ i = 1 ∨ i = 3 by omega) with rfl | rfl | rfl
    · simp [ent, lst, range2, range3, dt2, dt3]
      grind
    · simp [ent, lst, range2, range3, dt2, dt3]
      grind
    · simp [ent, lst, range2, range3, dt2, dt3, dt4]
      grind
  · rcases (show i = 0 ∨ i = 1 ∨ i = 2 by omega) with rfl | rfl | rfl
    · simp [ent, lst, range3, range4, dt3, dt4]
      grind
    · simp [ent, lst, range3, range4, dt3, dt4]
      grind
    · simp [ent, lst, range3, range4, dt3, dt4]
      grind
end Go.Proofs.Ytjcdkbalhleeeab

/-
  Plain laws of the determinant of up to four rows: no pivot, rows changed, rows for columns, Cramer's rule, bounds. No program in sight.
-/
namespace Go.Proofs.Ytjcdkbalhleeeab

/-- The determinant of the first m rows and columns, and with one column in the place of another one. -/
def dtm (A : Nat → Nat → Int) (m : Nat) : Int := dt A (List.range m) (List.range m)
def dtp (A : Nat → Nat → Int) (m i j : Nat) : Int := dt A (List.range m) ((List.range m).set i j)

theorem lst_dtm (A : Nat → Nat → Int) (m : Nat) : lst A m = dtm A m := rfl
theorem ent_dtp (A : Nat → Nat → Int) {m i : Nat} (j : Nat) (h : i < m) : ent A m i j = dtp A m i j := by unfold ent; rw [if_pos h]; rfl

set_option maxHeartbeats 1000000 in
theorem no_pivot (A : Nat → Nat → Int) {m k : Nat} (hm : m ≤ 4) (hk : k < m) (hl : lst A k ≠ 0) (h : ∀ i, k ≤ i → i < m → ent A k i k = 0) : dtm A m = 0 := by
  unfold dtm
  rcases (show m = 1 ∨ m = 2 ∨ m = 3 ∨ m = 4 by omega) with rfl | rfl | rfl | rfl
  · obtain rfl : k = 0 := by omega
    have := h 0 (by omega) (by omega)
    simp [ent, dt1] at this
    rw [range1, dt1, this]
  · rcases (show k = 0 ∨ k = 1 by omega) with rfl | rfl
    · have h0 := h 0 (by omega) (by omega)
      have h1 := h 1 (by omega) (by omega)
      simp [ent, dt1] at h0 h1
      rw [range2, dt2, h0, h1]; simp
    · have h1 := h 1 (by omega) (by omega)
      simpa [ent, range2] using h1
  · rcases (show k = 0 ∨ k = 1 ∨ k = 2 by omega) with rfl | rfl | rfl
    · have h0 := h 0 (by omega) (by omega)
      have h1 := h 1 (by omega) (by omega)
      have h2 := h 2 (by omega) (by omega)
      simp [ent, dt1] at h0 h1 h2
      rw [range3, dt3, h0, h1, h2]; simp
    · have h1 := h 1 (by omega) (by omega)
      have h2 := h 2 (by omega) (by omega)
      simp [ent, lst, dt1, dt2] at h1 h2 hl
      have e : A 0 0 * dt A [0, 1, 2] [0, 1, 2] = (A 0 0 * A 1 1 - A 0 1 * A 1 0) * (A 0 0 * A 2 2 - A 0 2 * A 2 0) - (A 0 0 * A 2 1 - A 0 1 * A 2 0) * (A 0 0 * A 1 2 - A 0 2 * A 1 0) := by rw [dt3]; grind
      rw [h1, h2] at e
      simp at e
      rw [range3]
      rcases Int.mul_eq_zero.1 e with e | e
      · exact absurd e hl
      · exact e
    · have h2 := h 2 (by omega) (by omega)
      simpa [ent, range3, range2] using h2
  · rcases (show k = 0 ∨ k = 1 ∨ k = 2 ∨ k = 3 by omega) with rfl | rfl | rfl | rfl
    · have h0 := h 0 (by omega) (by omega)
      have h1 := h 1 (by omega) (by omega)
      have h2 := h 2 (by omega) (by omega)
      have h3 := h 3 (by omega) (by omega)
      simp [ent, dt1] at h0 h1 h2 h3
      rw [range4, dt4]
      simp only [dt3, h0, h1, h2, h3]
      grind
    · have h1 := h 1 (by omega) (by omega)
      have h2 := h 2 (by omega) (by omega)
      have h3 := h 3 (by omega) (by omega)
      simp [ent, lst, dt1, dt2] at h1 h2 h3 hl
      have e : A 0 0 * dt A [0, 1, 2, 3] [0, 1, 2, 3] =
          (A 0 0 * A 1 1 - A 0 1 * A 1 0) * dt A [0, 2, 3] [0, 2, 3] - (A 0 0 * A 2 1 - A 0 1 * A 2 0) * dt A [0, 1, 3] [0, 2, 3] + (A 0 0 * A 3 1 - A 0 1 * A 3 0) * dt A [0, 1, 2] [0, 2, 3] := by
        rw [dt4]; simp only [dt3]; grind
      rw [h1, h2, h3] at e
      simp at e
      rw [range4]
      rcases Int.mul_eq_zero.1 e with e | e
      · exact absurd e hl
      · exact e
    · have h2 := h 2 (by omega) (by omega)
      have h3 := h 3 (by omega) (by omega)
      simp [ent, lst, range2] at h2 h3 hl
      have e : dt A [0, 1] [0, 1] * dt A [0, 1, 2, 3] [0, 1, 2, 3] = dt A [0, 1, 2] [0, 1, 2] * dt A [0, 1, 3] [0, 1, 3] - dt A [0, 1, 3] [0, 1, 2] * dt A [0, 1, 2] [0, 1, 3] := by
        rw [dt4]; simp only [dt3, dt2]; grind
      rw [h2, h3] at e
      simp at e
      rw [range4]
      rcases Int.mul_eq_zero.1 e with e | e
      · exact absurd e hl
      · exact e
    · have h3 := h 3 (by omega) (by omega)
      simpa [ent, range3, range4] using h3

/-- Two rows changed. -/
def sw (k a i : Nat) : Nat := if i = k then a else if i = a then k else i
def swA (A : Nat → Nat → Int) (k a : Nat) : Nat → Nat → Int := fun i j => A (sw k a i) j

theorem dt_congr {A B : Nat → Nat → Int} : ∀ {rs : List Nat} (cs : List Nat), (∀ r ∈ rs, A r = B r) → dt A rs cs = dt B rs cs
  | [], _, _ => rfl
  | r :: rs, cs, h => by
    rw [dt, dt, h r (by simp)]
    have : dt A rs = dt B rs := funext fun cs => dt_congr cs fun r hr => h r (by simp [hr])
    rw [this]
theorem dtGo_ext {A : Nat → Int} {f g : List Nat → Int} (h : ∀ l, f l = g l) : ∀ (pre : List Nat) (s : Int) (cs : List Nat), dtGo A f pre s cs = dtGo A g pre s cs := by
  have : f = g := funext h
  subst this
  intros; rfl
theorem dt_rows {A : Nat → Nat → Int} {f : Nat → Nat} : ∀ {rs : List Nat} (cs : List Nat), dt (fun i j => A (f i) j) rs cs = dt A (rs.map f) cs
  | [], _ => rfl
  | r :: rs, cs => by
    rw [List.map_cons, dt, dt]
    exact dtGo_ext (fun l => dt_rows l) _ _ _
theorem ent_swap (A : Nat → Nat → Int) {k a i j : Nat} (ha : k ≤ a) (hi : k ≤ i) : ent (swA A k a) k i j = ent A k (sw k a i) j := by
  have hs : ¬ sw k a i < k := by unfold sw; split; omega; split <;> omega
  unfold ent
  rw [if_neg (by omega), if_neg hs]
  unfold swA
  rw [dt_rows, List.map_append]
  congr 1
  have : (List.range k).map (sw k a) = List.range k := by
    conv => rhs; rw [← List.map_id (List.range k)]
    apply List.map_congr_left
    intro x hx
    have : x < k := by simpa using hx
    unfold sw; simp; split; omega; split; omega; rfl
  rw [this]; rfl
theorem ent_swap_up (A : Nat → Nat → Int) {k a i j : Nat} (ha : k ≤ a) (hi : i < k) : ent (swA A k a) k i j = ent A k i j := by
  unfold ent
  rw [if_pos hi, if_pos hi]
  unfold swA
  rw [dt_rows]
  congr 1
  conv => rhs; rw [← List.map_id (List.range k)]
  apply List.map_congr_left
  intro x hx
  have : x < k := by simpa using hx
  unfold sw; simp; split; omega; split; omega; rfl
theorem lst_swap (A : Nat → Nat → Int) {k a : Nat} (ha : k ≤ a) : lst (swA A k a) k = lst A k := by
  unfold lst swA
  rw [dt_rows]
  congr 1
  conv => rhs; rw [← List.map_id (List.range k)]
  apply List.map_congr_left
  intro x hx
  have : x < k := by simpa using hx
  unfold sw; simp; split; omega; split; omega; rfl

theorem list_len2 {l : List Nat} (h : l.length = 2) : ∃ a b, l = [a, b] := by
  obtain _ | ⟨a, _ | ⟨b, _ | ⟨c, l⟩⟩⟩ := l <;> simp at h; exact ⟨a, b, rfl⟩
theorem list_len3 {l : List Nat} (h : l.length = 3) : ∃ a b c, l = [a, b, c] := by
  obtain _ | ⟨a, _ | ⟨b, _ | ⟨c, _ | ⟨d, l⟩⟩⟩⟩ := l <;> simp at h; exact ⟨a, b, c, rfl⟩
theorem list_len4 {l : List Nat} (h : l.length = 4) : ∃ a b c d, l = [a, b, c, d] := by
  obtain _ | ⟨a, _ | ⟨b, _ | ⟨c, _ | ⟨d, _ | ⟨e, l⟩⟩⟩⟩⟩ := l <;> simp at h; exact ⟨a, b, c, d, rfl⟩

set_option maxHeartbeats 1000000 in
theorem dt_swap (A : Nat → Nat → Int) {m k a : Nat} (hm : m ≤ 4) (hk : k < a) (ha : a < m) {cs : List Nat} (hc : cs.length = m) : dt (swA A k a) (List.range m) cs = -dt A (List.range m) cs := by
  unfold swA
  rw [dt_rows]
  rcases (show m = 2 ∨ m = 3 ∨ m = 4 by omega) with rfl | rfl | rfl
  · obtain ⟨c0, c1, rfl⟩ := list_len2 hc
    obtain ⟨rfl, rfl⟩ : k = 0 ∧ a = 1 := by omega
    simp [range2, sw, dt2]; grind
  · obtain ⟨c0, c1, c2, rfl⟩ := list_len3 hc
    rcases (show (k = 0 ∧ a = 1) ∨ (k = 0 ∧ a = 2) ∨ (k = 1 ∧ a = 2) by omega) with ⟨rfl, rfl⟩ | ⟨rfl, rfl⟩ | ⟨rfl, rfl⟩ <;> (simp [range3, sw, dt3]; grind)
  · obtain ⟨c0, c1, c2, c3, rfl⟩ := list_len4 hc
    rcases (show (k = 0 ∧ a = 1) ∨ (k = 0 ∧ a = 2) ∨ (k = 0 ∧ a = 3) ∨ (k = 1 ∧ a = 2) ∨ (k = 1 ∧ a = 3) ∨ (k = 2 ∧ a = 3) by omega) with ⟨rfl, rfl⟩ | ⟨rfl, rfl⟩ | ⟨rfl, rfl⟩ | ⟨rfl, rfl⟩ | ⟨rfl, rfl⟩ | ⟨rfl, rfl⟩ <;> (simp [range4, sw, dt4, dt3]; grind)

set_option maxHeartbeats 1000000 in
/-- Rows for columns. -/
theorem dt_flip (A : Nat → Nat → Int) {m : Nat} (hm : m ≤ 4) : dtm (fun i j => A j i) m = dtm A m := by
  unfold dtm
  rcases (show m = 0 ∨ m = 1 ∨ m = 2 ∨ m = 3 ∨ m = 4 by omega) with rfl | rfl | rfl | rfl | rfl
  · rfl
  · simp [dt1]
  · simp [range2, dt2]; grind
  · simp [range3, dt3]; grind
  · simp [range4, dt4, dt3]; grind

set_option maxHeartbeats 1000000 in
/-- Cramer's rule. -/
theorem cramer (A : Nat → Nat → Int) {m i : Nat} (j : Nat) (hm : m ≤ 4) (hi : i < m) : sumN (fun k => A i k * dtp A m k j) m = A i j * dtm A m := by
  unfold dtm dtp
  rcases (show m = 1 ∨ m = 2 ∨ m = 3 ∨ m = 4 by omega) with rfl | rfl | rfl | rfl
  · obtain rfl : i = 0 := by omega
    simp [sumN, dt1]; grind
  · rcases (show i = 0 ∨ i = 1 by omega) with rfl | rfl <;> (simp [sumN, range2, dt2]; grind)
  · rcases (show i = 0 ∨ i = 1 ∨ i = 2 by omega) with rfl | rfl | rfl <;> (simp [sumN, range3, dt3]; grind)
  · rcases (show i = 0 ∨ i = 1 ∨ i = 2 ∨ i = 3 by omega) with rfl | rfl | rfl | rfl <;> (simp [sumN, range4, dt4, dt3]; grind)
end Go.Proofs.Ytjcdkbalhleeeab

/-
  Plain words for chapter 3: what columns come to; bounds. No program in sight.
-/
namespace Go.Proofs.Ytjcdkbalhleeeab

/-- Numbers within a bound that the column gives. -/
def Within (A : Nat → Nat → Int) (b : Nat → Int) : Prop := ∀ i c, (-b c ≤ A i c ∧ A i c ≤ b c) ∧ 0 ≤ b c

theorem mul_within {x y B C : Int} (hx : -B ≤ x ∧ x ≤ B) (hy : -C ≤ y ∧ y ≤ C) : -(B * C) ≤ x * y ∧ x * y ≤ B * C := mul_bound x y B C hx.1 hx.2 hy.1 hy.2
theorem dt2_within {A : Nat → Nat → Int} {b : Nat → Int} (h : Within A b) (r0 r1 c0 c1 : Nat) : -(2 * (b c0 * b c1)) ≤ dt A [r0, r1] [c0, c1] ∧ dt A [r0, r1] [c0, c1] ≤ 2 * (b c0 * b c1) := by
  rw [dt2]
  have h1 := mul_within (h r0 c0).1 (h r1 c1).1
  have h2 := mul_within (h r0 c1).1 (h r1 c0).1
  rw [Int.mul_comm (b c1) (b c0)] at h2
  omega
theorem dt3_by (A : Nat → Nat → Int) (r0 r1 r2 c0 c1 c2 : Nat) : dt A [r0, r1, r2] [c0, c1, c2] =
    A r0 c0 * dt A [r1, r2] [c1, c2] - A r0 c1 * dt A [r1, r2] [c0, c2] + A r0 c2 * dt A [r1, r2] [c0, c1] := by rw [dt3, dt2, dt2, dt2]
theorem dt3_within {A : Nat → Nat → Int} {b : Nat → Int} (h : Within A b) (r0 r1 r2 c0 c1 c2 : Nat) :
    -(6 * (b c0 * (b c1 * b c2))) ≤ dt A [r0, r1, r2] [c0, c1, c2] ∧ dt A [r0, r1, r2] [c0, c1, c2] ≤ 6 * (b c0 * (b c1 * b c2)) := by
  rw [dt3_by]
  have h1 := mul_within (h r0 c0).1 (dt2_within h r1 r2 c1 c2)
  have h2 := mul_within (h r0 c1).1 (dt2_within h r1 r2 c0 c2)
  have h3 := mul_within (h r0 c2).1 (dt2_within h r1 r2 c0 c1)
  rw [show b c0 * (2 * (b c1 * b c2)) = 2 * (b c0 * (b c1 * b c2)) by ac_rfl] at h1
  rw [show b c1 * (2 * (b c0 * b c2)) = 2 * (b c0 * (b c1 * b c2)) by ac_rfl] at h2
  rw [show b c2 * (2 * (b c0 * b c1)) = 2 * (b c0 * (b c1 * b c2)) by ac_rfl] at h3
  omega
theorem dt4_within {A : Nat → Nat → Int} {b : Nat → Int} (h : Within A b) (r0 r1 r2 r3 c0 c1 c2 c3 : Nat) :
    -(24 * (b c0 * (b c1 * (b c2 * b c3)))) ≤ dt A [r0, r1, r2, r3] [c0, c1, c2, c3] ∧ dt A [r0, r1, r2, r3] [c0, c1, c2, c3] ≤ 24 * (b c0 * (b c1 * (b c2 * b c3))) := by
  rw [dt4]
  have h1 := mul_within (h r0 c0).1 (dt3_within h r1 r2 r3 c1 c2 c3)
  have h2 := mul_within (h r0 c1).1 (dt3_within h r1 r2 r3 c0 c2 c3)
  have h3 := mul_within (h r0 c2).1 (dt3_within h r1 r2 r3 c0 c1 c3)
  have h4 := mul_within (h r0 c3).1 (dt3_within h r1 r2 r3 c0 c1 c2)
  rw [show b c0 * (6 * (b c1 * (b c2 * b c3))) = 6 * (b c0 * (b c1 * (b c2 * b c3))) by ac_rfl] at h1
  rw [show b c1 * (6 * (b c0 * (b c2 * b c3))) = 6 * (b c0 * (b c1 * (b c2 * b c3))) by ac_rfl] at h2
  rw [show b c2 * (6 * (b c0 * (b c1 * b c3))) = 6 * (b c0 * (b c1 * (b c2 * b c3))) by ac_rfl] at h3
  rw [show b c3 * (6 * (b c0 * (b c1 * b c2))) = 6 * (b c0 * (b c1 * (b c2 * b c3))) by ac_rfl] at h4
  omega

/-- Entries up to 12, and up to 400 in the last column. -/
def Small (A : Nat → Nat → Int) (m : Nat) : Prop := ∀ i j, (-400 ≤ A i j ∧ A i j ≤ 400) ∧ (j < m → -12 ≤ A i j ∧ A i j ≤ 12)
theorem Small.swA {A : Nat → Nat → Int} {m : Nat} (h : Small A m) (k a : Nat) : Small (swA A k a) m := fun i j => h (sw k a i) j
theorem Small.within {A : Nat → Nat → Int} {m k : Nat} (h : Small A m) (hk : k ≤ m) : Within A (fun c => if c < k then 12 else 400) := fun i c => by
  have := h i c
  by_cases hc : c < k
  · simp only [hc, if_true]; exact ⟨this.2 (by omega), by omega⟩
  · simp only [hc, if_false]; exact ⟨this.1, by omega⟩

set_option maxHeartbeats 1000000 in
theorem ent_within {A : Nat → Nat → Int} {m k i : Nat} (j : Nat) (h : Small A m) (hm : m ≤ 4) (hk : k ≤ m) (hi : i < m) : -16588800 ≤ ent A k i j ∧ ent A k i j ≤ 16588800 := by
  have hw := h.within hk
  have hb : (if j < k then (12 : Int) else 400) ≤ 400 ∧ 0 ≤ (if j < k then (12 : Int) else 400) := by split <;> omega
  unfold ent
  split
  · rename_i hik
    rcases (show k = 1 ∨ k = 2 ∨ k = 3 ∨ k = 4 by omega) with rfl | rfl | rfl | rfl
    · obtain rfl : i = 0 := by omega
      simp only [range1, List.set, dt1]
      have := (h 0 j).1
      omega
    · rcases (show i = 0 ∨ i = 1 by omega) with rfl | rfl
      · have := dt2_within hw 0 1 j 1
        simp only [range2, List.set]
        simp only [show (1 : Nat) < 2 by omega, if_true] at this
        omega
      · have := dt2_within hw 0 1 0 j
        simp only [range2, List.set]
        simp only [show (0 : Nat) < 2 by omega, if_true] at this
        omega
    · rcases (show i = 0 ∨ i = 1 ∨ i = 2 by omega) with rfl | rfl | rfl
      · have := dt3_within hw 0 1 2 j 1 2
        simp only [range3, List.set]
        simp only [show (1 : Nat) < 3 by omega, show (2 : Nat) < 3 by omega, if_true] at this
        omega
      · have := dt3_within hw 0 1 2 0 j 2
        simp only [range3, List.set]
        simp only [show (0 : Nat) < 3 by omega, show (2 : Nat) < 3 by omega, if_true] at this
        omega
      · have := dt3_within hw 0 1 2 0 1 j
        simp only [range3, List.set]
        simp only [show (0 : Nat) < 3 by omega, show (1 : Nat) < 3 by omega, if_true] at this
        omega
    · rcases (show i = 0 ∨ i = 1 ∨ i = 2 ∨ i = 3 by omega) with rfl | rfl | rfl | rfl
      · have := dt4_within hw 0 1 2 3 j 1 2 3
        simp only [range4, List.set]
        simp only [show (1 : Nat) < 4 by omega, show (2 : Nat) < 4 by omega, show (3 : Nat) < 4 by omega, if_true] at this
        omega
      · have := dt4_within hw 0 1 2 3 0 j 2 3
        simp only [range4, List.set]
        simp only [show (0 : Nat) < 4 by omega, show (2 : Nat) < 4 by omega, show (3 : Nat) < 4 by omega, if_true] at this
        omega
      · have := dt4_within hw 0 1 2 3 0 1 j 3
        simp only [range4, List.set]
        simp only [show (0 : Nat) < 4 by omega, show (1 : Nat) < 4 by omega, show (3 : Nat) < 4 by omega, if_true] at this
        omega
      · have := dt4_within hw 0 1 2 3 0 1 2 j
        simp only [range4, List.set]
        simp only [show (0 : Nat) < 4 by omega, show (1 : Nat) < 4 by omega, show (2 : Nat) < 4 by omega, if_true] at this
        omega
  · rcases (show k = 0 ∨ k = 1 ∨ k = 2 ∨ k = 3 by omega) with rfl | rfl | rfl | rfl
    · simp only [List.range_zero, List.nil_append, dt1]
      have := (h i j).1
      omega
    · have := dt2_within hw 0 i 0 j
      simp only [range1, List.cons_append, List.nil_append]
      simp only [show (0 : Nat) < 1 by omega, if_true] at this
      omega
    · have := dt3_within hw 0 1 i 0 1 j
      simp only [range2, List.cons_append, List.nil_append]
      simp only [show (0 : Nat) < 2 by omega, show (1 : Nat) < 2 by omega, if_true] at this
      omega
    · have := dt4_within hw 0 1 2 i 0 1 2 j
      simp only [range3, List.cons_append, List.nil_append]
      simp only [show (0 : Nat) < 3 by omega, show (1 : Nat) < 3 by omega, show (2 : Nat) < 3 by omega, if_true] at this
      omega
theorem dtp_within {A : Nat → Nat → Int} {m i : Nat} (j : Nat) (h : Small A m) (hm : m ≤ 4) (hi : i < m) : -16588800 ≤ dtp A m i j ∧ dtp A m i j ≤ 16588800 := by
  rw [← ent_dtp A j hi]; exact ent_within j h hm (Nat.le_refl _) hi
theorem dtm_within {A : Nat → Nat → Int} {m : Nat} (h : Small A m) (hm : m ≤ 4) : -497664 ≤ dtm A m ∧ dtm A m ≤ 497664 := by
  have hw := h.within (Nat.le_refl m)
  unfold dtm
  rcases (show m = 0 ∨ m = 1 ∨ m = 2 ∨ m = 3 ∨ m = 4 by omega) with rfl | rfl | rfl | rfl | rfl
  · simp [dt]
  · have := (h 0 0).2 (by omega)
    simp only [range1, dt1]; omega
  · have := dt2_within hw 0 1 0 1
    simp at this
    rw [range2]; omega
  · have := dt3_within hw 0 1 2 0 1 2
    simp at this
    rw [range3]; omega
  · have := dt4_within hw 0 1 2 3 0 1 2 3
    simp at this
    rw [range4]; omega

/-! What columns come to. -/
/-- A corner. -/
structure CO where
  xs : List Int
  xd : Int
  ys : List Int
  yd : Int
  gs : List Int
  gd : Int

/-- The equations of the columns, with what the rows may be at most behind them; and of the rows, with what the columns are worth. -/
def matD (p : PG) (l : List Nat) (i j : Nat) : Int := if j < l.length then hasZ p i (l.getD j 0) else (mosts p).getD i 0
def matU (p : PG) (l : List Nat) (i j : Nat) : Int := if j < l.length then hasZ p j (l.getD i 0) else costZ p (l.getD i 0)
def denZ (p : PG) (l : List Nat) : Int := dtm (matD p l) p.rows.length
def xk (p : PG) (l : List Nat) (k : Nat) : Int := dtp (matD p l) p.rows.length k p.rows.length
def yk (p : PG) (l : List Nat) (k : Nat) : Int := dtp (matU p l) p.rows.length k p.rows.length
/-- Numbers put into their places among N, of the first n of l. -/
def putAll (l : List Nat) (v : Nat → Int) (N n : Nat) : List Int := (List.range n).foldl (fun a k => a.set (l.getD k 0) (v k)) (List.replicate N 0)
def xall (p : PG) (l : List Nat) : List Int := putAll l (xk p l) (p.costs.length + p.rows.length) p.rows.length
def yall (p : PG) (l : List Nat) : List Int := (List.range p.rows.length).map (yk p l)
def gk (p : PG) (l : List Nat) (j n : Nat) : Int := costZ p j * denZ p l - sumN (fun i => yk p l i * hasZ p i j) n
def gall (p : PG) (l : List Nat) : List Int := (List.range (p.costs.length + p.rows.length)).map fun j => gk p l j p.rows.length
/-- Are columns as many as rows, rising, of all columns? -/
def risingB (last : Int) (n : Nat) : List Int → Bool
  | [] => true
  | j :: l => decide (last < j) && (decide (j < n) && risingB j n l)
def rightA (p : PG) (l : List Int) : Bool := decide (l.length = p.rows.length) && risingB (-1) (p.costs.length + p.rows.length) l
def nats (l : List Int) : List Nat := l.map Int.toNat
def lookE (p : PG) (l : List Int) : Int := if mayPB p = false then 2 else if rightA p l = false then 3 else if denZ p (nats l) = 0 then 4 else 0
def lookC (p : PG) (l : List Int) : CO :=
  if lookE p l = 0 then
    ⟨ptN (xall p (nats l)) (denZ p (nats l)), ptD (xall p (nats l)) (denZ p (nats l)), ptN (yall p (nats l)) (denZ p (nats l)), ptD (yall p (nats l)) (denZ p (nats l)), ptN (gall p (nats l)) (denZ p (nats l)), ptD (gall p (nats l)) (denZ p (nats l))⟩
  else ⟨[], 0, [], 0, [], 0⟩

theorem length_putAll (l : List Nat) (v : Nat → Int) (N n : Nat) : (putAll l v N n).length = N := by
  unfold putAll
  induction n with
  | zero => simp
  | succ n ih => rw [List.range_succ, List.foldl_append]; simpa using ih
theorem putAll_succ (l : List Nat) (v : Nat → Int) (N n : Nat) : putAll l v N (n + 1) = (putAll l v N n).set (l.getD n 0) (v n) := by
  unfold putAll; rw [List.range_succ, List.foldl_append]; rfl
theorem gk_succ (p : PG) (l : List Nat) (j n : Nat) : gk p l j (n + 1) = gk p l j n - yk p l n * hasZ p n j := by unfold gk; rw [sumN]; omega
theorem gk_zero (p : PG) (l : List Nat) (j : Nat) : gk p l j 0 = costZ p j * denZ p l := by unfold gk; simp [sumN]

theorem mosts_at_bound {p : PG} (hp : mayPB p = true) (i : Nat) : -12 ≤ (mosts p).getD i 0 ∧ (mosts p).getD i 0 ≤ 12 := by
  by_cases h : i < (mosts p).length
  · have := smallB_at (mosts_small hp) h
    simpa [List.getD, List.getElem?_eq_getElem h] using this
  · simp [List.getD, List.getElem?_eq_none (Nat.le_of_not_lt h)]
theorem matD_small {p : PG} {l : List Nat} (hp : mayPB p = true) : Small (matD p l) l.length := fun i j => by
  unfold matD
  have h1 := hasZ_bound hp i (l.getD j 0)
  have h2 := mosts_at_bound hp i
  by_cases hj : j < l.length
  · rw [if_pos hj]; omega
  · rw [if_neg hj]; omega
theorem matU_small {p : PG} {l : List Nat} (hp : mayPB p = true) : Small (matU p l) l.length := fun i j => by
  unfold matU
  have h1 := hasZ_bound hp j (l.getD i 0)
  have h2 := costZ_bound hp (l.getD i 0)
  by_cases hj : j < l.length
  · rw [if_pos hj]; omega
  · rw [if_neg hj]; omega
theorem dt_congr2 {A B : Nat → Nat → Int} : ∀ {rs cs : List Nat}, (∀ r ∈ rs, ∀ c ∈ cs, A r c = B r c) → dt A rs cs = dt B rs cs
  | [], _, _ => rfl
  | r :: rs, cs, h => by
    rw [dt, dt]
    have gen : ∀ (cs' pre : List Nat) (s : Int), (∀ c ∈ pre ++ cs', c ∈ cs) → dtGo (A r) (dt A rs) pre s cs' = dtGo (B r) (dt B rs) pre s cs' := by
      intro cs'
      induction cs' with
      | nil => intros; rfl
      | cons c cs' ih =>
        intro pre s hm
        rw [dtGo, dtGo, h r (by simp) c (hm c (by simp)), dt_congr2 (A := A) (B := B) (rs := rs) (cs := pre ++ cs') fun r' hr c' hc' => h r' (by simp [hr]) c' (hm c' (by
          rcases List.mem_append.1 hc' with h | h
          · simp [h]
          · simp [h]))]
        rw [ih (pre ++ [c]) (-s) (by simpa using hm)]
    exact gen cs [] 1 (by simp)
/-- Both ways the divisor is one. -/
theorem den_flip {p : PG} {l : List Nat} (hl : l.length = p.rows.length) (h4 : p.rows.length ≤ 4) : dtm (matU p l) p.rows.length = denZ p l := by
  unfold denZ
  rw [← dt_flip (matD p l) h4]
  unfold dtm
  refine dt_congr2 fun r hr c hc => ?_
  have hr' : r < p.rows.length := by simpa using hr
  have hc' : c < p.rows.length := by simpa using hc
  simp only [matU, matD]
  rw [if_pos (by omega), if_pos (by omega)]
theorem den_bound {p : PG} {l : List Nat} (hp : mayPB p = true) (hl : l.length = p.rows.length) : -497664 ≤ denZ p l ∧ denZ p l ≤ 497664 := by
  have h4 := (mayPB_iff.1 hp).2.2.2.1
  unfold denZ
  exact dtm_within (hl ▸ matD_small hp) h4
theorem xk_bound {p : PG} {l : List Nat} (hp : mayPB p = true) (hl : l.length = p.rows.length) {k : Nat} (hk : k < p.rows.length) : -16588800 ≤ xk p l k ∧ xk p l k ≤ 16588800 := by
  have h4 := (mayPB_iff.1 hp).2.2.2.1
  exact dtp_within _ (hl ▸ matD_small hp) h4 hk
theorem yk_bound {p : PG} {l : List Nat} (hp : mayPB p = true) (hl : l.length = p.rows.length) {k : Nat} (hk : k < p.rows.length) : -16588800 ≤ yk p l k ∧ yk p l k ≤ 16588800 := by
  have h4 := (mayPB_iff.1 hp).2.2.2.1
  exact dtp_within _ (hl ▸ matU_small hp) h4 hk
theorem gk_bound {p : PG} {l : List Nat} (hp : mayPB p = true) (hl : l.length = p.rows.length) (j : Nat) {n : Nat} (hn : n ≤ p.rows.length) : -995328000 ≤ gk p l j n ∧ gk p l j n ≤ 995328000 := by
  have h4 := (mayPB_iff.1 hp).2.2.2.1
  have hd := den_bound hp hl
  have hc := costZ_bound hp j
  have h1 := mul_bound (costZ p j) (denZ p l) 400 497664 hc.1 hc.2 hd.1 hd.2
  have h2 : ∀ n, n ≤ p.rows.length → -(n * 199065600 : Int) ≤ sumN (fun i => yk p l i * hasZ p i j) n ∧ sumN (fun i => yk p l i * hasZ p i j) n ≤ n * 199065600 := by
    intro n
    induction n with
    | zero => intro _; simp [sumN]
    | succ n ih =>
      intro hn
      have hy := yk_bound hp hl (k := n) (by omega)
      have hh := hasZ_bound hp n j
      have h3 := mul_bound (yk p l n) (hasZ p n j) 16588800 12 hy.1 hy.2 hh.1 hh.2
      have := ih (by omega)
      rw [sumN]
      push_cast
      omega
  have := h2 n hn
  have hn4 : (n : Int) ≤ 4 := by omega
  unfold gk
  omega
end Go.Proofs.Ytjcdkbalhleeeab

/-
  Plain law for FracMakes: the fraction of twice both, and of both below 0, is the same. No program in sight; the numbers are within 2^32.
-/
namespace Go.Proofs.Ytjcdkbalhleeeab

theorem ptE_of {l : List Int} {d : Int} (h0 : d ≠ 0) (h1 : smallB 4611686018427387904 l = true) (h2 : -4611686018427387904 ≤ d ∧ d ≤ 4611686018427387904) :
    ptE l d = if rightB (divs l (sgcd l d)) (d.tdiv (sgcd l d)) then 0 else 1 := by
  unfold ptE
  rw [if_neg]
  simp [h0, h1, smallB_one, h2.1, h2.2]
theorem frN_eq {n d : Int} (h : ptE [n] d = 0) : frN n d = n.tdiv (sgcd [n] d) := by simp [frN, ptN, h, divs]
theorem ptD_eq {l : List Int} {d : Int} (h : ptE l d = 0) : ptD l d = d.tdiv (sgcd l d) := by simp [ptD, h]
theorem sgcd_dvd {l : List Int} {d : Int} : sgcd l d ∣ d ∧ ∀ n ∈ l, sgcd l d ∣ n := by
  obtain ⟨h1, h2⟩ := comm_dvd d.natAbs l
  have hs : (sgcd l d).natAbs = comm d.natAbs l := by unfold sgcd; split <;> simp
  refine ⟨by rw [← Int.natAbs_dvd_natAbs, hs]; exact h1, fun n hn => ?_⟩
  have := h2 n hn
  rw [Int.ofNat_dvd_left] at this
  rw [← Int.natAbs_dvd_natAbs, hs]; exact this
theorem sgcd_neg {n d : Int} (hd : d ≠ 0) : sgcd [-n] (-d) = -sgcd [n] d := by
  unfold sgcd comm
  simp only [List.foldl, Int.natAbs_neg]
  by_cases h : d < 0
  · rw [if_neg (by omega), if_pos h]; simp
  · rw [if_pos (by omega), if_neg h]
theorem sgcd_two {n d : Int} : sgcd [2 * n] (2 * d) = 2 * sgcd [n] d := by
  unfold sgcd comm
  simp only [List.foldl, Int.natAbs_mul]
  rw [show (2 : Int).natAbs = 2 from rfl, Nat.gcd_mul_left]
  by_cases h : d < 0
  · rw [if_pos (by omega), if_pos h]; simp [Int.mul_neg]
  · rw [if_neg (by omega), if_neg h]; simp
theorem tdiv_two (n g : Int) : (2 * n).tdiv (2 * g) = n.tdiv g := Int.mul_tdiv_mul_of_pos _ _ (by omega)
theorem sgcd_sign {l : List Int} {d : Int} (hd : d ≠ 0) : 0 < d.tdiv (sgcd l d) := by
  have hg := comm_pos d.natAbs l (Int.natAbs_pos.2 hd)
  obtain ⟨k, hk⟩ := (sgcd_dvd (l := l) (d := d)).1
  have h0 := sgcd_ne (l := l) hd
  have e : d.tdiv (sgcd l d) = k := by
    rw [show d.tdiv (sgcd l d) = (sgcd l d * k).tdiv (sgcd l d) by rw [← hk]]; exact Int.mul_tdiv_cancel_left _ h0
  rw [e]
  by_cases h : d < 0
  · have hs : sgcd l d = -(comm d.natAbs l : Int) := by unfold sgcd; rw [if_pos h]
    rw [hs] at hk
    rcases Int.lt_trichotomy k 0 with hk0 | hk0 | hk0
    · have := Int.mul_pos_of_neg_of_neg (show -(comm d.natAbs l : Int) < 0 by omega) hk0
      omega
    · subst hk0; simp at hk; omega
    · exact hk0
  · have hs : sgcd l d = (comm d.natAbs l : Int) := by unfold sgcd; rw [if_neg h]
    rw [hs] at hk
    rcases Int.lt_trichotomy k 0 with hk0 | hk0 | hk0
    · have := Int.mul_neg_of_pos_of_neg (show 0 < (comm d.natAbs l : Int) by omega) hk0
      omega
    · subst hk0; simp at hk; omega
    · exact hk0
/-- The fraction's parts stand to each other as the numbers do. -/
theorem sgcd_cross {n d : Int} (hd : d ≠ 0) : n.tdiv (sgcd [n] d) * d = n * d.tdiv (sgcd [n] d) := by
  have h0 := sgcd_ne (l := [n]) hd
  obtain ⟨⟨k, hk⟩, h2⟩ := sgcd_dvd (l := [n]) (d := d)
  obtain ⟨j, hj⟩ := h2 n (by simp)
  generalize sgcd [n] d = g at *
  subst hk hj
  rw [Int.mul_tdiv_cancel_left _ h0, Int.mul_tdiv_cancel_left _ h0]
  ac_rfl
theorem mayB_pt {l : List Int} {d : Int} (h : ptE l d = 0) : mayB (ptN l d) (ptD l d) = true := by
  have hc : d ≠ 0 ∧ rightB (divs l (sgcd l d)) (d.tdiv (sgcd l d)) = true := by
    unfold ptE at h
    split at h
    · omega
    · rename_i hh
      split at h
      · rename_i hr; exact ⟨fun e => hh (Or.inl e), hr⟩
      · omega
  unfold mayB ptN ptD
  rw [h, if_pos rfl, if_pos rfl, comm_divs l d hc.1, hc.2]
  rfl

structure FracSame (n d n' d' : Int) : Prop where
  he : ptE [n'] d' = ptE [n] d
  hn : frN n' d' = frN n d
  hd : ptD [n'] d' = ptD [n] d
theorem same_of {n d n' d' : Int} (h0 : d ≠ 0) (h0' : d' ≠ 0) (h1 : -4611686018427387904 ≤ n ∧ n ≤ 4611686018427387904) (h1' : -4611686018427387904 ≤ n' ∧ n' ≤ 4611686018427387904)
    (h2 : -4611686018427387904 ≤ d ∧ d ≤ 4611686018427387904) (h2' : -4611686018427387904 ≤ d' ∧ d' ≤ 4611686018427387904)
    (hn : n'.tdiv (sgcd [n'] d') = n.tdiv (sgcd [n] d)) (hd : d'.tdiv (sgcd [n'] d') = d.tdiv (sgcd [n] d)) : FracSame n d n' d' := by
  have he : ptE [n'] d' = ptE [n] d := by
    rw [ptE_of h0 (by rw [smallB_one]; simp [h1]) h2, ptE_of h0' (by rw [smallB_one]; simp [h1']) h2', hd]
    simp [divs, hn]
  refine ⟨he, ?_, ?_⟩
  · unfold frN ptN; rw [he]; simp only [divs, List.map_cons, List.map_nil, hn]
  · unfold ptD; rw [he, hd]
theorem same_two {n d : Int} (h0 : d ≠ 0) (h1 : -2147483648 ≤ n ∧ n ≤ 2147483648) (h2 : -2147483648 ≤ d ∧ d ≤ 2147483648) : FracSame n d (2 * n) (2 * d) :=
  same_of h0 (by omega) (by omega) (by omega) (by omega) (by omega) (by rw [sgcd_two, tdiv_two]) (by rw [sgcd_two, tdiv_two])
theorem same_neg {n d : Int} (h0 : d ≠ 0) (h1 : -2147483648 ≤ n ∧ n ≤ 2147483648) (h2 : -2147483648 ≤ d ∧ d ≤ 2147483648) : FracSame n d (-n) (-d) :=
  same_of h0 (by omega) (by omega) (by omega) (by omega) (by omega) (by rw [sgcd_neg h0, Int.neg_tdiv, Int.tdiv_neg]; omega) (by rw [sgcd_neg h0, Int.neg_tdiv, Int.tdiv_neg]; omega)
theorem ptE_one {n d : Int} (h0 : d ≠ 0) (h1 : -2147483648 ≤ n ∧ n ≤ 2147483648) (h2 : -2147483648 ≤ d ∧ d ≤ 2147483648) (he : ptE [n] d ≠ 0) : ptE [n] d = 1 := by
  rw [ptE_of h0 (by rw [smallB_one]; simp; omega) (by omega)] at he ⊢
  split at he
  · omega
  · rename_i h; rw [if_neg h]
theorem frac_good {n d : Int} (h0 : d ≠ 0) (he : ptE [n] d = 0) :
    frN n d * d = n * ptD [n] d ∧ 0 < ptD [n] d ∧ mayB [frN n d] (ptD [n] d) = true ∧ -1073741824 ≤ frN n d ∧ frN n d ≤ 1073741824 ∧ ptD [n] d ≤ 1073741824 := by
  have hm := mayB_pt he
  have hN : ptN [n] d = [frN n d] := by unfold frN ptN; rw [if_pos he]; simp [divs]
  rw [hN] at hm
  refine ⟨by rw [frN_eq he, ptD_eq he]; exact sgcd_cross h0, by rw [ptD_eq he]; exact sgcd_sign h0, hm, ?_⟩
  simp [mayB, rightB, smallB] at hm
  omega
end Go.Proofs.Ytjcdkbalhleeeab

/-
  Plain laws of corners: the equations hold, gains of a corner's own columns are 0, both worths are one. No program in sight.
-/
namespace Go.Proofs.Ytjcdkbalhleeeab

/-! Columns that are right. -/
theorem rising_parts {last : Int} {n : Nat} {l : List Int} (h : risingB last n l = true) : (∀ j ∈ l, last < j ∧ j < n) ∧ l.Pairwise (· < ·) := by
  induction l generalizing last with
  | nil => simp
  | cons j l ih =>
    simp only [risingB, Bool.and_eq_true, decide_eq_true_eq] at h
    obtain ⟨h1, h2, h3⟩ := h
    obtain ⟨g1, g2⟩ := ih h3
    refine ⟨fun x hx => ?_, List.pairwise_cons.2 ⟨fun x hx => (g1 x hx).1, g2⟩⟩
    rcases List.mem_cons.1 hx with rfl | hx
    · exact ⟨h1, h2⟩
    · have := g1 x hx; omega
structure RightL (p : PG) (l : List Nat) : Prop where
  len : l.length = p.rows.length
  lt : ∀ j ∈ l, j < p.costs.length + p.rows.length
  pw : l.Pairwise (· < ·)
theorem right_nats {p : PG} {l : List Int} (h : rightA p l = true) : RightL p (nats l) ∧ l = (nats l).map Int.ofNat := by
  simp only [rightA, Bool.and_eq_true, decide_eq_true_eq] at h
  obtain ⟨h1, h2⟩ := h
  obtain ⟨g1, g2⟩ := rising_parts h2
  have e : l = (nats l).map Int.ofNat := by
    unfold nats
    rw [List.map_map]
    conv => lhs; rw [← List.map_id l]
    apply List.map_congr_left
    intro x hx
    have := (g1 x hx).1
    simp; omega
  refine ⟨⟨by unfold nats; simpa using h1, ?_, ?_⟩, e⟩
  · intro j hj
    simp only [nats, List.mem_map] at hj
    obtain ⟨x, hx, rfl⟩ := hj
    have := g1 x hx; omega
  · unfold nats
    rw [List.pairwise_map]
    refine List.Pairwise.imp_of_mem ?_ g2
    intro a b ha hb hab
    have := g1 a ha; have := g1 b hb; omega
theorem RightL.at_lt {p : PG} {l : List Nat} (h : RightL p l) {k : Nat} (hk : k < l.length) : l.getD k 0 < p.costs.length + p.rows.length := by
  have := h.lt l[k] (List.getElem_mem hk)
  simpa [List.getD, List.getElem?_eq_getElem hk] using this
theorem RightL.ne {p : PG} {l : List Nat} (h : RightL p l) {i k : Nat} (hi : i < k) (hk : k < l.length) : l.getD i 0 < l.getD k 0 := by
  have := List.pairwise_iff_getElem.1 h.pw i k (by omega) hk hi
  simpa [List.getD, List.getElem?_eq_getElem hk, List.getElem?_eq_getElem (show i < l.length by omega)] using this

/-! Numbers put into places. -/
theorem getD_set {a : List Int} {i j : Nat} {x : Int} (h : i < a.length) : (a.set i x).getD j 0 = if j = i then x else a.getD j 0 := by
  simp only [List.getD, List.getElem?_set]
  by_cases e : i = j
  · subst e; simp [h]
  · rw [if_neg e, if_neg (fun h => e h.symm)]
theorem sumN_set {f : Nat → Int} {a : List Int} {i : Nat} {x : Int} (h : i < a.length) : ∀ n, sumN (fun j => f j * (a.set i x).getD j 0) n = sumN (fun j => f j * a.getD j 0) n + if i < n then f i * (x - a.getD i 0) else 0
  | 0 => by simp [sumN]
  | n + 1 => by
    rw [sumN, sumN, sumN_set h n, getD_set h]
    by_cases e : n = i
    · subst e; rw [if_pos rfl, if_neg (by omega), if_pos (by omega), Int.mul_sub]; omega
    · rw [if_neg e]
      by_cases e' : i < n
      · rw [if_pos e', if_pos (by omega)]; omega
      · rw [if_neg e', if_neg (by omega)]; omega
theorem putAll_zero {l : List Nat} {v : Nat → Int} {N n j : Nat} (h : ∀ k, k < n → l.getD k 0 ≠ j) : (putAll l v N n).getD j 0 = 0 := by
  induction n with
  | zero => simp [putAll, List.getD, List.getElem?_replicate]; split <;> rfl
  | succ n ih =>
    rw [putAll_succ]
    by_cases hl : l.getD n 0 < N
    · rw [getD_set (by rw [length_putAll]; exact hl), if_neg (fun e => h n (by omega) e.symm)]
      exact ih fun k hk => h k (by omega)
    · rw [List.set_eq_of_length_le (by rw [length_putAll]; omega)]
      exact ih fun k hk => h k (by omega)
theorem putAll_at {p : PG} {l : List Nat} (hr : RightL p l) {v : Nat → Int} {n k : Nat} (hk : k < n) (hn : n ≤ l.length) : (putAll l v (p.costs.length + p.rows.length) n).getD (l.getD k 0) 0 = v k := by
  induction n with
  | zero => omega
  | succ n ih =>
    rw [putAll_succ, getD_set (by rw [length_putAll]; exact hr.at_lt (by omega))]
    by_cases e : k = n
    · subst e; rw [if_pos rfl]
    · rw [if_neg (by have := hr.ne (i := k) (k := n) (by omega) (by omega); omega)]
      exact ih (by omega) (by omega)
theorem sum_putAll {p : PG} {l : List Nat} (hr : RightL p l) {v f : Nat → Int} : ∀ {n : Nat}, n ≤ l.length →
    sumN (fun j => f j * (putAll l v (p.costs.length + p.rows.length) n).getD j 0) (p.costs.length + p.rows.length) = sumN (fun k => f (l.getD k 0) * v k) n
  | 0, _ => by
    refine Eq.trans (sumN_congr (g := fun _ => 0) fun j _ => ?_) sumN_zero
    rw [putAll_zero (by omega)]; simp
  | n + 1, hn => by
    simp only [putAll_succ]
    have hlt := hr.at_lt (k := n) (by omega)
    rw [sumN_set (by rw [length_putAll]; exact hlt), sum_putAll hr (by omega), if_pos hlt, sumN]
    rw [putAll_zero (fun k hk => by have := hr.ne (i := k) (k := n) hk (by omega); omega)]
    simp

/-! The equations, ahead of all division. -/
section
variable {p : PG} {l : List Nat}
theorem sum_has_x (hr : RightL p l) (h4 : p.rows.length ≤ 4) {i : Nat} (hi : i < p.rows.length) :
    sumN (fun j => hasZ p i j * (xall p l).getD j 0) (p.costs.length + p.rows.length) = (mosts p).getD i 0 * denZ p l := by
  unfold xall
  rw [sum_putAll hr (by rw [hr.len]; exact Nat.le_refl _)]
  have := cramer (matD p l) p.rows.length h4 hi
  unfold denZ xk
  rw [show matD p l i p.rows.length = (mosts p).getD i 0 by unfold matD; rw [if_neg (by rw [hr.len]; omega)]] at this
  rw [← this]
  refine sumN_congr fun k hk => ?_
  unfold matD
  rw [if_pos (by rw [hr.len]; exact hk)]
theorem sum_has_y (hr : RightL p l) (h4 : p.rows.length ≤ 4) {k : Nat} (hk : k < p.rows.length) :
    sumN (fun i => yk p l i * hasZ p i (l.getD k 0)) p.rows.length = costZ p (l.getD k 0) * denZ p l := by
  have := cramer (matU p l) p.rows.length h4 hk
  rw [show matU p l k p.rows.length = costZ p (l.getD k 0) by unfold matU; rw [if_neg (by rw [hr.len]; omega)], den_flip hr.len h4] at this
  rw [← this]
  refine sumN_congr fun i hi => ?_
  rw [show matU p l k i = hasZ p i (l.getD k 0) by unfold matU; rw [if_pos (by rw [hr.len]; exact hi)], Int.mul_comm]
  rfl
theorem gain_own (hr : RightL p l) (h4 : p.rows.length ≤ 4) {k : Nat} (hk : k < p.rows.length) : gk p l (l.getD k 0) p.rows.length = 0 := by
  unfold gk; rw [sum_has_y hr h4 hk]; omega
/-- What the columns are worth is what the rows are. -/
theorem worth_both (hr : RightL p l) (h4 : p.rows.length ≤ 4) (hd : denZ p l ≠ 0) :
    sumN (fun j => costZ p j * (xall p l).getD j 0) (p.costs.length + p.rows.length) = sumN (fun i => (mosts p).getD i 0 * yk p l i) p.rows.length := by
  refine Int.eq_of_mul_eq_mul_right hd ?_
  have e1 : sumN (fun j => costZ p j * (xall p l).getD j 0) (p.costs.length + p.rows.length) = sumN (fun k => costZ p (l.getD k 0) * xk p l k) p.rows.length := by
    unfold xall; rw [sum_putAll hr (by rw [hr.len]; exact Nat.le_refl _)]
  rw [e1, ← sumN_mul', ← sumN_mul']
  have e2 : sumN (fun k => costZ p (l.getD k 0) * xk p l k * denZ p l) p.rows.length = sumN (fun k => sumN (fun i => yk p l i * hasZ p i (l.getD k 0) * xk p l k) p.rows.length) p.rows.length := by
    refine sumN_congr fun k hk => ?_
    rw [sumN_mul', sum_has_y hr h4 hk]; ac_rfl
  rw [e2, ← sumN_comm (f := fun i k => yk p l i * hasZ p i (l.getD k 0) * xk p l k)]
  refine sumN_congr fun i hi => ?_
  have := sum_has_x hr h4 hi
  unfold xall at this
  rw [sum_putAll hr (by rw [hr.len]; exact Nat.le_refl _)] at this
  have e3 : sumN (fun k => yk p l i * hasZ p i (l.getD k 0) * xk p l k) p.rows.length = yk p l i * sumN (fun k => hasZ p i (l.getD k 0) * xk p l k) p.rows.length := by
    rw [← sumN_mul]; exact sumN_congr fun k _ => Int.mul_assoc _ _ _
  rw [e3, this]; ac_rfl
end

/-! Divided. -/
theorem pt_ok {l : List Int} {d : Int} (hd : d ≠ 0) (hb : -1073741824 ≤ d ∧ d ≤ 1073741824) (hl : smallB 1073741824 l = true) (h8 : l.length ≤ 8) : ptE l d = 0 := by
  have hs : smallB 4611686018427387904 l = true := smallB_iff.2 fun n hn => by have := smallB_mem hl hn; omega
  rw [ptE_of hd hs (by omega), if_pos]
  have h1 := sgcd_sign (l := l) hd
  have h2 := tdiv_bound 1073741824 d (sgcd l d) hb.1 hb.2
  have h3 : smallB 1073741824 (divs l (sgcd l d)) = true := smallB_iff.2 fun n hn => by
    simp only [divs, List.mem_map] at hn
    obtain ⟨x, hx, rfl⟩ := hn
    have := smallB_mem hl hx
    exact tdiv_bound 1073741824 x _ this.1 this.2
  simp only [rightB, Bool.and_eq_true, decide_eq_true_eq, length_divs]
  exact ⟨by omega, by omega, h3, h8⟩
/-- Numbers divided are what they were, divided. -/
theorem pt_parts {l : List Int} {d : Int} (h : ptE l d = 0) : ∃ g : Int, g ≠ 0 ∧ d = g * ptD l d ∧ (∀ j, l.getD j 0 = g * (ptN l d).getD j 0) ∧ (ptN l d).length = l.length ∧ 0 < ptD l d := by
  have h0 : d ≠ 0 := fun e => by subst e; simp [ptE] at h
  obtain ⟨h1, h2⟩ := sgcd_dvd (l := l) (d := d)
  refine ⟨sgcd l d, sgcd_ne h0, ?_, ?_, ?_, ?_⟩
  · rw [ptD_eq h]; exact (Int.mul_tdiv_cancel' h1).symm
  · intro j
    simp only [ptN, h, if_true, divs]
    by_cases hj : j < l.length
    · simp only [List.getD, List.getElem?_map, List.getElem?_eq_getElem hj, Option.map_some, Option.getD_some]
      exact (Int.mul_tdiv_cancel' (h2 _ (List.getElem_mem hj))).symm
    · simp [List.getD, List.getElem?_eq_none (Nat.le_of_not_lt hj)]
  · simp [ptN, h, length_divs]
  · rw [ptD_eq h]; exact sgcd_sign h0

theorem smallB_getD {m : Int} {l : List Int} (hm : 0 ≤ m) : smallB m l = true ↔ ∀ j, -m ≤ l.getD j 0 ∧ l.getD j 0 ≤ m := by
  rw [smallB_iff]
  constructor
  · intro h j
    by_cases hj : j < l.length
    · have := h l[j] (List.getElem_mem hj); simpa [List.getD, List.getElem?_eq_getElem hj] using this
    · simp [List.getD, List.getElem?_eq_none (Nat.le_of_not_lt hj)]; omega
  · intro h n hn
    obtain ⟨j, hj, rfl⟩ := List.mem_iff_getElem.1 hn
    have := h j; simpa [List.getD, List.getElem?_eq_getElem hj] using this

theorem xall_at {p : PG} {l : List Nat} (hr : RightL p l) {k : Nat} (hk : k < p.rows.length) : (xall p l).getD (l.getD k 0) 0 = xk p l k := by
  unfold xall; exact putAll_at hr hk (by rw [hr.len]; exact Nat.le_refl _)
theorem xall_off {p : PG} {l : List Nat} (hr : RightL p l) {j : Nat} (hj : j ∉ l) : (xall p l).getD j 0 = 0 := by
  unfold xall
  refine putAll_zero fun k hk e => hj ?_
  have hk' : k < l.length := by rw [hr.len]; exact hk
  rw [← e]
  simp only [List.getD, List.getElem?_eq_getElem hk', Option.getD_some]
  exact List.getElem_mem hk'
theorem xall_small {p : PG} {l : List Nat} (hp : mayPB p = true) (hr : RightL p l) : smallB 1073741824 (xall p l) = true := by
  rw [smallB_getD (by omega)]
  intro j
  by_cases hj : j ∈ l
  · obtain ⟨k, hk, rfl⟩ := List.mem_iff_getElem.1 hj
    have hk' : k < p.rows.length := by rw [← hr.len]; exact hk
    have := xall_at hr hk'
    simp only [List.getD, List.getElem?_eq_getElem hk, Option.getD_some] at this ⊢
    rw [this]
    have := xk_bound hp hr.len hk'
    omega
  · rw [xall_off hr hj]; omega
theorem yall_at {p : PG} {l : List Nat} {k : Nat} (hk : k < p.rows.length) : (yall p l).getD k 0 = yk p l k := by unfold yall; rw [getD_map_range hk]
theorem gall_at {p : PG} {l : List Nat} {j : Nat} (hj : j < p.costs.length + p.rows.length) : (gall p l).getD j 0 = gk p l j p.rows.length := by unfold gall; rw [getD_map_range hj]
theorem yall_small {p : PG} {l : List Nat} (hp : mayPB p = true) (hr : RightL p l) : smallB 1073741824 (yall p l) = true := by
  rw [smallB_iff]; intro n hn
  simp only [yall, List.mem_map, List.mem_range] at hn
  obtain ⟨k, hk, rfl⟩ := hn
  have := yk_bound hp hr.len hk; omega
theorem gall_small {p : PG} {l : List Nat} (hp : mayPB p = true) (hr : RightL p l) : smallB 1073741824 (gall p l) = true := by
  rw [smallB_iff]; intro n hn
  simp only [gall, List.mem_map, List.mem_range] at hn
  obtain ⟨j, _, rfl⟩ := hn
  have := gk_bound hp hr.len j (Nat.le_refl _); omega

/-- A corner of columns that have one way: what they come to, and what stands of it. -/
structure Corn (p : PG) (l : List Nat) (c : CO) (gx gy gg : Int) : Prop where
  hp : mayPB p = true
  hr : RightL p l
  hd : denZ p l ≠ 0
  nx : gx ≠ 0
  ny : gy ≠ 0
  ng : gg ≠ 0
  dx : denZ p l = gx * c.xd
  dy : denZ p l = gy * c.yd
  dg : denZ p l = gg * c.gd
  px : 0 < c.xd
  py : 0 < c.yd
  pg : 0 < c.gd
  lx : c.xs.length = p.costs.length + p.rows.length
  ly : c.ys.length = p.rows.length
  lg : c.gs.length = p.costs.length + p.rows.length
  x : ∀ j, (xall p l).getD j 0 = gx * c.xs.getD j 0
  y : ∀ j, (yall p l).getD j 0 = gy * c.ys.getD j 0
  g : ∀ j, (gall p l).getD j 0 = gg * c.gs.getD j 0
  mx : mayB c.xs c.xd = true
  my : mayB c.ys c.yd = true
  mg : mayB c.gs c.gd = true

theorem look_corn {p : PG} {l : List Int} (h : lookE p l = 0) : ∃ gx gy gg, Corn p (nats l) (lookC p l) gx gy gg := by
  have h' := h
  unfold lookE at h
  split at h
  · omega
  split at h
  · omega
  split at h
  · omega
  rename_i h1 h2 h3
  have hp : mayPB p = true := by simpa using h1
  obtain ⟨hr, _⟩ := right_nats (p := p) (l := l) (by simpa using h2)
  obtain ⟨k1, k2, k3, k4, _, _⟩ := mayPB_iff.1 hp
  have hb := den_bound hp hr.len
  have ex : ptE (xall p (nats l)) (denZ p (nats l)) = 0 := pt_ok h3 (by omega) (xall_small hp hr) (by unfold xall; rw [length_putAll]; omega)
  have ey : ptE (yall p (nats l)) (denZ p (nats l)) = 0 := pt_ok h3 (by omega) (yall_small hp hr) (by unfold yall; simp; omega)
  have eg : ptE (gall p (nats l)) (denZ p (nats l)) = 0 := pt_ok h3 (by omega) (gall_small hp hr) (by unfold gall; simp; omega)
  obtain ⟨gx, a1, a2, a3, a4, a5⟩ := pt_parts ex
  obtain ⟨gy, b1, b2, b3, b4, b5⟩ := pt_parts ey
  obtain ⟨gg, c1, c2, c3, c4, c5⟩ := pt_parts eg
  refine ⟨gx, gy, gg, ?_⟩
  unfold lookC
  rw [if_pos h']
  exact ⟨hp, hr, h3, a1, b1, c1, a2, b2, c2, a5, b5, c5, by rw [a4]; unfold xall; rw [length_putAll], by rw [b4]; unfold yall; simp, by rw [c4]; unfold gall; simp, a3, b3, c3, mayB_pt ex, mayB_pt ey, mayB_pt eg⟩

section
variable {p : PG} {l : List Nat} {c : CO} {gx gy gg : Int}
theorem Corn.rows4 (h : Corn p l c gx gy gg) : p.rows.length ≤ 4 := (mayPB_iff.1 h.hp).2.2.2.1
/-- Each row's equation. -/
theorem Corn.row (h : Corn p l c gx gy gg) {i : Nat} (hi : i < p.rows.length) :
    sumN (fun j => hasZ p i j * c.xs.getD j 0) (p.costs.length + p.rows.length) = (mosts p).getD i 0 * c.xd := by
  have := sum_has_x h.hr h.rows4 hi
  rw [h.dx] at this
  have e : sumN (fun j => hasZ p i j * (xall p l).getD j 0) (p.costs.length + p.rows.length) = gx * sumN (fun j => hasZ p i j * c.xs.getD j 0) (p.costs.length + p.rows.length) := by
    rw [← sumN_mul]; exact sumN_congr fun j _ => by rw [h.x j]; ac_rfl
  rw [e] at this
  refine Int.eq_of_mul_eq_mul_left h.nx ?_
  rw [this]; ac_rfl
theorem Corn.row' (h : Corn p l c gx gy gg) {i : Nat} (hi : i < p.rows.length) :
    dot (p.rows[i]).1 (c.xs.take p.costs.length) + c.xs.getD (p.costs.length + i) 0 = (p.rows[i]).2 * c.xd := by
  have := h.row hi
  have hm : (mosts p).getD i 0 = (p.rows[i]).2 := by rw [getD_mosts]; simp [List.getD, List.getElem?_eq_getElem hi]
  rw [hm] at this
  rw [← this, sumN_split, dot_row h.hp hi (by rw [List.length_take, h.lx]; omega)]
  congr 1
  · refine sumN_congr fun j hj => ?_
    simp [List.getD, hj]
  · have key : ∀ n, sumN (fun r => hasZ p i (p.costs.length + r) * c.xs.getD (p.costs.length + r) 0) n = if i < n then c.xs.getD (p.costs.length + i) 0 else 0 := by
      intro n
      induction n with
      | zero => simp [sumN]
      | succ n ih =>
        rw [sumN, ih]
        have e : hasZ p i (p.costs.length + n) = if n = i then 1 else 0 := by
          unfold hasZ; rw [if_neg (by omega)]
          by_cases e : n = i
          · rw [if_pos (by omega), if_pos e]
          · rw [if_neg (by omega), if_neg e]
        rw [e]
        by_cases e : n = i
        · subst e; rw [if_neg (by omega), if_pos rfl, if_pos (by omega)]; omega
        · rw [if_neg e]
          by_cases e' : i < n
          · rw [if_pos e', if_pos (by omega)]; omega
          · rw [if_neg e', if_neg (by omega)]; omega
    rw [key, if_pos hi]
theorem Corn.gain_own (h : Corn p l c gx gy gg) {k : Nat} (hk : k < p.rows.length) : c.gs.getD (l.getD k 0) 0 = 0 := by
  have h1 := h.g (l.getD k 0)
  rw [gall_at (h.hr.at_lt (by rw [h.hr.len]; exact hk)), Go.Proofs.Ytjcdkbalhleeeab.gain_own h.hr h.rows4 hk] at h1
  rcases Int.mul_eq_zero.1 h1.symm with e | e
  · exact absurd e h.ng
  · exact e
theorem sum_costZ {p : PG} {f : Nat → Int} : sumN (fun j => costZ p j * f j) (p.costs.length + p.rows.length) = sumN (fun j => p.costs.getD j 0 * f j) p.costs.length := by
  rw [sumN_split]
  have h1 : sumN (fun i => costZ p (p.costs.length + i) * f (p.costs.length + i)) p.rows.length = 0 := by
    rw [← sumN_zero (n := p.rows.length)]
    refine sumN_congr fun i _ => ?_
    unfold costZ; rw [if_neg (by omega)]; simp
  rw [h1, Int.add_zero]
  refine sumN_congr fun j hj => ?_
  unfold costZ; rw [if_pos hj]
theorem Corn.worth (h : Corn p l c gx gy gg) : dot p.costs (c.xs.take p.costs.length) * c.yd = dot (mosts p) c.ys * c.xd := by
  have := worth_both h.hr h.rows4 h.hd
  rw [sum_costZ] at this
  have e1 : sumN (fun j => p.costs.getD j 0 * (xall p l).getD j 0) p.costs.length = gx * dot p.costs (c.xs.take p.costs.length) := by
    rw [dot_sum (n := p.costs.length) rfl (by rw [List.length_take, h.lx]; omega), ← sumN_mul]
    refine sumN_congr fun j hj => ?_
    rw [h.x j]
    have : (c.xs.take p.costs.length).getD j 0 = c.xs.getD j 0 := by simp [List.getD, hj]
    rw [this]; ac_rfl
  have e2 : sumN (fun i => (mosts p).getD i 0 * yk p l i) p.rows.length = gy * dot (mosts p) c.ys := by
    rw [dot_sum (length_mosts p) h.ly, ← sumN_mul]
    refine sumN_congr fun i hi => ?_
    have := h.y i
    rw [yall_at hi] at this
    rw [this]; ac_rfl
  rw [e1, e2] at this
  have hgg : gx * gy ≠ 0 := fun e => by
    rcases Int.mul_eq_zero.1 e with e | e
    · exact h.nx e
    · exact h.ny e
  refine Int.eq_of_mul_eq_mul_left hgg ?_
  have d1 := h.dx
  have d2 := h.dy
  calc gx * gy * (dot p.costs (c.xs.take p.costs.length) * c.yd) = (gx * dot p.costs (c.xs.take p.costs.length)) * (gy * c.yd) := by ac_rfl
    _ = (gy * dot (mosts p) c.ys) * (gx * c.xd) := by rw [this, ← d1, ← d2]
    _ = gx * gy * (dot (mosts p) c.ys * c.xd) := by ac_rfl
end
end Go.Proofs.Ytjcdkbalhleeeab

/-
  Plain law: Bland's rule makes no circle. Over fractions; no program in sight.
-/
namespace Go.Proofs.Ytjcdkbalhleeeab

def sumR (f : Nat → Rat) : Nat → Rat
  | 0 => 0
  | n + 1 => sumR f n + f n
theorem sumR_congr {f g : Nat → Rat} : ∀ {n : Nat}, (∀ i, i < n → f i = g i) → sumR f n = sumR g n
  | 0, _ => rfl
  | n + 1, h => by rw [sumR, sumR, sumR_congr fun i hi => h i (by omega), h n (by omega)]
theorem sumR_add {f g : Nat → Rat} : ∀ {n : Nat}, sumR (fun i => f i + g i) n = sumR f n + sumR g n
  | 0 => by simp [sumR]; grind
  | n + 1 => by simp only [sumR]; rw [sumR_add]; grind
theorem sumR_mul {f : Nat → Rat} {c : Rat} : ∀ {n : Nat}, sumR (fun i => c * f i) n = c * sumR f n
  | 0 => by simp [sumR]
  | n + 1 => by simp only [sumR]; rw [sumR_mul]; grind
theorem sumR_zero : ∀ {n : Nat}, sumR (fun _ => 0) n = 0
  | 0 => rfl
  | n + 1 => by rw [sumR, sumR_zero]; grind
theorem sumR_comm {f : Nat → Nat → Rat} {m : Nat} : ∀ {n : Nat}, sumR (fun i => sumR (fun j => f i j) m) n = sumR (fun j => sumR (fun i => f i j) n) m
  | 0 => by simp only [sumR]; exact sumR_zero.symm
  | n + 1 => by simp only [sumR]; rw [sumR_comm, sumR_add]
theorem sumR_one {f : Nat → Rat} {r : Nat} : ∀ {n : Nat}, r < n → (∀ j, j < n → j ≠ r → f j = 0) → sumR f n = f r
  | 0, h, _ => by omega
  | n + 1, h, hz => by
    rw [sumR]
    by_cases e : r = n
    · subst e
      have : sumR f r = 0 := (sumR_congr fun j hj => hz j (by omega) (by omega)).trans sumR_zero
      rw [this]; grind
    · rw [sumR_one (by omega) fun j hj => hz j (by omega), hz n (by omega) (by omega)]; grind
theorem sumR_pos {f : Nat → Rat} : ∀ {n : Nat}, 0 < sumR f n → ∃ j, j < n ∧ 0 < f j
  | 0, h => by simp [sumR] at h
  | n + 1, h => by
    by_cases e : 0 < f n
    · exact ⟨n, by omega, e⟩
    · rw [sumR] at h
      obtain ⟨j, hj, hp⟩ := sumR_pos (f := f) (n := n) (by grind)
      exact ⟨j, by omega, hp⟩

/-- One step: r comes in, s goes out. -/
structure Piv (m N : Nat) (A : Nat → Nat → Rat) (c : Nat → Rat) (l l' : List Nat) (x x' g d y : Nat → Rat) (r s : Nat) (t : Rat) : Prop where
  rin : r ∉ l
  rN : r < N
  sin : s ∈ l
  lN : ∀ j ∈ l, j < N
  mem : ∀ j, j ∈ l' ↔ (j ∈ l ∧ j ≠ s) ∨ j = r
  gy : ∀ j, j < N → g j = c j - sumR (fun i => y i * A i j) m
  g0 : ∀ j ∈ l, g j = 0
  gr : 0 < g r
  glt : ∀ j, j < r → g j ≤ 0
  dk : ∀ i, i < m → sumR (fun j => A i j * d j) N = 0
  dr : d r = 1
  doff : ∀ j, j ∉ l → j ≠ r → d j = 0
  ds : d s < 0
  t0 : 0 ≤ t
  tx : x s = t * -(d s)
  tmin : ∀ j ∈ l, d j < 0 → t * -(d j) ≤ x j ∧ (t * -(d j) = x j → s ≤ j)
  xoff : ∀ j, j ∉ l → x j = 0
  step : ∀ j, x' j = x j + t * d j

section
variable {m N : Nat} {A : Nat → Nat → Rat} {c : Nat → Rat} {l l' l2 l2' : List Nat} {x x' g d y x2 x2' g2 d2 y2 : Nat → Rat} {r s r2 s2 : Nat} {t t2 : Rat}
/-- What the direction is worth, by any corner's gains. -/
theorem Piv.worth (h : Piv m N A c l l' x x' g d y r s t) {g2 y2 : Nat → Rat} (hg : ∀ j, j < N → g2 j = c j - sumR (fun i => y2 i * A i j) m) : sumR (fun j => c j * d j) N = sumR (fun j => g2 j * d j) N := by
  have e : sumR (fun j => c j * d j) N = sumR (fun j => g2 j * d j + sumR (fun i => y2 i * (A i j * d j)) m) N := by
    refine sumR_congr fun j hj => ?_
    have h1 : sumR (fun i => y2 i * (A i j * d j)) m = d j * sumR (fun i => y2 i * A i j) m := by
      rw [← sumR_mul]; exact sumR_congr fun i _ => by grind
    rw [h1, hg j hj]; grind
  rw [e, sumR_add, ← sumR_comm (f := fun i j => y2 i * (A i j * d j))]
  have h2 : sumR (fun i => sumR (fun j => y2 i * (A i j * d j)) N) m = 0 := by
    refine (sumR_congr fun i hi => ?_).trans sumR_zero
    rw [sumR_mul, h.dk i hi]; grind
  rw [h2]; grind
theorem Piv.gain (h : Piv m N A c l l' x x' g d y r s t) : sumR (fun j => c j * d j) N = g r := by
  rw [h.worth h.gy, sumR_one h.rN]
  · rw [h.dr]; grind
  · intro j _ hjr
    by_cases hl : j ∈ l
    · rw [h.g0 j hl]; grind
    · rw [h.doff j hl hjr]; grind
theorem Piv.rises (h : Piv m N A c l l' x x' g d y r s t) : sumR (fun j => c j * x' j) N = sumR (fun j => c j * x j) N + t * g r := by
  rw [← h.gain, ← sumR_mul, ← sumR_add]
  exact sumR_congr fun j _ => by rw [h.step j]; grind
theorem Piv.ne (h : Piv m N A c l l' x x' g d y r s t) : s ≠ r := fun e => h.rin (e ▸ h.sin)

theorem turn_up {P : Nat → Prop} {i k : Nat} (hik : i ≤ k) (h0 : ¬ P i) (h1 : P k) : ∃ e, i ≤ e ∧ e < k ∧ ¬ P e ∧ P (e + 1) := by
  obtain ⟨n, rfl⟩ : ∃ n, k = i + n := ⟨k - i, by omega⟩
  induction n with
  | zero => exact absurd h1 h0
  | succ n ih =>
    by_cases hp : P (i + n)
    · obtain ⟨e, a, b, c, d⟩ := ih (by omega) hp; exact ⟨e, a, by omega, c, d⟩
    · exact ⟨i + n, by omega, by omega, hp, h1⟩

/-- No circle. -/
theorem bland {L : Nat → List Nat} {X G D Y : Nat → Nat → Rat} {R S : Nat → Nat} {T : Nat → Rat} {a b : Nat} (hab : a < b)
    (hs : ∀ i, a ≤ i → i < b → Piv m N A c (L i) (L (i + 1)) (X i) (X (i + 1)) (G i) (D i) (Y i) (R i) (S i) (T i))
    (hL : ∀ j, j ∈ L a ↔ j ∈ L b) (hX : ∀ j, X b j = X a j) (hXo : ∀ i, a ≤ i → i ≤ b → ∀ j, j ∉ L i → X i j = 0) : False := by
  -- what it is worth does not fall
  have mono : ∀ n, a + n ≤ b → sumR (fun j => c j * X a j) N ≤ sumR (fun j => c j * X (a + n) j) N := by
    intro n
    induction n with
    | zero => intro _; simp
    | succ n ih =>
      intro hn
      have h := hs (a + n) (by omega) (by omega)
      have := h.rises
      have h1 := Rat.mul_nonneg h.t0 (show 0 ≤ G (a + n) (R (a + n)) by have := h.gr; grind)
      have := ih (by omega)
      rw [show a + (n + 1) = a + n + 1 by omega]
      grind
  have mono2 : ∀ n, a + n ≤ b → sumR (fun j => c j * X (b - n) j) N ≤ sumR (fun j => c j * X b j) N := by
    intro n
    induction n with
    | zero => intro _; simp
    | succ n ih =>
      intro hn
      have h := hs (b - (n + 1)) (by omega) (by omega)
      have := h.rises
      have h1 := Rat.mul_nonneg h.t0 (show 0 ≤ G (b - (n + 1)) (R (b - (n + 1))) by have := h.gr; grind)
      have h2 := ih (by omega)
      rw [show b - (n + 1) + 1 = b - n by omega] at this
      grind
  have hw : sumR (fun j => c j * X b j) N = sumR (fun j => c j * X a j) N := sumR_congr fun j _ => by rw [hX j]
  have ht : ∀ i, a ≤ i → i < b → T i = 0 := by
    intro i h1 h2
    have h := hs i h1 h2
    have e := h.rises
    have m1 := mono (i - a) (by omega)
    have m2 := mono2 (b - (i + 1)) (by omega)
    rw [show a + (i - a) = i by omega] at m1
    rw [show b - (b - (i + 1)) = i + 1 by omega] at m2
    have hg := h.gr
    have h0 := h.t0
    have hle : T i * G i (R i) ≤ 0 := by grind
    rcases Rat.le_iff_lt_or_eq.1 h0 with hp | he
    · have := Rat.mul_pos hp hg; grind
    · exact he.symm
  have hx : ∀ n, a + n ≤ b → ∀ j, X (a + n) j = X a j := by
    intro n
    induction n with
    | zero => intro _ j; rfl
    | succ n ih =>
      intro hn j
      have := (hs (a + n) (by omega) (by omega)).step j
      rw [ht (a + n) (by omega) (by omega), ih (by omega) j] at this
      rw [show a + (n + 1) = a + n + 1 by omega, this]; grind
  have hx' : ∀ i, a ≤ i → i ≤ b → ∀ j, X i j = X a j := fun i h1 h2 j => by have := hx (i - a) (by omega) j; rwa [show a + (i - a) = i by omega] at this
  -- the columns that change
  let F : Nat → Prop := fun j => (∃ i, a ≤ i ∧ i ≤ b ∧ j ∈ L i) ∧ (∃ i, a ≤ i ∧ i ≤ b ∧ j ∉ L i)
  have hF0 : ∀ j, F j → X a j = 0 := by
    rintro j ⟨_, i, h1, h2, h3⟩
    rw [← hx' i h1 h2 j]; exact hXo i h1 h2 j h3
  have hin : ∀ j, F j → ∃ i, a ≤ i ∧ i < b ∧ R i = j := by
    rintro j ⟨⟨i, h1, h2, h3⟩, k, h4, h5, h6⟩
    have key : ∀ i k, a ≤ k → k ≤ i → i ≤ b → j ∉ L k → j ∈ L i → ∃ e, a ≤ e ∧ e < b ∧ R e = j := by
      intro i k hk hki hi h0 h1
      obtain ⟨e, e1, e2, e3, e4⟩ := turn_up (P := fun i => j ∈ L i) hki h0 h1
      refine ⟨e, by omega, by omega, ?_⟩
      have := ((hs e (by omega) (by omega)).mem j).1 e4
      rcases this with ⟨q, _⟩ | q
      · exact absurd q e3
      · exact q.symm
    by_cases ha : j ∈ L a
    · exact key b k h4 h5 (Nat.le_refl _) h6 ((hL j).1 ha)
    · exact key i a (Nat.le_refl _) h1 h2 ha h3
  have hout : ∀ j, F j → ∃ i, a ≤ i ∧ i < b ∧ S i = j := by
    rintro j ⟨⟨i, h1, h2, h3⟩, k, h4, h5, h6⟩
    have key : ∀ i k, a ≤ k → k ≤ i → i ≤ b → j ∈ L k → j ∉ L i → ∃ e, a ≤ e ∧ e < b ∧ S e = j := by
      intro i k hk hki hi h0 h1
      obtain ⟨e, e1, e2, e3, e4⟩ := turn_up (P := fun i => j ∉ L i) hki (fun h => h h0) h1
      refine ⟨e, by omega, by omega, ?_⟩
      have hje : j ∈ L e := Classical.byContradiction e3
      apply Classical.byContradiction
      intro hne
      exact e4 (((hs e (by omega) (by omega)).mem j).2 (Or.inl ⟨hje, fun q => hne q.symm⟩))
    by_cases ha : j ∈ L a
    · exact key k a (Nat.le_refl _) h4 h5 ha h6
    · exact key b i h1 h2 (Nat.le_refl _) h3 (fun q => ha ((hL j).2 q))
  have hFN : ∀ j, F j → j < N := by
    intro j hj
    obtain ⟨i, h1, h2, rfl⟩ := hin j hj
    exact (hs i h1 h2).rN
  have hFR : F (R a) := by
    have h := hs a (Nat.le_refl _) hab
    exact ⟨⟨a + 1, by omega, by omega, (h.mem _).2 (Or.inr rfl)⟩, a, by omega, by omega, h.rin⟩
  -- the greatest of them
  obtain ⟨q, hq, hmax⟩ : ∃ q, F q ∧ ∀ j, F j → j ≤ q := by
    have : ∀ n, (∃ j, F j ∧ N ≤ j + n) → ∃ q, F q ∧ ∀ j, F j → j ≤ q := by
      intro n
      induction n with
      | zero => rintro ⟨j, h1, h2⟩; have := hFN j h1; omega
      | succ n ih =>
        rintro ⟨j, h1, h2⟩
        by_cases hh : ∃ k, F k ∧ N ≤ k + n
        · exact ih hh
        · refine ⟨j, h1, fun k hk => ?_⟩
          apply Classical.byContradiction
          intro hlt
          exact hh ⟨k, hk, by omega⟩
    exact this N ⟨_, hFR, by omega⟩
  obtain ⟨i, hi1, hi2, hiS⟩ := hout q hq
  obtain ⟨k, hk1, hk2, hkR⟩ := hin q hq
  have hD := hs i hi1 hi2
  have hE := hs k hk1 hk2
  have hpos : 0 < sumR (fun j => G k j * D i j) N := by
    rw [← hD.worth hE.gy, hD.gain]; exact hD.gr
  obtain ⟨j, hjN, hj⟩ := sumR_pos hpos
  have hg0 : G k j ≠ 0 := fun e => by rw [e] at hj; grind
  have hd0 : D i j ≠ 0 := fun e => by rw [e] at hj; grind
  have hjE : j ∉ L k := fun h => hg0 (hE.g0 j h)
  have hjD : j ∈ L i ∨ j = R i := by
    apply Classical.byContradiction
    intro h
    exact hd0 (hD.doff j (fun q => h (Or.inl q)) (fun q => h (Or.inr q)))
  have hjF : F j := by
    refine ⟨?_, k, by omega, by omega, hjE⟩
    rcases hjD with h | h
    · exact ⟨i, by omega, by omega, h⟩
    · exact ⟨i + 1, by omega, by omega, (hD.mem j).2 (Or.inr h)⟩
  have hjq := hmax j hjF
  have hdq : D i q < 0 := by rw [← hiS]; exact hD.ds
  have hgq : 0 < G k q := by rw [← hkR]; exact hE.gr
  by_cases e : j = q
  · subst e
    have := Rat.mul_pos hgq (show 0 < -(D i j) by grind)
    grind
  · have hlt : j < R k := by omega
    have hgj := hE.glt j hlt
    have hdj : D i j < 0 := by
      apply Classical.byContradiction
      intro h
      have := Rat.mul_nonneg (show 0 ≤ -(G k j) by grind) (show 0 ≤ D i j by grind)
      grind
    have hjl : j ∈ L i := by
      rcases hjD with h | h
      · exact h
      · rw [h, hD.dr] at hdj; grind
    have hmin := (hD.tmin j hjl hdj).2
    rw [ht i hi1 hi2, hx' i hi1 (by omega) j, hF0 j hjF] at hmin
    have := hmin (by grind)
    omega
end

theorem pig : ∀ (n : Nat) (f : Nat → Nat), (∀ i, i ≤ n → f i < n) → ∃ i j, i < j ∧ j ≤ n ∧ f i = f j := by
  intro n
  induction n with
  | zero => intro f h; have := h 0 (by omega); omega
  | succ n ih =>
    intro f h
    by_cases hx : ∃ i, i ≤ n ∧ f i = f (n + 1)
    · obtain ⟨i, hi, e⟩ := hx; exact ⟨i, n + 1, by omega, by omega, e⟩
    · have hne : ∀ i, i ≤ n → f i ≠ f (n + 1) := fun i hi e => hx ⟨i, hi, e⟩
      obtain ⟨i, j, hij, hj, e⟩ := ih (fun i => if f i = n then f (n + 1) else f i) (fun i hi => by
        have := h i (by omega); have := h (n + 1) (by omega); have := hne i hi
        split <;> omega)
      refine ⟨i, j, hij, by omega, ?_⟩
      have h1 := hne i (by omega); have h2 := hne j (by omega)
      split at e <;> split at e <;> omega
end Go.Proofs.Ytjcdkbalhleeeab

/-
  Plain words for chapter 5 (walks from corner to corner), and the plain law: each step is one of Bland's rule, so a walk ends. No program in sight.
-/
namespace Go.Proofs.Ytjcdkbalhleeeab

/-! Columns of the determinant. -/
theorem dtGo_map {A : Nat → Int} {f : Nat → Nat} {g h : List Nat → Int} (hg : ∀ l, g l = h (l.map f)) : ∀ (cs pre : List Nat) (s : Int), dtGo (fun j => A (f j)) g pre s cs = dtGo A h (pre.map f) s (cs.map f)
  | [], _, _ => rfl
  | c :: cs, pre, s => by
    rw [dtGo, List.map_cons, dtGo, hg, dtGo_map hg cs, List.map_append, List.map_append]; rfl
theorem dt_cols {A : Nat → Nat → Int} {f : Nat → Nat} : ∀ {rs : List Nat} (cs : List Nat), dt (fun i j => A i (f j)) rs cs = dt A rs (cs.map f)
  | [], _ => rfl
  | r :: rs, cs => by
    rw [dt, dt]
    exact dtGo_map (fun l => dt_cols l) cs [] 1

set_option maxHeartbeats 1000000 in
theorem dt_adj (A : Nat → Nat → Int) {rs u v : List Nat} {a b : Nat} (h4 : rs.length ≤ 4) (hl : (u ++ a :: b :: v).length = rs.length) : dt A rs (u ++ a :: b :: v) = -dt A rs (u ++ b :: a :: v) := by
  simp at hl
  rcases (show rs.length = 2 ∨ rs.length = 3 ∨ rs.length = 4 by omega) with h | h | h
  · obtain ⟨r0, r1, rfl⟩ := list_len2 h
    obtain rfl : u = [] := List.eq_nil_of_length_eq_zero (by omega)
    obtain rfl : v = [] := List.eq_nil_of_length_eq_zero (by simp at hl; first | omega | simp [hl])
    simp [dt2]; grind
  · obtain ⟨r0, r1, r2, rfl⟩ := list_len3 h
    rcases u with _ | ⟨u0, u⟩
    · obtain ⟨v0, rfl⟩ : ∃ v0, v = [v0] := List.length_eq_one_iff.1 (by simp at hl; omega)
      simp [dt3]; grind
    · obtain rfl : u = [] := List.eq_nil_of_length_eq_zero (by simp at hl; omega)
      obtain rfl : v = [] := List.eq_nil_of_length_eq_zero (by simp at hl; omega)
      simp [dt3]; grind
  · obtain ⟨r0, r1, r2, r3, rfl⟩ := list_len4 h
    rcases u with _ | ⟨u0, _ | ⟨u1, u⟩⟩
    · obtain ⟨v0, v1, rfl⟩ := list_len2 (l := v) (by simp at hl; omega)
      simp [dt4, dt3]; grind
    · obtain ⟨v0, rfl⟩ : ∃ v0, v = [v0] := List.length_eq_one_iff.1 (by simp at hl; omega)
      simp [dt4, dt3]; grind
    · obtain rfl : u = [] := List.eq_nil_of_length_eq_zero (by simp at hl; omega)
      obtain rfl : v = [] := List.eq_nil_of_length_eq_zero (by simp at hl; omega)
      simp [dt4, dt3]; grind
theorem dt_ins (A : Nat → Nat → Int) {rs w : List Nat} {r : Nat} (h4 : rs.length ≤ 4) (hl : w.length + 1 = rs.length) : ∀ i, i ≤ w.length → (dt A rs (w.take i ++ r :: w.drop i)).natAbs = (dt A rs (r :: w)).natAbs := by
  intro i
  induction i with
  | zero => intro _; rfl
  | succ i ih =>
    intro hi
    rw [← ih (by omega)]
    have h1 : i < w.length := by omega
    rw [List.take_succ_eq_append_getElem h1, List.append_assoc, List.singleton_append, dt_adj A h4 (by simp; omega), Int.natAbs_neg]
    rw [← List.drop_eq_getElem_cons h1]

/-- One more column, rising. -/
def insN (w : List Nat) (r : Nat) : List Nat := w.takeWhile (fun j => decide (j < r)) ++ r :: w.dropWhile (fun j => decide (j < r))
theorem insN_take (w : List Nat) (r : Nat) : insN w r = w.take (w.takeWhile (fun j => decide (j < r))).length ++ r :: w.drop (w.takeWhile (fun j => decide (j < r))).length := by
  unfold insN
  have h : w.takeWhile (fun j => decide (j < r)) ++ w.dropWhile (fun j => decide (j < r)) = w := List.takeWhile_append_dropWhile
  have gen : ∀ a b w : List Nat, a ++ b = w → w.take a.length = a ∧ w.drop a.length = b := by rintro a b _ rfl; simp
  obtain ⟨h1, h2⟩ := gen _ _ _ h
  rw [h1, h2]
theorem mem_insN {w : List Nat} {r j : Nat} : j ∈ insN w r ↔ j ∈ w ∨ j = r := by
  have h : w.takeWhile (fun j => decide (j < r)) ++ w.dropWhile (fun j => decide (j < r)) = w := List.takeWhile_append_dropWhile
  unfold insN
  conv => rhs; rw [← h]
  simp only [List.mem_append, List.mem_cons]
  constructor
  · rintro (h | h | h)
    · exact Or.inl (Or.inl h)
    · exact Or.inr h
    · exact Or.inl (Or.inr h)
  · rintro ((h | h) | h)
    · exact Or.inl h
    · exact Or.inr (Or.inr h)
    · exact Or.inr (Or.inl h)
theorem length_insN (w : List Nat) (r : Nat) : (insN w r).length = w.length + 1 := by
  rw [insN_take]; simp; omega
theorem insN_pw {w : List Nat} {r : Nat} (h : w.Pairwise (· < ·)) (hr : r ∉ w) : (insN w r).Pairwise (· < ·) := by
  induction w with
  | nil => simp [insN]
  | cons a w ih =>
    rw [List.pairwise_cons] at h
    have har : a ≠ r := fun e => hr (by simp [e])
    by_cases hlt : a < r
    · have e : insN (a :: w) r = a :: insN w r := by simp [insN, hlt]
      rw [e, List.pairwise_cons]
      refine ⟨fun x hx => ?_, ih h.2 (fun q => hr (by simp [q]))⟩
      rcases mem_insN.1 hx with q | q
      · exact h.1 x q
      · omega
    · have e : insN (a :: w) r = r :: a :: w := by simp [insN, hlt]
      rw [e, List.pairwise_cons, List.pairwise_cons]
      refine ⟨fun x hx => ?_, h.1, h.2⟩
      rcases List.mem_cons.1 hx with q | q
      · omega
      · have := h.1 x q; omega

/-! A program whose rows may be at most what a column has. -/
def qOf (p : PG) (r : Nat) : PG := ⟨p.costs, (List.range p.rows.length).map fun i => ((p.rows.getD i ([], 0)).1, hasZ p i r)⟩
theorem qOf_len (p : PG) (r : Nat) : (qOf p r).rows.length = p.rows.length := by simp [qOf]
theorem qOf_row (p : PG) (r : Nat) {i : Nat} (h : i < p.rows.length) : (qOf p r).rows.getD i ([], 0) = ((p.rows.getD i ([], 0)).1, hasZ p i r) := by simp [qOf, List.getD, h]
theorem qOf_has (p : PG) (r i j : Nat) : hasZ (qOf p r) i j = hasZ p i j := by
  unfold hasZ
  simp only [show (qOf p r).costs = p.costs from rfl]
  by_cases h : i < p.rows.length
  · rw [qOf_row p r h]
  · have e1 : (qOf p r).rows.getD i ([], 0) = ([], 0) := by simp [qOf, List.getD, h]
    have e2 : p.rows.getD i ([], 0) = ([], 0) := by simp [List.getD, List.getElem?_eq_none (Nat.le_of_not_lt h)]
    rw [e1, e2]
theorem qOf_cost (p : PG) (r j : Nat) : costZ (qOf p r) j = costZ p j := rfl
theorem qOf_most (p : PG) (r : Nat) {i : Nat} (h : i < p.rows.length) : (mosts (qOf p r)).getD i 0 = hasZ p i r := by rw [getD_mosts, qOf_row p r h]
theorem qOf_may {p : PG} (hp : mayPB p = true) (r : Nat) : mayPB (qOf p r) = true := by
  obtain ⟨h1, h2, h3, h4, h5, h6⟩ := mayPB_iff.1 hp
  refine mayPB_iff.2 ⟨h1, h2, by rw [qOf_len]; exact h3, by rw [qOf_len]; exact h4, h5, ?_⟩
  rw [List.all_eq_true]
  intro x hx
  simp only [qOf, List.mem_map, List.mem_range] at hx
  obtain ⟨i, hi, rfl⟩ := hx
  obtain ⟨k1, k2, k3⟩ := mayPB_row hp hi
  have hb := hasZ_bound hp i r
  unfold rowB
  simp only [Bool.and_eq_true, decide_eq_true_eq, smallB_one]
  refine ⟨?_, ⟨by simpa using hb.1, by simpa using hb.2⟩, ?_⟩
  · show (p.rows.getD i ([], 0)).1.length = p.costs.length
    simpa [List.getD, List.getElem?_eq_getElem hi] using k1
  · simpa [List.getD, List.getElem?_eq_getElem hi] using k3
theorem qOf_right {p : PG} {l : List Nat} (h : RightL p l) (r : Nat) : RightL (qOf p r) l := ⟨by rw [qOf_len]; exact h.len, fun j hj => by rw [qOf_len]; exact h.lt j hj, h.pw⟩
theorem qOf_den {p : PG} {l : List Nat} (h : l.length = p.rows.length) (r : Nat) : denZ (qOf p r) l = denZ p l := by
  unfold denZ dtm
  rw [qOf_len]
  refine dt_congr2 fun i hi j hj => ?_
  have hj' : j < p.rows.length := by simpa using hj
  unfold matD
  rw [if_pos (by omega), if_pos (by omega), qOf_has]

/-! Columns as whole numbers, and as numbers from 0 on. -/
def ints (l : List Nat) : List Int := l.map Int.ofNat
theorem nats_ints (l : List Nat) : nats (ints l) = l := by unfold nats ints; rw [List.map_map]; conv => rhs; rw [← List.map_id l]
                                                           apply List.map_congr_left; intro x _; simp
theorem rising_ints {last : Int} {n : Nat} {l : List Nat} (h : ∀ j ∈ l, last < j ∧ j < n) (hp : l.Pairwise (· < ·)) : risingB last n (ints l) = true := by
  induction l generalizing last with
  | nil => rfl
  | cons a l ih =>
    rw [List.pairwise_cons] at hp
    have := h a (by simp)
    simp only [ints, List.map_cons, risingB, Bool.and_eq_true, decide_eq_true_eq]
    refine ⟨by simpa using this.1, by simp; omega, ih (fun j hj => ⟨?_, (h j (by simp [hj])).2⟩) hp.2⟩
    have := hp.1 j hj; simp; omega
theorem right_ints {p : PG} {l : List Nat} (h : RightL p l) : rightA p (ints l) = true := by
  simp only [rightA, Bool.and_eq_true, decide_eq_true_eq]
  exact ⟨by unfold ints; simpa using h.len, rising_ints (fun j hj => ⟨by omega, h.lt j hj⟩) h.pw⟩
theorem look_ints {p : PG} {l : List Nat} (hp : mayPB p = true) (h : RightL p l) (hd : denZ p l ≠ 0) : lookE p (ints l) = 0 := by
  unfold lookE; rw [if_neg (by simp [hp]), if_neg (by simp [right_ints h]), nats_ints, if_neg hd]

/-! The walk. -/
/-- The column that comes in. -/
def inZ (gs : List Int) : Option Nat := gs.findIdx? (fun n => decide (0 < n))
/-- The place of the column that goes out, of the first n. -/
def nearB (xs : List Int) (l : List Nat) (less : List Int) (k : Nat) : Option Nat → Bool
  | none => true
  | some q => decide (xs.getD (l.getD k 0) 0 * less.getD q 0 < xs.getD (l.getD q 0) 0 * less.getD k 0)
def outZ (xs : List Int) (l : List Nat) (less : List Int) (n : Nat) : Option Nat :=
  (List.range n).foldl (fun o k => if 0 < less.getD k 0 ∧ nearB xs l less k o = true then some k else o) none
/-- What columns come to, as numbers from 0 on. -/
def lookN (p : PG) (l : List Nat) : CO := lookC p (ints l)
/-- By how much each column in l becomes less. -/
def lessZ (p : PG) (l : List Nat) (r : Nat) : List Int := l.map fun j => (lookN (qOf p r) l).xs.getD j 0
/-- The next columns; none: there are none. -/
def nxtZ (p : PG) (l : List Nat) : Option (List Nat) :=
  match inZ (lookN p l).gs with
  | none => none
  | some r => match outZ (lookN p l).xs l (lessZ p l r) l.length with
    | none => none
    | some k => some (insN (l.eraseIdx k) r)
/-- The kind of the end. -/
def kindZ (p : PG) (l : List Nat) : Int :=
  match inZ (lookN p l).gs with
  | none => 1
  | some r => match outZ (lookN p l).xs l (lessZ p l r) l.length with
    | none => 2
    | some _ => 0

theorem inZ_some {gs : List Int} {r : Nat} (h : inZ gs = some r) : r < gs.length ∧ 0 < gs.getD r 0 ∧ ∀ j, j < r → gs.getD j 0 ≤ 0 := by
  unfold inZ at h
  rw [List.findIdx?_eq_some_iff_getElem] at h
  obtain ⟨h1, h2, h3⟩ := h
  refine ⟨h1, by simpa [List.getD, List.getElem?_eq_getElem h1] using h2, fun j hj => ?_⟩
  have := h3 j hj
  have hj' : j < gs.length := by omega
  simp at this
  simpa [List.getD, List.getElem?_eq_getElem hj'] using this
theorem inZ_none {gs : List Int} (h : inZ gs = none) : ∀ j, gs.getD j 0 ≤ 0 := by
  unfold inZ at h
  rw [List.findIdx?_eq_none_iff] at h
  intro j
  by_cases hj : j < gs.length
  · have := h gs[j] (List.getElem_mem hj)
    simp at this
    simpa [List.getD, List.getElem?_eq_getElem hj] using this
  · simp [List.getD, List.getElem?_eq_none (Nat.le_of_not_lt hj)]
theorem outZ_succ (xs : List Int) (l : List Nat) (less : List Int) (n : Nat) : outZ xs l less (n + 1) =
    if 0 < less.getD n 0 ∧ nearB xs l less n (outZ xs l less n) = true then some n else outZ xs l less n := by
  unfold outZ; rw [List.range_succ, List.foldl_append]; rfl
theorem outZ_none {xs : List Int} {l : List Nat} {less : List Int} : ∀ {n : Nat}, outZ xs l less n = none ↔ ∀ k, k < n → less.getD k 0 ≤ 0
  | 0 => by simp [outZ]
  | n + 1 => by
    rw [outZ_succ]
    constructor
    · intro h
      split at h
      · simp at h
      · rename_i hh
        rw [h] at hh
        have := outZ_none.1 h
        intro k hk
        by_cases e : k = n
        · subst e; simp [nearB] at hh; exact hh
        · exact this k (by omega)
    · intro h
      rw [if_neg (fun q => by have := h n (by omega); omega)]
      exact outZ_none.2 fun k hk => h k (by omega)
theorem outZ_some {xs : List Int} {l : List Nat} {less : List Int} (hx : ∀ j, 0 ≤ xs.getD j 0) : ∀ {n q : Nat}, outZ xs l less n = some q →
    q < n ∧ 0 < less.getD q 0 ∧ ∀ k, k < n → 0 < less.getD k 0 → xs.getD (l.getD q 0) 0 * less.getD k 0 ≤ xs.getD (l.getD k 0) 0 * less.getD q 0 ∧ (xs.getD (l.getD q 0) 0 * less.getD k 0 = xs.getD (l.getD k 0) 0 * less.getD q 0 → q ≤ k)
  | 0, q, h => by simp [outZ] at h
  | n + 1, q, h => by
    rw [outZ_succ] at h
    split at h
    · rename_i hh
      obtain ⟨h1, h2⟩ := hh
      simp at h
      subst h
      refine ⟨by omega, h1, fun k hk hp => ?_⟩
      by_cases e : k = n
      · subst e; exact ⟨by omega, fun _ => Nat.le_refl _⟩
      · cases ho : outZ xs l less n with
        | none => have := outZ_none.1 ho k (by omega); omega
        | some q =>
          rw [ho] at h2
          simp only [nearB, decide_eq_true_eq] at h2
          obtain ⟨a1, a2, a3⟩ := outZ_some hx ho
          obtain ⟨b1, b2⟩ := a3 k (by omega) hp
          -- x_n q' < x_q n' ; x_q k' ≤ x_k q' ; so x_n k' < x_k n'
          have c1 := Int.mul_lt_mul_of_pos_right h2 hp
          have c2 := Int.mul_le_mul_of_nonneg_right b1 (show 0 ≤ less.getD n 0 by omega)
          have c3 : xs.getD (l.getD n 0) 0 * less.getD k 0 * less.getD q 0 < xs.getD (l.getD k 0) 0 * less.getD n 0 * less.getD q 0 := by
            have e1 : xs.getD (l.getD n 0) 0 * less.getD q 0 * less.getD k 0 = xs.getD (l.getD n 0) 0 * less.getD k 0 * less.getD q 0 := by ac_rfl
            have e2 : xs.getD (l.getD q 0) 0 * less.getD n 0 * less.getD k 0 = xs.getD (l.getD q 0) 0 * less.getD k 0 * less.getD n 0 := by ac_rfl
            have e3 : xs.getD (l.getD k 0) 0 * less.getD q 0 * less.getD n 0 = xs.getD (l.getD k 0) 0 * less.getD n 0 * less.getD q 0 := by ac_rfl
            omega
          have := Int.lt_of_mul_lt_mul_right c3 (by omega)
          exact ⟨by omega, fun e => by omega⟩
    · rename_i hh
      obtain ⟨a1, a2, a3⟩ := outZ_some hx h
      refine ⟨by omega, a2, fun k hk hp => ?_⟩
      by_cases e : k = n
      · subst e
        rw [h] at hh
        simp only [nearB, decide_eq_true_eq] at hh
        have : ¬ (xs.getD (l.getD k 0) 0 * less.getD q 0 < xs.getD (l.getD q 0) 0 * less.getD k 0) := fun q => hh ⟨hp, q⟩
        exact ⟨by omega, fun _ => by omega⟩
      · exact a3 k (by omega) hp
end Go.Proofs.Ytjcdkbalhleeeab

/-
  Plain law: each step of a walk is one of Bland's rule between corners, so no columns come twice and each walk ends. No program in sight.
-/
namespace Go.Proofs.Ytjcdkbalhleeeab

theorem cast_sum {f : Nat → Int} : ∀ {n : Nat}, ((sumN f n : Int) : Rat) = sumR (fun i => (f i : Rat)) n
  | 0 => rfl
  | n + 1 => by rw [sumN, sumR, Rat.intCast_add, cast_sum]
theorem sumR_split {f : Nat → Rat} {a : Nat} : ∀ {b : Nat}, sumR f (a + b) = sumR f a + sumR (fun i => f (a + i)) b
  | 0 => by simp [sumR]; grind
  | b + 1 => by rw [← Nat.add_assoc, sumR, sumR, sumR_split]; grind
theorem cast_ne {n : Int} (h : n ≠ 0) : (n : Rat) ≠ 0 := fun e => h (by exact_mod_cast e)
theorem cast_pos {n : Int} (h : 0 < n) : (0 : Rat) < (n : Rat) := by exact_mod_cast h

/-- A corner's columns, rows and gains as fractions. -/
def xq (c : CO) (j : Nat) : Rat := (c.xs.getD j 0 : Rat) / (c.xd : Rat)
def yq (c : CO) (i : Nat) : Rat := (c.ys.getD i 0 : Rat) / (c.yd : Rat)
def gq (c : CO) (j : Nat) : Rat := (c.gs.getD j 0 : Rat) / (c.gd : Rat)
def aq (p : PG) (i j : Nat) : Rat := (hasZ p i j : Rat)
def cq (p : PG) (j : Nat) : Rat := (costZ p j : Rat)

theorem zdiv (x : Rat) : ((0 : Int) : Rat) / x = 0 := by rw [show ((0 : Int) : Rat) = 0 from rfl]; grind
theorem div_eq {a b g : Int} (h : a = g * b) (hg : g ≠ 0) {e D : Int} (hd : D = g * e) (he : e ≠ 0) : (b : Rat) / (e : Rat) = (a : Rat) / (D : Rat) := by
  subst h hd
  rw [Rat.intCast_mul, Rat.intCast_mul]
  have := cast_ne hg; have := cast_ne he
  grind

section
variable {p : PG} {l : List Nat} {c : CO} {gx gy gg : Int}
theorem Corn.xq_eq (h : Corn p l c gx gy gg) (j : Nat) : xq c j = ((xall p l).getD j 0 : Rat) / (denZ p l : Rat) := div_eq (h.x j) h.nx h.dx (by have := h.px; omega)
theorem Corn.yq_eq (h : Corn p l c gx gy gg) (j : Nat) : yq c j = ((yall p l).getD j 0 : Rat) / (denZ p l : Rat) := div_eq (h.y j) h.ny h.dy (by have := h.py; omega)
theorem Corn.gq_eq (h : Corn p l c gx gy gg) (j : Nat) : gq c j = ((gall p l).getD j 0 : Rat) / (denZ p l : Rat) := div_eq (h.g j) h.ng h.dg (by have := h.pg; omega)
theorem Corn.rowQ (h : Corn p l c gx gy gg) {i : Nat} (hi : i < p.rows.length) : sumR (fun j => aq p i j * xq c j) (p.costs.length + p.rows.length) = ((mosts p).getD i 0 : Rat) := by
  have h1 := sum_has_x h.hr h.rows4 hi
  have h2 : ((sumN (fun j => hasZ p i j * (xall p l).getD j 0) (p.costs.length + p.rows.length) : Int) : Rat) = (((mosts p).getD i 0 * denZ p l : Int) : Rat) := by rw [h1]
  rw [cast_sum, Rat.intCast_mul] at h2
  have hd := cast_ne h.hd
  have e : sumR (fun j => aq p i j * xq c j) (p.costs.length + p.rows.length) = (1 / (denZ p l : Rat)) * sumR (fun j => ((hasZ p i j * (xall p l).getD j 0 : Int) : Rat)) (p.costs.length + p.rows.length) := by
    rw [← sumR_mul]
    refine sumR_congr fun j _ => ?_
    rw [h.xq_eq j, Rat.intCast_mul]; unfold aq; grind
  rw [e, h2]; grind
theorem Corn.offQ (h : Corn p l c gx gy gg) {j : Nat} (hj : j ∉ l) : xq c j = 0 := by
  rw [h.xq_eq j, xall_off h.hr hj]; exact zdiv _
theorem Corn.gainQ (h : Corn p l c gx gy gg) {j : Nat} (hj : j < p.costs.length + p.rows.length) : gq c j = cq p j - sumR (fun i => yq c i * aq p i j) p.rows.length := by
  rw [h.gq_eq j, gall_at hj]
  unfold gk
  have hd := cast_ne h.hd
  have e : sumR (fun i => yq c i * aq p i j) p.rows.length = (1 / (denZ p l : Rat)) * sumR (fun i => ((yk p l i * hasZ p i j : Int) : Rat)) p.rows.length := by
    rw [← sumR_mul]
    refine sumR_congr fun i hi => ?_
    rw [h.yq_eq i, yall_at hi, Rat.intCast_mul]; unfold aq; grind
  rw [e, ← cast_sum, Rat.intCast_sub, Rat.intCast_mul]
  unfold cq
  grind
theorem Corn.gainQ0 (h : Corn p l c gx gy gg) {j : Nat} (hj : j ∈ l) : gq c j = 0 := by
  obtain ⟨k, hk, rfl⟩ := List.mem_iff_getElem.1 hj
  have := h.gain_own (k := k) (by rw [← h.hr.len]; exact hk)
  simp only [List.getD, List.getElem?_eq_getElem hk, Option.getD_some] at this
  unfold gq
  simp only [List.getD]
  rw [this]; exact zdiv _
theorem sign_div {a b : Int} (hb : 0 < b) : ((0 : Rat) < (a : Rat) / (b : Rat) ↔ 0 < a) ∧ ((a : Rat) / (b : Rat) < 0 ↔ a < 0) := by
  have hb' := cast_pos hb
  have e : (a : Rat) / (b : Rat) * (b : Rat) = (a : Rat) := by grind
  constructor
  · constructor
    · intro h
      have := Rat.mul_pos h hb'
      rw [e] at this
      exact_mod_cast this
    · intro h
      have ha := cast_pos h
      apply Classical.byContradiction
      intro hn
      have := Rat.mul_nonneg (show (0 : Rat) ≤ -((a : Rat) / (b : Rat)) by grind) (show (0 : Rat) ≤ (b : Rat) by grind)
      grind
  · constructor
    · intro h
      have := Rat.mul_pos (show (0 : Rat) < -((a : Rat) / (b : Rat)) by grind) hb'
      have h2 : (0 : Rat) < -(a : Rat) := by grind
      have h3 : (a : Rat) < 0 := by grind
      exact_mod_cast h3
    · intro h
      have ha : (a : Rat) < 0 := by exact_mod_cast h
      apply Classical.byContradiction
      intro hn
      have := Rat.mul_nonneg (show (0 : Rat) ≤ (a : Rat) / (b : Rat) by grind) (show (0 : Rat) ≤ (b : Rat) by grind)
      grind
theorem nonneg_div {a b : Int} (hb : 0 < b) : (0 : Rat) ≤ (a : Rat) / (b : Rat) ↔ 0 ≤ a := by
  have h := (sign_div (a := a) hb).2
  constructor
  · intro h1
    apply Classical.byContradiction
    intro h2
    have := h.2 (by omega)
    grind
  · intro h1
    apply Classical.byContradiction
    intro h2
    have := h.1 (by grind)
    omega
end

/-! Only one way. -/
/-- The matrix with a column of 0s and one 1 in the place behind. -/
def unitC (A : Nat → Nat → Int) (m i : Nat) (r c : Nat) : Int := if c < m then A r c else if r = i then 1 else 0
set_option maxHeartbeats 4000000 in
theorem adj_left (A : Nat → Nat → Int) {m k j : Nat} (hm : m ≤ 4) (hk : k < m) (hj : j < m) : sumN (fun i => dtp (unitC A m i) m k m * A i j) m = if j = k then dtm A m else 0 := by
  unfold dtp dtm
  rcases (show m = 1 ∨ m = 2 ∨ m = 3 ∨ m = 4 by omega) with rfl | rfl | rfl | rfl
  · obtain rfl : k = 0 := by omega
    obtain rfl : j = 0 := by omega
    simp [sumN, dt1, unitC]
  · rcases (show k = 0 ∨ k = 1 by omega) with rfl | rfl <;> rcases (show j = 0 ∨ j = 1 by omega) with rfl | rfl <;> (simp [sumN, range2, dt2, unitC]; try grind)
  · rcases (show k = 0 ∨ k = 1 ∨ k = 2 by omega) with rfl | rfl | rfl <;> rcases (show j = 0 ∨ j = 1 ∨ j = 2 by omega) with rfl | rfl | rfl <;> (simp [sumN, range3, dt3, unitC]; try grind)
  · rcases (show k = 0 ∨ k = 1 ∨ k = 2 ∨ k = 3 by omega) with rfl | rfl | rfl | rfl <;> rcases (show j = 0 ∨ j = 1 ∨ j = 2 ∨ j = 3 by omega) with rfl | rfl | rfl | rfl <;> (simp [sumN, range4, dt4, dt3, unitC]; try grind)

/-- A sum over all columns, of what is 0 off l. -/
theorem sum_support {p : PG} {l : List Nat} (hr : RightL p l) {f : Nat → Rat} (hf : ∀ j, j ∉ l → f j = 0) : sumR f (p.costs.length + p.rows.length) = sumR (fun k => f (l.getD k 0)) p.rows.length := by
  have h1 : ∀ j, f j = sumR (fun k => if l.getD k 0 = j then f j else 0) p.rows.length := by
    intro j
    by_cases hj : j ∈ l
    · obtain ⟨k, hk, rfl⟩ := List.mem_iff_getElem.1 hj
      have hk' : k < p.rows.length := by rw [← hr.len]; exact hk
      have e : l.getD k 0 = l[k] := by simp [List.getD, List.getElem?_eq_getElem hk]
      rw [sumR_one hk', if_pos e]
      intro i hi hne
      rw [if_neg]
      intro q
      rw [← e] at q
      rcases Nat.lt_or_gt_of_ne hne with h | h
      · have := hr.ne h hk; omega
      · have := hr.ne h (by rw [hr.len]; exact hi); omega
    · rw [hf j hj]
      refine Eq.symm ((sumR_congr fun k _ => ?_).trans sumR_zero)
      split <;> rfl
  rw [sumR_congr (g := fun j => sumR (fun k => if l.getD k 0 = j then f j else 0) p.rows.length) fun j _ => h1 j]
  rw [← sumR_comm (f := fun k j => if l.getD k 0 = j then f j else 0)]
  refine sumR_congr fun k hk => ?_
  rw [sumR_one (hr.at_lt (by rw [hr.len]; exact hk)), if_pos rfl]
  intro j _ hne
  rw [if_neg (fun q => hne q.symm)]
theorem kernel {p : PG} {l : List Nat} (hr : RightL p l) (h4 : p.rows.length ≤ 4) (hd : denZ p l ≠ 0) {z : Nat → Rat} (hz : ∀ j, j ∉ l → z j = 0)
    (hA : ∀ i, i < p.rows.length → sumR (fun j => aq p i j * z j) (p.costs.length + p.rows.length) = 0) : ∀ j, z j = 0 := by
  intro j
  by_cases hj : j ∈ l
  rotate_left
  · exact hz j hj
  obtain ⟨k, hk, rfl⟩ := List.mem_iff_getElem.1 hj
  have hk' : k < p.rows.length := by rw [← hr.len]; exact hk
  have e : l.getD k 0 = l[k] := by simp [List.getD, List.getElem?_eq_getElem hk]
  rw [← e]
  have h1 : ∀ i, i < p.rows.length → sumR (fun k => (matD p l i k : Rat) * z (l.getD k 0)) p.rows.length = 0 := by
    intro i hi
    rw [← hA i hi, sum_support hr (fun j hj => by rw [hz j hj]; grind)]
    refine sumR_congr fun q hq => ?_
    unfold matD aq
    rw [if_pos (by rw [hr.len]; exact hq)]
  have h2 : sumR (fun i => (dtp (unitC (matD p l) p.rows.length i) p.rows.length k p.rows.length : Rat) * sumR (fun q => (matD p l i q : Rat) * z (l.getD q 0)) p.rows.length) p.rows.length = 0 :=
    (sumR_congr fun i hi => by rw [h1 i hi]; grind).trans sumR_zero
  have h3 : sumR (fun i => (dtp (unitC (matD p l) p.rows.length i) p.rows.length k p.rows.length : Rat) * sumR (fun q => (matD p l i q : Rat) * z (l.getD q 0)) p.rows.length) p.rows.length
      = sumR (fun q => (if q = k then (denZ p l : Rat) else 0) * z (l.getD q 0)) p.rows.length := by
    rw [sumR_congr (g := fun i => sumR (fun q => (dtp (unitC (matD p l) p.rows.length i) p.rows.length k p.rows.length : Rat) * ((matD p l i q : Rat) * z (l.getD q 0))) p.rows.length) fun i _ => by rw [sumR_mul]]
    rw [sumR_comm]
    refine sumR_congr fun q hq => ?_
    have ha := adj_left (matD p l) h4 hk' hq
    have e1 : sumR (fun i => (dtp (unitC (matD p l) p.rows.length i) p.rows.length k p.rows.length : Rat) * ((matD p l i q : Rat) * z (l.getD q 0))) p.rows.length
        = z (l.getD q 0) * ((sumN (fun i => dtp (unitC (matD p l) p.rows.length i) p.rows.length k p.rows.length * matD p l i q) p.rows.length : Int) : Rat) := by
      rw [cast_sum, ← sumR_mul]
      refine sumR_congr fun i _ => ?_
      rw [Rat.intCast_mul]; grind
    rw [e1, ha]
    unfold denZ
    by_cases hqk : q = k
    · rw [if_pos hqk, if_pos hqk]; grind
    · rw [if_neg hqk, if_neg hqk]; simp
  rw [h3, sumR_one hk' (fun q _ hq => by rw [if_neg hq]; grind), if_pos rfl] at h2
  have := cast_ne hd
  grind
end Go.Proofs.Ytjcdkbalhleeeab

/-
  Plain law: the walk from a corner that goes ends, comes to no columns twice, and what it is worth never falls. No program in sight.
-/
namespace Go.Proofs.Ytjcdkbalhleeeab

/-- Columns that are right, have one way, and go. -/
structure OKb (p : PG) (l : List Nat) : Prop where
  hp : mayPB p = true
  hr : RightL p l
  hd : denZ p l ≠ 0
  hx : nonneg (lookN p l).xs = true

theorem corn_of {p : PG} {l : List Nat} (hp : mayPB p = true) (hr : RightL p l) (hd : denZ p l ≠ 0) : ∃ gx gy gg, Corn p l (lookN p l) gx gy gg := by
  have := look_corn (look_ints hp hr hd)
  rwa [nats_ints] at this
theorem getD_map {l : List Nat} {f : Nat → Int} {k : Nat} (h : k < l.length) : (l.map f).getD k 0 = f (l.getD k 0) := by
  simp [List.getD, List.getElem?_eq_getElem h]
theorem mem_getD {l : List Nat} {j : Nat} : j ∈ l ↔ ∃ k, k < l.length ∧ l.getD k 0 = j := by
  constructor
  · intro h
    obtain ⟨k, hk, rfl⟩ := List.mem_iff_getElem.1 h
    exact ⟨k, hk, by simp [List.getD, List.getElem?_eq_getElem hk]⟩
  · rintro ⟨k, hk, rfl⟩
    simp only [List.getD, List.getElem?_eq_getElem hk, Option.getD_some]
    exact List.getElem_mem hk

/-- What a step computes. -/
structure Stp (p : PG) (l : List Nat) (r k : Nat) : Prop where
  hin : inZ (lookN p l).gs = some r
  hout : outZ (lookN p l).xs l (lessZ p l r) l.length = some k
theorem stp_of {p : PG} {l l' : List Nat} (h : nxtZ p l = some l') : ∃ r k, Stp p l r k ∧ l' = insN (l.eraseIdx k) r := by
  unfold nxtZ at h
  split at h
  · simp at h
  · rename_i r hr
    split at h
    · simp at h
    · rename_i k hk
      simp at h
      exact ⟨r, k, ⟨hr, hk⟩, h.symm⟩

section
variable {p : PG} {l : List Nat} {r k : Nat}
theorem mem_erase (hr : RightL p l) (hk : k < l.length) {j : Nat} : j ∈ l.eraseIdx k ↔ j ∈ l ∧ j ≠ l.getD k 0 := by
  rw [List.mem_eraseIdx_iff_getElem]
  constructor
  · rintro ⟨i, hi, hne, rfl⟩
    refine ⟨List.getElem_mem hi, ?_⟩
    have e : l[i] = l.getD i 0 := by simp [List.getD, List.getElem?_eq_getElem hi]
    rw [e]
    rcases Nat.lt_or_gt_of_ne hne with h | h
    · have := hr.ne h hk; omega
    · have := hr.ne h hi; omega
  · rintro ⟨h1, h2⟩
    obtain ⟨i, hi, rfl⟩ := List.mem_iff_getElem.1 h1
    refine ⟨i, hi, fun e => h2 ?_, rfl⟩
    subst e
    simp [List.getD, List.getElem?_eq_getElem hi]
theorem right_next (hr : RightL p l) (hk : k < l.length) (hrl : r ∉ l) (hN : r < p.costs.length + p.rows.length) : RightL p (insN (l.eraseIdx k) r) := by
  refine ⟨?_, ?_, ?_⟩
  · rw [length_insN, List.length_eraseIdx_of_lt hk]; have := hr.len; omega
  · intro j hj
    rcases mem_insN.1 hj with h | h
    · exact hr.lt j ((mem_erase hr hk).1 h).1
    · omega
  · exact insN_pw (hr.pw.sublist (List.eraseIdx_sublist l k)) (fun q => hrl ((mem_erase hr hk).1 q).1)
theorem den_dt (hr : l.length = p.rows.length) : denZ p l = dt (hasZ p) (List.range p.rows.length) l := by
  unfold denZ dtm
  have e : dt (matD p l) (List.range p.rows.length) (List.range p.rows.length) = dt (fun i j => hasZ p i (l.getD j 0)) (List.range p.rows.length) (List.range p.rows.length) := by
    refine dt_congr2 fun i _ j hj => ?_
    have : j < p.rows.length := by simpa using hj
    unfold matD; rw [if_pos (by omega)]
  rw [e, dt_cols (f := fun j => l.getD j 0)]
  congr 1
  refine List.ext_getElem (by simp; omega) fun i h1 h2 => ?_
  simp [List.getD, List.getElem?_eq_getElem h2]
theorem xk_dt (hr : l.length = p.rows.length) (_hk : k < p.rows.length) : xk (qOf p r) l k = dt (hasZ p) (List.range p.rows.length) (l.set k r) := by
  unfold xk dtp
  rw [qOf_len]
  have e : dt (matD (qOf p r) l) (List.range p.rows.length) ((List.range p.rows.length).set k p.rows.length) =
      dt (fun i j => hasZ p i (if j < l.length then l.getD j 0 else r)) (List.range p.rows.length) ((List.range p.rows.length).set k p.rows.length) := by
    refine dt_congr2 fun i hi j _ => ?_
    have : i < p.rows.length := by simpa using hi
    unfold matD
    by_cases hj : j < l.length
    · rw [if_pos hj, if_pos hj, qOf_has]
    · rw [if_neg hj, if_neg hj, qOf_most p r this]
  rw [e, dt_cols (f := fun j => if j < l.length then l.getD j 0 else r)]
  congr 1
  refine List.ext_getElem (by simp; omega) fun i h1 h2 => ?_
  have h2' : i < l.length := by simpa using h2
  simp only [List.getElem_map, List.getElem_set]
  by_cases e : k = i
  · subst e; rw [if_pos rfl, if_pos rfl, if_neg (by omega)]
  · rw [if_neg e, if_neg e, List.getElem_range, if_pos h2']
    simp [List.getD, List.getElem?_eq_getElem h2']
theorem den_next (hr : RightL p l) (h4 : p.rows.length ≤ 4) (hk : k < p.rows.length) (hn : xk (qOf p r) l k ≠ 0) (hrl : r ∉ l) (hN : r < p.costs.length + p.rows.length) : denZ p (insN (l.eraseIdx k) r) ≠ 0 := by
  have hkl : k < l.length := by rw [hr.len]; exact hk
  have hR := right_next hr hkl hrl hN
  rw [den_dt hR.len]
  rw [xk_dt hr.len hk] at hn
  have e1 : l.set k r = (l.eraseIdx k).take k ++ r :: (l.eraseIdx k).drop k := by
    rw [List.set_eq_take_append_cons_drop, if_pos hkl]
    rw [List.eraseIdx_eq_take_drop_succ]
    have hl1 : (l.take k).length = k := by rw [List.length_take]; omega
    rw [List.take_left' hl1, List.drop_left' hl1]
  have hlen : (l.eraseIdx k).length + 1 = (List.range p.rows.length).length := by
    rw [List.length_eraseIdx_of_lt hkl, List.length_range]; have := hr.len; omega
  have h1 := dt_ins (hasZ p) (rs := List.range p.rows.length) (w := l.eraseIdx k) (r := r) (by simpa using h4) hlen k (by rw [List.length_eraseIdx_of_lt hkl]; omega)
  rw [insN_take]
  have h2 := dt_ins (hasZ p) (rs := List.range p.rows.length) (w := l.eraseIdx k) (r := r) (by simpa using h4) hlen ((l.eraseIdx k).takeWhile (fun j => decide (j < r))).length (List.takeWhile_prefix _).length_le
  rw [e1] at hn
  intro h0
  rw [h0] at h2
  rw [← h2] at h1
  exact hn (Int.natAbs_eq_zero.1 h1)
end

theorem getD_nonneg {l : List Int} (h : nonneg l = true) (j : Nat) : 0 ≤ l.getD j 0 := nonneg_at h j
theorem nonneg_of {l : List Int} (h : ∀ j, 0 ≤ l.getD j 0) : nonneg l = true := by
  unfold nonneg
  rw [List.all_eq_true]
  intro x hx
  obtain ⟨j, hj, rfl⟩ := List.mem_iff_getElem.1 hx
  have := h j
  simpa [List.getD, List.getElem?_eq_getElem hj] using this

/-- How all columns change as column r grows by one. -/
def dq (p : PG) (l : List Nat) (r j : Nat) : Rat := if j = r then 1 else -(xq (lookN (qOf p r) l) j)
def tq (p : PG) (l : List Nat) (r k : Nat) : Rat := xq (lookN p l) (l.getD k 0) / xq (lookN (qOf p r) l) (l.getD k 0)

/-- Facts of the direction. -/
theorem dir_ker {p : PG} {l : List Nat} (hp : mayPB p = true) (hr : RightL p l) (hd : denZ p l ≠ 0) {r : Nat} (hrl : r ∉ l) (hN : r < p.costs.length + p.rows.length) {i : Nat} (hi : i < p.rows.length) :
    sumR (fun j => aq p i j * dq p l r j) (p.costs.length + p.rows.length) = 0 := by
  obtain ⟨a1, a2, a3, hq⟩ := corn_of (qOf_may hp r) (qOf_right hr r) (by rw [qOf_den hr.len]; exact hd)
  have h1 := hq.rowQ (i := i) (by rw [qOf_len]; exact hi)
  rw [qOf_most p r hi, qOf_len] at h1
  simp only [show (qOf p r).costs = p.costs from rfl] at h1
  have e : sumR (fun j => aq p i j * dq p l r j) (p.costs.length + p.rows.length) = sumR (fun j => (if j = r then aq p i r else 0) + (-1) * (aq (qOf p r) i j * xq (lookN (qOf p r) l) j)) (p.costs.length + p.rows.length) := by
    refine sumR_congr fun j _ => ?_
    unfold dq
    have ha : aq (qOf p r) i j = aq p i j := by unfold aq; rw [qOf_has]
    rw [ha]
    by_cases hj : j = r
    · subst hj; rw [if_pos rfl, if_pos rfl, hq.offQ hrl]; grind
    · rw [if_neg hj, if_neg hj]; grind
  rw [e, sumR_add, sumR_mul, h1, sumR_one hN (fun j _ hj => if_neg hj), if_pos rfl]
  unfold aq; grind

theorem step_ok {p : PG} {l : List Nat} (ho : OKb p l) {r k : Nat} (hs : Stp p l r k) :
    OKb p (insN (l.eraseIdx k) r) ∧
    Piv p.rows.length (p.costs.length + p.rows.length) (aq p) (cq p) l (insN (l.eraseIdx k) r) (xq (lookN p l)) (xq (lookN p (insN (l.eraseIdx k) r))) (gq (lookN p l)) (dq p l r) (yq (lookN p l)) r (l.getD k 0) (tq p l r k) := by
  obtain ⟨hp, hr, hd, hx⟩ := ho
  obtain ⟨hin, hout⟩ := hs
  obtain ⟨gx, gy, gg, hc⟩ := corn_of hp hr hd
  obtain ⟨a1, a2, a3, hq⟩ := corn_of (qOf_may hp r) (qOf_right hr r) (by rw [qOf_den hr.len]; exact hd)
  have h4 := hc.rows4
  obtain ⟨i1, i2, i3⟩ := inZ_some hin
  rw [hc.lg] at i1
  have hx0 := getD_nonneg hx
  obtain ⟨o1, o2, o3⟩ := outZ_some hx0 hout
  have hk : k < p.rows.length := by rw [← hr.len]; exact o1
  have hrl : r ∉ l := by
    intro h
    obtain ⟨q, hq1, rfl⟩ := mem_getD.1 h
    have := hc.gain_own (k := q) (by rw [← hr.len]; exact hq1)
    omega
  have hs_mem : l.getD k 0 ∈ l := mem_getD.2 ⟨k, o1, rfl⟩
  have hless : ∀ i, i < l.length → (lessZ p l r).getD i 0 = (lookN (qOf p r) l).xs.getD (l.getD i 0) 0 := fun i hi => by unfold lessZ; rw [getD_map hi]
  rw [hless k o1] at o2
  have hxd : 0 < (lookN p l).xd := hc.px
  have hqd : 0 < (lookN (qOf p r) l).xd := hq.px
  have hsp : 0 < xq (lookN (qOf p r) l) (l.getD k 0) := (sign_div hqd).1.2 o2
  have hxs0 : ∀ j, 0 ≤ xq (lookN p l) j := fun j => (nonneg_div hxd).2 (hx0 j)
  have ht : tq p l r k * xq (lookN (qOf p r) l) (l.getD k 0) = xq (lookN p l) (l.getD k 0) := by unfold tq; grind
  have ht0 : 0 ≤ tq p l r k := by
    apply Classical.byContradiction
    intro hn
    have := Rat.mul_pos (show 0 < -(tq p l r k) by grind) hsp
    have := hxs0 (l.getD k 0)
    grind
  have hsr : l.getD k 0 ≠ r := fun e => hrl (e ▸ hs_mem)
  have hds : dq p l r (l.getD k 0) = -(xq (lookN (qOf p r) l) (l.getD k 0)) := by unfold dq; rw [if_neg hsr]
  have hmin : ∀ i, i < l.length → 0 < xq (lookN (qOf p r) l) (l.getD i 0) → tq p l r k * xq (lookN (qOf p r) l) (l.getD i 0) ≤ xq (lookN p l) (l.getD i 0) ∧ (tq p l r k * xq (lookN (qOf p r) l) (l.getD i 0) = xq (lookN p l) (l.getD i 0) → k ≤ i) := by
    intro i hi hpos
    have hpi : 0 < (lookN (qOf p r) l).xs.getD (l.getD i 0) 0 := (sign_div hqd).1.1 hpos
    have := o3 i hi (by rw [hless i hi]; exact hpi)
    rw [hless i hi, hless k o1] at this
    obtain ⟨m1, m2⟩ := this
    have e1 : xq (lookN p l) (l.getD k 0) * xq (lookN (qOf p r) l) (l.getD i 0) = (((lookN p l).xs.getD (l.getD k 0) 0 * (lookN (qOf p r) l).xs.getD (l.getD i 0) 0 : Int) : Rat) / (((lookN p l).xd * (lookN (qOf p r) l).xd : Int) : Rat) := by
      unfold xq; rw [Rat.intCast_mul, Rat.intCast_mul]
      have := cast_pos hxd; have := cast_pos hqd; grind
    have e2 : xq (lookN p l) (l.getD i 0) * xq (lookN (qOf p r) l) (l.getD k 0) = (((lookN p l).xs.getD (l.getD i 0) 0 * (lookN (qOf p r) l).xs.getD (l.getD k 0) 0 : Int) : Rat) / (((lookN p l).xd * (lookN (qOf p r) l).xd : Int) : Rat) := by
      unfold xq; rw [Rat.intCast_mul, Rat.intCast_mul]
      have := cast_pos hxd; have := cast_pos hqd; grind
    have hD : 0 < (lookN p l).xd * (lookN (qOf p r) l).xd := Int.mul_pos hxd hqd
    have e3 : xq (lookN p l) (l.getD i 0) * xq (lookN (qOf p r) l) (l.getD k 0) - xq (lookN p l) (l.getD k 0) * xq (lookN (qOf p r) l) (l.getD i 0) =
        (((lookN p l).xs.getD (l.getD i 0) 0 * (lookN (qOf p r) l).xs.getD (l.getD k 0) 0 - (lookN p l).xs.getD (l.getD k 0) 0 * (lookN (qOf p r) l).xs.getD (l.getD i 0) 0 : Int) : Rat) / (((lookN p l).xd * (lookN (qOf p r) l).xd : Int) : Rat) := by
      rw [e1, e2, Rat.intCast_sub]; grind
    have s1 : 0 ≤ xq (lookN p l) (l.getD i 0) * xq (lookN (qOf p r) l) (l.getD k 0) - xq (lookN p l) (l.getD k 0) * xq (lookN (qOf p r) l) (l.getD i 0) := by
      rw [e3]; exact (nonneg_div hD).2 (by omega)
    have s2 : xq (lookN p l) (l.getD i 0) * xq (lookN (qOf p r) l) (l.getD k 0) - xq (lookN p l) (l.getD k 0) * xq (lookN (qOf p r) l) (l.getD i 0) = (xq (lookN p l) (l.getD i 0) - tq p l r k * xq (lookN (qOf p r) l) (l.getD i 0)) * xq (lookN (qOf p r) l) (l.getD k 0) := by
      rw [← ht]; grind
    constructor
    · apply Classical.byContradiction
      intro hn
      have := Rat.mul_pos (show 0 < -(xq (lookN p l) (l.getD i 0) - tq p l r k * xq (lookN (qOf p r) l) (l.getD i 0)) by grind) hsp
      grind
    · intro he
      apply m2
      have z : (xq (lookN p l) (l.getD i 0) - tq p l r k * xq (lookN (qOf p r) l) (l.getD i 0)) * xq (lookN (qOf p r) l) (l.getD k 0) = 0 := by rw [he]; grind
      rw [z] at s2
      apply Classical.byContradiction
      intro hne
      have := (sign_div (a := (lookN p l).xs.getD (l.getD i 0) 0 * (lookN (qOf p r) l).xs.getD (l.getD k 0) 0 - (lookN p l).xs.getD (l.getD k 0) 0 * (lookN (qOf p r) l).xs.getD (l.getD i 0) 0) hD).1.2 (by omega)
      rw [← e3, s2] at this
      exact absurd this (by grind)
  have hxk : xk (qOf p r) l k ≠ 0 := by
    have h1 := hq.x (l.getD k 0)
    rw [xall_at (qOf_right hr r) (by rw [qOf_len]; exact hk)] at h1
    rw [h1]
    intro h0
    rcases Int.mul_eq_zero.1 h0 with e | e
    · exact hq.nx e
    · omega
  have hR := right_next hr o1 hrl i1
  have hD' := den_next hr h4 hk hxk hrl i1
  obtain ⟨b1, b2, b3, hc'⟩ := corn_of hp hR hD'
  have hstep : ∀ j, xq (lookN p (insN (l.eraseIdx k) r)) j = xq (lookN p l) j + tq p l r k * dq p l r j := by
    have hz := kernel hR h4 hD' (z := fun j => xq (lookN p (insN (l.eraseIdx k) r)) j - (xq (lookN p l) j + tq p l r k * dq p l r j)) ?_ ?_
    · intro j; have := hz j; grind
    · intro j hj
      have hj' : ¬ (j ∈ l ∧ j ≠ l.getD k 0) ∧ j ≠ r := ⟨fun q => hj (mem_insN.2 (Or.inl ((mem_erase hr o1).2 q))), fun q => hj (mem_insN.2 (Or.inr q))⟩
      rw [hc'.offQ hj]
      by_cases hjs : j = l.getD k 0
      · subst hjs; rw [hds, ← ht]; grind
      · have hjl : j ∉ l := fun q => hj'.1 ⟨q, hjs⟩
        rw [hc.offQ hjl]
        unfold dq
        rw [if_neg hj'.2, hq.offQ hjl]; grind
    · intro i hi
      have k1 := hc'.rowQ hi
      have k2 := hc.rowQ hi
      have k3 := dir_ker hp hr hd hrl i1 hi
      have e : sumR (fun j => aq p i j * (xq (lookN p (insN (l.eraseIdx k) r)) j - (xq (lookN p l) j + tq p l r k * dq p l r j))) (p.costs.length + p.rows.length) =
          sumR (fun j => aq p i j * xq (lookN p (insN (l.eraseIdx k) r)) j + ((-1) * (aq p i j * xq (lookN p l) j) + (-(tq p l r k)) * (aq p i j * dq p l r j))) (p.costs.length + p.rows.length) :=
        sumR_congr fun j _ => by grind
      rw [e, sumR_add, sumR_add, sumR_mul, sumR_mul, k1, k2, k3]; grind
  have hdl : ∀ j, j ∈ l → dq p l r j = -(xq (lookN (qOf p r) l) j) := fun j hj => by unfold dq; rw [if_neg (show j ≠ r from fun e => hrl (by rw [← e]; exact hj))]
  refine ⟨⟨hp, hR, hD', nonneg_of fun j => ?_⟩, ?_⟩
  · rw [← nonneg_div hc'.px]
    show 0 ≤ xq (lookN p (insN (l.eraseIdx k) r)) j
    rw [hstep j]
    by_cases hjr : j = r
    · subst hjr
      rw [hc.offQ hrl]; unfold dq; rw [if_pos rfl]; grind
    · by_cases hjl : j ∈ l
      · rw [hdl j hjl]
        by_cases hpos : 0 < xq (lookN (qOf p r) l) j
        · obtain ⟨i, hi, rfl⟩ := mem_getD.1 hjl
          have := (hmin i hi hpos).1
          grind
        · have h1 := Rat.mul_nonneg ht0 (show 0 ≤ -(xq (lookN (qOf p r) l) j) by grind)
          have h2 := hxs0 j
          grind
      · rw [hc.offQ hjl]; unfold dq; rw [if_neg hjr, hq.offQ hjl]; grind
  · refine ⟨hrl, i1, hs_mem, hr.lt, ?_, fun j hj => hc.gainQ hj, fun j hj => hc.gainQ0 hj, (sign_div hc.pg).1.2 i2, ?_, fun i hi => dir_ker hp hr hd hrl i1 hi, ?_, ?_, ?_, ht0, ?_, ?_, fun j hj => hc.offQ hj, hstep⟩
    · intro j
      rw [mem_insN, mem_erase hr o1]
    · intro j hj
      have := i3 j hj
      apply Classical.byContradiction
      intro hn
      have := (sign_div hc.pg).1.1 (show 0 < gq (lookN p l) j by grind)
      omega
    · unfold dq; rw [if_pos rfl]
    · intro j hj hjr; unfold dq; rw [if_neg hjr, hq.offQ hj]; grind
    · rw [hds]; grind
    · rw [hds, ← ht]; grind
    · intro j hj hdj
      rw [hdl j hj] at hdj ⊢
      obtain ⟨i, hi, rfl⟩ := mem_getD.1 hj
      obtain ⟨m1, m2⟩ := hmin i hi (by grind)
      refine ⟨by grind, fun e => ?_⟩
      have hki := m2 (by grind)
      rcases Nat.lt_or_ge k i with h | h
      · have := hr.ne h hi; omega
      · have : k = i := by omega
        subst this; exact Nat.le_refl _

/-- The columns that a walk comes to. -/
def wk (p : PG) (l : List Nat) : Nat → Option (List Nat)
  | 0 => some l
  | n + 1 => (wk p l n).bind (nxtZ p)
theorem wk_ok {p : PG} {l : List Nat} (ho : OKb p l) : ∀ {n : Nat} {l' : List Nat}, wk p l n = some l' → OKb p l'
  | 0, l', h => by simp [wk] at h; exact h ▸ ho
  | n + 1, l', h => by
    simp only [wk, Option.bind_eq_some_iff] at h
    obtain ⟨l1, h1, h2⟩ := h
    obtain ⟨r, k, hs, rfl⟩ := stp_of h2
    exact (step_ok (wk_ok ho h1) hs).1
theorem wk_some {p : PG} {l : List Nat} {n : Nat} (h : wk p l n ≠ none) : ∀ {i}, i ≤ n → ∃ l', wk p l i = some l' := by
  intro i hi
  cases hw : wk p l i with
  | some l' => exact ⟨l', rfl⟩
  | none =>
    exfalso
    have : ∀ k, wk p l (i + k) = none := by
      intro k
      induction k with
      | zero => exact hw
      | succ k ih => rw [show i + (k + 1) = (i + k) + 1 by omega, wk, ih]; rfl
    have := this (n - i)
    rw [show i + (n - i) = n by omega] at this
    exact h this

set_option maxHeartbeats 1000000 in
/-- No columns come twice. -/
theorem wk_once {p : PG} {l : List Nat} (ho : OKb p l) {a b : Nat} (hab : a < b) {la lb : List Nat} (ha : wk p l a = some la) (hb : wk p l b = some lb) : la ≠ lb := by
  intro he
  have hall : ∀ i, ∃ l', i ≤ b → wk p l i = some l' := by
    intro i
    by_cases hi : i ≤ b
    · obtain ⟨l', h⟩ := wk_some (n := b) (by rw [hb]; simp) hi
      exact ⟨l', fun _ => h⟩
    · exact ⟨[], fun h => absurd h hi⟩
  let L : Nat → List Nat := fun i => Classical.choose (hall i)
  have hL : ∀ i, i ≤ b → wk p l i = some (L i) := fun i hi => Classical.choose_spec (hall i) hi
  have hst : ∀ i, ∃ r k, i < b → Stp p (L i) r k ∧ L (i + 1) = insN ((L i).eraseIdx k) r := by
    intro i
    by_cases hi : i < b
    · have h1 := hL (i + 1) (by omega)
      rw [wk, hL i (by omega)] at h1
      obtain ⟨r, k, h2, h3⟩ := stp_of h1
      exact ⟨r, k, fun _ => ⟨h2, h3⟩⟩
    · exact ⟨0, 0, fun h => absurd h hi⟩
  let R : Nat → Nat := fun i => Classical.choose (hst i)
  let K : Nat → Nat := fun i => Classical.choose (Classical.choose_spec (hst i))
  have hS : ∀ i, i < b → Stp p (L i) (R i) (K i) ∧ L (i + 1) = insN ((L i).eraseIdx (K i)) (R i) := fun i hi => Classical.choose_spec (Classical.choose_spec (hst i)) hi
  have ea : L a = la := by have := hL a (by omega); rw [ha] at this; simpa using this.symm
  have eb : L b = lb := by have := hL b (by omega); rw [hb] at this; simpa using this.symm
  have eab : L a = L b := by rw [ea, eb, he]
  refine bland (m := p.rows.length) (N := p.costs.length + p.rows.length) (A := aq p) (c := cq p) (L := L) (X := fun i => xq (lookN p (L i))) (G := fun i => gq (lookN p (L i)))
    (D := fun i => dq p (L i) (R i)) (Y := fun i => yq (lookN p (L i))) (R := R) (S := fun i => (L i).getD (K i) 0) (T := fun i => tq p (L i) (R i) (K i)) hab ?_ ?_ ?_ ?_
  · intro i h1 h2
    obtain ⟨h3, h4⟩ := hS i h2
    rw [h4]
    exact (step_ok (wk_ok ho (hL i (by omega))) h3).2
  · intro j; rw [eab]
  · intro j; show xq (lookN p (L b)) j = xq (lookN p (L a)) j; rw [eab]
  · intro i h1 h2 j hj
    obtain ⟨gx, gy, gg, hc⟩ := corn_of (wk_ok ho (hL i h2)).hp (wk_ok ho (hL i h2)).hr (wk_ok ho (hL i h2)).hd
    exact hc.offQ hj

/-! Each walk ends. -/
def code (l : List Nat) : Nat → Nat
  | 0 => 0
  | n + 1 => code l n + if n ∈ l then 2 ^ n else 0
theorem code_lt (l : List Nat) : ∀ n, code l n < 2 ^ n
  | 0 => by simp [code]
  | n + 1 => by
    have := code_lt l n
    rw [code, Nat.pow_succ]
    split <;> omega
theorem code_inj {l l' : List Nat} : ∀ {n : Nat}, code l n = code l' n → ∀ j, j < n → (j ∈ l ↔ j ∈ l')
  | 0, _, j, hj => by omega
  | n + 1, h, j, hj => by
    have h1 := code_lt l n
    have h2 := code_lt l' n
    rw [code, code] at h
    have hn : (n ∈ l ↔ n ∈ l') := by
      by_cases a : n ∈ l <;> by_cases b : n ∈ l' <;> simp only [a, b, if_true, if_false] at h ⊢ <;> omega
    have he : code l n = code l' n := by
      by_cases a : n ∈ l
      · rw [if_pos a, if_pos (hn.1 a)] at h; omega
      · rw [if_neg a, if_neg (fun q => a (hn.2 q))] at h; omega
    by_cases e : j = n
    · subst e; exact hn
    · exact code_inj he j (by omega)
theorem pw_ext : ∀ {l l' : List Nat}, l.Pairwise (· < ·) → l'.Pairwise (· < ·) → (∀ j, j ∈ l ↔ j ∈ l') → l = l'
  | [], [], _, _, _ => rfl
  | [], b :: l', _, _, h => by have := (h b).2 (by simp); simp at this
  | a :: l, [], _, _, h => by have := (h a).1 (by simp); simp at this
  | a :: l, b :: l', h1, h2, h => by
    rw [List.pairwise_cons] at h1 h2
    have e : a = b := by
      have ha := (h a).1 (by simp)
      have hb := (h b).2 (by simp)
      rcases List.mem_cons.1 ha with q | q
      · exact q
      · rcases List.mem_cons.1 hb with q' | q'
        · exact q'.symm
        · have := h1.1 b q'; have := h2.1 a q; omega
    subst e
    rw [pw_ext h1.2 h2.2 fun j => ?_]
    have := h j
    simp only [List.mem_cons] at this
    constructor
    · intro q
      rcases this.1 (Or.inr q) with e | e
      · have := h1.1 j q; omega
      · exact e
    · intro q
      rcases this.2 (Or.inr q) with e | e
      · have := h2.1 j q; omega
      · exact e
/-- A walk ends. -/
theorem wk_ends {p : PG} {l : List Nat} (ho : OKb p l) : wk p l (2 ^ (p.costs.length + p.rows.length)) = none := by
  apply Classical.byContradiction
  intro hn
  have hall := fun {i} => wk_some (p := p) (l := l) hn (i := i)
  obtain ⟨i, j, hij, hj, he⟩ := pig (2 ^ (p.costs.length + p.rows.length)) (fun i => code ((wk p l i).getD []) (p.costs.length + p.rows.length)) (fun i _ => code_lt _ _)
  obtain ⟨li, hi⟩ := hall (i := i) (by omega)
  obtain ⟨lj, hj'⟩ := hall (i := j) (by omega)
  rw [hi, hj'] at he
  simp only [Option.getD_some] at he
  have oi := wk_ok ho hi
  have oj := wk_ok ho hj'
  refine wk_once ho hij hi hj' (pw_ext oi.hr.pw oj.hr.pw fun q => ?_)
  by_cases hq : q < p.costs.length + p.rows.length
  · exact code_inj he q hq
  · exact ⟨fun h => absurd (oi.hr.lt q h) hq, fun h => absurd (oj.hr.lt q h) hq⟩
end Go.Proofs.Ytjcdkbalhleeeab

/-
  Plain words for chapter 7: how far a corner stays best, by the program and by the document; and that both are one. No program in sight.
-/
namespace Go.Proofs.Ytjcdkbalhleeeab

/-- An end of a span. -/
structure EN where
  op : Bool
  n : Int
  d : Int
deriving DecidableEq
/-- A span that becomes narrower. -/
structure NW where
  fr : EN
  to : EN
  no : Bool
deriving DecidableEq
def openE : EN := ⟨true, 0, 0⟩
def zeroE : EN := ⟨false, 0, 0⟩
def endE (n d : Int) : EN := ⟨false, frN n d, ptD [n] d⟩
/-- The program's step: a, and t times b, to be 0 or below. -/
def belowZ (s : NW) (a b : Int) : NW :=
  if b = 0 then ⟨s.fr, s.to, s.no || decide (0 < a)⟩
  else if 0 < b ∧ (s.to.op = true ∨ lessB (frN (-a) b) (ptD [-a] b) s.to.n s.to.d = true) then ⟨s.fr, endE (-a) b, s.no⟩
  else if b < 0 ∧ (s.fr.op = true ∨ lessB s.fr.n s.fr.d (frN (-a) b) (ptD [-a] b) = true) then ⟨endE (-a) b, s.to, s.no⟩
  else s
/-- The document's comparison. -/
def cmpZ (a b c d : Int) : Int := a * d - c * b
/-- The document's step: a, and t times b, to be 0 or above. -/
def aboveZ (s : NW) (a b : Int) : NW :=
  if b = 0 then ⟨s.fr, s.to, s.no || decide (a < 0)⟩
  else
    let s1 : NW := if 0 < b ∧ (s.fr.op = true ∨ 0 < cmpZ (frN (0 - a) b) (ptD [0 - a] b) s.fr.n s.fr.d) then ⟨endE (0 - a) b, s.to, s.no⟩ else s
    if b < 0 ∧ (s1.to.op = true ∨ cmpZ (frN (0 - a) b) (ptD [0 - a] b) s1.to.n s1.to.d < 0) then ⟨s1.fr, endE (0 - a) b, s1.no⟩ else s1
def wholeN : NW := ⟨openE, openE, false⟩
/-- All narrowed, of the first k. -/
def ofZ (f g : Nat → Int) (k : Nat) : NW := (List.range k).foldl (fun s j => belowZ s (f j) (g j)) wholeN
def upZ (f g : Nat → Int) (k : Nat) : NW := (List.range k).foldl (fun s j => aboveZ s (f j) (g j)) wholeN
/-- The program's ends: the error (4: none), and both. -/
def endsE (s : NW) : Int := if s.no = true ∨ (s.fr.op = false ∧ s.to.op = false ∧ lessB s.to.n s.to.d s.fr.n s.fr.d = true) then 4 else 0
def endsF (s : NW) : EN := if endsE s = 0 then s.fr else zeroE
def endsT (s : NW) : EN := if endsE s = 0 then s.to else zeroE
/-- The document's: is there one? -/
def someZ (s : NW) : Bool := !(s.no || (!s.fr.op && (!s.to.op && decide (0 < cmpZ s.fr.n s.fr.d s.to.n s.to.d))))

/-- An end that is open, or a fraction that may be. -/
def EOk (e : EN) : Prop := e.op = true ∨ mayB [e.n] e.d = true
def NOk (s : NW) : Prop := EOk s.fr ∧ EOk s.to

theorem less_cmp {a b c d : Int} (h1 : mayB [a] b = true) (h2 : mayB [c] d = true) : lessB a b c d = true ↔ cmpZ a b c d < 0 := by
  simp only [lessB, h1, h2, cmpZ, Bool.true_and, decide_eq_true_eq]; omega
theorem ptE_neg {n d : Int} (hd : d ≠ 0) : ptE [-n] (-d) = ptE [n] d ∧ frN (-n) (-d) = frN n d ∧ ptD [-n] (-d) = ptD [n] d := by
  have hs := sgcd_neg (n := n) hd
  have e1 : divs [-n] (sgcd [-n] (-d)) = divs [n] (sgcd [n] d) := by rw [hs]; simp [divs]
  have e2 : (-d).tdiv (sgcd [-n] (-d)) = d.tdiv (sgcd [n] d) := by rw [hs]; simp
  have h1 : ∀ x : Int, (smallB 4611686018427387904 [-x] = false ↔ smallB 4611686018427387904 [x] = false) := by
    intro x; rw [smallB_one, smallB_one]; simp; omega
  have hE : ptE [-n] (-d) = ptE [n] d := by
    unfold ptE
    rw [e1, e2]
    have : (-d = 0 ∨ smallB 4611686018427387904 [-n] = false ∨ smallB 4611686018427387904 [-d] = false) ↔ (d = 0 ∨ smallB 4611686018427387904 [n] = false ∨ smallB 4611686018427387904 [d] = false) := by
      rw [h1, h1]; constructor <;> (rintro (q | q | q); exact Or.inl (by omega); exact Or.inr (Or.inl q); exact Or.inr (Or.inr q))
    simp only [this]
  refine ⟨hE, ?_, ?_⟩
  · unfold frN ptN; rw [hE, e1]
  · unfold ptD; rw [hE, e2]
theorem may_end {n d : Int} (h : ptE [n] d = 0) : mayB [frN n d] (ptD [n] d) = true := by
  have hN : ptN [n] d = [frN n d] := by unfold frN ptN; rw [if_pos h]; simp [divs]
  have := mayB_pt h
  rwa [hN] at this

/-- Both steps are one. -/
theorem step_one {s : NW} {a b : Int} (hs : NOk s) (h : b ≠ 0 → ptE [-a] b = 0) : aboveZ s (0 - a) (0 - b) = belowZ s a b ∧ NOk (belowZ s a b) := by
  obtain ⟨h1, h2⟩ := hs
  by_cases hb : b = 0
  · subst hb
    unfold aboveZ belowZ
    simp only [Int.sub_zero, if_true]
    refine ⟨?_, h1, h2⟩
    congr 2
    rw [decide_eq_decide]; omega
  have hE := h hb
  obtain ⟨n1, n2, n3⟩ := ptE_neg (n := -a) hb
  have eN : frN (0 - (0 - a)) (0 - b) = frN (-a) b := by rw [← n2]; congr 1 <;> omega
  have eD : ptD [0 - (0 - a)] (0 - b) = ptD [-a] b := by rw [← n3]; congr 1 <;> first | omega | (congr 1; omega)
  have hm := may_end hE
  have eE : endE (0 - (0 - a)) (0 - b) = endE (-a) b := by unfold endE; rw [eN, eD]
  have cmp1 : (s.to.op = true ∨ lessB (frN (-a) b) (ptD [-a] b) s.to.n s.to.d = true) ↔ (s.to.op = true ∨ cmpZ (frN (-a) b) (ptD [-a] b) s.to.n s.to.d < 0) := by
    rcases h2 with q | q
    · simp [q]
    · rw [less_cmp hm q]
  have cmp2 : (s.fr.op = true ∨ lessB s.fr.n s.fr.d (frN (-a) b) (ptD [-a] b) = true) ↔ (s.fr.op = true ∨ 0 < cmpZ (frN (-a) b) (ptD [-a] b) s.fr.n s.fr.d) := by
    rcases h1 with q | q
    · simp [q]
    · rw [less_cmp q hm]; unfold cmpZ; constructor <;> (rintro (w | w); exact Or.inl w; exact Or.inr (by omega))
  have hok : EOk (endE (-a) b) := Or.inr hm
  unfold aboveZ belowZ
  rw [if_neg (by omega), if_neg hb]
  simp only [eN, eD, eE]
  simp only [cmp1, cmp2]
  by_cases hp : 0 < b
  · have hb1 : ¬ 0 < 0 - b := by omega
    have hb2 : 0 - b < 0 := by omega
    have hb3 : ¬ b < 0 := by omega
    simp only [hp, hb1, hb2, hb3, true_and, false_and, if_false]
    by_cases c : s.to.op = true ∨ cmpZ (frN (-a) b) (ptD [-a] b) s.to.n s.to.d < 0
    · rw [if_pos c]; exact ⟨h1, hok⟩
    · rw [if_neg c]; exact ⟨h1, h2⟩
  · have hb1 : 0 < 0 - b := by omega
    have hb2 : ¬ 0 - b < 0 := by omega
    have hb3 : b < 0 := by omega
    simp only [hp, hb1, hb2, hb3, true_and, false_and, if_false]
    by_cases c : s.fr.op = true ∨ 0 < cmpZ (frN (-a) b) (ptD [-a] b) s.fr.n s.fr.d
    · rw [if_pos c]; exact ⟨hok, h2⟩
    · rw [if_neg c]; exact ⟨h1, h2⟩
theorem ofZ_succ (f g : Nat → Int) (k : Nat) : ofZ f g (k + 1) = belowZ (ofZ f g k) (f k) (g k) := by unfold ofZ; rw [List.range_succ, List.foldl_append]; rfl
theorem upZ_succ (f g : Nat → Int) (k : Nat) : upZ f g (k + 1) = aboveZ (upZ f g k) (f k) (g k) := by unfold upZ; rw [List.range_succ, List.foldl_append]; rfl
theorem of_up {f g f' g' : Nat → Int} {k : Nat} (hf : ∀ j, j < k → f' j = 0 - f j) (hg : ∀ j, j < k → g' j = 0 - g j) (hp : ∀ j, j < k → g j ≠ 0 → ptE [-(f j)] (g j) = 0) : upZ f' g' k = ofZ f g k ∧ NOk (ofZ f g k) := by
  induction k with
  | zero => exact ⟨rfl, Or.inl rfl, Or.inl rfl⟩
  | succ k ih =>
    obtain ⟨e, hok⟩ := ih (fun j hj => hf j (by omega)) (fun j hj => hg j (by omega)) (fun j hj => hp j (by omega))
    rw [upZ_succ, ofZ_succ, e, hf k (by omega), hg k (by omega)]
    exact step_one hok (hp k (by omega))
theorem ends_some {s : NW} (h : NOk s) : endsE s = 0 ↔ someZ s = true := by
  obtain ⟨h1, h2⟩ := h
  unfold endsE someZ
  cases hn : s.no
  · cases hf : s.fr.op
    · cases ht : s.to.op
      · have m1 : mayB [s.fr.n] s.fr.d = true := by rcases h1 with q | q; rw [hf] at q; simp at q; exact q
        have m2 : mayB [s.to.n] s.to.d = true := by rcases h2 with q | q; rw [ht] at q; simp at q; exact q
        have := less_cmp m2 m1
        simp only [this]
        unfold cmpZ
        simp
        try omega
      · simp
    · simp
  · simp

/-! What a span says. -/
/-- A number n / d lies within a span. -/
def inE (s : NW) (n d : Int) : Prop := s.no = false ∧ (s.fr.op = true ∨ s.fr.n * d ≤ n * s.fr.d) ∧ (s.to.op = true ∨ n * s.to.d ≤ s.to.n * d)
theorem frac_pos {n d : Int} (h : ptE [n] d = 0) : 0 < ptD [n] d ∧ frN n d * d = n * ptD [n] d := ⟨(fr_cross' h).2, (fr_cross' h).1⟩
where fr_cross' {n d : Int} (h : ptE [n] d = 0) : frN n d * d = n * ptD [n] d ∧ 0 < ptD [n] d := by
        have h0 : d ≠ 0 := fun e => by subst e; simp [ptE] at h
        rw [frN_eq h, ptD_eq h]
        exact ⟨sgcd_cross h0, sgcd_sign h0⟩
def EPos (e : EN) : Prop := e.op = true ∨ 0 < e.d
def NPos (s : NW) : Prop := EPos s.fr ∧ EPos s.to
theorem NOk.pos {s : NW} (h : NOk s) : NPos s := by
  have key : ∀ e, EOk e → EPos e := fun e h => by
    rcases h with q | q
    · exact Or.inl q
    · right
      simp only [mayB, rightB, Bool.and_eq_true, decide_eq_true_eq] at q
      omega
  exact ⟨key _ h.1, key _ h.2⟩
/-- a d + n b ≤ 0, held against the fraction of -a and b. -/
theorem at_end {a b n d : Int} (hE : ptE [-a] b = 0) :
    (0 < b → (a * d + n * b ≤ 0 ↔ n * ptD [-a] b ≤ frN (-a) b * d)) ∧ (b < 0 → (a * d + n * b ≤ 0 ↔ frN (-a) b * d ≤ n * ptD [-a] b)) := by
  obtain ⟨hp, hc⟩ := frac_pos hE
  generalize frN (-a) b = N at *
  generalize ptD [-a] b = D at *
  -- N b = -a D
  have key : (a * d + n * b) * D = (n * D - N * d) * b := by grind
  constructor
  · intro hb
    constructor
    · intro h
      have h1 : (a * d + n * b) * D ≤ 0 := Int.mul_nonpos_of_nonpos_of_nonneg h (by omega)
      rw [key] at h1
      by_cases q : n * D ≤ N * d
      · exact q
      · have := Int.mul_pos (show 0 < n * D - N * d by omega) hb; omega
    · intro h
      have h1 : (n * D - N * d) * b ≤ 0 := Int.mul_nonpos_of_nonpos_of_nonneg (by omega) (by omega)
      rw [← key] at h1
      by_cases q : a * d + n * b ≤ 0
      · exact q
      · have := Int.mul_pos (show 0 < a * d + n * b by omega) hp; omega
  · intro hb
    constructor
    · intro h
      have h1 : (a * d + n * b) * D ≤ 0 := Int.mul_nonpos_of_nonpos_of_nonneg h (by omega)
      rw [key] at h1
      by_cases q : N * d ≤ n * D
      · exact q
      · have := Int.mul_pos_of_neg_of_neg (show n * D - N * d < 0 by omega) hb; omega
    · intro h
      have h1 : (n * D - N * d) * b ≤ 0 := Int.mul_nonpos_of_nonneg_of_nonpos (by omega) (by omega)
      rw [← key] at h1
      by_cases q : a * d + n * b ≤ 0
      · exact q
      · have := Int.mul_pos (show 0 < a * d + n * b by omega) hp; omega
theorem cross_le {a b c d n e : Int} (hb : 0 < b) (hd : 0 < d) (he : 0 < e) : a * d ≤ c * b → n * b ≤ a * e → n * d ≤ c * e := by
  intro h1 h2
  have k1 : n * d * b ≤ c * e * b := by
    have a1 := Int.mul_le_mul_of_nonneg_right h2 (show 0 ≤ d by omega)
    have a2 := Int.mul_le_mul_of_nonneg_right h1 (show 0 ≤ e by omega)
    have e1 : n * b * d = n * d * b := by ac_rfl
    have e2 : a * e * d = a * d * e := by ac_rfl
    have e3 : c * b * e = c * e * b := by ac_rfl
    omega
  exact Int.le_of_mul_le_mul_right k1 hb
theorem step_in {s : NW} {a b n d : Int} (hs : NOk s) (h : b ≠ 0 → ptE [-a] b = 0) (hd : 0 < d) : inE (belowZ s a b) n d ↔ inE s n d ∧ a * d + n * b ≤ 0 := by
  have hP := hs.pos
  obtain ⟨h1, h2⟩ := hs
  by_cases hb : b = 0
  · subst hb
    unfold belowZ inE
    simp only [if_true, Bool.or_eq_false_iff, decide_eq_false_iff_not, Int.mul_zero, Int.add_zero]
    have : (¬ 0 < a) ↔ a * d ≤ 0 := by
      constructor
      · intro q; exact Int.mul_nonpos_of_nonpos_of_nonneg (by omega) (by omega)
      · intro q r; have := Int.mul_pos r hd; omega
    rw [this]
    constructor
    · rintro ⟨⟨x, y⟩, z⟩; exact ⟨⟨x, z⟩, y⟩
    · rintro ⟨⟨x, z⟩, y⟩; exact ⟨⟨x, y⟩, z⟩
  have hE := h hb
  have hm := may_end hE
  obtain ⟨hp, _⟩ := frac_pos hE
  obtain ⟨k1, k2⟩ := at_end (n := n) (d := d) hE
  unfold belowZ
  rw [if_neg hb]
  by_cases hpos : 0 < b
  · have hnn : ¬ b < 0 := by omega
    simp only [hpos, hnn, true_and, false_and, if_false]
    rw [k1 hpos]
    by_cases c : s.to.op = true ∨ lessB (frN (-a) b) (ptD [-a] b) s.to.n s.to.d = true
    · rw [if_pos c]
      unfold inE endE
      simp only [Bool.false_eq_true, false_or]
      constructor
      · rintro ⟨x, y, z⟩
        refine ⟨⟨x, y, ?_⟩, z⟩
        rcases c with c | c
        · exact Or.inl c
        · rcases h2 with q | q
          · exact Or.inl q
          · right
            rw [less_cmp hm q] at c
            have hq : 0 < s.to.d := by simp only [mayB, rightB, Bool.and_eq_true, decide_eq_true_eq] at q; omega
            exact cross_le hp hq hd (by unfold cmpZ at c; omega) z
      · rintro ⟨⟨x, y, _⟩, z⟩; exact ⟨x, y, z⟩
    · rw [if_neg c]
      unfold inE
      constructor
      · rintro ⟨x, y, z⟩
        refine ⟨⟨x, y, z⟩, ?_⟩
        have c1 : ¬ s.to.op = true := fun q => c (Or.inl q)
        rcases z with z | z
        · exact absurd z c1
        · have q : mayB [s.to.n] s.to.d = true := by rcases h2 with q | q; exact absurd q c1; exact q
          have hq : 0 < s.to.d := by rcases hP.2 with w | w; exact absurd w c1; exact w
          have c2 : ¬ cmpZ (frN (-a) b) (ptD [-a] b) s.to.n s.to.d < 0 := fun w => c (Or.inr ((less_cmp hm q).2 w))
          exact cross_le hq hp hd (by unfold cmpZ at c2; omega) z
      · rintro ⟨x, _⟩; exact x
  · have hneg : b < 0 := by omega
    simp only [hpos, hneg, true_and, false_and, if_false]
    rw [k2 hneg]
    have cl : ∀ {a b c d n e : Int}, 0 < b → 0 < d → 0 < e → c * b ≤ a * d → a * e ≤ n * b → c * e ≤ n * d := by
      intro a b c d n e hb hd he h1 h2
      have k1 : c * e * b ≤ n * d * b := by
        have a1 := Int.mul_le_mul_of_nonneg_right h2 (show 0 ≤ d by omega)
        have a2 := Int.mul_le_mul_of_nonneg_right h1 (show 0 ≤ e by omega)
        have e1 : n * b * d = n * d * b := by ac_rfl
        have e2 : a * e * d = a * d * e := by ac_rfl
        have e3 : c * b * e = c * e * b := by ac_rfl
        omega
      exact Int.le_of_mul_le_mul_right k1 hb
    by_cases c : s.fr.op = true ∨ lessB s.fr.n s.fr.d (frN (-a) b) (ptD [-a] b) = true
    · rw [if_pos c]
      unfold inE endE
      simp only [Bool.false_eq_true, false_or]
      constructor
      · rintro ⟨x, y, z⟩
        refine ⟨⟨x, ?_, z⟩, y⟩
        rcases c with c | c
        · exact Or.inl c
        · rcases h1 with q | q
          · exact Or.inl q
          · right
            rw [less_cmp q hm] at c
            have hq : 0 < s.fr.d := by simp only [mayB, rightB, Bool.and_eq_true, decide_eq_true_eq] at q; omega
            exact cl hp hq hd (by unfold cmpZ at c; omega) y
      · rintro ⟨⟨x, _, z⟩, y⟩; exact ⟨x, y, z⟩
    · rw [if_neg c]
      unfold inE
      constructor
      · rintro ⟨x, y, z⟩
        refine ⟨⟨x, y, z⟩, ?_⟩
        have c1 : ¬ s.fr.op = true := fun q => c (Or.inl q)
        rcases y with y | y
        · exact absurd y c1
        · have q : mayB [s.fr.n] s.fr.d = true := by rcases h1 with q | q; exact absurd q c1; exact q
          have hq : 0 < s.fr.d := by rcases hP.1 with w | w; exact absurd w c1; exact w
          have c2 : ¬ cmpZ s.fr.n s.fr.d (frN (-a) b) (ptD [-a] b) < 0 := fun w => c (Or.inr ((less_cmp q hm).2 w))
          exact cl hq hp hd (by unfold cmpZ at c2; omega) y
      · rintro ⟨x, _⟩; exact x
theorem of_in {f g : Nat → Int} {n d : Int} (hd : 0 < d) {k : Nat} (hp : ∀ j, j < k → g j ≠ 0 → ptE [-(f j)] (g j) = 0) : inE (ofZ f g k) n d ↔ ∀ j, j < k → f j * d + n * g j ≤ 0 := by
  induction k with
  | zero => simp [ofZ, inE, wholeN, openE]
  | succ k ih =>
    have hok := (of_up (f := f) (g := g) (f' := fun j => 0 - f j) (g' := fun j => 0 - g j) (k := k) (fun _ _ => rfl) (fun _ _ => rfl) (fun j hj => hp j (by omega))).2
    rw [ofZ_succ, step_in hok (hp k (by omega)) hd, ih fun j hj => hp j (by omega)]
    constructor
    · rintro ⟨h1, h2⟩ j hj
      by_cases e : j = k
      · subst e; exact h2
      · exact h1 j (by omega)
    · intro h; exact ⟨fun j hj => h j (by omega), h k (by omega)⟩
/-- Within both ends, where there are such: what the program tells. -/
theorem ends_in {s : NW} (hs : NOk s) {n d : Int} (hd : 0 < d) : (endsE s = 0 ∧ ((endsF s).op = true ∨ 0 ≤ cmpZ n d (endsF s).n (endsF s).d) ∧ ((endsT s).op = true ∨ cmpZ n d (endsT s).n (endsT s).d ≤ 0)) ↔ inE s n d := by
  have hP := hs.pos
  have hsm := ends_some hs
  by_cases h0 : endsE s = 0
  · unfold endsF endsT
    rw [if_pos h0, if_pos h0]
    unfold inE cmpZ
    have hno : s.no = false := by
      unfold endsE at h0
      split at h0
      · omega
      · rename_i q; cases hh : s.no; rfl; exact absurd (Or.inl hh) q
    constructor
    · rintro ⟨_, x, y⟩
      exact ⟨hno, x.imp id (fun q => by omega), y.imp id (fun q => by omega)⟩
    · rintro ⟨_, x, y⟩
      exact ⟨h0, x.imp id (fun q => by omega), y.imp id (fun q => by omega)⟩
  · refine ⟨fun h => absurd h.1 h0, fun h => ?_⟩
    exfalso
    unfold inE at h
    obtain ⟨x, y, z⟩ := h
    unfold endsE at h0
    split at h0
    rotate_left
    · exact h0 rfl
    rename_i q
    rcases q with q | ⟨q1, q2, q3⟩
    · rw [x] at q; simp at q
    · rw [q1] at y; rw [q2] at z
      simp at y z
      obtain ⟨⟨o1, o2⟩⟩ := (show Nonempty (EOk s.fr ∧ EOk s.to) from ⟨hs.1, hs.2⟩)
      have m1 : mayB [s.fr.n] s.fr.d = true := by rcases o1 with w | w; rw [q1] at w; simp at w; exact w
      have m2 : mayB [s.to.n] s.to.d = true := by rcases o2 with w | w; rw [q2] at w; simp at w; exact w
      rw [less_cmp m2 m1] at q3
      unfold cmpZ at q3
      have d1 : 0 < s.fr.d := by rcases hP.1 with w | w; rw [q1] at w; simp at w; exact w
      have d2 : 0 < s.to.d := by rcases hP.2 with w | w; rw [q2] at w; simp at w; exact w
      -- fr d ≤ n frd ; n tod ≤ to d ; to frd < fr tod
      have k1 := Int.mul_le_mul_of_nonneg_right y (show 0 ≤ s.to.d by omega)
      have k2 := Int.mul_le_mul_of_nonneg_right z (show 0 ≤ s.fr.d by omega)
      have k3 := Int.mul_lt_mul_of_pos_right (show s.to.n * s.fr.d < s.fr.n * s.to.d by omega) hd
      have e1 : s.fr.n * d * s.to.d = s.fr.n * s.to.d * d := by ac_rfl
      have e2 : n * s.fr.d * s.to.d = n * s.to.d * s.fr.d := by ac_rfl
      have e3 : s.to.n * d * s.fr.d = s.to.n * s.fr.d * d := by ac_rfl
      omega
end Go.Proofs.Ytjcdkbalhleeeab

/-
  Plain laws of spans: what is divided is small enough, and gains go straight as costs grow. No program in sight.
-/
namespace Go.Proofs.Ytjcdkbalhleeeab

/-- A fraction that stands as small numbers do is one that may be. -/
theorem pt_like {n d a b : Int} (hd : d ≠ 0) (hb : b ≠ 0) (h : n * b = a * d) (hn : -4611686018427387904 ≤ n ∧ n ≤ 4611686018427387904) (hd2 : -4611686018427387904 ≤ d ∧ d ≤ 4611686018427387904)
    (ha : -1073741824 ≤ a ∧ a ≤ 1073741824) (hb2 : -1073741824 ≤ b ∧ b ≤ 1073741824) : ptE [n] d = 0 := by
  have hs : smallB 4611686018427387904 [n] = true := by rw [smallB_one]; simp; omega
  rw [ptE_of hd hs hd2, if_pos]
  have h1 := sgcd_sign (l := [n]) hd
  have h0 := sgcd_ne (l := [n]) hd
  obtain ⟨g1, g2⟩ := sgcd_dvd (l := [n]) (d := d)
  have e1 : sgcd [n] d * d.tdiv (sgcd [n] d) = d := Int.mul_tdiv_cancel' g1
  have e2 : sgcd [n] d * n.tdiv (sgcd [n] d) = n := Int.mul_tdiv_cancel' (g2 n (by simp))
  have hc := comm_divs [n] d hd
  have hc' : Nat.gcd (d.tdiv (sgcd [n] d)).natAbs (n.tdiv (sgcd [n] d)).natAbs = 1 := by simpa [comm, divs] using hc
  simp only [rightB, Bool.and_eq_true, decide_eq_true_eq, length_divs]
  simp only [divs, List.map_cons, List.map_nil, smallB_one, Bool.and_eq_true, decide_eq_true_eq, List.length_cons, List.length_nil]
  generalize sgcd [n] d = g at *
  generalize d.tdiv g = D at *
  generalize n.tdiv g = N at *
  have hND : N * b = a * D := by
    have : g * (N * b) = g * (a * D) := by
      rw [show g * (N * b) = g * N * b by ac_rfl, e2, h, ← e1]; ac_rfl
    exact Int.eq_of_mul_eq_mul_left h0 this
  have hDb : D.natAbs ∣ b.natAbs := by
    refine (Nat.Coprime.dvd_of_dvd_mul_left (show Nat.Coprime D.natAbs N.natAbs from hc') ?_)
    rw [← Int.natAbs_mul, hND, Int.natAbs_mul]
    exact Nat.dvd_mul_left _ _
  have hNa : N.natAbs ∣ a.natAbs := by
    refine (Nat.Coprime.dvd_of_dvd_mul_right (show Nat.Coprime N.natAbs D.natAbs from by rw [Nat.coprime_comm]; exact hc') ?_)
    rw [← Int.natAbs_mul, ← hND, Int.natAbs_mul]
    exact Nat.dvd_mul_right _ _
  have hD1 := Nat.le_of_dvd (by omega) hDb
  have hN1 : N.natAbs ≤ a.natAbs := by
    by_cases h : a = 0
    · subst h
      have : N * b = 0 := by rw [hND]; simp
      rcases Int.mul_eq_zero.1 this with q | q
      · subst q; simp
      · exact absurd q hb
    · exact Nat.le_of_dvd (by omega) hNa
  omega

/-- Two corners with one divisor: what the one is, by the other one, may be. -/
theorem span_pt {A B den gA gB u v dA dB : Int} (nA : gA ≠ 0) (nB : gB ≠ 0) (hA : A = gA * u) (hB : B = gB * v) (eA : den = gA * dA) (eB : den = gB * dB)
    (bA : -1073741824 ≤ A ∧ A ≤ 1073741824) (bB : -1073741824 ≤ B ∧ B ≤ 1073741824)
    (bu : -1073741824 ≤ u ∧ u ≤ 1073741824) (bv : -1073741824 ≤ v ∧ v ≤ 1073741824) (bdA : -1073741824 ≤ dA ∧ dA ≤ 1073741824) (bdB : -1073741824 ≤ dB ∧ dB ≤ 1073741824)
    (h : v * dA ≠ 0) : ptE [-(u * dB)] (v * dA) = 0 := by
  have m1 := mul_bound u dB 1073741824 1073741824 bu.1 bu.2 bdB.1 bdB.2
  have m2 := mul_bound v dA 1073741824 1073741824 bv.1 bv.2 bdA.1 bdA.2
  have hB0 : B ≠ 0 := fun e => by
    rw [e] at hB
    rcases Int.mul_eq_zero.1 hB.symm with q | q
    · exact nB q
    · rw [q] at h; simp at h
  refine pt_like (a := -A) (b := B) h hB0 ?_ (by omega) (by omega) (by omega) bB
  -- -(u dB) B = -A (v dA), by den
  have e : gA * gB * (u * dB * B) = gA * gB * (A * (v * dA)) := by
    calc gA * gB * (u * dB * B) = (gA * u) * (gB * dB) * B := by ac_rfl
      _ = A * den * B := by rw [← hA, ← eB]
      _ = A * (gA * dA) * (gB * v) := by rw [← eA, ← hB]
      _ = gA * gB * (A * (v * dA)) := by ac_rfl
  have hg : gA * gB ≠ 0 := fun q => by
    rcases Int.mul_eq_zero.1 q with q | q
    · exact nA q
    · exact nB q
  have := Int.eq_of_mul_eq_mul_left hg e
  rw [Int.neg_mul, Int.neg_mul, this]

/-! The last column, expanded. -/
def unitU (A : Nat → Nat → Int) (m i : Nat) (r c : Nat) : Int := if c < m then A r c else if r = i then 1 else 0
set_option maxHeartbeats 4000000 in
theorem dtp_expand (A : Nat → Nat → Int) {m k : Nat} (hm : m ≤ 4) (hk : k < m) : dtp A m k m = sumN (fun i => dtp (unitU A m i) m k m * A i m) m := by
  unfold dtp
  rcases (show m = 1 ∨ m = 2 ∨ m = 3 ∨ m = 4 by omega) with rfl | rfl | rfl | rfl
  · obtain rfl : k = 0 := by omega
    simp [sumN, dt1, unitU]
  · rcases (show k = 0 ∨ k = 1 by omega) with rfl | rfl <;> (simp [sumN, range2, dt2, unitU]; try grind)
  · rcases (show k = 0 ∨ k = 1 ∨ k = 2 by omega) with rfl | rfl | rfl <;> (simp [sumN, range3, dt3, unitU]; try grind)
  · rcases (show k = 0 ∨ k = 1 ∨ k = 2 ∨ k = 3 by omega) with rfl | rfl | rfl | rfl <;> (simp [sumN, range4, dt4, dt3, unitU]; try grind)

/-! Other costs, same rows. -/
def costsOf (p : PG) (by_ : List Int) : PG := ⟨by_, p.rows⟩
section
variable {p : PG} {b : List Int} {l : List Nat}
theorem costs_has (h : b.length = p.costs.length) (i j : Nat) : hasZ (costsOf p b) i j = hasZ p i j := by unfold hasZ costsOf; simp only [h]
theorem costs_right (h : b.length = p.costs.length) (hr : RightL p l) : RightL (costsOf p b) l := ⟨hr.len, fun j hj => by have := hr.lt j hj; show j < b.length + p.rows.length; omega, hr.pw⟩
theorem costs_den (h : b.length = p.costs.length) : denZ (costsOf p b) l = denZ p l := by
  unfold denZ
  have e : matD (costsOf p b) l = matD p l := by
    funext i j; unfold matD; rw [costs_has h]; rfl
  rw [e]; rfl
theorem costs_may (h : b.length = p.costs.length) (hp : mayPB p = true) (hs : smallB 400 b = true) : mayPB (costsOf p b) = true := by
  obtain ⟨h1, h2, h3, h4, h5, h6⟩ := mayPB_iff.1 hp
  exact mayPB_iff.2 ⟨by show 1 ≤ b.length; omega, by show b.length ≤ 4; omega, h3, h4, hs, by show p.rows.all (rowB b.length) = true; rw [h]; exact h6⟩
theorem costs_E (h : b.length = p.costs.length) (hs : smallB 400 b = true) {at_ : List Int} (he : lookE p at_ = 0) : lookE (costsOf p b) at_ = 0 := by
  unfold lookE at he ⊢
  split at he
  · omega
  rename_i h1
  split at he
  · omega
  rename_i h2
  split at he
  · omega
  rename_i h3
  rw [if_neg (by rw [costs_may h (by simpa using h1) hs]; simp), if_neg, if_neg (by rw [costs_den h]; exact h3)]
  have : rightA (costsOf p b) at_ = rightA p at_ := by unfold rightA costsOf; simp only [h]
  rw [this]; exact h2
/-- What a row is worth, off the columns' worths. -/
theorem yk_sum (hr : RightL p l) (h4 : p.rows.length ≤ 4) {k : Nat} (hk : k < p.rows.length) : yk p l k = sumN (fun i => dtp (unitU (fun i j => hasZ p j (l.getD i 0)) p.rows.length i) p.rows.length k p.rows.length * costZ p (l.getD i 0)) p.rows.length := by
  unfold yk
  rw [dtp_expand _ h4 hk]
  refine sumN_congr fun i hi => ?_
  have e : matU p l i p.rows.length = costZ p (l.getD i 0) := by unfold matU; rw [if_neg (by rw [hr.len]; omega)]
  rw [e]
  congr 1
  unfold dtp
  refine dt_congr2 fun r _ c _ => ?_
  unfold unitU
  by_cases hc : c < p.rows.length
  · rw [if_pos hc, if_pos hc]; unfold matU; rw [if_pos (by rw [hr.len]; exact hc)]
  · rw [if_neg hc, if_neg hc]
/-- Gains go straight with the costs. -/
theorem gain_line {e : List Int} {d n : Int} (hr : RightL p l) (h4 : p.rows.length ≤ 4) (hb : b.length = p.costs.length) (he : e.length = p.costs.length)
    (hz : ∀ j, e.getD j 0 = d * p.costs.getD j 0 + n * b.getD j 0) (j : Nat) :
    gk (costsOf p e) l j p.rows.length = d * gk p l j p.rows.length + n * gk (costsOf p b) l j p.rows.length := by
  have hc : ∀ j, costZ (costsOf p e) j = d * costZ p j + n * costZ (costsOf p b) j := by
    intro j
    unfold costZ costsOf
    simp only [hb, he]
    by_cases h : j < p.costs.length
    · rw [if_pos h, if_pos h, if_pos h, hz j]
    · rw [if_neg h, if_neg h, if_neg h]; simp
  have hy : ∀ i, i < p.rows.length → yk (costsOf p e) l i = d * yk p l i + n * yk (costsOf p b) l i := by
    intro i hi
    have Y : ∀ b' : List Int, b'.length = p.costs.length → yk (costsOf p b') l i = sumN (fun q => dtp (unitU (fun i j => hasZ p j (l.getD i 0)) p.rows.length q) p.rows.length i p.rows.length * costZ (costsOf p b') (l.getD q 0)) p.rows.length := by
      intro b' hb'
      have := yk_sum (costs_right hb' hr) h4 hi
      rw [show (fun i j => hasZ (costsOf p b') j (l.getD i 0)) = (fun i j => hasZ p j (l.getD i 0)) by funext i j; rw [costs_has hb']] at this
      exact this
    rw [Y e he, Y b hb, yk_sum hr h4 hi, ← sumN_mul, ← sumN_mul, ← sumN_add]
    refine sumN_congr fun q _ => ?_
    rw [hc]; grind
  unfold gk
  rw [costs_den he, costs_den hb, hc]
  have : sumN (fun i => yk (costsOf p e) l i * hasZ (costsOf p e) i j) p.rows.length = d * sumN (fun i => yk p l i * hasZ p i j) p.rows.length + n * sumN (fun i => yk (costsOf p b) l i * hasZ (costsOf p b) i j) p.rows.length := by
    rw [← sumN_mul, ← sumN_mul, ← sumN_add]
    refine sumN_congr fun i hi => ?_
    rw [hy i hi, costs_has he, costs_has hb]; grind
  rw [this]; grind
end
end Go.Proofs.Ytjcdkbalhleeeab

/-
  Plain law: the document's choice of the column that goes out is the program's. No program in sight.
-/
namespace Go.Proofs.Ytjcdkbalhleeeab

/-- One column changed for another one: what all columns are, whichever goes out. -/
theorem pivot_x {p : PG} {l : List Nat} (hp : mayPB p = true) (hr : RightL p l) (hd : denZ p l ≠ 0) {r k : Nat} (hrl : r ∉ l) (hN : r < p.costs.length + p.rows.length) (o1 : k < l.length)
    (hn : (lookN (qOf p r) l).xs.getD (l.getD k 0) 0 ≠ 0) :
    RightL p (insN (l.eraseIdx k) r) ∧ denZ p (insN (l.eraseIdx k) r) ≠ 0 ∧ ∀ j, xq (lookN p (insN (l.eraseIdx k) r)) j = xq (lookN p l) j + tq p l r k * dq p l r j := by
  obtain ⟨gx, gy, gg, hc⟩ := corn_of hp hr hd
  obtain ⟨a1, a2, a3, hq⟩ := corn_of (qOf_may hp r) (qOf_right hr r) (by rw [qOf_den hr.len]; exact hd)
  have h4 := hc.rows4
  have hk : k < p.rows.length := by rw [← hr.len]; exact o1
  have hs_mem : l.getD k 0 ∈ l := mem_getD.2 ⟨k, o1, rfl⟩
  have hqd : 0 < (lookN (qOf p r) l).xd := hq.px
  have hsp : xq (lookN (qOf p r) l) (l.getD k 0) ≠ 0 := by
    intro h
    rcases Int.lt_or_gt_of_ne hn with q | q
    · have := (sign_div hqd).2.2 q; unfold xq at h; rw [h] at this; grind
    · have := (sign_div hqd).1.2 q; unfold xq at h; rw [h] at this; grind
  have ht : tq p l r k * xq (lookN (qOf p r) l) (l.getD k 0) = xq (lookN p l) (l.getD k 0) := by unfold tq; grind
  have hsr : l.getD k 0 ≠ r := fun e => hrl (e ▸ hs_mem)
  have hds : dq p l r (l.getD k 0) = -(xq (lookN (qOf p r) l) (l.getD k 0)) := by unfold dq; rw [if_neg hsr]
  have hxk : xk (qOf p r) l k ≠ 0 := by
    have h1 := hq.x (l.getD k 0)
    rw [xall_at (qOf_right hr r) (by rw [qOf_len]; exact hk)] at h1
    rw [h1]
    intro h0
    rcases Int.mul_eq_zero.1 h0 with e | e
    · exact hq.nx e
    · exact hn e
  have hR := right_next hr o1 hrl hN
  have hD' := den_next hr h4 hk hxk hrl hN
  obtain ⟨b1, b2, b3, hc'⟩ := corn_of hp hR hD'
  refine ⟨hR, hD', ?_⟩
  have hz := kernel hR h4 hD' (z := fun j => xq (lookN p (insN (l.eraseIdx k) r)) j - (xq (lookN p l) j + tq p l r k * dq p l r j)) ?_ ?_
  · intro j; have := hz j; grind
  · intro j hj
    have hj' : ¬ (j ∈ l ∧ j ≠ l.getD k 0) ∧ j ≠ r := ⟨fun q => hj (mem_insN.2 (Or.inl ((mem_erase hr o1).2 q))), fun q => hj (mem_insN.2 (Or.inr q))⟩
    rw [hc'.offQ hj]
    by_cases hjs : j = l.getD k 0
    · subst hjs; rw [hds, ← ht]; grind
    · have hjl : j ∉ l := fun q => hj'.1 ⟨q, hjs⟩
      rw [hc.offQ hjl]
      unfold dq
      rw [if_neg hj'.2, hq.offQ hjl]; grind
  · intro i hi
    have k1 := hc'.rowQ hi
    have k2 := hc.rowQ hi
    have k3 := dir_ker hp hr hd hrl hN hi
    have e : sumR (fun j => aq p i j * (xq (lookN p (insN (l.eraseIdx k) r)) j - (xq (lookN p l) j + tq p l r k * dq p l r j))) (p.costs.length + p.rows.length) =
        sumR (fun j => aq p i j * xq (lookN p (insN (l.eraseIdx k) r)) j + ((-1) * (aq p i j * xq (lookN p l) j) + (-(tq p l r k)) * (aq p i j * dq p l r j))) (p.costs.length + p.rows.length) :=
      sumR_congr fun j _ => by grind
    rw [e, sumR_add, sumR_add, sumR_mul, sumR_mul, k1, k2, k3]; grind
theorem pivot_r {p : PG} {l : List Nat} (hp : mayPB p = true) (hr : RightL p l) (hd : denZ p l ≠ 0) {r k : Nat} (hrl : r ∉ l) (hN : r < p.costs.length + p.rows.length) (o1 : k < l.length)
    (hn : (lookN (qOf p r) l).xs.getD (l.getD k 0) 0 ≠ 0) : xq (lookN p (insN (l.eraseIdx k) r)) r = tq p l r k := by
  obtain ⟨gx, gy, gg, hc⟩ := corn_of hp hr hd
  rw [(pivot_x hp hr hd hrl hN o1 hn).2.2 r, hc.offQ hrl]
  unfold dq; rw [if_pos rfl]; grind

/-- A column of a corner, as the fraction that the document makes of it. -/
def colN (c : CO) (j : Nat) : Int := frN (c.xs.getD j 0) c.xd
def colD (c : CO) (j : Nat) : Int := ptD [c.xs.getD j 0] c.xd
theorem frac_same {a b d e : Int} (hb : 0 < b) (he : 0 < e) (h : (a : Rat) / (b : Rat) = (d : Rat) / (e : Rat)) : a * e = d * b := by
  have h1 := cast_pos hb; have h2 := cast_pos he
  have : (a : Rat) * e = d * b := by grind
  exact_mod_cast this
theorem lt_div {a b c d : Int} (hb : 0 < b) (hd : 0 < d) : (a : Rat) / (b : Rat) < (c : Rat) / (d : Rat) ↔ a * d - c * b < 0 := by
  have h1 := cast_pos hb; have h2 := cast_pos hd
  have e : (a : Rat) / (b : Rat) - (c : Rat) / (d : Rat) = ((a * d - c * b : Int) : Rat) / ((b * d : Int) : Rat) := by
    rw [Rat.intCast_sub, Rat.intCast_mul, Rat.intCast_mul, Rat.intCast_mul]; grind
  have hbd := Int.mul_pos hb hd
  rw [← (sign_div (a := a * d - c * b) hbd).2, ← e]
  constructor <;> intro h <;> grind
/-- The fraction is the column's, and may be. -/
theorem col_eq {p : PG} {l : List Nat} {c : CO} {gx gy gg : Int} (h : Corn p l c gx gy gg) (j : Nat) : ptE [c.xs.getD j 0] c.xd = 0 ∧ (colN c j : Rat) / (colD c j : Rat) = xq c j ∧ 0 < colD c j := by
  have hm := mayB_parts h.mx
  have hs := smallB_getD (l := c.xs) (m := 1073741824) (by omega)
  have hb := hs.1 hm.2.2.1 j
  have hE : ptE [c.xs.getD j 0] c.xd = 0 := by
    refine pt_like (a := c.xs.getD j 0) (b := c.xd) (by have := h.px; omega) (by have := h.px; omega) rfl (by omega) ?_ hb ?_
    · have := h.px; omega
    · have := h.px; omega
  obtain ⟨c1, c2⟩ := frac_pos hE
  refine ⟨hE, ?_, c1⟩
  unfold colN colD xq
  have h1 := cast_pos c1
  have h2 := cast_pos h.px
  have h3 : (frN (c.xs.getD j 0) c.xd : Rat) * (c.xd : Rat) = (c.xs.getD j 0 : Rat) * (ptD [c.xs.getD j 0] c.xd : Rat) := by
    rw [← Rat.intCast_mul, ← Rat.intCast_mul, c2]
  grind

/-- The document's choice, of the first n. -/
def tryZ (p : PG) (l : List Nat) (r k : Nat) (o : Option Nat) : Bool :=
  decide (denZ p (insN (l.eraseIdx k) r) ≠ 0) && (decide (0 < (lookN (qOf p r) l).xs.getD (l.getD k 0) 0) && (match o with
    | none => true
    | some q => decide (cmpZ (colN (lookN p (insN (l.eraseIdx k) r)) r) (colD (lookN p (insN (l.eraseIdx k) r)) r) (colN (lookN p (insN (l.eraseIdx q) r)) r) (colD (lookN p (insN (l.eraseIdx q) r)) r) < 0)))
def outR (p : PG) (l : List Nat) (r n : Nat) : Option Nat := (List.range n).foldl (fun o k => if tryZ p l r k o = true then some k else o) none
theorem outR_succ (p : PG) (l : List Nat) (r n : Nat) : outR p l r (n + 1) = if tryZ p l r n (outR p l r n) = true then some n else outR p l r n := by unfold outR; rw [List.range_succ, List.foldl_append]; rfl
/-- Both choices are one. -/
theorem out_same {p : PG} {l : List Nat} (ho : OKb p l) {r : Nat} (hrl : r ∉ l) (hN : r < p.costs.length + p.rows.length) : ∀ {n : Nat}, n ≤ l.length → outR p l r n = outZ (lookN p l).xs l (lessZ p l r) n ∧ ∀ q, outR p l r n = some q → q < n ∧ 0 < (lookN (qOf p r) l).xs.getD (l.getD q 0) 0
  | 0, _ => by simp [outR, outZ]
  | n + 1, hn => by
    obtain ⟨hp, hr, hd, hx⟩ := ho
    obtain ⟨ih, ih2⟩ := out_same ⟨hp, hr, hd, hx⟩ hrl hN (n := n) (by omega)
    have hl : (lessZ p l r).getD n 0 = (lookN (qOf p r) l).xs.getD (l.getD n 0) 0 := by unfold lessZ; rw [getD_map (by omega)]
    have key : tryZ p l r n (outR p l r n) = true ↔ 0 < (lessZ p l r).getD n 0 ∧ nearB (lookN p l).xs l (lessZ p l r) n (outZ (lookN p l).xs l (lessZ p l r) n) = true := by
      rw [← ih, hl]
      unfold tryZ
      simp only [Bool.and_eq_true, decide_eq_true_eq]
      constructor
      · rintro ⟨_, h2, h3⟩
        refine ⟨h2, ?_⟩
        cases ho : outR p l r n with
        | none => rfl
        | some q =>
          rw [ho] at h3
          simp only [decide_eq_true_eq] at h3
          obtain ⟨q1, q2⟩ := ih2 q ho
          exact (near_iff hp hr hd hrl hN (by omega) (by omega) h2 q2).1 h3
      · rintro ⟨h2, h3⟩
        refine ⟨(pivot_x hp hr hd hrl hN (by omega) (by omega)).2.1, h2, ?_⟩
        cases ho : outR p l r n with
        | none => rfl
        | some q =>
          rw [ho] at h3
          simp only [decide_eq_true_eq]
          obtain ⟨q1, q2⟩ := ih2 q ho
          exact (near_iff hp hr hd hrl hN (by omega) (by omega) h2 q2).2 h3
    rw [outR_succ, outZ_succ, ih]
    rw [ih] at key
    by_cases hc : tryZ p l r n (outZ (lookN p l).xs l (lessZ p l r) n) = true
    · rw [if_pos hc, if_pos (key.1 hc)]
      refine ⟨rfl, fun q hq => ?_⟩
      simp at hq; subst hq
      exact ⟨by omega, by rw [← hl]; exact (key.1 hc).1⟩
    · rw [if_neg hc, if_neg (fun q => hc (key.2 q))]
      refine ⟨rfl, fun q hq => ?_⟩
      rw [← ih] at hq
      have := ih2 q hq
      exact ⟨by omega, this.2⟩
where
  near_iff {p : PG} {l : List Nat} (hp : mayPB p = true) (hr : RightL p l) (hd : denZ p l ≠ 0) {r : Nat} (hrl : r ∉ l) (hN : r < p.costs.length + p.rows.length) {k q : Nat} (hk : k < l.length) (hq : q < l.length)
      (h1 : 0 < (lookN (qOf p r) l).xs.getD (l.getD k 0) 0) (h2 : 0 < (lookN (qOf p r) l).xs.getD (l.getD q 0) 0) :
      cmpZ (colN (lookN p (insN (l.eraseIdx k) r)) r) (colD (lookN p (insN (l.eraseIdx k) r)) r) (colN (lookN p (insN (l.eraseIdx q) r)) r) (colD (lookN p (insN (l.eraseIdx q) r)) r) < 0 ↔
        nearB (lookN p l).xs l (lessZ p l r) k (some q) = true := by
    have hk1 : (lookN (qOf p r) l).xs.getD (l.getD k 0) 0 ≠ 0 := by omega
    have hq1 : (lookN (qOf p r) l).xs.getD (l.getD q 0) 0 ≠ 0 := by omega
    have pk := pivot_x hp hr hd hrl hN hk hk1
    have pq := pivot_x hp hr hd hrl hN hq hq1
    obtain ⟨_, _, _, ck⟩ := corn_of hp pk.1 pk.2.1
    obtain ⟨_, _, _, cq⟩ := corn_of hp pq.1 pq.2.1
    obtain ⟨_, ek, dk⟩ := col_eq ck r
    obtain ⟨_, eq, dq'⟩ := col_eq cq r
    unfold cmpZ
    rw [← lt_div dk dq', ek, eq, pivot_r hp hr hd hrl hN hk hk1, pivot_r hp hr hd hrl hN hq hq1]
    obtain ⟨_, _, _, hc⟩ := corn_of hp hr hd
    obtain ⟨_, _, _, hQ⟩ := corn_of (qOf_may hp r) (qOf_right hr r) (by rw [qOf_den hr.len]; exact hd)
    have hxd := hc.px
    have hqd := hQ.px
    simp only [nearB, decide_eq_true_eq]
    have lk : (lessZ p l r).getD k 0 = (lookN (qOf p r) l).xs.getD (l.getD k 0) 0 := by unfold lessZ; rw [getD_map hk]
    have lq : (lessZ p l r).getD q 0 = (lookN (qOf p r) l).xs.getD (l.getD q 0) 0 := by unfold lessZ; rw [getD_map hq]
    rw [lk, lq]
    have t1 : tq p l r k = (((lookN p l).xs.getD (l.getD k 0) 0 * (lookN (qOf p r) l).xd : Int) : Rat) / (((lookN p l).xd * (lookN (qOf p r) l).xs.getD (l.getD k 0) 0 : Int) : Rat) := by
      unfold tq xq; rw [Rat.intCast_mul, Rat.intCast_mul]
      have := cast_pos hxd; have := cast_pos hqd; have := cast_pos h1; grind
    have t2 : tq p l r q = (((lookN p l).xs.getD (l.getD q 0) 0 * (lookN (qOf p r) l).xd : Int) : Rat) / (((lookN p l).xd * (lookN (qOf p r) l).xs.getD (l.getD q 0) 0 : Int) : Rat) := by
      unfold tq xq; rw [Rat.intCast_mul, Rat.intCast_mul]
      have := cast_pos hxd; have := cast_pos hqd; have := cast_pos h2; grind
    rw [t1, t2, lt_div (Int.mul_pos hxd h1) (Int.mul_pos hxd h2)]
    generalize (lookN p l).xs.getD (l.getD k 0) 0 = a at *
    generalize (lookN p l).xs.getD (l.getD q 0) 0 = b at *
    generalize (lookN (qOf p r) l).xs.getD (l.getD k 0) 0 = u at *
    generalize (lookN (qOf p r) l).xs.getD (l.getD q 0) 0 = v at *
    generalize (lookN p l).xd = e at *
    generalize (lookN (qOf p r) l).xd = f at *
    -- a f (e v) - b f (e u) < 0 iff a v < b u
    have hef := Int.mul_pos hxd hqd
    have e1 : a * f * (e * v) - b * f * (e * u) = (e * f) * (a * v - b * u) := by grind
    rw [e1]
    constructor
    · intro h
      by_cases g : a * v - b * u < 0
      · omega
      · have := Int.mul_nonneg (show 0 ≤ e * f by omega) (show 0 ≤ a * v - b * u by omega); omega
    · intro h
      exact Int.mul_neg_of_pos_of_neg hef (by omega)
end Go.Proofs.Ytjcdkbalhleeeab

/-
  Plain: where a walk ends is one place; what the variables are worth never falls in a walk. No program in sight.
-/
namespace Go.Proofs.Ytjcdkbalhleeeab

/-- What is wrong with columns as a walk's beginning. -/
def nextE (p : PG) (l : List Int) : Int := if lookE p l = 0 then (if nonneg (lookC p l).xs = true then 0 else 3) else lookE p l
theorem look_parts {p : PG} {l : List Int} (h : lookE p l = 0) : mayPB p = true ∧ rightA p l = true ∧ denZ p (nats l) ≠ 0 := by
  unfold lookE at h
  split at h
  · omega
  · rename_i h1
    split at h
    · omega
    · rename_i h2
      split at h
      · omega
      · rename_i h3
        exact ⟨by simpa using h1, by simpa using h2, h3⟩
theorem look_eq {p : PG} {l : List Int} (h : lookE p l = 0) : l = ints (nats l) := (right_nats (look_parts h).2.1).2
theorem lookN_eq {p : PG} {l : List Int} (h : lookE p l = 0) : lookN p (nats l) = lookC p l := by unfold lookN; rw [← look_eq h]
theorem nextE_look {p : PG} {l : List Int} (h : nextE p l = 0) : lookE p l = 0 ∧ nonneg (lookC p l).xs = true := by
  unfold nextE at h
  split at h
  · rename_i h1
    split at h
    · rename_i h2; exact ⟨h1, h2⟩
    · omega
  · rename_i h1; exact absurd h h1
theorem nextE_ok {p : PG} {l : List Int} (h : nextE p l = 0) : OKb p (nats l) := by
  obtain ⟨h1, h2⟩ := nextE_look h
  obtain ⟨q1, q2, q3⟩ := look_parts h1
  exact ⟨q1, (right_nats q2).1, q3, by rw [lookN_eq h1]; exact h2⟩
theorem ok_look {p : PG} {l : List Nat} (h : OKb p l) : lookE p (ints l) = 0 := look_ints h.hp h.hr h.hd
theorem ok_nextE {p : PG} {l : List Nat} (h : OKb p l) : nextE p (ints l) = 0 := by
  unfold nextE
  rw [if_pos (ok_look h)]; exact if_pos h.hx

/-- The k-th columns of a walk are lk, and there it ends. -/
structure EndAt (p : PG) (l : List Nat) (k : Nat) (lk : List Nat) : Prop where
  at_ : wk p l k = some lk
  no : nxtZ p lk = none
theorem EndAt.le {p : PG} {l : List Nat} {a b : Nat} {la lb : List Nat} (h1 : EndAt p l a la) (h2 : EndAt p l b lb) : a ≤ b := by
  apply Classical.byContradiction
  intro h
  have hn : wk p l (b + 1) = none := by rw [wk, h2.at_]; exact h2.no
  obtain ⟨l', hl'⟩ := wk_some (p := p) (l := l) (n := a) (by rw [h1.at_]; simp) (i := b + 1) (by omega)
  rw [hn] at hl'
  cases hl'
theorem EndAt.uniq {p : PG} {l : List Nat} {a b : Nat} {la lb : List Nat} (h1 : EndAt p l a la) (h2 : EndAt p l b lb) : a = b ∧ la = lb := by
  have h : a = b := Nat.le_antisymm (h1.le h2) (h2.le h1)
  subst h
  have := h1.at_.symm.trans h2.at_
  exact ⟨rfl, by injection this⟩
/-- The columns of a walk, one by one. -/
def wkL (p : PG) (l : List Nat) (k : Nat) : List (List Int) := (List.range k).map fun i => ints ((wk p l i).getD [])
theorem wkL_len (p : PG) (l : List Nat) (k : Nat) : (wkL p l k).length = k := by simp [wkL]
theorem wkL_succ {p : PG} {l : List Nat} {k : Nat} {lk : List Nat} (h : wk p l k = some lk) : wkL p l (k + 1) = wkL p l k ++ [ints lk] := by
  unfold wkL; rw [List.range_succ, List.map_append]; simp [h]
theorem wkL_at (p : PG) (l : List Nat) {k i : Nat} (h : i < k) : (wkL p l k).getD i [] = ints ((wk p l i).getD []) := by simp [wkL, List.getD, h]
theorem wk_fewer {p : PG} {l : List Nat} (ho : OKb p l) {k : Nat} {lk : List Nat} (h : wk p l k = some lk) : k < 256 := by
  apply Classical.byContradiction
  intro hk
  have he := wk_ends ho
  have h8 : p.costs.length + p.rows.length ≤ 8 := by
    have := mayPB_iff.1 ho.hp; omega
  have : 2 ^ (p.costs.length + p.rows.length) ≤ 2 ^ 8 := Nat.pow_le_pow_right (by omega) h8
  obtain ⟨l', hl'⟩ := wk_some (p := p) (l := l) (n := k) (by rw [h]; simp) (i := 2 ^ (p.costs.length + p.rows.length)) (by omega)
  rw [he] at hl'
  cases hl'
theorem len_next {p : PG} {l l' : List Nat} (ho : OKb p l) (h : nxtZ p l = some l') : OKb p l' := by
  have := wk_ok ho (n := 1) (l' := l') (by rw [wk, wk]; exact h)
  exact this

/-! What the variables are worth. -/
def valN (p : PG) (l : List Nat) : Int := dot p.costs ((lookN p l).xs.take p.costs.length)
theorem val_sum {p : PG} {l : List Nat} {c : CO} {gx gy gg : Int} (h : Corn p l c gx gy gg) :
    sumR (fun j => cq p j * xq c j) (p.costs.length + p.rows.length) = (dot p.costs (c.xs.take p.costs.length) : Rat) / (c.xd : Rat) := by
  have e1 : sumN (fun j => costZ p j * c.xs.getD j 0) (p.costs.length + p.rows.length) = dot p.costs (c.xs.take p.costs.length) := by
    rw [sum_costZ, dot_sum (n := p.costs.length) rfl (by rw [List.length_take, h.lx]; omega)]
    refine sumN_congr fun j hj => ?_
    have : (c.xs.take p.costs.length).getD j 0 = c.xs.getD j 0 := by simp [List.getD, hj]
    rw [this]
  have hx := cast_pos h.px
  have e2 : sumR (fun j => cq p j * xq c j) (p.costs.length + p.rows.length) = sumR (fun j => (1 / (c.xd : Rat)) * ((costZ p j * c.xs.getD j 0 : Int) : Rat)) (p.costs.length + p.rows.length) :=
    sumR_congr fun j _ => by unfold cq xq; rw [Rat.intCast_mul]; grind
  rw [e2, sumR_mul, ← cast_sum, e1]
  grind
/-- No step makes it less. -/
theorem val_rise {p : PG} {l l' : List Nat} (ho : OKb p l) (h : nxtZ p l = some l') : valN p l * (lookN p l').xd ≤ valN p l' * (lookN p l).xd := by
  obtain ⟨r, k, hs, rfl⟩ := stp_of h
  obtain ⟨ho', hP⟩ := step_ok ho hs
  obtain ⟨gx, gy, gg, hc⟩ := corn_of ho.hp ho.hr ho.hd
  obtain ⟨gx', gy', gg', hc'⟩ := corn_of ho'.hp ho'.hr ho'.hd
  have h1 := hP.rises
  rw [val_sum hc, val_sum hc'] at h1
  have ht := Rat.mul_nonneg hP.t0 (Rat.le_of_lt hP.gr)
  have hle : (valN p l : Rat) / ((lookN p l).xd : Rat) ≤ (valN p (insN (l.eraseIdx k) r) : Rat) / ((lookN p (insN (l.eraseIdx k) r)).xd : Rat) := by
    unfold valN; grind
  have := (lt_div (a := valN p (insN (l.eraseIdx k) r)) (c := valN p l) hc'.px hc.px)
  have hn : ¬ ((valN p (insN (l.eraseIdx k) r) : Rat) / ((lookN p (insN (l.eraseIdx k) r)).xd : Rat) < (valN p l : Rat) / ((lookN p l).xd : Rat)) := fun q => by grind
  apply Classical.byContradiction
  intro q
  exact hn (this.2 (by omega))
/-- As fractions, such as have none among them. -/
theorem of_zero {n d : Int} (h : ptE [n] d ≠ 0) : frN n d = 0 ∧ ptD [n] d = 0 := by
  unfold frN ptN ptD
  rw [if_neg h, if_neg h]; exact ⟨rfl, rfl⟩
theorem cmp_rise {a b c d : Int} (hb : 0 < b) (hd : 0 < d) (h : c * b ≤ a * d) : 0 ≤ cmpZ (frN a b) (ptD [a] b) (frN c d) (ptD [c] d) := by
  by_cases h1 : ptE [a] b = 0
  · by_cases h2 : ptE [c] d = 0
    · obtain ⟨p1, e1⟩ := frac_pos h1
      obtain ⟨p2, e2⟩ := frac_pos h2
      unfold cmpZ
      generalize frN a b = x at *
      generalize ptD [a] b = y at *
      generalize frN c d = u at *
      generalize ptD [c] d = v at *
      apply Classical.byContradiction
      intro hn
      have q1 : (x * v - u * y) * (b * d) < 0 := Int.mul_neg_of_neg_of_pos (by omega) (Int.mul_pos hb hd)
      have q2 : (x * v - u * y) * (b * d) = (a * d - c * b) * (y * v) := by grind
      have q3 : 0 ≤ (a * d - c * b) * (y * v) := Int.mul_nonneg (by omega) (Int.le_of_lt (Int.mul_pos p1 p2))
      omega
    · obtain ⟨e1, e2⟩ := of_zero h2
      rw [e1, e2]; simp [cmpZ]
  · obtain ⟨e1, e2⟩ := of_zero h1
    rw [e1, e2]; simp [cmpZ]
theorem cmp_wk {p : PG} {l l' : List Nat} (ho : OKb p l) (h : nxtZ p l = some l') :
    0 ≤ cmpZ (frN (valN p l') (lookN p l').xd) (ptD [valN p l'] (lookN p l').xd) (frN (valN p l) (lookN p l).xd) (ptD [valN p l] (lookN p l).xd) := by
  have ho' := len_next ho h
  obtain ⟨gx, gy, gg, hc⟩ := corn_of ho.hp ho.hr ho.hd
  obtain ⟨gx', gy', gg', hc'⟩ := corn_of ho'.hp ho'.hr ho'.hd
  exact cmp_rise hc'.px hc.px (val_rise ho h)
theorem kind_end {p : PG} {l : List Nat} (h : nxtZ p l = none) : kindZ p l = 1 ∨ kindZ p l = 2 := by
  unfold nxtZ at h
  unfold kindZ
  split
  · exact .inl rfl
  · rename_i r hr
    rw [hr] at h
    simp only at h
    split
    · exact .inr rfl
    · rename_i k hk
      rw [hk] at h
      cases h
/-- The column that comes in is none of these. -/
theorem in_new {p : PG} {l : List Nat} {r : Nat} (ho : OKb p l) (hin : inZ (lookN p l).gs = some r) : r ∉ l ∧ r < p.costs.length + p.rows.length ∧ 0 < (lookN p l).gs.getD r 0 := by
  obtain ⟨gx, gy, gg, hc⟩ := corn_of ho.hp ho.hr ho.hd
  obtain ⟨i1, i2, i3⟩ := inZ_some hin
  rw [hc.lg] at i1
  refine ⟨fun h => ?_, i1, i2⟩
  obtain ⟨q, hq1, rfl⟩ := mem_getD.1 h
  have := hc.gain_own (k := q) (by rw [← ho.hr.len]; exact hq1)
  omega
end Go.Proofs.Ytjcdkbalhleeeab

/-
  Plain law: a program of which no corner goes has a corner one of whose columns is below 0 and does not grow, whichever other one does. No program in sight.
-/
namespace Go.Proofs.Ytjcdkbalhleeeab

/-- Columns of which there is one way. -/
structure Bs (p : PG) (l : List Nat) : Prop where
  hp : mayPB p = true
  hr : RightL p l
  hd : denZ p l ≠ 0
theorem OKb.bs {p : PG} {l : List Nat} (h : OKb p l) : Bs p l := ⟨h.hp, h.hr, h.hd⟩
theorem Bs.rows4 {p : PG} {l : List Nat} (h : Bs p l) : p.rows.length ≤ 4 := (mayPB_iff.1 h.hp).2.2.2.1
/-- By how much the k-th column of l becomes less as column j grows by one. -/
def alq (p : PG) (l : List Nat) (k j : Nat) : Rat := xq (lookN (qOf p j) l) (l.getD k 0)
theorem colQ {p : PG} {l : List Nat} (hb : Bs p l) (r : Nat) {i : Nat} (hi : i < p.rows.length) : sumR (fun j => aq p i j * xq (lookN (qOf p r) l) j) (p.costs.length + p.rows.length) = aq p i r := by
  obtain ⟨a1, a2, a3, hq⟩ := corn_of (qOf_may hb.hp r) (qOf_right hb.hr r) (by rw [qOf_den hb.hr.len]; exact hb.hd)
  have h1 := hq.rowQ (i := i) (by rw [qOf_len]; exact hi)
  rw [qOf_most p r hi, qOf_len] at h1
  simp only [show (qOf p r).costs = p.costs from rfl] at h1
  rw [show aq p i r = (hasZ p i r : Rat) from rfl, ← h1]
  refine sumR_congr fun j _ => ?_
  unfold aq; rw [qOf_has]
theorem colOff {p : PG} {l : List Nat} (hb : Bs p l) (r : Nat) {j : Nat} (hj : j ∉ l) : xq (lookN (qOf p r) l) j = 0 := by
  obtain ⟨a1, a2, a3, hq⟩ := corn_of (qOf_may hb.hp r) (qOf_right hb.hr r) (by rw [qOf_den hb.hr.len]; exact hb.hd)
  exact hq.offQ hj
theorem slack_aq {p : PG} {i k : Nat} : aq p i (p.costs.length + k) = if i = k then 1 else 0 := by
  unfold aq hasZ
  rw [if_neg (by omega)]
  by_cases h : i = k
  · rw [if_pos (by omega), if_pos h]; rfl
  · rw [if_neg (by omega), if_neg h]; rfl
/-- Columns as sums of the rows' own columns. -/
theorem col_by {p : PG} {l : List Nat} (hb : Bs p l) {u : Nat → Rat} {v : Nat → Rat} (hu : ∀ j, j ∉ l → u j = 0) (hv : ∀ i, i < p.rows.length → sumR (fun j => aq p i j * u j) (p.costs.length + p.rows.length) = v i) :
    ∀ j, u j = sumR (fun i => v i * xq (lookN (qOf p (p.costs.length + i)) l) j) p.rows.length := by
  have hz := kernel hb.hr hb.rows4 hb.hd (z := fun j => u j - sumR (fun i => v i * xq (lookN (qOf p (p.costs.length + i)) l) j) p.rows.length) ?_ ?_
  · intro j; have := hz j; grind
  · intro j hj
    rw [hu j hj, sumR_congr (g := fun _ => 0) fun i _ => by rw [colOff hb _ hj]; grind, sumR_zero]; grind
  · intro i hi
    rw [sumR_congr (g := fun j => aq p i j * u j + (-1) * sumR (fun k => aq p i j * (v k * xq (lookN (qOf p (p.costs.length + k)) l) j)) p.rows.length) fun j _ => by rw [sumR_mul]; grind]
    rw [sumR_add, sumR_mul, hv i hi, sumR_comm]
    rw [sumR_congr (g := fun k => v k * aq p i (p.costs.length + k)) fun k hk => by
      rw [sumR_congr (g := fun j => v k * (aq p i j * xq (lookN (qOf p (p.costs.length + k)) l) j)) fun j _ => by grind, sumR_mul, colQ hb _ hi]]
    rw [sumR_one hi (fun k _ hk => by rw [slack_aq, if_neg (fun e => hk e.symm)]; grind), slack_aq, if_pos rfl]
    grind
theorem al_by {p : PG} {l : List Nat} (hb : Bs p l) (k j : Nat) : alq p l k j = sumR (fun i => aq p i j * alq p l k (p.costs.length + i)) p.rows.length :=
  col_by hb (fun _ hj => colOff hb j hj) (fun _ hi => colQ hb j hi) (l.getD k 0)
theorem x_by {p : PG} {l : List Nat} (hb : Bs p l) {z : Nat → Rat} (hz : ∀ i, i < p.rows.length → sumR (fun j => aq p i j * z j) (p.costs.length + p.rows.length) = ((mosts p).getD i 0 : Rat)) (k : Nat) :
    sumR (fun j => alq p l k j * z j) (p.costs.length + p.rows.length) = xq (lookN p l) (l.getD k 0) := by
  obtain ⟨gx, gy, gg, hc⟩ := corn_of hb.hp hb.hr hb.hd
  rw [col_by hb (u := xq (lookN p l)) (v := fun i => ((mosts p).getD i 0 : Rat)) (fun j hj => hc.offQ hj) (fun i hi => hc.rowQ hi) (l.getD k 0)]
  rw [sumR_congr (g := fun j => sumR (fun i => z j * (aq p i j * alq p l k (p.costs.length + i))) p.rows.length) fun j _ => by rw [al_by hb k j, sumR_mul]; grind]
  rw [sumR_comm]
  refine sumR_congr fun i hi => ?_
  rw [← hz i hi, sumR_congr (g := fun j => alq p l k (p.costs.length + i) * (aq p i j * z j)) fun j _ => by grind, sumR_mul]
  unfold alq; grind
theorem al_own {p : PG} {l : List Nat} (hb : Bs p l) {k q : Nat} (hk : k < l.length) (hq : q < l.length) : alq p l k (l.getD q 0) = if q = k then 1 else 0 := by
  have hlt := hb.hr.at_lt hq
  have hz := kernel hb.hr hb.rows4 hb.hd (z := fun j => xq (lookN (qOf p (l.getD q 0)) l) j - if j = l.getD q 0 then 1 else 0) ?_ ?_
  · have h := hz (l.getD k 0)
    unfold alq
    by_cases e : q = k
    · subst e; rw [if_pos rfl] at h ⊢; grind
    · rw [if_neg e]
      have hne : l.getD k 0 ≠ l.getD q 0 := by
        rcases Nat.lt_or_gt_of_ne e with h | h
        · have := hb.hr.ne h hk; omega
        · have := hb.hr.ne h hq; omega
      rw [if_neg hne] at h; grind
  · intro j hj
    rw [colOff hb _ hj, if_neg (fun e : j = l.getD q 0 => hj (by rw [e]; exact mem_getD.2 ⟨q, hq, rfl⟩))]; grind
  · intro i hi
    rw [sumR_congr (g := fun j => aq p i j * xq (lookN (qOf p (l.getD q 0)) l) j + (-1) * (if j = l.getD q 0 then aq p i (l.getD q 0) else 0)) fun j _ => by
      by_cases e : j = l.getD q 0
      · subst e; rw [if_pos rfl, if_pos rfl]; grind
      · rw [if_neg e, if_neg e]; grind]
    rw [sumR_add, sumR_mul, colQ hb _ hi, sumR_one hlt (fun j _ hj => if_neg hj), if_pos rfl]; grind
/-- A column changed for another one. -/
theorem bs_next {p : PG} {l : List Nat} (hb : Bs p l) {k r : Nat} (hk : k < l.length) (hN : r < p.costs.length + p.rows.length) (hn : alq p l k r ≠ 0) (hrl : r ∉ l) :
    Bs p (insN (l.eraseIdx k) r) := by
  refine ⟨hb.hp, right_next hb.hr hk hrl hN, den_next hb.hr hb.rows4 (by rw [← hb.hr.len]; exact hk) ?_ hrl hN⟩
  obtain ⟨a1, a2, a3, hq⟩ := corn_of (qOf_may hb.hp r) (qOf_right hb.hr r) (by rw [qOf_den hb.hr.len]; exact hb.hd)
  intro h0
  have h1 := hq.x (l.getD k 0)
  rw [xall_at (qOf_right hb.hr r) (by rw [qOf_len, ← hb.hr.len]; exact hk), h0] at h1
  apply hn
  unfold alq xq
  rcases Int.mul_eq_zero.1 h1.symm with e | e
  · exact absurd e hq.nx
  · rw [e]; exact zdiv _

/-- A step: the first column below 0 goes out, the first that makes it grow comes in. -/
structure Dst (p : PG) (l l' : List Nat) (k r : Nat) : Prop where
  bs : Bs p l
  kl : k < l.length
  neg : xq (lookN p l) (l.getD k 0) < 0
  fst : ∀ q, q < k → 0 ≤ xq (lookN p l) (l.getD q 0)
  rN : r < p.costs.length + p.rows.length
  al : alq p l k r < 0
  low : ∀ j, j < r → 0 ≤ alq p l k j
  eq : l' = insN (l.eraseIdx k) r
theorem Dst.rl {p : PG} {l l' : List Nat} {k r : Nat} (h : Dst p l l' k r) : r ∉ l := by
  intro hm
  obtain ⟨q, hq, rfl⟩ := mem_getD.1 hm
  have := h.al
  rw [al_own h.bs h.kl hq] at this
  split at this <;> grind
theorem Dst.next {p : PG} {l l' : List Nat} {k r : Nat} (h : Dst p l l' k r) : Bs p l' := by
  rw [h.eq]
  exact bs_next h.bs h.kl h.rN (fun e => by have := h.al; rw [e] at this; grind) h.rl
theorem Dst.mem {p : PG} {l l' : List Nat} {k r : Nat} (h : Dst p l l' k r) (j : Nat) : j ∈ l' ↔ (j ∈ l ∧ j ≠ l.getD k 0) ∨ j = r := by
  rw [h.eq, mem_insN, mem_erase h.bs.hr h.kl]
/-- A column below 0 that does not grow. -/
structure Stuck (p : PG) (l : List Nat) (k : Nat) : Prop where
  bs : Bs p l
  kl : k < l.length
  neg : xq (lookN p l) (l.getD k 0) < 0
  al : ∀ j, j < p.costs.length + p.rows.length → 0 ≤ alq p l k j

theorem least {P : Nat → Prop} : ∀ {n : Nat}, P n → ∃ k, k ≤ n ∧ P k ∧ ∀ q, q < k → ¬ P q := by
  intro n
  induction n using Nat.strongRecOn with
  | ind n ih =>
    intro h
    by_cases hh : ∃ q, q < n ∧ P q
    · obtain ⟨q, h1, h2⟩ := hh
      obtain ⟨k, k1, k2, k3⟩ := ih q h1 h2
      exact ⟨k, by omega, k2, k3⟩
    · exact ⟨n, Nat.le_refl _, h, fun q hq hp => hh ⟨q, hq, hp⟩⟩
theorem bs_case {p : PG} {l : List Nat} (hb : Bs p l) : OKb p l ∨ (∃ k, Stuck p l k) ∨ ∃ l' k r, Dst p l l' k r := by
  obtain ⟨gx, gy, gg, hc⟩ := corn_of hb.hp hb.hr hb.hd
  by_cases h : ∃ k, k < l.length ∧ xq (lookN p l) (l.getD k 0) < 0
  · obtain ⟨k0, h1, h2⟩ := h
    obtain ⟨k, k1, ⟨k2, k3⟩, k4⟩ := least (P := fun k => k < l.length ∧ xq (lookN p l) (l.getD k 0) < 0) ⟨h1, h2⟩
    right
    by_cases hs : ∃ r, r < p.costs.length + p.rows.length ∧ alq p l k r < 0
    · obtain ⟨r0, r1, r2⟩ := hs
      obtain ⟨r, s1, ⟨s2, s3⟩, s4⟩ := least (P := fun r => r < p.costs.length + p.rows.length ∧ alq p l k r < 0) ⟨r1, r2⟩
      refine .inr ⟨_, k, r, hb, k2, k3, fun q hq => ?_, s2, s3, fun j hj => ?_, rfl⟩
      · have := k4 q hq
        apply Classical.byContradiction
        intro hn
        exact this ⟨by omega, by grind⟩
      · have := s4 j hj
        apply Classical.byContradiction
        intro hn
        exact this ⟨by omega, by grind⟩
    · refine .inl ⟨k, hb, k2, k3, fun j hj => ?_⟩
      apply Classical.byContradiction
      intro hn
      exact hs ⟨j, hj, by grind⟩
  · left
    refine ⟨hb.hp, hb.hr, hb.hd, nonneg_of fun j => ?_⟩
    by_cases hj : j ∈ l
    · obtain ⟨k, hk, rfl⟩ := mem_getD.1 hj
      apply Classical.byContradiction
      intro hn
      exact h ⟨k, hk, (sign_div hc.px).2.2 (by omega)⟩
    · have := hc.offQ hj
      apply Classical.byContradiction
      intro hn
      have := (sign_div (a := (lookN p l).xs.getD j 0) hc.px).2.2 (by omega)
      unfold xq at *
      grind

/-- No circle. -/
theorem dual_ends {p : PG} {L : Nat → List Nat} {K R : Nat → Nat} {a b : Nat} (hab : a < b) (hs : ∀ i, a ≤ i → i < b → Dst p (L i) (L (i + 1)) (K i) (R i)) (hL : ∀ j, j ∈ L a ↔ j ∈ L b) : False := by
  have hin : ∀ j i k, a ≤ k → k ≤ i → i ≤ b → j ∉ L k → j ∈ L i → ∃ e, a ≤ e ∧ e < b ∧ R e = j := by
    intro j i k hk hki hi h0 h1
    obtain ⟨e, e1, e2, e3, e4⟩ := turn_up (P := fun i => j ∈ L i) hki h0 h1
    refine ⟨e, by omega, by omega, ?_⟩
    rcases ((hs e (by omega) (by omega)).mem j).1 e4 with ⟨q, _⟩ | q
    · exact absurd q e3
    · exact q.symm
  have hout : ∀ j i k, a ≤ k → k ≤ i → i ≤ b → j ∈ L k → j ∉ L i → ∃ e, a ≤ e ∧ e < b ∧ (L e).getD (K e) 0 = j := by
    intro j i k hk hki hi h0 h1
    obtain ⟨e, e1, e2, e3, e4⟩ := turn_up (P := fun i => j ∉ L i) hki (fun h => h h0) h1
    refine ⟨e, by omega, by omega, ?_⟩
    have hje : j ∈ L e := Classical.byContradiction e3
    apply Classical.byContradiction
    intro hne
    exact e4 (((hs e (by omega) (by omega)).mem j).2 (Or.inl ⟨hje, fun q => hne q.symm⟩))
  -- the greatest that comes in
  obtain ⟨q, ⟨e, e1, e2, e3⟩, hmax⟩ : ∃ q, (∃ e, a ≤ e ∧ e < b ∧ R e = q) ∧ ∀ i, a ≤ i → i < b → R i ≤ q := by
    have : ∀ n, (∃ i, a ≤ i ∧ i < b ∧ p.costs.length + p.rows.length ≤ R i + n) → ∃ q, (∃ e, a ≤ e ∧ e < b ∧ R e = q) ∧ ∀ i, a ≤ i → i < b → R i ≤ q := by
      intro n
      induction n with
      | zero => rintro ⟨i, h1, h2, h3⟩; have := (hs i h1 h2).rN; omega
      | succ n ih =>
        rintro ⟨i, h1, h2, h3⟩
        by_cases hh : ∃ i, a ≤ i ∧ i < b ∧ p.costs.length + p.rows.length ≤ R i + n
        · exact ih hh
        · refine ⟨R i, ⟨i, h1, h2, rfl⟩, fun k hk1 hk2 => ?_⟩
          apply Classical.byContradiction
          intro hlt
          exact hh ⟨k, hk1, hk2, by omega⟩
    exact this (p.costs.length + p.rows.length) ⟨a, by omega, by omega, by omega⟩
  have hS : ∀ i, a ≤ i → i < b → (L i).getD (K i) 0 ≤ q := by
    intro i h1 h2
    have h := hs i h1 h2
    have hm : (L i).getD (K i) 0 ∈ L i := mem_getD.2 ⟨_, h.kl, rfl⟩
    have hno : (L i).getD (K i) 0 ∉ L (i + 1) := fun hq => by
      rcases (h.mem _).1 hq with ⟨_, w⟩ | w
      · exact w rfl
      · exact h.rl (w ▸ hm)
    by_cases hb' : (L i).getD (K i) 0 ∈ L b
    · obtain ⟨f, f1, f2, f3⟩ := hin _ b (i + 1) (by omega) (by omega) (Nat.le_refl _) hno hb'
      rw [← f3]; exact hmax f f1 f2
    · obtain ⟨f, f1, f2, f3⟩ := hin _ i a (Nat.le_refl _) h1 (by omega) (fun w => hb' ((hL _).1 w)) hm
      rw [← f3]; exact hmax f f1 f2
  obtain ⟨f, f1, f2, f3⟩ : ∃ f, a ≤ f ∧ f < b ∧ (L f).getD (K f) 0 = q := by
    have h := hs e e1 e2
    have hno : q ∉ L e := by rw [← e3]; exact h.rl
    have hm : q ∈ L (e + 1) := by rw [← e3]; exact (h.mem _).2 (Or.inr rfl)
    by_cases hb' : q ∈ L b
    · exact hout q e a (Nat.le_refl _) e1 (by omega) ((hL q).2 hb') hno
    · exact hout q b (e + 1) (by omega) (by omega) (Nat.le_refl _) hm hb'
  have hfix : ∀ j, q < j → ∀ n, a + n ≤ b → (j ∈ L (a + n) ↔ j ∈ L a) := by
    intro j hj n
    induction n with
    | zero => intro _; exact Iff.rfl
    | succ n ih =>
      intro hn
      rw [← ih (by omega)]
      have h := hs (a + n) (by omega) (by omega)
      have r1 := hmax (a + n) (by omega) (by omega)
      have r2 := hS (a + n) (by omega) (by omega)
      rw [show a + (n + 1) = a + n + 1 by omega, h.mem j]
      constructor
      · rintro (⟨w, _⟩ | w)
        · exact w
        · omega
      · intro w; exact Or.inl ⟨w, by omega⟩
  have hE := hs e e1 e2
  have hF := hs f f1 f2
  obtain ⟨gx, gy, gg, hc⟩ := corn_of hF.bs.hp hF.bs.hr hF.bs.hd
  have hsum := x_by hE.bs (z := xq (lookN p (L f))) (fun i hi => hc.rowQ hi) (K e)
  have hneg := hE.neg
  rw [← hsum] at hneg
  have hpos : ∀ n, 0 ≤ sumR (fun j => alq p (L e) (K e) j * xq (lookN p (L f)) j) n := by
    intro n
    induction n with
    | zero => simp [sumR]
    | succ n ih =>
      rw [sumR]
      have : 0 ≤ alq p (L e) (K e) n * xq (lookN p (L f)) n := by
        by_cases hnf : n ∈ L f
        · obtain ⟨k, hk, rfl⟩ := mem_getD.1 hnf
          by_cases hlt : q < (L f).getD k 0
          · -- it never changes
            have hme : (L f).getD k 0 ∈ L e := by
              have h1 := hfix _ hlt (f - a) (by omega)
              have h2 := hfix _ hlt (e - a) (by omega)
              rw [show a + (f - a) = f by omega] at h1
              rw [show a + (e - a) = e by omega] at h2
              exact h2.2 (h1.1 hnf)
            obtain ⟨k', hk', ek⟩ := mem_getD.1 hme
            have hne : k' ≠ K e := fun w => by
              have := hS e e1 e2
              rw [w] at ek; omega
            rw [← ek, al_own hE.bs hE.kl hk', if_neg hne]; grind
          · by_cases heq : (L f).getD k 0 = q
            · have h1 := hE.al
              rw [e3] at h1
              have h2 := hF.neg
              rw [f3] at h2
              rw [heq]
              have := Rat.mul_pos (show 0 < -(alq p (L e) (K e) q) by grind) (show 0 < -(xq (lookN p (L f)) q) by grind)
              grind
            · have h1 := hE.low ((L f).getD k 0) (by omega)
              have hkK : k < K f := by
                apply Classical.byContradiction
                intro w
                rcases Nat.lt_or_ge (K f) k with w' | w'
                · have := hF.bs.hr.ne w' hk; omega
                · have : k = K f := by omega
                  subst this; exact heq f3
              exact Rat.mul_nonneg h1 (hF.fst k hkK)
        · rw [hc.offQ hnf]; grind
      grind
  have := hpos (p.costs.length + p.rows.length)
  grind

/-- The rows' own columns. -/
def slackL (p : PG) : List Nat := (List.range p.rows.length).map fun k => p.costs.length + k
theorem slack_bs {p : PG} (hp : mayPB p = true) : Bs p (slackL p) := by
  have hlen : (slackL p).length = p.rows.length := by simp [slackL]
  refine ⟨hp, ⟨hlen, fun j hj => ?_, ?_⟩, ?_⟩
  · simp only [slackL, List.mem_map, List.mem_range] at hj
    obtain ⟨k, hk, rfl⟩ := hj; omega
  · unfold slackL
    rw [List.pairwise_map]
    exact List.pairwise_lt_range.imp fun h => by omega
  · rw [den_dt hlen]
    have hh : ∀ i k, hasZ p i (p.costs.length + k) = if k = i then 1 else 0 := fun i k => by
      unfold hasZ; rw [if_neg (by omega)]
      by_cases h : k = i
      · rw [if_pos (by omega), if_pos h]
      · rw [if_neg (by omega), if_neg h]
    obtain ⟨_, _, h1, h4, _⟩ := mayPB_iff.1 hp
    have h0 : ∀ i, hasZ p i p.costs.length = if 0 = i then 1 else 0 := fun i => hh i 0
    unfold slackL
    generalize hm : p.rows.length = m at *
    rcases (show m = 1 ∨ m = 2 ∨ m = 3 ∨ m = 4 by omega) with rfl | rfl | rfl | rfl
    · simp [List.range_succ, dt1, hh, h0]
    · simp [List.range_succ, dt2, hh, h0]
    · simp [List.range_succ, dt3, hh, h0]
    · simp [List.range_succ, dt4, dt3, hh, h0]

/-- One or the other. -/
theorem noth {p : PG} (hp : mayPB p = true) : (∃ l, OKb p l) ∨ ∃ l k, Stuck p l k := by
  apply Classical.byContradiction
  intro hn
  have hn1 : ∀ l, ¬ OKb p l := fun l h => hn (.inl ⟨l, h⟩)
  have hn2 : ∀ l k, ¬ Stuck p l k := fun l k h => hn (.inr ⟨l, k, h⟩)
  have hst : ∀ s : { l : List Nat // Bs p l }, ∃ t : { l : List Nat // Bs p l }, ∃ k r, Dst p s.1 t.1 k r := fun s => by
    rcases bs_case s.2 with h | ⟨k, h⟩ | ⟨l', k, r, h⟩
    · exact absurd h (hn1 _)
    · exact absurd h (hn2 _ _)
    · exact ⟨⟨l', h.next⟩, k, r, h⟩
  let nx : { l : List Nat // Bs p l } → { l : List Nat // Bs p l } := fun s => Classical.choose (hst s)
  have hnx : ∀ s, ∃ k r, Dst p s.1 (nx s).1 k r := fun s => Classical.choose_spec (hst s)
  let S : Nat → { l : List Nat // Bs p l } := fun n => Nat.rec ⟨slackL p, slack_bs hp⟩ (fun _ s => nx s) n
  have hS : ∀ n, S (n + 1) = nx (S n) := fun n => rfl
  let K : Nat → Nat := fun n => Classical.choose (hnx (S n))
  have hK : ∀ n, ∃ r, Dst p (S n).1 (nx (S n)).1 (K n) r := fun n => Classical.choose_spec (hnx (S n))
  let R : Nat → Nat := fun n => Classical.choose (hK n)
  have hR : ∀ n, Dst p (S n).1 (nx (S n)).1 (K n) (R n) := fun n => Classical.choose_spec (hK n)
  obtain ⟨i, j, hij, _, he⟩ := pig (2 ^ (p.costs.length + p.rows.length)) (fun i => code (S i).1 (p.costs.length + p.rows.length)) (fun i _ => code_lt _ _)
  refine dual_ends (p := p) (L := fun n => (S n).1) (K := K) (R := R) hij (fun n _ _ => by rw [hS]; exact hR n) fun q => ?_
  by_cases hq : q < p.costs.length + p.rows.length
  · exact code_inj he q hq
  · exact ⟨fun h => absurd ((S i).2.hr.lt q h) hq, fun h => absurd ((S j).2.hr.lt q h) hq⟩
end Go.Proofs.Ytjcdkbalhleeeab

/-
  Plain laws for ProofBest and ProofEndless: what is proved is so. No program in sight.
-/
namespace Go.Proofs.Ytjcdkbalhleeeab

theorem coversB_at {p : PG} {ys : List Int} {t : Int} (h : coversB p ys t = true) {j : Nat} (hj : j < p.costs.length) : costZ p j * t ≤ dot (colZ p j) ys := by
  unfold coversB at h
  rw [List.all_eq_true] at h
  simpa using h j (by simpa using hj)
theorem goesB_iff {p : PG} {x : List Int} {d : Int} : goesB p x d = true ↔ fitsB p x d = true ∧ nonneg x = true ∧ ∀ i (h : i < p.rows.length), dot (p.rows[i]).1 x ≤ (p.rows[i]).2 * d := by
  unfold goesB
  simp only [Bool.and_eq_true, List.all_eq_true, decide_eq_true_eq]
  constructor
  · rintro ⟨h1, h2, h3⟩
    exact ⟨h1, h2, fun i hi => h3 _ (List.getElem_mem hi)⟩
  · rintro ⟨h1, h2, h3⟩
    refine ⟨h1, h2, fun r hr => ?_⟩
    obtain ⟨i, hi, rfl⟩ := List.mem_iff_getElem.1 hr
    exact h3 i hi

/-- What goes is worth no more than what covers it. -/
theorem weak {p : PG} {zs ys : List Int} {zd yd : Int} (hg : goesB p zs zd = true) (hy : nonneg ys = true) (hl : ys.length = p.rows.length) (hc : coversB p ys yd = true) :
    dot p.costs zs * yd ≤ dot (mosts p) ys * zd := by
  obtain ⟨hf, hz, hr⟩ := goesB_iff.1 hg
  obtain ⟨hp, _, hzl⟩ := fitsB_iff.1 hf
  rw [dot_sum rfl hzl, dot_sum (length_mosts p) hl, ← sumN_mul', ← sumN_mul']
  have h1 : sumN (fun j => p.costs.getD j 0 * zs.getD j 0 * yd) p.costs.length ≤ sumN (fun j => sumN (fun i => hasZ p i j * ys.getD i 0 * zs.getD j 0) p.rows.length) p.costs.length := by
    refine sumN_le fun j hj => ?_
    have h := coversB_at hc hj
    rw [dot_col hl] at h
    have hcz : costZ p j = p.costs.getD j 0 := by simp [costZ, hj]
    rw [hcz] at h
    have := Int.mul_le_mul_of_nonneg_right h (nonneg_at hz j)
    rw [← sumN_mul'] at this
    rw [show p.costs.getD j 0 * zs.getD j 0 * yd = p.costs.getD j 0 * yd * zs.getD j 0 by rw [Int.mul_right_comm]]
    exact this
  refine Int.le_trans h1 ?_
  rw [← sumN_comm (f := fun i j => hasZ p i j * ys.getD i 0 * zs.getD j 0)]
  refine sumN_le fun i hi => ?_
  have h := hr i hi
  rw [dot_row hp hi hzl] at h
  have hm : (mosts p).getD i 0 = (p.rows[i]).2 := by rw [getD_mosts]; simp [List.getD, List.getElem?_eq_getElem hi]
  rw [hm]
  have := Int.mul_le_mul_of_nonneg_right h (nonneg_at hy i)
  rw [← sumN_mul'] at this
  have e : sumN (fun j => hasZ p i j * ys.getD i 0 * zs.getD j 0) p.costs.length = sumN (fun j => hasZ p i j * zs.getD j 0 * ys.getD i 0) p.costs.length :=
    sumN_congr fun j _ => by rw [Int.mul_right_comm]
  rw [e, show (p.rows[i]).2 * ys.getD i 0 * zd = (p.rows[i]).2 * zd * ys.getD i 0 by rw [Int.mul_right_comm]]
  exact this

/-- A fraction that was made stands as its numbers do. -/
theorem fr_cross {n d : Int} (h : ptE [n] d = 0) : frN n d * d = n * ptD [n] d ∧ 0 < ptD [n] d := by
  have h0 : d ≠ 0 := fun e => by subst e; simp [ptE] at h
  rw [frN_eq h, ptD_eq h]
  exact ⟨sgcd_cross h0, sgcd_sign h0⟩

theorem best_parts {p : PG} {a : AN} (h : bestB p a = true) : nonneg a.ys = true ∧ a.ys.length = p.rows.length ∧ coversB p a.ys a.yd = true ∧ 0 < a.yd ∧ ptE [dot (mosts p) a.ys] a.yd = 0 ∧
    frN (dot (mosts p) a.ys) a.yd = a.wn ∧ ptD [dot (mosts p) a.ys] a.yd = a.wd ∧ worE p a.xs a.xd = 0 := by
  unfold bestB at h
  simp only [Bool.and_eq_true, decide_eq_true_eq] at h
  obtain ⟨_, h2, h3, h4, h5, h6, ⟨h7, h8⟩, h9, h10⟩ := h
  obtain ⟨g1, g2, g3⟩ := aboveB_iff.1 h3
  obtain ⟨k1, _⟩ := mayB_parts g1
  exact ⟨g3, g2, h4, by omega, h6, by rw [h9, h7], by rw [h10, h8], h5⟩

/-- Of Best: a point that goes is worth no more. -/
theorem best_law {p : PG} {a : AN} {zs : List Int} {zd : Int} (h : bestB p a = true) (hg : goesB p zs zd = true) (he : ptE [dot p.costs zs] zd = 0) :
    frN (dot p.costs zs) zd * a.wd ≤ a.wn * ptD [dot p.costs zs] zd := by
  obtain ⟨h1, h2, h3, h4, h5, h6, h7, _⟩ := best_parts h
  have hw := weak hg h1 h2 h3
  obtain ⟨c1, c2⟩ := fr_cross he
  obtain ⟨c3, c4⟩ := fr_cross h5
  rw [h6, h7] at c3
  rw [h7] at c4
  obtain ⟨hf, _, _⟩ := goesB_iff.1 hg
  obtain ⟨_, hz, _⟩ := fitsB_iff.1 hf
  have hzd : 1 ≤ zd := (mayB_parts hz).1
  generalize frN (dot p.costs zs) zd = N at *
  generalize ptD [dot p.costs zs] zd = D at *
  generalize dot p.costs zs = u at *
  generalize dot (mosts p) a.ys = v at *
  generalize a.yd = yd at *
  generalize a.wn = n at *
  generalize a.wd = d at *
  -- N zd = u D ; n yd = v d ; u yd ≤ v zd ; goal N d ≤ n D
  have hpos : 0 < zd * yd := Int.mul_pos (by omega) (by omega)
  have hDd : 0 ≤ D * d := Int.mul_nonneg (by omega) (by omega)
  have h' := Int.mul_le_mul_of_nonneg_right hw hDd
  have e1 : u * yd * (D * d) = N * d * (zd * yd) := by
    rw [show u * yd * (D * d) = u * D * (yd * d) by ac_rfl, ← c1]; ac_rfl
  have e2 : v * zd * (D * d) = n * D * (zd * yd) := by
    rw [show v * zd * (D * d) = v * d * (zd * D) by ac_rfl, ← c3]; ac_rfl
  rw [e1, e2] at h'
  exact Int.le_of_mul_le_mul_right h' hpos

/-- Of Nothing: no point goes. -/
theorem nothing_law {p : PG} {a : AN} {zs : List Int} {zd : Int} (h : nothingB p a = true) : goesB p zs zd = false := by
  cases hg : goesB p zs zd with
  | false => rfl
  | true =>
    exfalso
    unfold nothingB at h
    simp only [Bool.and_eq_true, decide_eq_true_eq] at h
    obtain ⟨_, _, _, h4, h5, h6, h7⟩ := h
    obtain ⟨g1, g2, g3⟩ := aboveB_iff.1 h4
    have hw := weak hg g3 g2 h6
    obtain ⟨hf, _, _⟩ := goesB_iff.1 hg
    obtain ⟨_, hz, _⟩ := fitsB_iff.1 hf
    have hzd : 1 ≤ zd := (mayB_parts hz).1
    simp only [Int.mul_zero] at hw
    have := Int.mul_neg_of_neg_of_pos h7 (show 0 < zd by omega)
    omega

theorem worth_range {p : PG} {zs : List Int} {zd : Int} (hf : fitsB p zs zd = true) : ptE [dot p.costs zs] zd = 0 ∨ ptE [dot p.costs zs] zd = 1 := by
  obtain ⟨hp, hz, hl⟩ := fitsB_iff.1 hf
  obtain ⟨h1, h2, h3, _⟩ := mayB_parts hz
  obtain ⟨_, g2, _, _, g5, _⟩ := mayPB_iff.1 hp
  have hb := dot_bound (a := p.costs) (b := zs) g5 h3 (by omega) (by omega)
  have hsm : smallB 4611686018427387904 [dot p.costs zs] = true := by
    rw [smallB_one]; simp
    omega
  rw [ptE_of (by omega) hsm (by omega)]
  split <;> simp

/-! Endless -/
theorem endless_parts {p : PG} {a : AN} (h : endlessB p a = true) : goesB p a.xs a.xd = true ∧ nonneg a.rs = true ∧ a.rs.length = p.costs.length ∧ (∀ i (h : i < p.rows.length), dot (p.rows[i]).1 a.rs ≤ 0) ∧ 0 < dot p.costs a.rs := by
  unfold endlessB at h
  simp only [Bool.and_eq_true, decide_eq_true_eq, List.all_eq_true] at h
  obtain ⟨_, _, h3, h4, _, h6, h7⟩ := h
  obtain ⟨g1, g2, g3⟩ := aboveB_iff.1 h4
  exact ⟨h3, g3, g2, fun i hi => h6 _ (List.getElem_mem hi), h7⟩
/-- A point moved along: each number, and k times den times the other one. -/
def along (xs rs : List Int) (k d : Int) : List Int := (List.range xs.length).map fun i => xs.getD i 0 + k * rs.getD i 0 * d
theorem length_along (xs rs : List Int) (k d : Int) : (along xs rs k d).length = xs.length := by simp [along]
theorem along_at {xs rs : List Int} {k d : Int} {i : Nat} (h : i < xs.length) : (along xs rs k d).getD i 0 = xs.getD i 0 + k * rs.getD i 0 * d := by
  unfold along; rw [getD_map_range h]
theorem dot_along {a xs rs : List Int} {k d : Int} (h1 : xs.length = a.length) (h2 : rs.length = a.length) : dot a (along xs rs k d) = dot a xs + k * d * dot a rs := by
  rw [dot_sum rfl (by rw [length_along, h1]), dot_sum rfl h1, dot_sum rfl h2, ← sumN_mul, ← sumN_add]
  refine sumN_congr fun i hi => ?_
  rw [along_at (by omega), Int.mul_add]
  have : a.getD i 0 * (k * rs.getD i 0 * d) = k * d * (a.getD i 0 * rs.getD i 0) := by ac_rfl
  omega
theorem endless_row {p : PG} {a : AN} (h : endlessB p a = true) {k : Int} (hk : 0 ≤ k) {i : Nat} (hi : i < p.rows.length) : dot (p.rows[i]).1 (along a.xs a.rs k a.xd) ≤ (p.rows[i]).2 * a.xd := by
  obtain ⟨h1, h2, h3, h4, _⟩ := endless_parts h
  obtain ⟨hf, _, hr⟩ := goesB_iff.1 h1
  obtain ⟨hp, hx, hl⟩ := fitsB_iff.1 hf
  have hd := (mayB_parts hx).1
  have hrl := (mayPB_row hp hi).1
  rw [dot_along (by omega) (by omega)]
  have := hr i hi
  have h0 := h4 i hi
  have : k * a.xd * dot (p.rows[i]).1 a.rs ≤ 0 := Int.mul_nonpos_of_nonneg_of_nonpos (Int.mul_nonneg hk (by omega)) h0
  omega
theorem endless_more {p : PG} {a : AN} (h : endlessB p a = true) {k : Int} (hk : 0 ≤ k) : k * a.xd ≤ dot p.costs (along a.xs a.rs k a.xd) - dot p.costs a.xs := by
  obtain ⟨h1, h2, h3, h4, h5⟩ := endless_parts h
  obtain ⟨hf, _, hr⟩ := goesB_iff.1 h1
  obtain ⟨hp, hx, hl⟩ := fitsB_iff.1 hf
  have hd := (mayB_parts hx).1
  rw [dot_along (by omega) (by omega)]
  have h0 : 0 ≤ k * a.xd := Int.mul_nonneg hk (by omega)
  have := Int.mul_le_mul_of_nonneg_left (show (1 : Int) ≤ dot p.costs a.rs by omega) h0
  rw [Int.mul_one] at this
  omega
end Go.Proofs.Ytjcdkbalhleeeab

/-
  Plain law: what the corners of a walk's end, or of a stuck column, make of an answer holds. No program in sight.
-/
namespace Go.Proofs.Ytjcdkbalhleeeab

/-! Fractions in lowest terms are one. -/
theorem frac_one {a b c d : Int} (h1 : mayB [a] b = true) (h2 : mayB [c] d = true) (h : a * d = c * b) : a = c ∧ b = d := by
  have c1 : Nat.gcd b.natAbs a.natAbs = 1 := by
    unfold mayB at h1; simp only [Bool.and_eq_true, decide_eq_true_eq] at h1; simpa [comm] using h1.2
  have c2 : Nat.gcd d.natAbs c.natAbs = 1 := by
    unfold mayB at h2; simp only [Bool.and_eq_true, decide_eq_true_eq] at h2; simpa [comm] using h2.2
  have p1 := mayB_parts h1
  have p2 := mayB_parts h2
  have hbd : b.natAbs ∣ d.natAbs := by
    refine Nat.Coprime.dvd_of_dvd_mul_left (show Nat.Coprime b.natAbs a.natAbs from c1) ?_
    rw [← Int.natAbs_mul, h, Int.natAbs_mul]; exact Nat.dvd_mul_left _ _
  have hdb : d.natAbs ∣ b.natAbs := by
    refine Nat.Coprime.dvd_of_dvd_mul_left (show Nat.Coprime d.natAbs c.natAbs from c2) ?_
    rw [← Int.natAbs_mul, ← h, Int.natAbs_mul]; exact Nat.dvd_mul_left _ _
  have e := Nat.dvd_antisymm hbd hdb
  have e' : b = d := by omega
  subst e'
  exact ⟨Int.eq_of_mul_eq_mul_right (by omega) h, rfl⟩
theorem fr_one {a b c d : Int} (h1 : ptE [a] b = 0) (h2 : ptE [c] d = 0) (hb : b ≠ 0) (hd : d ≠ 0) (h : a * d = c * b) : frN a b = frN c d ∧ ptD [a] b = ptD [c] d := by
  have m1 := may_end h1
  have m2 := may_end h2
  obtain ⟨p1, e1⟩ := frac_pos h1
  obtain ⟨p2, e2⟩ := frac_pos h2
  refine frac_one m1 m2 ?_
  generalize frN a b = x at *
  generalize ptD [a] b = y at *
  generalize frN c d = u at *
  generalize ptD [c] d = v at *
  -- x b = a y, u d = c v, a d = c b
  have : (b * d) * (x * v) = (b * d) * (u * y) := by
    have q1 : (b * d) * (x * v) = (x * b) * (d * v) := by ac_rfl
    have q2 : (b * d) * (u * y) = (u * d) * (b * y) := by ac_rfl
    rw [q1, q2, e1, e2]
    have q3 : a * y * (d * v) = (a * d) * (y * v) := by ac_rfl
    have q4 : c * v * (b * y) = (c * b) * (y * v) := by ac_rfl
    rw [q3, q4, h]
  exact Int.eq_of_mul_eq_mul_left (by intro q; rcases Int.mul_eq_zero.1 q with q | q; exact hb q; exact hd q) this

/-! Bounds: determinants of numbers up to 12. -/
theorem dt12 {A : Nat → Nat → Int} (h : ∀ i j, -12 ≤ A i j ∧ A i j ≤ 12) {rs cs : List Nat} (hl : cs.length = rs.length) (h4 : rs.length ≤ 4) : -497664 ≤ dt A rs cs ∧ dt A rs cs ≤ 497664 := by
  have hw : Within A (fun _ => 12) := fun i c => ⟨h i c, by show (0 : Int) ≤ 12; omega⟩
  rcases (show rs.length = 0 ∨ rs.length = 1 ∨ rs.length = 2 ∨ rs.length = 3 ∨ rs.length = 4 by omega) with e | e | e | e | e
  · obtain rfl : rs = [] := List.eq_nil_of_length_eq_zero e
    simp [dt]
  · obtain ⟨r0, rfl⟩ := List.length_eq_one_iff.1 e
    obtain ⟨c0, rfl⟩ := List.length_eq_one_iff.1 (hl.trans e)
    rw [dt1]; have := h r0 c0; omega
  · obtain ⟨r0, r1, rfl⟩ := list_len2 e
    obtain ⟨c0, c1, rfl⟩ := list_len2 (hl.trans e)
    have := dt2_within hw r0 r1 c0 c1
    omega
  · obtain ⟨r0, r1, r2, rfl⟩ := list_len3 e
    obtain ⟨c0, c1, c2, rfl⟩ := list_len3 (hl.trans e)
    have := dt3_within hw r0 r1 r2 c0 c1 c2
    omega
  · obtain ⟨r0, r1, r2, r3, rfl⟩ := list_len4 e
    obtain ⟨c0, c1, c2, c3, rfl⟩ := list_len4 (hl.trans e)
    have := dt4_within hw r0 r1 r2 r3 c0 c1 c2 c3
    omega
theorem xk12 {p : PG} {l : List Nat} (hp : mayPB p = true) (_hl : l.length = p.rows.length) (k : Nat) : -497664 ≤ xk p l k ∧ xk p l k ≤ 497664 := by
  unfold xk dtp
  refine dt12 (fun i j => ?_) (by simp) (by have := mayPB_iff.1 hp; simp; omega)
  unfold matD
  split
  · exact hasZ_bound hp i _
  · exact mosts_at_bound hp i
theorem le_of_mul {a g x B : Int} (hg : g ≠ 0) (h : a = g * x) (hb : -B ≤ a ∧ a ≤ B) : -B ≤ x ∧ x ≤ B := by
  have h1 : a.natAbs = g.natAbs * x.natAbs := by rw [h, Int.natAbs_mul]
  have h2 : 1 ≤ g.natAbs := by omega
  have h3 : 1 * x.natAbs ≤ g.natAbs * x.natAbs := Nat.mul_le_mul_right _ h2
  omega
section
variable {p : PG} {l : List Nat} {c : CO} {gx gy gg : Int}
theorem Corn.xs12 (h : Corn p l c gx gy gg) (j : Nat) : -497664 ≤ c.xs.getD j 0 ∧ c.xs.getD j 0 ≤ 497664 := by
  refine le_of_mul h.nx (h.x j) ?_
  by_cases hj : j ∈ l
  · obtain ⟨k, hk, rfl⟩ := mem_getD.1 hj
    rw [xall_at h.hr (by rw [← h.hr.len]; exact hk)]
    exact xk12 h.hp h.hr.len k
  · rw [xall_off h.hr hj]; omega
theorem Corn.xd12 (h : Corn p l c gx gy gg) : 0 < c.xd ∧ c.xd ≤ 497664 := ⟨h.px, (le_of_mul h.nx h.dx (den_bound h.hp h.hr.len)).2⟩
theorem Corn.ys400 (h : Corn p l c gx gy gg) (i : Nat) : -16588800 ≤ c.ys.getD i 0 ∧ c.ys.getD i 0 ≤ 16588800 := by
  refine le_of_mul h.ny (h.y i) ?_
  by_cases hi : i < p.rows.length
  · rw [yall_at hi]; exact yk_bound h.hp h.hr.len hi
  · have e : (yall p l).getD i 0 = 0 := by simp [List.getD, yall, hi]
    rw [e]; omega
end

/-! A corner's variables as a point. -/
def varL (p : PG) (c : CO) : List Int := c.xs.take p.costs.length
section
variable {p : PG} {l : List Nat} {c : CO} {gx gy gg : Int}
theorem var_len (h : Corn p l c gx gy gg) : (varL p c).length = p.costs.length := by unfold varL; rw [List.length_take, h.lx]; omega
theorem var_at (p : PG) (c : CO) {j : Nat} (hj : j < p.costs.length) : (varL p c).getD j 0 = c.xs.getD j 0 := by simp [varL, List.getD, hj]
theorem var_small (h : Corn p l c gx gy gg) : smallB 497664 (varL p c) = true := by
  rw [smallB_getD (by omega)]
  intro j
  by_cases hj : j < p.costs.length
  · rw [var_at p c hj]; exact h.xs12 j
  · have e : (varL p c).getD j 0 = 0 := by rw [List.getD, List.getElem?_eq_none (by rw [var_len h]; omega)]; rfl
    rw [e]; omega
theorem small_le {m n : Int} (hm : m ≤ n) {l : List Int} (h : smallB m l = true) : smallB n l = true := smallB_iff.2 fun x hx => by have := smallB_mem h hx; omega
theorem var_pt (h : Corn p l c gx gy gg) : ptE (varL p c) c.xd = 0 := by
  have := h.xd12
  have hn := mayPB_iff.1 h.hp
  exact pt_ok (by omega) (by omega) (small_le (by omega) (var_small h)) (by rw [var_len h]; omega)
/-- Divided: each number is the corner's, by one divisor. -/
theorem var_parts (h : Corn p l c gx gy gg) : ∃ g : Int, 0 < g ∧ c.xd = g * ptD (varL p c) c.xd ∧ (∀ j, (varL p c).getD j 0 = g * (ptN (varL p c) c.xd).getD j 0) ∧ (ptN (varL p c) c.xd).length = p.costs.length ∧ 0 < ptD (varL p c) c.xd := by
  obtain ⟨g, g1, g2, g3, g4, g5⟩ := pt_parts (var_pt h)
  refine ⟨g, ?_, g2, g3, by rw [g4, var_len h], g5⟩
  apply Classical.byContradiction
  intro hn
  have := Int.mul_nonpos_of_nonpos_of_nonneg (show g ≤ 0 by omega) (show 0 ≤ ptD (varL p c) c.xd by omega)
  have := h.px
  omega
theorem dot_scale {a x y : List Int} {g : Int} {n : Nat} (ha : a.length = n) (hx : x.length = n) (hy : y.length = n) (h : ∀ j, x.getD j 0 = g * y.getD j 0) : dot a x = g * dot a y := by
  rw [dot_sum ha hx, dot_sum ha hy, ← sumN_mul]
  exact sumN_congr fun j _ => by rw [h j]; ac_rfl
theorem var_goes (h : Corn p l c gx gy gg) (hx : nonneg c.xs = true) : goesB p (ptN (varL p c) c.xd) (ptD (varL p c) c.xd) = true := by
  obtain ⟨g, g0, g1, g2, g3, g4⟩ := var_parts h
  refine goesB_iff.2 ⟨fitsB_iff.2 ⟨h.hp, mayB_pt (var_pt h), g3⟩, nonneg_of fun j => ?_, fun i hi => ?_⟩
  · by_cases hj : j < p.costs.length
    · have h1 := g2 j
      rw [var_at p c hj] at h1
      have h2 := nonneg_at hx j
      apply Classical.byContradiction
      intro hn
      have := Int.mul_neg_of_pos_of_neg g0 (show (ptN (varL p c) c.xd).getD j 0 < 0 by omega)
      omega
    · simp [List.getD, List.getElem?_eq_none (show (ptN (varL p c) c.xd).length ≤ j by omega)]
  · have h1 := h.row' hi
    have h2 := nonneg_at hx (p.costs.length + i)
    have h3 : dot (p.rows[i]).1 (varL p c) = g * dot (p.rows[i]).1 (ptN (varL p c) c.xd) := dot_scale (mayPB_row h.hp hi).1 (var_len h) g3 g2
    rw [show c.xs.take p.costs.length = varL p c from rfl, h3] at h1
    have h4 : (p.rows[i]).2 * c.xd = g * ((p.rows[i]).2 * ptD (varL p c) c.xd) := by
      have : (p.rows[i]).2 * (g * ptD (varL p c) c.xd) = g * ((p.rows[i]).2 * ptD (varL p c) c.xd) := by ac_rfl
      rw [← this, ← g1]
    rw [h4] at h1
    exact Int.le_of_mul_le_mul_left (by omega) g0
theorem var_worth (h : Corn p l c gx gy gg) : ptE [dot p.costs (ptN (varL p c) c.xd)] (ptD (varL p c) c.xd) = 0 ∧
    dot p.costs (ptN (varL p c) c.xd) * c.xd = dot p.costs (varL p c) * ptD (varL p c) c.xd ∧ (-796262400 ≤ dot p.costs (varL p c) ∧ dot p.costs (varL p c) ≤ 796262400) := by
  obtain ⟨g, g0, g1, g2, g3, g4⟩ := var_parts h
  have h3 : dot p.costs (varL p c) = g * dot p.costs (ptN (varL p c) c.xd) := dot_scale rfl (var_len h) g3 g2
  obtain ⟨_, n4, _, _, hc, _⟩ := mayPB_iff.1 h.hp
  have hb := dot_bound hc (var_small h) (by omega) (by omega)
  have hb' : -796262400 ≤ dot p.costs (varL p c) ∧ dot p.costs (varL p c) ≤ 796262400 := by omega
  have hd := h.xd12
  have hz := le_of_mul (by omega) h3 hb'
  have hz2 := le_of_mul (by omega) g1 (show -497664 ≤ c.xd ∧ c.xd ≤ 497664 by omega)
  refine ⟨pt_ok (by omega) (by omega) (by rw [smallB_one]; simp; omega) (by simp), ?_, hb'⟩
  rw [h3]
  have : dot p.costs (ptN (varL p c) c.xd) * (g * ptD (varL p c) c.xd) = g * dot p.costs (ptN (varL p c) c.xd) * ptD (varL p c) c.xd := by ac_rfl
  rw [← this, ← g1]
/-- No gain: the corner's answer holds. -/
theorem best_holds (h : Corn p l c gx gy gg) (hx : nonneg c.xs = true) (hg : ∀ j, c.gs.getD j 0 ≤ 0) {wn wd : Int}
    (hwn : wn = worN p (ptN (varL p c) c.xd) (ptD (varL p c) c.xd)) (hwd : wd = worD p (ptN (varL p c) c.xd) (ptD (varL p c) c.xd)) :
    bestB p ⟨1, ptN (varL p c) c.xd, ptD (varL p c) c.xd, c.ys, c.yd, [], 0, wn, wd⟩ = true := by
  have hgo := var_goes h hx
  obtain ⟨hf, _, _⟩ := goesB_iff.1 hgo
  obtain ⟨w1, w2, w3⟩ := var_worth h
  -- gains as rows' prices
  have hgain : ∀ j, j < p.costs.length + p.rows.length → costZ p j * c.yd ≤ sumN (fun i => c.ys.getD i 0 * hasZ p i j) p.rows.length := by
    intro j hj
    have h1 := h.g j
    rw [gall_at hj] at h1
    unfold gk at h1
    -- costZ * den - sum (yk * has) = gg * g_j ; den = gg * gd = gy * yd ; yk = gy * ys
    have e1 : sumN (fun i => yk p l i * hasZ p i j) p.rows.length = gy * sumN (fun i => c.ys.getD i 0 * hasZ p i j) p.rows.length := by
      rw [← sumN_mul]
      refine sumN_congr fun i hi => ?_
      have := h.y i
      rw [yall_at hi] at this
      rw [this]; ac_rfl
    rw [e1, h.dy] at h1
    generalize sumN (fun i => c.ys.getD i 0 * hasZ p i j) p.rows.length = S at *
    -- gy (cost yd - S) = gg g_j ; gg gd = gy yd
    have h2 : gy * c.yd = gg * c.gd := by rw [← h.dy, h.dg]
    have h3 : gy * (costZ p j * c.yd - S) * c.gd = gy * c.yd * c.gs.getD j 0 := by
      rw [h2]
      have : gy * (costZ p j * c.yd - S) = gg * c.gs.getD j 0 := by rw [← h1]; grind
      rw [this]; ac_rfl
    have h4 : (costZ p j * c.yd - S) * c.gd = c.yd * c.gs.getD j 0 := by
      refine Int.eq_of_mul_eq_mul_left h.ny ?_
      rw [← Int.mul_assoc, h3]; ac_rfl
    have h5 := Int.mul_nonpos_of_nonneg_of_nonpos (show 0 ≤ c.yd by have := h.py; omega) (hg j)
    apply Classical.byContradiction
    intro hn
    have := Int.mul_pos (show 0 < costZ p j * c.yd - S by omega) h.pg
    omega
  have hy0 : nonneg c.ys = true := nonneg_of fun i => by
    by_cases hi : i < p.rows.length
    · have h1 := hgain (p.costs.length + i) (by omega)
      have e0 : costZ p (p.costs.length + i) = 0 := by unfold costZ; rw [if_neg (by omega)]
      rw [e0, Int.zero_mul] at h1
      have key : ∀ n, sumN (fun r => c.ys.getD r 0 * hasZ p r (p.costs.length + i)) n = if i < n then c.ys.getD i 0 else 0 := by
        intro n
        induction n with
        | zero => simp [sumN]
        | succ n ih =>
          rw [sumN, ih]
          have e : hasZ p n (p.costs.length + i) = if n = i then 1 else 0 := by
            unfold hasZ; rw [if_neg (by omega)]
            by_cases e : n = i
            · rw [if_pos (by omega), if_pos e]
            · rw [if_neg (by omega), if_neg e]
          rw [e]
          by_cases e : n = i
          · subst e; rw [if_neg (by omega), if_pos rfl, if_pos (by omega)]; omega
          · rw [if_neg e]
            by_cases e' : i < n
            · rw [if_pos e', if_pos (by omega)]; omega
            · rw [if_neg e', if_neg (by omega)]; omega
      rw [key, if_pos hi] at h1
      exact h1
    · rw [List.getD, List.getElem?_eq_none (by rw [h.ly]; omega)]; simp
  have hm4 := h.rows4
  have hyb : smallB 16588800 c.ys = true := (smallB_getD (by omega)).2 fun i => h.ys400 i
  have hyd : 0 < c.yd ∧ c.yd ≤ 497664 := ⟨h.py, (le_of_mul h.ny h.dy (den_bound h.hp h.hr.len)).2⟩
  have hdm := dot_bound (mosts_small h.hp) hyb (by omega) (by omega)
  rw [length_mosts] at hdm
  have hE : ptE [dot (mosts p) c.ys] c.yd = 0 := pt_ok (by omega) (by omega) (by rw [smallB_one]; simp; omega) (by simp)
  have hwe : worE p (ptN (varL p c) c.xd) (ptD (varL p c) c.xd) = 0 := by unfold worE; rw [if_pos hf]; exact w1
  have hW := h.worth
  have hxd := h.px
  obtain ⟨g, g0, g1, g2, g3, g4⟩ := var_parts h
  have heq := fr_one hE w1 (by omega) (by omega) (show dot (mosts p) c.ys * ptD (varL p c) c.xd = dot p.costs (ptN (varL p c) c.xd) * c.yd by
    refine Int.eq_of_mul_eq_mul_left (show c.xd ≠ 0 by omega) ?_
    have q1 : c.xd * (dot (mosts p) c.ys * ptD (varL p c) c.xd) = (dot (mosts p) c.ys * c.xd) * ptD (varL p c) c.xd := by ac_rfl
    have q2 : c.xd * (dot p.costs (ptN (varL p c) c.xd) * c.yd) = (dot p.costs (ptN (varL p c) c.xd) * c.xd) * c.yd := by ac_rfl
    rw [q1, q2, w2, ← hW]
    unfold varL; ac_rfl)
  unfold bestB
  simp only [Bool.and_eq_true, decide_eq_true_eq]
  refine ⟨by simp [emptyB], hgo, aboveB_iff.2 ⟨h.my, h.ly, hy0⟩, ?_, hwe, hE, ⟨hwn.symm, hwd.symm⟩, ?_, ?_⟩
  · unfold coversB
    rw [List.all_eq_true]
    intro j hj
    have hj' : j < p.costs.length := by simpa using hj
    rw [decide_eq_true_eq, dot_col h.ly, show sumN (fun i => hasZ p i j * c.ys.getD i 0) p.rows.length = sumN (fun i => c.ys.getD i 0 * hasZ p i j) p.rows.length from sumN_congr fun i _ => Int.mul_comm _ _]
    exact hgain j (by omega)
  · rw [heq.1]; unfold worN; rw [if_pos hf]
  · rw [heq.2]; unfold worD; rw [if_pos hf]
end
end Go.Proofs.Ytjcdkbalhleeeab

/-
  Plain law: the ray of an endless walk, and the rows of a stuck column, divided, hold as answers; of which kind a program is. No program in sight.
-/
namespace Go.Proofs.Ytjcdkbalhleeeab

/-! Whole numbers, divided. -/
def wholeG (l : List Int) : Int := if comm 0 l = 0 then 1 else (comm 0 l : Int)
def wholeZ (l : List Int) : List Int := l.map fun n => n.tdiv (wholeG l)
theorem wholeZ_len (l : List Int) : (wholeZ l).length = l.length := by simp [wholeZ]
theorem wholeG_pos (l : List Int) : 0 < wholeG l := by unfold wholeG; split <;> omega
theorem whole_at (l : List Int) (j : Nat) : l.getD j 0 = wholeG l * (wholeZ l).getD j 0 := by
  by_cases hj : j < l.length
  · have hd : wholeG l ∣ l[j] := by
      unfold wholeG
      split
      · exact Int.one_dvd _
      · exact (comm_dvd 0 l).2 _ (List.getElem_mem hj)
    simp only [wholeZ, List.getD, List.getElem?_map, List.getElem?_eq_getElem hj, Option.map_some, Option.getD_some]
    exact (Int.mul_tdiv_cancel' hd).symm
  · rw [List.getD, List.getElem?_eq_none (by omega), List.getD, List.getElem?_eq_none (by rw [wholeZ_len]; omega)]; simp
theorem pos_of_mul {g x : Int} (hg : 0 < g) (h : 0 ≤ g * x) : 0 ≤ x := by
  apply Classical.byContradiction
  intro hn
  have := Int.mul_neg_of_pos_of_neg hg (show x < 0 by omega)
  omega
theorem comm_one (l : List Int) : comm 1 l = 1 := Nat.dvd_one.1 (comm_dvd 1 l).1
theorem whole_may {l : List Int} {B : Int} (h8 : l.length ≤ 8) (hB : 0 ≤ B) (hB2 : B ≤ 1073741824) (hl : smallB B l = true) : mayB (wholeZ l) 1 = true := by
  have hs : smallB 1073741824 (wholeZ l) = true := (smallB_getD (by omega)).2 fun j => by
    have h1 := (smallB_getD hB).1 hl j
    have := le_of_mul (B := B) (by have := wholeG_pos l; omega) (whole_at l j) h1
    omega
  unfold mayB rightB
  simp only [Bool.and_eq_true, decide_eq_true_eq]
  exact ⟨⟨by omega, by omega, hs, by rw [wholeZ_len]; exact h8⟩, comm_one _⟩

/-! The ray. -/
def rayZ (p : PG) (l : List Nat) (r : Nat) : List Int := (List.range (p.costs.length + p.rows.length)).map fun j => if j = r then (lookN (qOf p r) l).xd else -((lookN (qOf p r) l).xs.getD j 0)
theorem ray_len (p : PG) (l : List Nat) (r : Nat) : (rayZ p l r).length = p.costs.length + p.rows.length := by simp [rayZ]
section
variable {p : PG} {l : List Nat} {r : Nat}
theorem ray_q (hb : Bs p l) {j : Nat} (hj : j < p.costs.length + p.rows.length) : ((rayZ p l r).getD j 0 : Rat) = ((lookN (qOf p r) l).xd : Rat) * dq p l r j := by
  obtain ⟨a1, a2, a3, hq⟩ := corn_of (qOf_may hb.hp r) (qOf_right hb.hr r) (by rw [qOf_den hb.hr.len]; exact hb.hd)
  have hx := cast_pos hq.px
  unfold rayZ dq xq
  rw [getD_map_range hj]
  by_cases e : j = r
  · rw [if_pos e, if_pos e]; grind
  · rw [if_neg e, if_neg e, Rat.intCast_neg]; grind
/-- What it is worth along a direction, by a corner's gains. -/
theorem worth_dir {c : CO} {gx gy gg : Int} (hc : Corn p l c gx gy gg) {d : Nat → Rat} (hd : ∀ i, i < p.rows.length → sumR (fun j => aq p i j * d j) (p.costs.length + p.rows.length) = 0) :
    sumR (fun j => cq p j * d j) (p.costs.length + p.rows.length) = sumR (fun j => gq c j * d j) (p.costs.length + p.rows.length) := by
  have h1 : sumR (fun j => cq p j * d j) (p.costs.length + p.rows.length) = sumR (fun j => gq c j * d j + sumR (fun i => yq c i * (aq p i j * d j)) p.rows.length) (p.costs.length + p.rows.length) := by
    refine sumR_congr fun j hj => ?_
    rw [hc.gainQ hj]
    have e : sumR (fun i => yq c i * (aq p i j * d j)) p.rows.length = d j * sumR (fun i => yq c i * aq p i j) p.rows.length := by
      rw [← sumR_mul]; exact sumR_congr fun i _ => by grind
    rw [e]; grind
  rw [h1, sumR_add, sumR_comm]
  have h2 : sumR (fun i => sumR (fun j => yq c i * (aq p i j * d j)) (p.costs.length + p.rows.length)) p.rows.length = 0 := by
    rw [sumR_congr (g := fun _ => 0) fun i hi => by rw [sumR_mul, hd i hi]; grind]; exact sumR_zero
  rw [h2]; grind
theorem dir_worth (ho : OKb p l) (hin : inZ (lookN p l).gs = some r) : sumR (fun j => cq p j * dq p l r j) (p.costs.length + p.rows.length) = gq (lookN p l) r := by
  obtain ⟨gx, gy, gg, hc⟩ := corn_of ho.hp ho.hr ho.hd
  obtain ⟨h1, h2, h3⟩ := in_new ho hin
  rw [worth_dir hc fun i hi => dir_ker ho.hp ho.hr ho.hd h1 h2 hi]
  rw [sumR_one h2 fun j hj hne => ?_]
  · unfold dq; rw [if_pos rfl]; grind
  · by_cases hjl : j ∈ l
    · rw [hc.gainQ0 hjl]; grind
    · unfold dq; rw [if_neg hne, colOff ho.bs r hjl]; grind
theorem gain_pos (ho : OKb p l) (hin : inZ (lookN p l).gs = some r) : 0 < gq (lookN p l) r := by
  obtain ⟨gx, gy, gg, hc⟩ := corn_of ho.hp ho.hr ho.hd
  exact (sign_div hc.pg).1.2 (in_new ho hin).2.2
theorem less_end (hout : outZ (lookN p l).xs l (lessZ p l r) l.length = none) : ∀ j ∈ l, (lookN (qOf p r) l).xs.getD j 0 ≤ 0 := by
  intro j hj
  obtain ⟨k, hk, rfl⟩ := mem_getD.1 hj
  have := outZ_none.1 hout k hk
  unfold lessZ at this
  rwa [getD_map hk] at this
theorem dir_nonneg (ho : OKb p l) (hout : outZ (lookN p l).xs l (lessZ p l r) l.length = none) (j : Nat) : 0 ≤ dq p l r j := by
  obtain ⟨a1, a2, a3, hq⟩ := corn_of (qOf_may ho.hp r) (qOf_right ho.hr r) (by rw [qOf_den ho.hr.len]; exact ho.hd)
  unfold dq
  by_cases e : j = r
  · rw [if_pos e]; grind
  · rw [if_neg e]
    by_cases hjl : j ∈ l
    · have := less_end hout j hjl
      have hn : ¬ 0 < xq (lookN (qOf p r) l) j := fun q => by have := (sign_div hq.px).1.1 q; omega
      grind
    · rw [colOff ho.bs r hjl]; grind
theorem ray_nonneg (ho : OKb p l) (hout : outZ (lookN p l).xs l (lessZ p l r) l.length = none) (j : Nat) : 0 ≤ (rayZ p l r).getD j 0 := by
  obtain ⟨a1, a2, a3, hq⟩ := corn_of (qOf_may ho.hp r) (qOf_right ho.hr r) (by rw [qOf_den ho.hr.len]; exact ho.hd)
  by_cases hj : j < p.costs.length + p.rows.length
  · unfold rayZ
    rw [getD_map_range hj]
    by_cases e : j = r
    · rw [if_pos e]; have := hq.px; omega
    · rw [if_neg e]
      by_cases hjl : j ∈ l
      · have := less_end hout j hjl; omega
      · have h0 := hq.x j
        rw [xall_off (qOf_right ho.hr r) hjl] at h0
        rcases Int.mul_eq_zero.1 h0.symm with q | q
        · exact absurd q hq.nx
        · omega
  · rw [List.getD, List.getElem?_eq_none (by rw [ray_len]; omega)]; simp
theorem ray_small (hb : Bs p l) : smallB 497664 (rayZ p l r) = true := by
  obtain ⟨a1, a2, a3, hq⟩ := corn_of (qOf_may hb.hp r) (qOf_right hb.hr r) (by rw [qOf_den hb.hr.len]; exact hb.hd)
  rw [smallB_getD (by omega)]
  intro j
  by_cases hj : j < p.costs.length + p.rows.length
  · unfold rayZ
    rw [getD_map_range hj]
    split
    · have := hq.xd12; omega
    · have := hq.xs12 j; omega
  · rw [List.getD, List.getElem?_eq_none (by rw [ray_len]; omega)]; simp
/-- A direction's sums in whole numbers. -/
theorem ray_sum (hb : Bs p l) {f : Nat → Int} : ((sumN (fun j => f j * (rayZ p l r).getD j 0) (p.costs.length + p.rows.length) : Int) : Rat) = ((lookN (qOf p r) l).xd : Rat) * sumR (fun j => (f j : Rat) * dq p l r j) (p.costs.length + p.rows.length) := by
  rw [cast_sum, ← sumR_mul]
  refine sumR_congr fun j hj => ?_
  rw [Rat.intCast_mul, ray_q hb hj]; grind
theorem take_at {l : List Int} {n j : Nat} (h : j < n) : (l.take n).getD j 0 = l.getD j 0 := by simp [List.getD, h]
def rayL (p : PG) (l : List Nat) (r : Nat) : List Int := (rayZ p l r).take p.costs.length
theorem rayL_len (p : PG) (l : List Nat) (r : Nat) : (rayL p l r).length = p.costs.length := by unfold rayL; rw [List.length_take, ray_len]; omega
theorem rayL_small (hb : Bs p l) : smallB 497664 (rayL p l r) = true := smallB_iff.2 fun x hx => smallB_mem (ray_small (r := r) hb) (List.mem_of_mem_take hx)
theorem ray_row (hb : Bs p l) (hrl : r ∉ l) (hN : r < p.costs.length + p.rows.length) {i : Nat} (hi : i < p.rows.length) : dot (p.rows[i]).1 (rayL p l r) + (rayZ p l r).getD (p.costs.length + i) 0 = 0 := by
  have h1 : sumN (fun j => hasZ p i j * (rayZ p l r).getD j 0) (p.costs.length + p.rows.length) = 0 := by
    have := ray_sum (r := r) hb (f := fun j => hasZ p i j)
    rw [show sumR (fun j => ((hasZ p i j : Int) : Rat) * dq p l r j) (p.costs.length + p.rows.length) = 0 from dir_ker hb.hp hb.hr hb.hd hrl hN hi] at this
    have h0 : ((sumN (fun j => hasZ p i j * (rayZ p l r).getD j 0) (p.costs.length + p.rows.length) : Int) : Rat) = ((0 : Int) : Rat) := by rw [this]; grind
    exact_mod_cast h0
  rw [sumN_split] at h1
  rw [dot_row hb.hp hi (rayL_len p l r)]
  have e1 : sumN (fun j => hasZ p i j * (rayL p l r).getD j 0) p.costs.length = sumN (fun j => hasZ p i j * (rayZ p l r).getD j 0) p.costs.length :=
    sumN_congr fun j hj => by unfold rayL; rw [take_at hj]
  have key : ∀ n, sumN (fun q => hasZ p i (p.costs.length + q) * (rayZ p l r).getD (p.costs.length + q) 0) n = if i < n then (rayZ p l r).getD (p.costs.length + i) 0 else 0 := by
    intro n
    induction n with
    | zero => simp [sumN]
    | succ n ih =>
      rw [sumN, ih]
      have e : hasZ p i (p.costs.length + n) = if n = i then 1 else 0 := by
        unfold hasZ; rw [if_neg (by omega)]
        by_cases e : n = i
        · rw [if_pos (by omega), if_pos e]
        · rw [if_neg (by omega), if_neg e]
      rw [e]
      by_cases e : n = i
      · subst e; rw [if_neg (by omega), if_pos rfl, if_pos (by omega)]; omega
      · rw [if_neg e]
        by_cases e' : i < n
        · rw [if_pos e', if_pos (by omega)]; omega
        · rw [if_neg e', if_neg (by omega)]; omega
  rw [key, if_pos hi] at h1
  rw [e1]; exact h1
theorem endless_holds (ho : OKb p l) (hin : inZ (lookN p l).gs = some r) (hout : outZ (lookN p l).xs l (lessZ p l r) l.length = none) :
    endlessB p ⟨2, ptN (varL p (lookN p l)) (lookN p l).xd, ptD (varL p (lookN p l)) (lookN p l).xd, [], 0, wholeZ (rayL p l r), 1, 0, 0⟩ = true := by
  obtain ⟨gx, gy, gg, hc⟩ := corn_of ho.hp ho.hr ho.hd
  obtain ⟨a1, a2, a3, hq⟩ := corn_of (qOf_may ho.hp r) (qOf_right ho.hr r) (by rw [qOf_den ho.hr.len]; exact ho.hd)
  obtain ⟨h1, h2, h3⟩ := in_new ho hin
  have hn := mayPB_iff.1 ho.hp
  have hG := wholeG_pos (rayL p l r)
  have hW := whole_at (rayL p l r)
  have hWl : (wholeZ (rayL p l r)).length = p.costs.length := by rw [wholeZ_len, rayL_len]
  have hnn : nonneg (wholeZ (rayL p l r)) = true := nonneg_of fun j => by
    by_cases hj : j < p.costs.length
    · refine pos_of_mul hG ?_
      rw [← hW j]
      unfold rayL
      rw [take_at hj]
      exact ray_nonneg ho hout j
    · rw [List.getD, List.getElem?_eq_none (by omega)]; simp
  unfold endlessB
  simp only [Bool.and_eq_true, decide_eq_true_eq]
  refine ⟨by simp [emptyB], ⟨trivial, trivial⟩, var_goes hc ho.hx, aboveB_iff.2 ⟨whole_may (B := 497664) (by rw [rayL_len]; omega) (by omega) (by omega) (rayL_small ho.bs), hWl, hnn⟩, trivial, ?_, ?_⟩
  · rw [List.all_eq_true]
    intro x hx
    obtain ⟨i, hi, rfl⟩ := List.mem_iff_getElem.1 hx
    rw [decide_eq_true_eq]
    have e1 := ray_row ho.bs h1 h2 hi
    have e2 := ray_nonneg ho hout (p.costs.length + i)
    have e3 := dot_scale (mayPB_row ho.hp hi).1 (rayL_len p l r) hWl hW
    rw [e3] at e1
    apply Classical.byContradiction
    intro q
    have := Int.mul_pos hG (show 0 < dot (p.rows[i]).1 (wholeZ (rayL p l r)) by omega)
    omega
  · have e3 := dot_scale (a := p.costs) rfl (rayL_len p l r) hWl hW
    have e4 : dot p.costs (rayL p l r) = sumN (fun j => costZ p j * (rayZ p l r).getD j 0) (p.costs.length + p.rows.length) := by
      rw [sum_costZ, dot_sum rfl (rayL_len p l r)]
      exact sumN_congr fun j hj => by unfold rayL; rw [take_at hj]
    have e5 := ray_sum (r := r) ho.bs (f := fun j => costZ p j)
    rw [show sumR (fun j => ((costZ p j : Int) : Rat) * dq p l r j) (p.costs.length + p.rows.length) = gq (lookN p l) r from dir_worth ho hin] at e5
    have e6 := Rat.mul_pos (cast_pos hq.px) (gain_pos ho hin)
    rw [← e5, ← e4] at e6
    have e7 : 0 < dot p.costs (rayL p l r) := by exact_mod_cast e6
    rw [e3] at e7
    apply Classical.byContradiction
    intro q
    have := Int.mul_nonpos_of_nonneg_of_nonpos (show 0 ≤ wholeG (rayL p l r) by omega) (show dot p.costs (wholeZ (rayL p l r)) ≤ 0 by omega)
    omega
/-- Where there is an endless way there is no best corner. -/
theorem endless_alone (ho : OKb p l) (hin : inZ (lookN p l).gs = some r) (hout : outZ (lookN p l).xs l (lessZ p l r) l.length = none) {l' : List Nat} (ho' : OKb p l') (hg : ∀ j, (lookN p l').gs.getD j 0 ≤ 0) : False := by
  obtain ⟨gx, gy, gg, hc⟩ := corn_of ho'.hp ho'.hr ho'.hd
  obtain ⟨h1, h2, h3⟩ := in_new ho hin
  have e1 := dir_worth ho hin
  have e2 := gain_pos ho hin
  rw [← e1, worth_dir hc fun i hi => dir_ker ho.hp ho.hr ho.hd h1 h2 hi] at e2
  obtain ⟨j, hj, hp⟩ := sumR_pos e2
  have g1 : ¬ 0 < gq (lookN p l') j := fun q => by have := (sign_div hc.pg).1.1 q; have := hg j; omega
  have := Rat.mul_nonneg (show 0 ≤ -(gq (lookN p l') j) by grind) (dir_nonneg ho hout j)
  grind
end

/-! A stuck column's rows. -/
def rdZ (p : PG) (l : List Nat) (i : Nat) : Int := (lookN (qOf p (p.costs.length + i)) l).xd
def rnZ (p : PG) (l : List Nat) (k i : Nat) : Int := (lookN (qOf p (p.costs.length + i)) l).xs.getD (l.getD k 0) 0
def allN (p : PG) (l : List Nat) : Nat → Nat
  | 0 => 1
  | i + 1 => Nat.lcm (allN p l i) (rdZ p l i).natAbs
def rowZ (p : PG) (l : List Nat) (k : Nat) : List Int := (List.range p.rows.length).map fun i => rnZ p l k i * ((allN p l p.rows.length : Int).tdiv (rdZ p l i))
theorem rowZ_len (p : PG) (l : List Nat) (k : Nat) : (rowZ p l k).length = p.rows.length := by simp [rowZ]
/-- The least number of times. -/
theorem lcm_least {a d n : Nat} (ha : 0 < a) (hn : 0 < n) (h : d ∣ a * n) (hl : ∀ q, 0 < q → q < n → ¬ d ∣ a * q) : a * n = Nat.lcm a d := by
  have h1 : Nat.lcm a d ∣ a * n := Nat.lcm_dvd (Nat.dvd_mul_right _ _) h
  obtain ⟨q, hq⟩ := Nat.dvd_lcm_left a d
  have hd0 : 0 < d := by
    rcases Nat.eq_zero_or_pos d with e | e
    · subst e
      have := Nat.mul_pos ha hn
      rw [Nat.zero_dvd] at h; omega
    · exact e
  have hpos : 0 < Nat.lcm a d := Nat.lcm_pos ha hd0
  have hq0 : 0 < q := by
    rcases Nat.eq_zero_or_pos q with e | e
    · subst e; omega
    · exact e
  have hle := Nat.le_of_dvd (Nat.mul_pos ha hn) h1
  rw [hq] at hle ⊢
  have hqn : q ≤ n := Nat.le_of_mul_le_mul_left hle ha
  rcases Nat.lt_or_ge q n with hlt | hge
  · exact absurd (by rw [← hq]; exact Nat.dvd_lcm_right a d) (hl q hq0 hlt)
  · rw [Nat.le_antisymm hqn hge]
section
variable {p : PG} {l : List Nat}
theorem row_corn (hb : Bs p l) (i : Nat) : ∃ gx gy gg, Corn (qOf p (p.costs.length + i)) l (lookN (qOf p (p.costs.length + i)) l) gx gy gg :=
  corn_of (qOf_may hb.hp _) (qOf_right hb.hr _) (by rw [qOf_den hb.hr.len]; exact hb.hd)
theorem rd_pos (hb : Bs p l) (i : Nat) : 0 < rdZ p l i := by obtain ⟨_, _, _, h⟩ := row_corn hb i; exact h.px
theorem rd_dvd (hb : Bs p l) (i : Nat) : (rdZ p l i).natAbs ∣ (denZ p l).natAbs := by
  obtain ⟨gx, _, _, h⟩ := row_corn hb i
  have h1 := h.dx
  rw [qOf_den hb.hr.len] at h1
  rw [h1, Int.natAbs_mul]; exact Nat.dvd_mul_left _ _
theorem all_dvd (hb : Bs p l) : ∀ n, allN p l n ∣ (denZ p l).natAbs
  | 0 => Nat.one_dvd _
  | n + 1 => Nat.lcm_dvd (all_dvd hb n) (rd_dvd hb n)
theorem all_pos (hb : Bs p l) : ∀ n, 0 < allN p l n
  | 0 => Nat.one_pos
  | n + 1 => Nat.lcm_pos (all_pos hb n) (by have := rd_pos hb n; omega)
theorem all_le (hb : Bs p l) (n : Nat) : allN p l n ≤ 497664 := by
  have := Nat.le_of_dvd (by have := hb.hd; omega) (all_dvd hb n)
  have := den_bound hb.hp hb.hr.len
  omega
theorem rd_all : ∀ {n i : Nat}, i < n → (rdZ p l i).natAbs ∣ allN p l n
  | 0, i, h => by omega
  | n + 1, i, h => by
    rw [allN]
    by_cases e : i = n
    · subst e; exact Nat.dvd_lcm_right _ _
    · exact Nat.dvd_trans (rd_all (by omega)) (Nat.dvd_lcm_left _ _)
theorem rd_div (_hb : Bs p l) {i : Nat} (hi : i < p.rows.length) : rdZ p l i * ((allN p l p.rows.length : Int).tdiv (rdZ p l i)) = allN p l p.rows.length :=
  Int.mul_tdiv_cancel' (Int.natAbs_dvd.1 (Int.natCast_dvd_natCast.2 (rd_all hi)))
theorem row_at (k : Nat) {i : Nat} (hi : i < p.rows.length) : (rowZ p l k).getD i 0 = rnZ p l k i * ((allN p l p.rows.length : Int).tdiv (rdZ p l i)) := by unfold rowZ; rw [getD_map_range hi]
theorem row_q (hb : Bs p l) (k : Nat) {i : Nat} (hi : i < p.rows.length) : ((rowZ p l k).getD i 0 : Rat) = (allN p l p.rows.length : Rat) * alq p l k (p.costs.length + i) := by
  rw [row_at k hi]
  have h1 := rd_div hb hi
  have h2 := cast_pos (rd_pos hb i)
  have h3 : ((rdZ p l i * ((allN p l p.rows.length : Int).tdiv (rdZ p l i)) : Int) : Rat) = ((allN p l p.rows.length : Int) : Rat) := by rw [h1]
  rw [Rat.intCast_mul] at h3
  have h4 : alq p l k (p.costs.length + i) = (rnZ p l k i : Rat) / (rdZ p l i : Rat) := rfl
  rw [Rat.intCast_mul, h4]
  rw [show ((allN p l p.rows.length : Nat) : Rat) = (((allN p l p.rows.length : Nat) : Int) : Rat) from rfl, ← h3]
  grind
theorem row_small (hb : Bs p l) {k : Nat} (hk : k < l.length) : smallB 497664 (rowZ p l k) = true := by
  rw [smallB_getD (by omega)]
  intro i
  by_cases hi : i < p.rows.length
  · obtain ⟨gx, gy, gg, h⟩ := row_corn hb i
    obtain ⟨t, ht⟩ := all_dvd hb p.rows.length
    have h1 := h.dx
    rw [qOf_den hb.hr.len] at h1
    have h2 := h.x (l.getD k 0)
    rw [xall_at (qOf_right hb.hr _) (by rw [qOf_len, ← hb.hr.len]; exact hk)] at h2
    have h3 := xk12 (p := qOf p (p.costs.length + i)) (l := l) (qOf_may hb.hp _) (by rw [qOf_len]; exact hb.hr.len) k
    have h4 := rd_div hb hi
    have hr0 := rd_pos hb i
    rw [row_at k hi]
    generalize hA : (allN p l p.rows.length : Int).tdiv (rdZ p l i) = A at *
    -- |den| = all * t, den = gx * rd, xk = gx * rn ; t * (rn * A) = |gx| .. rn
    have hden : (denZ p l).natAbs = gx.natAbs * (rdZ p l i).natAbs := by rw [h1, Int.natAbs_mul]; rfl
    have hall : allN p l p.rows.length = (rdZ p l i).natAbs * A.natAbs := by rw [← Int.natAbs_mul, h4]; rfl
    have hgt : gx.natAbs = A.natAbs * t := by
      have : (rdZ p l i).natAbs * gx.natAbs = (rdZ p l i).natAbs * (A.natAbs * t) := by
        rw [Nat.mul_comm, ← hden, ht, hall]; ac_rfl
      exact Nat.eq_of_mul_eq_mul_left (by omega) this
    have hx : (xk (qOf p (p.costs.length + i)) l k).natAbs = t * (rnZ p l k i * A).natAbs := by
      rw [h2, Int.natAbs_mul, hgt, Int.natAbs_mul]
      show A.natAbs * t * (rnZ p l k i).natAbs = _
      ac_rfl
    have ht0 : 1 ≤ t := by
      rcases Nat.eq_zero_or_pos t with e | e
      · subst e; have := hb.hd; omega
      · exact e
    have := Nat.mul_le_mul_right (rnZ p l k i * A).natAbs ht0
    omega
  · rw [List.getD, List.getElem?_eq_none (by rw [rowZ_len]; omega)]; simp
theorem row_sum (hb : Bs p l) (k : Nat) {f : Nat → Int} : ((sumN (fun i => f i * (rowZ p l k).getD i 0) p.rows.length : Int) : Rat) = (allN p l p.rows.length : Rat) * sumR (fun i => (f i : Rat) * alq p l k (p.costs.length + i)) p.rows.length := by
  rw [cast_sum, ← sumR_mul]
  refine sumR_congr fun i hi => ?_
  rw [Rat.intCast_mul, row_q hb k hi]; grind
theorem nothing_holds {k : Nat} (hs : Stuck p l k) : nothingB p ⟨3, [], 0, wholeZ (rowZ p l k), 1, [], 0, 0, 0⟩ = true := by
  have hb := hs.bs
  have hn := mayPB_iff.1 hb.hp
  have hG := wholeG_pos (rowZ p l k)
  have hW := whole_at (rowZ p l k)
  have hWl : (wholeZ (rowZ p l k)).length = p.rows.length := by rw [wholeZ_len, rowZ_len]
  have hA : (0 : Rat) < (allN p l p.rows.length : Rat) := by exact_mod_cast all_pos hb p.rows.length
  have hnn : nonneg (wholeZ (rowZ p l k)) = true := nonneg_of fun i => by
    by_cases hi : i < p.rows.length
    · refine pos_of_mul hG ?_
      rw [← hW i]
      have h1 := row_q hb k hi
      have h2 := Rat.mul_nonneg (Rat.le_of_lt hA) (hs.al (p.costs.length + i) (by omega))
      rw [← h1] at h2
      exact_mod_cast h2
    · rw [List.getD, List.getElem?_eq_none (by omega)]; simp
  unfold nothingB
  simp only [Bool.and_eq_true, decide_eq_true_eq]
  refine ⟨by simp [emptyB], by simp [emptyB], ⟨trivial, trivial⟩, aboveB_iff.2 ⟨whole_may (B := 497664) (by rw [rowZ_len]; omega) (by omega) (by omega) (row_small hb hs.kl), hWl, hnn⟩, trivial, ?_, ?_⟩
  · unfold coversB
    rw [List.all_eq_true]
    intro j hj
    have hj' : j < p.costs.length := by simpa using hj
    rw [decide_eq_true_eq, Int.mul_zero]
    refine pos_of_mul hG ?_
    rw [← dot_scale (length_colZ p j) (rowZ_len p l k) hWl hW, dot_col (rowZ_len p l k)]
    have h1 := row_sum hb k (f := fun i => hasZ p i j)
    rw [show sumR (fun i => ((hasZ p i j : Int) : Rat) * alq p l k (p.costs.length + i)) p.rows.length = alq p l k j from (al_by hb k j).symm] at h1
    have h2 := Rat.mul_nonneg (Rat.le_of_lt hA) (hs.al j (by omega))
    rw [← h1] at h2
    exact_mod_cast h2
  · obtain ⟨gx, gy, gg, hc⟩ := corn_of hb.hp hb.hr hb.hd
    have h1 := row_sum hb k (f := fun i => (mosts p).getD i 0)
    have h0 := col_by hb (u := xq (lookN p l)) (v := fun i => ((mosts p).getD i 0 : Rat)) (fun j hj => hc.offQ hj) (fun i hi => hc.rowQ hi) (l.getD k 0)
    rw [show sumR (fun i => (((mosts p).getD i 0 : Int) : Rat) * alq p l k (p.costs.length + i)) p.rows.length = xq (lookN p l) (l.getD k 0) from h0.symm] at h1
    have h2 := Rat.mul_pos hA (show 0 < -(xq (lookN p l) (l.getD k 0)) by have := hs.neg; grind)
    have h3 : dot (mosts p) (rowZ p l k) = sumN (fun i => (mosts p).getD i 0 * (rowZ p l k).getD i 0) p.rows.length := dot_sum (length_mosts p) (rowZ_len p l k)
    rw [← h3] at h1
    have h4 : ((dot (mosts p) (rowZ p l k) : Int) : Rat) < 0 := by rw [h1]; grind
    have h5 : dot (mosts p) (rowZ p l k) < 0 := by exact_mod_cast h4
    rw [dot_scale (length_mosts p) (rowZ_len p l k) hWl hW] at h5
    apply Classical.byContradiction
    intro q
    have := Int.mul_nonneg (show 0 ≤ wholeG (rowZ p l k) by omega) (show 0 ≤ dot (mosts p) (wholeZ (rowZ p l k)) by omega)
    omega
/-- As the program asks: a column below 0, that no other one makes grow. -/
def stuckZ (p : PG) (l : List Nat) (k : Nat) : Bool := decide ((lookN p l).xs.getD (l.getD k 0) 0 < 0) && (List.range (p.costs.length + p.rows.length)).all fun j => decide (0 ≤ (lookN (qOf p j) l).xs.getD (l.getD k 0) 0)
theorem stuck_iff (hb : Bs p l) {k : Nat} (hk : k < l.length) : stuckZ p l k = true ↔ Stuck p l k := by
  obtain ⟨gx, gy, gg, hc⟩ := corn_of hb.hp hb.hr hb.hd
  have ha : ∀ j, 0 ≤ alq p l k j ↔ 0 ≤ (lookN (qOf p j) l).xs.getD (l.getD k 0) 0 := fun j => by
    obtain ⟨a1, a2, a3, hq⟩ := corn_of (qOf_may hb.hp j) (qOf_right hb.hr j) (by rw [qOf_den hb.hr.len]; exact hb.hd)
    exact nonneg_div hq.px
  unfold stuckZ
  simp only [Bool.and_eq_true, decide_eq_true_eq, List.all_eq_true, List.mem_range]
  constructor
  · rintro ⟨h1, h2⟩
    exact ⟨hb, hk, (sign_div hc.px).2.2 h1, fun j hj => (ha j).2 (h2 j hj)⟩
  · intro h
    exact ⟨(sign_div hc.px).2.1 h.neg, fun j hj => (ha j).1 (h.al j hj)⟩
end
end Go.Proofs.Ytjcdkbalhleeeab

/-
  Plain law: the program's answer, as plain words, holds, and is of the kind that all corners tell. No program in sight.
-/
namespace Go.Proofs.Ytjcdkbalhleeeab

/-! All columns that are right, as the program comes to them. -/
def bitsN (N s : Nat) : List Nat := (List.range N).filter fun j => s.testBit j
theorem mem_bits {N s j : Nat} : j ∈ bitsN N s ↔ j < N ∧ s.testBit j = true := by unfold bitsN; rw [List.mem_filter, List.mem_range]
theorem bits_pw (N s : Nat) : (bitsN N s).Pairwise (· < ·) := List.pairwise_lt_range.sublist List.filter_sublist
theorem code_bit (l : List Nat) : ∀ (n j : Nat), (code l n).testBit j = (decide (j < n) && decide (j ∈ l))
  | 0, j => by simp [code]
  | n + 1, j => by
    rw [code]
    have hlt := code_lt l n
    by_cases hn : n ∈ l
    · rw [if_pos hn, Nat.add_comm, Nat.testBit_two_pow_add_gt_or hlt]
      rw [code_bit l n j]
      by_cases e : j = n
      · subst e; simp [hn]
      · by_cases e' : j < n
        · simp [e', show j < n + 1 by omega, show ¬ n = j by omega]
        · simp [e', show ¬ j < n + 1 by omega, show ¬ n = j by omega]
    · rw [if_neg hn, Nat.add_zero, code_bit l n j]
      by_cases e : j = n
      · subst e; simp [hn]
      · by_cases e' : j < n
        · simp [e', show j < n + 1 by omega]
        · simp [e', show ¬ j < n + 1 by omega]
where
  Nat.testBit_two_pow_add_gt_or {n x j : Nat} (h : x < 2 ^ n) : (2 ^ n + x).testBit j = (decide (n = j) || x.testBit j) := by
    have := Nat.testBit_two_pow_add_eq
    rw [show 2 ^ n + x = 2 ^ n * 1 + x by omega, Nat.testBit_two_pow_mul_add 1 h]
    by_cases e : j < n
    · rw [if_pos e]; simp [show ¬ n = j by omega]
    · rw [if_neg e]
      have hx : x.testBit j = false := Nat.testBit_lt_two_pow (Nat.lt_of_lt_of_le h (Nat.pow_le_pow_right (by omega) (by omega)))
      rw [hx, Bool.or_false]
      by_cases e' : n = j
      · subst e'; simp
      · have : 1 < 2 ^ (j - n) := Nat.one_lt_two_pow (by omega)
        rw [Nat.testBit_lt_two_pow this]; simp [e']
theorem bits_code {N : Nat} {l : List Nat} (h : ∀ j ∈ l, j < N) (hp : l.Pairwise (· < ·)) : bitsN N (code l N) = l := by
  refine pw_ext (bits_pw _ _) hp fun j => ?_
  rw [mem_bits, code_bit]
  constructor
  · rintro ⟨_, q⟩; simp at q; exact q.2
  · intro q; simp [h j q, q]
def cornersZ (p : PG) : List (List Nat) := ((List.range (2 ^ (p.costs.length + p.rows.length))).map (bitsN (p.costs.length + p.rows.length))).filter fun l => decide (l.length = p.rows.length) && decide (lookE p (ints l) = 0)
theorem mem_corners {p : PG} {l : List Nat} : l ∈ cornersZ p ↔ Bs p l := by
  unfold cornersZ
  rw [List.mem_filter]
  simp only [List.mem_map, List.mem_range, Bool.and_eq_true, decide_eq_true_eq]
  constructor
  · rintro ⟨_, h1, h2⟩
    obtain ⟨q1, q2, q3⟩ := look_parts h2
    rw [nats_ints] at q3
    have := (right_nats q2).1
    rw [nats_ints] at this
    exact ⟨q1, this, q3⟩
  · intro h
    exact ⟨⟨code l _, code_lt _ _, bits_code h.hr.lt h.hr.pw⟩, h.hr.len, look_ints h.hp h.hr h.hd⟩

/-- Where the program begins. -/
def begZ (p : PG) : Option (List Nat) := (cornersZ p).find? fun l => nonneg (lookN p l).xs
theorem beg_some {p : PG} {l : List Nat} (h : begZ p = some l) : OKb p l := by
  have h1 := List.mem_of_find?_eq_some h
  have h2 := List.find?_some h
  have hb := mem_corners.1 h1
  exact ⟨hb.hp, hb.hr, hb.hd, h2⟩
theorem beg_none {p : PG} (h : begZ p = none) (l : List Nat) : ¬ OKb p l := by
  intro ho
  have := List.find?_eq_none.1 h l (mem_corners.2 ho.bs)
  exact this ho.hx
/-- Where a walk ends. -/
def wkEnd (p : PG) : Nat → List Nat → List Nat
  | 0, l => l
  | f + 1, l => match nxtZ p l with
    | none => l
    | some l' => wkEnd p f l'
def wlastZ (p : PG) (l : List Nat) : List Nat := wkEnd p 256 l
theorem wk_tail' {p : PG} {l l' : List Nat} (h : nxtZ p l = some l') : ∀ k, wk p l (k + 1) = wk p l' k
  | 0 => by simp [wk, h]
  | k + 1 => by rw [wk, wk_tail' h k, wk]
theorem wkEnd_eq {p : PG} : ∀ {f : Nat} {l : List Nat} {k : Nat} {lk : List Nat}, EndAt p l k lk → k < f → wkEnd p f l = lk
  | f + 1, l, 0, lk, h, _ => by
    have e := h.at_
    rw [wk] at e
    injection e with e
    subst e
    rw [wkEnd, h.no]
  | f + 1, l, k + 1, lk, h, hk => by
    rw [wkEnd]
    cases hn : nxtZ p l with
    | none =>
      have hw := h.at_
      have : wk p l 1 = none := by rw [wk, wk]; exact hn
      obtain ⟨l1, h1⟩ := wk_some (p := p) (l := l) (n := k + 1) (by rw [hw]; simp) (i := 1) (by omega)
      rw [this] at h1; cases h1
    | some l' =>
      simp only
      exact wkEnd_eq ⟨by rw [← wk_tail' hn k]; exact h.at_, h.no⟩ (by omega)
theorem last_eq {p : PG} {l : List Nat} {k : Nat} {lk : List Nat} (ho : OKb p l) (h : EndAt p l k lk) : wlastZ p l = lk := wkEnd_eq h (wk_fewer ho h.at_)
/-- A walk has an end. -/
theorem end_at {p : PG} {l : List Nat} (ho : OKb p l) : ∃ k, EndAt p l k (wlastZ p l) := by
  obtain ⟨k, _, hk, hm⟩ := least (P := fun k => wk p l k = none) (wk_ends ho)
  rcases k with _ | k
  · rw [wk] at hk; cases hk
  · have : wk p l k ≠ none := hm k (by omega)
    obtain ⟨lk, hlk⟩ := Option.ne_none_iff_exists'.1 this
    have he : EndAt p l k lk := ⟨hlk, by rw [wk, hlk] at hk; exact hk⟩
    exact ⟨k, by rw [last_eq ho he]; exact he⟩
theorem last_ok {p : PG} {l : List Nat} (ho : OKb p l) : OKb p (wlastZ p l) ∧ nxtZ p (wlastZ p l) = none := by
  obtain ⟨k, hk⟩ := end_at ho
  exact ⟨wk_ok ho hk.at_, hk.no⟩
/-- The first stuck column. -/
def stkZ (p : PG) (l : List Nat) : Option Nat := (List.range l.length).find? (stuckZ p l)
def stZ (p : PG) : Option (List Nat × Nat) := (cornersZ p).findSome? fun l => (stkZ p l).map fun k => (l, k)
theorem st_some {p : PG} {x : List Nat × Nat} (h : stZ p = some x) : Stuck p x.1 x.2 := by
  obtain ⟨l, hl, e⟩ := List.exists_of_findSome?_eq_some h
  obtain ⟨k, hk, rfl⟩ := Option.map_eq_some_iff.1 e
  have h1 := List.mem_of_find?_eq_some hk
  have h2 := List.find?_some hk
  exact (stuck_iff (mem_corners.1 hl) (by simpa using h1)).1 h2
theorem st_none {p : PG} (h : stZ p = none) (l : List Nat) (k : Nat) : ¬ Stuck p l k := by
  intro hs
  have h1 := List.findSome?_eq_none_iff.1 h l (mem_corners.2 hs.bs)
  rw [Option.map_eq_none_iff] at h1
  have := List.find?_eq_none.1 h1 k (by simpa using hs.kl)
  exact this ((stuck_iff hs.bs hs.kl).2 hs)

/-- The program's answer. -/
def bestA (p : PG) (l : List Nat) : AN :=
  ⟨1, ptN (varL p (lookN p l)) (lookN p l).xd, ptD (varL p (lookN p l)) (lookN p l).xd, (lookN p l).ys, (lookN p l).yd, [], 0,
    worN p (ptN (varL p (lookN p l)) (lookN p l).xd) (ptD (varL p (lookN p l)) (lookN p l).xd), worD p (ptN (varL p (lookN p l)) (lookN p l).xd) (ptD (varL p (lookN p l)) (lookN p l).xd)⟩
def endA (p : PG) (l : List Nat) : AN :=
  ⟨2, ptN (varL p (lookN p l)) (lookN p l).xd, ptD (varL p (lookN p l)) (lookN p l).xd, [], 0, wholeZ (rayL p l ((inZ (lookN p l).gs).getD 0)), 1, 0, 0⟩
def notA (p : PG) (x : List Nat × Nat) : AN := ⟨3, [], 0, wholeZ (rowZ p x.1 x.2), 1, [], 0, 0, 0⟩
def solZ (p : PG) : AN :=
  match begZ p with
  | some l => if kindZ p (wlastZ p l) = 1 then bestA p (wlastZ p l) else endA p (wlastZ p l)
  | none => match stZ p with
    | some x => notA p x
    | none => ⟨0, [], 0, [], 0, [], 0, 0, 0⟩

/-- The kind that all corners tell. -/
def BestC (p : PG) (l : List Nat) : Prop := OKb p l ∧ ∀ j, (lookN p l).gs.getD j 0 ≤ 0
def KindR (p : PG) (k : Int) : Prop := (k = 1 ∧ ∃ l, BestC p l) ∨ (k = 2 ∧ (∃ l, OKb p l) ∧ ∀ l, ¬ BestC p l) ∨ (k = 3 ∧ ∀ l, ¬ OKb p l)
theorem KindR.uniq {p : PG} {a b : Int} (h1 : KindR p a) (h2 : KindR p b) : a = b := by
  rcases h1 with ⟨rfl, l1, q1⟩ | ⟨rfl, ⟨l1, q1⟩, r1⟩ | ⟨rfl, r1⟩ <;> rcases h2 with ⟨rfl, l2, q2⟩ | ⟨rfl, ⟨l2, q2⟩, r2⟩ | ⟨rfl, r2⟩
  · rfl
  · exact absurd q1 (r2 _)
  · exact absurd q1.1 (r2 _)
  · exact absurd q2 (r1 _)
  · rfl
  · exact absurd q1 (r2 _)
  · exact absurd q2.1 (r1 _)
  · exact absurd q2 (r1 _)
  · rfl
theorem kind_at {p : PG} {l : List Nat} (h : nxtZ p l = none) : (kindZ p l = 1 ∧ inZ (lookN p l).gs = none) ∨ (kindZ p l = 2 ∧ ∃ r, inZ (lookN p l).gs = some r ∧ outZ (lookN p l).xs l (lessZ p l r) l.length = none) := by
  unfold nxtZ at h
  unfold kindZ
  cases hi : inZ (lookN p l).gs with
  | none => exact .inl ⟨rfl, rfl⟩
  | some r =>
    rw [hi] at h
    simp only at h ⊢
    cases ho : outZ (lookN p l).xs l (lessZ p l r) l.length with
    | none => exact .inr ⟨rfl, r, rfl, ho⟩
    | some k => rw [ho] at h; cases h
theorem sol_all {p : PG} (hp : mayPB p = true) : holdsB p (solZ p) = true ∧ KindR p (solZ p).kind ∧ ((solZ p).kind = 1 ∨ (solZ p).kind = 2 ∨ (solZ p).kind = 3) := by
  unfold solZ
  cases hb : begZ p with
  | some l =>
    simp only
    obtain ⟨ho, hn⟩ := last_ok (beg_some hb)
    generalize wlastZ p l = lk at *
    rcases kind_at hn with ⟨hk, hi⟩ | ⟨hk, r, hi, hout⟩
    · rw [if_pos hk]
      obtain ⟨gx, gy, gg, hc⟩ := corn_of ho.hp ho.hr ho.hd
      have hg := inZ_none hi
      refine ⟨?_, .inl ⟨rfl, lk, ho, hg⟩, .inl rfl⟩
      unfold holdsB
      rw [hp, Bool.true_and, if_pos (show (bestA p lk).kind = 1 from rfl)]
      exact best_holds hc ho.hx hg rfl rfl
    · rw [if_neg (by omega)]
      refine ⟨?_, .inr (.inl ⟨rfl, ⟨lk, ho⟩, fun l' hl' => endless_alone ho hi hout hl'.1 hl'.2⟩), .inr (.inl rfl)⟩
      unfold holdsB
      rw [hp, Bool.true_and, if_neg (show ¬ (endA p lk).kind = 1 by show ¬ ((2 : Int) = 1); omega), if_pos (show (endA p lk).kind = 2 from rfl)]
      have := endless_holds ho hi hout
      unfold endA
      rw [hi]; exact this
  | none =>
    simp only
    cases hs : stZ p with
    | none =>
      exfalso
      rcases noth hp with ⟨l, h⟩ | ⟨l, k, h⟩
      · exact beg_none hb l h
      · exact st_none hs l k h
    | some x =>
      simp only
      refine ⟨?_, .inr (.inr ⟨rfl, beg_none hb⟩), .inr (.inr rfl)⟩
      unfold holdsB
      rw [hp, Bool.true_and, if_neg (show ¬ (notA p x).kind = 1 by show ¬ ((3 : Int) = 1); omega), if_neg (show ¬ (notA p x).kind = 2 by show ¬ ((3 : Int) = 2); omega), if_pos (show (notA p x).kind = 3 from rfl)]
      exact nothing_holds (st_some hs)
end Go.Proofs.Ytjcdkbalhleeeab

/-
  Plain words for the iterator over all corners: the columns of a number's bits, and how many corners have come. No program in sight.
-/
namespace Go.Proofs.Ytjcdkbalhleeeab

theorem intsN_app (a b : List Nat) : ints (a ++ b) = ints a ++ ints b := by simp [ints]
theorem intsN_len (a : List Nat) : (ints a).length = a.length := by simp [ints]
theorem bits_succ (j s : Nat) : bitsN (j + 1) s = bitsN j s ++ (if s.testBit j = true then [j] else []) := by
  unfold bitsN
  rw [List.range_succ, List.filter_append]
  congr 1
  simp [List.filter_cons]
theorem bits_zero (s : Nat) : bitsN 0 s = [] := rfl
theorem bits_len_le (j s : Nat) : (bitsN j s).length ≤ j := by
  unfold bitsN
  have := List.length_filter_le (fun j => s.testBit j) (List.range j)
  simpa using this
theorem bit_iff (s j : Nat) : s.testBit j = decide ((s : Int) / ((2 ^ j : Nat) : Int) % 2 = 1) := by
  rw [Nat.testBit_eq_decide_div_mod_eq]
  rw [decide_eq_decide]
  omega
/-- Is it a corner? -/
def okC (p : PG) (l : List Nat) : Bool := decide (l.length = p.rows.length) && decide (lookE p (ints l) = 0)
def cornK (p : PG) (s : Nat) : List (List Nat) := ((List.range s).map (bitsN (p.costs.length + p.rows.length))).filter (okC p)
theorem cornK_all (p : PG) : cornK p (2 ^ (p.costs.length + p.rows.length)) = cornersZ p := rfl
theorem cornK_zero (p : PG) : cornK p 0 = [] := rfl
theorem cornK_succ (p : PG) (s : Nat) : cornK p (s + 1) = cornK p s ++ (if okC p (bitsN (p.costs.length + p.rows.length) s) = true then [bitsN (p.costs.length + p.rows.length) s] else []) := by
  unfold cornK
  rw [List.range_succ, List.map_append, List.filter_append]
  congr 1
  simp only [List.map_cons, List.map_nil, List.filter_cons, List.filter_nil]
theorem cornK_pre (p : PG) : ∀ {s s' : Nat}, s ≤ s' → cornK p s <+: cornK p s'
  | s, s', h => by
    induction s' with
    | zero => obtain rfl : s = 0 := by omega
              exact List.prefix_rfl
    | succ n ih =>
      by_cases e : s = n + 1
      · subst e; exact List.prefix_rfl
      · rw [cornK_succ]
        exact (ih (by omega)).trans (List.prefix_append _ _)
theorem cornK_at {p : PG} {s : Nat} (hs : s < 2 ^ (p.costs.length + p.rows.length)) (h : okC p (bitsN (p.costs.length + p.rows.length) s) = true) :
    (cornK p s).length < (cornersZ p).length ∧ (cornersZ p).getD (cornK p s).length [] = bitsN (p.costs.length + p.rows.length) s := by
  obtain ⟨t, ht⟩ := cornK_pre p (s := s + 1) hs
  rw [cornK_all, cornK_succ, if_pos h] at ht
  rw [← ht]
  constructor
  · simp
  · simp [List.getD]
end Go.Proofs.Ytjcdkbalhleeeab

/-
  Plain words: a program with other mosts of its rows. No program in sight.
-/
namespace Go.Proofs.Ytjcdkbalhleeeab

/-- The rows with other mosts, of the first k. -/
def rowsK (p : PG) (b : List Int) (k : Nat) : List (List Int × Int) := (List.range k).map fun i => ((p.rows.getD i ([], 0)).1, b.getD i 0)
def mostsOf (p : PG) (b : List Int) : PG := ⟨p.costs, rowsK p b p.rows.length⟩
section
variable {p : PG} {b : List Int} {l : List Nat}
theorem rowsK_len (p : PG) (b : List Int) (k : Nat) : (rowsK p b k).length = k := by simp [rowsK]
theorem mostsOf_len (p : PG) (b : List Int) : (mostsOf p b).rows.length = p.rows.length := rowsK_len _ _ _
theorem rowsK_at (p : PG) (b : List Int) {k i : Nat} (h : i < k) : (rowsK p b k).getD i ([], 0) = ((p.rows.getD i ([], 0)).1, b.getD i 0) := by simp [rowsK, List.getD, h]
theorem mostsOf_has (p : PG) (b : List Int) (i j : Nat) : hasZ (mostsOf p b) i j = hasZ p i j := by
  unfold hasZ
  show (if j < p.costs.length then ((rowsK p b p.rows.length).getD i ([], 0)).1.getD j 0 else if j - p.costs.length = i then 1 else 0) = _
  by_cases hi : i < p.rows.length
  · rw [rowsK_at p b hi]
  · have e1 : (rowsK p b p.rows.length).getD i ([], 0) = ([], 0) := by simp [List.getD, List.getElem?_eq_none (show (rowsK p b p.rows.length).length ≤ i by rw [rowsK_len]; omega)]
    have e2 : p.rows.getD i ([], 0) = ([], 0) := by simp [List.getD, List.getElem?_eq_none (show p.rows.length ≤ i by omega)]
    rw [e1, e2]
theorem mostsOf_den (p : PG) (b : List Int) (hl : l.length = p.rows.length) : denZ (mostsOf p b) l = denZ p l := by
  unfold denZ dtm
  rw [mostsOf_len]
  refine dt_congr2 fun r hr c hc => ?_
  have hc' : c < p.rows.length := by simpa using hc
  unfold matD
  rw [if_pos (by omega), if_pos (by omega), mostsOf_has]
theorem mostsOf_may (hp : mayPB p = true) (hb : b.length = p.rows.length) (hs : smallB 12 b = true) : mayPB (mostsOf p b) = true := by
  obtain ⟨h1, h2, h3, h4, h5, h6⟩ := mayPB_iff.1 hp
  refine mayPB_iff.2 ⟨h1, h2, by rw [mostsOf_len]; exact h3, by rw [mostsOf_len]; exact h4, h5, ?_⟩
  show (rowsK p b p.rows.length).all (rowB p.costs.length) = true
  rw [List.all_eq_true]
  intro r hr
  simp only [rowsK, List.mem_map, List.mem_range] at hr
  obtain ⟨i, hi, rfl⟩ := hr
  obtain ⟨a1, a2, a3⟩ := mayPB_row hp hi
  have e : p.rows.getD i ([], 0) = p.rows[i] := by simp [List.getD, List.getElem?_eq_getElem hi]
  have hbi : -12 ≤ b.getD i 0 ∧ b.getD i 0 ≤ 12 := by
    have := smallB_at hs (k := i) (by omega)
    simpa [List.getD, List.getElem?_eq_getElem (show i < b.length by omega)] using this
  rw [e]
  unfold rowB
  simp only [Bool.and_eq_true, decide_eq_true_eq]
  exact ⟨a1, by rw [smallB_one]; simp; exact hbi, a3⟩
theorem mostsOf_E (hb : b.length = p.rows.length) (hs : smallB 12 b = true) {at_ : List Int} (he : lookE p at_ = 0) : lookE (mostsOf p b) at_ = 0 := by
  unfold lookE at he ⊢
  split at he
  · omega
  rename_i h1
  split at he
  · omega
  rename_i h2
  split at he
  · omega
  rename_i h3
  have hr := (right_nats (p := p) (l := at_) (by simpa using h2)).1
  rw [if_neg (by rw [mostsOf_may (by simpa using h1) hb hs]; simp), if_neg, if_neg (by rw [mostsOf_den p b hr.len]; exact h3)]
  have : rightA (mostsOf p b) at_ = rightA p at_ := by unfold rightA; rw [mostsOf_len]; rfl
  rw [this]; exact h2
/-- Each division along the line of mosts goes. -/
theorem mosts_made {c d : CO} {g1 g2 g3 g4 g5 g6 : Int} (hc : Corn p l c g1 g2 g3) (hd : Corn (mostsOf p b) l d g4 g5 g6) (j : Nat) (h : -1 * d.xs.getD j 0 * c.xd ≠ 0) :
    ptE [-(-1 * c.xs.getD j 0 * d.xd)] (-1 * d.xs.getD j 0 * c.xd) = 0 := by
  have b1 := (smallB_getD (l := c.xs) (m := 1073741824) (by omega)).1 (mayB_parts hc.mx).2.2.1 j
  have b2 := (smallB_getD (l := d.xs) (m := 1073741824) (by omega)).1 (mayB_parts hd.mx).2.2.1 j
  have h1 := mayB_parts hc.mx
  have h2 := mayB_parts hd.mx
  have e1 := hc.x j
  have e2 := hd.x j
  have k1 := (smallB_getD (l := xall p l) (m := 1073741824) (by omega)).1 (xall_small hc.hp hc.hr) j
  have k2 := (smallB_getD (l := xall (mostsOf p b) l) (m := 1073741824) (by omega)).1 (xall_small hd.hp hd.hr) j
  have dd : denZ p l = g4 * d.xd := by rw [← mostsOf_den p b hc.hr.len]; exact hd.dx
  -- the corner's numbers with their signs changed
  have := span_pt (A := -(xall p l).getD j 0) (B := -(xall (mostsOf p b) l).getD j 0) (u := -c.xs.getD j 0) (v := -d.xs.getD j 0) (dA := c.xd) (dB := d.xd) hc.nx hd.nx (by rw [e1]; grind) (by rw [e2]; grind) hc.dx dd
    (by omega) (by omega) (by omega) (by omega) (by omega) (by omega) (by intro e; apply h; rw [← e]; grind)
  rw [show -(-1 * c.xs.getD j 0 * d.xd) = -(-c.xs.getD j 0 * d.xd) by grind, show -1 * d.xs.getD j 0 * c.xd = -d.xs.getD j 0 * c.xd by grind]
  exact this
end
end Go.Proofs.Ytjcdkbalhleeeab
