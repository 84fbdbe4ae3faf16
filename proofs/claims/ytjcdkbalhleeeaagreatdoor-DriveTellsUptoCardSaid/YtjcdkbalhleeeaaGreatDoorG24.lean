/-
  Contracts of functions and plain laws that later parts of the proof use. The conditions stand in each theorem.
-/
import Derived.Test.YtjcdkbalhleeeaaGreatDoorG08
import Derived.Test.YtjcdkbalhleeeaaGreatDoorG13
import Derived.OrdersIn
namespace Go.Proofs.YtjcdkbalhleeeaaGreatDoor
open Go.RowKit
def noDefer (o : Oper) : Bool := match o.op with | .defer _ => false | _ => true
theorem noDefer_spec {o : Oper} (h : noDefer o = true) : ∀ c, o.op ≠ .defer c := by
 intro c e
 unfold noDefer at h
 rw [e] at h
 cases h
theorem rows_round {P : Program} {row : String} {args : Array Value} {w : World} {R : Value → World → Prop} (l : Nat) (h : Rows P row args w R) : RowsIn (Fence.wide.inRound l) 0 P row args w R := by
 have h' : RowsIn Fence.wide 0 P row args w R := fun c cs _ => let ⟨v, w', r, s⟩ := h c cs; ⟨v, w', r, stepsIn_wide.2 s⟩
 exact h'
theorem op_round {P : Program} {o : Oper} {a : Act} {w : World} {K : Act → World → Prop} {Q : Exit → Act → World → Prop} (l : Nat) (hd : noDefer o = true) (h : o.wp P a w K Q) : o.wpIn (Fence.wide.inRound l) 0 P a w K Q := by
 refine ⟨fun _ _ => trivial, ?_⟩
 rw [show (Fence.wide.inRound l).round = some l from rfl, Oper.semAt_eq _ _ _ (noDefer_spec hd)]
 unfold Oper.wp at h
 generalize (execOp a.eval o).run P w = r at *
 cases r with
 | ok x w' =>
  cases x with
  | value u => exact h
  | skip => exact h
  | defer d => exact h
  | enter f args => exact ⟨fun q => (by cases q), CallsIn.inRound l (callsIn_wide.2 h)⟩
  | row r args => exact ⟨fun q => (by cases q), rows_round l h⟩
  | _ => exact (h : False).elim
 | halt x w' => cases x <;> exact h
section
variable {P : Program} {ops : Array Oper} {md : Region.Mode} {Q : Exit → Act → World → Prop}
theorem any_round (l : Nat) (hd : ops.all noDefer = true) (hlo : ∀ a w, ¬ Q .outgrown a w) : ∀ (f : Nat) (ls : Array Bool) (a : Act) (w : World), wpAny P md ops Q f ls a w → wpAnyIn (Fence.wide.inRound l) 0 P md ops Q f ls a w
 | 0, _, _, _, h => h
 | f + 1, ls, a, w, h => ⟨h.1, fun i hi => by
  have hq := h.2 i hi
  unfold wpOp at hq
  unfold wpOpIn
  cases ho : ops[i]? with
  | none => rw [ho] at hq; exact any_round l hd hlo f _ a w hq
  | some o =>
   rw [ho] at hq
   have hdo : noDefer o = true := Array.all_eq_true_iff_forall_mem.1 hd o (Array.mem_of_getElem? ho)
   dsimp only at hq ⊢
   by_cases hw : Region.wanted o (yielded ops a.tmps) = true
   ·rw [if_pos hw] at hq ⊢
    rcases hq with hq | ⟨_, a', w', hq⟩
    ·exact op_round l hdo (Oper.wp_mono (fun a w k => any_round l hd hlo f _ a w k) hq)
    ·exact absurd hq (hlo a' w')
   ·rw [if_neg hw] at hq ⊢
    exact ⟨fun _ _ => trivial, any_round l hd hlo f _ _ w hq⟩⟩
end
theorem wk_tailR {P : Program} {id l : Nat} {Q : Exit → Act → World → Prop} {a : Act} {W : World} {os : List Oper} (n : Nat) (hm : P.follows .mixedOrders = true) (hB : Region.lexTailB .any os.toArray n = true) (hd : os.toArray.all noDefer = true) (hlo : ∀ a w, ¬ Q .outgrown a w)
    (h : wpQuiet P os.toArray (fun w' => ∃ u : Wk W, w' = u.1) (fun a' => ∀ w', (∃ u : Wk W, w' = u.1) → wpList P os.toArray Q (os.drop n) a' w') (os.take n) a) : (Code.region id os.toArray true).wpIn (Fence.wide.inRound l) 0 P Q a W := by
 have hC : ∃ u : Wk W, W.drew = u.1 := ⟨⟨W.drew, (Below.refl _ _).drew⟩, rfl⟩
 simp only [Region.lexTailB, Bool.and_eq_true, decide_eq_true_eq] at hB
 obtain ⟨⟨⟨⟨hsel, hn⟩, hs⟩, hc⟩, hlex⟩ := hB
 have hn' : n < os.length := by simpa using hn
 have ht : (os.take n).length = n := by rw [List.length_take]; omega
 have hdd : (os.drop n).length = os.toArray.size - n := by simp
 have inv0 : HeadInv .any os.toArray n (Array.replicate os.toArray.size false) :=
  ⟨by simp, fun j oj _ hl => (by rw [getD_replicate_false] at hl; cases hl), fun t _ ht => getD_in (by simpa using ht) (getD_replicate_false _ _)⟩
 have H := hq_lex (md := .any) (k := os.toArray.size - n) hsel hs hc hn (os.take n) 0 _ a (fun j hj => by rw [ht] at hj; simp [hj]) (by omega) inv0 (by rw [ht]; exact hlex) h
 refine wpIn_region_any hm (any_round l hd hlo _ _ _ _ ?_)
 have := hq_any (Q := Q) (k := os.toArray.size - n) (fun ls a' w' hw' hL => by
  have := wpAny_of_seq (md := .any) (Q' := Q) (os.drop n) n ls a' w' (fun j => by simp [List.getElem?_drop]) (by rw [hdd]; exact hL.1) (hL.2 w' hw')
  rwa [hdd] at this) _ _ _ _ hC H
 rw [ht, show n + (os.toArray.size - n) = os.toArray.size by omega] at this
 exact this
end Go.Proofs.YtjcdkbalhleeeaaGreatDoor

namespace Go.Proofs.YtjcdkbalhleeeaaGreatDoor
open Go.RowKit
def stUpon (P : Program) (w : World) (v : Value) : Result Next → Prop
 | .ok (.value u) w' => w' = w ∧ u = v
 | .ok .skip w' => w' = w ∧ v = undef
 | .ok (.enter f args) w' => w' = w ∧ Calls P f args w (fun e w'' => e = .returned v ∧ Below w.heap.size w w'')
 | _ => False
theorem put_same (a : Act) (d : Tmp) (x y : Value) : (a.put (some d) x).put (some d) y = a.put (some d) y := by simp [Act.put]
theorem put_size (a : Act) (d : Option Tmp) (x : Value) : (a.put d x).tmps.size = a.tmps.size := by cases d <;> simp [Act.put]
theorem put_eval (a : Act) (d : Tmp) (x : Value) (h : d < a.tmps.size) : (a.put (some d) x).eval (.tmp d) = x := by simp [Act.put, Act.eval, h]
section
variable {P : Program} {ops : Array Oper} {md : Region.Mode} {W : World} {A S : Nat} {X xv : Value} {xS : Operand}
def sY (P : Program) (ops : Array Oper) (W : World) (A S : Nat) (X xv : Value) (xS : Operand) (i : Nat) (o : Oper) (v : Value) (a : Act) : Prop :=
 if i = A then v = X else if i = S then v = X ∧ a.eval xS = xv else
  (Region.wanted o (yielded ops a.tmps) = true ∧ ∀ w, Below W.heap.size W w → stUpon P w v ((execOp a.eval o).run P w)) ∨ (Region.wanted o (yielded ops a.tmps) = false ∧ v = undef)
def wpS (P : Program) (ops : Array Oper) (W : World) (A S : Nat) (X xv : Value) (xS : Operand) (Q : Act → Prop) : Nat → List Oper → Act → Prop
 | _, [], a => Q a
 | i, o :: l, a => ∃ v, sY P ops W A S X xv xS i o v a ∧ wpS P ops W A S X xv xS Q (i + 1) l (a.put o.dst v)
def anyS (P : Program) (md : Region.Mode) (ops : Array Oper) (W : World) (A S : Nat) (X xv : Value) (xS : Operand) (Q : Act → Prop) : Nat → Array Bool → Act → Prop
 | 0, ls, a => Region.ready md ops ls = [] ∧ Q a
 | f + 1, ls, a => (Region.ready md ops ls = [] → Q a) ∧ ∀ i ∈ Region.ready md ops ls, ∃ o v, ops[i]? = some o ∧ sY P ops W A S X xv xS i o v a ∧ anyS P md ops W A S X xv xS Q f (ls.setIfInBounds i true) (a.put o.dst v)
theorem sY_put {i : Nat} {o : Oper} {v u : Value} {a : Act} {d : Option Tmp} (hns : ∀ cs b, o.op ≠ .select cs b) (hx : i = S → ∀ x, d = some x → xS ≠ .tmp x) (h : ∀ x, d = some x → x ∉ o.looksAt ops) : sY P ops W A S X xv xS i o v (a.put d u) ↔ sY P ops W A S X xv xS i o v a := by
 unfold sY
 by_cases hA : i = A
 ·rw [if_pos hA, if_pos hA]
 rw [if_neg hA, if_neg hA]
 by_cases hS : i = S
 ·rw [if_pos hS, if_pos hS, Act.eval_put (hx hS)]
 rw [if_neg hS, if_neg hS, wanted_put o a d u h, execOp_put o hns a d u h]
def looksS (ops : Array Oper) (S : Nat) (xS : Operand) : Prop := ∀ o, ops[S]? = some o → ∀ x, xS = .tmp x → x ∈ o.looksAt ops
theorem S_first {Q : Act → Prop} (hsel : ∀ (j : Nat) (o : Oper) cs b, ops[j]? = some o → o.op ≠ .select cs b) (hl : looksS ops S xS) {i : Nat} {oi : Oper} {v : Value} (hi : ops[i]? = some oi) :
    ∀ (f : Nat) (ls : Array Bool) (a : Act), (∀ j oj, ops[j]? = some oj → j ≠ i → ls.getD j true = false → (∀ e ∈ oj.after, Region.binds md e = true → e.on ≠ i) → oi.apart ops oj = true) →
     i ∈ Region.ready md ops ls → sY P ops W A S X xv xS i oi v a → anyS P md ops W A S X xv xS Q f (ls.setIfInBounds i true) (a.put oi.dst v) → anyS P md ops W A S X xv xS Q (f + 1) ls a := by
 intro f
 induction f with
 | zero =>
  intro ls a _ hr hy H
  refine ⟨fun e => (by rw [e] at hr; cases hr), fun j hj => ?_⟩
  by_cases e : j = i
  ·subst e; exact ⟨oi, v, hi, hy, H⟩
  ·have := ready_mono hj e
   rw [H.1] at this; cases this
 | succ f ih =>
  intro ls a hfree hr hy H
  refine ⟨fun e => (by rw [e] at hr; cases hr), fun j hj => ?_⟩
  by_cases e : j = i
  ·subst e; exact ⟨oi, v, hi, hy, H⟩
  ·obtain ⟨oj, u, hoj, hyj, hK⟩ := H.2 j (ready_mono hj e)
   obtain ⟨hjun, oj', hoj', hall⟩ := mem_ready.1 hj
   rw [hoj] at hoj'; cases hoj'
   have hun := (mem_ready.1 hr).1
   have hno : ∀ e ∈ oj.after, Region.binds md e = true → e.on ≠ i := fun e' he hb q => by
    have h1 := hall e' he hb
    rw [q] at h1
    rcases Nat.lt_or_ge i ls.size with h' | h'
    ·simp [h'] at hun h1; rw [hun] at h1; cases h1
    ·simp [Array.getElem?_eq_none h'] at h1
   obtain ⟨p1, p2, p3⟩ := Oper.apart_spec (hfree j oj hoj e hjun hno)
   have y1 := (sY_put (hsel j oj · · hoj) (fun q x hx hq => p1 x hx (hl oj (by rw [← q]; exact hoj) x hq)) p1).1 hyj
   have y2 := (sY_put (u := u) (hsel i oi · · hi) (fun q x hx hq => p3 x hx (hl oi (by rw [← q]; exact hi) x hq)) p3).2 hy
   refine ⟨oj, u, hoj, y1, ih (ls.setIfInBounds j true) (a.put oj.dst u) (fun k ok hk hki hku hkn => hfree k ok hk hki ?_ hkn) (ready_mono hr (Ne.symm e)) y2 ?_⟩
   ·by_cases hjk : j = k
    ·subst hjk; exact hjun
    ·rwa [getD_set_ne true hjk] at hku
   ·rw [Array.setIfInBounds_comm _ _ e, ← Act.put_comm a v u p2]
    exact hK
theorem S_lex {Q : Act → Prop} (hs : Region.noSelect ops = true) (hl : looksS ops S xS) : ∀ (l : List Oper) (k : Nat) (ls : Array Bool) (a : Act), (∀ j, l[j]? = ops[k + j]?) → Region.lexFrom md ops l.length k ls = true →
    wpS P ops W A S X xv xS Q k l a → anyS P md ops W A S X xv xS Q l.length ls a
 | [], _, _, _, _, hB, h => ⟨by simpa [Region.lexFrom] using hB, h⟩
 | o :: l, k, ls, a, hq, hB, h => by
  have h0 : ops[k]? = some o := by simpa using (hq 0).symm
  simp only [List.length_cons, Region.lexFrom, Bool.and_eq_true] at hB
  obtain ⟨⟨hr, hf⟩, hB'⟩ := hB
  obtain ⟨v, hy, hK⟩ := h
  exact S_first (Region.noSelect_spec hs) hl h0 l.length ls a (Region.free_spec h0 hf) (by simpa using hr) hy
   (S_lex hs hl l (k + 1) _ _ (fun j => by have := hq (j + 1); simpa [Nat.add_assoc, Nat.add_comm 1 j] using this) hB' hK)
def fwdB (md : Region.Mode) (ops : Array Oper) : Bool := (List.range ops.size).all fun j => ((ops[j]?).map fun o => o.after.all fun e => !Region.binds md e || decide (e.on < j)).getD true
theorem all_listed (hf : fwdB md ops = true) {ls : Array Bool} (hz : ls.size = ops.size) (hr : Region.ready md ops ls = []) : ∀ j, j < ops.size → ls.getD j false = true := by
 intro j
 induction j using Nat.strongRecOn with
 | ind j ih =>
  intro hj
  cases h : ls.getD j false with
  | true => rfl
  | false =>
   exfalso
   have hjl : j < ls.size := by omega
   have h' : ls.getD j true = false := by simp [hjl] at h ⊢; exact h
   have hm : j ∈ Region.ready md ops ls := mem_ready.2 ⟨h', ops[j], by simp [hj], fun e he hb => by
    have := List.all_eq_true.1 hf j (List.mem_range.2 hj)
    simp only [Array.getElem?_eq_getElem hj, Option.map_some, Option.getD_some, Array.all_eq_true_iff_forall_mem] at this
    have := this e he
    simp [hb] at this
    exact ih e.on this (by omega)⟩
   rw [hr] at hm; cases hm
variable {oA oS : Oper} {dA : Tmp} {o0 o1 : Obj}
def RelA (W : World) (A S : Nat) (dA : Tmp) (o0 o1 : Obj) (ls : Array Bool) (a a' : Act) (w : World) : Prop :=
 (ls.getD A true = false ∧ ls.getD S true = false ∧ a' = a) ∨
 ∃ b, W.heap.size ≤ b ∧ a' = a.put (some dA) (.pointer (some ⟨b, 0, none⟩)) ∧ ls.getD A false = true ∧ ((ls.getD S true = false ∧ w.heap[b]? = some o0) ∨ (ls.getD S false = true ∧ w.heap[b]? = some o1))
theorem getD_not {ls : Array Bool} {i : Nat} (h1 : ls.getD i true = false) (h2 : ls.getD i false = true) : False := by
 rcases Nat.lt_or_ge i ls.size with h | h
 ·simp [h] at h1 h2; rw [h1] at h2; cases h2
 ·simp [Array.getElem?_eq_none h] at h1
theorem getD_set_self {ls : Array Bool} {i : Nat} (h : ls.getD i true = false) : (ls.setIfInBounds i true).getD i false = true := by
 rcases Nat.lt_or_ge i ls.size with h' | h'
 ·simp [h']
 ·simp [Array.getElem?_eq_none h'] at h
theorem getD_set_nef {ls : Array Bool} {i j : Nat} (h : i ≠ j) : (ls.setIfInBounds i true).getD j false = ls.getD j false := by
 simp [Array.getElem?_setIfInBounds_ne h]
theorem sim_any {Q : Exit → Act → World → Prop} (hAS : A ≠ S) (hf : fwdB md ops = true) (hsel : ∀ (j : Nat) (o : Oper) cs b, ops[j]? = some o → o.op ≠ .select cs b)
    (hA : ops[A]? = some oA) (gA : oA.guard = none) (eA : oA.dst = some dA) (runA : ∀ ρ w, (execOp ρ oA).run P w = .ok (.value (.pointer (some ⟨w.heap.size, 0, none⟩))) (w.alloc o0))
    (hS : ops[S]? = some oS) (gS : oS.guard = none) (eS : oS.dst = none) (edge : ∃ e ∈ oS.after, Region.binds md e = true ∧ e.on = A)
    (runS : ∀ ρ w b, ρ (.tmp dA) = .pointer (some ⟨b, 0, none⟩) → ρ xS = xv → w.heap[b]? = some o0 → ∃ w', ((execOp ρ oS).run P w = .ok .skip w' ∨ (execOp ρ oS).run P w = .ok (.value undef) w') ∧ w'.heap[b]? = some o1 ∧ w.grownBy w' (some b))
    (hxS : xS ≠ .tmp dA) (hap : ∀ i o, ops[i]? = some o → i ≠ A → i ≠ S → oA.apart ops o = true) :
    ∀ (f : Nat) (ls : Array Bool) (a a' : Act) (w : World), ls.size = ops.size → dA < a.tmps.size →
     anyS P md ops W A S X xv xS (fun a => ∀ b w, W.heap.size ≤ b → Below W.heap.size W w → w.heap[b]? = some o1 → Q .normal (a.put (some dA) (.pointer (some ⟨b, 0, none⟩))) w) f ls a →
     Below W.heap.size W w → RelA W A S dA o0 o1 ls a a' w → wpAny P md ops Q f ls a' w := by
 have hAl : A < ops.size := (Array.getElem?_eq_some_iff.1 hA).1
 have hSl : S < ops.size := (Array.getElem?_eq_some_iff.1 hS).1
 have fin : ∀ (ls : Array Bool) (a a' : Act) (w : World), ls.size = ops.size → Region.ready md ops ls = [] → Below W.heap.size W w → RelA W A S dA o0 o1 ls a a' w →
     (∀ b w, W.heap.size ≤ b → Below W.heap.size W w → w.heap[b]? = some o1 → Q .normal (a.put (some dA) (.pointer (some ⟨b, 0, none⟩))) w) → Q .normal a' w := by
  intro ls a a' w hz hr hb hrel hq
  have hla := all_listed hf hz hr
  rcases hrel with ⟨q, _, _⟩ | ⟨b, h1, rfl, h3, (⟨q, _⟩ | ⟨_, h4⟩)⟩
  ·exact (getD_not q (hla A hAl)).elim
  ·exact (getD_not q (hla S hSl)).elim
  ·exact hq b w h1 hb h4
 intro f
 induction f with
 | zero => intro ls a a' w hz hd h hb hrel; exact ⟨h.1, fin ls a a' w hz h.1 hb hrel h.2⟩
 | succ f ih =>
  intro ls a a' w hz hd h hb hrel
  refine ⟨fun hr => fin ls a a' w hz hr hb hrel (h.1 hr), fun i hi => ?_⟩
  obtain ⟨o, v, ho, hy, hk⟩ := h.2 i hi
  obtain ⟨hun, o', ho', hall⟩ := mem_ready.1 hi
  rw [ho] at ho'; cases ho'
  unfold wpOp
  rw [ho]
  dsimp only
  have hz' : (ls.setIfInBounds i true).size = ops.size := by simpa using hz
  by_cases hiA : i = A
  ·subst hiA
   rw [hA] at ho; cases ho
   rw [if_pos (by simp [Region.wanted, gA])]
   left
   rcases hrel with ⟨q1, q2, rfl⟩ | ⟨b, h1, rfl, h3, _⟩
   ·unfold Oper.wp
    rw [runA, Oper.upon_value]
    have hv : v = X := by unfold sY at hy; rwa [if_pos rfl] at hy
    subst hv
    refine ih _ _ _ _ hz' (by rw [put_size]; exact hd) hk (hb.alloc hb.size _) (.inr ⟨w.heap.size, hb.size, ?_, getD_set_self hun, .inl ⟨by rw [getD_set_ne true hAS]; exact q2, by show (w.heap.push o0)[w.heap.size]? = some o0; simp⟩⟩)
    rw [eA, put_same]
   ·exact (getD_not hun h3).elim
  by_cases hiS : i = S
  ·subst hiS
   rw [hS] at ho; cases ho
   rw [if_pos (by simp [Region.wanted, gS])]
   left
   obtain ⟨e, he, hbd, hon⟩ := edge
   have hAl' := hall e he hbd
   rw [hon] at hAl'
   rcases hrel with ⟨q1, _, _⟩ | ⟨b, h1, rfl, h3, (⟨_, h4⟩ | ⟨q, _⟩)⟩
   ·exact (getD_not q1 hAl').elim
   ·have hxv : a.eval xS = xv := by unfold sY at hy; rw [if_neg hiA, if_pos rfl] at hy; exact hy.2
    obtain ⟨w', hrun, h5, h6⟩ := runS (a.put (some dA) (.pointer (some ⟨b, 0, none⟩))).eval w b (put_eval a dA _ hd) (by rw [Act.eval_put (fun x hx q => hxS (by cases hx; exact q))]; exact hxv) h4
    have hb' : Below W.heap.size W w' := hb.grown h6 hb.size (fun k hk => by cases hk; exact h1)
    have hnx : wpAny P md ops Q f (ls.setIfInBounds i true) (a.put (some dA) (.pointer (some ⟨b, 0, none⟩))) w' := by
     refine ih _ a _ _ hz' hd (by rw [eS] at hk; exact hk) hb' (.inr ⟨b, h1, rfl, ?_, .inr ⟨getD_set_self hun, h5⟩⟩)
     rw [getD_set_nef (Ne.symm hAS)]; exact h3
    unfold Oper.wp
    rcases hrun with hrun | hrun
    ·rw [hrun, Oper.upon_skip, eS]; exact hnx
    ·rw [hrun, Oper.upon_value, eS]; exact hnx
   ·exact (getD_not hun q).elim
  have hap' := Oper.apart_spec (hap i o ho hiA hiS)
  have hdo : ∀ d, o.dst = some d → some dA ≠ some d := fun d hd' q => by
   cases q
   exact hap'.2.1 dA eA hd'
  have rel' : ∀ (u : Value) (w' : World), w.heap.size ≤ w'.heap.size → (∀ k, k < w.heap.size → w'.heap[k]? = w.heap[k]?) → RelA W A S dA o0 o1 (ls.setIfInBounds i true) (a.put o.dst u) (a'.put o.dst u) w' := by
   intro u w' _ hkeep
   have keep : ∀ b x, w.heap[b]? = some x → w'.heap[b]? = some x := fun b x hx => (hkeep b (Array.getElem?_eq_some_iff.1 hx).1).trans hx
   rcases hrel with ⟨q1, q2, rfl⟩ | ⟨b, h1, rfl, h3, h4⟩
   ·exact .inl ⟨by rw [getD_set_ne true hiA]; exact q1, by rw [getD_set_ne true hiS]; exact q2, rfl⟩
   ·refine .inr ⟨b, h1, ?_, by rw [getD_set_nef hiA]; exact h3, ?_⟩
    ·exact Act.put_comm a _ _ (fun d hd' q => by cases hd'; exact hap'.2.1 dA eA q)
    ·rcases h4 with ⟨q, h5⟩ | ⟨q, h5⟩
     ·exact .inl ⟨by rw [getD_set_ne true hiS]; exact q, keep _ _ h5⟩
     ·exact .inr ⟨by rw [getD_set_nef hiS]; exact q, keep _ _ h5⟩
  have same : Region.wanted o (yielded ops a'.tmps) = Region.wanted o (yielded ops a.tmps) ∧ execOp a'.eval o = execOp a.eval o := by
   rcases hrel with ⟨_, _, rfl⟩ | ⟨b, _, rfl, _⟩
   ·exact ⟨rfl, rfl⟩
   ·have hlk : ∀ d, some dA = some d → d ∉ o.looksAt ops := fun d q => by cases q; exact hap'.1 dA eA
    exact ⟨wanted_put o a _ _ hlk, execOp_put o (hsel i o · · ho) a _ _ hlk⟩
  rw [same.1]
  unfold sY at hy
  rw [if_neg hiA, if_neg hiS] at hy
  rcases hy with ⟨hw, hst⟩ | ⟨hw, rfl⟩
  ·rw [if_pos hw]
   left
   have hst' := hst w hb
   unfold Oper.wp
   rw [same.2]
   generalize (execOp a.eval o).run P w = r at hst' ⊢
   cases r with
   | ok x w' =>
    cases x <;> simp only [stUpon] at hst'
    case value u =>
     obtain ⟨rfl, rfl⟩ := hst'
     rw [Oper.upon_value]
     exact ih _ _ _ _ hz' (by rw [put_size]; exact hd) hk hb (rel' _ _ (Nat.le_refl _) (fun _ _ => rfl))
    case skip =>
     obtain ⟨rfl, rfl⟩ := hst'
     rw [Oper.upon_skip]
     exact ih _ _ _ _ hz' (by rw [put_size]; exact hd) hk hb (rel' _ _ (Nat.le_refl _) (fun _ _ => rfl))
    case enter fn args =>
     obtain ⟨rfl, hc⟩ := hst'
     rw [Oper.upon_enter]
     refine hc.mono ?_
     rintro e w'' ⟨rfl, hbb⟩
     exact ih _ _ _ _ hz' (by rw [put_size]; exact hd) hk (hb.trans (hbb.mono hb.size)) (rel' _ _ hbb.size hbb.block)
   | halt x w' => simp only [stUpon] at hst'
  ·rw [if_neg (by rw [hw]; exact Bool.false_ne_true)]
   exact ih _ _ _ _ hz' (by rw [put_size]; exact hd) hk hb (rel' _ _ (Nat.le_refl _) (fun _ _ => rfl))
theorem wpS_val {Q : Act → Prop} {i : Nat} {o : Oper} {l : List Oper} {a : Act} (v : Value) (h1 : i ≠ A) (h2 : i ≠ S) (hw : Region.wanted o (yielded ops a.tmps) = true) (hr : ∀ u : Wk W, (execOp a.eval o).run P u.1 = .ok (.value v) u.1) (hk : wpS P ops W A S X xv xS Q (i + 1) l (a.put o.dst v)) :
    wpS P ops W A S X xv xS Q i (o :: l) a :=
 ⟨v, by unfold sY; rw [if_neg h1, if_neg h2]; exact .inl ⟨hw, fun w hb => by rw [hr ⟨w, hb⟩]; exact ⟨rfl, rfl⟩⟩, hk⟩
theorem wpS_call {Q : Act → Prop} {i : Nat} {o : Oper} {l : List Oper} {a : Act} (v : Value) (f : FuncId) (args : Array Value) (h1 : i ≠ A) (h2 : i ≠ S) (hw : Region.wanted o (yielded ops a.tmps) = true) (hr : ∀ u : Wk W, (execOp a.eval o).run P u.1 = .ok (.enter f args) u.1)
    (hc : ∀ u : Wk W, Calls P f args u.1 fun e w' => e = .returned v ∧ Below u.1.heap.size u.1 w') (hk : wpS P ops W A S X xv xS Q (i + 1) l (a.put o.dst v)) : wpS P ops W A S X xv xS Q i (o :: l) a :=
 ⟨v, by unfold sY; rw [if_neg h1, if_neg h2]; exact .inl ⟨hw, fun w hb => by rw [hr ⟨w, hb⟩]; exact ⟨rfl, hc ⟨w, hb⟩⟩⟩, hk⟩
theorem wpS_make {Q : Act → Prop} {i : Nat} {o : Oper} {l : List Oper} {a : Act} (h1 : i = A) (hk : wpS P ops W A S X xv xS Q (i + 1) l (a.put o.dst X)) : wpS P ops W A S X xv xS Q i (o :: l) a :=
 ⟨X, by unfold sY; rw [if_pos h1], hk⟩
theorem wpS_fill {Q : Act → Prop} {i : Nat} {o : Oper} {l : List Oper} {a : Act} (h1 : i ≠ A) (h2 : i = S) (he : a.eval xS = xv) (hk : wpS P ops W A S X xv xS Q (i + 1) l (a.put o.dst X)) : wpS P ops W A S X xv xS Q i (o :: l) a :=
 ⟨X, by unfold sY; rw [if_neg h1, if_pos h2]; exact ⟨rfl, he⟩, hk⟩
theorem wk_allocR {id l : Nat} {Q : Exit → Act → World → Prop} {a : Act} {os : List Oper} (A S : Nat) (oA oS : Oper) (dA : Tmp) (o0 o1 : Obj) (X xv : Value) (xS : Operand) (hm : P.follows .mixedOrders = true) (hB : Region.lexB .any os.toArray = true) (hd : os.toArray.all noDefer = true) (hlo : ∀ a w, ¬ Q .outgrown a w)
    (hAS : A ≠ S) (hf : fwdB .any os.toArray = true) (hA : os.toArray[A]? = some oA) (gA : oA.guard = none) (eA : oA.dst = some dA) (hS : os.toArray[S]? = some oS) (gS : oS.guard = none) (eS : oS.dst = none)
    (edge : (oS.after.any fun e => Region.binds .any e && e.on == A) = true) (hlk : looksS os.toArray S xS) (hxS : xS ≠ .tmp dA)
    (hap : ((List.range os.length).all fun i => i == A || i == S || ((os[i]?).map fun o => oA.apart os.toArray o).getD true) = true) (hda : dA < a.tmps.size)
    (runA : ∀ ρ w, (execOp ρ oA).run P w = .ok (.value (.pointer (some ⟨w.heap.size, 0, none⟩))) (w.alloc o0))
    (runS : ∀ ρ w b, ρ (.tmp dA) = .pointer (some ⟨b, 0, none⟩) → ρ xS = xv → w.heap[b]? = some o0 → ∃ w', ((execOp ρ oS).run P w = .ok .skip w' ∨ (execOp ρ oS).run P w = .ok (.value undef) w') ∧ w'.heap[b]? = some o1 ∧ w.grownBy w' (some b))
    (h : wpS P os.toArray W A S X xv xS (fun a => ∀ b w, W.heap.size ≤ b → Below W.heap.size W w → w.heap[b]? = some o1 → Q .normal (a.put (some dA) (.pointer (some ⟨b, 0, none⟩))) w) 0 os a) :
    (Code.region id os.toArray true).wpIn (Fence.wide.inRound l) 0 P Q a W := by
 have hB' := hB
 simp only [Region.lexB, Bool.and_eq_true] at hB'
 obtain ⟨e, he, hbe⟩ : ∃ e ∈ oS.after, (Region.binds .any e && e.on == A) = true := by
  rw [Array.any_eq_true] at edge
  obtain ⟨i, hi, h⟩ := edge
  exact ⟨_, Array.getElem_mem hi, h⟩
 simp only [Bool.and_eq_true, beq_iff_eq] at hbe
 have hAl : A < os.toArray.size := (Array.getElem?_eq_some_iff.1 hA).1
 have hSl : S < os.toArray.size := (Array.getElem?_eq_some_iff.1 hS).1
 refine wpIn_region_any hm (any_round l hd hlo _ _ _ _ (sim_any (X := X) hAS hf (Region.noSelect_spec hB'.1) hA gA eA runA hS gS eS ⟨e, he, hbe.1, hbe.2⟩ runS hxS ?_ _ _ a a _ (by simp) hda ?_ (Below.refl _ _).drew (.inl ⟨by simp at hAl ⊢; simp [hAl], by simp at hSl ⊢; simp [hSl], rfl⟩)))
 ·intro i o ho h1 h2
  have hil : i < os.length := by simpa using (Array.getElem?_eq_some_iff.1 ho).1
  have := List.all_eq_true.1 hap i (List.mem_range.2 hil)
  have ho' : os[i]? = some o := by simpa using ho
  simpa [h1, h2, ho'] using this
 ·have := S_lex (md := .any) (X := X) hB'.1 hlk os 0 (Array.replicate os.toArray.size false) a (by simp) (by simpa using hB'.2) h
  simpa using this
end
end Go.Proofs.YtjcdkbalhleeeaaGreatDoor

namespace Go.Proofs.YtjcdkbalhleeeaaGreatDoor
open Go.Proofs Go.RowKit
section
variable {P : Program} {W : World}
theorem wk_allocN {id : Nat} {Q : Exit → Act → World → Prop} {a : Act} {os : List Oper} (A S : Nat) (oA oS : Oper) (dA : Tmp) (o0 o1 : Obj) (X xv : Value) (xS : Operand) (hm : P.follows .mixedOrders = true) (hB : Region.lexB .any os.toArray = true)
    (hAS : A ≠ S) (hf : fwdB .any os.toArray = true) (hA : os.toArray[A]? = some oA) (gA : oA.guard = none) (eA : oA.dst = some dA) (hS : os.toArray[S]? = some oS) (gS : oS.guard = none) (eS : oS.dst = none)
    (edge : (oS.after.any fun e => Region.binds .any e && e.on == A) = true) (hlk : looksS os.toArray S xS) (hxS : xS ≠ .tmp dA)
    (hap : ((List.range os.length).all fun i => i == A || i == S || ((os[i]?).map fun o => oA.apart os.toArray o).getD true) = true) (hda : dA < a.tmps.size)
    (runA : ∀ ρ w, (execOp ρ oA).run P w = .ok (.value (.pointer (some ⟨w.heap.size, 0, none⟩))) (w.alloc o0))
    (runS : ∀ ρ w b, ρ (.tmp dA) = .pointer (some ⟨b, 0, none⟩) → ρ xS = xv → w.heap[b]? = some o0 → ∃ w', ((execOp ρ oS).run P w = .ok .skip w' ∨ (execOp ρ oS).run P w = .ok (.value undef) w') ∧ w'.heap[b]? = some o1 ∧ w.grownBy w' (some b))
    (h : wpS P os.toArray W A S X xv xS (fun a => ∀ b w, W.heap.size ≤ b → Below W.heap.size W w → w.heap[b]? = some o1 → Q .normal (a.put (some dA) (.pointer (some ⟨b, 0, none⟩))) w) 0 os a) :
    (Code.region id os.toArray true).wp P Q a W := by
 have hB' := hB
 simp only [Region.lexB, Bool.and_eq_true] at hB'
 obtain ⟨e, he, hbe⟩ : ∃ e ∈ oS.after, (Region.binds .any e && e.on == A) = true := by
  rw [Array.any_eq_true] at edge
  obtain ⟨i, hi, h⟩ := edge
  exact ⟨_, Array.getElem_mem hi, h⟩
 simp only [Bool.and_eq_true, beq_iff_eq] at hbe
 have hAl : A < os.toArray.size := (Array.getElem?_eq_some_iff.1 hA).1
 have hSl : S < os.toArray.size := (Array.getElem?_eq_some_iff.1 hS).1
 refine wp_region_any hm (sim_any (X := X) hAS hf (Region.noSelect_spec hB'.1) hA gA eA runA hS gS eS ⟨e, he, hbe.1, hbe.2⟩ runS hxS ?_ _ _ a a _ (by simp) hda ?_ (Below.refl _ _).drew (.inl ⟨by simp at hAl ⊢; simp [hAl], by simp at hSl ⊢; simp [hSl], rfl⟩))
 ·intro i o ho h1 h2
  have hil : i < os.length := by simpa using (Array.getElem?_eq_some_iff.1 ho).1
  have := List.all_eq_true.1 hap i (List.mem_range.2 hil)
  have ho' : os[i]? = some o := by simpa using ho
  simpa [h1, h2, ho'] using this
 ·have := S_lex (md := .any) (X := X) hB'.1 hlk os 0 (Array.replicate os.toArray.size false) a (by simp) (by simpa using hB'.2) h
  simpa using this
end
end Go.Proofs.YtjcdkbalhleeeaaGreatDoor
