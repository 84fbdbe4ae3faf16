/-
  Contracts of functions and plain laws that later parts of the proof use. The conditions stand in each theorem.
-/
import Derived.Test.YtjcdkbalhleeeaaGreatDoorG12
import Derived.Test.YtjcdkbalhleeeaaGreatDoorG13
import Derived.Test.YtjcdkbalhleeeaaGreatDoorG04
import Derived.Maps.Keyed
import Derived.Maps.RangeRun
import Derived.DeepKeys4
import Derived.WideKeyElems
namespace Go.Proofs.YtjcdkbalhleeeaaGreatDoor
open Go.RowKit
open Go.ChangeMaps (setBlock heap_setBlock_same heap_setBlock_other)
open Go.MapKept (Stamped)
open Go.Maps (Keyed)
open Go.WideMaps (KeyLaw)
theorem und_pieces : Tryz.prog.underlying 73 = some (.slice 79) := by kernel_rfl
theorem inf_piece : (Tryz.prog.info? 79).map (fun i => (i.zero, i.size, i.bytes)) = some (some (.agg #[.bool false, .int .i64 0, .int .i64 0, .bool false, .int .i64 0, .int .i64 0, .int .i64 0, .int .i64 0, .int .i64 0, .int .i64 0]), 10, 80) := by kernel_rfl
def pcC (x : PC) : List Value := [.bool x.fr.op, .int .i64 x.fr.n, .int .i64 x.fr.d, .bool x.to.op, .int .i64 x.to.n, .int .i64 x.to.d, .int .i64 x.bn, .int .i64 x.bd, .int .i64 x.sn, .int .i64 x.sd]
def pcsC : List PC → List Value
 | [] => []
 | x :: L => pcC x ++ pcsC L
theorem pcsC_app : ∀ (L M : List PC), pcsC (L ++ M) = pcsC L ++ pcsC M
 | [], M => rfl
 | x :: L, M => by rw [List.cons_append, pcsC, pcsC, pcsC_app L M, List.append_assoc]
theorem pcsC_at : ∀ {L : List PC} {i j : Nat} (hi : i < L.length), j < 10 → (pcsC L)[i * 10 + j]? = (pcC L[i])[j]?
 | x :: L, 0, j, _, hj => by
  rw [pcsC, List.getElem?_append_left (by simp [pcC]; omega)]
  simp
 | x :: L, i + 1, j, hi, hj => by
  rw [pcsC, List.getElem?_append_right (by simp [pcC]; omega)]
  have e : (i + 1) * 10 + j - (pcC x).length = i * 10 + j := by simp [pcC]; omega
  rw [e]
  exact pcsC_at (L := L) (i := i) (by simpa using hi) hj
def PcOwn (w : World) (base : Nat) (v : Value) (L : List PC) : Prop := w.ownsRow base 79 10 v L.length (pcsC L)
section
variable {w w' : World} {base : Nat} {v : Value} {L : List PC}
theorem PcOwn.nil (w : World) (base : Nat) : PcOwn w base (.slice none 0 0) [] := World.ownsRow_nil _ _ _ _
theorem PcOwn.below (h : PcOwn w base v L) (hb : Below w.heap.size w w') : PcOwn w' base v L := own_below h hb
theorem PcOwn.kept {row : Option Nat} (h : PcOwn w base v L) (hg : w.grownBy w' row) (hne : v.ownBlock = none ∨ v.ownBlock ≠ row) : PcOwn w' base v L := World.ownsRow.kept h hg hne
theorem PcOwn.mono {b' : Nat} (h : PcOwn w base v L) (hb : b' ≤ base) : PcOwn w b' v L := by
 refine ⟨h.1, ?_⟩
 rcases h.2 with q | ⟨g, cap, cur, e, h1, h2⟩
 ·exact .inl q
 ·exact .inr ⟨g, cap, cur, e, by omega, h2⟩
theorem PcOwn.some' (h : PcOwn w base v L) (h0 : 0 < L.length) : ∃ g cap, v = .slice (some ⟨g, 0, none⟩) L.length cap ∧ base ≤ g ∧ g < w.heap.size ∧ L.length ≤ cap ∧ cap ≤ 9223372036854775807 ∧ ∀ i (hi : i < L.length) j u, (pcC L[i])[j]? = some u → w.cell? ⟨g, i * 10 + j, none⟩ = some u := by
 have hown := h
 rcases h.2 with ⟨e, h1⟩ | ⟨g, cap, cur, e, h1, h2, h3, h4, _⟩
 ·omega
 ·subst e
  refine ⟨g, cap, rfl, h1, (Array.getElem?_eq_some_iff.1 h2).1, h3, by unfold maxLen at h4; omega, fun i hi j u hu => ?_⟩
  have hj : j < 10 := by have := (List.getElem?_eq_some_iff.1 hu).1; simpa [pcC] using this
  have := World.ownsRow.cells hown (g := g) rfl (i * 10 + j) u (by rw [pcsC_at hi hj]; exact hu)
  have e1 : ∀ q, (⟨g, 0, none⟩ : Addr).add q = ⟨g, q, none⟩ := fun q => by unfold Addr.add; split <;> simp_all
  rwa [e1] at this
structure PcAt (w : World) (g i : Nat) (x : PC) : Prop where
 c0 : w.cell? ⟨g, i * 10, none⟩ = some (.bool x.fr.op)
 c1 : w.cell? ⟨g, i * 10 + 1, none⟩ = some (.int .i64 x.fr.n)
 c2 : w.cell? ⟨g, i * 10 + 2, none⟩ = some (.int .i64 x.fr.d)
 c3 : w.cell? ⟨g, i * 10 + 3, none⟩ = some (.bool x.to.op)
 c4 : w.cell? ⟨g, i * 10 + 4, none⟩ = some (.int .i64 x.to.n)
 c5 : w.cell? ⟨g, i * 10 + 5, none⟩ = some (.int .i64 x.to.d)
 c6 : w.cell? ⟨g, i * 10 + 6, none⟩ = some (.int .i64 x.bn)
 c7 : w.cell? ⟨g, i * 10 + 7, none⟩ = some (.int .i64 x.bd)
 c8 : w.cell? ⟨g, i * 10 + 8, none⟩ = some (.int .i64 x.sn)
 c9 : w.cell? ⟨g, i * 10 + 9, none⟩ = some (.int .i64 x.sd)
theorem PcOwn.at_ (h : PcOwn w base v L) {i : Nat} (hi : i < L.length) : ∃ g cap, v = .slice (some ⟨g, 0, none⟩) L.length cap ∧ base ≤ g ∧ g < w.heap.size ∧ L.length ≤ cap ∧ cap ≤ 9223372036854775807 ∧ PcAt w g i L[i] := by
 obtain ⟨g, cap, e, h1, h2, h3, h4, hc⟩ := h.some' (by omega)
 refine ⟨g, cap, e, h1, h2, h3, h4, ?_⟩
 have hc' := hc i hi
 exact ⟨hc' 0 _ rfl, hc' 1 _ rfl, hc' 2 _ rfl, hc' 3 _ rfl, hc' 4 _ rfl, hc' 5 _ rfl, hc' 6 _ rfl, hc' 7 _ rfl, hc' 8 _ rfl, hc' 9 _ rfl⟩
end
section
variable {ops : Array Oper} {rest : List Oper} {o : Oper} {a : Act} {w : World} {Q : Exit → Act → World → Prop}
theorem list_appP (hgd : o.guard = none) (s x : Operand)
    (ho : o.op = .call { callee := .builtin .append, args := #[s, x], argTypes := #[73, 73] })
    (base : Nat) (v : Value) (L : List PC) (y : PC) (hs : a.eval s = v) (hown : PcOwn w base v L)
    (b c : Nat) (hx : a.eval x = .slice (some ⟨b, 0, none⟩) 1 c) (hb : ∀ (j : Nat) (u : Value), (pcC y)[j]? = some u → w.cell? ((⟨b, 0, none⟩ : Addr).add j) = some u)
    (hn : L.length ≤ 100000) (hbase : base ≤ w.heap.size)
    (h : ∀ g cap w', PcOwn w' base (.slice (some ⟨g, 0, none⟩) (L.length + 1) cap) (L ++ [y]) → w.grownBy w' v.ownBlock → (v.ownBlock = some g ∨ g = w.heap.size) → g < w'.heap.size → wpList Tryz.prog ops Q rest (a.put o.dst (.slice (some ⟨g, 0, none⟩) (L.length + 1) cap)) w') :
    wpList Tryz.prog ops Q (o :: rest) a w := by
 obtain ⟨i, hi, hz0, hz1, hz2⟩ := info_parts inf_piece
 refine wpList_append_lies w hgd s x 73 ho base 79 i _ 10 80 und_pieces hi hz0 hz1 hz2 rfl (by omega) v L.length (pcsC L) hs hown _ 1 c (pcC y) hx rfl hb ?_ (by omega) (by unfold maxLen; omega) (by omega) hbase _ rfl ?_
 ·intro u hu
  simp [pcC] at hu
  rcases hu with rfl | rfl | rfl | rfl | rfl | rfl | rfl | rfl | rfl | rfl <;> rfl
 ·intro g cap w' h1 h2 h3 h4
  refine h g cap w' ?_ h2 h3 h4
  unfold PcOwn
  rw [pcsC_app, List.length_append]
  simpa [pcsC] using h1
end
def lnV (x : PC) : Value := .agg #[.int .i64 x.bn, .int .i64 x.bd, .int .i64 x.sn, .int .i64 x.sd]
def wdV (a c : EN) : Value := .agg #[.bool a.op, .int .i64 a.n, .int .i64 a.d, .bool c.op, .int .i64 c.n, .int .i64 c.d]
def LnOK (x : PC) : Prop := (-1073741824 ≤ x.bn ∧ x.bn ≤ 1073741824) ∧ (-1073741824 ≤ x.bd ∧ x.bd ≤ 1073741824) ∧ (-1073741824 ≤ x.sn ∧ x.sn ≤ 1073741824) ∧ (-1073741824 ≤ x.sd ∧ x.sd ≤ 1073741824)
theorem lnV_iff {x y : PC} : lnV x = lnV y ↔ x.line = y.line := by simp [lnV, PC.line]
theorem ln_laid : laidOutB Tryz.prog = true := by kernel_rfl
theorem ln_row : (132 : TypeId) < Tryz.prog.types.size := of_decide_eq_true (by kernel_rfl)
theorem ln_wide : (match Tryz.prog.underlying 132 with | some (.array _ _) | some (.struct _) => true | _ => false) = true := by kernel_rfl
set_option maxRecDepth 100000 in
theorem ln_law : KeyLaw Tryz.prog 132 := deep_law_laid ln_laid (m := 3) (by omega) ln_row (by kernel_rfl) ln_wide
theorem ln_keyed : Keyed Tryz.prog 132 := Keyed.of_law ln_law
theorem ln_cells : Tryz.prog.cellsOf 132 = 4 := by kernel_rfl
theorem fr_cells : Tryz.prog.cellsOf 55 = 2 := by kernel_rfl
theorem i6_cells : Tryz.prog.cellsOf 2 = 1 := by kernel_rfl
theorem ln_type : Tryz.prog.keyType 132 = true := by kernel_rfl
theorem i64_wf {a : Int} (h : -1073741824 ≤ a ∧ a ≤ 1073741824) : (Lit.int .i64 a).wf = true := by
 simp [Lit.wf, IntKind.min, IntKind.max, IntKind.signed, IntKind.bits]; omega
theorem lnKey {x : PC} (h : LnOK x) : ∃ l, keyOf Tryz.prog 132 (lnV x) = some l := by
 obtain ⟨h1, h2, h3, h4⟩ := h
 obtain ⟨m, hm⟩ : ∃ m, Tryz.prog.types.size + 1 = m + 3 := ⟨Tryz.prog.types.size - 2, by
  have q : 5 < Tryz.prog.types.size := of_decide_eq_true (by kernel_rfl)
  omega⟩
 unfold keyOf
 rw [Tryz.underlying132, ln_type, hm]
 simp +decide [Value.formed, lnV, Tryz.underlying132, Tryz.underlying55, Tryz.underlying2, ln_cells, fr_cells, i6_cells, Program.keyLits, Value.cells, i64_wf h1, i64_wf h2, i64_wf h3, i64_wf h4]
def MapL (w : World) (b : Nat) (L : List PC) : Prop :=
 ∃ es clock, w.heap[b]? = some (.map es clock) ∧ Stamped es clock ∧ es.toList.map (fun e => (e.key, e.val)) = L.map (fun x => (lnV x, wdV x.fr x.to)) ∧ ∀ x ∈ L, LnOK x
section
variable {w w' : World} {b : Nat} {L : List PC}
theorem MapL.made (w : World) : MapL (w.alloc (.map #[] 0)) w.heap.size [] := ⟨#[], 0, (MapKept.heap_alloc w _).1, by simp [Stamped], rfl, by simp⟩
theorem MapL.keep (h : MapL w b L) (hb : w'.heap[b]? = w.heap[b]?) : MapL w' b L := by
 obtain ⟨es, cl, h1, h2⟩ := h
 exact ⟨es, cl, hb.trans h1, h2⟩
theorem MapL.lt (h : MapL w b L) : b < w.heap.size := by
 obtain ⟨es, cl, h1, h2⟩ := h
 exact (Array.getElem?_eq_some_iff.1 h1).1
theorem MapL.below (h : MapL w b L) (hb : Below w.heap.size w w') : MapL w' b L := h.keep (hb.block _ h.lt)
theorem mapL_keys {es : Array MapEntry} (h : es.toList.map (fun e => (e.key, e.val)) = L.map (fun x => (lnV x, wdV x.fr x.to))) (hL : ∀ x ∈ L, LnOK x) : ∀ e ∈ es.toList, ∃ l, keyOf Tryz.prog 132 e.key = some l := by
 intro e he
 have : (e.key, e.val) ∈ L.map (fun x => (lnV x, wdV x.fr x.to)) := by rw [← h]; exact List.mem_map.2 ⟨e, he, rfl⟩
 obtain ⟨x, hx, q⟩ := List.mem_map.1 this
 injection q with q1 q2
 rw [← q1]
 exact lnKey (hL x hx)
theorem mapL_at {es : Array MapEntry} (h : es.toList.map (fun e => (e.key, e.val)) = L.map (fun x => (lnV x, wdV x.fr x.to))) {j : Nat} {e : MapEntry} (hj : es.toList[j]? = some e) : ∃ x, L[j]? = some x ∧ e.key = lnV x ∧ e.val = wdV x.fr x.to := by
 have := congrArg (fun l => l[j]?) h
 simp only [List.getElem?_map, hj, Option.map_some] at this
 cases hx : L[j]? with
 | none => rw [hx] at this; simp at this
 | some x => rw [hx] at this; simp at this; exact ⟨x, rfl, this.1, this.2⟩
theorem wd_zero (w : World) : (zeroValue 134).run Tryz.prog w = .ok (wdV zeroE zeroE) w := by kernel_rfl
theorem MapL.look {x : PC} (h : MapL w b L) (hx : LnOK x) :
    ((∀ y ∈ L, y.line ≠ x.line) ∧ (Instr.lookup 129 (.map (some b)) (lnV x) true).run Tryz.prog w = .ok (.tuple #[wdV zeroE zeroE, .bool false]) w) ∨
    ∃ (j : Nat) (y : PC), L[j]? = some y ∧ y.line = x.line ∧ (Instr.lookup 129 (.map (some b)) (lnV x) true).run Tryz.prog w = .ok (.tuple #[wdV y.fr y.to, .bool true]) w := by
 obtain ⟨es, cl, hb, hst, hm, hL⟩ := h
 obtain ⟨kl, hkey⟩ := lnKey hx
 rcases ln_keyed.find w hkey es.toList (mapL_keys hm hL) with ⟨h1, h2⟩ | ⟨j, e0, h1, h2, h3⟩
 ·refine .inl ⟨fun y hy e => ?_, ?_⟩
  ·have : (lnV y, wdV y.fr y.to) ∈ es.toList.map (fun e => (e.key, e.val)) := by rw [hm]; exact List.mem_map.2 ⟨y, hy, rfl⟩
   obtain ⟨e1, he, q⟩ := List.mem_map.1 this
   injection q with q1 q2
   exact h2 e1 he (q1.trans (lnV_iff.2 e))
  ·simp [Instr.lookup, run_underlying Tryz.underlying129, MapKept.run_getObj_map hb, ln_keyed.check w _ hkey, h1, wd_zero, Result.andThen, wdV, zeroE]
 ·obtain ⟨y, hy, q1, q2⟩ := mapL_at hm h2
  refine .inr ⟨j, y, hy, lnV_iff.1 (q1.symm.trans h3), ?_⟩
  simp [Instr.lookup, run_underlying Tryz.underlying129, MapKept.run_getObj_map hb, ln_keyed.check w _ hkey, h1, q2, Result.andThen]
theorem MapL.new {x : PC} (h : MapL w b L) (hx : LnOK x) (hn : ∀ y ∈ L, y.line ≠ x.line) :
    ∃ o, (Instr.mapUpdate 129 (.map (some b)) (lnV x) (wdV x.fr x.to)).run Tryz.prog w = .ok () (setBlock w b o) ∧ MapL (setBlock w b o) b (L ++ [x]) := by
 obtain ⟨es, cl, hb, hst, hm, hL⟩ := h
 obtain ⟨kl, hkey⟩ := lnKey hx
 have hsz : es.size = L.length := by have := congrArg List.length hm; simpa using this
 rcases ln_keyed.find w hkey es.toList (mapL_keys hm hL) with ⟨h1, h2⟩ | ⟨j, e0, h1, h2, h3⟩
 ·refine ⟨.map (es.push ⟨lnV x, wdV x.fr x.to, cl⟩) (cl + 1), ?_, es.push ⟨lnV x, wdV x.fr x.to, cl⟩, cl + 1, heap_setBlock_same hb _, MapKept.stamped_push hst h2, ?_, ?_⟩
  ·simp [Instr.mapUpdate, run_underlying Tryz.underlying129, MapKept.run_getObj_map hb, ln_keyed.check w false hkey, h1, MapKept.run_setObj_map _ hb, Result.andThen, setBlock]
  ·simp [hm]
  ·intro y hy
   rcases List.mem_append.1 hy with q | q
   ·exact hL y q
   ·obtain rfl : y = x := by simpa using q
    exact hx
 ·obtain ⟨y, hy, q1, q2⟩ := mapL_at hm h2
  exact absurd (lnV_iff.1 (q1.symm.trans h3)) (hn y (List.mem_of_getElem? hy))
theorem MapL.old {x y : PC} {j : Nat} (h : MapL w b L) (hx : LnOK x) (hj : L[j]? = some y) (hy : y.line = x.line) :
    ∃ o, (Instr.mapUpdate 129 (.map (some b)) (lnV x) (wdV x.fr x.to)).run Tryz.prog w = .ok () (setBlock w b o) ∧ MapL (setBlock w b o) b (L.set j x) := by
 obtain ⟨es, cl, hb, hst, hm, hL⟩ := h
 obtain ⟨kl, hkey⟩ := lnKey hx
 rcases ln_keyed.find w hkey es.toList (mapL_keys hm hL) with ⟨h1, h2⟩ | ⟨i, e0, h1, h2, h3⟩
 ·exfalso
  have : (lnV y, wdV y.fr y.to) ∈ es.toList.map (fun e => (e.key, e.val)) := by rw [hm]; exact List.mem_map.2 ⟨y, List.mem_of_getElem? hj, rfl⟩
  obtain ⟨e1, he, q⟩ := List.mem_map.1 this
  injection q with q1 q2
  exact h2 e1 he (q1.trans (lnV_iff.2 hy))
 ·obtain ⟨z, hz, q1, q2⟩ := mapL_at hm h2
  have hnd : (L.map lnV).Nodup := by
   have e : es.toList.map (·.key) = L.map lnV := by
    have := congrArg (List.map Prod.fst) hm
    simpa [Function.comp_def] using this
   rw [← e]; exact hst.2.2
  have hij : i = j := by
   have g1 : (L.map lnV)[i]? = some (lnV x) := by simp [hz, q1.symm.trans h3]
   have g2 : (L.map lnV)[j]? = some (lnV x) := by simp [hj, lnV_iff.2 hy]
   exact (List.getElem?_inj (List.getElem?_eq_some_iff.1 g1).1 hnd).1 (g1.trans g2.symm)
  subst hij
  have hei : es[i]? = some e0 := by simpa using h2
  have hkeyf : ∀ e', es[i]? = some e' → ({ e' with key := lnV x, val := wdV x.fr x.to } : MapEntry).key = e'.key := fun e' he' => by rw [hei] at he'; cases he'; exact h3.symm
  have hlist : (es.modify i (fun e' => { e' with key := lnV x, val := wdV x.fr x.to })).toList = es.toList.set i { e0 with key := lnV x, val := wdV x.fr x.to } := by rw [Array.toList_modify, Go.ChangeMaps.modify_eq_set _ _ _ _ h2]
  refine ⟨.map (es.modify i (fun e' => { e' with key := lnV x, val := wdV x.fr x.to })) cl, ?_, _, cl, heap_setBlock_same hb _, MapKept.stamped_modify hst _ _ (fun _ _ => rfl) (fun e' _ he' => hkeyf e' he'), ?_, ?_⟩
  ·simp [Instr.mapUpdate, run_underlying Tryz.underlying129, MapKept.run_getObj_map hb, ln_keyed.check w false hkey, h1, hei, h3, ln_keyed.stays w hkey, MapKept.run_setObj_map _ hb, Result.andThen, setBlock]
  ·rw [hlist, List.map_set, hm, List.map_set]
  ·intro u hu
   rcases List.mem_or_eq_of_mem_set hu with q | q
   ·exact hL u q
   ·subst q; exact hx
theorem MapL.apart (h : MapL w b L) : L.Pairwise (fun x y => x.line ≠ y.line) := by
 obtain ⟨es, cl, hb, hst, hm, hL⟩ := h
 have e : es.toList.map (·.key) = L.map lnV := by
  have := congrArg (List.map Prod.fst) hm
  simpa [Function.comp_def] using this
 have hn := hst.2.2
 rw [e, List.Nodup, List.pairwise_map] at hn
 exact hn.imp fun h q => h (lnV_iff.2 q)
def MapR (w : World) (b r : Nat) (L left : List PC) : Prop :=
 ∃ es clock since seen c0, w.heap[b]? = some (.map es clock) ∧ w.heap[r]? = some (.mapIter (some b) since seen c0) ∧ Stamped es clock ∧ (∀ x ∈ es.toList, x.born < since) ∧ since ≤ c0 ∧ since ≤ clock ∧
  es.toList.map (fun e => (e.key, e.val)) = L.map (fun x => (lnV x, wdV x.fr x.to)) ∧ (leftOf es seen).toList.map (fun e => (e.key, e.val)) = left.map (fun x => (lnV x, wdV x.fr x.to))
theorem MapL.range (h : MapL w b L) :
    (Instr.range 129 (.map (some b))).run Tryz.prog w = .ok (.pointer (some ⟨w.heap.size, 0, none⟩)) (w.alloc (.mapIter (some b) (match w.heap[b]? with | some (.map _ c) => c | _ => 0) #[] (match w.heap[b]? with | some (.map _ c) => c | _ => 0))) ∧
     MapR (w.alloc (.mapIter (some b) (match w.heap[b]? with | some (.map _ c) => c | _ => 0) #[] (match w.heap[b]? with | some (.map _ c) => c | _ => 0))) b w.heap.size L L := by
 have hlt := h.lt
 obtain ⟨es, cl, hb, hst, hm, hL⟩ := h
 have e : (match w.heap[b]? with | some (.map _ c) => c | _ => 0) = cl := by rw [hb]
 rw [e]
 refine ⟨run_range_map w _ _ _ b es cl Tryz.underlying129 hb, es, cl, cl, #[], cl, ((MapKept.heap_alloc w _).2 b hlt).trans hb, (MapKept.heap_alloc w _).1, hst, hst.1, Nat.le_refl _, Nat.le_refl _, hm, ?_⟩
 have e3 : (leftOf es #[]).toList = es.toList := by
  simp only [leftOf, Array.toList_filter]
  rw [List.filter_eq_self]
  intro x _
  simp
 rw [e3]; exact hm
theorem MapR.keep {r : Nat} {left : List PC} (h : MapR w b r L left) (h1 : w'.heap[b]? = w.heap[b]?) (h2 : w'.heap[r]? = w.heap[r]?) : MapR w' b r L left := by
 obtain ⟨es, cl, since, seen, c0, a1, a2, h3⟩ := h
 exact ⟨es, cl, since, seen, c0, h1.trans a1, h2.trans a2, h3⟩
theorem MapR.lt {r : Nat} {left : List PC} (h : MapR w b r L left) : b < w.heap.size ∧ r < w.heap.size ∧ r ≠ b := by
 obtain ⟨es, cl, since, seen, c0, a1, a2, h3⟩ := h
 refine ⟨(Array.getElem?_eq_some_iff.1 a1).1, (Array.getElem?_eq_some_iff.1 a2).1, fun e => ?_⟩
 rw [e, a1] at a2; cases a2
theorem MapR.below {r : Nat} {left : List PC} (h : MapR w b r L left) (hb : Below w.heap.size w w') : MapR w' b r L left := h.keep (hb.block _ h.lt.1) (hb.block _ h.lt.2.1)
theorem left_push {es : Array MapEntry} {seen : Array Nat} {e : MapEntry} (hn : (es.toList.map (·.born)).Nodup) (he : e ∈ (leftOf es seen).toList) :
    ∃ l1 l2, (leftOf es seen).toList = l1 ++ e :: l2 ∧ (leftOf es (seen.push e.born)).toList = l1 ++ l2 := by
 have hsub : ((leftOf es seen).toList.map (·.born)).Nodup := by
  refine hn.sublist (List.Sublist.map _ ?_)
  simp [leftOf]
 have e2 : (leftOf es (seen.push e.born)).toList = (leftOf es seen).toList.filter (fun x => !(x.born == e.born)) := by
  simp only [leftOf, Array.toList_filter, List.filter_filter]
  apply List.filter_congr
  intro x _
  rw [contains_push]
  cases seen.contains x.born <;> cases (x.born == e.born) <;> rfl
 obtain ⟨l1, l2, q⟩ := List.append_of_mem he
 refine ⟨l1, l2, q, ?_⟩
 rw [e2, q, List.filter_append, List.filter_cons]
 rw [q] at hsub
 simp only [List.map_append, List.map_cons] at hsub
 obtain ⟨n1, n2, n3⟩ := List.nodup_append.1 hsub
 obtain ⟨n4, n5⟩ := List.nodup_cons.1 n2
 have f1 : l1.filter (fun x => !(x.born == e.born)) = l1 := by
  rw [List.filter_eq_self]
  intro x hx
  have : x.born ≠ e.born := n3 _ (List.mem_map.2 ⟨x, hx, rfl⟩) _ (by simp)
  simpa using this
 have f2 : l2.filter (fun x => !(x.born == e.born)) = l2 := by
  rw [List.filter_eq_self]
  intro x hx
  have : x.born ≠ e.born := fun q => n4 (List.mem_map.2 ⟨x, hx, q⟩)
  simpa using this
 simp [f1, f2]
theorem MapR.next {r : Nat} {left : List PC} (h : MapR w b r L left) (ty : TypeId) :
    (left = [] ∧ (Instr.next (.pointer (some ⟨r, 0, none⟩)) false ty).run Tryz.prog w = .ok (.tuple #[.bool false]) w) ∨
    ∃ l1 x l2 w', left = l1 ++ x :: l2 ∧ (Instr.next (.pointer (some ⟨r, 0, none⟩)) false ty).run Tryz.prog w = .ok (.tuple #[.bool true, lnV x, wdV x.fr x.to]) w' ∧ MapR w' b r L (l1 ++ l2) ∧ w.grownBy w' (some r) ∧ w'.heap.size = w.heap.size ∧
     (Instr.entry (.pointer (some ⟨r, 0, none⟩))).run Tryz.prog w' = .ok (.tuple #[lnV x, wdV x.fr x.to]) w' := by
 have hlt := h.lt
 obtain ⟨es, cl, since, seen, c0, hb, hr, hst, hold, hsc, hscl, hm, hl⟩ := h
 rcases run_next_at (P := Tryz.prog) w ty r b since c0 seen es cl hr hb hold hsc with ⟨h0, hrun⟩ | ⟨e, he, w1, hw1, hrun⟩
 ·refine .inl ⟨?_, hrun⟩
  have : left.length = 0 := by have := congrArg List.length hl; simp at this; omega
  exact List.eq_nil_of_length_eq_zero this
 ·right
  obtain ⟨m1, m2, q1, q2⟩ := left_push hst.2.1 he
  rw [q1, List.map_append, List.map_cons] at hl
  obtain ⟨l1, l3, rfl, g1, g2⟩ := List.map_eq_append_iff.1 hl.symm
  obtain ⟨x, l2, rfl, g3, g4⟩ := List.map_eq_cons_iff.1 g2
  injection g3 with g5 g6
  rw [← g5, ← g6] at hrun
  have hb1 : w1.heap[b]? = some (.map es cl) := by rcases hw1 with rfl | rfl <;> exact hb
  have hr1 : w1.heap[r]? = some (.mapIter (some b) since seen c0) := by rcases hw1 with rfl | rfl <;> exact hr
  have hr2 : (setBlock w1 r (.mapIter (some b) since (seen.push e.born) cl)).heap[r]? = some (.mapIter (some b) since (seen.push e.born) cl) := by
   have : r < w1.heap.size := (Array.getElem?_eq_some_iff.1 hr1).1
   simp [setBlock, this]
  have hb2 : (setBlock w1 r (.mapIter (some b) since (seen.push e.born) cl)).heap[b]? = some (.map es cl) := by
   have : (setBlock w1 r (.mapIter (some b) since (seen.push e.born) cl)).heap[b]? = w1.heap[b]? := by
    simp only [setBlock]
    rw [Array.getElem?_setIfInBounds_ne]
    exact hlt.2.2
   rw [this]
   exact hb1
  refine ⟨l1, x, l2, _, rfl, hrun, ⟨es, cl, since, seen.push e.born, cl, hb2, hr2, hst, hold, hscl, hscl, hm, ?_⟩, ?_, ?_, ?_⟩
  ·rw [q2, List.map_append, List.map_append, g1, g4]
  ·have hg : w.grownBy w1 (some r) := by
     rcases hw1 with rfl | rfl
     ·exact ⟨rfl, rfl, rfl, Nat.le_refl _, fun _ _ _ => rfl⟩
     ·exact ⟨rfl, rfl, rfl, Nat.le_refl _, fun _ _ _ => rfl⟩
   refine ⟨hg.os, hg.tape, hg.output, by simpa [setBlock] using hg.size, fun i hi hne => ?_⟩
   have : (setBlock w1 r (.mapIter (some b) since (seen.push e.born) cl)).heap[i]? = w1.heap[i]? := by
    simp only [setBlock]
    rw [Array.getElem?_setIfInBounds_ne]
    exact fun q => hne (by rw [q])
   exact this.trans (hg.block i hi hne)
  ·rcases hw1 with rfl | rfl <;> simp [setBlock]
  ·have := run_entry_at (P := Tryz.prog) _ r b since seen es cl e hr2 hb2 (mem_left he).1 hst.2.1
   rw [← g5, ← g6] at this
   exact this
end
theorem join_new {lo hi : EN → EN → EN} {x : PC} : ∀ {L : List PC}, (∀ y ∈ L, y.line ≠ x.line) → joinG lo hi L x = L ++ [x]
 | [], _ => rfl
 | y :: L, h => by
  rw [joinG, if_neg (h y (by simp)), join_new fun z hz => h z (by simp [hz])]; rfl
theorem join_old {lo hi : EN → EN → EN} {x y : PC} : ∀ {L : List PC} {j : Nat}, L.Pairwise (fun x y => x.line ≠ y.line) → L[j]? = some y → y.line = x.line → joinG lo hi L x = L.set j ⟨lo y.fr x.fr, hi y.to x.to, x.bn, x.bd, x.sn, x.sd⟩
 | z :: L, 0, _, h, e => by
  obtain rfl : z = y := by simpa using h
  rw [joinG, if_pos e]
  simp [PC.line] at e
  simp [e]
 | z :: L, j + 1, hp, h, e => by
  have h' : L[j]? = some y := by simpa using h
  have hne : z.line ≠ x.line := fun q => (List.pairwise_cons.1 hp).1 y (List.mem_of_getElem? h') (q.trans e.symm)
  rw [joinG, if_neg hne, join_old (List.pairwise_cons.1 hp).2 h' e]; rfl
end Go.Proofs.YtjcdkbalhleeeaaGreatDoor
