/-
  Contracts of functions and plain laws that later parts of the proof use. The conditions stand in each theorem.
-/
import Derived.Test.YtjcdkbalhleeeabG06
import Derived.Test.YtjcdkbalhleeeabG08
import Derived.Test.YtjcdkbalhleeeabG05
import Derived.Maps.Keyed
import Derived.Maps.RangeRun
import Derived.DeepKeys4
import Derived.WideKeyElems
import Derived.Deep.DeepCutAuto
import Derived.RangeFuncNested
import Derived.RangeFuncLeaves
import Derived.RangeFuncCalls
import Derived.RangeFuncBound
import Derived.Below
namespace Go.Proofs.Ytjcdkbalhleeeab
open Go.RowKit
open Go.ChangeMaps (setBlock heap_setBlock_same heap_setBlock_other)
open Go.MapKept (Stamped)
open Go.Maps (Keyed)
open Go.WideMaps (KeyLaw)

theorem und_pieces : Try.prog.underlying 49 = some (.slice 73) := by kernel_rfl
theorem inf_piece : (Try.prog.info? 73).map (fun i => (i.zero, i.size, i.bytes)) = some (some (.agg #[.bool false, .int .i64 0, .int .i64 0, .bool false, .int .i64 0, .int .i64 0, .int .i64 0, .int .i64 0, .int .i64 0, .int .i64 0]), 10, 80) := by kernel_rfl
/-- A piece's cells. -/
def pcC (x : PC) : List Value := [.bool x.fr.op, .int .i64 x.fr.n, .int .i64 x.fr.d, .bool x.to.op, .int .i64 x.to.n, .int .i64 x.to.d, .int .i64 x.bn, .int .i64 x.bd, .int .i64 x.sn, .int .i64 x.sd]
def pcsC : List PC → List Value
  | [] => []
  | x :: L => pcC x ++ pcsC L
theorem pcsC_len : ∀ L : List PC, (pcsC L).length = L.length * 10
  | [] => rfl
  | x :: L => by rw [pcsC, List.length_append, pcsC_len L]; simp [pcC]; omega
theorem pcsC_app : ∀ (L M : List PC), pcsC (L ++ M) = pcsC L ++ pcsC M
  | [], M => rfl
  | x :: L, M => by rw [List.cons_append, pcsC, pcsC, pcsC_app L M, List.append_assoc]
theorem pcsC_at : ∀ {L : List PC} {i j : Nat} (hi : i < L.length), j < 10 → (pcsC L)[i * 10 + j]? = (pcC L[i])[j]?
  | x :: L, 0, j, _, hj => by
    rw [pcsC, List.getElem?_append_left (by simp [pcC]; omega)]
    simp
  | x :: L, i + 1, j, hi, hj => by
    rw [pcsC, List.getElem?_append_right (by simp [pcC]; omega)]
    have e : (i + 1) * 10 + j - (pcC x).length = i * 10 + j := by simp [pcC]; omega
    rw [e]
    exact pcsC_at (L := L) (i := i) (by simpa using hi) hj

/-- The call's own slice of pieces. -/
def PcOwn (w : World) (base : Nat) (v : Value) (L : List PC) : Prop := w.ownsRow base 73 10 v L.length (pcsC L)
section
variable {w w' : World} {base : Nat} {v : Value} {L : List PC}
theorem PcOwn.nil (w : World) (base : Nat) : PcOwn w base (.slice none 0 0) [] := World.ownsRow_nil _ _ _ _
theorem PcOwn.below (h : PcOwn w base v L) (hb : Below w.heap.size w w') : PcOwn w' base v L := own_below h hb
theorem PcOwn.kept {row : Option Nat} (h : PcOwn w base v L) (hg : w.grownBy w' row) (hne : v.ownBlock = none ∨ v.ownBlock ≠ row) : PcOwn w' base v L := World.ownsRow.kept h hg hne
theorem PcOwn.mono {b' : Nat} (h : PcOwn w base v L) (hb : b' ≤ base) : PcOwn w b' v L := by
  refine ⟨h.1, ?_⟩
  rcases h.2 with q | ⟨g, cap, cur, e, h1, h2⟩
  · exact .inl q
  · exact .inr ⟨g, cap, cur, e, by omega, h2⟩
/-- What it is, of some. -/
theorem PcOwn.some' (h : PcOwn w base v L) (h0 : 0 < L.length) : ∃ g cap, v = .slice (some ⟨g, 0, none⟩) L.length cap ∧ base ≤ g ∧ g < w.heap.size ∧ L.length ≤ cap ∧ cap ≤ 9223372036854775807 ∧ ∀ i (hi : i < L.length) j u, (pcC L[i])[j]? = some u → w.cell? ⟨g, i * 10 + j, none⟩ = some u := by
  have hown := h
  rcases h.2 with ⟨e, h1⟩ | ⟨g, cap, cur, e, h1, h2, h3, h4, _⟩
  · omega
  · subst e
    refine ⟨g, cap, rfl, h1, (Array.getElem?_eq_some_iff.1 h2).1, h3, by unfold maxLen at h4; omega, fun i hi j u hu => ?_⟩
    have hj : j < 10 := by have := (List.getElem?_eq_some_iff.1 hu).1; simpa [pcC] using this
    have := World.ownsRow.cells hown (g := g) rfl (i * 10 + j) u (by rw [pcsC_at hi hj]; exact hu)
    have e1 : ∀ q, (⟨g, 0, none⟩ : Addr).add q = ⟨g, q, none⟩ := fun q => by unfold Addr.add; split <;> simp_all
    rwa [e1] at this
/-- The ten cells of one. -/
structure PcAt (w : World) (g i : Nat) (x : PC) : Prop where
  c0 : w.cell? ⟨g, i * 10, none⟩ = some (.bool x.fr.op)
  c1 : w.cell? ⟨g, i * 10 + 1, none⟩ = some (.int .i64 x.fr.n)
  c2 : w.cell? ⟨g, i * 10 + 2, none⟩ = some (.int .i64 x.fr.d)
  c3 : w.cell? ⟨g, i * 10 + 3, none⟩ = some (.bool x.to.op)
  c4 : w.cell? ⟨g, i * 10 + 4, none⟩ = some (.int .i64 x.to.n)
  c5 : w.cell? ⟨g, i * 10 + 5, none⟩ = some (.int .i64 x.to.d)
  c6 : w.cell? ⟨g, i * 10 + 6, none⟩ = some (.int .i64 x.bn)
  c7 : w.cell? ⟨g, i * 10 + 7, none⟩ = some (.int .i64 x.bd)
  c8 : w.cell? ⟨g, i * 10 + 8, none⟩ = some (.int .i64 x.sn)
  c9 : w.cell? ⟨g, i * 10 + 9, none⟩ = some (.int .i64 x.sd)
theorem PcOwn.at_ (h : PcOwn w base v L) {i : Nat} (hi : i < L.length) : ∃ g cap, v = .slice (some ⟨g, 0, none⟩) L.length cap ∧ base ≤ g ∧ g < w.heap.size ∧ L.length ≤ cap ∧ cap ≤ 9223372036854775807 ∧ PcAt w g i L[i] := by
  obtain ⟨g, cap, e, h1, h2, h3, h4, hc⟩ := h.some' (by omega)
  refine ⟨g, cap, e, h1, h2, h3, h4, ?_⟩
  have hc' := hc i hi
  exact ⟨hc' 0 _ rfl, hc' 1 _ rfl, hc' 2 _ rfl, hc' 3 _ rfl, hc' 4 _ rfl, hc' 5 _ rfl, hc' 6 _ rfl, hc' 7 _ rfl, hc' 8 _ rfl, hc' 9 _ rfl⟩
end
section
variable {ops : Array Oper} {rest : List Oper} {o : Oper} {a : Act} {w : World} {Q : Exit → Act → World → Prop}
/-- One more piece behind. -/
theorem list_appP (hgd : o.guard = none) (s x : Operand)
    (ho : o.op = .call { callee := .builtin .append, args := #[s, x], argTypes := #[49, 49] })
    (base : Nat) (v : Value) (L : List PC) (y : PC) (hs : a.eval s = v) (hown : PcOwn w base v L)
    (b c : Nat) (hx : a.eval x = .slice (some ⟨b, 0, none⟩) 1 c) (hb : ∀ (j : Nat) (u : Value), (pcC y)[j]? = some u → w.cell? ((⟨b, 0, none⟩ : Addr).add j) = some u)
    (hn : L.length ≤ 100000) (hbase : base ≤ w.heap.size)
    (h : ∀ g cap w', PcOwn w' base (.slice (some ⟨g, 0, none⟩) (L.length + 1) cap) (L ++ [y]) → w.grownBy w' v.ownBlock → (v.ownBlock = some g ∨ g = w.heap.size) → g < w'.heap.size → wpList Try.prog ops Q rest (a.put o.dst (.slice (some ⟨g, 0, none⟩) (L.length + 1) cap)) w') :
    wpList Try.prog ops Q (o :: rest) a w := by
  obtain ⟨i, hi, hz0, hz1, hz2⟩ := info_parts inf_piece
  refine wpList_append_lies w hgd s x 49 ho base 73 i _ 10 80 und_pieces hi hz0 hz1 hz2 rfl (by omega) v L.length (pcsC L) hs hown _ 1 c (pcC y) hx rfl hb ?_ (by omega) (by unfold maxLen; omega) (by omega) hbase _ rfl ?_
  · intro u hu
    simp [pcC] at hu
    rcases hu with rfl | rfl | rfl | rfl | rfl | rfl | rfl | rfl | rfl | rfl <;> rfl
  · intro g cap w' h1 h2 h3 h4
    refine h g cap w' ?_ h2 h3 h4
    unfold PcOwn
    rw [pcsC_app, List.length_append]
    simpa [pcsC] using h1
end

/-- A line as a key, a span as what it has. -/
def lnV (x : PC) : Value := .agg #[.int .i64 x.bn, .int .i64 x.bd, .int .i64 x.sn, .int .i64 x.sd]
def wdV (a c : EN) : Value := .agg #[.bool a.op, .int .i64 a.n, .int .i64 a.d, .bool c.op, .int .i64 c.n, .int .i64 c.d]
def LnOK (x : PC) : Prop := (-1073741824 ≤ x.bn ∧ x.bn ≤ 1073741824) ∧ (-1073741824 ≤ x.bd ∧ x.bd ≤ 1073741824) ∧ (-1073741824 ≤ x.sn ∧ x.sn ≤ 1073741824) ∧ (-1073741824 ≤ x.sd ∧ x.sd ≤ 1073741824)
theorem lnV_iff {x y : PC} : lnV x = lnV y ↔ x.line = y.line := by simp [lnV, PC.line]
theorem ln_laid : laidOutB Try.prog = true := by kernel_rfl
theorem ln_row : (102 : TypeId) < Try.prog.types.size := of_decide_eq_true (by kernel_rfl)
theorem ln_wide : (match Try.prog.underlying 102 with | some (.array _ _) | some (.struct _) => true | _ => false) = true := by kernel_rfl
set_option maxRecDepth 100000 in
theorem ln_law : KeyLaw Try.prog 102 := deep_law_laid ln_laid (m := 3) (by omega) ln_row (by kernel_rfl) ln_wide
theorem ln_keyed : Keyed Try.prog 102 := Keyed.of_law ln_law
theorem ln_cells : Try.prog.cellsOf 102 = 4 := by kernel_rfl
theorem fr_cells : Try.prog.cellsOf 38 = 2 := by kernel_rfl
theorem i6_cells : Try.prog.cellsOf 2 = 1 := by kernel_rfl
theorem ln_type : Try.prog.keyType 102 = true := by kernel_rfl
theorem i64_wf {a : Int} (h : -1073741824 ≤ a ∧ a ≤ 1073741824) : (Lit.int .i64 a).wf = true := by
  simp [Lit.wf, IntKind.min, IntKind.max, IntKind.signed, IntKind.bits]; omega
theorem lnKey {x : PC} (h : LnOK x) : ∃ l, keyOf Try.prog 102 (lnV x) = some l := by
  obtain ⟨h1, h2, h3, h4⟩ := h
  obtain ⟨m, hm⟩ : ∃ m, Try.prog.types.size + 1 = m + 3 := ⟨Try.prog.types.size - 2, by
    have q : 5 < Try.prog.types.size := of_decide_eq_true (by kernel_rfl)
    omega⟩
  unfold keyOf
  rw [Try.underlying102, ln_type, hm]
  simp +decide [Value.formed, lnV, Try.underlying102, Try.underlying38, Try.underlying2, ln_cells, fr_cells, i6_cells, Program.keyLits, Value.cells, i64_wf h1, i64_wf h2, i64_wf h3, i64_wf h4]

/-- Block b is a map of these lines, each with where it is, in this order. -/
def MapL (w : World) (b : Nat) (L : List PC) : Prop :=
  ∃ es clock, w.heap[b]? = some (.map es clock) ∧ Stamped es clock ∧ es.toList.map (fun e => (e.key, e.val)) = L.map (fun x => (lnV x, wdV x.fr x.to)) ∧ ∀ x ∈ L, LnOK x
section
variable {w w' : World} {b : Nat} {L : List PC}
theorem MapL.made (w : World) : MapL (w.alloc (.map #[] 0)) w.heap.size [] := ⟨#[], 0, (MapKept.heap_alloc w _).1, by simp [Stamped], rfl, by simp⟩
theorem MapL.keep (h : MapL w b L) (hb : w'.heap[b]? = w.heap[b]?) : MapL w' b L := by
  obtain ⟨es, cl, h1, h2⟩ := h
  exact ⟨es, cl, hb.trans h1, h2⟩
theorem MapL.lt (h : MapL w b L) : b < w.heap.size := by
  obtain ⟨es, cl, h1, h2⟩ := h
  exact (Array.getElem?_eq_some_iff.1 h1).1
theorem MapL.below (h : MapL w b L) (hb : Below w.heap.size w w') : MapL w' b L := h.keep (hb.block _ h.lt)
theorem mapL_keys {es : Array MapEntry} (h : es.toList.map (fun e => (e.key, e.val)) = L.map (fun x => (lnV x, wdV x.fr x.to))) (hL : ∀ x ∈ L, LnOK x) : ∀ e ∈ es.toList, ∃ l, keyOf Try.prog 102 e.key = some l := by
  intro e he
  have : (e.key, e.val) ∈ L.map (fun x => (lnV x, wdV x.fr x.to)) := by rw [← h]; exact List.mem_map.2 ⟨e, he, rfl⟩
  obtain ⟨x, hx, q⟩ := List.mem_map.1 this
  injection q with q1 q2
  rw [← q1]
  exact lnKey (hL x hx)
theorem mapL_at {es : Array MapEntry} (h : es.toList.map (fun e => (e.key, e.val)) = L.map (fun x => (lnV x, wdV x.fr x.to))) {j : Nat} {e : MapEntry} (hj : es.toList[j]? = some e) : ∃ x, L[j]? = some x ∧ e.key = lnV x ∧ e.val = wdV x.fr x.to := by
  have := congrArg (fun l => l[j]?) h
  simp only [List.getElem?_map, hj, Option.map_some] at this
  cases hx : L[j]? with
  | none => rw [hx] at this; simp at this
  | some x => rw [hx] at this; simp at this; exact ⟨x, rfl, this.1, this.2⟩
theorem wd_zero (w : World) : (zeroValue 104).run Try.prog w = .ok (wdV zeroE zeroE) w := by kernel_rfl
/-- 'was, ok := m[l]'. -/
theorem MapL.look {x : PC} (h : MapL w b L) (hx : LnOK x) :
    ((∀ y ∈ L, y.line ≠ x.line) ∧ (Instr.lookup 99 (.map (some b)) (lnV x) true).run Try.prog w = .ok (.tuple #[wdV zeroE zeroE, .bool false]) w) ∨
    ∃ (j : Nat) (y : PC), L[j]? = some y ∧ y.line = x.line ∧ (Instr.lookup 99 (.map (some b)) (lnV x) true).run Try.prog w = .ok (.tuple #[wdV y.fr y.to, .bool true]) w := by
  obtain ⟨es, cl, hb, hst, hm, hL⟩ := h
  obtain ⟨kl, hkey⟩ := lnKey hx
  rcases ln_keyed.find w hkey es.toList (mapL_keys hm hL) with ⟨h1, h2⟩ | ⟨j, e0, h1, h2, h3⟩
  · refine .inl ⟨fun y hy e => ?_, ?_⟩
    · have : (lnV y, wdV y.fr y.to) ∈ es.toList.map (fun e => (e.key, e.val)) := by rw [hm]; exact List.mem_map.2 ⟨y, hy, rfl⟩
      obtain ⟨e1, he, q⟩ := List.mem_map.1 this
      injection q with q1 q2
      exact h2 e1 he (q1.trans (lnV_iff.2 e))
    · simp [Instr.lookup, run_underlying Try.underlying99, MapKept.run_getObj_map hb, ln_keyed.check w _ hkey, h1, wd_zero, Result.andThen, wdV, zeroE]
  · obtain ⟨y, hy, q1, q2⟩ := mapL_at hm h2
    refine .inr ⟨j, y, hy, lnV_iff.1 (q1.symm.trans h3), ?_⟩
    simp [Instr.lookup, run_underlying Try.underlying99, MapKept.run_getObj_map hb, ln_keyed.check w _ hkey, h1, q2, Result.andThen]
/-- 'm[l] = ..', of a line that is not there. -/
theorem MapL.new {x : PC} (h : MapL w b L) (hx : LnOK x) (hn : ∀ y ∈ L, y.line ≠ x.line) :
    ∃ o, (Instr.mapUpdate 99 (.map (some b)) (lnV x) (wdV x.fr x.to)).run Try.prog w = .ok () (setBlock w b o) ∧ MapL (setBlock w b o) b (L ++ [x]) := by
  obtain ⟨es, cl, hb, hst, hm, hL⟩ := h
  obtain ⟨kl, hkey⟩ := lnKey hx
  have hsz : es.size = L.length := by have := congrArg List.length hm; simpa using this
  rcases ln_keyed.find w hkey es.toList (mapL_keys hm hL) with ⟨h1, h2⟩ | ⟨j, e0, h1, h2, h3⟩
  · refine ⟨.map (es.push ⟨lnV x, wdV x.fr x.to, cl⟩) (cl + 1), ?_, es.push ⟨lnV x, wdV x.fr x.to, cl⟩, cl + 1, heap_setBlock_same hb _, MapKept.stamped_push hst h2, ?_, ?_⟩
    · simp [Instr.mapUpdate, run_underlying Try.underlying99, MapKept.run_getObj_map hb, ln_keyed.check w false hkey, h1, MapKept.run_setObj_map _ hb, Result.andThen, setBlock]
    · simp [hm]
    · intro y hy
      rcases List.mem_append.1 hy with q | q
      · exact hL y q
      · obtain rfl : y = x := by simpa using q
        exact hx
  · obtain ⟨y, hy, q1, q2⟩ := mapL_at hm h2
    exact absurd (lnV_iff.1 (q1.symm.trans h3)) (hn y (List.mem_of_getElem? hy))
/-- 'm[l] = ..', of a line that is there. -/
theorem MapL.old {x y : PC} {j : Nat} (h : MapL w b L) (hx : LnOK x) (hj : L[j]? = some y) (hy : y.line = x.line) :
    ∃ o, (Instr.mapUpdate 99 (.map (some b)) (lnV x) (wdV x.fr x.to)).run Try.prog w = .ok () (setBlock w b o) ∧ MapL (setBlock w b o) b (L.set j x) := by
  obtain ⟨es, cl, hb, hst, hm, hL⟩ := h
  obtain ⟨kl, hkey⟩ := lnKey hx
  rcases ln_keyed.find w hkey es.toList (mapL_keys hm hL) with ⟨h1, h2⟩ | ⟨i, e0, h1, h2, h3⟩
  · exfalso
    have : (lnV y, wdV y.fr y.to) ∈ es.toList.map (fun e => (e.key, e.val)) := by rw [hm]; exact List.mem_map.2 ⟨y, List.mem_of_getElem? hj, rfl⟩
    obtain ⟨e1, he, q⟩ := List.mem_map.1 this
    injection q with q1 q2
    exact h2 e1 he (q1.trans (lnV_iff.2 hy))
  · obtain ⟨z, hz, q1, q2⟩ := mapL_at hm h2
    have hnd : (L.map lnV).Nodup := by
      have e : es.toList.map (·.key) = L.map lnV := by
        have := congrArg (List.map Prod.fst) hm
        simpa [Function.comp_def] using this
      rw [← e]; exact hst.2.2
    have hij : i = j := by
      have g1 : (L.map lnV)[i]? = some (lnV x) := by simp [hz, q1.symm.trans h3]
      have g2 : (L.map lnV)[j]? = some (lnV x) := by simp [hj, lnV_iff.2 hy]
      exact (List.getElem?_inj (List.getElem?_eq_some_iff.1 g1).1 hnd).1 (g1.trans g2.symm)
    subst hij
    have hei : es[i]? = some e0 := by simpa using h2
    have hkeyf : ∀ e', es[i]? = some e' → ({ e' with key := lnV x, val := wdV x.fr x.to } : MapEntry).key = e'.key := fun e' he' => by rw [hei] at he'; cases he'; exact h3.symm
    have hlist : (es.modify i (fun e' => { e' with key := lnV x, val := wdV x.fr x.to })).toList = es.toList.set i { e0 with key := lnV x, val := wdV x.fr x.to } := by rw [Array.toList_modify, Go.ChangeMaps.modify_eq_set _ _ _ _ h2]
    refine ⟨.map (es.modify i (fun e' => { e' with key := lnV x, val := wdV x.fr x.to })) cl, ?_, _, cl, heap_setBlock_same hb _, MapKept.stamped_modify hst _ _ (fun _ _ => rfl) (fun e' _ he' => hkeyf e' he'), ?_, ?_⟩
    · simp [Instr.mapUpdate, run_underlying Try.underlying99, MapKept.run_getObj_map hb, ln_keyed.check w false hkey, h1, hei, h3, ln_keyed.stays w hkey, MapKept.run_setObj_map _ hb, Result.andThen, setBlock]
    · rw [hlist, List.map_set, hm, List.map_set]
    · intro u hu
      rcases List.mem_or_eq_of_mem_set hu with q | q
      · exact hL u q
      · subst q; exact hx
/-- The lines are each another. -/
theorem MapL.apart (h : MapL w b L) : L.Pairwise (fun x y => x.line ≠ y.line) := by
  obtain ⟨es, cl, hb, hst, hm, hL⟩ := h
  have e : es.toList.map (·.key) = L.map lnV := by
    have := congrArg (List.map Prod.fst) hm
    simpa [Function.comp_def] using this
  have hn := hst.2.2
  rw [e, List.Nodup, List.pairwise_map] at hn
  exact hn.imp fun h q => h (lnV_iff.2 q)

/-- The map under way: these are still to come. -/
def MapR (w : World) (b r : Nat) (L left : List PC) : Prop :=
  ∃ es clock since seen c0, w.heap[b]? = some (.map es clock) ∧ w.heap[r]? = some (.mapIter (some b) since seen c0) ∧ Stamped es clock ∧ (∀ x ∈ es.toList, x.born < since) ∧ since ≤ c0 ∧ since ≤ clock ∧
    es.toList.map (fun e => (e.key, e.val)) = L.map (fun x => (lnV x, wdV x.fr x.to)) ∧ (leftOf es seen).toList.map (fun e => (e.key, e.val)) = left.map (fun x => (lnV x, wdV x.fr x.to))
theorem MapL.range (h : MapL w b L) :
    (Instr.range 99 (.map (some b))).run Try.prog w = .ok (.pointer (some ⟨w.heap.size, 0, none⟩)) (w.alloc (.mapIter (some b) (match w.heap[b]? with | some (.map _ c) => c | _ => 0) #[] (match w.heap[b]? with | some (.map _ c) => c | _ => 0))) ∧
      MapR (w.alloc (.mapIter (some b) (match w.heap[b]? with | some (.map _ c) => c | _ => 0) #[] (match w.heap[b]? with | some (.map _ c) => c | _ => 0))) b w.heap.size L L := by
  have hlt := h.lt
  obtain ⟨es, cl, hb, hst, hm, hL⟩ := h
  have e : (match w.heap[b]? with | some (.map _ c) => c | _ => 0) = cl := by rw [hb]
  rw [e]
  refine ⟨run_range_map w _ _ _ b es cl Try.underlying99 hb, es, cl, cl, #[], cl, ((MapKept.heap_alloc w _).2 b hlt).trans hb, (MapKept.heap_alloc w _).1, hst, hst.1, Nat.le_refl _, Nat.le_refl _, hm, ?_⟩
  have e3 : (leftOf es #[]).toList = es.toList := by
    simp only [leftOf, Array.toList_filter]
    rw [List.filter_eq_self]
    intro x _
    simp
  rw [e3]; exact hm
theorem MapR.keep {r : Nat} {left : List PC} (h : MapR w b r L left) (h1 : w'.heap[b]? = w.heap[b]?) (h2 : w'.heap[r]? = w.heap[r]?) : MapR w' b r L left := by
  obtain ⟨es, cl, since, seen, c0, a1, a2, h3⟩ := h
  exact ⟨es, cl, since, seen, c0, h1.trans a1, h2.trans a2, h3⟩
theorem MapR.lt {r : Nat} {left : List PC} (h : MapR w b r L left) : b < w.heap.size ∧ r < w.heap.size ∧ r ≠ b := by
  obtain ⟨es, cl, since, seen, c0, a1, a2, h3⟩ := h
  refine ⟨(Array.getElem?_eq_some_iff.1 a1).1, (Array.getElem?_eq_some_iff.1 a2).1, fun e => ?_⟩
  rw [e, a1] at a2; cases a2
theorem MapR.below {r : Nat} {left : List PC} (h : MapR w b r L left) (hb : Below w.heap.size w w') : MapR w' b r L left := h.keep (hb.block _ h.lt.1) (hb.block _ h.lt.2.1)
theorem left_push {es : Array MapEntry} {seen : Array Nat} {e : MapEntry} (hn : (es.toList.map (·.born)).Nodup) (he : e ∈ (leftOf es seen).toList) :
    ∃ l1 l2, (leftOf es seen).toList = l1 ++ e :: l2 ∧ (leftOf es (seen.push e.born)).toList = l1 ++ l2 := by
  have hsub : ((leftOf es seen).toList.map (·.born)).Nodup := by
    refine hn.sublist (List.Sublist.map _ ?_)
    simp [leftOf]
  have e2 : (leftOf es (seen.push e.born)).toList = (leftOf es seen).toList.filter (fun x => !(x.born == e.born)) := by
    simp only [leftOf, Array.toList_filter, List.filter_filter]
    apply List.filter_congr
    intro x _
    rw [contains_push]
    cases seen.contains x.born <;> cases (x.born == e.born) <;> rfl
  obtain ⟨l1, l2, q⟩ := List.append_of_mem he
  refine ⟨l1, l2, q, ?_⟩
  rw [e2, q, List.filter_append, List.filter_cons]
  rw [q] at hsub
  simp only [List.map_append, List.map_cons] at hsub
  obtain ⟨n1, n2, n3⟩ := List.nodup_append.1 hsub
  obtain ⟨n4, n5⟩ := List.nodup_cons.1 n2
  have f1 : l1.filter (fun x => !(x.born == e.born)) = l1 := by
    rw [List.filter_eq_self]
    intro x hx
    have : x.born ≠ e.born := n3 _ (List.mem_map.2 ⟨x, hx, rfl⟩) _ (by simp)
    simpa using this
  have f2 : l2.filter (fun x => !(x.born == e.born)) = l2 := by
    rw [List.filter_eq_self]
    intro x hx
    have : x.born ≠ e.born := fun q => n4 (List.mem_map.2 ⟨x, hx, q⟩)
    simpa using this
  simp [f1, f2]
/-- One step: whichever comes. -/
theorem MapR.next {r : Nat} {left : List PC} (h : MapR w b r L left) (ty : TypeId) :
    (left = [] ∧ (Instr.next (.pointer (some ⟨r, 0, none⟩)) false ty).run Try.prog w = .ok (.tuple #[.bool false]) w) ∨
    ∃ l1 x l2 w', left = l1 ++ x :: l2 ∧ (Instr.next (.pointer (some ⟨r, 0, none⟩)) false ty).run Try.prog w = .ok (.tuple #[.bool true, lnV x, wdV x.fr x.to]) w' ∧ MapR w' b r L (l1 ++ l2) ∧ w.grownBy w' (some r) ∧ w'.heap.size = w.heap.size ∧
      (Instr.entry (.pointer (some ⟨r, 0, none⟩))).run Try.prog w' = .ok (.tuple #[lnV x, wdV x.fr x.to]) w' := by
  have hlt := h.lt
  obtain ⟨es, cl, since, seen, c0, hb, hr, hst, hold, hsc, hscl, hm, hl⟩ := h
  rcases run_next_at (P := Try.prog) w ty r b since c0 seen es cl hr hb hold hsc with ⟨h0, hrun⟩ | ⟨e, he, w1, hw1, hrun⟩
  · refine .inl ⟨?_, hrun⟩
    have : left.length = 0 := by have := congrArg List.length hl; simp at this; omega
    exact List.eq_nil_of_length_eq_zero this
  · right
    obtain ⟨m1, m2, q1, q2⟩ := left_push hst.2.1 he
    rw [q1, List.map_append, List.map_cons] at hl
    obtain ⟨l1, l3, rfl, g1, g2⟩ := List.map_eq_append_iff.1 hl.symm
    obtain ⟨x, l2, rfl, g3, g4⟩ := List.map_eq_cons_iff.1 g2
    injection g3 with g5 g6
    rw [← g5, ← g6] at hrun
    have hb1 : w1.heap[b]? = some (.map es cl) := by rcases hw1 with rfl | rfl <;> exact hb
    have hr1 : w1.heap[r]? = some (.mapIter (some b) since seen c0) := by rcases hw1 with rfl | rfl <;> exact hr
    have hr2 : (setBlock w1 r (.mapIter (some b) since (seen.push e.born) cl)).heap[r]? = some (.mapIter (some b) since (seen.push e.born) cl) := by
      have : r < w1.heap.size := (Array.getElem?_eq_some_iff.1 hr1).1
      simp [setBlock, this]
    have hb2 : (setBlock w1 r (.mapIter (some b) since (seen.push e.born) cl)).heap[b]? = some (.map es cl) := by
      have : (setBlock w1 r (.mapIter (some b) since (seen.push e.born) cl)).heap[b]? = w1.heap[b]? := by
        simp only [setBlock]
        rw [Array.getElem?_setIfInBounds_ne]
        exact hlt.2.2
      rw [this]
      exact hb1
    refine ⟨l1, x, l2, _, rfl, hrun, ⟨es, cl, since, seen.push e.born, cl, hb2, hr2, hst, hold, hscl, hscl, hm, ?_⟩, ?_, ?_, ?_⟩
    · rw [q2, List.map_append, List.map_append, g1, g4]
    · have hg : w.grownBy w1 (some r) := by
        rcases hw1 with rfl | rfl
        · exact ⟨rfl, rfl, rfl, Nat.le_refl _, fun _ _ _ => rfl⟩
        · exact ⟨rfl, rfl, rfl, Nat.le_refl _, fun _ _ _ => rfl⟩
      refine ⟨hg.os, hg.tape, hg.output, by simpa [setBlock] using hg.size, fun i hi hne => ?_⟩
      have : (setBlock w1 r (.mapIter (some b) since (seen.push e.born) cl)).heap[i]? = w1.heap[i]? := by
        simp only [setBlock]
        rw [Array.getElem?_setIfInBounds_ne]
        exact fun q => hne (by rw [q])
      exact this.trans (hg.block i hi hne)
    · rcases hw1 with rfl | rfl <;> simp [setBlock]
    · have := run_entry_at (P := Try.prog) _ r b since seen es cl e hr2 hb2 (mem_left he).1 hst.2.1
      rw [← g5, ← g6] at this
      exact this
end

/-- The list with one line joined to it. -/
theorem join_new {lo hi : EN → EN → EN} {x : PC} : ∀ {L : List PC}, (∀ y ∈ L, y.line ≠ x.line) → joinG lo hi L x = L ++ [x]
  | [], _ => rfl
  | y :: L, h => by
    rw [joinG, if_neg (h y (by simp)), join_new fun z hz => h z (by simp [hz])]; rfl
theorem join_old {lo hi : EN → EN → EN} {x y : PC} : ∀ {L : List PC} {j : Nat}, L.Pairwise (fun x y => x.line ≠ y.line) → L[j]? = some y → y.line = x.line → joinG lo hi L x = L.set j ⟨lo y.fr x.fr, hi y.to x.to, x.bn, x.bd, x.sn, x.sd⟩
  | z :: L, 0, _, h, e => by
    obtain rfl : z = y := by simpa using h
    rw [joinG, if_pos e]
    simp [PC.line] at e
    simp [e]
  | z :: L, j + 1, hp, h, e => by
    have h' : L[j]? = some y := by simpa using h
    have hne : z.line ≠ x.line := fun q => (List.pairwise_cons.1 hp).1 y (List.mem_of_getElem? h') (q.trans e.symm)
    rw [joinG, if_neg hne, join_old (List.pairwise_cons.1 hp).2 h' e]; rfl
end Go.Proofs.Ytjcdkbalhleeeab

namespace Go.Proofs.Ytjcdkbalhleeeab
open Go.RowKit

set_option maxRecDepth 100000 in
theorem sweep_point (x : PC) (w : World) :
    Calls Try.prog 54 #[.agg #[.bool x.fr.op, .int .i64 x.fr.n, .int .i64 x.fr.d, .bool x.to.op, .int .i64 x.to.n, .int .i64 x.to.d]] w fun e w' => e = .returned (.bool (pointB x)) ∧ Below w.heap.size w w' := by
  obtain ⟨⟨ao, an, ad⟩, ⟨co, cn, cd⟩, bn, bd, sn, sd⟩ := x
  obtain ⟨R, hR⟩ : ∃ R, pointB ⟨⟨ao, an, ad⟩, ⟨co, cn, cd⟩, bn, bd, sn, sd⟩ = R := ⟨_, rfl⟩
  have hu : R = (!ao && (!co && (decide (an = cn) && decide (ad = cd)))) := by
    rw [← hR]; unfold pointB
    simp only
    cases ao <;> cases co <;> simp
  rw [hR]
  have HU := Lib.hid hu
  clear hu hR
  go_enter Try.func54, Try.ntmps54
  go_upto_region 1 with fail
  have B0 := Lib.hid (Blk.mk' w 104 #[.bool ao, .int .i64 an, .int .i64 ad, .bool co, .int .i64 cn, .int .i64 cd])
  have HB := Lib.hid ((Below.refl w.heap.size w).alloc (Nat.le_refl _) (.cells #[.bool ao, .int .i64 an, .int .i64 ad, .bool co, .int .i64 cn, .int .i64 cd] 104))
  generalize (w.alloc (.cells #[.bool ao, .int .i64 an, .int .i64 ad, .bool co, .int .i64 cn, .int .i64 cd] 104)) = V at *
  have c0 : V.cell? ⟨w.heap.size, 0, none⟩ = some (.bool ao) := B0.out.cell 0
  have c1 : V.cell? ⟨w.heap.size, 1, none⟩ = some (.int .i64 an) := B0.out.cell 1
  have c2 : V.cell? ⟨w.heap.size, 2, none⟩ = some (.int .i64 ad) := B0.out.cell 2
  have c3 : V.cell? ⟨w.heap.size, 3, none⟩ = some (.bool co) := B0.out.cell 3
  have c4 : V.cell? ⟨w.heap.size, 4, none⟩ = some (.int .i64 cn) := B0.out.cell 4
  have c5 : V.cell? ⟨w.heap.size, 5, none⟩ = some (.int .i64 cd) := B0.out.cell 5
  cases ao
  · cases co
    · by_cases hn : an = cn
      · subst hn
        by_cases hd : ad = cd
        · subst hd
          go_wp2_with fail
          go_ret
          exact ⟨by rw [HU.out]; simp, HB.out⟩
        · go_wp2_with fail
          go_ret
          exact ⟨by rw [HU.out]; simp [hd], HB.out⟩
      · go_wp2_with fail
        go_ret
        exact ⟨by rw [HU.out]; simp [hn], HB.out⟩
    · go_wp2_with fail
      go_ret
      exact ⟨by rw [HU.out]; simp, HB.out⟩
  · go_wp2_with fail
    go_ret
    exact ⟨by rw [HU.out]; simp, HB.out⟩
end Go.Proofs.Ytjcdkbalhleeeab

namespace Go.Proofs.Ytjcdkbalhleeeab
open Go.RowKit

/-- Whatever is cells, and whatever lies below B, lies as it lay. -/
structure KW (B : Nat) (W W' : World) : Prop where
  size : W.heap.size ≤ W'.heap.size
  same : ∀ (k : Nat) (o : Obj), W.heap[k]? = some o → (k < B ∨ o.isCells = true) → W'.heap[k]? = some o
theorem KW.refl (B : Nat) (W : World) : KW B W W := ⟨Nat.le_refl _, fun _ _ h _ => h⟩
theorem KW.trans {B : Nat} {X Y Z : World} (h : KW B X Y) (k : KW B Y Z) : KW B X Z := ⟨Nat.le_trans h.size k.size, fun i o hi ho => k.same i o (h.same i o hi ho) ho⟩
theorem KW.of_below {B : Nat} {W W' : World} (h : Below W.heap.size W W') : KW B W W' := ⟨h.size, fun k o hk _ => (h.block k (Array.getElem?_eq_some_iff.1 hk).1).trans hk⟩
theorem KW.putObj {B : Nat} {W : World} {l : Nat} {o : Obj} (o' : Obj) (hB : B ≤ l) (hl : W.heap[l]? = some o) (ho : o.isCells = false) : KW B W (W.putObj l o') :=
  ⟨by simp, fun k x hk hx => by
    by_cases e : k = l
    · subst e
      rw [hl] at hk; cases hk
      rcases hx with q | q
      · omega
      · rw [ho] at q; cases q
    · exact (World.putObj_heap_other e).trans hk⟩
theorem KW.cell {B : Nat} {W W' : World} (h : KW B W W') {p : Addr} {v : Value} (hc : W.cell? p = some v) : W'.cell? p = some v := by
  obtain ⟨b, off, sp⟩ := p
  cases hb : W.heap[b]? with
  | none => simp [World.cell?, hb] at hc
  | some o =>
    have : o.isCells = true := by cases o <;> first | rfl | (simp [World.cell?, hb] at hc)
    simp only [World.cell?, h.same b o hb (.inr this)]
    simpa only [World.cell?, hb] using hc
/-- The blocks of S lie as they lay. -/
structure KS (S : Nat → Prop) (W W' : World) : Prop where
  os : W'.os = W.os
  tape : W'.tape = W.tape
  output : W'.output = W.output
  size : W.heap.size ≤ W'.heap.size
  block : ∀ i, i < W.heap.size → S i → W'.heap[i]? = W.heap[i]?
section
variable {S : Nat → Prop} {W W' : World}
theorem KS.refl (S : Nat → Prop) (W : World) : KS S W W := ⟨rfl, rfl, rfl, Nat.le_refl _, fun _ _ _ => rfl⟩
theorem KS.trans {X Y Z : World} (h : KS S X Y) (k : KS S Y Z) : KS S X Z :=
  ⟨k.os.trans h.os, k.tape.trans h.tape, k.output.trans h.output, Nat.le_trans h.size k.size, fun i hi hs => (k.block i (Nat.lt_of_lt_of_le hi h.size) hs).trans (h.block i hi hs)⟩
theorem KS.of_below (h : Below W.heap.size W W') : KS S W W' := ⟨h.os, h.tape, h.output, h.size, fun i hi _ => h.block i hi⟩
theorem KS.of_grown {row : Option Nat} (h : W.grownBy W' row) (hr : ∀ j, row = some j → ¬ S j) : KS S W W' :=
  ⟨h.os, h.tape, h.output, h.size, fun i hi hs => h.block i hi fun e => hr i e.symm hs⟩
theorem KS.setCell (p : Addr) (v : Value) (h : KS S W W') (hp : ¬ S p.block) : KS S W (W'.setCell p v) :=
  h.trans ⟨rfl, rfl, rfl, by simp, fun i _ hs => Below.heap_setCell W' p v i fun e => hp (e ▸ hs)⟩
theorem KS.alloc (o : Obj) (h : KS S W W') : KS S W (W'.alloc o) := h.trans (.of_below ((Below.refl _ W').alloc (Nat.le_refl _) o))
theorem KS.next {W2 : World} (h : KS S W W') (k : Below W'.heap.size W' W2) : KS S W W2 := h.trans (.of_below k)
theorem KS.putObj {l : Nat} (o' : Obj) (h : KS S W W') (hl : ¬ S l) : KS S W (W'.putObj l o') :=
  h.trans (.of_grown (grownBy_putObj' W' l o') fun j e => by cases e; exact hl)
theorem KS.below {n : Nat} (h : KS S W W') (hS : ∀ i, i < n → S i) (hn : n ≤ W.heap.size) : Below n W W' :=
  ⟨h.os, h.tape, h.output, h.size, fun i hi => h.block i (by omega) (hS i hi)⟩
theorem KS.cell (h : KS S W W') {b off : Nat} {v : Value} (hs : S b) (hc : W.cell? ⟨b, off, none⟩ = some v) : W'.cell? ⟨b, off, none⟩ = some v := by
  have hlt := World.block_lt_of_cell? _ _ hc
  have := h.block b hlt hs
  simp only [World.cell?, this]
  simpa only [World.cell?] using hc
end

/-- The contract of an iterator's value: N rounds; the k-th is handed what En k says, in the world where it begins. -/
def IterC (P : Program) (gf : Nat) (lb : Array Value) (S : Nat → Prop) (N : Nat) (En : Nat → Array Value → World → Prop) (w0 : World) : Prop :=
  ∀ (l : Nat) (J Jx : Nat → World → Prop) (W : World), KS S w0 W →
    (∀ k A B, J k A → Below A.heap.size A B → J k B) → (∀ k A B, Jx k A → Below A.heap.size A B → Jx k B) →
    (∀ k args W1, k < N → J k W1 → KS S w0 W1 → En k args W1 → YieldAt Fence.wide 0 P l args W1 fun e W' => (e = .returned (.bool true) ∧ J (k + 1) W' ∧ KS S W1 W') ∨ (e = .returned (.bool false) ∧ Jx k W')) →
    J 0 W →
    Calls P gf (#[.func (.yield l) #[] #[]] ++ lb) W fun e W' => (∃ v, e = .returned v) ∧ (J N W' ∨ ∃ k, k < N ∧ Jx k W')

theorem KeepsFrom.of_below {W W' : World} (h : Below W.heap.size W W') (B : Nat) : KeepsFrom B W W' := ⟨h.size, fun k o _ hk _ => (h.block k (Array.getElem?_eq_some_iff.1 hk).1).trans hk⟩
/-- How the body of a round may be left. -/
def rndPost (B : Nat) (S : Nat → Prop) (I : Nat → World → Prop) (Ix : Code → Nat → World → Prop) (k : Nat) (W : World) : Exit → Act → World → Prop
  | .normal, _, W' => KeepsFrom B W W' ∧ KS S W W' ∧ I (k + 1) W'
  | .ret, _, W' => KeepsFrom B W W' ∧ KS S W W' ∧ Ix .ret k W'
  | .exit id, _, W' => KeepsFrom B W W' ∧ KS S W W' ∧ Ix (.exit id) k W'
  | .goto t, _, W' => KeepsFrom B W W' ∧ KS S W W' ∧ Ix (.goto t) k W'
  | .panic _, _, _ => False
  | .outgrown, _, _ => False
abbrev markD (D : Nat) : Deferred := { target := .collected D, args := #[] }

/-- The law. -/
theorem wp_iter {P : Program} {g : Operand} {ps : Array Tmp} {assign body : Code} {Q : Exit → Act → World → Prop} {a : Act} {w : World} {gf : Nat} {lb : Array Value}
    (hg : a.eval g = .func (.func gf) #[] lb) (eg : ∀ args w, (callFunc gf args).run P w = .ok (.enter gf args) w)
    {S : Nat → Prop} {N : Nat} {En : Nat → Array Value → World → Prop} {w0 : World} (hseq : IterC P gf lb S N En w0) (hb0 : KS S w0 w) (hS : ∀ i, S i → i < w.heap.size) (hps : ∀ k args W, En k args W → args.size = ps.size)
    (I : Nat → World → Prop) (Ix : Code → Nat → World → Prop) (hI : ∀ k A B, I k A → KW w.heap.size A B → I k B) (hIx : ∀ c k A B, Ix c k A → KW w.heap.size A B → Ix c k B) (h0 : I 0 w)
    (hround : ∀ l k args W, w.heap.size ≤ l → k < N → I k W → KS S w W → En k args W → W.heap.size > l →
      assign.wpIn (Fence.wide.inRound l) 0 P (Exit.then (fun a' Wa => KeepsFrom w.heap.size W Wa ∧ KS S W Wa ∧ ∀ Wb, KW w.heap.size Wa Wb → KS S Wa Wb → body.wpIn (Fence.wide.inRound l) 0 P (rndPost w.heap.size S I Ix k Wb) a' Wb) (fun _ _ _ => False))
        { tmps := (ps.zip args).foldl (fun t (p, v) => t.setIfInBounds p v) a.tmps, defers := [] } W)
    (hdone : ∀ D W, w.heap.size ≤ D → I N W → KS S w W → W.heap[D]? = some (.deferred (some [])) → Q .normal { a with defers := markD D :: a.defers } W)
    (hstop : ∀ D c k W, w.heap.size ≤ D → k < N → Ix c k W → KS S w W → W.heap[D]? = some (.deferred (some [])) → c.wp P Q { a with defers := markD D :: a.defers } W) :
    (Code.rangeFunc g ps assign body).wp P Q a w := by
  refine (wpIn_wide (n := 0)).1 (wpIn_rangeFunc ?_)
  intro fn hfn
  rw [show Fence.wide.round = none from rfl]
  obtain ⟨rec, hrec⟩ : ∃ rec : LoopState → Option Code → Loop, rec = fun st pe => { state := st, pending := pe, fn, tmps := a.tmps, params := ps, assign, body, defers := w.heap.size } := ⟨_, rfl⟩
  obtain ⟨W1, hW1⟩ : ∃ W1, (w.alloc (.deferred (some []))).alloc (.loop (rec .ready none)) = W1 := ⟨_, rfl⟩
  have hL1 : W1.heap[w.heap.size + 1]? = some (.loop (rec .ready none)) := by
    rw [← hW1]; have := World.alloc_heap_new (w.alloc (.deferred (some []))) (.loop (rec .ready none)); rwa [World.size_alloc] at this
  have hK1 : W1.heap[w.heap.size]? = some (.deferred (some [])) := by
    rw [← hW1]; exact (Below.heap_alloc _ _ _ (by simp)).trans (World.alloc_heap_new w _)
  have hbW : Below w.heap.size w W1 := by rw [← hW1]; exact ((Below.refl _ w).alloc (Nat.le_refl _) _).alloc (by simp) _
  have hI1 : I 0 W1 := hI 0 w W1 h0 (.of_below hbW)
  have hb1 : KS S w W1 := .of_below hbW
  have hl0 : ¬ S (w.heap.size + 1) := fun q => by have := hS _ q; omega
  refine ⟨w.heap.size + 1, [markD w.heap.size], W1, { target := .fn (.func gf) lb, args := #[.func (.yield (w.heap.size + 1)) #[] #[]] }, W1, gf,
    #[.func (.yield (w.heap.size + 1)) #[] #[]] ++ lb, W1, ?_, ?_, fun _ _ => trivial, ?_, fun h => by simp [Fence.wide] at h, ?_⟩
  · rw [← hW1, hrec]; exact run_enterLoop_outer _ _ _ _ _
  · simp only [resolve, hg]
    simp [go_sem]
  · simp [invoke, go_sem, eg]
  · refine callsIn_wide.2 ((hseq (w.heap.size + 1)
      (fun k W => I k W ∧ W.heap[w.heap.size + 1]? = some (.loop (rec .ready none)) ∧ W.heap[w.heap.size]? = some (.deferred (some [])) ∧ KS S w W)
      (fun k W => ∃ c, Ix c k W ∧ W.heap[w.heap.size + 1]? = some (.loop (rec .done (some c))) ∧ W.heap[w.heap.size]? = some (.deferred (some [])) ∧ KS S w W)
      W1 (hb0.trans hb1) ?_ ?_ ?_ ⟨hI1, hL1, hK1, hb1⟩).mono ?_)
    · rintro k A B ⟨hi, hl, hk, hb⟩ hAB
      exact ⟨hI k A B hi (.of_below hAB), (hAB.block _ (Array.getElem?_eq_some_iff.1 hl).1).trans hl, (hAB.block _ (Array.getElem?_eq_some_iff.1 hk).1).trans hk, hb.next hAB⟩
    · rintro k A B ⟨c, hi, hl, hk, hb⟩ hAB
      exact ⟨c, hIx c k A B hi (.of_below hAB), (hAB.block _ (Array.getElem?_eq_some_iff.1 hl).1).trans hl, (hAB.block _ (Array.getElem?_eq_some_iff.1 hk).1).trans hk, hb.next hAB⟩
    · rintro k args W hkN ⟨hi, hl, hk, hb⟩ _ hen
      have hlt : w.heap.size + 1 < W.heap.size := (Array.getElem?_eq_some_iff.1 hl).1
      have hy := run_yield (P := P) (args := args) hl (by rw [hrec]; exact hps k args W hen)
      rw [hrec] at hy
      refine ⟨fn, _, assign, body, hy, roundIn_of_wpIn trivial ?_⟩
      refine Go.wpIn_mono (hround (w.heap.size + 1) k args W (by omega) hkN hi hb hen hlt) ?_
      rintro e a' Wa hq
      cases e with
      | normal =>
        obtain ⟨hkf, hba, hbody⟩ := hq
        have hla := hkf.same _ _ (by omega) hl rfl
        have hka := hkf.same _ _ (Nat.le_refl _) hk rfl
        refine ⟨_, run_beginRound hla (by rw [hrec]), ?_⟩
        have hlta : w.heap.size + 1 < Wa.heap.size := (Array.getElem?_eq_some_iff.1 hla).1
        have hl2 : (Wa.putObj (w.heap.size + 1) (.loop { rec .ready none with state := .busy })).heap[w.heap.size + 1]? = some (.loop { rec .ready none with state := .busy }) := World.putObj_heap_same hlta
        have hk2 : (Wa.putObj (w.heap.size + 1) (.loop { rec .ready none with state := .busy })).heap[w.heap.size]? = some (.deferred (some [])) := (World.putObj_heap_other (by omega)).trans hka
        refine Go.wpIn_mono (hbody _ (KW.putObj _ (by omega) hla rfl) ((KS.refl _ _).putObj _ hl0)) ?_
        have hbP : KS S W (Wa.putObj (w.heap.size + 1) (.loop { rec .ready none with state := .busy })) := hba.putObj _ hl0
        have fin : ∀ (jump : Option Code) (W3 : World), KeepsFrom w.heap.size (Wa.putObj (w.heap.size + 1) (.loop { rec .ready none with state := .busy })) W3 → KS S (Wa.putObj (w.heap.size + 1) (.loop { rec .ready none with state := .busy })) W3 →
            (Instr.endRound (w.heap.size + 1) jump).run P W3 = .ok (.bool jump.isNone) (W3.putObj (w.heap.size + 1) (.loop (rec (if jump.isNone then .ready else .done) jump))) ∧
            W3.heap[w.heap.size + 1]? = some (.loop { rec .ready none with state := .busy }) ∧
            (W3.putObj (w.heap.size + 1) (.loop (rec (if jump.isNone then .ready else .done) jump))).heap[w.heap.size + 1]? = some (.loop (rec (if jump.isNone then .ready else .done) jump)) ∧
            (W3.putObj (w.heap.size + 1) (.loop (rec (if jump.isNone then .ready else .done) jump))).heap[w.heap.size]? = some (.deferred (some [])) ∧
            KS S W (W3.putObj (w.heap.size + 1) (.loop (rec (if jump.isNone then .ready else .done) jump))) := fun jump W3 hk3 hb3 => by
          have hl3 := hk3.same _ _ (by omega) hl2 rfl
          have := run_endRound (P := P) jump hl3
          rw [hrec] at this ⊢
          exact ⟨this, by rw [hrec] at hl3; exact hl3, World.putObj_heap_same (Array.getElem?_eq_some_iff.1 hl3).1, (World.putObj_heap_other (by omega)).trans (hk3.same _ _ (Nat.le_refl _) hk2 rfl), (hbP.trans hb3).putObj _ hl0⟩
        rintro e a3 W3 hp
        cases e with
        | normal =>
          obtain ⟨hk3, hb3, hi3⟩ := hp
          obtain ⟨hr, hl3, hl4, hk4, hb4⟩ := fin none W3 hk3 hb3
          exact ⟨_, _, hr, .inl ⟨rfl, ⟨hI _ _ _ hi3 (KW.putObj _ (by omega) hl3 rfl), hl4, hk4, hb.trans hb4⟩, hb4⟩⟩
        | ret =>
          obtain ⟨hk3, hb3, hi3⟩ := hp
          obtain ⟨hr, hl3, hl4, hk4, hb4⟩ := fin (some .ret) W3 hk3 hb3
          exact ⟨_, _, hr, .inr ⟨rfl, .ret, hIx _ _ _ _ hi3 (KW.putObj _ (by omega) hl3 rfl), hl4, hk4, hb.trans hb4⟩⟩
        | exit id =>
          obtain ⟨hk3, hb3, hi3⟩ := hp
          obtain ⟨hr, hl3, hl4, hk4, hb4⟩ := fin (some (.exit id)) W3 hk3 hb3
          exact ⟨_, _, hr, .inr ⟨rfl, .exit id, hIx _ _ _ _ hi3 (KW.putObj _ (by omega) hl3 rfl), hl4, hk4, hb.trans hb4⟩⟩
        | goto t =>
          obtain ⟨hk3, hb3, hi3⟩ := hp
          obtain ⟨hr, hl3, hl4, hk4, hb4⟩ := fin (some (.goto t)) W3 hk3 hb3
          exact ⟨_, _, hr, .inr ⟨rfl, .goto t, hIx _ _ _ _ hi3 (KW.putObj _ (by omega) hl3 rfl), hl4, hk4, hb.trans hb4⟩⟩
        | panic ch => exact hp.elim
        | outgrown => exact hp.elim
      | exit id => exact hq.elim
      | goto t => exact hq.elim
      | ret => exact hq.elim
      | panic chain => exact hq.elim
      | outgrown => exact hq.elim
    · rintro e W2 ⟨⟨v, rfl⟩, (⟨hi, hl, hk, hb⟩ | ⟨k, hkN, c, hi, hl, hk, hb⟩)⟩
      · refine ⟨none, _, by have := run_endLoop (P := P) hl (by rw [hrec]; simp); rw [hrec] at this; exact this, ?_⟩
        exact hdone _ _ (Nat.le_refl _) (hI _ _ _ hi (KW.putObj _ (by omega) hl rfl)) (hb.putObj _ hl0) ((World.putObj_heap_other (by omega)).trans hk)
      · refine ⟨some c, _, by have := run_endLoop (P := P) hl (by rw [hrec]; simp); rw [hrec] at this; exact this, ?_⟩
        exact wpIn_wide.2 (hstop _ c k _ (Nat.le_refl _) hkN (hIx _ _ _ _ hi (KW.putObj _ (by omega) hl rfl)) (hb.putObj _ hl0) ((World.putObj_heap_other (by omega)).trans hk))

/-- A function that holds such a loop, from its body. -/
theorem calls_of_marks {P : Program} {f : FuncId} {fn : Func} {c : Code} {args : Array Value} {w : World} {R : Ending → World → Prop} (hf : P.funcs[f]? = some fn) (hb : fn.body = some c)
    (h : c.wp P (bodyPostM Fence.wide 0 P fn R) { tmps := args ++ Array.replicate (fn.ntmps - args.size) undef, defers := [] } w) : Calls P f args w R :=
  callsIn_wide.1 (callsIn_of_wp_marks hf hb trivial (wpIn_wide.2 h) rfl)
end Go.Proofs.Ytjcdkbalhleeeab

namespace Go.Proofs.Ytjcdkbalhleeeab
open Go.RowKit

theorem layout_within (m : Int) (A : Option Addr) (l : List Int) (c : Nat) (w : World) (hm : 0 ≤ m) (hm' : m ≤ 4611686018427387904) (hr : Rd w A c l) :
    Calls Try.prog 75 #[.int .i64 m, .slice A l.length c] w fun e w' => e = .returned (.bool (smallB m l)) ∧ ∃ n, w' = w.drewN n := by
  obtain ⟨hl, hc, hsm, hr⟩ := hr
  go_enter Try.func75, Try.ntmps75
  go_wp2
  go_loop [9] (fun i => ∃ k : Nat, k ≤ l.length ∧ smallB m (l.take k) = true ∧ i = .int .i64 k) (fun i => l.length - (intOf i).toNat)
  case atStart => exact ⟨0, by omega, by simp [smallB], rfl⟩
  case round =>
    obtain ⟨k, hk, hs, rfl⟩ := hrel
    have HS := Lib.hid hs
    clear hs
    by_cases hlt : k < l.length
    · obtain ⟨ad, rfl, hc1⟩ := hr.at_ (k := k) (by simpa using hlt)
      rw [List.getElem_map] at hc1
      clear hr
      have HT := Lib.hid (smallB_take (m := m) hlt)
      have HF := Lib.hid (smallB_false (m := m) hlt)
      by_cases h1 : l[k] < -m
      · go_wp2
        go_ret
        exact ⟨ret_bool (HF.out (by simp; omega)).symm, 0, rfl⟩
      · by_cases h2 : m < l[k]
        · go_wp2
          go_ret
          exact ⟨ret_bool (HF.out (by simp; omega)).symm, 0, rfl⟩
        · go_wp2
          go_round
          case rel => exact ⟨k + 1, by omega, by rw [HT.out, HS.out]; simp; omega, by go_num⟩
          case measure => simp [intOf]; omega
    · obtain rfl : k = l.length := by omega
      go_wp2
      go_ret
      exact ⟨ret_bool (by rw [← HS.out, List.take_length]), 0, rfl⟩

theorem layout_within1 (m : Int) (A : Option Addr) (n : Int) (c : Nat) (w : World) (hm : 0 ≤ m) (hm' : m ≤ 4611686018427387904) (hr : Rd w A c [n]) :
    Calls Try.prog 75 #[.int .i64 m, .slice A 1 c] w fun e w' => e = .returned (.bool (smallB m [n])) ∧ ∃ n, w' = w.drewN n := layout_within m A [n] c w hm hm' hr

theorem layout_Dot0 (A : Option Addr) (a : List Int) (c : Nat) (B : Option Addr) (b : List Int) (c' : Nat) (X Y : Int) (w : World) (hr : Rd w A c a) (hr' : Rd w B c' b) (hlen : a.length ≤ b.length)
    (hX : 0 ≤ X) (hY : 0 ≤ Y) (ha : smallB X a = true) (hb : smallB Y b = true) (h8 : a.length * (X * Y) ≤ 4611686018427387904) :
    Calls Try.prog 80 #[.slice A a.length c, .slice B b.length c'] w fun e w' => e = .returned (.int .i64 (dot a b)) ∧ w' = w := by
  have HR := Lib.hid hr
  have HR' := Lib.hid hr'
  obtain ⟨hl, hc, hsm, _⟩ := hr
  obtain ⟨hl', hc', hsm', _⟩ := hr'
  have HA := Lib.hid ha
  have HB := Lib.hid hb
  have HD := Lib.hid (dot_take_bound ha hb hX hY)
  clear ha hb
  go_enter Try.func80, Try.ntmps80
  go_wp2_with fail
  go_loop [5, 10] (fun s i => ∃ k : Nat, k ≤ a.length ∧ s = .int .i64 (dot (a.take k) b) ∧ i = .int .i64 k) (fun _ i => a.length - (intOf i).toNat)
  case atStart => exact ⟨0, by omega, rfl, rfl⟩
  case round =>
    obtain ⟨k, hk, rfl, rfl⟩ := hrel
    by_cases hlt : k < a.length
    · have hlt' : k < b.length := by omega
      obtain ⟨ad, rfl, hc1⟩ := HR.out.at_ hlt
      obtain ⟨ad', rfl, hc2⟩ := HR'.out.at_ hlt'
      have hi0 : (k : Int) < (b.length : Int) := by omega
      have h1 := HD.out k
      have h2 := HD.out (k + 1)
      have HT := Lib.hid (dot_take hlt hlt')
      rw [HT.out] at h2
      have hx := smallB_at HA.out hlt
      have hy := smallB_at HB.out hlt'
      have h3 := mul_bound _ _ X Y hx.1 hx.2 hy.1 hy.2
      have h4 : X * Y ≤ a.length * (X * Y) := by
        have h0 : (1 : Int) * (X * Y) ≤ a.length * (X * Y) := Int.mul_le_mul_of_nonneg_right (by omega) (Int.mul_nonneg hX hY)
        omega
      obtain ⟨h3a, h3b⟩ := h3
      obtain ⟨h1a, h1b⟩ := h1
      obtain ⟨h2a, h2b⟩ := h2
      have g1 : -4611686018427387904 ≤ a[k] * b[k] := by omega
      have g2 : a[k] * b[k] ≤ 4611686018427387904 := by omega
      have g3 : -4611686018427387904 ≤ dot (a.take k) b + a[k] * b[k] := by omega
      have g4 : dot (a.take k) b + a[k] * b[k] ≤ 4611686018427387904 := by omega
      clear h3a h3b h1a h1b h2a h2b h4 h8
      go_wp2_with fail
      go_round
      case rel => exact ⟨k + 1, by omega, by rw [HT.out], by go_num⟩
      case measure => simp [intOf]; omega
    · obtain rfl : k = a.length := by omega
      go_wp2_with fail
      go_ret
      exact ⟨ret_int (by simp), rfl⟩

theorem layout_Dot (A : Option Addr) (a : List Int) (c : Nat) (B : Option Addr) (b : List Int) (c' : Nat) (X Y : Int) (w : World) (hr : Rd w A c a) (hr' : Rd w B c' b) (hlen : a.length ≤ b.length)
    (hX : 0 ≤ X) (hY : 0 ≤ Y) (ha : smallB X a = true) (hb : smallB Y b = true) (h8 : a.length * (X * Y) ≤ 4611686018427387904) :
    Calls Try.prog 80 #[.slice A a.length c, .slice B b.length c'] w fun e w' => e = .returned (.int .i64 (dot a b)) ∧ ∃ n, w' = w.drewN n :=
  (layout_Dot0 A a c B b c' X Y w hr hr' hlen hX hY ha hb h8).mono fun _ _ h => ⟨h.1, 0, h.2⟩

theorem layout_May (A : Option Addr) (c : Nat) (A2 : Option Addr) (c2 : Nat) (p : PG) (w : World) (hp : Pg w A c A2 c2 p) :
    Calls Try.prog 26 #[.agg #[.slice A p.costs.length c, .slice A2 p.rows.length c2]] w fun e w' => e = .returned (.bool (mayPB p)) ∧ Below w.heap.size w w' := by
  have HP := Lib.hid hp
  obtain ⟨⟨hl, hc, hsm, _⟩, ⟨hl2, hc2, hsm2, _⟩⟩ := hp
  by_cases hn1 : p.costs.length < 1
  · have hv : mayPB p = false := by
      rw [Bool.eq_false_iff]; intro h; have := mayPB_iff.1 h; omega
    rw [hv]
    clear hv
    go_enter Try.func26, Try.ntmps26
    go_wp2_with fail
    go_quiet (fail)
    go_wp2_with fail
    go_ret
    exact ⟨rfl, (by (repeat (any_goals (first | exact Below.refl _ _ | refine below_drewN ?_ _ | refine Below.drew ?_ | refine Below.alloc ?_ ?_ _ | refine Below.setCell ?_ ?_ _))); all_goals (first | omega | (simp; done) | (simp; omega)))⟩
  by_cases hn2 : 4 < p.costs.length
  · have hv : mayPB p = false := by
      rw [Bool.eq_false_iff]; intro h; have := mayPB_iff.1 h; omega
    rw [hv]
    clear hv
    go_enter Try.func26, Try.ntmps26
    go_wp2_with fail
    go_quiet (fail)
    go_wp2_with fail
    go_ret
    exact ⟨rfl, (by (repeat (any_goals (first | exact Below.refl _ _ | refine below_drewN ?_ _ | refine Below.drew ?_ | refine Below.alloc ?_ ?_ _ | refine Below.setCell ?_ ?_ _))); all_goals (first | omega | (simp; done) | (simp; omega)))⟩
  by_cases hm1 : p.rows.length < 1
  · have hv : mayPB p = false := by
      rw [Bool.eq_false_iff]; intro h; have := mayPB_iff.1 h; omega
    rw [hv]
    clear hv
    go_enter Try.func26, Try.ntmps26
    go_wp2_with fail
    go_quiet (fail)
    go_wp2_with fail
    go_ret
    exact ⟨rfl, (by (repeat (any_goals (first | exact Below.refl _ _ | refine below_drewN ?_ _ | refine Below.drew ?_ | refine Below.alloc ?_ ?_ _ | refine Below.setCell ?_ ?_ _))); all_goals (first | omega | (simp; done) | (simp; omega)))⟩
  by_cases hm2 : 4 < p.rows.length
  · have hv : mayPB p = false := by
      rw [Bool.eq_false_iff]; intro h; have := mayPB_iff.1 h; omega
    rw [hv]
    clear hv
    go_enter Try.func26, Try.ntmps26
    go_wp2_with fail
    go_quiet (fail)
    go_wp2_with fail
    go_ret
    exact ⟨rfl, (by (repeat (any_goals (first | exact Below.refl _ _ | refine below_drewN ?_ _ | refine Below.drew ?_ | refine Below.alloc ?_ ?_ _ | refine Below.setCell ?_ ?_ _))); all_goals (first | omega | (simp; done) | (simp; omega)))⟩
  cases hs : smallB 400 p.costs with
  | false =>
    have hv : mayPB p = false := by
      rw [Bool.eq_false_iff]; intro h; have := mayPB_iff.1 h; simp [hs] at this
    rw [hv]
    clear hv
    go_enter Try.func26, Try.ntmps26
    go_wp2_with fail
    go_quiet (fail)
    go_wp2_with fail
    refine (layout_within _ _ _ _ _ (by omega) (by omega) (by exact (HP.out.costs.alloc _).drewN _)).mono ?_
    rintro e w' ⟨rfl, n, rfl⟩
    rw [hs]
    go_wp2_with fail
    go_ret
    exact ⟨rfl, (by (repeat (any_goals (first | exact Below.refl _ _ | refine below_drewN ?_ _ | refine Below.drew ?_ | refine Below.alloc ?_ ?_ _ | refine Below.setCell ?_ ?_ _))); all_goals (first | omega | (simp; done) | (simp; omega)))⟩
  | true =>
    have hv : mayPB p = p.rows.all (rowB p.costs.length) := by
      rw [Bool.eq_iff_iff, mayPB_iff]; simp only [hs]; constructor
      · intro h; exact h.2.2.2.2.2
      · intro h; exact ⟨by omega, by omega, by omega, by omega, trivial, h⟩
    rw [hv]
    clear hv
    go_enter Try.func26, Try.ntmps26
    go_wp2_with fail
    go_quiet (fail)
    go_wp2_with fail
    refine (layout_within _ _ _ _ _ (by omega) (by omega) (by exact (HP.out.costs.alloc _).drewN _)).mono ?_
    rintro e w' ⟨rfl, n, rfl⟩
    rw [hs]
    go_wp2_with fail
    go_loopw [36] (fun i wr => ∃ k : Nat, k ≤ p.rows.length ∧ i = .int .i64 k ∧ (p.rows.take k).all (rowB p.costs.length) = true ∧ Below w.heap.size w wr) (fun i _ => p.rows.length - (intOf i).toNat)
    case atStart => exact ⟨0, by omega, rfl, by simp, (by (repeat (any_goals (first | exact Below.refl _ _ | refine below_drewN ?_ _ | refine Below.drew ?_ | refine Below.alloc ?_ ?_ _ | refine Below.setCell ?_ ?_ _))); all_goals (first | omega | (simp; done) | (simp; omega)))⟩
    case round =>
      obtain ⟨k, hk, rfl, hall, hbel⟩ := hrel
      have HA := Lib.hid hall
      have HL := Lib.hid hbel
      have HPr := Lib.hid (HP.out.below hbel)
      have zL := hbel.size
      clear hall hbel
      by_cases hlt : k < p.rows.length
      · obtain ⟨ad, A', c', rfl, hc1, hc2', hr⟩ := HPr.out.rows.at_ hlt
        have hadl := World.block_lt_of_cell? _ _ hc1
        have HR := Lib.hid hr
        obtain ⟨hrl, hrc, _, _⟩ := hr
        have HT := Lib.hid (all_take (f := rowB p.costs.length) hlt)
        have HF := Lib.hid (all_false (f := rowB p.costs.length) hlt)
        have HRB := Lib.hid (show rowB p.costs.length p.rows[k] = (decide (p.rows[k].1.length = p.costs.length) && (smallB 12 [p.rows[k].2] && smallB 12 p.rows[k].1)) from rfl)
        generalize hr1 : p.rows[k].1 = r1 at *
        generalize hr2 : p.rows[k].2 = r2 at *
        clear hr1 hr2
        by_cases h1 : r1.length = p.costs.length
        · have h1z : ((r1.length : Int) != (p.costs.length : Int)) = false := by simp [h1]
          have H1 := Lib.hid h1
          clear h1
          go_wp2_with fail
          refine (layout_within1 _ _ _ _ _ (by omega) (by omega) (by exact Rd.new1 _ _ _ _ (by simp))).mono ?_
          rintro e w1 ⟨rfl, n1, rfl⟩
          cases hs1 : smallB 12 [r2] with
          | false =>
            go_wp2_with fail
            go_ret
            exact ⟨ret_bool (by rw [HF.out (by rw [HRB.out]; simp [hs1])]), (by (repeat (any_goals (first | exact Below.refl _ _ | exact HL.out | refine below_drewN ?_ _ | refine Below.drew ?_ | refine Below.alloc ?_ ?_ _ | refine Below.setCell ?_ ?_ _ | refine Below.trans ?_ (Below.mono HL.out ?_)))); all_goals (first | omega | (simp; done) | (simp; omega) | ((try have z0 := HL.out.size); (try simp at z0); (try simp); omega)))⟩
          | true =>
            go_wp2_with fail
            refine (layout_within _ _ _ _ _ (by omega) (by omega) (by exact ((HR.out.alloc _).alloc _).drewN _)).mono ?_
            rintro e w2 ⟨rfl, n2, rfl⟩
            cases hs2 : smallB 12 r1 with
            | false =>
              go_wp2_with fail
              go_ret
              exact ⟨ret_bool (by rw [HF.out (by rw [HRB.out]; simp [hs2])]), (by (repeat (any_goals (first | exact Below.refl _ _ | exact HL.out | refine below_drewN ?_ _ | refine Below.drew ?_ | refine Below.alloc ?_ ?_ _ | refine Below.setCell ?_ ?_ _ | refine Below.trans ?_ (Below.mono HL.out ?_)))); all_goals (first | omega | (simp; done) | (simp; omega) | ((try have z0 := HL.out.size); (try simp at z0); (try simp); omega)))⟩
            | true =>
              go_wp2_with fail
              go_roundw
              case rel => exact ⟨k + 1, by omega, by go_num, by rw [HT.out, HA.out, HRB.out]; simp [H1.out, hs1, hs2], (by (repeat (any_goals (first | exact Below.refl _ _ | exact HL.out | refine below_drewN ?_ _ | refine Below.drew ?_ | refine Below.alloc ?_ ?_ _ | refine Below.setCell ?_ ?_ _ | refine Below.trans ?_ (Below.mono HL.out ?_)))); all_goals (first | omega | (simp; done) | (simp; omega) | ((try have z0 := HL.out.size); (try simp at z0); (try simp); omega)))⟩
              case measure => simp [intOf]; omega
        · have h1z : ((r1.length : Int) != (p.costs.length : Int)) = true := by simp; omega
          go_wp2_with fail
          go_ret
          exact ⟨ret_bool (by rw [HF.out (by rw [HRB.out]; simp [h1])]), (by (repeat (any_goals (first | exact Below.refl _ _ | exact HL.out | refine below_drewN ?_ _ | refine Below.drew ?_ | refine Below.alloc ?_ ?_ _ | refine Below.setCell ?_ ?_ _ | refine Below.trans ?_ (Below.mono HL.out ?_)))); all_goals (first | omega | (simp; done) | (simp; omega) | ((try have z0 := HL.out.size); (try simp at z0); (try simp); omega)))⟩
      · obtain rfl : k = p.rows.length := by omega
        go_wp2_with fail
        go_ret
        exact ⟨ret_bool (by rw [← HA.out, List.take_length]), (by (repeat (any_goals (first | exact Below.refl _ _ | exact HL.out | refine below_drewN ?_ _ | refine Below.drew ?_ | refine Below.alloc ?_ ?_ _ | refine Below.setCell ?_ ?_ _ | refine Below.trans ?_ (Below.mono HL.out ?_)))); all_goals (first | omega | (simp; done) | (simp; omega) | ((try have z0 := HL.out.size); (try simp at z0); (try simp); omega)))⟩
end Go.Proofs.Ytjcdkbalhleeeab
