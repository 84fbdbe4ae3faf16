/-
  What a law is handed, opened to plain lists: numbers, slices of numbers, fractions, points, programs. No condition but the form's own reach.
-/
import Derived.Test.YtjcdkbalhleeeabPost
import Derived.Lib.SmallJoins
import Derived.SizedLaws
import Derived.Carry
import Derived.Deep.Slices
namespace Go.Proofs.Ytjcdkbalhleeeab
open Go.RowKit Go.WideShapes Go.ChangeShapes Go.Deep

theorem Try.laidOut : laidOutB Try.prog = true := by kernel_rfl

/-- The reach, of one datum. -/
def Sized {H : Type} (P : Program) (t : TypeId) (d : DataW H) : Prop := ∀ n ∈ d.weights P t, n ≤ reachBytes

section
variable {H : Type} {enc : TypeId × Value → H} {w : World} {n : Nat}

theorem sized_at {P : Program} {ts : List TypeId} {ds : List (DataW H)} (h : (DataW.weightsEach P ts ds).all (· ≤ reachBytes) = true) {j : Nat} {t : TypeId} {d : DataW H} (ht : ts[j]? = some t) (hd : ds[j]? = some d) : Sized P t d := fun m hm => by
  have := List.all_eq_true.1 h _ (DataW.weights_mem_each ht hd m hm)
  simpa using this

/-- An integer, off its cells. -/
theorem rd_int {t : TypeId} {k : IntKind} {cs : List Value} {x : DataW H × List MemPlace} (ht : Try.prog.underlying t = some (.int k)) (h : DataW.trod enc Try.prog w 0 (fun _ => true) true n t cs = some x) :
    ∃ z, cs = [.int k z] ∧ x = (.lit (.int k z), []) ∧ (Lit.int k z).wf = true := by
  obtain ⟨z, h1, h2, h3⟩ := DataW.trod_int ht h
  exact ⟨z, h1, h2, h3⟩

set_option maxRecDepth 100000 in
/-- A slice of 64-bit numbers, off its cells. -/
theorem rd_ints {t e : TypeId} {cs : List Value} {x : DataW H × List MemPlace} (ht : Try.prog.underlying t = some (.slice e)) (he : Try.prog.underlying e = some (.int .i64)) (hc : Try.prog.cellsOf e = 1) (hy : Try.prog.bytesOf e = 8)
    (h : DataW.trod enc Try.prog w 0 (fun _ => true) true n t cs = some x) (hs : Sized Try.prog t x.1) :
    ∃ A c l, cs = [.slice A l.length c] ∧ Rd w A c l ∧ (∀ z ∈ l, -9223372036854775808 ≤ z ∧ z ≤ 9223372036854775807) := by
  rcases open_ints ht he hc h with ⟨rfl, rfl⟩ | ⟨a, len, cap, zs, rfl, hb, hl, hm, hz, rfl, hcell, hwf⟩
  · exact ⟨none, 0, [], rfl, Rd.nil w, by simp⟩
  · simp only [if_true] at hz
    have hlen : (zs.take len).length = len := by rw [List.length_take]; omega
    have hsz : cap * 8 ≤ reachBytes := by
      have := hs ((lits (H := H) .i64 (zs.take len)).length * Try.prog.bytesOf e + (lits (H := H) .i64 (zs.drop len)).length * Try.prog.bytesOf e) (by simp [DataW.weights, ht, Nat.add_mul])
      simp only [lits, List.length_map, List.length_take, List.length_drop, hy] at this
      have e1 : min len zs.length = len := by omega
      rw [e1] at this
      have e2 : zs.length - len = cap - len := by omega
      rw [e2] at this
      rw [← Nat.add_mul] at this
      rwa [show len + (cap - len) = cap from by omega] at this
    have hr : reachBytes ≤ 140737488351232 := by decide
    refine ⟨some a, cap, zs.take len, by rw [hlen], ⟨by omega, by unfold maxLen at hm; omega, by omega, fun _ => ⟨a, rfl, fun j u hu => ?_⟩⟩, fun z hz => ?_⟩
    · rw [List.getElem?_map, List.getElem?_take] at hu
      by_cases hj : j < len
      · rw [if_pos hj] at hu
        have hj2 : j < zs.length := by omega
        rw [List.getElem?_eq_getElem hj2] at hu
        simp at hu
        rw [hcell j hj2, ← hu]
        simp [hj2]
      · rw [if_neg hj] at hu; simp at hu
    · have := hwf z (List.mem_of_mem_take hz)
      simp [Lit.wf, IntKind.min, IntKind.max, IntKind.signed, IntKind.bits] at this
      omega

theorem sized_part {P : Program} {t : TypeId} {fs : Array Field} {parts : List (DataW H)} (ht : P.underlying t = some (.struct fs)) (h : Sized P t (.agg parts)) {j : Nat} {f : Field} {d : DataW H} (hf : fs[j]? = some f) (hd : parts[j]? = some d) : Sized P f.type d := fun m hm =>
  h m (by
    simp only [DataW.weights, ht]
    exact DataW.weights_mem_each (j := j) (by simp [hf]) hd m hm)

theorem wf64 {z : Int} (h : (Lit.int .i64 z).wf = true) : -9223372036854775808 ≤ z ∧ z ≤ 9223372036854775807 := by
  simp [Lit.wf, IntKind.min, IntKind.max, IntKind.signed, IntKind.bits] at h; omega

set_option maxRecDepth 100000 in
/-- A struct of two fields, off its cells: the first of k cells. -/
theorem rd_two {t : TypeId} {f0 f1 : Field} {cs : List Value} {x : DataW H × List MemPlace} (ht : Try.prog.underlying t = some (.struct #[f0, f1])) (h : DataW.trod enc Try.prog w 0 (fun _ => true) true n t cs = some x) (hs : Sized Try.prog t x.1) :
    ∃ (y0 y1 : DataW H × List MemPlace) (m : Nat), cs.length = Try.prog.cellsOf t ∧ DataW.trod enc Try.prog w 0 (fun _ => true) true m f0.type ((cs.drop f0.offset).take (Try.prog.cellsOf f0.type)) = some y0 ∧
      DataW.trod enc Try.prog w 0 (fun _ => true) true m f1.type ((cs.drop f1.offset).take (Try.prog.cellsOf f1.type)) = some y1 ∧ Sized Try.prog f0.type y0.1 ∧ Sized Try.prog f1.type y1.1 := by
  obtain ⟨xs, m, _, rfl, hl, hx, hi⟩ := DataW.trod_struct ht h
  match xs, hx with
  | [y0, y1], _ =>
    exact ⟨y0, y1, m, hl, hi 0 f0 rfl, hi 1 f1 rfl, sized_part ht hs (j := 0) rfl rfl, sized_part ht hs (j := 1) rfl rfl⟩

theorem cells_frac : Try.prog.cellsOf 38 = 2 := by kernel_rfl
theorem cells_point : Try.prog.cellsOf 40 = 2 := by kernel_rfl
theorem cells_ints : Try.prog.cellsOf 22 = 1 := by kernel_rfl
theorem cells_int64 : Try.prog.cellsOf 2 = 1 := by kernel_rfl
theorem bytes_int64 : Try.prog.bytesOf 2 = 8 := by kernel_rfl

theorem list2 {α : Type} {l : List α} (h : l.length = 2) : ∃ a b, l = [a, b] := by
  match l, h with
  | [a, b], _ => exact ⟨a, b, rfl⟩

set_option maxRecDepth 100000 in
/-- A fraction, off its cells. -/
theorem rd_frac {cs : List Value} {x : DataW H × List MemPlace} (h : DataW.trod enc Try.prog w 0 (fun _ => true) true n 38 cs = some x) (hs : Sized Try.prog 38 x.1) :
    ∃ a b, cs = [.int .i64 a, .int .i64 b] := by
  obtain ⟨y0, y1, m, hl, h0, h1, _⟩ := rd_two Try.underlying38 h hs
  obtain ⟨u, v, rfl⟩ := list2 (hl.trans cells_frac)
  simp only [cells_int64] at h0 h1
  obtain ⟨a, ha, _⟩ := rd_int Try.underlying2 h0
  obtain ⟨b, hb, _⟩ := rd_int Try.underlying2 h1
  simp at ha hb
  exact ⟨a, b, by rw [ha, hb]⟩

set_option maxRecDepth 100000 in
/-- A point, off its cells. -/
theorem rd_point {cs : List Value} {x : DataW H × List MemPlace} (h : DataW.trod enc Try.prog w 0 (fun _ => true) true n 40 cs = some x) (hs : Sized Try.prog 40 x.1) :
    ∃ A c l d, cs = [.slice A l.length c, .int .i64 d] ∧ Rd w A c l ∧ (∀ z ∈ l, -9223372036854775808 ≤ z ∧ z ≤ 9223372036854775807) ∧ (-9223372036854775808 ≤ d ∧ d ≤ 9223372036854775807) := by
  obtain ⟨y0, y1, m, hl, h0, h1, s0, _⟩ := rd_two Try.underlying40 h hs
  obtain ⟨u, v, rfl⟩ := list2 (hl.trans cells_point)
  simp only [cells_int64, cells_ints] at h0 h1
  obtain ⟨A, c, l, ha, hr, hw⟩ := rd_ints Try.underlying22 Try.underlying2 cells_int64 bytes_int64 h0 s0
  obtain ⟨b, hb, _, hbw⟩ := rd_int Try.underlying2 h1
  simp at ha hb
  exact ⟨A, c, l, b, by rw [ha, hb], hr, hw, wf64 hbw⟩

/-! By value, as parameters come. -/
set_option maxRecDepth 100000 in
theorem op_ints {r : Reach} {b0 : Nat} {t e : TypeId} {v : Value} {d : DataW H} {p : List MemPlace} (ht : Try.prog.underlying t = some (.slice e)) (he : Try.prog.underlying e = some (.int .i64)) (hc : Try.prog.cellsOf e = 1) (hy : Try.prog.bytesOf e = 8)
    (hv : Value.okWide Try.prog w r b0 t v) (h : DataW.Trod enc Try.prog w 0 (fun _ => true) true t v d p) (hs : Sized Try.prog t d) :
    ∃ A c l, v = .slice A l.length c ∧ Rd w A c l ∧ (∀ z ∈ l, -9223372036854775808 ≤ z ∧ z ≤ 9223372036854775807) := by
  obtain ⟨a, m, c, rfl⟩ := okWide_slice ht hv
  obtain ⟨fuel, hf⟩ := h
  obtain ⟨A, c', l, hcs, hr, hw⟩ := rd_ints ht he hc hy hf hs
  simp [Value.cells] at hcs
  exact ⟨A, c', l, by rw [hcs.1, hcs.2.1, hcs.2.2], hr, hw⟩
set_option maxRecDepth 100000 in
theorem op_frac {r : Reach} {b0 : Nat} {v : Value} {d : DataW H} {p : List MemPlace} (hv : Value.okWide Try.prog w r b0 38 v) (h : DataW.Trod enc Try.prog w 0 (fun _ => true) true 38 v d p) (hs : Sized Try.prog 38 d) :
    ∃ a b, v = .agg #[.int .i64 a, .int .i64 b] := by
  obtain ⟨⟨cs⟩, rfl, hl⟩ := okWide_struct Try.underlying38 hv
  obtain ⟨fuel, hf⟩ := h
  obtain ⟨a, b, hcs⟩ := rd_frac hf hs
  simp [Value.cells] at hcs
  exact ⟨a, b, by rw [hcs]⟩
set_option maxRecDepth 100000 in
theorem op_point {r : Reach} {b0 : Nat} {v : Value} {d : DataW H} {p : List MemPlace} (hv : Value.okWide Try.prog w r b0 40 v) (h : DataW.Trod enc Try.prog w 0 (fun _ => true) true 40 v d p) (hs : Sized Try.prog 40 d) :
    ∃ A c l z, v = .agg #[.slice A l.length c, .int .i64 z] ∧ Rd w A c l ∧ (∀ z ∈ l, -9223372036854775808 ≤ z ∧ z ≤ 9223372036854775807) ∧ (-9223372036854775808 ≤ z ∧ z ≤ 9223372036854775807) := by
  obtain ⟨⟨cs⟩, rfl, hl⟩ := okWide_struct Try.underlying40 hv
  obtain ⟨fuel, hf⟩ := h
  obtain ⟨A, c, l, z, hcs, hr, hw⟩ := rd_point hf hs
  simp [Value.cells] at hcs
  exact ⟨A, c, l, z, by rw [hcs], hr, hw⟩

/-- All arguments read as they did. -/
theorem trodAll_stays {P : Program} {W W' : World} (hl : laidOutB P = true) (hb : Below W.heap.size W W') (sp : Nat → Bool) : ∀ (ts : List TypeId) (vs : List Value) (ds : List (DataW H)) (ps : List MemPlace),
    (∀ t ∈ ts, P.readableRec t = true ∧ t < P.types.size) → DataW.TrodAll enc P W 0 (fun _ => true) true ts vs ds ps → (∀ x ∈ ps, x.block < W.heap.size) → (∀ x ∈ ps, sp x.block = true) →
    DataW.TrodAll enc P W' 0 sp true ts vs ds ps
  | [], vs, ds, ps, _, h, _, _ => by cases vs <;> cases ds <;> simp_all [DataW.TrodAll]
  | t :: ts, vs, ds, ps, hr, h, hlt, hs => by
    obtain ⟨v, vs', d, ds', p, q, rfl, rfl, rfl, h1, h2⟩ := trodAll_cons h
    obtain ⟨hr1, hr2⟩ := hr t (by simp)
    refine ⟨p, q, WideElems.Trod_stays hl hr1 hr2 h1 (fun x hx => hb.same (hlt x (by simp [hx]))) (fun x hx => hs x (by simp [hx])),
      trodAll_stays hl hb sp ts vs' ds' q (fun t ht => hr t (by simp [ht])) h2 (fun x hx => hlt x (by simp [hx])) (fun x hx => hs x (by simp [hx])), rfl⟩

set_option maxRecDepth 100000 in
/-- The law's last step: it has returned true, and made new memory alone. -/
theorem law_post {f : Func} {s : ChangeSpec} {W W' : World} {args : Array Value} {ds gs : List (DataW H)} {before : List MemPlace}
    (hW : DataW.Whole enc Try.prog f.params.toList s.vars false W args.toList ds gs before) (hv : s.vars = [])
    (hf : s.fn H (ds ++ gs) = { results := [.lit (.bool true)], args := ds }) (hR : f.resultTypes = #[4]) (hr : ∀ t ∈ f.params.toList, Try.prog.readableRec t = true ∧ t < Try.prog.types.size)
    (hb : Below W.heap.size W W') : ∃ v, Ending.returned (.bool true) = .returned v ∧ s.post enc Try.prog f false true false false W args v W' := by
  refine ⟨_, rfl, ?_⟩
  have hW' := hW
  obtain ⟨p, q, hA, hV, rfl, hfz, hnd⟩ := hW
  rw [hv] at hV
  obtain ⟨rfl, rfl⟩ := trodVars_none hV
  refine post_of_below (pa := p) (pv := []) hW' ?_ ?_ ?_ rfl hb ?_
  · intro _ _ _
    rw [hf, hR]
    exact trodAll_mk1 (shut_bool Try.underlying4 _)
  · intro sp hsp
    rw [hf]
    exact trodAll_stays Try.laidOut hb sp _ _ _ _ hr hA (fun x hx => hW'.lt x (by simpa using hx)) (fun x hx => hsp x (by simpa using hx))
  · intro sp _
    rw [hf, hv]
    rfl
  · exact ok_one hR rfl (okWide_bool_mk Try.underlying4 _)
end
end Go.Proofs.Ytjcdkbalhleeeab
