/-
  The last step of a law's row where the call has made new memory alone. (After the guide's lines for a call that froze something new.)
-/
import Derived.Test.YtjcdkbalhleeeabMem
import Derived.ChangeSame
import Derived.ProofKit
import Derived.Lib.SmallJoins
import Derived.SizedLaws
import Derived.Carry
import Derived.Deep.Slices
import Derived.Test.YtjcdkbalhleeeabMemP
import Derived.Test.YtjcdkbalhleeeabPrf2
namespace Go.Proofs.Ytjcdkbalhleeeab
open Go.RowKit Go.WideShapes Go.ChangeShapes
section
variable {H : Type} {enc : TypeId × Value → H} {P : Program}
theorem post_of_below {f : Func} {s : ChangeSpec} {apart fresh handsOn again : Bool} {W W' : World} {args : Array Value} {v : Value} {ds gs : List (DataW H)} {before pa pv : List MemPlace}
    (hW : DataW.Whole enc P f.params.toList s.vars apart W args.toList ds gs before)
    (hres : ∀ (b : Nat) (sp : Nat → Bool) (hd : Bool), DataW.TrodAll enc P W' b sp hd f.resultTypes.toList (v.resultList f.resultTypes.size) (s.fn H (ds ++ gs)).results [])
    (hargs : ∀ sp : Nat → Bool, (∀ p ∈ before, sp p.block = true) → DataW.TrodAll enc P W' 0 sp true f.params.toList args.toList (s.fn H (ds ++ gs)).args pa)
    (hvars : ∀ sp : Nat → Bool, (∀ p ∈ before, sp p.block = true) → DataW.TrodVars enc P W' sp s.vars (s.fn H (ds ++ gs)).vars pv)
    (hps : before = pa ++ pv) (hb : Below W.heap.size W W')
    (hok : ∀ (j : Nat) (t : TypeId) (r : Value), f.resultTypes[j]? = some t → (v.resultList f.resultTypes.size)[j]? = some r → Value.okWide P W' .any 0 t r) :
    s.post enc P f apart fresh handsOn again W args v W' := by
  have hlt : ∀ p ∈ before, p.block < W.heap.size := fun p hp => hW.lt p hp
  have hold : ∀ p ∈ before, (fun b => decide (b < W.heap.size)) p.block = true := fun p hp => by simpa using hlt p hp
  refine ⟨ds, gs, before, [], pa, pv, hW, hres _ _ _, hargs _ hold, hvars _ hold, World.keptBut_mono (fun p hp => ⟨hp, ?_⟩) (hb.frame (· ∈ before)), fun _ => ?_⟩
  · rw [hps, List.mem_append] at hp
    exact Or.inr hp
  · obtain ⟨_, _, _, _, _, hz, hn⟩ := hW
    refine ⟨hok, _, _, ([] ++ pa) ++ pv, ⟨[] ++ pa, pv, trodAll_append (hargs _ (fun _ _ => rfl)) (hres _ _ _), hvars _ (fun _ _ => rfl), rfl, ?_, ?_⟩, ?_⟩
    · intro b off hp
      have hin : MemPlace.cell b off ∈ before := by rw [hps]; simpa using hp
      rw [hb.frozen (hlt _ hin)]
      exact hz b off hin
    · intro ha
      have := hn ha
      rw [hps] at this
      simpa using this
    · intro p hp _
      rw [hps]
      simpa using hp
end
theorem Try.own : ownKnob Try.prog.godebug = none := by kernel_rfl
end Go.Proofs.Ytjcdkbalhleeeab

/-
  What a law is handed, opened to plain lists: numbers, slices of numbers, fractions, points, programs. No condition but the form's own reach.
-/
namespace Go.Proofs.Ytjcdkbalhleeeab
open Go.RowKit Go.WideShapes Go.ChangeShapes Go.Deep

theorem Try.laidOut : laidOutB Try.prog = true := by kernel_rfl

/-- The reach, of one datum. -/
def Sized {H : Type} (P : Program) (t : TypeId) (d : DataW H) : Prop := ∀ n ∈ d.weights P t, n ≤ reachBytes

section
variable {H : Type} {enc : TypeId × Value → H} {w : World} {n : Nat}

theorem sized_at {P : Program} {ts : List TypeId} {ds : List (DataW H)} (h : (DataW.weightsEach P ts ds).all (· ≤ reachBytes) = true) {j : Nat} {t : TypeId} {d : DataW H} (ht : ts[j]? = some t) (hd : ds[j]? = some d) : Sized P t d := fun m hm => by
  have := List.all_eq_true.1 h _ (DataW.weights_mem_each ht hd m hm)
  simpa using this

/-- An integer, off its cells. -/
theorem rd_int {t : TypeId} {k : IntKind} {cs : List Value} {x : DataW H × List MemPlace} (ht : Try.prog.underlying t = some (.int k)) (h : DataW.trod enc Try.prog w 0 (fun _ => true) true n t cs = some x) :
    ∃ z, cs = [.int k z] ∧ x = (.lit (.int k z), []) ∧ (Lit.int k z).wf = true := by
  obtain ⟨z, h1, h2, h3⟩ := DataW.trod_int ht h
  exact ⟨z, h1, h2, h3⟩

set_option maxRecDepth 100000 in
/-- A slice of 64-bit numbers, off its cells. -/
theorem rd_ints {t e : TypeId} {cs : List Value} {x : DataW H × List MemPlace} (ht : Try.prog.underlying t = some (.slice e)) (he : Try.prog.underlying e = some (.int .i64)) (hc : Try.prog.cellsOf e = 1) (hy : Try.prog.bytesOf e = 8)
    (h : DataW.trod enc Try.prog w 0 (fun _ => true) true n t cs = some x) (hs : Sized Try.prog t x.1) :
    ∃ A c l, cs = [.slice A l.length c] ∧ Rd w A c l ∧ (∀ z ∈ l, -9223372036854775808 ≤ z ∧ z ≤ 9223372036854775807) := by
  rcases open_ints ht he hc h with ⟨rfl, rfl⟩ | ⟨a, len, cap, zs, rfl, hb, hl, hm, hz, rfl, hcell, hwf⟩
  · exact ⟨none, 0, [], rfl, Rd.nil w, by simp⟩
  · simp only [if_true] at hz
    have hlen : (zs.take len).length = len := by rw [List.length_take]; omega
    have hsz : cap * 8 ≤ reachBytes := by
      have := hs ((lits (H := H) .i64 (zs.take len)).length * Try.prog.bytesOf e + (lits (H := H) .i64 (zs.drop len)).length * Try.prog.bytesOf e) (by simp [DataW.weights, ht, Nat.add_mul])
      simp only [lits, List.length_map, List.length_take, List.length_drop, hy] at this
      have e1 : min len zs.length = len := by omega
      rw [e1] at this
      have e2 : zs.length - len = cap - len := by omega
      rw [e2] at this
      rw [← Nat.add_mul] at this
      rwa [show len + (cap - len) = cap from by omega] at this
    have hr : reachBytes ≤ 140737488351232 := by decide
    refine ⟨some a, cap, zs.take len, by rw [hlen], ⟨by omega, by unfold maxLen at hm; omega, by omega, fun _ => ⟨a, rfl, fun j u hu => ?_⟩⟩, fun z hz => ?_⟩
    · rw [List.getElem?_map, List.getElem?_take] at hu
      by_cases hj : j < len
      · rw [if_pos hj] at hu
        have hj2 : j < zs.length := by omega
        rw [List.getElem?_eq_getElem hj2] at hu
        simp at hu
        rw [hcell j hj2, ← hu]
        simp [hj2]
      · rw [if_neg hj] at hu; simp at hu
    · have := hwf z (List.mem_of_mem_take hz)
      simp [Lit.wf, IntKind.min, IntKind.max, IntKind.signed, IntKind.bits] at this
      omega

theorem sized_part {P : Program} {t : TypeId} {fs : Array Field} {parts : List (DataW H)} (ht : P.underlying t = some (.struct fs)) (h : Sized P t (.agg parts)) {j : Nat} {f : Field} {d : DataW H} (hf : fs[j]? = some f) (hd : parts[j]? = some d) : Sized P f.type d := fun m hm =>
  h m (by
    simp only [DataW.weights, ht]
    exact DataW.weights_mem_each (j := j) (by simp [hf]) hd m hm)

theorem wf64 {z : Int} (h : (Lit.int .i64 z).wf = true) : -9223372036854775808 ≤ z ∧ z ≤ 9223372036854775807 := by
  simp [Lit.wf, IntKind.min, IntKind.max, IntKind.signed, IntKind.bits] at h; omega

set_option maxRecDepth 100000 in
/-- A struct of two fields, off its cells: the first of k cells. -/
theorem rd_two {t : TypeId} {f0 f1 : Field} {cs : List Value} {x : DataW H × List MemPlace} (ht : Try.prog.underlying t = some (.struct #[f0, f1])) (h : DataW.trod enc Try.prog w 0 (fun _ => true) true n t cs = some x) (hs : Sized Try.prog t x.1) :
    ∃ (y0 y1 : DataW H × List MemPlace) (m : Nat), cs.length = Try.prog.cellsOf t ∧ DataW.trod enc Try.prog w 0 (fun _ => true) true m f0.type ((cs.drop f0.offset).take (Try.prog.cellsOf f0.type)) = some y0 ∧
      DataW.trod enc Try.prog w 0 (fun _ => true) true m f1.type ((cs.drop f1.offset).take (Try.prog.cellsOf f1.type)) = some y1 ∧ Sized Try.prog f0.type y0.1 ∧ Sized Try.prog f1.type y1.1 := by
  obtain ⟨xs, m, _, rfl, hl, hx, hi⟩ := DataW.trod_struct ht h
  match xs, hx with
  | [y0, y1], _ =>
    exact ⟨y0, y1, m, hl, hi 0 f0 rfl, hi 1 f1 rfl, sized_part ht hs (j := 0) rfl rfl, sized_part ht hs (j := 1) rfl rfl⟩

theorem cells_frac : Try.prog.cellsOf 38 = 2 := by kernel_rfl
theorem cells_point : Try.prog.cellsOf 40 = 2 := by kernel_rfl
theorem cells_ints : Try.prog.cellsOf 22 = 1 := by kernel_rfl
theorem cells_int64 : Try.prog.cellsOf 2 = 1 := by kernel_rfl
theorem bytes_int64 : Try.prog.bytesOf 2 = 8 := by kernel_rfl

theorem list2 {α : Type} {l : List α} (h : l.length = 2) : ∃ a b, l = [a, b] := by
  match l, h with
  | [a, b], _ => exact ⟨a, b, rfl⟩

set_option maxRecDepth 100000 in
/-- A fraction, off its cells. -/
theorem rd_frac {cs : List Value} {x : DataW H × List MemPlace} (h : DataW.trod enc Try.prog w 0 (fun _ => true) true n 38 cs = some x) (hs : Sized Try.prog 38 x.1) :
    ∃ a b, cs = [.int .i64 a, .int .i64 b] := by
  obtain ⟨y0, y1, m, hl, h0, h1, _⟩ := rd_two Try.underlying38 h hs
  obtain ⟨u, v, rfl⟩ := list2 (hl.trans cells_frac)
  simp only [cells_int64] at h0 h1
  obtain ⟨a, ha, _⟩ := rd_int Try.underlying2 h0
  obtain ⟨b, hb, _⟩ := rd_int Try.underlying2 h1
  simp at ha hb
  exact ⟨a, b, by rw [ha, hb]⟩

set_option maxRecDepth 100000 in
/-- A point, off its cells. -/
theorem rd_point {cs : List Value} {x : DataW H × List MemPlace} (h : DataW.trod enc Try.prog w 0 (fun _ => true) true n 40 cs = some x) (hs : Sized Try.prog 40 x.1) :
    ∃ A c l d, cs = [.slice A l.length c, .int .i64 d] ∧ Rd w A c l ∧ (∀ z ∈ l, -9223372036854775808 ≤ z ∧ z ≤ 9223372036854775807) ∧ (-9223372036854775808 ≤ d ∧ d ≤ 9223372036854775807) := by
  obtain ⟨y0, y1, m, hl, h0, h1, s0, _⟩ := rd_two Try.underlying40 h hs
  obtain ⟨u, v, rfl⟩ := list2 (hl.trans cells_point)
  simp only [cells_int64, cells_ints] at h0 h1
  obtain ⟨A, c, l, ha, hr, hw⟩ := rd_ints Try.underlying22 Try.underlying2 cells_int64 bytes_int64 h0 s0
  obtain ⟨b, hb, _, hbw⟩ := rd_int Try.underlying2 h1
  simp at ha hb
  exact ⟨A, c, l, b, by rw [ha, hb], hr, hw, wf64 hbw⟩

/-! By value, as parameters come. -/
set_option maxRecDepth 100000 in
theorem op_ints {r : Reach} {b0 : Nat} {t e : TypeId} {v : Value} {d : DataW H} {p : List MemPlace} (ht : Try.prog.underlying t = some (.slice e)) (he : Try.prog.underlying e = some (.int .i64)) (hc : Try.prog.cellsOf e = 1) (hy : Try.prog.bytesOf e = 8)
    (hv : Value.okWide Try.prog w r b0 t v) (h : DataW.Trod enc Try.prog w 0 (fun _ => true) true t v d p) (hs : Sized Try.prog t d) :
    ∃ A c l, v = .slice A l.length c ∧ Rd w A c l ∧ (∀ z ∈ l, -9223372036854775808 ≤ z ∧ z ≤ 9223372036854775807) := by
  obtain ⟨a, m, c, rfl⟩ := okWide_slice ht hv
  obtain ⟨fuel, hf⟩ := h
  obtain ⟨A, c', l, hcs, hr, hw⟩ := rd_ints ht he hc hy hf hs
  simp [Value.cells] at hcs
  exact ⟨A, c', l, by rw [hcs.1, hcs.2.1, hcs.2.2], hr, hw⟩
set_option maxRecDepth 100000 in
theorem op_frac {r : Reach} {b0 : Nat} {v : Value} {d : DataW H} {p : List MemPlace} (hv : Value.okWide Try.prog w r b0 38 v) (h : DataW.Trod enc Try.prog w 0 (fun _ => true) true 38 v d p) (hs : Sized Try.prog 38 d) :
    ∃ a b, v = .agg #[.int .i64 a, .int .i64 b] := by
  obtain ⟨⟨cs⟩, rfl, hl⟩ := okWide_struct Try.underlying38 hv
  obtain ⟨fuel, hf⟩ := h
  obtain ⟨a, b, hcs⟩ := rd_frac hf hs
  simp [Value.cells] at hcs
  exact ⟨a, b, by rw [hcs]⟩
set_option maxRecDepth 100000 in
theorem op_point {r : Reach} {b0 : Nat} {v : Value} {d : DataW H} {p : List MemPlace} (hv : Value.okWide Try.prog w r b0 40 v) (h : DataW.Trod enc Try.prog w 0 (fun _ => true) true 40 v d p) (hs : Sized Try.prog 40 d) :
    ∃ A c l z, v = .agg #[.slice A l.length c, .int .i64 z] ∧ Rd w A c l ∧ (∀ z ∈ l, -9223372036854775808 ≤ z ∧ z ≤ 9223372036854775807) ∧ (-9223372036854775808 ≤ z ∧ z ≤ 9223372036854775807) := by
  obtain ⟨⟨cs⟩, rfl, hl⟩ := okWide_struct Try.underlying40 hv
  obtain ⟨fuel, hf⟩ := h
  obtain ⟨A, c, l, z, hcs, hr, hw⟩ := rd_point hf hs
  simp [Value.cells] at hcs
  exact ⟨A, c, l, z, by rw [hcs], hr, hw⟩

/-- All arguments read as they did. -/
theorem trodAll_stays {P : Program} {W W' : World} (hl : laidOutB P = true) (hb : Below W.heap.size W W') (sp : Nat → Bool) : ∀ (ts : List TypeId) (vs : List Value) (ds : List (DataW H)) (ps : List MemPlace),
    (∀ t ∈ ts, P.readableRec t = true ∧ t < P.types.size) → DataW.TrodAll enc P W 0 (fun _ => true) true ts vs ds ps → (∀ x ∈ ps, x.block < W.heap.size) → (∀ x ∈ ps, sp x.block = true) →
    DataW.TrodAll enc P W' 0 sp true ts vs ds ps
  | [], vs, ds, ps, _, h, _, _ => by cases vs <;> cases ds <;> simp_all [DataW.TrodAll]
  | t :: ts, vs, ds, ps, hr, h, hlt, hs => by
    obtain ⟨v, vs', d, ds', p, q, rfl, rfl, rfl, h1, h2⟩ := trodAll_cons h
    obtain ⟨hr1, hr2⟩ := hr t (by simp)
    refine ⟨p, q, WideElems.Trod_stays hl hr1 hr2 h1 (fun x hx => hb.same (hlt x (by simp [hx]))) (fun x hx => hs x (by simp [hx])),
      trodAll_stays hl hb sp ts vs' ds' q (fun t ht => hr t (by simp [ht])) h2 (fun x hx => hlt x (by simp [hx])) (fun x hx => hs x (by simp [hx])), rfl⟩

set_option maxRecDepth 100000 in
/-- The law's last step: it has returned true, and made new memory alone. -/
theorem law_post {f : Func} {s : ChangeSpec} {W W' : World} {args : Array Value} {ds gs : List (DataW H)} {before : List MemPlace}
    (hW : DataW.Whole enc Try.prog f.params.toList s.vars false W args.toList ds gs before) (hv : s.vars = [])
    (hf : s.fn H (ds ++ gs) = { results := [.lit (.bool true)], args := ds }) (hR : f.resultTypes = #[4]) (hr : ∀ t ∈ f.params.toList, Try.prog.readableRec t = true ∧ t < Try.prog.types.size)
    (hb : Below W.heap.size W W') : ∃ v, Ending.returned (.bool true) = .returned v ∧ s.post enc Try.prog f false true false false W args v W' := by
  refine ⟨_, rfl, ?_⟩
  have hW' := hW
  obtain ⟨p, q, hA, hV, rfl, hfz, hnd⟩ := hW
  rw [hv] at hV
  obtain ⟨rfl, rfl⟩ := trodVars_none hV
  refine post_of_below (pa := p) (pv := []) hW' ?_ ?_ ?_ rfl hb ?_
  · intro _ _ _
    rw [hf, hR]
    exact trodAll_mk1 (shut_bool Try.underlying4 _)
  · intro sp hsp
    rw [hf]
    exact trodAll_stays Try.laidOut hb sp _ _ _ _ hr hA (fun x hx => hW'.lt x (by simpa using hx)) (fun x hx => hsp x (by simpa using hx))
  · intro sp _
    rw [hf, hv]
    rfl
  · exact ok_one hR rfl (okWide_bool_mk Try.underlying4 _)
end
end Go.Proofs.Ytjcdkbalhleeeab

/-
  A program that a law is handed, opened to plain lists. No condition but the form's own reach.
-/
namespace Go.Proofs.Ytjcdkbalhleeeab
open Go.RowKit Go.WideShapes Go.ChangeShapes Go.Deep

theorem weights_all {H : Type} {P : Program} {e : TypeId} {l : List (DataW H)} {d : DataW H} (h : d ∈ l) : ∀ n ∈ d.weights P e, n ∈ DataW.weightsAll P e l := by
  induction l with
  | nil => simp at h
  | cons x l ih =>
    intro n hn
    simp only [DataW.weightsAll, List.mem_append]
    rcases List.mem_cons.1 h with rfl | h
    · exact Or.inl hn
    · exact Or.inr (ih h n hn)
theorem sized_elem {H : Type} {P : Program} {t e : TypeId} {l s : List (DataW H)} (ht : P.underlying t = some (.slice e)) (h : Sized P t (.slice l s)) {d : DataW H} (hd : d ∈ l) : Sized P e d := fun n hn =>
  h n (by simp only [DataW.weights, ht, List.mem_cons, List.mem_append]; exact Or.inr (Or.inl (weights_all hd n hn)))

theorem cells_row : Try.prog.cellsOf 36 = 2 := by kernel_rfl
theorem bytes_row : Try.prog.bytesOf 36 = 32 := by kernel_rfl
theorem cells_rows : Try.prog.cellsOf 23 = 1 := by kernel_rfl
theorem cells_prog : Try.prog.cellsOf 25 = 2 := by kernel_rfl

section
variable {H : Type} {enc : TypeId × Value → H} {w : World} {n : Nat}

theorem add_one (a : Addr) : a.add 1 = ⟨a.block, a.off + 1, none⟩ := rfl
theorem add_zero' (a : Addr) : a.add 0 = a := rfl

set_option maxRecDepth 100000 in
/-- A slice of rows, off its cells. -/
theorem rd_rows {cs : List Value} {x : DataW H × List MemPlace} (h : DataW.trod enc Try.prog w 0 (fun _ => true) true n 23 cs = some x) (hs : Sized Try.prog 23 x.1) :
    ∃ A c rs, cs = [.slice A rs.length c] ∧ Rw w A c rs := by
  rcases open_slice Try.underlying23 h with ⟨rfl, rfl⟩ | ⟨a, len, cap, m, fuel, D, Pl, rfl, hb, hl, hm, hmm, rfl, hi⟩
  · exact ⟨none, 0, [], rfl, ⟨by simp, by omega, by simp, fun h => by simp at h⟩⟩
  · simp only [if_true] at hmm
    subst hmm
    have hsz : (m * 32 : Nat) ≤ reachBytes := by
      have := hs ((len + (m - len)) * Try.prog.bytesOf 36) (by simp [DataW.weights, Try.underlying23])
      rw [bytes_row] at this
      rwa [show len + (m - len) = m from by omega] at this
    have hr : reachBytes ≤ 140737488351232 := by decide
    have hrow : ∀ i, i < len → ∃ r : List Int × Int, ∃ A' c', w.cell? (a.add (i * 2)) = some (.slice A' r.1.length c') ∧ w.cell? ⟨(a.add (i * 2)).block, (a.add (i * 2)).off + 1, none⟩ = some (.int .i64 r.2) ∧ Rd w A' c' r.1 := by
      intro i hil
      obtain ⟨cs', hc, ht⟩ := hi i (by omega)
      rw [cells_row] at hc
      have hsi : Sized Try.prog 36 (D i) := sized_elem Try.underlying23 hs (List.mem_map_of_mem (by simpa using hil))
      obtain ⟨y0, y1, k, hk, h0, h1, s0, _⟩ := rd_two Try.underlying36 ht hsi
      obtain ⟨u, v, rfl⟩ := list2 (hk.trans cells_row)
      simp only [cells_int64, cells_ints] at h0 h1
      obtain ⟨A', c', l, ha, hr, _⟩ := rd_ints Try.underlying22 Try.underlying2 cells_int64 bytes_int64 h0 s0
      obtain ⟨z, hz, _⟩ := rd_int Try.underlying2 h1
      simp at ha hz
      subst ha hz
      obtain ⟨_, _, hat⟩ := World.cells?_some hc
      exact ⟨(l, z), A', c', by have := hat 0 (by omega); rw [add_zero'] at this; simpa using this, by simpa [add_one] using hat 1 (by omega), hr⟩
    obtain ⟨f, hf⟩ := choose_lt hrow
    refine ⟨some a, m, (List.range len).map f, by simp, ⟨by simpa using hl, by unfold maxLen at hm; omega, by simp; omega, fun _ => ⟨a, rfl, fun j hj => ?_⟩⟩⟩
    have hj' : j < len := by simpa using hj
    simpa using hf j hj'

set_option maxRecDepth 100000 in
/-- A program, off its cells. -/
theorem rd_prog {cs : List Value} {x : DataW H × List MemPlace} (h : DataW.trod enc Try.prog w 0 (fun _ => true) true n 25 cs = some x) (hs : Sized Try.prog 25 x.1) :
    ∃ A c A2 c2 p, cs = [.slice A p.costs.length c, .slice A2 p.rows.length c2] ∧ Pg w A c A2 c2 p := by
  obtain ⟨y0, y1, m, hl, h0, h1, s0, s1⟩ := rd_two Try.underlying25 h hs
  obtain ⟨u, v, rfl⟩ := list2 (hl.trans cells_prog)
  simp only [cells_rows, cells_ints] at h0 h1
  obtain ⟨A, c, l, ha, hr, _⟩ := rd_ints Try.underlying22 Try.underlying2 cells_int64 bytes_int64 h0 s0
  obtain ⟨A2, c2, rs, hb, hrs⟩ := rd_rows h1 s1
  simp at ha hb
  exact ⟨A, c, A2, c2, ⟨l, rs⟩, by rw [ha, hb], ⟨hr, hrs⟩⟩

set_option maxRecDepth 100000 in
theorem op_prog {r : Reach} {b0 : Nat} {v : Value} {d : DataW H} {p : List MemPlace} (hv : Value.okWide Try.prog w r b0 25 v) (h : DataW.Trod enc Try.prog w 0 (fun _ => true) true 25 v d p) (hs : Sized Try.prog 25 d) :
    ∃ A c A2 c2 q, v = .agg #[.slice A q.costs.length c, .slice A2 q.rows.length c2] ∧ Pg w A c A2 c2 q := by
  obtain ⟨⟨cs⟩, rfl, hl⟩ := okWide_struct Try.underlying25 hv
  obtain ⟨fuel, hf⟩ := h
  obtain ⟨A, c, A2, c2, q, hcs, hq⟩ := rd_prog hf hs
  simp [Value.cells] at hcs
  exact ⟨A, c, A2, c2, q, by rw [hcs], hq⟩
end
end Go.Proofs.Ytjcdkbalhleeeab

/-
  An answer that a law is handed, opened to plain lists. No condition but the form's own reach.
-/
namespace Go.Proofs.Ytjcdkbalhleeeab
open Go.RowKit Go.WideShapes Go.ChangeShapes Go.Deep
section
variable {H : Type} {enc : TypeId × Value → H} {w : World} {n : Nat}
set_option maxRecDepth 100000 in
theorem rd_five {t : TypeId} {f0 f1 f2 f3 f4 : Field} {cs : List Value} {x : DataW H × List MemPlace} (ht : Try.prog.underlying t = some (.struct #[f0, f1, f2, f3, f4])) (h : DataW.trod enc Try.prog w 0 (fun _ => true) true n t cs = some x) (hs : Sized Try.prog t x.1) :
    ∃ (y0 y1 y2 y3 y4 : DataW H × List MemPlace) (m : Nat), cs.length = Try.prog.cellsOf t ∧ DataW.trod enc Try.prog w 0 (fun _ => true) true m f0.type ((cs.drop f0.offset).take (Try.prog.cellsOf f0.type)) = some y0 ∧
      DataW.trod enc Try.prog w 0 (fun _ => true) true m f1.type ((cs.drop f1.offset).take (Try.prog.cellsOf f1.type)) = some y1 ∧
      DataW.trod enc Try.prog w 0 (fun _ => true) true m f2.type ((cs.drop f2.offset).take (Try.prog.cellsOf f2.type)) = some y2 ∧
      DataW.trod enc Try.prog w 0 (fun _ => true) true m f3.type ((cs.drop f3.offset).take (Try.prog.cellsOf f3.type)) = some y3 ∧
      DataW.trod enc Try.prog w 0 (fun _ => true) true m f4.type ((cs.drop f4.offset).take (Try.prog.cellsOf f4.type)) = some y4 ∧
      Sized Try.prog f1.type y1.1 ∧ Sized Try.prog f2.type y2.1 ∧ Sized Try.prog f3.type y3.1 ∧ Sized Try.prog f4.type y4.1 := by
  obtain ⟨xs, m, _, rfl, hl, hx, hi⟩ := DataW.trod_struct ht h
  match xs, hx with
  | [y0, y1, y2, y3, y4], _ =>
    exact ⟨y0, y1, y2, y3, y4, m, hl, hi 0 f0 rfl, hi 1 f1 rfl, hi 2 f2 rfl, hi 3 f3 rfl, hi 4 f4 rfl, sized_part ht hs (j := 1) rfl rfl, sized_part ht hs (j := 2) rfl rfl, sized_part ht hs (j := 3) rfl rfl, sized_part ht hs (j := 4) rfl rfl⟩
theorem cells_ans : Try.prog.cellsOf 57 = 9 := by kernel_rfl
theorem cells_int' : Try.prog.cellsOf 3 = 1 := by kernel_rfl
theorem list9 {α : Type} {l : List α} (h : l.length = 9) : ∃ a0 a1 a2 a3 a4 a5 a6 a7 a8, l = [a0, a1, a2, a3, a4, a5, a6, a7, a8] := by
  match l, h with
  | [a0, a1, a2, a3, a4, a5, a6, a7, a8], _ => exact ⟨_, _, _, _, _, _, _, _, _, rfl⟩

set_option maxRecDepth 100000 in
theorem op_ans {r : Reach} {b0 : Nat} {v : Value} {d : DataW H} {p : List MemPlace} (hv : Value.okWide Try.prog w r b0 57 v) (h : DataW.Trod enc Try.prog w 0 (fun _ => true) true 57 v d p) (hs : Sized Try.prog 57 d) :
    ∃ X cx Y cy R cr a, v = .agg #[.int .i64 a.kind, .slice X a.xs.length cx, .int .i64 a.xd, .slice Y a.ys.length cy, .int .i64 a.yd, .slice R a.rs.length cr, .int .i64 a.rd, .int .i64 a.wn, .int .i64 a.wd] ∧ An w X cx Y cy R cr a := by
  obtain ⟨⟨cs⟩, rfl, hl⟩ := okWide_struct Try.underlying57 hv
  obtain ⟨fuel, hf⟩ := h
  obtain ⟨y0, y1, y2, y3, y4, m, hl', h0, h1, h2, h3, h4, s1, s2, s3, s4⟩ := rd_five Try.underlying57 hf hs
  obtain ⟨a0, a1, a2, a3, a4, a5, a6, a7, a8, hcs⟩ := list9 (hl'.trans cells_ans)
  simp only [Value.cells] at hcs
  subst hcs
  simp only [Value.cells, cells_int', cells_point, cells_frac] at h0 h1 h2 h3 h4
  obtain ⟨k, hk, _⟩ := rd_int Try.underlying3 h0
  obtain ⟨X, cx, xs, xd, e1, r1, _⟩ := rd_point h1 s1
  obtain ⟨Y, cy, ys, yd, e2, r2, _⟩ := rd_point h2 s2
  obtain ⟨R, cr, rs, rd, e3, r3, _⟩ := rd_point h3 s3
  obtain ⟨wn, wd, e4⟩ := rd_frac h4 s4
  simp at hk e1 e2 e3 e4
  obtain ⟨e1, e1'⟩ := e1
  obtain ⟨e2, e2'⟩ := e2
  obtain ⟨e3, e3'⟩ := e3
  obtain ⟨e4, e4'⟩ := e4
  refine ⟨X, cx, Y, cy, R, cr, ⟨k, xs, xd, ys, yd, rs, rd, wn, wd⟩, ?_, ⟨r1, r2, r3⟩⟩
  rw [hk, e1, e1', e2, e2', e3, e3', e4, e4']
end
theorem cells_int : Try.prog.cellsOf 3 = 1 := by kernel_rfl
theorem bytes_int : Try.prog.bytesOf 3 = 8 := by kernel_rfl
end Go.Proofs.Ytjcdkbalhleeeab
