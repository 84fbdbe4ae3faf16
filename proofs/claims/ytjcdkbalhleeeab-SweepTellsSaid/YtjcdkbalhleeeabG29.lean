/-
  Contracts of functions and plain laws that later parts of the proof use. The conditions stand in each theorem.
-/
import Derived.Test.YtjcdkbalhleeeabG22
import Derived.Test.YtjcdkbalhleeeabG23
import Derived.Test.YtjcdkbalhleeeabG28
import Derived.Test.YtjcdkbalhleeeabG06
import Derived.ChangeSame
import Derived.ProofKit
import Derived.Lib.SmallJoins
import Derived.SizedLaws
import Derived.Carry
import Derived.Deep.Slices
namespace Go.Proofs.Ytjcdkbalhleeeab
open Go.RowKit

theorem PcOwn.rd' {w : World} {base : Nat} {v : Value} {L : List PC} (h : PcOwn w base v L) : PcRd w base v L := h.rd
set_option maxRecDepth 100000 in
set_option maxHeartbeats 2000000 in
theorem sweepTells_walk (A : Option Addr) (c : Nat) (A2 : Option Addr) (c2 : Nat) (p : PG) (B : Option Addr) (b : List Int) (cb : Nat) (w : World) (hp : Pg w A c A2 c2 p) (hb : Rd w B cb b) :
    Calls Try.prog 5 #[.agg #[.slice A p.costs.length c, .slice A2 p.rows.length c2], .slice B b.length cb] w fun e w' => e = .returned (.bool true) ∧ Below w.heap.size w w' := by
  have HP := Lib.hid hp
  have HBY := Lib.hid hb
  clear hp hb
  go_enter Try.func5, Try.ntmps5
  go_upto_region 1 with fail
  have BP := Lib.hid (Blk.mk' w 25 #[.slice A p.costs.length c, .slice A2 p.rows.length c2])
  have HB := Lib.hid ((Below.refl w.heap.size w).alloc (Nat.le_refl _) (.cells #[.slice A p.costs.length c, .slice A2 p.rows.length c2] 25))
  generalize (w.alloc (.cells #[.slice A p.costs.length c, .slice A2 p.rows.length c2] 25)) = V at *
  have zV := HB.out.size
  have p0 : V.cell? ⟨w.heap.size, 0, none⟩ = some (.slice A p.costs.length c) := BP.out.cell 0
  have p1 : V.cell? ⟨w.heap.size, 1, none⟩ = some (.slice A2 p.rows.length c2) := BP.out.cell 1
  go_wp2_with fail
  refine (sweep_Sweep A c A2 c2 p B b cb V (HP.out.below HB.out) (HBY.out.below HB.out)).mono ?_
  rintro e w1 ⟨v, rfl, hpc, hb1⟩
  have HPC := Lib.hid hpc
  have HB1 := Lib.hid (HB.out.trans (hb1.mono zV))
  have BP1 := Lib.hid (BP.out.next hb1)
  have z1 := HB1.out.size
  clear hb1 p0 p1 hpc
  have p0 : w1.cell? ⟨w.heap.size, 0, none⟩ = some (.slice A p.costs.length c) := BP1.out.cell 0
  have p1 : w1.cell? ⟨w.heap.size, 1, none⟩ = some (.slice A2 p.rows.length c2) := BP1.out.cell 1
  go_wp2_with fail
  refine (ref8_Wrong A c A2 c2 p B b cb w1 (HP.out.below HB1.out) (HBY.out.below HB1.out)).mono ?_
  rintro e w2 ⟨rfl, hb2⟩
  have HPC2 := Lib.hid (HPC.out.below hb2)
  have HB2 := Lib.hid (HB1.out.trans (hb2.mono z1))
  have BP2 := Lib.hid (BP1.out.next hb2)
  have z2 := HB2.out.size
  clear hb2 p0 p1 HPC
  have p0 : w2.cell? ⟨w.heap.size, 0, none⟩ = some (.slice A p.costs.length c) := BP2.out.cell 0
  have p1 : w2.cell? ⟨w.heap.size, 1, none⟩ = some (.slice A2 p.rows.length c2) := BP2.out.cell 1
  obtain ⟨er, her⟩ : ∃ er, swpE p b = er := ⟨_, rfl⟩
  have HER := Lib.hid her
  rw [her]
  clear her
  by_cases h0 : er = 0
  · subst h0
    have hm : mayPB p = true ∧ manyB b p.costs.length 400 = true := by
      have := HER.out
      unfold swpE at this
      cases h1 : mayPB p <;> cases h2 : manyB b p.costs.length 400 <;> simp [h1, h2] at this ⊢
    have HM := Lib.hid hm.1
    have HG := Lib.hid (show By p b from ⟨(manyB_iff.1 hm.2).2, (manyB_iff.1 hm.2).1⟩)
    have HLL := Lib.hid (show swpL p b = ansP (grpF lowR highR p b (allA p)) by
      unfold swpL
      rw [if_pos HER.out]
      exact ans_uniq HG.out (grp_prog HG.out) (grp_doc HM.out HG.out))
    rw [HLL.out] at HPC2
    clear hm
    go_wp2_with fail
    refine (ref8_Sweep A c A2 c2 p B b cb w2 (HP.out.below HB2.out) (HBY.out.below HB2.out) HM.out HG.out).mono ?_
    rintro e w3 ⟨v3, rfl, ho3, hb3⟩
    have HR3 := Lib.hid (PcOwn.rd' ho3)
    have HPC3 := Lib.hid (HPC2.out.below hb3)
    have HB3 := Lib.hid (HB2.out.trans (hb3.mono z2))
    clear ho3 hb3 p0 p1
    go_wp2_with fail
    refine (ref8_Same _ _ _ _ _ w3 HPC3.out HR3.out).mono ?_
    rintro e w4 ⟨rfl, hb4⟩
    have HB4 := Lib.hid (HB3.out.trans (hb4.mono HB3.out.size))
    clear hb4
    go_wp2_with fail
    go_ret
    exact ⟨rfl, HB4.out⟩
  · have HLL := Lib.hid (show swpL p b = [] by unfold swpL; rw [if_neg (by rw [HER.out]; exact h0)])
    have hv : ∃ A' c', v = .slice A' 0 c' := by
      have := HPC2.out
      rw [HLL.out] at this
      rcases this with ⟨_, h⟩ | ⟨h, _⟩
      · exact h
      · simp at h
    obtain ⟨A', c', rfl⟩ := hv
    go_wp2_with fail
    go_ret
    exact ⟨rfl, HB2.out⟩
end Go.Proofs.Ytjcdkbalhleeeab

namespace Go.Proofs.Ytjcdkbalhleeeab
open Go.RowKit Go.WideShapes Go.ChangeShapes
section
variable {H : Type} {enc : TypeId × Value → H} {P : Program}
theorem post_of_below {f : Func} {s : ChangeSpec} {apart fresh handsOn again : Bool} {W W' : World} {args : Array Value} {v : Value} {ds gs : List (DataW H)} {before pa pv : List MemPlace}
    (hW : DataW.Whole enc P f.params.toList s.vars apart W args.toList ds gs before)
    (hres : ∀ (b : Nat) (sp : Nat → Bool) (hd : Bool), DataW.TrodAll enc P W' b sp hd f.resultTypes.toList (v.resultList f.resultTypes.size) (s.fn H (ds ++ gs)).results [])
    (hargs : ∀ sp : Nat → Bool, (∀ p ∈ before, sp p.block = true) → DataW.TrodAll enc P W' 0 sp true f.params.toList args.toList (s.fn H (ds ++ gs)).args pa)
    (hvars : ∀ sp : Nat → Bool, (∀ p ∈ before, sp p.block = true) → DataW.TrodVars enc P W' sp s.vars (s.fn H (ds ++ gs)).vars pv)
    (hps : before = pa ++ pv) (hb : Below W.heap.size W W')
    (hok : ∀ (j : Nat) (t : TypeId) (r : Value), f.resultTypes[j]? = some t → (v.resultList f.resultTypes.size)[j]? = some r → Value.okWide P W' .any 0 t r) :
    s.post enc P f apart fresh handsOn again W args v W' := by
  have hlt : ∀ p ∈ before, p.block < W.heap.size := fun p hp => hW.lt p hp
  have hold : ∀ p ∈ before, (fun b => decide (b < W.heap.size)) p.block = true := fun p hp => by simpa using hlt p hp
  refine ⟨ds, gs, before, [], pa, pv, hW, hres _ _ _, hargs _ hold, hvars _ hold, World.keptBut_mono (fun p hp => ⟨hp, ?_⟩) (hb.frame (· ∈ before)), fun _ => ?_⟩
  · rw [hps, List.mem_append] at hp
    exact Or.inr hp
  · obtain ⟨_, _, _, _, _, hz, hn⟩ := hW
    refine ⟨hok, _, _, ([] ++ pa) ++ pv, ⟨[] ++ pa, pv, trodAll_append (hargs _ (fun _ _ => rfl)) (hres _ _ _), hvars _ (fun _ _ => rfl), rfl, ?_, ?_⟩, ?_⟩
    · intro b off hp
      have hin : MemPlace.cell b off ∈ before := by rw [hps]; simpa using hp
      rw [hb.frozen (hlt _ hin)]
      exact hz b off hin
    · intro ha
      have := hn ha
      rw [hps] at this
      simpa using this
    · intro p hp _
      rw [hps]
      simpa using hp
end
theorem Try.own : ownKnob Try.prog.godebug = none := by kernel_rfl
end Go.Proofs.Ytjcdkbalhleeeab

namespace Go.Proofs.Ytjcdkbalhleeeab
open Go.RowKit Go.WideShapes Go.ChangeShapes Go.Deep

theorem Try.laidOut : laidOutB Try.prog = true := by kernel_rfl

/-- The reach, of one datum. -/
def Sized {H : Type} (P : Program) (t : TypeId) (d : DataW H) : Prop := ∀ n ∈ d.weights P t, n ≤ reachBytes

section
variable {H : Type} {enc : TypeId × Value → H} {w : World} {n : Nat}

theorem sized_at {P : Program} {ts : List TypeId} {ds : List (DataW H)} (h : (DataW.weightsEach P ts ds).all (· ≤ reachBytes) = true) {j : Nat} {t : TypeId} {d : DataW H} (ht : ts[j]? = some t) (hd : ds[j]? = some d) : Sized P t d := fun m hm => by
  have := List.all_eq_true.1 h _ (DataW.weights_mem_each ht hd m hm)
  simpa using this

/-- An integer, off its cells. -/
theorem rd_int {t : TypeId} {k : IntKind} {cs : List Value} {x : DataW H × List MemPlace} (ht : Try.prog.underlying t = some (.int k)) (h : DataW.trod enc Try.prog w 0 (fun _ => true) true n t cs = some x) :
    ∃ z, cs = [.int k z] ∧ x = (.lit (.int k z), []) ∧ (Lit.int k z).wf = true := by
  obtain ⟨z, h1, h2, h3⟩ := DataW.trod_int ht h
  exact ⟨z, h1, h2, h3⟩

set_option maxRecDepth 100000 in
/-- A slice of 64-bit numbers, off its cells. -/
theorem rd_ints {t e : TypeId} {cs : List Value} {x : DataW H × List MemPlace} (ht : Try.prog.underlying t = some (.slice e)) (he : Try.prog.underlying e = some (.int .i64)) (hc : Try.prog.cellsOf e = 1) (hy : Try.prog.bytesOf e = 8)
    (h : DataW.trod enc Try.prog w 0 (fun _ => true) true n t cs = some x) (hs : Sized Try.prog t x.1) :
    ∃ A c l, cs = [.slice A l.length c] ∧ Rd w A c l ∧ (∀ z ∈ l, -9223372036854775808 ≤ z ∧ z ≤ 9223372036854775807) := by
  rcases open_ints ht he hc h with ⟨rfl, rfl⟩ | ⟨a, len, cap, zs, rfl, hb, hl, hm, hz, rfl, hcell, hwf⟩
  · exact ⟨none, 0, [], rfl, Rd.nil w, by simp⟩
  · simp only [if_true] at hz
    have hlen : (zs.take len).length = len := by rw [List.length_take]; omega
    have hsz : cap * 8 ≤ reachBytes := by
      have := hs ((lits (H := H) .i64 (zs.take len)).length * Try.prog.bytesOf e + (lits (H := H) .i64 (zs.drop len)).length * Try.prog.bytesOf e) (by simp [DataW.weights, ht, Nat.add_mul])
      simp only [lits, List.length_map, List.length_take, List.length_drop, hy] at this
      have e1 : min len zs.length = len := by omega
      rw [e1] at this
      have e2 : zs.length - len = cap - len := by omega
      rw [e2] at this
      rw [← Nat.add_mul] at this
      rwa [show len + (cap - len) = cap from by omega] at this
    have hr : reachBytes ≤ 140737488351232 := by decide
    refine ⟨some a, cap, zs.take len, by rw [hlen], ⟨by omega, by unfold maxLen at hm; omega, by omega, fun _ => ⟨a, rfl, fun j u hu => ?_⟩⟩, fun z hz => ?_⟩
    · rw [List.getElem?_map, List.getElem?_take] at hu
      by_cases hj : j < len
      · rw [if_pos hj] at hu
        have hj2 : j < zs.length := by omega
        rw [List.getElem?_eq_getElem hj2] at hu
        simp at hu
        rw [hcell j hj2, ← hu]
        simp [hj2]
      · rw [if_neg hj] at hu; simp at hu
    · have := hwf z (List.mem_of_mem_take hz)
      simp [Lit.wf, IntKind.min, IntKind.max, IntKind.signed, IntKind.bits] at this
      omega

theorem sized_part {P : Program} {t : TypeId} {fs : Array Field} {parts : List (DataW H)} (ht : P.underlying t = some (.struct fs)) (h : Sized P t (.agg parts)) {j : Nat} {f : Field} {d : DataW H} (hf : fs[j]? = some f) (hd : parts[j]? = some d) : Sized P f.type d := fun m hm =>
  h m (by
    simp only [DataW.weights, ht]
    exact DataW.weights_mem_each (j := j) (by simp [hf]) hd m hm)

set_option maxRecDepth 100000 in
/-- A struct of two fields, off its cells: the first of k cells. -/
theorem rd_two {t : TypeId} {f0 f1 : Field} {cs : List Value} {x : DataW H × List MemPlace} (ht : Try.prog.underlying t = some (.struct #[f0, f1])) (h : DataW.trod enc Try.prog w 0 (fun _ => true) true n t cs = some x) (hs : Sized Try.prog t x.1) :
    ∃ (y0 y1 : DataW H × List MemPlace) (m : Nat), cs.length = Try.prog.cellsOf t ∧ DataW.trod enc Try.prog w 0 (fun _ => true) true m f0.type ((cs.drop f0.offset).take (Try.prog.cellsOf f0.type)) = some y0 ∧
      DataW.trod enc Try.prog w 0 (fun _ => true) true m f1.type ((cs.drop f1.offset).take (Try.prog.cellsOf f1.type)) = some y1 ∧ Sized Try.prog f0.type y0.1 ∧ Sized Try.prog f1.type y1.1 := by
  obtain ⟨xs, m, _, rfl, hl, hx, hi⟩ := DataW.trod_struct ht h
  match xs, hx with
  | [y0, y1], _ =>
    exact ⟨y0, y1, m, hl, hi 0 f0 rfl, hi 1 f1 rfl, sized_part ht hs (j := 0) rfl rfl, sized_part ht hs (j := 1) rfl rfl⟩

theorem cells_ints : Try.prog.cellsOf 22 = 1 := by kernel_rfl
theorem cells_int64 : Try.prog.cellsOf 2 = 1 := by kernel_rfl
theorem bytes_int64 : Try.prog.bytesOf 2 = 8 := by kernel_rfl

theorem list2 {α : Type} {l : List α} (h : l.length = 2) : ∃ a b, l = [a, b] := by
  match l, h with
  | [a, b], _ => exact ⟨a, b, rfl⟩

/-! By value, as parameters come. -/
set_option maxRecDepth 100000 in
theorem op_ints {r : Reach} {b0 : Nat} {t e : TypeId} {v : Value} {d : DataW H} {p : List MemPlace} (ht : Try.prog.underlying t = some (.slice e)) (he : Try.prog.underlying e = some (.int .i64)) (hc : Try.prog.cellsOf e = 1) (hy : Try.prog.bytesOf e = 8)
    (hv : Value.okWide Try.prog w r b0 t v) (h : DataW.Trod enc Try.prog w 0 (fun _ => true) true t v d p) (hs : Sized Try.prog t d) :
    ∃ A c l, v = .slice A l.length c ∧ Rd w A c l ∧ (∀ z ∈ l, -9223372036854775808 ≤ z ∧ z ≤ 9223372036854775807) := by
  obtain ⟨a, m, c, rfl⟩ := okWide_slice ht hv
  obtain ⟨fuel, hf⟩ := h
  obtain ⟨A, c', l, hcs, hr, hw⟩ := rd_ints ht he hc hy hf hs
  simp [Value.cells] at hcs
  exact ⟨A, c', l, by rw [hcs.1, hcs.2.1, hcs.2.2], hr, hw⟩
/-- All arguments read as they did. -/
theorem trodAll_stays {P : Program} {W W' : World} (hl : laidOutB P = true) (hb : Below W.heap.size W W') (sp : Nat → Bool) : ∀ (ts : List TypeId) (vs : List Value) (ds : List (DataW H)) (ps : List MemPlace),
    (∀ t ∈ ts, P.readableRec t = true ∧ t < P.types.size) → DataW.TrodAll enc P W 0 (fun _ => true) true ts vs ds ps → (∀ x ∈ ps, x.block < W.heap.size) → (∀ x ∈ ps, sp x.block = true) →
    DataW.TrodAll enc P W' 0 sp true ts vs ds ps
  | [], vs, ds, ps, _, h, _, _ => by cases vs <;> cases ds <;> simp_all [DataW.TrodAll]
  | t :: ts, vs, ds, ps, hr, h, hlt, hs => by
    obtain ⟨v, vs', d, ds', p, q, rfl, rfl, rfl, h1, h2⟩ := trodAll_cons h
    obtain ⟨hr1, hr2⟩ := hr t (by simp)
    refine ⟨p, q, WideElems.Trod_stays hl hr1 hr2 h1 (fun x hx => hb.same (hlt x (by simp [hx]))) (fun x hx => hs x (by simp [hx])),
      trodAll_stays hl hb sp ts vs' ds' q (fun t ht => hr t (by simp [ht])) h2 (fun x hx => hlt x (by simp [hx])) (fun x hx => hs x (by simp [hx])), rfl⟩

set_option maxRecDepth 100000 in
/-- The law's last step: it has returned true, and made new memory alone. -/
theorem law_post {f : Func} {s : ChangeSpec} {W W' : World} {args : Array Value} {ds gs : List (DataW H)} {before : List MemPlace}
    (hW : DataW.Whole enc Try.prog f.params.toList s.vars false W args.toList ds gs before) (hv : s.vars = [])
    (hf : s.fn H (ds ++ gs) = { results := [.lit (.bool true)], args := ds }) (hR : f.resultTypes = #[4]) (hr : ∀ t ∈ f.params.toList, Try.prog.readableRec t = true ∧ t < Try.prog.types.size)
    (hb : Below W.heap.size W W') : ∃ v, Ending.returned (.bool true) = .returned v ∧ s.post enc Try.prog f false true false false W args v W' := by
  refine ⟨_, rfl, ?_⟩
  have hW' := hW
  obtain ⟨p, q, hA, hV, rfl, hfz, hnd⟩ := hW
  rw [hv] at hV
  obtain ⟨rfl, rfl⟩ := trodVars_none hV
  refine post_of_below (pa := p) (pv := []) hW' ?_ ?_ ?_ rfl hb ?_
  · intro _ _ _
    rw [hf, hR]
    exact trodAll_mk1 (shut_bool Try.underlying4 _)
  · intro sp hsp
    rw [hf]
    exact trodAll_stays Try.laidOut hb sp _ _ _ _ hr hA (fun x hx => hW'.lt x (by simpa using hx)) (fun x hx => hsp x (by simpa using hx))
  · intro sp _
    rw [hf, hv]
    rfl
  · exact ok_one hR rfl (okWide_bool_mk Try.underlying4 _)
end
end Go.Proofs.Ytjcdkbalhleeeab

namespace Go.Proofs.Ytjcdkbalhleeeab
open Go.RowKit Go.WideShapes Go.ChangeShapes Go.Deep

theorem weights_all {H : Type} {P : Program} {e : TypeId} {l : List (DataW H)} {d : DataW H} (h : d ∈ l) : ∀ n ∈ d.weights P e, n ∈ DataW.weightsAll P e l := by
  induction l with
  | nil => simp at h
  | cons x l ih =>
    intro n hn
    simp only [DataW.weightsAll, List.mem_append]
    rcases List.mem_cons.1 h with rfl | h
    · exact Or.inl hn
    · exact Or.inr (ih h n hn)
theorem sized_elem {H : Type} {P : Program} {t e : TypeId} {l s : List (DataW H)} (ht : P.underlying t = some (.slice e)) (h : Sized P t (.slice l s)) {d : DataW H} (hd : d ∈ l) : Sized P e d := fun n hn =>
  h n (by simp only [DataW.weights, ht, List.mem_cons, List.mem_append]; exact Or.inr (Or.inl (weights_all hd n hn)))

theorem cells_row : Try.prog.cellsOf 36 = 2 := by kernel_rfl
theorem bytes_row : Try.prog.bytesOf 36 = 32 := by kernel_rfl
theorem cells_rows : Try.prog.cellsOf 23 = 1 := by kernel_rfl
theorem cells_prog : Try.prog.cellsOf 25 = 2 := by kernel_rfl

section
variable {H : Type} {enc : TypeId × Value → H} {w : World} {n : Nat}

theorem add_one (a : Addr) : a.add 1 = ⟨a.block, a.off + 1, none⟩ := rfl
theorem add_zero' (a : Addr) : a.add 0 = a := rfl

set_option maxRecDepth 100000 in
/-- A slice of rows, off its cells. -/
theorem rd_rows {cs : List Value} {x : DataW H × List MemPlace} (h : DataW.trod enc Try.prog w 0 (fun _ => true) true n 23 cs = some x) (hs : Sized Try.prog 23 x.1) :
    ∃ A c rs, cs = [.slice A rs.length c] ∧ Rw w A c rs := by
  rcases open_slice Try.underlying23 h with ⟨rfl, rfl⟩ | ⟨a, len, cap, m, fuel, D, Pl, rfl, hb, hl, hm, hmm, rfl, hi⟩
  · exact ⟨none, 0, [], rfl, ⟨by simp, by omega, by simp, fun h => by simp at h⟩⟩
  · simp only [if_true] at hmm
    subst hmm
    have hsz : (m * 32 : Nat) ≤ reachBytes := by
      have := hs ((len + (m - len)) * Try.prog.bytesOf 36) (by simp [DataW.weights, Try.underlying23])
      rw [bytes_row] at this
      rwa [show len + (m - len) = m from by omega] at this
    have hr : reachBytes ≤ 140737488351232 := by decide
    have hrow : ∀ i, i < len → ∃ r : List Int × Int, ∃ A' c', w.cell? (a.add (i * 2)) = some (.slice A' r.1.length c') ∧ w.cell? ⟨(a.add (i * 2)).block, (a.add (i * 2)).off + 1, none⟩ = some (.int .i64 r.2) ∧ Rd w A' c' r.1 := by
      intro i hil
      obtain ⟨cs', hc, ht⟩ := hi i (by omega)
      rw [cells_row] at hc
      have hsi : Sized Try.prog 36 (D i) := sized_elem Try.underlying23 hs (List.mem_map_of_mem (by simpa using hil))
      obtain ⟨y0, y1, k, hk, h0, h1, s0, _⟩ := rd_two Try.underlying36 ht hsi
      obtain ⟨u, v, rfl⟩ := list2 (hk.trans cells_row)
      simp only [cells_int64, cells_ints] at h0 h1
      obtain ⟨A', c', l, ha, hr, _⟩ := rd_ints Try.underlying22 Try.underlying2 cells_int64 bytes_int64 h0 s0
      obtain ⟨z, hz, _⟩ := rd_int Try.underlying2 h1
      simp at ha hz
      subst ha hz
      obtain ⟨_, _, hat⟩ := World.cells?_some hc
      exact ⟨(l, z), A', c', by have := hat 0 (by omega); rw [add_zero'] at this; simpa using this, by simpa [add_one] using hat 1 (by omega), hr⟩
    obtain ⟨f, hf⟩ := choose_lt hrow
    refine ⟨some a, m, (List.range len).map f, by simp, ⟨by simpa using hl, by unfold maxLen at hm; omega, by simp; omega, fun _ => ⟨a, rfl, fun j hj => ?_⟩⟩⟩
    have hj' : j < len := by simpa using hj
    simpa using hf j hj'

set_option maxRecDepth 100000 in
/-- A program, off its cells. -/
theorem rd_prog {cs : List Value} {x : DataW H × List MemPlace} (h : DataW.trod enc Try.prog w 0 (fun _ => true) true n 25 cs = some x) (hs : Sized Try.prog 25 x.1) :
    ∃ A c A2 c2 p, cs = [.slice A p.costs.length c, .slice A2 p.rows.length c2] ∧ Pg w A c A2 c2 p := by
  obtain ⟨y0, y1, m, hl, h0, h1, s0, s1⟩ := rd_two Try.underlying25 h hs
  obtain ⟨u, v, rfl⟩ := list2 (hl.trans cells_prog)
  simp only [cells_rows, cells_ints] at h0 h1
  obtain ⟨A, c, l, ha, hr, _⟩ := rd_ints Try.underlying22 Try.underlying2 cells_int64 bytes_int64 h0 s0
  obtain ⟨A2, c2, rs, hb, hrs⟩ := rd_rows h1 s1
  simp at ha hb
  exact ⟨A, c, A2, c2, ⟨l, rs⟩, by rw [ha, hb], ⟨hr, hrs⟩⟩

set_option maxRecDepth 100000 in
theorem op_prog {r : Reach} {b0 : Nat} {v : Value} {d : DataW H} {p : List MemPlace} (hv : Value.okWide Try.prog w r b0 25 v) (h : DataW.Trod enc Try.prog w 0 (fun _ => true) true 25 v d p) (hs : Sized Try.prog 25 d) :
    ∃ A c A2 c2 q, v = .agg #[.slice A q.costs.length c, .slice A2 q.rows.length c2] ∧ Pg w A c A2 c2 q := by
  obtain ⟨⟨cs⟩, rfl, hl⟩ := okWide_struct Try.underlying25 hv
  obtain ⟨fuel, hf⟩ := h
  obtain ⟨A, c, A2, c2, q, hcs, hq⟩ := rd_prog hf hs
  simp [Value.cells] at hcs
  exact ⟨A, c, A2, c2, q, by rw [hcs], hq⟩
end
end Go.Proofs.Ytjcdkbalhleeeab
