/-
  Contracts of functions and plain laws that later parts of the proof use. The conditions stand in each theorem.
-/
import Derived.Test.YtjcdkbalhleeeabG08
import Derived.StillTail
namespace Go.Proofs.Ytjcdkbalhleeeab
open Go.RowKit

/-- A fraction and an error are handed back. -/
def RetFr (w : World) (n d er : Int) (e : Ending) (w' : World) : Prop :=
  e = .returned (.tuple #[.agg #[.int .i64 n, .int .i64 d], .int .i64 er]) ∧ Below w.heap.size w w'

theorem frac_Point1 (A : Option Addr) (n : Int) (c : Nat) (d : Int) (w : World) (hr : Rd w A c [n]) :
    Calls Try.prog 47 #[.slice A 1 c, .int .i64 d] w (RetPt w (ptN [n] d) (ptD [n] d) (ptE [n] d)) := frac_Point A [n] c d w hr

theorem frac_Make (n d : Int) (w : World) :
    Calls Try.prog 81 #[.int .i64 n, .int .i64 d] w (RetFr w (frN n d) (ptD [n] d) (ptE [n] d)) := by
  by_cases h0 : ptE [n] d = 0
  · have HE := Lib.hid h0
    have hN : ptN [n] d = [frN n d] := by
      unfold frN ptN; rw [if_pos h0]; simp [divs]
    have HN := Lib.hid hN
    clear h0 hN
    go_enter Try.func81, Try.ntmps81
    go_wp2_with fail
    refine (frac_Point1 _ _ _ _ _ (by exact Rd.new1 _ _ _ _ (by simp))).mono ?_
    rintro e w' ⟨A', c', rfl, hRd, hb, _⟩
    rw [HN.out, HE.out]
    rw [HN.out] at hRd
    obtain ⟨ad, rfl, hc0⟩ := hRd.at_ (k := 0) (by simp)
    have hc1 : w'.cell? ad = some (.int .i64 (frN n d)) := by simpa [Addr.add] using hc0
    have hc2 : ∀ o, (w'.alloc o).cell? ad = some (.int .i64 (frN n d)) := fun o => (World.cell?_alloc_lt w' o ad (World.block_lt_of_cell? _ _ hc1)).trans hc1
    have hV := ((Blk.new w 38 #[.int .i64 0, .int .i64 0] _ rfl).alloc (.cells #[.int .i64 n] 2)).below hb (by simp; omega)
    have hv0 : w'.cell? ⟨w.heap.size, 0, none⟩ = some (.int .i64 0) := hV.cell 0
    have hv1 : w'.cell? ⟨w.heap.size, 1, none⟩ = some (.int .i64 0) := hV.cell 1
    have hf0 := hV.frozen 0
    have hf1 := hV.frozen 1
    have hlt := hV.lt
    have HB := Lib.hid hb
    simp at hc0
    clear hb hRd hV
    go_wp2_with fail
    go_region
    go_wp2_with fail
    refine bodyPost_ret (v := .tuple #[.agg #[.int .i64 (frN n d), .int .i64 (ptD [n] d)], .int .i64 0]) (by simp [results, Try.results81, go_sem, hv0, hv1, hlt]) rfl ?_
    exact ⟨by rw [HE.out], (by (repeat (any_goals (first | exact Below.refl _ _ | exact HB.out | refine below_drewN ?_ _ | refine Below.drew ?_ | refine Below.alloc ?_ ?_ _ | refine Below.setCell ?_ ?_ _ | refine Below.trans ?_ (Below.mono HB.out ?_)))); all_goals (first | omega | (simp; done) | (simp; omega) | ((try have z0 := HB.out.size); (try simp at z0); (try simp); omega)))⟩
  · have HE := Lib.hid h0
    have hN : ptN [n] d = [] := by unfold ptN; rw [if_neg h0]
    have hD : ptD [n] d = 0 := by unfold ptD; rw [if_neg h0]
    have hF : frN n d = 0 := by unfold frN; rw [hN]; rfl
    rw [hD, hF]
    have HN := Lib.hid hN
    have HD := Lib.hid hD
    clear hN hD hF
    go_enter Try.func81, Try.ntmps81
    go_wp2_with fail
    refine (frac_Point1 _ _ _ _ _ (by exact Rd.new1 _ _ _ _ (by simp))).mono ?_
    rintro e w' ⟨A', c', rfl, hRd, hb, _⟩
    rw [HN.out, HD.out]
    have hV := ((Blk.new w 38 #[.int .i64 0, .int .i64 0] _ rfl).alloc (.cells #[.int .i64 n] 2)).below hb (by simp; omega)
    have hv0 : w'.cell? ⟨w.heap.size, 0, none⟩ = some (.int .i64 0) := hV.cell 0
    have hv1 : w'.cell? ⟨w.heap.size, 1, none⟩ = some (.int .i64 0) := hV.cell 1
    have hf0 := hV.frozen 0
    have hf1 := hV.frozen 1
    have hlt := hV.lt
    have HB := Lib.hid hb
    clear hb hRd hV
    go_wp2_with fail
    refine bodyPost_ret (v := .tuple #[.agg #[.int .i64 0, .int .i64 0], .int .i64 (ptE [n] d)]) (by simp [results, Try.results81, go_sem, hv0, hv1, hlt]) rfl ?_
    exact ⟨rfl, (by (repeat (any_goals (first | exact Below.refl _ _ | exact HB.out | refine below_drewN ?_ _ | refine Below.drew ?_ | refine Below.alloc ?_ ?_ _ | refine Below.setCell ?_ ?_ _ | refine Below.trans ?_ (Below.mono HB.out ?_)))); all_goals (first | omega | (simp; done) | (simp; omega) | ((try have z0 := HB.out.size); (try simp at z0); (try simp); omega)))⟩

theorem frac_Less (a b c d : Int) (w : World) :
    Calls Try.prog 30 #[.agg #[.int .i64 a, .int .i64 b], .agg #[.int .i64 c, .int .i64 d]] w fun e w' => e = .returned (.bool (lessB a b c d)) ∧ Below w.heap.size w w' := by
  cases h1 : mayB [a] b with
  | false =>
    have hv : lessB a b c d = false := by simp [lessB, h1]
    rw [hv]
    clear hv
    go_enter Try.func30, Try.ntmps30
    go_wp2_with fail
    refine (frac_May _ _ _).mono ?_
    rintro e w' ⟨rfl, hb⟩
    have HB := Lib.hid hb
    clear hb
    go_wp2_with fail
    go_ret
    exact ⟨rfl, (by (repeat (any_goals (first | exact Below.refl _ _ | exact HB.out | refine below_drewN ?_ _ | refine Below.drew ?_ | refine Below.alloc ?_ ?_ _ | refine Below.setCell ?_ ?_ _ | refine Below.trans ?_ (Below.mono HB.out ?_)))); all_goals (first | omega | (simp; done) | (simp; omega) | ((try have z0 := HB.out.size); (try simp at z0); (try simp); omega)))⟩
  | true =>
    cases h2 : mayB [c] d with
    | false =>
      have hv : lessB a b c d = false := by simp [lessB, h2]
      rw [hv]
      clear hv
      go_enter Try.func30, Try.ntmps30
      go_wp2_with fail
      refine (frac_May _ _ _).mono ?_
      rintro e w' ⟨rfl, hb⟩
      have hV := (Blk.new (w.alloc (.cells #[.int .i64 a, .int .i64 b] 38)) 38 #[.int .i64 c, .int .i64 d] (w.heap.size + 1) (by simp)).below hb (by simp)
      have hv0 : w'.cell? ⟨w.heap.size + 1, 0, none⟩ = some (.int .i64 c) := hV.cell 0
      have hv1 : w'.cell? ⟨w.heap.size + 1, 1, none⟩ = some (.int .i64 d) := hV.cell 1
      have HB := Lib.hid hb
      clear hb hV
      go_wp2_with fail
      refine (frac_May _ _ _).mono ?_
      rintro e w2 ⟨rfl, hb⟩
      have HB2 := Lib.hid hb
      clear hb
      go_wp2_with fail
      go_ret
      exact ⟨rfl, (by (repeat (any_goals (first | exact Below.refl _ _ | exact HB.out | exact HB2.out | refine below_drewN ?_ _ | refine Below.drew ?_ | refine Below.alloc ?_ ?_ _ | refine Below.setCell ?_ ?_ _ | refine Below.trans ?_ (Below.mono HB.out ?_) | refine Below.trans ?_ (Below.mono HB2.out ?_)))); all_goals (first | omega | (simp; done) | (simp; omega) | ((try have z0 := HB.out.size); (try simp at z0); (try have z1 := HB2.out.size); (try simp at z1); (try simp); omega)))⟩
    | true =>
      have ha : -1073741824 ≤ a ∧ a ≤ 1073741824 ∧ 1 ≤ b ∧ b ≤ 1073741824 := by
        simp [mayB, rightB, smallB] at h1; omega
      have hc : -1073741824 ≤ c ∧ c ≤ 1073741824 ∧ 1 ≤ d ∧ d ≤ 1073741824 := by
        simp [mayB, rightB, smallB] at h2; omega
      have hv : lessB a b c d = decide (a * d < c * b) := by simp [lessB, h1, h2]
      rw [hv]
      clear hv
      obtain ⟨hm1, hm2⟩ := mul_bound a d 1073741824 1073741824 (by omega) (by omega) (by omega) (by omega)
      obtain ⟨hm3, hm4⟩ := mul_bound c b 1073741824 1073741824 (by omega) (by omega) (by omega) (by omega)
      go_enter Try.func30, Try.ntmps30
      go_wp2_with fail
      refine (frac_May _ _ _).mono ?_
      rintro e w' ⟨rfl, hb⟩
      have hV := (Blk.new (w.alloc (.cells #[.int .i64 a, .int .i64 b] 38)) 38 #[.int .i64 c, .int .i64 d] (w.heap.size + 1) (by simp)).below hb (by simp)
      have hU := ((Blk.new w 38 #[.int .i64 a, .int .i64 b] _ rfl).alloc (.cells #[.int .i64 c, .int .i64 d] 38)).below hb (by simp; omega)
      have hv0 : w'.cell? ⟨w.heap.size + 1, 0, none⟩ = some (.int .i64 c) := hV.cell 0
      have hv1 : w'.cell? ⟨w.heap.size + 1, 1, none⟩ = some (.int .i64 d) := hV.cell 1
      have HB := Lib.hid hb
      have HV := Lib.hid hV
      have HU := Lib.hid hU
      clear hb hV hU
      go_wp2_with fail
      refine (frac_May _ _ _).mono ?_
      rintro e w2 ⟨rfl, hb⟩
      have hV := HV.out.below hb HV.out.lt
      have hU := HU.out.below hb HU.out.lt
      have hx0 : w2.cell? ⟨w.heap.size + 1, 0, none⟩ = some (.int .i64 c) := hV.cell 0
      have hx1 : w2.cell? ⟨w.heap.size + 1, 1, none⟩ = some (.int .i64 d) := hV.cell 1
      have hx2 : w2.cell? ⟨w.heap.size, 0, none⟩ = some (.int .i64 a) := hU.cell 0
      have hx3 : w2.cell? ⟨w.heap.size, 1, none⟩ = some (.int .i64 b) := hU.cell 1
      have HB2 := Lib.hid hb
      clear hb hV hU hv0 hv1
      go_wp2_with fail
      go_ret
      exact ⟨rfl, (by (repeat (any_goals (first | exact Below.refl _ _ | exact HB.out | exact HB2.out | refine below_drewN ?_ _ | refine Below.drew ?_ | refine Below.alloc ?_ ?_ _ | refine Below.setCell ?_ ?_ _ | refine Below.trans ?_ (Below.mono HB.out ?_) | refine Below.trans ?_ (Below.mono HB2.out ?_)))); all_goals (first | omega | (simp; done) | (simp; omega) | ((try have z0 := HB.out.size); (try simp at z0); (try have z1 := HB2.out.size); (try simp at z1); (try simp); omega)))⟩
end Go.Proofs.Ytjcdkbalhleeeab

namespace Go.Proofs.Ytjcdkbalhleeeab
open Go.RowKit

section
variable {P : Program} {ops : Array Oper} {md : Region.Mode} {C : World → Prop}
/-- Whatever order is picked among those ahead of the tail. -/
def hq (P : Program) (md : Region.Mode) (ops : Array Oper) (C : World → Prop) (n : Nat) (L : Array Bool → Act → Prop) : Nat → Array Bool → Act → Prop
  | 0, ls, a => L ls a
  | f + 1, ls, a => Region.ready md ops ls ≠ [] ∧ ∀ i ∈ Region.ready md ops ls, i < n ∧ qOp P ops C i (hq P md ops C n L f (ls.setIfInBounds i true)) a
theorem hq_any {n k : Nat} {L : Array Bool → Act → Prop} {Q : Exit → Act → World → Prop} (hL : ∀ ls a w, C w → L ls a → wpAny P md ops Q k ls a w) (f : Nat) :
    ∀ (ls : Array Bool) (a : Act) (w : World), C w → hq P md ops C n L f ls a → wpAny P md ops Q (f + k) ls a w := by
  induction f with
  | zero => intro ls a w hw h; rw [Nat.zero_add]; exact hL _ _ _ hw h
  | succ f ih =>
    intro ls a w hw h
    rw [Nat.succ_add]
    exact ⟨fun e => absurd e h.1, fun i hi => wpOp_of_qOp hw (fun a' w' c k => ih _ a' w' c k) (h.2 i hi).2⟩
theorem hq_first {n i : Nat} {o : Oper} {v : Value} {L : Array Bool → Act → Prop} (hi : ops[i]? = some o) (hsel : ∀ (j : Nat) (o : Oper) cs b, ops[j]? = some o → o.op ≠ .select cs b)
    (hs : Region.sinkB md ops n = true) (hc : Region.chainB md ops n = true) (hn : n < ops.size) (hin : i < n) (hL : ∀ ls a, L ls a → ∀ j ∈ Region.ready md ops ls, n ≤ j) (f : Nat) :
    ∀ (ls : Array Bool) (a : Act), HeadInv md ops n ls →
      (∀ j oj, ops[j]? = some oj → j ≠ i → ls.getD j true = false → (∀ e ∈ oj.after, Region.binds md e = true → e.on ≠ i) → o.apart ops oj = true) →
      i ∈ Region.ready md ops ls → YieldsIn P ops C o v a → hq P md ops C n L f (ls.setIfInBounds i true) (a.put o.dst v) → hq P md ops C n L (f + 1) ls a := by
  have early : ∀ ls : Array Bool, HeadInv md ops n ls → i ∈ Region.ready md ops ls → ∀ j ∈ Region.ready md ops ls, j < n := fun ls inv hr j hj =>
    Decidable.byContradiction fun h => tail_waits hs hc hn inv _ i rfl hin (mem_ready.1 hr).1 j (by omega) hj
  induction f with
  | zero =>
    intro ls a inv _ hr hy H
    refine ⟨fun e => (by rw [e] at hr; cases hr), fun j hj => ⟨early ls inv hr j hj, ?_⟩⟩
    by_cases e : j = i
    · subst e; exact hy.qOp hi H
    · have := hL _ _ H j (ready_mono hj e); have := early ls inv hr j hj; omega
  | succ f ih =>
    intro ls a inv hfree hr hy H
    have hun := (mem_ready.1 hr).1
    refine ⟨fun e => (by rw [e] at hr; cases hr), fun j hj => ⟨early ls inv hr j hj, ?_⟩⟩
    by_cases e : j = i
    · subst e; exact hy.qOp hi H
    · obtain ⟨hj1, oj, hoj, hall⟩ := mem_ready.1 hj
      have hq := qOp_put hoj (hfree j oj hoj e hj1 fun e' he hb q => by
        have h1 := hall e' he hb
        rw [q, getD_both hun] at h1
        cases h1) (fun cs b => hsel i o cs b hi) (fun cs b => hsel j oj cs b hoj) hy (H.2 j (ready_mono hj e)).2
      refine qOp_mono (fun a' k => ih _ a' (inv.set hj (early ls inv hr j hj)) (fun q oq hoq hqi hu hno => hfree q oq hoq hqi ?_ hno) (ready_mono hr (Ne.symm e)) k.1 ?_) hq
      · by_cases e' : j = q
        · subst e'; exact hj1
        · rwa [getD_set_ne true e'] at hu
      · rw [Array.setIfInBounds_comm _ _ e]; exact k.2
theorem hq_lex {n k : Nat} {K : Act → Prop} (hsel : Region.noSelect ops = true) (hs : Region.sinkB md ops n = true) (hc : Region.chainB md ops n = true) (hn : n < ops.size) (l : List Oper) :
    ∀ (q : Nat) (ls : Array Bool) (a : Act), (∀ j, j < l.length → l[j]? = ops[q + j]?) → q + l.length = n → HeadInv md ops n ls → Region.lexHead md ops k l.length q ls = true → wpQuiet P ops C K l a →
      hq P md ops C n (fun ls' a' => Region.seqB md ops k n ls' = true ∧ K a') l.length ls a := by
  induction l with
  | nil =>
    intro q ls a _ hq' _ hB h
    obtain rfl : q = n := by simpa using hq'
    exact ⟨by simpa [Region.lexHead] using hB, h⟩
  | cons o l ih =>
    intro q ls a hl hq' inv hB h
    have h0 : ops[q]? = some o := by simpa using (hl 0 (by simp)).symm
    simp only [List.length_cons, Region.lexHead, Bool.and_eq_true] at hB hq'
    have hr : q ∈ Region.ready md ops ls := by simpa using hB.1.1
    obtain ⟨v, hy, hK⟩ := yieldsIn_of_qOp h0 (show qOp P ops C q (wpQuiet P ops C K l) a by unfold qOp; simp only [h0]; exact h)
    exact hq_first h0 (Region.noSelect_spec hsel) hs hc hn (by omega) (fun ls' a' hL => seqB_ready hL.1) l.length ls a inv (Region.free_spec h0 hB.1.2) hr hy
      (ih (q + 1) _ _ (fun j hj => by have := hl (j + 1) (by simp; omega); simpa [Nat.add_assoc, Nat.add_comm 1 j] using this) (by omega) (inv.set hr (by omega)) hB.2 hK)
theorem wp_quiet_tail {id : Nat} {Q : Exit → Act → World → Prop} {a : Act} {w : World} {l : List Oper} (n : Nat) (hm : P.follows .mixedOrders = true) (hB : Region.lexTailB .any l.toArray n = true) (hC : C w.drew)
    (h : wpQuiet P l.toArray C (fun a' => ∀ w', C w' → wpList P l.toArray Q (l.drop n) a' w') (l.take n) a) : (Code.region id l.toArray true).wp P Q a w := by
  simp only [Region.lexTailB, Bool.and_eq_true, decide_eq_true_eq] at hB
  obtain ⟨⟨⟨⟨hsel, hn⟩, hs⟩, hc⟩, hlex⟩ := hB
  have hn' : n < l.length := by simpa using hn
  have ht : (l.take n).length = n := by rw [List.length_take]; omega
  have hd : (l.drop n).length = l.toArray.size - n := by simp
  have inv0 : HeadInv .any l.toArray n (Array.replicate l.toArray.size false) :=
    ⟨by simp, fun j oj _ hl => (by rw [getD_replicate_false] at hl; cases hl), fun t _ ht => getD_in (by simpa using ht) (getD_replicate_false _ _)⟩
  have H := hq_lex (md := .any) (k := l.toArray.size - n) hsel hs hc hn (l.take n) 0 _ a (fun j hj => by rw [ht] at hj; simp [hj]) (by omega) inv0 (by rw [ht]; exact hlex) h
  refine wp_region_any hm ?_
  have := hq_any (Q := Q) (k := l.toArray.size - n) (fun ls a' w' hw' hL => by
    have := wpAny_of_seq (md := .any) (Q' := Q) (l.drop n) n ls a' w' (fun j => by simp [List.getElem?_drop]) (by rw [hd]; exact hL.1) (hL.2 w' hw')
    rwa [hd] at this) _ _ _ _ hC H
  rw [ht, show n + (l.toArray.size - n) = l.toArray.size by omega] at this
  exact this
end

theorem wk_tail {P : Program} {id : Nat} {Q : Exit → Act → World → Prop} {a : Act} {W : World} {l : List Oper} (n : Nat) (hm : P.follows .mixedOrders = true) (hB : Region.lexTailB .any l.toArray n = true)
    (h : wpQuiet P l.toArray (fun w' => ∃ u : Wk W, w' = u.1) (fun a' => ∀ w', (∃ u : Wk W, w' = u.1) → wpList P l.toArray Q (l.drop n) a' w') (l.take n) a) : (Code.region id l.toArray true).wp P Q a W :=
  wp_quiet_tail (C := fun w' => ∃ u : Wk W, w' = u.1) n hm hB ⟨⟨W.drew, (Below.refl _ _).drew⟩, rfl⟩ h
end Go.Proofs.Ytjcdkbalhleeeab
