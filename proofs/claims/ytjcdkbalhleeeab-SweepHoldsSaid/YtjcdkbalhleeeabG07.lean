/-
  Contracts of functions and plain laws that later parts of the proof use. The conditions stand in each theorem.
-/
import Derived.Test.YtjcdkbalhleeeabG02
import Derived.Test.YtjcdkbalhleeeabG03
import Derived.Test.YtjcdkbalhleeeabG06
namespace Go.Proofs.Ytjcdkbalhleeeab

/-- What a column has, row by row. -/
def colP (p : PG) (r : Nat) : List Int := (List.range p.rows.length).map fun i => hasZ p i r
theorem colP_len (p : PG) (r : Nat) : (colP p r).length = p.rows.length := by simp [colP]
theorem colP_at (p : PG) (r : Nat) {i : Nat} (h : i < p.rows.length) : (colP p r).getD i 0 = hasZ p i r := by simp [colP, List.getD, h]
theorem qOf_mosts (p : PG) (r : Nat) : qOf p r = mostsOf p (colP p r) := by
  unfold qOf mostsOf rowsK
  congr 1
  refine List.map_congr_left fun i hi => ?_
  rw [colP_at p r (List.mem_range.1 hi)]
theorem colP_small {p : PG} (hp : mayPB p = true) (r : Nat) : smallB 12 (colP p r) = true := by
  unfold smallB colP
  rw [List.all_eq_true]
  intro x hx
  simp only [List.mem_map, List.mem_range] at hx
  obtain ⟨i, hi, rfl⟩ := hx
  have := hasZ_bound hp i r
  simp
  omega
theorem qOf_E {p : PG} {l : List Int} (h : lookE p l = 0) (r : Nat) : lookE (qOf p r) l = 0 := by
  have hp : mayPB p = true := by
    unfold lookE at h
    split at h
    · omega
    · rename_i g; simpa using g
  rw [qOf_mosts]
  exact mostsOf_E (colP_len p r) (colP_small hp r) h

theorem sort_ins {w : List Nat} {r : Nat} (h : w.Pairwise (· < ·)) (hr : r ∉ w) : (ints w ++ [(r : Int)]).mergeSort (fun x y => decide (x ≤ y)) = ints (insN w r) := by
  have hp : (insN w r).Pairwise (· < ·) := insN_pw h hr
  have hperm : (ints w ++ [(r : Int)]).Perm (ints (insN w r)) := by
    unfold insN ints
    have e : w.takeWhile (fun j => decide (j < r)) ++ w.dropWhile (fun j => decide (j < r)) = w := List.takeWhile_append_dropWhile
    conv => lhs; rw [← e]
    rw [List.map_append, List.map_append, List.map_cons, List.append_assoc]
    refine List.Perm.append_left _ ?_
    exact (List.perm_append_comm (l₁ := _) (l₂ := [(r : Int)]))
  have hs : (ints (insN w r)).Pairwise (fun a b : Int => a ≤ b) := by
    unfold ints
    rw [List.pairwise_map]
    exact hp.imp fun {a b} q => by simp; omega
  have h1 := List.pairwise_mergeSort (le := fun x y : Int => decide (x ≤ y)) (by intro a b c; simp; omega) (by intro a b; simp; omega) (ints w ++ [(r : Int)])
  have h2 : ((ints w ++ [(r : Int)]).mergeSort fun x y => decide (x ≤ y)).Perm (ints (insN w r)) := (List.mergeSort_perm _ _).trans hperm
  refine List.Perm.eq_of_pairwise (le := fun a b : Int => a ≤ b) ?_ (h1.imp fun {a b} q => by simpa using q) hs h2
  intro a b _ _ x y
  exact Int.le_antisymm x y
theorem ints_erase : ∀ (l : List Nat) (k : Nat), (ints l).eraseIdx k = ints (l.eraseIdx k)
  | [], _ => rfl
  | _ :: _, 0 => rfl
  | a :: l, k + 1 => by
    show Int.ofNat a :: (ints l).eraseIdx k = Int.ofNat a :: ints (l.eraseIdx k)
    rw [ints_erase l k]
end Go.Proofs.Ytjcdkbalhleeeab

namespace Go.Proofs.Ytjcdkbalhleeeab

set_option maxHeartbeats 1000000 in
theorem step_any {p : PG} {l : List Nat} (ho : OKb p l) {r k : Nat} (hrl : r ∉ l) (i1 : r < p.costs.length + p.rows.length) (hout : outZ (lookN p l).xs l (lessZ p l r) l.length = some k) :
    OKb p (insN (l.eraseIdx k) r) ∧
    ∀ (c g y : Nat → Rat), (∀ j, j < p.costs.length + p.rows.length → g j = c j - sumR (fun i => y i * aq p i j) p.rows.length) → (∀ j ∈ l, g j = 0) → 0 < g r → (∀ j, j < r → g j ≤ 0) →
      Piv p.rows.length (p.costs.length + p.rows.length) (aq p) c l (insN (l.eraseIdx k) r) (xq (lookN p l)) (xq (lookN p (insN (l.eraseIdx k) r))) g (dq p l r) y r (l.getD k 0) (tq p l r k) := by
  obtain ⟨hp, hr, hd, hx⟩ := ho
  obtain ⟨gx, gy, gg, hc⟩ := corn_of hp hr hd
  obtain ⟨a1, a2, a3, hq⟩ := corn_of (qOf_may hp r) (qOf_right hr r) (by rw [qOf_den hr.len]; exact hd)
  have h4 := hc.rows4
  have hx0 := getD_nonneg hx
  obtain ⟨o1, o2, o3⟩ := outZ_some hx0 hout
  have hk : k < p.rows.length := by rw [← hr.len]; exact o1
  have hs_mem : l.getD k 0 ∈ l := mem_getD.2 ⟨k, o1, rfl⟩
  have hless : ∀ i, i < l.length → (lessZ p l r).getD i 0 = (lookN (qOf p r) l).xs.getD (l.getD i 0) 0 := fun i hi => by unfold lessZ; rw [getD_map hi]
  rw [hless k o1] at o2
  have hxd : 0 < (lookN p l).xd := hc.px
  have hqd : 0 < (lookN (qOf p r) l).xd := hq.px
  have hsp : 0 < xq (lookN (qOf p r) l) (l.getD k 0) := (sign_div hqd).1.2 o2
  have hxs0 : ∀ j, 0 ≤ xq (lookN p l) j := fun j => (nonneg_div hxd).2 (hx0 j)
  have ht : tq p l r k * xq (lookN (qOf p r) l) (l.getD k 0) = xq (lookN p l) (l.getD k 0) := by unfold tq; grind
  have ht0 : 0 ≤ tq p l r k := by
    apply Classical.byContradiction
    intro hn
    have := Rat.mul_pos (show 0 < -(tq p l r k) by grind) hsp
    have := hxs0 (l.getD k 0)
    grind
  have hsr : l.getD k 0 ≠ r := fun e => hrl (e ▸ hs_mem)
  have hds : dq p l r (l.getD k 0) = -(xq (lookN (qOf p r) l) (l.getD k 0)) := by unfold dq; rw [if_neg hsr]
  have hmin : ∀ i, i < l.length → 0 < xq (lookN (qOf p r) l) (l.getD i 0) → tq p l r k * xq (lookN (qOf p r) l) (l.getD i 0) ≤ xq (lookN p l) (l.getD i 0) ∧ (tq p l r k * xq (lookN (qOf p r) l) (l.getD i 0) = xq (lookN p l) (l.getD i 0) → k ≤ i) := by
    intro i hi hpos
    have hpi : 0 < (lookN (qOf p r) l).xs.getD (l.getD i 0) 0 := (sign_div hqd).1.1 hpos
    have := o3 i hi (by rw [hless i hi]; exact hpi)
    rw [hless i hi, hless k o1] at this
    obtain ⟨m1, m2⟩ := this
    have e1 : xq (lookN p l) (l.getD k 0) * xq (lookN (qOf p r) l) (l.getD i 0) = (((lookN p l).xs.getD (l.getD k 0) 0 * (lookN (qOf p r) l).xs.getD (l.getD i 0) 0 : Int) : Rat) / (((lookN p l).xd * (lookN (qOf p r) l).xd : Int) : Rat) := by
      unfold xq; rw [Rat.intCast_mul, Rat.intCast_mul]
      have := cast_pos hxd; have := cast_pos hqd; grind
    have e2 : xq (lookN p l) (l.getD i 0) * xq (lookN (qOf p r) l) (l.getD k 0) = (((lookN p l).xs.getD (l.getD i 0) 0 * (lookN (qOf p r) l).xs.getD (l.getD k 0) 0 : Int) : Rat) / (((lookN p l).xd * (lookN (qOf p r) l).xd : Int) : Rat) := by
      unfold xq; rw [Rat.intCast_mul, Rat.intCast_mul]
      have := cast_pos hxd; have := cast_pos hqd; grind
    have hD : 0 < (lookN p l).xd * (lookN (qOf p r) l).xd := Int.mul_pos hxd hqd
    have e3 : xq (lookN p l) (l.getD i 0) * xq (lookN (qOf p r) l) (l.getD k 0) - xq (lookN p l) (l.getD k 0) * xq (lookN (qOf p r) l) (l.getD i 0) =
        (((lookN p l).xs.getD (l.getD i 0) 0 * (lookN (qOf p r) l).xs.getD (l.getD k 0) 0 - (lookN p l).xs.getD (l.getD k 0) 0 * (lookN (qOf p r) l).xs.getD (l.getD i 0) 0 : Int) : Rat) / (((lookN p l).xd * (lookN (qOf p r) l).xd : Int) : Rat) := by
      rw [e1, e2, Rat.intCast_sub]; grind
    have s1 : 0 ≤ xq (lookN p l) (l.getD i 0) * xq (lookN (qOf p r) l) (l.getD k 0) - xq (lookN p l) (l.getD k 0) * xq (lookN (qOf p r) l) (l.getD i 0) := by
      rw [e3]; exact (nonneg_div hD).2 (by omega)
    have s2 : xq (lookN p l) (l.getD i 0) * xq (lookN (qOf p r) l) (l.getD k 0) - xq (lookN p l) (l.getD k 0) * xq (lookN (qOf p r) l) (l.getD i 0) = (xq (lookN p l) (l.getD i 0) - tq p l r k * xq (lookN (qOf p r) l) (l.getD i 0)) * xq (lookN (qOf p r) l) (l.getD k 0) := by
      rw [← ht]; grind
    constructor
    · apply Classical.byContradiction
      intro hn
      have := Rat.mul_pos (show 0 < -(xq (lookN p l) (l.getD i 0) - tq p l r k * xq (lookN (qOf p r) l) (l.getD i 0)) by grind) hsp
      grind
    · intro he
      apply m2
      have z : (xq (lookN p l) (l.getD i 0) - tq p l r k * xq (lookN (qOf p r) l) (l.getD i 0)) * xq (lookN (qOf p r) l) (l.getD k 0) = 0 := by rw [he]; grind
      rw [z] at s2
      apply Classical.byContradiction
      intro hne
      have := (sign_div (a := (lookN p l).xs.getD (l.getD i 0) 0 * (lookN (qOf p r) l).xs.getD (l.getD k 0) 0 - (lookN p l).xs.getD (l.getD k 0) 0 * (lookN (qOf p r) l).xs.getD (l.getD i 0) 0) hD).1.2 (by omega)
      rw [← e3, s2] at this
      exact absurd this (by grind)
  have hxk : xk (qOf p r) l k ≠ 0 := by
    have h1 := hq.x (l.getD k 0)
    rw [xall_at (qOf_right hr r) (by rw [qOf_len]; exact hk)] at h1
    rw [h1]
    intro h0
    rcases Int.mul_eq_zero.1 h0 with e | e
    · exact hq.nx e
    · omega
  have hR := right_next hr o1 hrl i1
  have hD' := den_next hr h4 hk hxk hrl i1
  obtain ⟨b1, b2, b3, hc'⟩ := corn_of hp hR hD'
  have hstep : ∀ j, xq (lookN p (insN (l.eraseIdx k) r)) j = xq (lookN p l) j + tq p l r k * dq p l r j := by
    have hz := kernel hR h4 hD' (z := fun j => xq (lookN p (insN (l.eraseIdx k) r)) j - (xq (lookN p l) j + tq p l r k * dq p l r j)) ?_ ?_
    · intro j; have := hz j; grind
    · intro j hj
      have hj' : ¬ (j ∈ l ∧ j ≠ l.getD k 0) ∧ j ≠ r := ⟨fun q => hj (mem_insN.2 (Or.inl ((mem_erase hr o1).2 q))), fun q => hj (mem_insN.2 (Or.inr q))⟩
      rw [hc'.offQ hj]
      by_cases hjs : j = l.getD k 0
      · subst hjs; rw [hds, ← ht]; grind
      · have hjl : j ∉ l := fun q => hj'.1 ⟨q, hjs⟩
        rw [hc.offQ hjl]
        unfold dq
        rw [if_neg hj'.2, hq.offQ hjl]; grind
    · intro i hi
      have k1 := hc'.rowQ hi
      have k2 := hc.rowQ hi
      have k3 := dir_ker hp hr hd hrl i1 hi
      have e : sumR (fun j => aq p i j * (xq (lookN p (insN (l.eraseIdx k) r)) j - (xq (lookN p l) j + tq p l r k * dq p l r j))) (p.costs.length + p.rows.length) =
          sumR (fun j => aq p i j * xq (lookN p (insN (l.eraseIdx k) r)) j + ((-1) * (aq p i j * xq (lookN p l) j) + (-(tq p l r k)) * (aq p i j * dq p l r j))) (p.costs.length + p.rows.length) :=
        sumR_congr fun j _ => by grind
      rw [e, sumR_add, sumR_add, sumR_mul, sumR_mul, k1, k2, k3]; grind
  have hdl : ∀ j, j ∈ l → dq p l r j = -(xq (lookN (qOf p r) l) j) := fun j hj => by unfold dq; rw [if_neg (show j ≠ r from fun e => hrl (by rw [← e]; exact hj))]
  refine ⟨⟨hp, hR, hD', nonneg_of fun j => ?_⟩, ?_⟩
  · rw [← nonneg_div hc'.px]
    show 0 ≤ xq (lookN p (insN (l.eraseIdx k) r)) j
    rw [hstep j]
    by_cases hjr : j = r
    · subst hjr
      rw [hc.offQ hrl]; unfold dq; rw [if_pos rfl]; grind
    · by_cases hjl : j ∈ l
      · rw [hdl j hjl]
        by_cases hpos : 0 < xq (lookN (qOf p r) l) j
        · obtain ⟨i, hi, rfl⟩ := mem_getD.1 hjl
          have := (hmin i hi hpos).1
          grind
        · have h1 := Rat.mul_nonneg ht0 (show 0 ≤ -(xq (lookN (qOf p r) l) j) by grind)
          have h2 := hxs0 j
          grind
      · rw [hc.offQ hjl]; unfold dq; rw [if_neg hjr, hq.offQ hjl]; grind
  · intro c g y hgy hg0 hgr hglt
    refine ⟨hrl, i1, hs_mem, hr.lt, ?_, hgy, hg0, hgr, hglt, fun i hi => dir_ker hp hr hd hrl i1 hi, ?_, ?_, ?_, ht0, ?_, ?_, fun j hj => hc.offQ hj, hstep⟩
    · intro j
      rw [mem_insN, mem_erase hr o1]
    · unfold dq; rw [if_pos rfl]
    · intro j hj hjr; unfold dq; rw [if_neg hjr, hq.offQ hj]; grind
    · rw [hds]; grind
    · rw [hds, ← ht]; grind
    · intro j hj hdj
      rw [hdl j hj] at hdj ⊢
      obtain ⟨i, hi, rfl⟩ := mem_getD.1 hj
      obtain ⟨m1, m2⟩ := hmin i hi (by grind)
      refine ⟨by grind, fun e => ?_⟩
      have hki := m2 (by grind)
      rcases Nat.lt_or_ge k i with h | h
      · have := hr.ne h hi; omega
      · have : k = i := by omega
        subst this; exact Nat.le_refl _

section
variable {p : PG} {b : List Int}
/-- A corner's gains at t. -/
def gT (p : PG) (b : List Int) (t : Rat) (l : List Nat) (j : Nat) : Rat := gq (lookN p l) j + t * gq (lookN (costsOf p b) l) j
def cT (p : PG) (b : List Int) (t : Rat) (j : Nat) : Rat := cq p j + t * cq (costsOf p b) j
def yT (p : PG) (b : List Int) (t : Rat) (l : List Nat) (i : Nat) : Rat := yq (lookN p l) i + t * yq (lookN (costsOf p b) l) i
theorem gT_gy (hb : By p b) (t : Rat) {l : List Nat} (h : Bs p l) {j : Nat} (hj : j < p.costs.length + p.rows.length) : gT p b t l j = cT p b t j - sumR (fun i => yT p b t l i * aq p i j) p.rows.length := by
  obtain ⟨_, _, _, hc⟩ := corn_of h.hp h.hr h.hd
  have h' := costs_bs hb h
  obtain ⟨_, _, _, hd⟩ := corn_of h'.hp h'.hr h'.hd
  unfold gT cT yT
  rw [hc.gainQ hj, hd.gainQ (by show j < b.length + p.rows.length; rw [hb.len]; exact hj)]
  rw [sumR_congr (f := fun i => (yq (lookN p l) i + t * yq (lookN (costsOf p b) l) i) * aq p i j) (g := fun i => yq (lookN p l) i * aq p i j + t * (yq (lookN (costsOf p b) l) i * aq (costsOf p b) i j)) fun i _ => by
    have : aq (costsOf p b) i j = aq p i j := by unfold aq; rw [costs_has hb.len]
    rw [this]; grind]
  rw [sumR_add, sumR_mul]
  show _ = cq p j + t * cq (costsOf p b) j - (_ + t * sumR (fun i => yq (lookN (costsOf p b) l) i * aq (costsOf p b) i j) (costsOf p b).rows.length)
  grind
theorem gT_own (hb : By p b) (t : Rat) {l : List Nat} (h : Bs p l) {j : Nat} (hj : j ∈ l) : gT p b t l j = 0 := by
  obtain ⟨_, _, _, hc⟩ := corn_of h.hp h.hr h.hd
  have h' := costs_bs hb h
  obtain ⟨_, _, _, hd⟩ := corn_of h'.hp h'.hr h'.hd
  unfold gT
  rw [hc.gainQ0 hj, hd.gainQ0 hj]; grind
/-- A step at t. -/
structure StT (p : PG) (b : List Int) (t : Rat) (l l' : List Nat) (r k : Nat) : Prop where
  ok : OKb p l
  rl : r ∉ l
  rN : r < p.costs.length + p.rows.length
  gr : 0 < gT p b t l r
  glt : ∀ j, j < r → gT p b t l j ≤ 0
  out : outZ (lookN p l).xs l (lessZ p l r) l.length = some k
  eq : l' = insN (l.eraseIdx k) r
/-- An endless way at t. -/
structure WayT (p : PG) (b : List Int) (t : Rat) (d : Nat → Rat) : Prop where
  ge : ∀ j, 0 ≤ d j
  ker : ∀ i, i < p.rows.length → sumR (fun j => aq p i j * d j) (p.costs.length + p.rows.length) = 0
  up : 0 < sumR (fun j => cT p b t j * d j) (p.costs.length + p.rows.length)
theorem way_worth (hb : By p b) (t : Rat) {l : List Nat} (h : Bs p l) {d : Nat → Rat} (hd : ∀ i, i < p.rows.length → sumR (fun j => aq p i j * d j) (p.costs.length + p.rows.length) = 0) :
    sumR (fun j => cT p b t j * d j) (p.costs.length + p.rows.length) = sumR (fun j => gT p b t l j * d j) (p.costs.length + p.rows.length) := by
  have h1 : sumR (fun j => cT p b t j * d j) (p.costs.length + p.rows.length) = sumR (fun j => gT p b t l j * d j + sumR (fun i => yT p b t l i * (aq p i j * d j)) p.rows.length) (p.costs.length + p.rows.length) := by
    refine sumR_congr fun j hj => ?_
    rw [gT_gy hb t h hj]
    have e : sumR (fun i => yT p b t l i * (aq p i j * d j)) p.rows.length = d j * sumR (fun i => yT p b t l i * aq p i j) p.rows.length := by
      rw [← sumR_mul]; exact sumR_congr fun i _ => by grind
    rw [e]; grind
  rw [h1, sumR_add, sumR_comm]
  have h2 : sumR (fun i => sumR (fun j => yT p b t l i * (aq p i j * d j)) (p.costs.length + p.rows.length)) p.rows.length = 0 := by
    rw [sumR_congr (g := fun _ => 0) fun i hi => by rw [sumR_mul, hd i hi]; grind]; exact sumR_zero
  rw [h2]; grind
theorem case_T (hb : By p b) (t : Rat) {l : List Nat} (ho : OKb p l) : BestT p b l t ∨ (∃ d, WayT p b t d) ∨ ∃ l' r k, StT p b t l l' r k := by
  by_cases h : ∃ r, r < p.costs.length + p.rows.length ∧ 0 < gT p b t l r
  · obtain ⟨r0, h1, h2⟩ := h
    obtain ⟨r, _, ⟨k2, k3⟩, k4⟩ := least (P := fun r => r < p.costs.length + p.rows.length ∧ 0 < gT p b t l r) ⟨h1, h2⟩
    right
    have hrl : r ∉ l := fun q => by rw [gT_own hb t ho.bs q] at k3; grind
    cases hout : outZ (lookN p l).xs l (lessZ p l r) l.length with
    | none =>
      refine .inl ⟨dq p l r, dir_nonneg ho hout, fun i hi => dir_ker ho.hp ho.hr ho.hd hrl k2 hi, ?_⟩
      rw [way_worth hb t ho.bs fun i hi => dir_ker ho.hp ho.hr ho.hd hrl k2 hi]
      rw [sumR_one k2 fun j hj hne => ?_]
      · unfold dq; rw [if_pos rfl]; grind
      · by_cases hjl : j ∈ l
        · rw [gT_own hb t ho.bs hjl]; grind
        · unfold dq; rw [if_neg hne, colOff ho.bs r hjl]; grind
    | some k =>
      refine .inr ⟨_, r, k, ho, hrl, k2, k3, fun j hj => ?_, hout, rfl⟩
      have := k4 j hj
      apply Classical.byContradiction
      intro w
      exact this ⟨by omega, by grind⟩
  · left
    intro j hj
    apply Classical.byContradiction
    intro w
    exact h ⟨j, hj, by unfold gT; grind⟩
/-- At each number there is a best corner, or an endless way. -/
theorem at_T (hb : By p b) (t : Rat) {l0 : List Nat} (ho : OKb p l0) : (∃ l, OKb p l ∧ BestT p b l t) ∨ ∃ d, WayT p b t d := by
  apply Classical.byContradiction
  intro hn
  have hn1 : ∀ l, OKb p l → ¬ BestT p b l t := fun l h h' => hn (.inl ⟨l, h, h'⟩)
  have hn2 : ∀ d, ¬ WayT p b t d := fun d h => hn (.inr ⟨d, h⟩)
  have hst : ∀ s : { l : List Nat // OKb p l }, ∃ u : { l : List Nat // OKb p l }, ∃ r k, StT p b t s.1 u.1 r k := fun s => by
    rcases case_T hb t s.2 with h | ⟨d, h⟩ | ⟨l', r, k, h⟩
    · exact absurd h (hn1 _ s.2)
    · exact absurd h (hn2 _)
    · exact ⟨⟨l', by rw [h.eq]; exact (step_any s.2 h.rl h.rN h.out).1⟩, r, k, h⟩
  let nx : { l : List Nat // OKb p l } → { l : List Nat // OKb p l } := fun s => Classical.choose (hst s)
  have hnx : ∀ s, ∃ r k, StT p b t s.1 (nx s).1 r k := fun s => Classical.choose_spec (hst s)
  let S : Nat → { l : List Nat // OKb p l } := fun n => Nat.rec ⟨l0, ho⟩ (fun _ s => nx s) n
  have hS : ∀ n, S (n + 1) = nx (S n) := fun n => rfl
  let R : Nat → Nat := fun n => Classical.choose (hnx (S n))
  have hR : ∀ n, ∃ k, StT p b t (S n).1 (nx (S n)).1 (R n) k := fun n => Classical.choose_spec (hnx (S n))
  let K : Nat → Nat := fun n => Classical.choose (hR n)
  have hK : ∀ n, StT p b t (S n).1 (nx (S n)).1 (R n) (K n) := fun n => Classical.choose_spec (hR n)
  obtain ⟨i, j, hij, _, he⟩ := pig (2 ^ (p.costs.length + p.rows.length)) (fun i => code (S i).1 (p.costs.length + p.rows.length)) (fun i _ => code_lt _ _)
  have eab : (S i).1 = (S j).1 := pw_ext (S i).2.hr.pw (S j).2.hr.pw fun q => by
    by_cases hq : q < p.costs.length + p.rows.length
    · exact code_inj he q hq
    · exact ⟨fun h => absurd ((S i).2.hr.lt q h) hq, fun h => absurd ((S j).2.hr.lt q h) hq⟩
  refine bland (m := p.rows.length) (N := p.costs.length + p.rows.length) (A := aq p) (c := cT p b t) (L := fun n => (S n).1) (X := fun n => xq (lookN p (S n).1)) (G := fun n => gT p b t (S n).1)
    (D := fun n => dq p (S n).1 (R n)) (Y := fun n => yT p b t (S n).1) (R := R) (S := fun n => (S n).1.getD (K n) 0) (T := fun n => tq p (S n).1 (R n) (K n)) hij ?_ ?_ ?_ ?_
  · intro n _ _
    have h := hK n
    have hl : (S (n + 1)).1 = insN ((S n).1.eraseIdx (K n)) (R n) := by rw [hS]; exact h.eq
    rw [hl]
    exact (step_any (S n).2 h.rl h.rN h.out).2 (cT p b t) (gT p b t (S n).1) (yT p b t (S n).1) (fun j hj => gT_gy hb t (S n).2.bs hj) (fun j hj => gT_own hb t (S n).2.bs hj) h.gr h.glt
  · intro q; rw [eab]
  · intro q; show xq (lookN p (S j).1) q = xq (lookN p (S i).1) q; rw [eab]
  · intro n _ _ q hq
    obtain ⟨gx, gy, gg, hc⟩ := corn_of (S n).2.hp (S n).2.hr (S n).2.hd
    exact hc.offQ hq
end
end Go.Proofs.Ytjcdkbalhleeeab

namespace Go.Proofs.Ytjcdkbalhleeeab

theorem near_up (t s : Rat) (h : t < s) : ∀ L : List Rat, ∃ u, t < u ∧ u < s ∧ ∀ e ∈ L, e ≤ t ∨ u < e
  | [] => ⟨(t + s) / 2, by grind, by grind, by simp⟩
  | e :: L => by
    obtain ⟨u, h1, h2, h3⟩ := near_up t s h L
    by_cases he : e ≤ t
    · refine ⟨u, h1, h2, fun x hx => ?_⟩
      rcases List.mem_cons.1 hx with rfl | q
      · exact .inl he
      · exact h3 x q
    · by_cases hu : u < e
      · refine ⟨u, h1, h2, fun x hx => ?_⟩
        rcases List.mem_cons.1 hx with rfl | q
        · exact .inr hu
        · exact h3 x q
      · refine ⟨(t + e) / 2, by grind, by grind, fun x hx => ?_⟩
        rcases List.mem_cons.1 hx with rfl | q
        · right; grind
        · rcases h3 x q with w | w
          · exact .inl w
          · right; grind
theorem near_down (t s : Rat) (h : s < t) (L : List Rat) : ∃ u, s < u ∧ u < t ∧ ∀ e ∈ L, t ≤ e ∨ e < u := by
  obtain ⟨u, h1, h2, h3⟩ := near_up (-t) (-s) (by grind) (L.map fun e => -e)
  refine ⟨-u, by grind, by grind, fun e he => ?_⟩
  rcases h3 (-e) (List.mem_map.2 ⟨e, he, rfl⟩) with w | w
  · left; grind
  · right; grind
section
variable {p : PG} {b : List Int} {P : List PC}
theorem mem_ans (hb : By p b) (hP : Grp p b P) {x : PC} (h : x ∈ ansP P) : x ∈ P := by
  unfold ansP at h
  by_cases hf : (P.filter fun x => !pointB x) = []
  · rw [if_pos hf] at h
    cases P with
    | nil => simp [bestP] at h
    | cons y P =>
      unfold bestP at h
      rw [List.mem_singleton] at h
      rw [h]
      exact (foldS hb hP P y (by simp) (fun z hz => by simp [hz])).1
  · rw [if_neg hf] at h
    unfold sortP at h
    rw [mem_sortP] at h
    rcases h with h | h
    · simp at h
    · exact (List.mem_filter.1 h).1
theorem ans_np {x : PC} (h : x ∈ P) (hn : pointB x = false) : x ∈ ansP P := by
  have hf : x ∈ P.filter (fun x => !pointB x) := List.mem_filter.2 ⟨h, by simp [hn]⟩
  unfold ansP
  rw [if_neg (fun e => by rw [e] at hf; simp at hf)]
  unfold sortP
  rw [mem_sortP]
  exact .inr hf
theorem ans_some (h : P ≠ []) : ansP P ≠ [] := by
  unfold ansP
  by_cases hf : (P.filter fun x => !pointB x) = []
  · rw [if_pos hf]
    cases P with
    | nil => exact absurd rfl h
    | cons y P => simp [bestP]
  · rw [if_neg hf]
    intro e
    have := (sortP_perm (P.filter fun x => !pointB x)).length_eq
    rw [e] at this
    exact hf (List.eq_nil_of_length_eq_zero (by simpa using this.symm))
/-- Each piece has a number. -/
theorem pc_num (hb : By p b) (hP : Grp p b P) {z : PC} (hz : z ∈ P) : ∃ t, InQ z.fr z.to t := by
  obtain ⟨f1, f2⟩ := grp_fine hb hP hz
  cases hn : pointB z with
  | true =>
    unfold pointB at hn
    simp only [Bool.and_eq_true, Bool.not_eq_true', decide_eq_true_eq] at hn
    obtain ⟨h1, h2, h3⟩ := hn
    exact ⟨z.fr.q, (InQ_q f1 f2 _).2 ⟨.inr (by grind), .inr (by rw [← h3]; grind)⟩⟩
  | false =>
    rcases o1 : z.fr.op with _ | _
    · refine ⟨z.fr.q, (InQ_q f1 f2 _).2 ⟨.inr (by grind), ?_⟩⟩
      rcases o2 : z.to.op with _ | _
      · have := not_point hb hP hz hn o1 o2; right; grind
      · exact .inl rfl
    · exact ⟨z.to.q, (InQ_q f1 f2 _).2 ⟨.inl o1, .inr (by grind)⟩⟩
/-- Where a line is best there is no endless way. -/
theorem max_noway {B S t : Rat} (h : LineMax p b B S t) {l : List Nat} (ho : OKb p l) (d : Nat → Rat) : ¬ WayT p b t d := by
  intro hd
  have hpt := ok_pt ho
  -- from the corner's point along d
  have key : ∀ s : Rat, 0 ≤ s → sumR (fun j => cT p b t j * xq (lookN p l) j) (p.costs.length + p.rows.length) + s * sumR (fun j => cT p b t j * d j) (p.costs.length + p.rows.length) ≤ B + t * S := by
    intro s hs
    have := h (fun j => xq (lookN p l) j + s * d j) ⟨fun j => by have := hpt.ge j; have := Rat.mul_nonneg hs (hd.ge j); grind, fun i hi => by
      rw [sumR_congr (g := fun j => aq p i j * xq (lookN p l) j + s * (aq p i j * d j)) fun j _ => by grind, sumR_add, sumR_mul, hpt.row i hi, hd.ker i hi]; grind⟩
    have e : sumR (fun j => cT p b t j * xq (lookN p l) j) (p.costs.length + p.rows.length) + s * sumR (fun j => cT p b t j * d j) (p.costs.length + p.rows.length) =
        sumR (fun j => cq p j * (xq (lookN p l) j + s * d j)) (p.costs.length + p.rows.length) + t * sumR (fun j => cq (costsOf p b) j * (xq (lookN p l) j + s * d j)) (p.costs.length + p.rows.length) := by
      rw [← sumR_mul, ← sumR_mul, ← sumR_add, ← sumR_add]
      exact sumR_congr fun j _ => by unfold cT; grind
    rw [e]; exact this
  have hu := hd.up
  generalize sumR (fun j => cT p b t j * d j) (p.costs.length + p.rows.length) = u at *
  generalize sumR (fun j => cT p b t j * xq (lookN p l) j) (p.costs.length + p.rows.length) = v at *
  have k0 := key 0 (by grind)
  have hM : 0 ≤ B + t * S - v := by grind
  have hq : 0 ≤ (B + t * S - v + 1) / u := by
    have hi : 0 < 1 / u := by
      apply Classical.byContradiction
      intro w
      have := Rat.mul_nonneg (show 0 ≤ -(1 / u) by grind) (Rat.le_of_lt hu)
      grind
    have := Rat.mul_nonneg (show 0 ≤ B + t * S - v + 1 by grind) (Rat.le_of_lt hi)
    grind
  have k1 := key _ hq
  have e : (B + t * S - v + 1) / u * u = B + t * S - v + 1 := by grind
  rw [e] at k1
  grind
theorem way_lin {t1 t2 t : Rat} (a : t1 ≤ t) (c : t ≤ t2) {d : Nat → Rat} (hd : WayT p b t d) : WayT p b t1 d ∨ WayT p b t2 d := by
  have e : ∀ u, sumR (fun j => cT p b u j * d j) (p.costs.length + p.rows.length) = sumR (fun j => cq p j * d j) (p.costs.length + p.rows.length) + u * sumR (fun j => cq (costsOf p b) j * d j) (p.costs.length + p.rows.length) := by
    intro u
    rw [← sumR_mul, ← sumR_add]
    exact sumR_congr fun j _ => by unfold cT; grind
  have hu := hd.up
  rw [e] at hu
  by_cases h1 : 0 < sumR (fun j => cq p j * d j) (p.costs.length + p.rows.length) + t1 * sumR (fun j => cq (costsOf p b) j * d j) (p.costs.length + p.rows.length)
  · exact .inl ⟨hd.ge, hd.ker, by rw [e]; exact h1⟩
  · refine .inr ⟨hd.ge, hd.ker, ?_⟩
    rw [e]
    generalize sumR (fun j => cq p j * d j) (p.costs.length + p.rows.length) = x at *
    generalize sumR (fun j => cq (costsOf p b) j * d j) (p.costs.length + p.rows.length) = y at *
    have hy : 0 ≤ y := by
      apply Classical.byContradiction
      intro w
      have := Rat.mul_nonneg (show 0 ≤ -y by grind) (show 0 ≤ t - t1 by grind)
      grind
    have := Rat.mul_nonneg hy (show 0 ≤ t2 - t by grind)
    grind
/-- A best corner's piece. -/
theorem best_pc (hb : By p b) (hP : Grp p b P) {l : List Nat} (ho : OKb p l) {t : Rat} (ht : BestT p b l t) : ∃ x ∈ P, (pcZ p b l).line = x.line ∧ InQ x.fr x.to t := by
  obtain ⟨h0, hin⟩ := (spW_best hb ho.bs t).2 ht
  have g : GoodL p b l := ⟨ho, h0⟩
  obtain ⟨x, hx, e1, e2, e3⟩ := hP.all l g
  obtain ⟨f1, f2⟩ := grp_fine hb hP hx
  obtain ⟨z1, z2⟩ := good_fine hb g
  refine ⟨x, hx, e1, ?_⟩
  rw [InQ_q z1 z2] at hin
  rw [InQ_q f1 f2]
  unfold leE at e2
  unfold geE at e3
  simp only [Bool.or_eq_true, Bool.and_eq_true, Bool.not_eq_true', decide_eq_true_eq] at e2 e3
  refine ⟨?_, ?_⟩
  · rcases o : x.fr.op with _ | _
    · right
      rcases e2 with w | ⟨w1, w2⟩
      · rw [o] at w; simp at w
      · have k := (cmp_q f1 z1 o w1).2.1 w2
        rcases hin.1 with q | q
        · rw [w1] at q; simp at q
        · grind
    · exact .inl rfl
  · rcases o : x.to.op with _ | _
    · right
      rcases e3 with w | ⟨w1, w2⟩
      · rw [o] at w; simp at w
      · have k := (cmp_q z2 f2 w1 o).2.1 (by unfold cmpZ at *; omega)
        rcases hin.2 with q | q
        · rw [w1] at q; simp at q
        · grind
    · exact .inl rfl
/-- Two numbers within one piece: it is more than one number. -/
theorem two_np {x : PC} (f1 : EFine x.fr) (f2 : EFine x.to) {t u : Rat} (hne : t ≠ u) (h1 : InQ x.fr x.to t) (h2 : InQ x.fr x.to u) : pointB x = false := by
  rw [InQ_q f1 f2] at h1 h2
  cases hn : pointB x with
  | false => rfl
  | true =>
    exfalso
    unfold pointB at hn
    simp only [Bool.and_eq_true, Bool.not_eq_true', decide_eq_true_eq] at hn
    obtain ⟨q1, q2, q3⟩ := hn
    rw [q1, q2, ← q3] at h1 h2
    simp at h1 h2
    grind
/-- Within a piece just where there is a best corner. -/
theorem ans_in (hb : By p b) (hP : Grp p b P) {l0 : List Nat} (ho0 : OKb p l0) (t : Rat) : (∃ x ∈ ansP P, InQ x.fr x.to t) ↔ ∃ l, OKb p l ∧ BestT p b l t := by
  constructor
  · rintro ⟨x, hx, hin⟩
    rcases at_T hb t ho0 with h | ⟨d, hd⟩
    · exact h
    · exact absurd hd (max_noway (grp_max hb hP (mem_ans hb hP hx) hin) ho0 d)
  · rintro ⟨l, ho, ht⟩
    obtain ⟨x, hx, _, hin⟩ := best_pc hb hP ho ht
    apply Classical.byContradiction
    intro hno
    obtain ⟨z, hz⟩ := List.exists_mem_of_ne_nil _ (ans_some (P := P) (fun e => by rw [e] at hx; simp at hx))
    have hzP := mem_ans hb hP hz
    obtain ⟨s, hs⟩ := pc_num hb hP hzP
    have hts : t ≠ s := fun e => hno ⟨z, hz, by rw [e]; exact hs⟩
    have m1 := grp_max hb hP hx hin
    have m2 := grp_max hb hP hzP hs
    -- a piece that has t and another number
    have hcon : ∀ y ∈ P, ∀ u, u ≠ t → InQ y.fr y.to t → InQ y.fr y.to u → False := by
      intro y hy u hu h1 h2
      obtain ⟨f1, f2⟩ := grp_fine hb hP hy
      exact hno ⟨y, ans_np hy (two_np f1 f2 (fun e => hu e.symm) h1 h2), h1⟩
    rcases (show t < s ∨ s < t by grind) with hlt | hgt
    · obtain ⟨u, u1, u2, u3⟩ := near_up t s hlt (P.map fun y => y.fr.q)
      rcases at_T hb u ho0 with ⟨l', ho', ht'⟩ | ⟨d, hd⟩
      · obtain ⟨y, hy, _, hyu⟩ := best_pc hb hP ho' ht'
        obtain ⟨f1, f2⟩ := grp_fine hb hP hy
        refine hcon y hy u (by grind) ?_ hyu
        rw [InQ_q f1 f2] at hyu ⊢
        refine ⟨?_, hyu.2.imp id fun w => by grind⟩
        rcases hyu.1 with w | w
        · exact .inl w
        · rcases u3 y.fr.q (List.mem_map.2 ⟨y, hy, rfl⟩) with q | q
          · exact .inr q
          · grind
      · rcases way_lin (t1 := t) (t2 := s) (by grind) (by grind) hd with w | w
        · exact max_noway m1 ho0 d w
        · exact max_noway m2 ho0 d w
    · obtain ⟨u, u1, u2, u3⟩ := near_down t s hgt (P.map fun y => y.to.q)
      rcases at_T hb u ho0 with ⟨l', ho', ht'⟩ | ⟨d, hd⟩
      · obtain ⟨y, hy, _, hyu⟩ := best_pc hb hP ho' ht'
        obtain ⟨f1, f2⟩ := grp_fine hb hP hy
        refine hcon y hy u (by grind) ?_ hyu
        rw [InQ_q f1 f2] at hyu ⊢
        refine ⟨hyu.1.imp id fun w => by grind, ?_⟩
        rcases hyu.2 with w | w
        · exact .inl w
        · rcases u3 y.to.q (List.mem_map.2 ⟨y, hy, rfl⟩) with q | q
          · exact .inr q
          · grind
      · rcases way_lin (t1 := s) (t2 := t) (by grind) (by grind) hd with w | w
        · exact max_noway m2 ho0 d w
        · exact max_noway m1 ho0 d w
/-- And it tells what it is worth. -/
theorem ans_worth (hb : By p b) (hP : Grp p b P) {x : PC} (hx : x ∈ ansP P) {t : Rat} (hin : InQ x.fr x.to t) {l : List Nat} (ho : OKb p l) (ht : BestT p b l t) : x.B + t * x.S = baseQ p l + t * slopQ p b l := by
  obtain ⟨y, hy, e, hyt⟩ := best_pc hb hP ho ht
  obtain ⟨b1, s1⟩ := pc_BS hb ho e
  rw [← b1, ← s1]
  exact both_max hb hP (mem_ans hb hP hx) hy (grp_max hb hP (mem_ans hb hP hx) hin) (grp_max hb hP hy hyt)
end
end Go.Proofs.Ytjcdkbalhleeeab

namespace Go.Proofs.Ytjcdkbalhleeeab

/-- Costs at n / d, times d. -/
def lineM (p : PG) (b : List Int) (n d : Int) : List Int := (List.range p.costs.length).map fun i => d * p.costs.getD i 0 + n * b.getD i 0
section
variable {p : PG} {b : List Int} {P : List PC} {n d : Int} {l : List Nat}
theorem lineM_len : (lineM p b n d).length = p.costs.length := by simp [lineM]
theorem lineM_at (hb : b.length = p.costs.length) (j : Nat) : (lineM p b n d).getD j 0 = d * p.costs.getD j 0 + n * b.getD j 0 := by
  by_cases h : j < p.costs.length
  · simp [lineM, List.getD, h]
  · have e1 : p.costs.getD j 0 = 0 := by simp [List.getD, List.getElem?_eq_none (Nat.le_of_not_lt h)]
    have e2 : b.getD j 0 = 0 := by simp [List.getD, List.getElem?_eq_none (show b.length ≤ j by omega)]
    have e3 : (lineM p b n d).getD j 0 = 0 := by simp [List.getD, List.getElem?_eq_none (show (lineM p b n d).length ≤ j by rw [lineM_len]; omega)]
    rw [e1, e2, e3]; simp
theorem lineM_small (hs : smallB 12 p.costs = true) (hbs : smallB 12 b = true) (hn : -16 ≤ n ∧ n ≤ 16) (hd : 1 ≤ d ∧ d ≤ 16) : smallB 400 (lineM p b n d) = true := by
  rw [smallB_iff]
  intro x hx
  simp only [lineM, List.mem_map, List.mem_range] at hx
  obtain ⟨i, _, rfl⟩ := hx
  have h1 := (smallB_getD (m := 12) (by omega)).1 hs i
  have h2 := (smallB_getD (m := 12) (by omega)).1 hbs i
  have m1 := mul_bound d (p.costs.getD i 0) 16 12 (by omega) hd.2 h1.1 h1.2
  have m2 := mul_bound n (b.getD i 0) 16 12 hn.1 hn.2 h2.1 h2.2
  omega
theorem lineM_by (hs : smallB 12 p.costs = true) (hbs : smallB 12 b = true) (hn : -16 ≤ n ∧ n ≤ 16) (hd : 1 ≤ d ∧ d ≤ 16) : By p (lineM p b n d) := ⟨lineM_len, lineM_small hs hbs hn hd⟩
theorem costs_ok {e : List Int} (hp : mayPB p = true) (he : By p e) : OKb (costsOf p e) l ↔ OKb p l := by
  have key : Bs p l → (nonneg (lookN (costsOf p e) l).xs = true ↔ nonneg (lookN p l).xs = true) := fun h => by
    obtain ⟨_, _, _, hc⟩ := corn_of h.hp h.hr h.hd
    have h' := costs_bs he h
    obtain ⟨_, _, _, hd⟩ := corn_of h'.hp h'.hr h'.hd
    have hq := lookN_xs he h
    constructor
    · intro hx
      refine nonneg_of fun j => (nonneg_div hc.px).1 ?_
      have := (nonneg_div hd.px).2 (nonneg_at hx j)
      have e1 := hq j
      unfold xq at e1
      rw [← e1]; exact this
    · intro hx
      refine nonneg_of fun j => (nonneg_div hd.px).1 ?_
      have := (nonneg_div hc.px).2 (nonneg_at hx j)
      have e1 := hq j
      unfold xq at e1
      rw [e1]; exact this
  constructor
  · intro h
    have hr : RightL p l := ⟨h.hr.len, fun j hj => by have := h.hr.lt j hj; have e1 := he.len; change j < e.length + p.rows.length at this; omega, h.hr.pw⟩
    have hd : denZ p l ≠ 0 := by have := h.hd; rwa [costs_den he.len] at this
    exact ⟨hp, hr, hd, (key ⟨hp, hr, hd⟩).1 h.hx⟩
  · intro h
    have h' := costs_bs he h.bs
    exact ⟨h'.hp, h'.hr, h'.hd, (key h.bs).2 h.hx⟩
theorem le_sign {a b : Int} (hb : 0 < b) : (a : Rat) / (b : Rat) ≤ 0 ↔ a ≤ 0 := by
  have h := (sign_div (a := a) hb).1
  constructor
  · intro q
    by_cases w : 0 < a
    · have := h.2 w; grind
    · omega
  · intro q
    apply Classical.byContradiction
    intro w
    have : 0 < a := h.1 (by grind)
    omega
theorem line_best (hp : mayPB p = true) (hb : By p b) (he : By p (lineM p b n d)) (hd : 0 < d) : BestC (costsOf p (lineM p b n d)) l ↔ OKb p l ∧ BestT p b l ((n : Rat) / (d : Rat)) := by
  unfold BestC
  rw [costs_ok hp he]
  refine and_congr_right fun ho => ?_
  obtain ⟨_, _, _, hc⟩ := corn_of ho.hp ho.hr ho.hd
  have h1 := costs_bs hb ho.bs
  obtain ⟨_, _, _, hdd⟩ := corn_of h1.hp h1.hr h1.hd
  have h2 := costs_bs he ho.bs
  obtain ⟨_, _, _, hk⟩ := corn_of h2.hp h2.hr h2.hd
  have hs : ∀ j, j < p.costs.length + p.rows.length → (gq (lookN p l) j + (n : Rat) / (d : Rat) * gq (lookN (costsOf p b) l) j ≤ 0 ↔ (lookN (costsOf p (lineM p b n d)) l).gs.getD j 0 ≤ 0) := fun j hj => by
    rw [← gain_sign (n := n) (m := d) hb.len lineM_len (lineM_at hb.len) hc hdd hk hj]
    unfold fZ gZ gq
    have p1 := hc.pg
    have p2 := hdd.pg
    generalize (lookN p l).gs.getD j 0 = x
    generalize (lookN (costsOf p b) l).gs.getD j 0 = y
    generalize (lookN p l).gd = u at *
    generalize (lookN (costsOf p b) l).gd = v at *
    have hw : 0 < u * v * d := Int.mul_pos (Int.mul_pos p1 p2) hd
    have e : (x : Rat) / (u : Rat) + (n : Rat) / (d : Rat) * ((y : Rat) / (v : Rat)) = ((x * v * d + n * (y * u) : Int) : Rat) / ((u * v * d : Int) : Rat) := by
      have q1 := cast_pos p1
      have q2 := cast_pos p2
      have q3 := cast_pos hd
      rw [Rat.intCast_add, Rat.intCast_mul, Rat.intCast_mul, Rat.intCast_mul, Rat.intCast_mul, Rat.intCast_mul, Rat.intCast_mul]
      grind
    rw [e, le_sign hw]
  have hN : (costsOf p (lineM p b n d)).costs.length + (costsOf p (lineM p b n d)).rows.length = p.costs.length + p.rows.length := by show (lineM p b n d).length + _ = _; rw [lineM_len]; rfl
  constructor
  · intro h j hj
    exact (hs j hj).2 (h j)
  · intro h j
    by_cases hj : j < p.costs.length + p.rows.length
    · exact (hs j hj).1 (h j hj)
    · have : (lookN (costsOf p (lineM p b n d)) l).gs.getD j 0 = 0 := by
        rw [List.getD, List.getElem?_eq_none (by rw [hk.lg, hN]; omega)]; rfl
      omega
/-- Of the kind Best: a best corner's answer. -/
theorem sol_best {q : PG} (hk : (solZ q).kind = 1) : ∃ l, BestC q l ∧ solZ q = bestA q l := by
  unfold solZ at hk ⊢
  cases hb : begZ q with
  | some l =>
    rw [hb] at hk
    simp only at hk ⊢
    obtain ⟨ho, hn⟩ := last_ok (beg_some hb)
    generalize wlastZ q l = lk at *
    rcases kind_at hn with ⟨h1, hi⟩ | ⟨h1, r, hi, hout⟩
    · rw [if_pos h1]
      exact ⟨lk, ⟨ho, inZ_none hi⟩, rfl⟩
    · rw [if_neg (by omega)] at hk
      exact absurd hk (by show ¬ ((2 : Int) = 1); omega)
  | none =>
    rw [hb] at hk
    simp only at hk
    cases hs : stZ q with
    | none => rw [hs] at hk; exact absurd hk (by show ¬ ((0 : Int) = 1); omega)
    | some x => rw [hs] at hk; exact absurd hk (by show ¬ ((3 : Int) = 1); omega)
/-- Its worth. -/
theorem bestA_worth {q : PG} (ho : OKb q l) : mayB [(bestA q l).wn] (bestA q l).wd = true ∧ ((bestA q l).wn : Rat) / ((bestA q l).wd : Rat) = sumR (fun j => cq q j * xq (lookN q l) j) (q.costs.length + q.rows.length) := by
  obtain ⟨_, _, _, hc⟩ := corn_of ho.hp ho.hr ho.hd
  obtain ⟨hf, _, _⟩ := goesB_iff.1 (var_goes hc ho.hx)
  obtain ⟨w1, w2, _⟩ := var_worth hc
  obtain ⟨g, g0, g1, g2, g3, g4⟩ := var_parts hc
  have e1 : (bestA q l).wn = frN (dot q.costs (ptN (varL q (lookN q l)) (lookN q l).xd)) (ptD (varL q (lookN q l)) (lookN q l).xd) := by
    show worN q _ _ = _
    unfold worN; rw [if_pos hf]
  have e2 : (bestA q l).wd = ptD [dot q.costs (ptN (varL q (lookN q l)) (lookN q l).xd)] (ptD (varL q (lookN q l)) (lookN q l).xd) := by
    show worD q _ _ = _
    unfold worD; rw [if_pos hf]
  obtain ⟨f1, f2⟩ := fr_q w1 g4
  rw [e1, e2]
  refine ⟨f2, ?_⟩
  rw [f1, val_sum hc]
  have q1 := cast_pos g4
  have q2 := cast_pos hc.px
  have q3 : ((dot q.costs (ptN (varL q (lookN q l)) (lookN q l).xd) : Int) : Rat) * ((lookN q l).xd : Rat) = (dot q.costs ((lookN q l).xs.take q.costs.length) : Rat) * ((ptD (varL q (lookN q l)) (lookN q l).xd : Int) : Rat) := by
    rw [← Rat.intCast_mul, ← Rat.intCast_mul]
    exact congrArg _ w2
  grind
theorem line_sum (hb : By p b) (he : By p (lineM p b n d)) (h : Bs p l) : sumR (fun j => cq (costsOf p (lineM p b n d)) j * xq (lookN (costsOf p (lineM p b n d)) l) j) (p.costs.length + p.rows.length) = (d : Rat) * baseQ p l + (n : Rat) * slopQ p b l := by
  unfold baseQ slopQ
  rw [← sumR_mul, ← sumR_mul, ← sumR_add]
  refine sumR_congr fun j _ => ?_
  rw [lookN_xs he h]
  have : cq (costsOf p (lineM p b n d)) j = (d : Rat) * cq p j + (n : Rat) * cq (costsOf p b) j := by
    have hz : costZ (costsOf p (lineM p b n d)) j = d * costZ p j + n * costZ (costsOf p b) j := by
      unfold costZ
      show (if j < (lineM p b n d).length then (lineM p b n d).getD j 0 else 0) = d * (if j < p.costs.length then p.costs.getD j 0 else 0) + n * (if j < b.length then b.getD j 0 else 0)
      rw [lineM_len, lineM_at hb.len, hb.len]
      split <;> simp
    unfold cq
    rw [hz, Rat.intCast_add, Rat.intCast_mul, Rat.intCast_mul]
  rw [this]; grind
/-- The law. -/
theorem sweep_plain (hp : mayPB p = true) (hb : By p b) (hs : smallB 12 p.costs = true) (hbs : smallB 12 b = true) (hn : -16 ≤ n ∧ n ≤ 16) (hd : 1 ≤ d ∧ d ≤ 16) (hP : Grp p b P) {l0 : List Nat} (ho0 : OKb p l0) :
    ((∃ x ∈ ansP P, InQ x.fr x.to ((n : Rat) / (d : Rat))) ↔ (solZ (costsOf p (lineM p b n d))).kind = 1) ∧
    ((solZ (costsOf p (lineM p b n d))).kind = 1 ∨ (solZ (costsOf p (lineM p b n d))).kind = 2) ∧
    ∀ x ∈ ansP P, InQ x.fr x.to ((n : Rat) / (d : Rat)) → (solZ (costsOf p (lineM p b n d))).kind = 1 →
      (solZ (costsOf p (lineM p b n d))).wn * x.bd * x.sd = (d * x.bn * x.sd + n * x.sn * x.bd) * (solZ (costsOf p (lineM p b n d))).wd := by
  have he := lineM_by (n := n) (d := d) hs hbs hn hd
  have hq : mayPB (costsOf p (lineM p b n d)) = true := costs_may he.len hp he.small
  obtain ⟨_, hk, _⟩ := sol_all hq
  have hline : ∀ l, BestC (costsOf p (lineM p b n d)) l ↔ OKb p l ∧ BestT p b l ((n : Rat) / (d : Rat)) := fun l => line_best hp hb he (by omega)
  have h1 : (solZ (costsOf p (lineM p b n d))).kind = 1 ↔ ∃ l, OKb p l ∧ BestT p b l ((n : Rat) / (d : Rat)) := by
    constructor
    · intro h
      obtain ⟨l, hl, _⟩ := sol_best h
      exact ⟨l, (hline l).1 hl⟩
    · rintro ⟨l, hl⟩
      rcases hk with ⟨h, _⟩ | ⟨_, _, h⟩ | ⟨_, h⟩
      · exact h
      · exact absurd ((hline l).2 hl) (h l)
      · exact absurd ((hline l).2 hl).1 (h l)
  refine ⟨by rw [ans_in hb hP ho0, h1], ?_, ?_⟩
  · rcases hk with ⟨h, _⟩ | ⟨h, _⟩ | ⟨_, h⟩
    · exact .inl h
    · exact .inr h
    · exact absurd ((costs_ok hp he).2 ho0) (h l0)
  · intro x hx hin hk1
    obtain ⟨l, hl, e⟩ := sol_best hk1
    have hl' := (hline l).1 hl
    obtain ⟨m1, m2⟩ := bestA_worth hl.1
    have hls := line_sum hb he hl'.1.bs
    have hN : (costsOf p (lineM p b n d)).costs.length + (costsOf p (lineM p b n d)).rows.length = p.costs.length + p.rows.length := by show (lineM p b n d).length + _ = _; rw [lineM_len]; rfl
    rw [hN, hls] at m2
    rw [← e] at m1 m2
    have hw := ans_worth hb hP hx hin hl'.1 hl'.2
    obtain ⟨b1, b2⟩ := pc_pos hb hP (mem_ans hb hP hx)
    have c1 := (mayB_parts b1).1
    have c2 := (mayB_parts b2).1
    have c3 := (mayB_parts m1).1
    unfold PC.B PC.S at hw
    generalize (solZ (costsOf p (lineM p b n d))).wn = wn at *
    generalize (solZ (costsOf p (lineM p b n d))).wd = wd at *
    generalize baseQ p l = B at *
    generalize slopQ p b l = S at *
    have q1 := cast_pos (show 0 < x.bd by omega)
    have q2 := cast_pos (show 0 < x.sd by omega)
    have q3 := cast_pos (show 0 < wd by omega)
    have q4 := cast_pos (show 0 < d by omega)
    have q5 : (wn : Rat) * (x.bd : Rat) * (x.sd : Rat) = ((d : Rat) * (x.bn : Rat) * (x.sd : Rat) + (n : Rat) * (x.sn : Rat) * (x.bd : Rat)) * (wd : Rat) := by grind
    exact_mod_cast q5
end
end Go.Proofs.Ytjcdkbalhleeeab

namespace Go.Proofs.Ytjcdkbalhleeeab

/-- Is a number within a piece? -/
def inP (x : PC) (n d : Int) : Bool := (x.fr.op || decide (0 ≤ cmpZ n d x.fr.n x.fr.d)) && (x.to.op || decide (cmpZ n d x.to.n x.to.d ≤ 0))
theorem rat_mul_le {a c d : Rat} (hd : 0 < d) : a * d ≤ c * d ↔ a ≤ c := by
  constructor
  · intro q
    apply Classical.byContradiction
    intro w
    have : c < a := by grind
    have := Rat.mul_lt_mul_of_pos_right this hd
    grind
  · intro q
    exact Rat.mul_le_mul_of_nonneg_right q (by grind)
theorem rat_le_mul {a b n d : Int} (hd : 0 < d) : ((a : Rat) ≤ (n : Rat) / (d : Rat) * (b : Rat) ↔ a * d ≤ n * b) ∧ ((n : Rat) / (d : Rat) * (b : Rat) ≤ (a : Rat) ↔ n * b ≤ a * d) := by
  have h := cast_pos hd
  have e : (n : Rat) / (d : Rat) * (b : Rat) * (d : Rat) = (n : Rat) * (b : Rat) := by grind
  constructor
  · rw [← Rat.intCast_le_intCast, Rat.intCast_mul, Rat.intCast_mul, ← e, rat_mul_le h]
  · rw [← Rat.intCast_le_intCast, Rat.intCast_mul, Rat.intCast_mul, ← e, rat_mul_le h]
theorem cross_lq {a b n d fn fd : Int} (hd : 0 < d) (hfd : 0 < fd) (e : fn * d = n * fd) : (a * d ≤ n * b ↔ a * fd ≤ fn * b) ∧ (n * b ≤ a * d ↔ fn * b ≤ a * fd) := by
  have e1 : (a * d) * fd = (a * fd) * d := by grind
  have e2 : (n * b) * fd = (fn * b) * d := by grind
  constructor
  · rw [← Int.mul_le_mul_right (a := fd) hfd, e1, e2, Int.mul_le_mul_right hd]
  · rw [← Int.mul_le_mul_right (a := fd) hfd, e1, e2, Int.mul_le_mul_right hd]
theorem inP_iff {x : PC} {n d : Int} (hn : -16 ≤ n ∧ n ≤ 16) (hd : 1 ≤ d ∧ d ≤ 16) : inP x (frN n d) (ptD [n] d) = true ↔ InQ x.fr x.to ((n : Rat) / (d : Rat)) := by
  have hE : ptE [n] d = 0 := pt_ok (by omega) (by omega) (by rw [smallB_one]; simp; omega) (by simp)
  obtain ⟨h1, h2, _⟩ := frac_good (n := n) (d := d) (by omega) hE
  unfold inP InQ cmpZ
  generalize frN n d = fn at *
  generalize ptD [n] d = fd at *
  have hd0 : 0 < d := by omega
  rw [Bool.and_eq_true, Bool.or_eq_true, Bool.or_eq_true, decide_eq_true_eq, decide_eq_true_eq, (rat_le_mul hd0).1, (rat_le_mul hd0).2, (cross_lq hd0 h2 h1).1, (cross_lq hd0 h2 h1).2]
  constructor
  · rintro ⟨a, b⟩; exact ⟨a.imp id (by omega), b.imp id (by omega)⟩
  · rintro ⟨a, b⟩; exact ⟨a.imp id (by omega), b.imp id (by omega)⟩
/-- What the law asks. -/
theorem sweep_asks {p : PG} {b : List Int} {n d : Int} (hp : mayPB p = true) (hb : By p b) (hs : smallB 12 p.costs = true) (hbs : smallB 12 b = true) (hn : -16 ≤ n ∧ n ≤ 16) (hd : 1 ≤ d ∧ d ≤ 16) {P : List PC} (hP : Grp p b P) {l0 : List Nat} (ho0 : OKb p l0) {a : AN} (ha : solZ (costsOf p (lineM p b n d)) = a) :
    ((ansP P).any (fun x => inP x (frN n d) (ptD [n] d)) = decide (a.kind = 1)) ∧ (a.kind = 1 ∨ a.kind = 2) ∧ mayPB (costsOf p (lineM p b n d)) = true ∧
    ∀ x ∈ ansP P, EFine x.fr ∧ EFine x.to ∧ (inP x (frN n d) (ptD [n] d) = true → a.kind = 1 → a.wn * x.bd * x.sd = (d * x.bn * x.sd + n * x.sn * x.bd) * a.wd) := by
  obtain ⟨h1, h2, h3⟩ := sweep_plain hp hb hs hbs hn hd hP ho0
  rw [ha] at h1 h2 h3
  refine ⟨?_, h2, costs_may lineM_len hp (lineM_by hs hbs hn hd).small, fun x hx => ?_⟩
  · rw [Bool.eq_iff_iff, List.any_eq_true, decide_eq_true_eq, ← h1]
    constructor
    · rintro ⟨x, hx, h⟩; exact ⟨x, hx, (inP_iff hn hd).1 h⟩
    · rintro ⟨x, hx, h⟩; exact ⟨x, hx, (inP_iff hn hd).2 h⟩
  · obtain ⟨f1, f2⟩ := grp_fine hb hP (mem_ans hb hP hx)
    exact ⟨f1, f2, fun hin hk => h3 x hx ((inP_iff hn hd).1 hin) hk⟩
theorem ok_of_any {p : PG} (h : ((cornersZ p).any fun l => nonneg (lookN p l).xs) = true) : ∃ l, OKb p l := by
  obtain ⟨l, hl, hx⟩ := List.any_eq_true.1 h
  have hb := mem_corners.1 hl
  exact ⟨l, hb.hp, hb.hr, hb.hd, hx⟩
end Go.Proofs.Ytjcdkbalhleeeab
