/-
  Contracts of functions and plain laws that later parts of the proof use. The conditions stand in each theorem.
-/
import Derived.Test.YtjcdkbalhleeeaaGreatDoorG03
import Derived.Test.YtjcdkbalhleeeaaGreatDoorG01
namespace Go.Proofs.YtjcdkbalhleeeaaGreatDoor

/-- What is wrong with columns as a walk's beginning. -/
def nextE (p : PG) (l : List Int) : Int := if lookE p l = 0 then (if nonneg (lookC p l).xs = true then 0 else 3) else lookE p l
theorem look_parts {p : PG} {l : List Int} (h : lookE p l = 0) : mayPB p = true ∧ rightA p l = true ∧ denZ p (nats l) ≠ 0 := by
  unfold lookE at h
  split at h
  · omega
  · rename_i h1
    split at h
    · omega
    · rename_i h2
      split at h
      · omega
      · rename_i h3
        exact ⟨by simpa using h1, by simpa using h2, h3⟩
theorem look_eq {p : PG} {l : List Int} (h : lookE p l = 0) : l = ints (nats l) := (right_nats (look_parts h).2.1).2
theorem lookN_eq {p : PG} {l : List Int} (h : lookE p l = 0) : lookN p (nats l) = lookC p l := by unfold lookN; rw [← look_eq h]
theorem nextE_look {p : PG} {l : List Int} (h : nextE p l = 0) : lookE p l = 0 ∧ nonneg (lookC p l).xs = true := by
  unfold nextE at h
  split at h
  · rename_i h1
    split at h
    · rename_i h2; exact ⟨h1, h2⟩
    · omega
  · rename_i h1; exact absurd h h1
theorem nextE_ok {p : PG} {l : List Int} (h : nextE p l = 0) : OKb p (nats l) := by
  obtain ⟨h1, h2⟩ := nextE_look h
  obtain ⟨q1, q2, q3⟩ := look_parts h1
  exact ⟨q1, (right_nats q2).1, q3, by rw [lookN_eq h1]; exact h2⟩
theorem ok_look {p : PG} {l : List Nat} (h : OKb p l) : lookE p (ints l) = 0 := look_ints h.hp h.hr h.hd
theorem ok_nextE {p : PG} {l : List Nat} (h : OKb p l) : nextE p (ints l) = 0 := by
  unfold nextE
  rw [if_pos (ok_look h)]; exact if_pos h.hx

/-- The k-th columns of a walk are lk, and there it ends. -/
structure EndAt (p : PG) (l : List Nat) (k : Nat) (lk : List Nat) : Prop where
  at_ : wk p l k = some lk
  no : nxtZ p lk = none
theorem EndAt.le {p : PG} {l : List Nat} {a b : Nat} {la lb : List Nat} (h1 : EndAt p l a la) (h2 : EndAt p l b lb) : a ≤ b := by
  apply Classical.byContradiction
  intro h
  have hn : wk p l (b + 1) = none := by rw [wk, h2.at_]; exact h2.no
  obtain ⟨l', hl'⟩ := wk_some (p := p) (l := l) (n := a) (by rw [h1.at_]; simp) (i := b + 1) (by omega)
  rw [hn] at hl'
  cases hl'
theorem EndAt.uniq {p : PG} {l : List Nat} {a b : Nat} {la lb : List Nat} (h1 : EndAt p l a la) (h2 : EndAt p l b lb) : a = b ∧ la = lb := by
  have h : a = b := Nat.le_antisymm (h1.le h2) (h2.le h1)
  subst h
  have := h1.at_.symm.trans h2.at_
  exact ⟨rfl, by injection this⟩
/-- The columns of a walk, one by one. -/
def wkL (p : PG) (l : List Nat) (k : Nat) : List (List Int) := (List.range k).map fun i => ints ((wk p l i).getD [])
theorem wkL_len (p : PG) (l : List Nat) (k : Nat) : (wkL p l k).length = k := by simp [wkL]
theorem wkL_at (p : PG) (l : List Nat) {k i : Nat} (h : i < k) : (wkL p l k).getD i [] = ints ((wk p l i).getD []) := by simp [wkL, List.getD, h]
theorem wk_fewer {p : PG} {l : List Nat} (ho : OKb p l) {k : Nat} {lk : List Nat} (h : wk p l k = some lk) : k < 256 := by
  apply Classical.byContradiction
  intro hk
  have he := wk_ends ho
  have h8 : p.costs.length + p.rows.length ≤ 8 := by
    have := mayPB_iff.1 ho.hp; omega
  have : 2 ^ (p.costs.length + p.rows.length) ≤ 2 ^ 8 := Nat.pow_le_pow_right (by omega) h8
  obtain ⟨l', hl'⟩ := wk_some (p := p) (l := l) (n := k) (by rw [h]; simp) (i := 2 ^ (p.costs.length + p.rows.length)) (by omega)
  rw [he] at hl'
  cases hl'
theorem len_next {p : PG} {l l' : List Nat} (ho : OKb p l) (h : nxtZ p l = some l') : OKb p l' := by
  have := wk_ok ho (n := 1) (l' := l') (by rw [wk, wk]; exact h)
  exact this

/-! What the variables are worth. -/
def valN (p : PG) (l : List Nat) : Int := dot p.costs ((lookN p l).xs.take p.costs.length)
theorem val_sum {p : PG} {l : List Nat} {c : CO} {gx gy gg : Int} (h : Corn p l c gx gy gg) :
    sumR (fun j => cq p j * xq c j) (p.costs.length + p.rows.length) = (dot p.costs (c.xs.take p.costs.length) : Rat) / (c.xd : Rat) := by
  have e1 : sumN (fun j => costZ p j * c.xs.getD j 0) (p.costs.length + p.rows.length) = dot p.costs (c.xs.take p.costs.length) := by
    rw [sum_costZ, dot_sum (n := p.costs.length) rfl (by rw [List.length_take, h.lx]; omega)]
    refine sumN_congr fun j hj => ?_
    have : (c.xs.take p.costs.length).getD j 0 = c.xs.getD j 0 := by simp [List.getD, hj]
    rw [this]
  have hx := cast_pos h.px
  have e2 : sumR (fun j => cq p j * xq c j) (p.costs.length + p.rows.length) = sumR (fun j => (1 / (c.xd : Rat)) * ((costZ p j * c.xs.getD j 0 : Int) : Rat)) (p.costs.length + p.rows.length) :=
    sumR_congr fun j _ => by unfold cq xq; rw [Rat.intCast_mul]; grind
  rw [e2, sumR_mul, ← cast_sum, e1]
  grind
/-- The column that comes in is none of these. -/
theorem in_new {p : PG} {l : List Nat} {r : Nat} (ho : OKb p l) (hin : inZ (lookN p l).gs = some r) : r ∉ l ∧ r < p.costs.length + p.rows.length ∧ 0 < (lookN p l).gs.getD r 0 := by
  obtain ⟨gx, gy, gg, hc⟩ := corn_of ho.hp ho.hr ho.hd
  obtain ⟨i1, i2, i3⟩ := inZ_some hin
  rw [hc.lg] at i1
  refine ⟨fun h => ?_, i1, i2⟩
  obtain ⟨q, hq1, rfl⟩ := mem_getD.1 h
  have := hc.gain_own (k := q) (by rw [← ho.hr.len]; exact hq1)
  omega
end Go.Proofs.YtjcdkbalhleeeaaGreatDoor

namespace Go.Proofs.YtjcdkbalhleeeaaGreatDoor

/-- Columns of which there is one way. -/
structure Bs (p : PG) (l : List Nat) : Prop where
  hp : mayPB p = true
  hr : RightL p l
  hd : denZ p l ≠ 0
theorem OKb.bs {p : PG} {l : List Nat} (h : OKb p l) : Bs p l := ⟨h.hp, h.hr, h.hd⟩
theorem Bs.rows4 {p : PG} {l : List Nat} (h : Bs p l) : p.rows.length ≤ 4 := (mayPB_iff.1 h.hp).2.2.2.1
/-- By how much the k-th column of l becomes less as column j grows by one. -/
def alq (p : PG) (l : List Nat) (k j : Nat) : Rat := xq (lookN (qOf p j) l) (l.getD k 0)
theorem colQ {p : PG} {l : List Nat} (hb : Bs p l) (r : Nat) {i : Nat} (hi : i < p.rows.length) : sumR (fun j => aq p i j * xq (lookN (qOf p r) l) j) (p.costs.length + p.rows.length) = aq p i r := by
  obtain ⟨a1, a2, a3, hq⟩ := corn_of (qOf_may hb.hp r) (qOf_right hb.hr r) (by rw [qOf_den hb.hr.len]; exact hb.hd)
  have h1 := hq.rowQ (i := i) (by rw [qOf_len]; exact hi)
  rw [qOf_most p r hi, qOf_len] at h1
  simp only [show (qOf p r).costs = p.costs from rfl] at h1
  rw [show aq p i r = (hasZ p i r : Rat) from rfl, ← h1]
  refine sumR_congr fun j _ => ?_
  unfold aq; rw [qOf_has]
theorem colOff {p : PG} {l : List Nat} (hb : Bs p l) (r : Nat) {j : Nat} (hj : j ∉ l) : xq (lookN (qOf p r) l) j = 0 := by
  obtain ⟨a1, a2, a3, hq⟩ := corn_of (qOf_may hb.hp r) (qOf_right hb.hr r) (by rw [qOf_den hb.hr.len]; exact hb.hd)
  exact hq.offQ hj
theorem slack_aq {p : PG} {i k : Nat} : aq p i (p.costs.length + k) = if i = k then 1 else 0 := by
  unfold aq hasZ
  rw [if_neg (by omega)]
  by_cases h : i = k
  · rw [if_pos (by omega), if_pos h]; rfl
  · rw [if_neg (by omega), if_neg h]; rfl
/-- Columns as sums of the rows' own columns. -/
theorem col_by {p : PG} {l : List Nat} (hb : Bs p l) {u : Nat → Rat} {v : Nat → Rat} (hu : ∀ j, j ∉ l → u j = 0) (hv : ∀ i, i < p.rows.length → sumR (fun j => aq p i j * u j) (p.costs.length + p.rows.length) = v i) :
    ∀ j, u j = sumR (fun i => v i * xq (lookN (qOf p (p.costs.length + i)) l) j) p.rows.length := by
  have hz := kernel hb.hr hb.rows4 hb.hd (z := fun j => u j - sumR (fun i => v i * xq (lookN (qOf p (p.costs.length + i)) l) j) p.rows.length) ?_ ?_
  · intro j; have := hz j; grind
  · intro j hj
    rw [hu j hj, sumR_congr (g := fun _ => 0) fun i _ => by rw [colOff hb _ hj]; grind, sumR_zero]; grind
  · intro i hi
    rw [sumR_congr (g := fun j => aq p i j * u j + (-1) * sumR (fun k => aq p i j * (v k * xq (lookN (qOf p (p.costs.length + k)) l) j)) p.rows.length) fun j _ => by rw [sumR_mul]; grind]
    rw [sumR_add, sumR_mul, hv i hi, sumR_comm]
    rw [sumR_congr (g := fun k => v k * aq p i (p.costs.length + k)) fun k hk => by
      rw [sumR_congr (g := fun j => v k * (aq p i j * xq (lookN (qOf p (p.costs.length + k)) l) j)) fun j _ => by grind, sumR_mul, colQ hb _ hi]]
    rw [sumR_one hi (fun k _ hk => by rw [slack_aq, if_neg (fun e => hk e.symm)]; grind), slack_aq, if_pos rfl]
    grind
theorem al_by {p : PG} {l : List Nat} (hb : Bs p l) (k j : Nat) : alq p l k j = sumR (fun i => aq p i j * alq p l k (p.costs.length + i)) p.rows.length :=
  col_by hb (fun _ hj => colOff hb j hj) (fun _ hi => colQ hb j hi) (l.getD k 0)
theorem x_by {p : PG} {l : List Nat} (hb : Bs p l) {z : Nat → Rat} (hz : ∀ i, i < p.rows.length → sumR (fun j => aq p i j * z j) (p.costs.length + p.rows.length) = ((mosts p).getD i 0 : Rat)) (k : Nat) :
    sumR (fun j => alq p l k j * z j) (p.costs.length + p.rows.length) = xq (lookN p l) (l.getD k 0) := by
  obtain ⟨gx, gy, gg, hc⟩ := corn_of hb.hp hb.hr hb.hd
  rw [col_by hb (u := xq (lookN p l)) (v := fun i => ((mosts p).getD i 0 : Rat)) (fun j hj => hc.offQ hj) (fun i hi => hc.rowQ hi) (l.getD k 0)]
  rw [sumR_congr (g := fun j => sumR (fun i => z j * (aq p i j * alq p l k (p.costs.length + i))) p.rows.length) fun j _ => by rw [al_by hb k j, sumR_mul]; grind]
  rw [sumR_comm]
  refine sumR_congr fun i hi => ?_
  rw [← hz i hi, sumR_congr (g := fun j => alq p l k (p.costs.length + i) * (aq p i j * z j)) fun j _ => by grind, sumR_mul]
  unfold alq; grind
theorem al_own {p : PG} {l : List Nat} (hb : Bs p l) {k q : Nat} (hk : k < l.length) (hq : q < l.length) : alq p l k (l.getD q 0) = if q = k then 1 else 0 := by
  have hlt := hb.hr.at_lt hq
  have hz := kernel hb.hr hb.rows4 hb.hd (z := fun j => xq (lookN (qOf p (l.getD q 0)) l) j - if j = l.getD q 0 then 1 else 0) ?_ ?_
  · have h := hz (l.getD k 0)
    unfold alq
    by_cases e : q = k
    · subst e; rw [if_pos rfl] at h ⊢; grind
    · rw [if_neg e]
      have hne : l.getD k 0 ≠ l.getD q 0 := by
        rcases Nat.lt_or_gt_of_ne e with h | h
        · have := hb.hr.ne h hk; omega
        · have := hb.hr.ne h hq; omega
      rw [if_neg hne] at h; grind
  · intro j hj
    rw [colOff hb _ hj, if_neg (fun e : j = l.getD q 0 => hj (by rw [e]; exact mem_getD.2 ⟨q, hq, rfl⟩))]; grind
  · intro i hi
    rw [sumR_congr (g := fun j => aq p i j * xq (lookN (qOf p (l.getD q 0)) l) j + (-1) * (if j = l.getD q 0 then aq p i (l.getD q 0) else 0)) fun j _ => by
      by_cases e : j = l.getD q 0
      · subst e; rw [if_pos rfl, if_pos rfl]; grind
      · rw [if_neg e, if_neg e]; grind]
    rw [sumR_add, sumR_mul, colQ hb _ hi, sumR_one hlt (fun j _ hj => if_neg hj), if_pos rfl]; grind
/-- A column changed for another one. -/
theorem bs_next {p : PG} {l : List Nat} (hb : Bs p l) {k r : Nat} (hk : k < l.length) (hN : r < p.costs.length + p.rows.length) (hn : alq p l k r ≠ 0) (hrl : r ∉ l) :
    Bs p (insN (l.eraseIdx k) r) := by
  refine ⟨hb.hp, right_next hb.hr hk hrl hN, den_next hb.hr hb.rows4 (by rw [← hb.hr.len]; exact hk) ?_ hrl hN⟩
  obtain ⟨a1, a2, a3, hq⟩ := corn_of (qOf_may hb.hp r) (qOf_right hb.hr r) (by rw [qOf_den hb.hr.len]; exact hb.hd)
  intro h0
  have h1 := hq.x (l.getD k 0)
  rw [xall_at (qOf_right hb.hr r) (by rw [qOf_len, ← hb.hr.len]; exact hk), h0] at h1
  apply hn
  unfold alq xq
  rcases Int.mul_eq_zero.1 h1.symm with e | e
  · exact absurd e hq.nx
  · rw [e]; exact zdiv _

/-- A step: the first column below 0 goes out, the first that makes it grow comes in. -/
structure Dst (p : PG) (l l' : List Nat) (k r : Nat) : Prop where
  bs : Bs p l
  kl : k < l.length
  neg : xq (lookN p l) (l.getD k 0) < 0
  fst : ∀ q, q < k → 0 ≤ xq (lookN p l) (l.getD q 0)
  rN : r < p.costs.length + p.rows.length
  al : alq p l k r < 0
  low : ∀ j, j < r → 0 ≤ alq p l k j
  eq : l' = insN (l.eraseIdx k) r
theorem Dst.rl {p : PG} {l l' : List Nat} {k r : Nat} (h : Dst p l l' k r) : r ∉ l := by
  intro hm
  obtain ⟨q, hq, rfl⟩ := mem_getD.1 hm
  have := h.al
  rw [al_own h.bs h.kl hq] at this
  split at this <;> grind
theorem Dst.next {p : PG} {l l' : List Nat} {k r : Nat} (h : Dst p l l' k r) : Bs p l' := by
  rw [h.eq]
  exact bs_next h.bs h.kl h.rN (fun e => by have := h.al; rw [e] at this; grind) h.rl
theorem Dst.mem {p : PG} {l l' : List Nat} {k r : Nat} (h : Dst p l l' k r) (j : Nat) : j ∈ l' ↔ (j ∈ l ∧ j ≠ l.getD k 0) ∨ j = r := by
  rw [h.eq, mem_insN, mem_erase h.bs.hr h.kl]
/-- A column below 0 that does not grow. -/
structure Stuck (p : PG) (l : List Nat) (k : Nat) : Prop where
  bs : Bs p l
  kl : k < l.length
  neg : xq (lookN p l) (l.getD k 0) < 0
  al : ∀ j, j < p.costs.length + p.rows.length → 0 ≤ alq p l k j

theorem least {P : Nat → Prop} : ∀ {n : Nat}, P n → ∃ k, k ≤ n ∧ P k ∧ ∀ q, q < k → ¬ P q := by
  intro n
  induction n using Nat.strongRecOn with
  | ind n ih =>
    intro h
    by_cases hh : ∃ q, q < n ∧ P q
    · obtain ⟨q, h1, h2⟩ := hh
      obtain ⟨k, k1, k2, k3⟩ := ih q h1 h2
      exact ⟨k, by omega, k2, k3⟩
    · exact ⟨n, Nat.le_refl _, h, fun q hq hp => hh ⟨q, hq, hp⟩⟩
theorem bs_case {p : PG} {l : List Nat} (hb : Bs p l) : OKb p l ∨ (∃ k, Stuck p l k) ∨ ∃ l' k r, Dst p l l' k r := by
  obtain ⟨gx, gy, gg, hc⟩ := corn_of hb.hp hb.hr hb.hd
  by_cases h : ∃ k, k < l.length ∧ xq (lookN p l) (l.getD k 0) < 0
  · obtain ⟨k0, h1, h2⟩ := h
    obtain ⟨k, k1, ⟨k2, k3⟩, k4⟩ := least (P := fun k => k < l.length ∧ xq (lookN p l) (l.getD k 0) < 0) ⟨h1, h2⟩
    right
    by_cases hs : ∃ r, r < p.costs.length + p.rows.length ∧ alq p l k r < 0
    · obtain ⟨r0, r1, r2⟩ := hs
      obtain ⟨r, s1, ⟨s2, s3⟩, s4⟩ := least (P := fun r => r < p.costs.length + p.rows.length ∧ alq p l k r < 0) ⟨r1, r2⟩
      refine .inr ⟨_, k, r, hb, k2, k3, fun q hq => ?_, s2, s3, fun j hj => ?_, rfl⟩
      · have := k4 q hq
        apply Classical.byContradiction
        intro hn
        exact this ⟨by omega, by grind⟩
      · have := s4 j hj
        apply Classical.byContradiction
        intro hn
        exact this ⟨by omega, by grind⟩
    · refine .inl ⟨k, hb, k2, k3, fun j hj => ?_⟩
      apply Classical.byContradiction
      intro hn
      exact hs ⟨j, hj, by grind⟩
  · left
    refine ⟨hb.hp, hb.hr, hb.hd, nonneg_of fun j => ?_⟩
    by_cases hj : j ∈ l
    · obtain ⟨k, hk, rfl⟩ := mem_getD.1 hj
      apply Classical.byContradiction
      intro hn
      exact h ⟨k, hk, (sign_div hc.px).2.2 (by omega)⟩
    · have := hc.offQ hj
      apply Classical.byContradiction
      intro hn
      have := (sign_div (a := (lookN p l).xs.getD j 0) hc.px).2.2 (by omega)
      unfold xq at *
      grind

/-- No circle. -/
theorem dual_ends {p : PG} {L : Nat → List Nat} {K R : Nat → Nat} {a b : Nat} (hab : a < b) (hs : ∀ i, a ≤ i → i < b → Dst p (L i) (L (i + 1)) (K i) (R i)) (hL : ∀ j, j ∈ L a ↔ j ∈ L b) : False := by
  have hin : ∀ j i k, a ≤ k → k ≤ i → i ≤ b → j ∉ L k → j ∈ L i → ∃ e, a ≤ e ∧ e < b ∧ R e = j := by
    intro j i k hk hki hi h0 h1
    obtain ⟨e, e1, e2, e3, e4⟩ := turn_up (P := fun i => j ∈ L i) hki h0 h1
    refine ⟨e, by omega, by omega, ?_⟩
    rcases ((hs e (by omega) (by omega)).mem j).1 e4 with ⟨q, _⟩ | q
    · exact absurd q e3
    · exact q.symm
  have hout : ∀ j i k, a ≤ k → k ≤ i → i ≤ b → j ∈ L k → j ∉ L i → ∃ e, a ≤ e ∧ e < b ∧ (L e).getD (K e) 0 = j := by
    intro j i k hk hki hi h0 h1
    obtain ⟨e, e1, e2, e3, e4⟩ := turn_up (P := fun i => j ∉ L i) hki (fun h => h h0) h1
    refine ⟨e, by omega, by omega, ?_⟩
    have hje : j ∈ L e := Classical.byContradiction e3
    apply Classical.byContradiction
    intro hne
    exact e4 (((hs e (by omega) (by omega)).mem j).2 (Or.inl ⟨hje, fun q => hne q.symm⟩))
  -- the greatest that comes in
  obtain ⟨q, ⟨e, e1, e2, e3⟩, hmax⟩ : ∃ q, (∃ e, a ≤ e ∧ e < b ∧ R e = q) ∧ ∀ i, a ≤ i → i < b → R i ≤ q := by
    have : ∀ n, (∃ i, a ≤ i ∧ i < b ∧ p.costs.length + p.rows.length ≤ R i + n) → ∃ q, (∃ e, a ≤ e ∧ e < b ∧ R e = q) ∧ ∀ i, a ≤ i → i < b → R i ≤ q := by
      intro n
      induction n with
      | zero => rintro ⟨i, h1, h2, h3⟩; have := (hs i h1 h2).rN; omega
      | succ n ih =>
        rintro ⟨i, h1, h2, h3⟩
        by_cases hh : ∃ i, a ≤ i ∧ i < b ∧ p.costs.length + p.rows.length ≤ R i + n
        · exact ih hh
        · refine ⟨R i, ⟨i, h1, h2, rfl⟩, fun k hk1 hk2 => ?_⟩
          apply Classical.byContradiction
          intro hlt
          exact hh ⟨k, hk1, hk2, by omega⟩
    exact this (p.costs.length + p.rows.length) ⟨a, by omega, by omega, by omega⟩
  have hS : ∀ i, a ≤ i → i < b → (L i).getD (K i) 0 ≤ q := by
    intro i h1 h2
    have h := hs i h1 h2
    have hm : (L i).getD (K i) 0 ∈ L i := mem_getD.2 ⟨_, h.kl, rfl⟩
    have hno : (L i).getD (K i) 0 ∉ L (i + 1) := fun hq => by
      rcases (h.mem _).1 hq with ⟨_, w⟩ | w
      · exact w rfl
      · exact h.rl (w ▸ hm)
    by_cases hb' : (L i).getD (K i) 0 ∈ L b
    · obtain ⟨f, f1, f2, f3⟩ := hin _ b (i + 1) (by omega) (by omega) (Nat.le_refl _) hno hb'
      rw [← f3]; exact hmax f f1 f2
    · obtain ⟨f, f1, f2, f3⟩ := hin _ i a (Nat.le_refl _) h1 (by omega) (fun w => hb' ((hL _).1 w)) hm
      rw [← f3]; exact hmax f f1 f2
  obtain ⟨f, f1, f2, f3⟩ : ∃ f, a ≤ f ∧ f < b ∧ (L f).getD (K f) 0 = q := by
    have h := hs e e1 e2
    have hno : q ∉ L e := by rw [← e3]; exact h.rl
    have hm : q ∈ L (e + 1) := by rw [← e3]; exact (h.mem _).2 (Or.inr rfl)
    by_cases hb' : q ∈ L b
    · exact hout q e a (Nat.le_refl _) e1 (by omega) ((hL q).2 hb') hno
    · exact hout q b (e + 1) (by omega) (by omega) (Nat.le_refl _) hm hb'
  have hfix : ∀ j, q < j → ∀ n, a + n ≤ b → (j ∈ L (a + n) ↔ j ∈ L a) := by
    intro j hj n
    induction n with
    | zero => intro _; exact Iff.rfl
    | succ n ih =>
      intro hn
      rw [← ih (by omega)]
      have h := hs (a + n) (by omega) (by omega)
      have r1 := hmax (a + n) (by omega) (by omega)
      have r2 := hS (a + n) (by omega) (by omega)
      rw [show a + (n + 1) = a + n + 1 by omega, h.mem j]
      constructor
      · rintro (⟨w, _⟩ | w)
        · exact w
        · omega
      · intro w; exact Or.inl ⟨w, by omega⟩
  have hE := hs e e1 e2
  have hF := hs f f1 f2
  obtain ⟨gx, gy, gg, hc⟩ := corn_of hF.bs.hp hF.bs.hr hF.bs.hd
  have hsum := x_by hE.bs (z := xq (lookN p (L f))) (fun i hi => hc.rowQ hi) (K e)
  have hneg := hE.neg
  rw [← hsum] at hneg
  have hpos : ∀ n, 0 ≤ sumR (fun j => alq p (L e) (K e) j * xq (lookN p (L f)) j) n := by
    intro n
    induction n with
    | zero => simp [sumR]
    | succ n ih =>
      rw [sumR]
      have : 0 ≤ alq p (L e) (K e) n * xq (lookN p (L f)) n := by
        by_cases hnf : n ∈ L f
        · obtain ⟨k, hk, rfl⟩ := mem_getD.1 hnf
          by_cases hlt : q < (L f).getD k 0
          · -- it never changes
            have hme : (L f).getD k 0 ∈ L e := by
              have h1 := hfix _ hlt (f - a) (by omega)
              have h2 := hfix _ hlt (e - a) (by omega)
              rw [show a + (f - a) = f by omega] at h1
              rw [show a + (e - a) = e by omega] at h2
              exact h2.2 (h1.1 hnf)
            obtain ⟨k', hk', ek⟩ := mem_getD.1 hme
            have hne : k' ≠ K e := fun w => by
              have := hS e e1 e2
              rw [w] at ek; omega
            rw [← ek, al_own hE.bs hE.kl hk', if_neg hne]; grind
          · by_cases heq : (L f).getD k 0 = q
            · have h1 := hE.al
              rw [e3] at h1
              have h2 := hF.neg
              rw [f3] at h2
              rw [heq]
              have := Rat.mul_pos (show 0 < -(alq p (L e) (K e) q) by grind) (show 0 < -(xq (lookN p (L f)) q) by grind)
              grind
            · have h1 := hE.low ((L f).getD k 0) (by omega)
              have hkK : k < K f := by
                apply Classical.byContradiction
                intro w
                rcases Nat.lt_or_ge (K f) k with w' | w'
                · have := hF.bs.hr.ne w' hk; omega
                · have : k = K f := by omega
                  subst this; exact heq f3
              exact Rat.mul_nonneg h1 (hF.fst k hkK)
        · rw [hc.offQ hnf]; grind
      grind
  have := hpos (p.costs.length + p.rows.length)
  grind

/-- The rows' own columns. -/
def slackL (p : PG) : List Nat := (List.range p.rows.length).map fun k => p.costs.length + k
theorem slack_bs {p : PG} (hp : mayPB p = true) : Bs p (slackL p) := by
  have hlen : (slackL p).length = p.rows.length := by simp [slackL]
  refine ⟨hp, ⟨hlen, fun j hj => ?_, ?_⟩, ?_⟩
  · simp only [slackL, List.mem_map, List.mem_range] at hj
    obtain ⟨k, hk, rfl⟩ := hj; omega
  · unfold slackL
    rw [List.pairwise_map]
    exact List.pairwise_lt_range.imp fun h => by omega
  · rw [den_dt hlen]
    have hh : ∀ i k, hasZ p i (p.costs.length + k) = if k = i then 1 else 0 := fun i k => by
      unfold hasZ; rw [if_neg (by omega)]
      by_cases h : k = i
      · rw [if_pos (by omega), if_pos h]
      · rw [if_neg (by omega), if_neg h]
    obtain ⟨_, _, h1, h4, _⟩ := mayPB_iff.1 hp
    have h0 : ∀ i, hasZ p i p.costs.length = if 0 = i then 1 else 0 := fun i => hh i 0
    unfold slackL
    generalize hm : p.rows.length = m at *
    rcases (show m = 1 ∨ m = 2 ∨ m = 3 ∨ m = 4 by omega) with rfl | rfl | rfl | rfl
    · simp [List.range_succ, dt1, hh, h0]
    · simp [List.range_succ, dt2, hh, h0]
    · simp [List.range_succ, dt3, hh, h0]
    · simp [List.range_succ, dt4, dt3, hh, h0]

/-- One or the other. -/
theorem noth {p : PG} (hp : mayPB p = true) : (∃ l, OKb p l) ∨ ∃ l k, Stuck p l k := by
  apply Classical.byContradiction
  intro hn
  have hn1 : ∀ l, ¬ OKb p l := fun l h => hn (.inl ⟨l, h⟩)
  have hn2 : ∀ l k, ¬ Stuck p l k := fun l k h => hn (.inr ⟨l, k, h⟩)
  have hst : ∀ s : { l : List Nat // Bs p l }, ∃ t : { l : List Nat // Bs p l }, ∃ k r, Dst p s.1 t.1 k r := fun s => by
    rcases bs_case s.2 with h | ⟨k, h⟩ | ⟨l', k, r, h⟩
    · exact absurd h (hn1 _)
    · exact absurd h (hn2 _ _)
    · exact ⟨⟨l', h.next⟩, k, r, h⟩
  let nx : { l : List Nat // Bs p l } → { l : List Nat // Bs p l } := fun s => Classical.choose (hst s)
  have hnx : ∀ s, ∃ k r, Dst p s.1 (nx s).1 k r := fun s => Classical.choose_spec (hst s)
  let S : Nat → { l : List Nat // Bs p l } := fun n => Nat.rec ⟨slackL p, slack_bs hp⟩ (fun _ s => nx s) n
  have hS : ∀ n, S (n + 1) = nx (S n) := fun n => rfl
  let K : Nat → Nat := fun n => Classical.choose (hnx (S n))
  have hK : ∀ n, ∃ r, Dst p (S n).1 (nx (S n)).1 (K n) r := fun n => Classical.choose_spec (hnx (S n))
  let R : Nat → Nat := fun n => Classical.choose (hK n)
  have hR : ∀ n, Dst p (S n).1 (nx (S n)).1 (K n) (R n) := fun n => Classical.choose_spec (hK n)
  obtain ⟨i, j, hij, _, he⟩ := pig (2 ^ (p.costs.length + p.rows.length)) (fun i => code (S i).1 (p.costs.length + p.rows.length)) (fun i _ => code_lt _ _)
  refine dual_ends (p := p) (L := fun n => (S n).1) (K := K) (R := R) hij (fun n _ _ => by rw [hS]; exact hR n) fun q => ?_
  by_cases hq : q < p.costs.length + p.rows.length
  · exact code_inj he q hq
  · exact ⟨fun h => absurd ((S i).2.hr.lt q h) hq, fun h => absurd ((S j).2.hr.lt q h) hq⟩
end Go.Proofs.YtjcdkbalhleeeaaGreatDoor

namespace Go.Proofs.YtjcdkbalhleeeaaGreatDoor

theorem goesB_iff {p : PG} {x : List Int} {d : Int} : goesB p x d = true ↔ fitsB p x d = true ∧ nonneg x = true ∧ ∀ i (h : i < p.rows.length), dot (p.rows[i]).1 x ≤ (p.rows[i]).2 * d := by
  unfold goesB
  simp only [Bool.and_eq_true, List.all_eq_true, decide_eq_true_eq]
  constructor
  · rintro ⟨h1, h2, h3⟩
    exact ⟨h1, h2, fun i hi => h3 _ (List.getElem_mem hi)⟩
  · rintro ⟨h1, h2, h3⟩
    refine ⟨h1, h2, fun r hr => ?_⟩
    obtain ⟨i, hi, rfl⟩ := List.mem_iff_getElem.1 hr
    exact h3 i hi

/-! Endless -/
end Go.Proofs.YtjcdkbalhleeeaaGreatDoor

namespace Go.Proofs.YtjcdkbalhleeeaaGreatDoor

/-! Fractions in lowest terms are one. -/
theorem frac_one {a b c d : Int} (h1 : mayB [a] b = true) (h2 : mayB [c] d = true) (h : a * d = c * b) : a = c ∧ b = d := by
  have c1 : Nat.gcd b.natAbs a.natAbs = 1 := by
    unfold mayB at h1; simp only [Bool.and_eq_true, decide_eq_true_eq] at h1; simpa [comm] using h1.2
  have c2 : Nat.gcd d.natAbs c.natAbs = 1 := by
    unfold mayB at h2; simp only [Bool.and_eq_true, decide_eq_true_eq] at h2; simpa [comm] using h2.2
  have p1 := mayB_parts h1
  have p2 := mayB_parts h2
  have hbd : b.natAbs ∣ d.natAbs := by
    refine Nat.Coprime.dvd_of_dvd_mul_left (show Nat.Coprime b.natAbs a.natAbs from c1) ?_
    rw [← Int.natAbs_mul, h, Int.natAbs_mul]; exact Nat.dvd_mul_left _ _
  have hdb : d.natAbs ∣ b.natAbs := by
    refine Nat.Coprime.dvd_of_dvd_mul_left (show Nat.Coprime d.natAbs c.natAbs from c2) ?_
    rw [← Int.natAbs_mul, ← h, Int.natAbs_mul]; exact Nat.dvd_mul_left _ _
  have e := Nat.dvd_antisymm hbd hdb
  have e' : b = d := by omega
  subst e'
  exact ⟨Int.eq_of_mul_eq_mul_right (by omega) h, rfl⟩
theorem fr_one {a b c d : Int} (h1 : ptE [a] b = 0) (h2 : ptE [c] d = 0) (hb : b ≠ 0) (hd : d ≠ 0) (h : a * d = c * b) : frN a b = frN c d ∧ ptD [a] b = ptD [c] d := by
  have m1 := may_end h1
  have m2 := may_end h2
  obtain ⟨p1, e1⟩ := frac_pos h1
  obtain ⟨p2, e2⟩ := frac_pos h2
  refine frac_one m1 m2 ?_
  generalize frN a b = x at *
  generalize ptD [a] b = y at *
  generalize frN c d = u at *
  generalize ptD [c] d = v at *
  -- x b = a y, u d = c v, a d = c b
  have : (b * d) * (x * v) = (b * d) * (u * y) := by
    have q1 : (b * d) * (x * v) = (x * b) * (d * v) := by ac_rfl
    have q2 : (b * d) * (u * y) = (u * d) * (b * y) := by ac_rfl
    rw [q1, q2, e1, e2]
    have q3 : a * y * (d * v) = (a * d) * (y * v) := by ac_rfl
    have q4 : c * v * (b * y) = (c * b) * (y * v) := by ac_rfl
    rw [q3, q4, h]
  exact Int.eq_of_mul_eq_mul_left (by intro q; rcases Int.mul_eq_zero.1 q with q | q; exact hb q; exact hd q) this

/-! Bounds: determinants of numbers up to 12. -/
theorem dt12 {A : Nat → Nat → Int} (h : ∀ i j, -12 ≤ A i j ∧ A i j ≤ 12) {rs cs : List Nat} (hl : cs.length = rs.length) (h4 : rs.length ≤ 4) : -497664 ≤ dt A rs cs ∧ dt A rs cs ≤ 497664 := by
  have hw : Within A (fun _ => 12) := fun i c => ⟨h i c, by show (0 : Int) ≤ 12; omega⟩
  rcases (show rs.length = 0 ∨ rs.length = 1 ∨ rs.length = 2 ∨ rs.length = 3 ∨ rs.length = 4 by omega) with e | e | e | e | e
  · obtain rfl : rs = [] := List.eq_nil_of_length_eq_zero e
    simp [dt]
  · obtain ⟨r0, rfl⟩ := List.length_eq_one_iff.1 e
    obtain ⟨c0, rfl⟩ := List.length_eq_one_iff.1 (hl.trans e)
    rw [dt1]; have := h r0 c0; omega
  · obtain ⟨r0, r1, rfl⟩ := list_len2 e
    obtain ⟨c0, c1, rfl⟩ := list_len2 (hl.trans e)
    have := dt2_within hw r0 r1 c0 c1
    omega
  · obtain ⟨r0, r1, r2, rfl⟩ := list_len3 e
    obtain ⟨c0, c1, c2, rfl⟩ := list_len3 (hl.trans e)
    have := dt3_within hw r0 r1 r2 c0 c1 c2
    omega
  · obtain ⟨r0, r1, r2, r3, rfl⟩ := list_len4 e
    obtain ⟨c0, c1, c2, c3, rfl⟩ := list_len4 (hl.trans e)
    have := dt4_within hw r0 r1 r2 r3 c0 c1 c2 c3
    omega
theorem xk12 {p : PG} {l : List Nat} (hp : mayPB p = true) (_hl : l.length = p.rows.length) (k : Nat) : -497664 ≤ xk p l k ∧ xk p l k ≤ 497664 := by
  unfold xk dtp
  refine dt12 (fun i j => ?_) (by simp) (by have := mayPB_iff.1 hp; simp; omega)
  unfold matD
  split
  · exact hasZ_bound hp i _
  · exact mosts_at_bound hp i
theorem le_of_mul {a g x B : Int} (hg : g ≠ 0) (h : a = g * x) (hb : -B ≤ a ∧ a ≤ B) : -B ≤ x ∧ x ≤ B := by
  have h1 : a.natAbs = g.natAbs * x.natAbs := by rw [h, Int.natAbs_mul]
  have h2 : 1 ≤ g.natAbs := by omega
  have h3 : 1 * x.natAbs ≤ g.natAbs * x.natAbs := Nat.mul_le_mul_right _ h2
  omega
section
variable {p : PG} {l : List Nat} {c : CO} {gx gy gg : Int}
theorem Corn.xs12 (h : Corn p l c gx gy gg) (j : Nat) : -497664 ≤ c.xs.getD j 0 ∧ c.xs.getD j 0 ≤ 497664 := by
  refine le_of_mul h.nx (h.x j) ?_
  by_cases hj : j ∈ l
  · obtain ⟨k, hk, rfl⟩ := mem_getD.1 hj
    rw [xall_at h.hr (by rw [← h.hr.len]; exact hk)]
    exact xk12 h.hp h.hr.len k
  · rw [xall_off h.hr hj]; omega
theorem Corn.xd12 (h : Corn p l c gx gy gg) : 0 < c.xd ∧ c.xd ≤ 497664 := ⟨h.px, (le_of_mul h.nx h.dx (den_bound h.hp h.hr.len)).2⟩
theorem Corn.ys400 (h : Corn p l c gx gy gg) (i : Nat) : -16588800 ≤ c.ys.getD i 0 ∧ c.ys.getD i 0 ≤ 16588800 := by
  refine le_of_mul h.ny (h.y i) ?_
  by_cases hi : i < p.rows.length
  · rw [yall_at hi]; exact yk_bound h.hp h.hr.len hi
  · have e : (yall p l).getD i 0 = 0 := by simp [List.getD, yall, hi]
    rw [e]; omega
end

/-! A corner's variables as a point. -/
def varL (p : PG) (c : CO) : List Int := c.xs.take p.costs.length
section
variable {p : PG} {l : List Nat} {c : CO} {gx gy gg : Int}
theorem var_len (h : Corn p l c gx gy gg) : (varL p c).length = p.costs.length := by unfold varL; rw [List.length_take, h.lx]; omega
theorem var_at (p : PG) (c : CO) {j : Nat} (hj : j < p.costs.length) : (varL p c).getD j 0 = c.xs.getD j 0 := by simp [varL, List.getD, hj]
theorem var_small (h : Corn p l c gx gy gg) : smallB 497664 (varL p c) = true := by
  rw [smallB_getD (by omega)]
  intro j
  by_cases hj : j < p.costs.length
  · rw [var_at p c hj]; exact h.xs12 j
  · have e : (varL p c).getD j 0 = 0 := by rw [List.getD, List.getElem?_eq_none (by rw [var_len h]; omega)]; rfl
    rw [e]; omega
theorem small_le {m n : Int} (hm : m ≤ n) {l : List Int} (h : smallB m l = true) : smallB n l = true := smallB_iff.2 fun x hx => by have := smallB_mem h hx; omega
theorem var_pt (h : Corn p l c gx gy gg) : ptE (varL p c) c.xd = 0 := by
  have := h.xd12
  have hn := mayPB_iff.1 h.hp
  exact pt_ok (by omega) (by omega) (small_le (by omega) (var_small h)) (by rw [var_len h]; omega)
/-- Divided: each number is the corner's, by one divisor. -/
theorem var_parts (h : Corn p l c gx gy gg) : ∃ g : Int, 0 < g ∧ c.xd = g * ptD (varL p c) c.xd ∧ (∀ j, (varL p c).getD j 0 = g * (ptN (varL p c) c.xd).getD j 0) ∧ (ptN (varL p c) c.xd).length = p.costs.length ∧ 0 < ptD (varL p c) c.xd := by
  obtain ⟨g, g1, g2, g3, g4, g5⟩ := pt_parts (var_pt h)
  refine ⟨g, ?_, g2, g3, by rw [g4, var_len h], g5⟩
  apply Classical.byContradiction
  intro hn
  have := Int.mul_nonpos_of_nonpos_of_nonneg (show g ≤ 0 by omega) (show 0 ≤ ptD (varL p c) c.xd by omega)
  have := h.px
  omega
theorem dot_scale {a x y : List Int} {g : Int} {n : Nat} (ha : a.length = n) (hx : x.length = n) (hy : y.length = n) (h : ∀ j, x.getD j 0 = g * y.getD j 0) : dot a x = g * dot a y := by
  rw [dot_sum ha hx, dot_sum ha hy, ← sumN_mul]
  exact sumN_congr fun j _ => by rw [h j]; ac_rfl
theorem var_goes (h : Corn p l c gx gy gg) (hx : nonneg c.xs = true) : goesB p (ptN (varL p c) c.xd) (ptD (varL p c) c.xd) = true := by
  obtain ⟨g, g0, g1, g2, g3, g4⟩ := var_parts h
  refine goesB_iff.2 ⟨fitsB_iff.2 ⟨h.hp, mayB_pt (var_pt h), g3⟩, nonneg_of fun j => ?_, fun i hi => ?_⟩
  · by_cases hj : j < p.costs.length
    · have h1 := g2 j
      rw [var_at p c hj] at h1
      have h2 := nonneg_at hx j
      apply Classical.byContradiction
      intro hn
      have := Int.mul_neg_of_pos_of_neg g0 (show (ptN (varL p c) c.xd).getD j 0 < 0 by omega)
      omega
    · simp [List.getD, List.getElem?_eq_none (show (ptN (varL p c) c.xd).length ≤ j by omega)]
  · have h1 := h.row' hi
    have h2 := nonneg_at hx (p.costs.length + i)
    have h3 : dot (p.rows[i]).1 (varL p c) = g * dot (p.rows[i]).1 (ptN (varL p c) c.xd) := dot_scale (mayPB_row h.hp hi).1 (var_len h) g3 g2
    rw [show c.xs.take p.costs.length = varL p c from rfl, h3] at h1
    have h4 : (p.rows[i]).2 * c.xd = g * ((p.rows[i]).2 * ptD (varL p c) c.xd) := by
      have : (p.rows[i]).2 * (g * ptD (varL p c) c.xd) = g * ((p.rows[i]).2 * ptD (varL p c) c.xd) := by ac_rfl
      rw [← this, ← g1]
    rw [h4] at h1
    exact Int.le_of_mul_le_mul_left (by omega) g0
theorem var_worth (h : Corn p l c gx gy gg) : ptE [dot p.costs (ptN (varL p c) c.xd)] (ptD (varL p c) c.xd) = 0 ∧
    dot p.costs (ptN (varL p c) c.xd) * c.xd = dot p.costs (varL p c) * ptD (varL p c) c.xd ∧ (-796262400 ≤ dot p.costs (varL p c) ∧ dot p.costs (varL p c) ≤ 796262400) := by
  obtain ⟨g, g0, g1, g2, g3, g4⟩ := var_parts h
  have h3 : dot p.costs (varL p c) = g * dot p.costs (ptN (varL p c) c.xd) := dot_scale rfl (var_len h) g3 g2
  obtain ⟨_, n4, _, _, hc, _⟩ := mayPB_iff.1 h.hp
  have hb := dot_bound hc (var_small h) (by omega) (by omega)
  have hb' : -796262400 ≤ dot p.costs (varL p c) ∧ dot p.costs (varL p c) ≤ 796262400 := by omega
  have hd := h.xd12
  have hz := le_of_mul (by omega) h3 hb'
  have hz2 := le_of_mul (by omega) g1 (show -497664 ≤ c.xd ∧ c.xd ≤ 497664 by omega)
  refine ⟨pt_ok (by omega) (by omega) (by rw [smallB_one]; simp; omega) (by simp), ?_, hb'⟩
  rw [h3]
  have : dot p.costs (ptN (varL p c) c.xd) * (g * ptD (varL p c) c.xd) = g * dot p.costs (ptN (varL p c) c.xd) * ptD (varL p c) c.xd := by ac_rfl
  rw [← this, ← g1]
/-- No gain: the corner's answer holds. -/
theorem best_holds (h : Corn p l c gx gy gg) (hx : nonneg c.xs = true) (hg : ∀ j, c.gs.getD j 0 ≤ 0) {wn wd : Int}
    (hwn : wn = worN p (ptN (varL p c) c.xd) (ptD (varL p c) c.xd)) (hwd : wd = worD p (ptN (varL p c) c.xd) (ptD (varL p c) c.xd)) :
    bestB p ⟨1, ptN (varL p c) c.xd, ptD (varL p c) c.xd, c.ys, c.yd, [], 0, wn, wd⟩ = true := by
  have hgo := var_goes h hx
  obtain ⟨hf, _, _⟩ := goesB_iff.1 hgo
  obtain ⟨w1, w2, w3⟩ := var_worth h
  -- gains as rows' prices
  have hgain : ∀ j, j < p.costs.length + p.rows.length → costZ p j * c.yd ≤ sumN (fun i => c.ys.getD i 0 * hasZ p i j) p.rows.length := by
    intro j hj
    have h1 := h.g j
    rw [gall_at hj] at h1
    unfold gk at h1
    -- costZ * den - sum (yk * has) = gg * g_j ; den = gg * gd = gy * yd ; yk = gy * ys
    have e1 : sumN (fun i => yk p l i * hasZ p i j) p.rows.length = gy * sumN (fun i => c.ys.getD i 0 * hasZ p i j) p.rows.length := by
      rw [← sumN_mul]
      refine sumN_congr fun i hi => ?_
      have := h.y i
      rw [yall_at hi] at this
      rw [this]; ac_rfl
    rw [e1, h.dy] at h1
    generalize sumN (fun i => c.ys.getD i 0 * hasZ p i j) p.rows.length = S at *
    -- gy (cost yd - S) = gg g_j ; gg gd = gy yd
    have h2 : gy * c.yd = gg * c.gd := by rw [← h.dy, h.dg]
    have h3 : gy * (costZ p j * c.yd - S) * c.gd = gy * c.yd * c.gs.getD j 0 := by
      rw [h2]
      have : gy * (costZ p j * c.yd - S) = gg * c.gs.getD j 0 := by rw [← h1]; grind
      rw [this]; ac_rfl
    have h4 : (costZ p j * c.yd - S) * c.gd = c.yd * c.gs.getD j 0 := by
      refine Int.eq_of_mul_eq_mul_left h.ny ?_
      rw [← Int.mul_assoc, h3]; ac_rfl
    have h5 := Int.mul_nonpos_of_nonneg_of_nonpos (show 0 ≤ c.yd by have := h.py; omega) (hg j)
    apply Classical.byContradiction
    intro hn
    have := Int.mul_pos (show 0 < costZ p j * c.yd - S by omega) h.pg
    omega
  have hy0 : nonneg c.ys = true := nonneg_of fun i => by
    by_cases hi : i < p.rows.length
    · have h1 := hgain (p.costs.length + i) (by omega)
      have e0 : costZ p (p.costs.length + i) = 0 := by unfold costZ; rw [if_neg (by omega)]
      rw [e0, Int.zero_mul] at h1
      have key : ∀ n, sumN (fun r => c.ys.getD r 0 * hasZ p r (p.costs.length + i)) n = if i < n then c.ys.getD i 0 else 0 := by
        intro n
        induction n with
        | zero => simp [sumN]
        | succ n ih =>
          rw [sumN, ih]
          have e : hasZ p n (p.costs.length + i) = if n = i then 1 else 0 := by
            unfold hasZ; rw [if_neg (by omega)]
            by_cases e : n = i
            · rw [if_pos (by omega), if_pos e]
            · rw [if_neg (by omega), if_neg e]
          rw [e]
          by_cases e : n = i
          · subst e; rw [if_neg (by omega), if_pos rfl, if_pos (by omega)]; omega
          · rw [if_neg e]
            by_cases e' : i < n
            · rw [if_pos e', if_pos (by omega)]; omega
            · rw [if_neg e', if_neg (by omega)]; omega
      rw [key, if_pos hi] at h1
      exact h1
    · rw [List.getD, List.getElem?_eq_none (by rw [h.ly]; omega)]; simp
  have hm4 := h.rows4
  have hyb : smallB 16588800 c.ys = true := (smallB_getD (by omega)).2 fun i => h.ys400 i
  have hyd : 0 < c.yd ∧ c.yd ≤ 497664 := ⟨h.py, (le_of_mul h.ny h.dy (den_bound h.hp h.hr.len)).2⟩
  have hdm := dot_bound (mosts_small h.hp) hyb (by omega) (by omega)
  rw [length_mosts] at hdm
  have hE : ptE [dot (mosts p) c.ys] c.yd = 0 := pt_ok (by omega) (by omega) (by rw [smallB_one]; simp; omega) (by simp)
  have hwe : worE p (ptN (varL p c) c.xd) (ptD (varL p c) c.xd) = 0 := by unfold worE; rw [if_pos hf]; exact w1
  have hW := h.worth
  have hxd := h.px
  obtain ⟨g, g0, g1, g2, g3, g4⟩ := var_parts h
  have heq := fr_one hE w1 (by omega) (by omega) (show dot (mosts p) c.ys * ptD (varL p c) c.xd = dot p.costs (ptN (varL p c) c.xd) * c.yd by
    refine Int.eq_of_mul_eq_mul_left (show c.xd ≠ 0 by omega) ?_
    have q1 : c.xd * (dot (mosts p) c.ys * ptD (varL p c) c.xd) = (dot (mosts p) c.ys * c.xd) * ptD (varL p c) c.xd := by ac_rfl
    have q2 : c.xd * (dot p.costs (ptN (varL p c) c.xd) * c.yd) = (dot p.costs (ptN (varL p c) c.xd) * c.xd) * c.yd := by ac_rfl
    rw [q1, q2, w2, ← hW]
    unfold varL; ac_rfl)
  unfold bestB
  simp only [Bool.and_eq_true, decide_eq_true_eq]
  refine ⟨by simp [emptyB], hgo, aboveB_iff.2 ⟨h.my, h.ly, hy0⟩, ?_, hwe, hE, ⟨hwn.symm, hwd.symm⟩, ?_, ?_⟩
  · unfold coversB
    rw [List.all_eq_true]
    intro j hj
    have hj' : j < p.costs.length := by simpa using hj
    rw [decide_eq_true_eq, dot_col h.ly, show sumN (fun i => hasZ p i j * c.ys.getD i 0) p.rows.length = sumN (fun i => c.ys.getD i 0 * hasZ p i j) p.rows.length from sumN_congr fun i _ => Int.mul_comm _ _]
    exact hgain j (by omega)
  · rw [heq.1]; unfold worN; rw [if_pos hf]
  · rw [heq.2]; unfold worD; rw [if_pos hf]
end
end Go.Proofs.YtjcdkbalhleeeaaGreatDoor
