/-
  Plain words for chapter 3: what columns come to; bounds. No program in sight.
-/
import Derived.Test.YtjcdkbalhleeeaaDetT
namespace Go.Proofs.Ytjcdkbalhleeeaa

/-- Numbers within a bound that the column gives. -/
def Within (A : Nat → Nat → Int) (b : Nat → Int) : Prop := ∀ i c, (-b c ≤ A i c ∧ A i c ≤ b c) ∧ 0 ≤ b c

theorem mul_within {x y B C : Int} (hx : -B ≤ x ∧ x ≤ B) (hy : -C ≤ y ∧ y ≤ C) : -(B * C) ≤ x * y ∧ x * y ≤ B * C := mul_bound x y B C hx.1 hx.2 hy.1 hy.2
theorem dt2_within {A : Nat → Nat → Int} {b : Nat → Int} (h : Within A b) (r0 r1 c0 c1 : Nat) : -(2 * (b c0 * b c1)) ≤ dt A [r0, r1] [c0, c1] ∧ dt A [r0, r1] [c0, c1] ≤ 2 * (b c0 * b c1) := by
  rw [dt2]
  have h1 := mul_within (h r0 c0).1 (h r1 c1).1
  have h2 := mul_within (h r0 c1).1 (h r1 c0).1
  rw [Int.mul_comm (b c1) (b c0)] at h2
  omega
theorem dt3_by (A : Nat → Nat → Int) (r0 r1 r2 c0 c1 c2 : Nat) : dt A [r0, r1, r2] [c0, c1, c2] =
    A r0 c0 * dt A [r1, r2] [c1, c2] - A r0 c1 * dt A [r1, r2] [c0, c2] + A r0 c2 * dt A [r1, r2] [c0, c1] := by rw [dt3, dt2, dt2, dt2]
theorem dt3_within {A : Nat → Nat → Int} {b : Nat → Int} (h : Within A b) (r0 r1 r2 c0 c1 c2 : Nat) :
    -(6 * (b c0 * (b c1 * b c2))) ≤ dt A [r0, r1, r2] [c0, c1, c2] ∧ dt A [r0, r1, r2] [c0, c1, c2] ≤ 6 * (b c0 * (b c1 * b c2)) := by
  rw [dt3_by]
  have h1 := mul_within (h r0 c0).1 (dt2_within h r1 r2 c1 c2)
  have h2 := mul_within (h r0 c1).1 (dt2_within h r1 r2 c0 c2)
  have h3 := mul_within (h r0 c2).1 (dt2_within h r1 r2 c0 c1)
  rw [show b c0 * (2 * (b c1 * b c2)) = 2 * (b c0 * (b c1 * b c2)) by ac_rfl] at h1
  rw [show b c1 * (2 * (b c0 * b c2)) = 2 * (b c0 * (b c1 * b c2)) by ac_rfl] at h2
  rw [show b c2 * (2 * (b c0 * b c1)) = 2 * (b c0 * (b c1 * b c2)) by ac_rfl] at h3
  omega
theorem dt4_within {A : Nat → Nat → Int} {b : Nat → Int} (h : Within A b) (r0 r1 r2 r3 c0 c1 c2 c3 : Nat) :
    -(24 * (b c0 * (b c1 * (b c2 * b c3)))) ≤ dt A [r0, r1, r2, r3] [c0, c1, c2, c3] ∧ dt A [r0, r1, r2, r3] [c0, c1, c2, c3] ≤ 24 * (b c0 * (b c1 * (b c2 * b c3))) := by
  rw [dt4]
  have h1 := mul_within (h r0 c0).1 (dt3_within h r1 r2 r3 c1 c2 c3)
  have h2 := mul_within (h r0 c1).1 (dt3_within h r1 r2 r3 c0 c2 c3)
  have h3 := mul_within (h r0 c2).1 (dt3_within h r1 r2 r3 c0 c1 c3)
  have h4 := mul_within (h r0 c3).1 (dt3_within h r1 r2 r3 c0 c1 c2)
  rw [show b c0 * (6 * (b c1 * (b c2 * b c3))) = 6 * (b c0 * (b c1 * (b c2 * b c3))) by ac_rfl] at h1
  rw [show b c1 * (6 * (b c0 * (b c2 * b c3))) = 6 * (b c0 * (b c1 * (b c2 * b c3))) by ac_rfl] at h2
  rw [show b c2 * (6 * (b c0 * (b c1 * b c3))) = 6 * (b c0 * (b c1 * (b c2 * b c3))) by ac_rfl] at h3
  rw [show b c3 * (6 * (b c0 * (b c1 * b c2))) = 6 * (b c0 * (b c1 * (b c2 * b c3))) by ac_rfl] at h4
  omega

/-- Entries up to 12, and up to 400 in the last column. -/
def Small (A : Nat → Nat → Int) (m : Nat) : Prop := ∀ i j, (-400 ≤ A i j ∧ A i j ≤ 400) ∧ (j < m → -12 ≤ A i j ∧ A i j ≤ 12)
theorem Small.swA {A : Nat → Nat → Int} {m : Nat} (h : Small A m) (k a : Nat) : Small (swA A k a) m := fun i j => h (sw k a i) j
theorem Small.within {A : Nat → Nat → Int} {m k : Nat} (h : Small A m) (hk : k ≤ m) : Within A (fun c => if c < k then 12 else 400) := fun i c => by
  have := h i c
  by_cases hc : c < k
  · simp only [hc, if_true]; exact ⟨this.2 (by omega), by omega⟩
  · simp only [hc, if_false]; exact ⟨this.1, by omega⟩

set_option maxHeartbeats 1000000 in
theorem ent_within {A : Nat → Nat → Int} {m k i : Nat} (j : Nat) (h : Small A m) (hm : m ≤ 4) (hk : k ≤ m) (hi : i < m) : -16588800 ≤ ent A k i j ∧ ent A k i j ≤ 16588800 := by
  have hw := h.within hk
  have hb : (if j < k then (12 : Int) else 400) ≤ 400 ∧ 0 ≤ (if j < k then (12 : Int) else 400) := by split <;> omega
  unfold ent
  split
  · rename_i hik
    rcases (show k = 1 ∨ k = 2 ∨ k = 3 ∨ k = 4 by omega) with rfl | rfl | rfl | rfl
    · obtain rfl : i = 0 := by omega
      simp only [range1, List.set, dt1]
      have := (h 0 j).1
      omega
    · rcases (show i = 0 ∨ i = 1 by omega) with rfl | rfl
      · have := dt2_within hw 0 1 j 1
        simp only [range2, List.set]
        simp only [show (1 : Nat) < 2 by omega, if_true] at this
        omega
      · have := dt2_within hw 0 1 0 j
        simp only [range2, List.set]
        simp only [show (0 : Nat) < 2 by omega, if_true] at this
        omega
    · rcases (show i = 0 ∨ i = 1 ∨ i = 2 by omega) with rfl | rfl | rfl
      · have := dt3_within hw 0 1 2 j 1 2
        simp only [range3, List.set]
        simp only [show (1 : Nat) < 3 by omega, show (2 : Nat) < 3 by omega, if_true] at this
        omega
      · have := dt3_within hw 0 1 2 0 j 2
        simp only [range3, List.set]
        simp only [show (0 : Nat) < 3 by omega, show (2 : Nat) < 3 by omega, if_true] at this
        omega
      · have := dt3_within hw 0 1 2 0 1 j
        simp only [range3, List.set]
        simp only [show (0 : Nat) < 3 by omega, show (1 : Nat) < 3 by omega, if_true] at this
        omega
    · rcases (show i = 0 ∨ i = 1 ∨ i = 2 ∨ i = 3 by omega) with rfl | rfl | rfl | rfl
      · have := dt4_within hw 0 1 2 3 j 1 2 3
        simp only [range4, List.set]
        simp only [show (1 : Nat) < 4 by omega, show (2 : Nat) < 4 by omega, show (3 : Nat) < 4 by omega, if_true] at this
        omega
      · have := dt4_within hw 0 1 2 3 0 j 2 3
        simp only [range4, List.set]
        simp only [show (0 : Nat) < 4 by omega, show (2 : Nat) < 4 by omega, show (3 : Nat) < 4 by omega, if_true] at this
        omega
      · have := dt4_within hw 0 1 2 3 0 1 j 3
        simp only [range4, List.set]
        simp only [show (0 : Nat) < 4 by omega, show (1 : Nat) < 4 by omega, show (3 : Nat) < 4 by omega, if_true] at this
        omega
      · have := dt4_within hw 0 1 2 3 0 1 2 j
        simp only [range4, List.set]
        simp only [show (0 : Nat) < 4 by omega, show (1 : Nat) < 4 by omega, show (2 : Nat) < 4 by omega, if_true] at this
        omega
  · rcases (show k = 0 ∨ k = 1 ∨ k = 2 ∨ k = 3 by omega) with rfl | rfl | rfl | rfl
    · simp only [List.range_zero, List.nil_append, dt1]
      have := (h i j).1
      omega
    · have := dt2_within hw 0 i 0 j
      simp only [range1, List.cons_append, List.nil_append]
      simp only [show (0 : Nat) < 1 by omega, if_true] at this
      omega
    · have := dt3_within hw 0 1 i 0 1 j
      simp only [range2, List.cons_append, List.nil_append]
      simp only [show (0 : Nat) < 2 by omega, show (1 : Nat) < 2 by omega, if_true] at this
      omega
    · have := dt4_within hw 0 1 2 i 0 1 2 j
      simp only [range3, List.cons_append, List.nil_append]
      simp only [show (0 : Nat) < 3 by omega, show (1 : Nat) < 3 by omega, show (2 : Nat) < 3 by omega, if_true] at this
      omega
theorem dtp_within {A : Nat → Nat → Int} {m i : Nat} (j : Nat) (h : Small A m) (hm : m ≤ 4) (hi : i < m) : -16588800 ≤ dtp A m i j ∧ dtp A m i j ≤ 16588800 := by
  rw [← ent_dtp A j hi]; exact ent_within j h hm (Nat.le_refl _) hi
theorem dtm_within {A : Nat → Nat → Int} {m : Nat} (h : Small A m) (hm : m ≤ 4) : -497664 ≤ dtm A m ∧ dtm A m ≤ 497664 := by
  have hw := h.within (Nat.le_refl m)
  unfold dtm
  rcases (show m = 0 ∨ m = 1 ∨ m = 2 ∨ m = 3 ∨ m = 4 by omega) with rfl | rfl | rfl | rfl | rfl
  · simp [dt]
  · have := (h 0 0).2 (by omega)
    simp only [range1, dt1]; omega
  · have := dt2_within hw 0 1 0 1
    simp at this
    rw [range2]; omega
  · have := dt3_within hw 0 1 2 0 1 2
    simp at this
    rw [range3]; omega
  · have := dt4_within hw 0 1 2 3 0 1 2 3
    simp at this
    rw [range4]; omega

/-! What columns come to. -/
/-- A corner. -/
structure CO where
  xs : List Int
  xd : Int
  ys : List Int
  yd : Int
  gs : List Int
  gd : Int

/-- The equations of the columns, with what the rows may be at most behind them; and of the rows, with what the columns are worth. -/
def matD (p : PG) (l : List Nat) (i j : Nat) : Int := if j < l.length then hasZ p i (l.getD j 0) else (mosts p).getD i 0
def matU (p : PG) (l : List Nat) (i j : Nat) : Int := if j < l.length then hasZ p j (l.getD i 0) else costZ p (l.getD i 0)
def denZ (p : PG) (l : List Nat) : Int := dtm (matD p l) p.rows.length
def xk (p : PG) (l : List Nat) (k : Nat) : Int := dtp (matD p l) p.rows.length k p.rows.length
def yk (p : PG) (l : List Nat) (k : Nat) : Int := dtp (matU p l) p.rows.length k p.rows.length
/-- Numbers put into their places among N, of the first n of l. -/
def putAll (l : List Nat) (v : Nat → Int) (N n : Nat) : List Int := (List.range n).foldl (fun a k => a.set (l.getD k 0) (v k)) (List.replicate N 0)
def xall (p : PG) (l : List Nat) : List Int := putAll l (xk p l) (p.costs.length + p.rows.length) p.rows.length
def yall (p : PG) (l : List Nat) : List Int := (List.range p.rows.length).map (yk p l)
def gk (p : PG) (l : List Nat) (j n : Nat) : Int := costZ p j * denZ p l - sumN (fun i => yk p l i * hasZ p i j) n
def gall (p : PG) (l : List Nat) : List Int := (List.range (p.costs.length + p.rows.length)).map fun j => gk p l j p.rows.length
/-- Are columns as many as rows, rising, of all columns? -/
def risingB (last : Int) (n : Nat) : List Int → Bool
  | [] => true
  | j :: l => decide (last < j) && (decide (j < n) && risingB j n l)
def rightA (p : PG) (l : List Int) : Bool := decide (l.length = p.rows.length) && risingB (-1) (p.costs.length + p.rows.length) l
def nats (l : List Int) : List Nat := l.map Int.toNat
def lookE (p : PG) (l : List Int) : Int := if mayPB p = false then 2 else if rightA p l = false then 3 else if denZ p (nats l) = 0 then 4 else 0
def lookC (p : PG) (l : List Int) : CO :=
  if lookE p l = 0 then
    ⟨ptN (xall p (nats l)) (denZ p (nats l)), ptD (xall p (nats l)) (denZ p (nats l)), ptN (yall p (nats l)) (denZ p (nats l)), ptD (yall p (nats l)) (denZ p (nats l)), ptN (gall p (nats l)) (denZ p (nats l)), ptD (gall p (nats l)) (denZ p (nats l))⟩
  else ⟨[], 0, [], 0, [], 0⟩

theorem length_putAll (l : List Nat) (v : Nat → Int) (N n : Nat) : (putAll l v N n).length = N := by
  unfold putAll
  induction n with
  | zero => simp
  | succ n ih => rw [List.range_succ, List.foldl_append]; simpa using ih
theorem putAll_succ (l : List Nat) (v : Nat → Int) (N n : Nat) : putAll l v N (n + 1) = (putAll l v N n).set (l.getD n 0) (v n) := by
  unfold putAll; rw [List.range_succ, List.foldl_append]; rfl
theorem gk_succ (p : PG) (l : List Nat) (j n : Nat) : gk p l j (n + 1) = gk p l j n - yk p l n * hasZ p n j := by unfold gk; rw [sumN]; omega
theorem gk_zero (p : PG) (l : List Nat) (j : Nat) : gk p l j 0 = costZ p j * denZ p l := by unfold gk; simp [sumN]

theorem mosts_at_bound {p : PG} (hp : mayPB p = true) (i : Nat) : -12 ≤ (mosts p).getD i 0 ∧ (mosts p).getD i 0 ≤ 12 := by
  by_cases h : i < (mosts p).length
  · have := smallB_at (mosts_small hp) h
    simpa [List.getD, List.getElem?_eq_getElem h] using this
  · simp [List.getD, List.getElem?_eq_none (Nat.le_of_not_lt h)]
theorem matD_small {p : PG} {l : List Nat} (hp : mayPB p = true) : Small (matD p l) l.length := fun i j => by
  unfold matD
  have h1 := hasZ_bound hp i (l.getD j 0)
  have h2 := mosts_at_bound hp i
  by_cases hj : j < l.length
  · rw [if_pos hj]; omega
  · rw [if_neg hj]; omega
theorem matU_small {p : PG} {l : List Nat} (hp : mayPB p = true) : Small (matU p l) l.length := fun i j => by
  unfold matU
  have h1 := hasZ_bound hp j (l.getD i 0)
  have h2 := costZ_bound hp (l.getD i 0)
  by_cases hj : j < l.length
  · rw [if_pos hj]; omega
  · rw [if_neg hj]; omega
theorem dt_congr2 {A B : Nat → Nat → Int} : ∀ {rs cs : List Nat}, (∀ r ∈ rs, ∀ c ∈ cs, A r c = B r c) → dt A rs cs = dt B rs cs
  | [], _, _ => rfl
  | r :: rs, cs, h => by
    rw [dt, dt]
    have gen : ∀ (cs' pre : List Nat) (s : Int), (∀ c ∈ pre ++ cs', c ∈ cs) → dtGo (A r) (dt A rs) pre s cs' = dtGo (B r) (dt B rs) pre s cs' := by
      intro cs'
      induction cs' with
      | nil => intros; rfl
      | cons c cs' ih =>
        intro pre s hm
        rw [dtGo, dtGo, h r (by simp) c (hm c (by simp)), dt_congr2 (A := A) (B := B) (rs := rs) (cs := pre ++ cs') fun r' hr c' hc' => h r' (by simp [hr]) c' (hm c' (by
          rcases List.mem_append.1 hc' with h | h
          · simp [h]
          · simp [h]))]
        rw [ih (pre ++ [c]) (-s) (by simpa using hm)]
    exact gen cs [] 1 (by simp)
/-- Both ways the divisor is one. -/
theorem den_flip {p : PG} {l : List Nat} (hl : l.length = p.rows.length) (h4 : p.rows.length ≤ 4) : dtm (matU p l) p.rows.length = denZ p l := by
  unfold denZ
  rw [← dt_flip (matD p l) h4]
  unfold dtm
  refine dt_congr2 fun r hr c hc => ?_
  have hr' : r < p.rows.length := by simpa using hr
  have hc' : c < p.rows.length := by simpa using hc
  simp only [matU, matD]
  rw [if_pos (by omega), if_pos (by omega)]
theorem den_bound {p : PG} {l : List Nat} (hp : mayPB p = true) (hl : l.length = p.rows.length) : -497664 ≤ denZ p l ∧ denZ p l ≤ 497664 := by
  have h4 := (mayPB_iff.1 hp).2.2.2.1
  unfold denZ
  exact dtm_within (hl ▸ matD_small hp) h4
theorem xk_bound {p : PG} {l : List Nat} (hp : mayPB p = true) (hl : l.length = p.rows.length) {k : Nat} (hk : k < p.rows.length) : -16588800 ≤ xk p l k ∧ xk p l k ≤ 16588800 := by
  have h4 := (mayPB_iff.1 hp).2.2.2.1
  exact dtp_within _ (hl ▸ matD_small hp) h4 hk
theorem yk_bound {p : PG} {l : List Nat} (hp : mayPB p = true) (hl : l.length = p.rows.length) {k : Nat} (hk : k < p.rows.length) : -16588800 ≤ yk p l k ∧ yk p l k ≤ 16588800 := by
  have h4 := (mayPB_iff.1 hp).2.2.2.1
  exact dtp_within _ (hl ▸ matU_small hp) h4 hk
theorem gk_bound {p : PG} {l : List Nat} (hp : mayPB p = true) (hl : l.length = p.rows.length) (j : Nat) {n : Nat} (hn : n ≤ p.rows.length) : -995328000 ≤ gk p l j n ∧ gk p l j n ≤ 995328000 := by
  have h4 := (mayPB_iff.1 hp).2.2.2.1
  have hd := den_bound hp hl
  have hc := costZ_bound hp j
  have h1 := mul_bound (costZ p j) (denZ p l) 400 497664 hc.1 hc.2 hd.1 hd.2
  have h2 : ∀ n, n ≤ p.rows.length → -(n * 199065600 : Int) ≤ sumN (fun i => yk p l i * hasZ p i j) n ∧ sumN (fun i => yk p l i * hasZ p i j) n ≤ n * 199065600 := by
    intro n
    induction n with
    | zero => intro _; simp [sumN]
    | succ n ih =>
      intro hn
      have hy := yk_bound hp hl (k := n) (by omega)
      have hh := hasZ_bound hp n j
      have h3 := mul_bound (yk p l n) (hasZ p n j) 16588800 12 hy.1 hy.2 hh.1 hh.2
      have := ih (by omega)
      rw [sumN]
      push_cast
      omega
  have := h2 n hn
  have hn4 : (n : Int) ≤ 4 := by omega
  unfold gk
  omega
end Go.Proofs.Ytjcdkbalhleeeaa
