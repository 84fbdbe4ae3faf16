/-
  Contracts of functions and plain laws that later parts of the proof use. The conditions stand in each theorem.
-/
import Derived.Test.YtjcdkbalhleeeabG02
namespace Go.Proofs.Ytjcdkbalhleeeab

def sumR (f : Nat → Rat) : Nat → Rat
  | 0 => 0
  | n + 1 => sumR f n + f n
theorem sumR_congr {f g : Nat → Rat} : ∀ {n : Nat}, (∀ i, i < n → f i = g i) → sumR f n = sumR g n
  | 0, _ => rfl
  | n + 1, h => by rw [sumR, sumR, sumR_congr fun i hi => h i (by omega), h n (by omega)]
theorem sumR_add {f g : Nat → Rat} : ∀ {n : Nat}, sumR (fun i => f i + g i) n = sumR f n + sumR g n
  | 0 => by simp [sumR]; grind
  | n + 1 => by simp only [sumR]; rw [sumR_add]; grind
theorem sumR_mul {f : Nat → Rat} {c : Rat} : ∀ {n : Nat}, sumR (fun i => c * f i) n = c * sumR f n
  | 0 => by simp [sumR]
  | n + 1 => by simp only [sumR]; rw [sumR_mul]; grind
theorem sumR_zero : ∀ {n : Nat}, sumR (fun _ => 0) n = 0
  | 0 => rfl
  | n + 1 => by rw [sumR, sumR_zero]; grind
theorem sumR_comm {f : Nat → Nat → Rat} {m : Nat} : ∀ {n : Nat}, sumR (fun i => sumR (fun j => f i j) m) n = sumR (fun j => sumR (fun i => f i j) n) m
  | 0 => by simp only [sumR]; exact sumR_zero.symm
  | n + 1 => by simp only [sumR]; rw [sumR_comm, sumR_add]
theorem sumR_one {f : Nat → Rat} {r : Nat} : ∀ {n : Nat}, r < n → (∀ j, j < n → j ≠ r → f j = 0) → sumR f n = f r
  | 0, h, _ => by omega
  | n + 1, h, hz => by
    rw [sumR]
    by_cases e : r = n
    · subst e
      have : sumR f r = 0 := (sumR_congr fun j hj => hz j (by omega) (by omega)).trans sumR_zero
      rw [this]; grind
    · rw [sumR_one (by omega) fun j hj => hz j (by omega), hz n (by omega) (by omega)]; grind
theorem sumR_pos {f : Nat → Rat} : ∀ {n : Nat}, 0 < sumR f n → ∃ j, j < n ∧ 0 < f j
  | 0, h => by simp [sumR] at h
  | n + 1, h => by
    by_cases e : 0 < f n
    · exact ⟨n, by omega, e⟩
    · rw [sumR] at h
      obtain ⟨j, hj, hp⟩ := sumR_pos (f := f) (n := n) (by grind)
      exact ⟨j, by omega, hp⟩

/-- One step: r comes in, s goes out. -/
structure Piv (m N : Nat) (A : Nat → Nat → Rat) (c : Nat → Rat) (l l' : List Nat) (x x' g d y : Nat → Rat) (r s : Nat) (t : Rat) : Prop where
  rin : r ∉ l
  rN : r < N
  sin : s ∈ l
  lN : ∀ j ∈ l, j < N
  mem : ∀ j, j ∈ l' ↔ (j ∈ l ∧ j ≠ s) ∨ j = r
  gy : ∀ j, j < N → g j = c j - sumR (fun i => y i * A i j) m
  g0 : ∀ j ∈ l, g j = 0
  gr : 0 < g r
  glt : ∀ j, j < r → g j ≤ 0
  dk : ∀ i, i < m → sumR (fun j => A i j * d j) N = 0
  dr : d r = 1
  doff : ∀ j, j ∉ l → j ≠ r → d j = 0
  ds : d s < 0
  t0 : 0 ≤ t
  tx : x s = t * -(d s)
  tmin : ∀ j ∈ l, d j < 0 → t * -(d j) ≤ x j ∧ (t * -(d j) = x j → s ≤ j)
  xoff : ∀ j, j ∉ l → x j = 0
  step : ∀ j, x' j = x j + t * d j

section
variable {m N : Nat} {A : Nat → Nat → Rat} {c : Nat → Rat} {l l' l2 l2' : List Nat} {x x' g d y x2 x2' g2 d2 y2 : Nat → Rat} {r s r2 s2 : Nat} {t t2 : Rat}
/-- What the direction is worth, by any corner's gains. -/
theorem Piv.worth (h : Piv m N A c l l' x x' g d y r s t) {g2 y2 : Nat → Rat} (hg : ∀ j, j < N → g2 j = c j - sumR (fun i => y2 i * A i j) m) : sumR (fun j => c j * d j) N = sumR (fun j => g2 j * d j) N := by
  have e : sumR (fun j => c j * d j) N = sumR (fun j => g2 j * d j + sumR (fun i => y2 i * (A i j * d j)) m) N := by
    refine sumR_congr fun j hj => ?_
    have h1 : sumR (fun i => y2 i * (A i j * d j)) m = d j * sumR (fun i => y2 i * A i j) m := by
      rw [← sumR_mul]; exact sumR_congr fun i _ => by grind
    rw [h1, hg j hj]; grind
  rw [e, sumR_add, ← sumR_comm (f := fun i j => y2 i * (A i j * d j))]
  have h2 : sumR (fun i => sumR (fun j => y2 i * (A i j * d j)) N) m = 0 := by
    refine (sumR_congr fun i hi => ?_).trans sumR_zero
    rw [sumR_mul, h.dk i hi]; grind
  rw [h2]; grind
theorem Piv.gain (h : Piv m N A c l l' x x' g d y r s t) : sumR (fun j => c j * d j) N = g r := by
  rw [h.worth h.gy, sumR_one h.rN]
  · rw [h.dr]; grind
  · intro j _ hjr
    by_cases hl : j ∈ l
    · rw [h.g0 j hl]; grind
    · rw [h.doff j hl hjr]; grind
theorem Piv.rises (h : Piv m N A c l l' x x' g d y r s t) : sumR (fun j => c j * x' j) N = sumR (fun j => c j * x j) N + t * g r := by
  rw [← h.gain, ← sumR_mul, ← sumR_add]
  exact sumR_congr fun j _ => by rw [h.step j]; grind
theorem Piv.ne (h : Piv m N A c l l' x x' g d y r s t) : s ≠ r := fun e => h.rin (e ▸ h.sin)

theorem turn_up {P : Nat → Prop} {i k : Nat} (hik : i ≤ k) (h0 : ¬ P i) (h1 : P k) : ∃ e, i ≤ e ∧ e < k ∧ ¬ P e ∧ P (e + 1) := by
  obtain ⟨n, rfl⟩ : ∃ n, k = i + n := ⟨k - i, by omega⟩
  induction n with
  | zero => exact absurd h1 h0
  | succ n ih =>
    by_cases hp : P (i + n)
    · obtain ⟨e, a, b, c, d⟩ := ih (by omega) hp; exact ⟨e, a, by omega, c, d⟩
    · exact ⟨i + n, by omega, by omega, hp, h1⟩

/-- No circle. -/
theorem bland {L : Nat → List Nat} {X G D Y : Nat → Nat → Rat} {R S : Nat → Nat} {T : Nat → Rat} {a b : Nat} (hab : a < b)
    (hs : ∀ i, a ≤ i → i < b → Piv m N A c (L i) (L (i + 1)) (X i) (X (i + 1)) (G i) (D i) (Y i) (R i) (S i) (T i))
    (hL : ∀ j, j ∈ L a ↔ j ∈ L b) (hX : ∀ j, X b j = X a j) (hXo : ∀ i, a ≤ i → i ≤ b → ∀ j, j ∉ L i → X i j = 0) : False := by
  -- what it is worth does not fall
  have mono : ∀ n, a + n ≤ b → sumR (fun j => c j * X a j) N ≤ sumR (fun j => c j * X (a + n) j) N := by
    intro n
    induction n with
    | zero => intro _; simp
    | succ n ih =>
      intro hn
      have h := hs (a + n) (by omega) (by omega)
      have := h.rises
      have h1 := Rat.mul_nonneg h.t0 (show 0 ≤ G (a + n) (R (a + n)) by have := h.gr; grind)
      have := ih (by omega)
      rw [show a + (n + 1) = a + n + 1 by omega]
      grind
  have mono2 : ∀ n, a + n ≤ b → sumR (fun j => c j * X (b - n) j) N ≤ sumR (fun j => c j * X b j) N := by
    intro n
    induction n with
    | zero => intro _; simp
    | succ n ih =>
      intro hn
      have h := hs (b - (n + 1)) (by omega) (by omega)
      have := h.rises
      have h1 := Rat.mul_nonneg h.t0 (show 0 ≤ G (b - (n + 1)) (R (b - (n + 1))) by have := h.gr; grind)
      have h2 := ih (by omega)
      rw [show b - (n + 1) + 1 = b - n by omega] at this
      grind
  have hw : sumR (fun j => c j * X b j) N = sumR (fun j => c j * X a j) N := sumR_congr fun j _ => by rw [hX j]
  have ht : ∀ i, a ≤ i → i < b → T i = 0 := by
    intro i h1 h2
    have h := hs i h1 h2
    have e := h.rises
    have m1 := mono (i - a) (by omega)
    have m2 := mono2 (b - (i + 1)) (by omega)
    rw [show a + (i - a) = i by omega] at m1
    rw [show b - (b - (i + 1)) = i + 1 by omega] at m2
    have hg := h.gr
    have h0 := h.t0
    have hle : T i * G i (R i) ≤ 0 := by grind
    rcases Rat.le_iff_lt_or_eq.1 h0 with hp | he
    · have := Rat.mul_pos hp hg; grind
    · exact he.symm
  have hx : ∀ n, a + n ≤ b → ∀ j, X (a + n) j = X a j := by
    intro n
    induction n with
    | zero => intro _ j; rfl
    | succ n ih =>
      intro hn j
      have := (hs (a + n) (by omega) (by omega)).step j
      rw [ht (a + n) (by omega) (by omega), ih (by omega) j] at this
      rw [show a + (n + 1) = a + n + 1 by omega, this]; grind
  have hx' : ∀ i, a ≤ i → i ≤ b → ∀ j, X i j = X a j := fun i h1 h2 j => by have := hx (i - a) (by omega) j; rwa [show a + (i - a) = i by omega] at this
  -- the columns that change
  let F : Nat → Prop := fun j => (∃ i, a ≤ i ∧ i ≤ b ∧ j ∈ L i) ∧ (∃ i, a ≤ i ∧ i ≤ b ∧ j ∉ L i)
  have hF0 : ∀ j, F j → X a j = 0 := by
    rintro j ⟨_, i, h1, h2, h3⟩
    rw [← hx' i h1 h2 j]; exact hXo i h1 h2 j h3
  have hin : ∀ j, F j → ∃ i, a ≤ i ∧ i < b ∧ R i = j := by
    rintro j ⟨⟨i, h1, h2, h3⟩, k, h4, h5, h6⟩
    have key : ∀ i k, a ≤ k → k ≤ i → i ≤ b → j ∉ L k → j ∈ L i → ∃ e, a ≤ e ∧ e < b ∧ R e = j := by
      intro i k hk hki hi h0 h1
      obtain ⟨e, e1, e2, e3, e4⟩ := turn_up (P := fun i => j ∈ L i) hki h0 h1
      refine ⟨e, by omega, by omega, ?_⟩
      have := ((hs e (by omega) (by omega)).mem j).1 e4
      rcases this with ⟨q, _⟩ | q
      · exact absurd q e3
      · exact q.symm
    by_cases ha : j ∈ L a
    · exact key b k h4 h5 (Nat.le_refl _) h6 ((hL j).1 ha)
    · exact key i a (Nat.le_refl _) h1 h2 ha h3
  have hout : ∀ j, F j → ∃ i, a ≤ i ∧ i < b ∧ S i = j := by
    rintro j ⟨⟨i, h1, h2, h3⟩, k, h4, h5, h6⟩
    have key : ∀ i k, a ≤ k → k ≤ i → i ≤ b → j ∈ L k → j ∉ L i → ∃ e, a ≤ e ∧ e < b ∧ S e = j := by
      intro i k hk hki hi h0 h1
      obtain ⟨e, e1, e2, e3, e4⟩ := turn_up (P := fun i => j ∉ L i) hki (fun h => h h0) h1
      refine ⟨e, by omega, by omega, ?_⟩
      have hje : j ∈ L e := Classical.byContradiction e3
      apply Classical.byContradiction
      intro hne
      exact e4 (((hs e (by omega) (by omega)).mem j).2 (Or.inl ⟨hje, fun q => hne q.symm⟩))
    by_cases ha : j ∈ L a
    · exact key k a (Nat.le_refl _) h4 h5 ha h6
    · exact key b i h1 h2 (Nat.le_refl _) h3 (fun q => ha ((hL j).2 q))
  have hFN : ∀ j, F j → j < N := by
    intro j hj
    obtain ⟨i, h1, h2, rfl⟩ := hin j hj
    exact (hs i h1 h2).rN
  have hFR : F (R a) := by
    have h := hs a (Nat.le_refl _) hab
    exact ⟨⟨a + 1, by omega, by omega, (h.mem _).2 (Or.inr rfl)⟩, a, by omega, by omega, h.rin⟩
  -- the greatest of them
  obtain ⟨q, hq, hmax⟩ : ∃ q, F q ∧ ∀ j, F j → j ≤ q := by
    have : ∀ n, (∃ j, F j ∧ N ≤ j + n) → ∃ q, F q ∧ ∀ j, F j → j ≤ q := by
      intro n
      induction n with
      | zero => rintro ⟨j, h1, h2⟩; have := hFN j h1; omega
      | succ n ih =>
        rintro ⟨j, h1, h2⟩
        by_cases hh : ∃ k, F k ∧ N ≤ k + n
        · exact ih hh
        · refine ⟨j, h1, fun k hk => ?_⟩
          apply Classical.byContradiction
          intro hlt
          exact hh ⟨k, hk, by omega⟩
    exact this N ⟨_, hFR, by omega⟩
  obtain ⟨i, hi1, hi2, hiS⟩ := hout q hq
  obtain ⟨k, hk1, hk2, hkR⟩ := hin q hq
  have hD := hs i hi1 hi2
  have hE := hs k hk1 hk2
  have hpos : 0 < sumR (fun j => G k j * D i j) N := by
    rw [← hD.worth hE.gy, hD.gain]; exact hD.gr
  obtain ⟨j, hjN, hj⟩ := sumR_pos hpos
  have hg0 : G k j ≠ 0 := fun e => by rw [e] at hj; grind
  have hd0 : D i j ≠ 0 := fun e => by rw [e] at hj; grind
  have hjE : j ∉ L k := fun h => hg0 (hE.g0 j h)
  have hjD : j ∈ L i ∨ j = R i := by
    apply Classical.byContradiction
    intro h
    exact hd0 (hD.doff j (fun q => h (Or.inl q)) (fun q => h (Or.inr q)))
  have hjF : F j := by
    refine ⟨?_, k, by omega, by omega, hjE⟩
    rcases hjD with h | h
    · exact ⟨i, by omega, by omega, h⟩
    · exact ⟨i + 1, by omega, by omega, (hD.mem j).2 (Or.inr h)⟩
  have hjq := hmax j hjF
  have hdq : D i q < 0 := by rw [← hiS]; exact hD.ds
  have hgq : 0 < G k q := by rw [← hkR]; exact hE.gr
  by_cases e : j = q
  · subst e
    have := Rat.mul_pos hgq (show 0 < -(D i j) by grind)
    grind
  · have hlt : j < R k := by omega
    have hgj := hE.glt j hlt
    have hdj : D i j < 0 := by
      apply Classical.byContradiction
      intro h
      have := Rat.mul_nonneg (show 0 ≤ -(G k j) by grind) (show 0 ≤ D i j by grind)
      grind
    have hjl : j ∈ L i := by
      rcases hjD with h | h
      · exact h
      · rw [h, hD.dr] at hdj; grind
    have hmin := (hD.tmin j hjl hdj).2
    rw [ht i hi1 hi2, hx' i hi1 (by omega) j, hF0 j hjF] at hmin
    have := hmin (by grind)
    omega
end

theorem pig : ∀ (n : Nat) (f : Nat → Nat), (∀ i, i ≤ n → f i < n) → ∃ i j, i < j ∧ j ≤ n ∧ f i = f j := by
  intro n
  induction n with
  | zero => intro f h; have := h 0 (by omega); omega
  | succ n ih =>
    intro f h
    by_cases hx : ∃ i, i ≤ n ∧ f i = f (n + 1)
    · obtain ⟨i, hi, e⟩ := hx; exact ⟨i, n + 1, by omega, by omega, e⟩
    · have hne : ∀ i, i ≤ n → f i ≠ f (n + 1) := fun i hi e => hx ⟨i, hi, e⟩
      obtain ⟨i, j, hij, hj, e⟩ := ih (fun i => if f i = n then f (n + 1) else f i) (fun i hi => by
        have := h i (by omega); have := h (n + 1) (by omega); have := hne i hi
        split <;> omega)
      refine ⟨i, j, hij, by omega, ?_⟩
      have h1 := hne i (by omega); have h2 := hne j (by omega)
      split at e <;> split at e <;> omega
end Go.Proofs.Ytjcdkbalhleeeab

namespace Go.Proofs.Ytjcdkbalhleeeab

/-! Columns of the determinant. -/
theorem dtGo_map {A : Nat → Int} {f : Nat → Nat} {g h : List Nat → Int} (hg : ∀ l, g l = h (l.map f)) : ∀ (cs pre : List Nat) (s : Int), dtGo (fun j => A (f j)) g pre s cs = dtGo A h (pre.map f) s (cs.map f)
  | [], _, _ => rfl
  | c :: cs, pre, s => by
    rw [dtGo, List.map_cons, dtGo, hg, dtGo_map hg cs, List.map_append, List.map_append]; rfl
theorem dt_cols {A : Nat → Nat → Int} {f : Nat → Nat} : ∀ {rs : List Nat} (cs : List Nat), dt (fun i j => A i (f j)) rs cs = dt A rs (cs.map f)
  | [], _ => rfl
  | r :: rs, cs => by
    rw [dt, dt]
    exact dtGo_map (fun l => dt_cols l) cs [] 1

set_option maxHeartbeats 1000000 in
theorem dt_adj (A : Nat → Nat → Int) {rs u v : List Nat} {a b : Nat} (h4 : rs.length ≤ 4) (hl : (u ++ a :: b :: v).length = rs.length) : dt A rs (u ++ a :: b :: v) = -dt A rs (u ++ b :: a :: v) := by
  simp at hl
  rcases (show rs.length = 2 ∨ rs.length = 3 ∨ rs.length = 4 by omega) with h | h | h
  · obtain ⟨r0, r1, rfl⟩ := list_len2 h
    obtain rfl : u = [] := List.eq_nil_of_length_eq_zero (by omega)
    obtain rfl : v = [] := List.eq_nil_of_length_eq_zero (by simp at hl; first | omega | simp [hl])
    simp [dt2]; grind
  · obtain ⟨r0, r1, r2, rfl⟩ := list_len3 h
    rcases u with _ | ⟨u0, u⟩
    · obtain ⟨v0, rfl⟩ : ∃ v0, v = [v0] := List.length_eq_one_iff.1 (by simp at hl; omega)
      simp [dt3]; grind
    · obtain rfl : u = [] := List.eq_nil_of_length_eq_zero (by simp at hl; omega)
      obtain rfl : v = [] := List.eq_nil_of_length_eq_zero (by simp at hl; omega)
      simp [dt3]; grind
  · obtain ⟨r0, r1, r2, r3, rfl⟩ := list_len4 h
    rcases u with _ | ⟨u0, _ | ⟨u1, u⟩⟩
    · obtain ⟨v0, v1, rfl⟩ := list_len2 (l := v) (by simp at hl; omega)
      simp [dt4, dt3]; grind
    · obtain ⟨v0, rfl⟩ : ∃ v0, v = [v0] := List.length_eq_one_iff.1 (by simp at hl; omega)
      simp [dt4, dt3]; grind
    · obtain rfl : u = [] := List.eq_nil_of_length_eq_zero (by simp at hl; omega)
      obtain rfl : v = [] := List.eq_nil_of_length_eq_zero (by simp at hl; omega)
      simp [dt4, dt3]; grind
theorem dt_ins (A : Nat → Nat → Int) {rs w : List Nat} {r : Nat} (h4 : rs.length ≤ 4) (hl : w.length + 1 = rs.length) : ∀ i, i ≤ w.length → (dt A rs (w.take i ++ r :: w.drop i)).natAbs = (dt A rs (r :: w)).natAbs := by
  intro i
  induction i with
  | zero => intro _; rfl
  | succ i ih =>
    intro hi
    rw [← ih (by omega)]
    have h1 : i < w.length := by omega
    rw [List.take_succ_eq_append_getElem h1, List.append_assoc, List.singleton_append, dt_adj A h4 (by simp; omega), Int.natAbs_neg]
    rw [← List.drop_eq_getElem_cons h1]

/-- One more column, rising. -/
def insN (w : List Nat) (r : Nat) : List Nat := w.takeWhile (fun j => decide (j < r)) ++ r :: w.dropWhile (fun j => decide (j < r))
theorem insN_take (w : List Nat) (r : Nat) : insN w r = w.take (w.takeWhile (fun j => decide (j < r))).length ++ r :: w.drop (w.takeWhile (fun j => decide (j < r))).length := by
  unfold insN
  have h : w.takeWhile (fun j => decide (j < r)) ++ w.dropWhile (fun j => decide (j < r)) = w := List.takeWhile_append_dropWhile
  have gen : ∀ a b w : List Nat, a ++ b = w → w.take a.length = a ∧ w.drop a.length = b := by rintro a b _ rfl; simp
  obtain ⟨h1, h2⟩ := gen _ _ _ h
  rw [h1, h2]
theorem mem_insN {w : List Nat} {r j : Nat} : j ∈ insN w r ↔ j ∈ w ∨ j = r := by
  have h : w.takeWhile (fun j => decide (j < r)) ++ w.dropWhile (fun j => decide (j < r)) = w := List.takeWhile_append_dropWhile
  unfold insN
  conv => rhs; rw [← h]
  simp only [List.mem_append, List.mem_cons]
  constructor
  · rintro (h | h | h)
    · exact Or.inl (Or.inl h)
    · exact Or.inr h
    · exact Or.inl (Or.inr h)
  · rintro ((h | h) | h)
    · exact Or.inl h
    · exact Or.inr (Or.inr h)
    · exact Or.inr (Or.inl h)
theorem length_insN (w : List Nat) (r : Nat) : (insN w r).length = w.length + 1 := by
  rw [insN_take]; simp; omega
theorem insN_pw {w : List Nat} {r : Nat} (h : w.Pairwise (· < ·)) (hr : r ∉ w) : (insN w r).Pairwise (· < ·) := by
  induction w with
  | nil => simp [insN]
  | cons a w ih =>
    rw [List.pairwise_cons] at h
    have har : a ≠ r := fun e => hr (by simp [e])
    by_cases hlt : a < r
    · have e : insN (a :: w) r = a :: insN w r := by simp [insN, hlt]
      rw [e, List.pairwise_cons]
      refine ⟨fun x hx => ?_, ih h.2 (fun q => hr (by simp [q]))⟩
      rcases mem_insN.1 hx with q | q
      · exact h.1 x q
      · omega
    · have e : insN (a :: w) r = r :: a :: w := by simp [insN, hlt]
      rw [e, List.pairwise_cons, List.pairwise_cons]
      refine ⟨fun x hx => ?_, h.1, h.2⟩
      rcases List.mem_cons.1 hx with q | q
      · omega
      · have := h.1 x q; omega

/-! A program whose rows may be at most what a column has. -/
def qOf (p : PG) (r : Nat) : PG := ⟨p.costs, (List.range p.rows.length).map fun i => ((p.rows.getD i ([], 0)).1, hasZ p i r)⟩
theorem qOf_len (p : PG) (r : Nat) : (qOf p r).rows.length = p.rows.length := by simp [qOf]
theorem qOf_row (p : PG) (r : Nat) {i : Nat} (h : i < p.rows.length) : (qOf p r).rows.getD i ([], 0) = ((p.rows.getD i ([], 0)).1, hasZ p i r) := by simp [qOf, List.getD, h]
theorem qOf_has (p : PG) (r i j : Nat) : hasZ (qOf p r) i j = hasZ p i j := by
  unfold hasZ
  simp only [show (qOf p r).costs = p.costs from rfl]
  by_cases h : i < p.rows.length
  · rw [qOf_row p r h]
  · have e1 : (qOf p r).rows.getD i ([], 0) = ([], 0) := by simp [qOf, List.getD, h]
    have e2 : p.rows.getD i ([], 0) = ([], 0) := by simp [List.getD, List.getElem?_eq_none (Nat.le_of_not_lt h)]
    rw [e1, e2]
theorem qOf_most (p : PG) (r : Nat) {i : Nat} (h : i < p.rows.length) : (mosts (qOf p r)).getD i 0 = hasZ p i r := by rw [getD_mosts, qOf_row p r h]
theorem qOf_may {p : PG} (hp : mayPB p = true) (r : Nat) : mayPB (qOf p r) = true := by
  obtain ⟨h1, h2, h3, h4, h5, h6⟩ := mayPB_iff.1 hp
  refine mayPB_iff.2 ⟨h1, h2, by rw [qOf_len]; exact h3, by rw [qOf_len]; exact h4, h5, ?_⟩
  rw [List.all_eq_true]
  intro x hx
  simp only [qOf, List.mem_map, List.mem_range] at hx
  obtain ⟨i, hi, rfl⟩ := hx
  obtain ⟨k1, k2, k3⟩ := mayPB_row hp hi
  have hb := hasZ_bound hp i r
  unfold rowB
  simp only [Bool.and_eq_true, decide_eq_true_eq, smallB_one]
  refine ⟨?_, ⟨by simpa using hb.1, by simpa using hb.2⟩, ?_⟩
  · show (p.rows.getD i ([], 0)).1.length = p.costs.length
    simpa [List.getD, List.getElem?_eq_getElem hi] using k1
  · simpa [List.getD, List.getElem?_eq_getElem hi] using k3
theorem qOf_right {p : PG} {l : List Nat} (h : RightL p l) (r : Nat) : RightL (qOf p r) l := ⟨by rw [qOf_len]; exact h.len, fun j hj => by rw [qOf_len]; exact h.lt j hj, h.pw⟩
theorem qOf_den {p : PG} {l : List Nat} (h : l.length = p.rows.length) (r : Nat) : denZ (qOf p r) l = denZ p l := by
  unfold denZ dtm
  rw [qOf_len]
  refine dt_congr2 fun i hi j hj => ?_
  have hj' : j < p.rows.length := by simpa using hj
  unfold matD
  rw [if_pos (by omega), if_pos (by omega), qOf_has]

/-! Columns as whole numbers, and as numbers from 0 on. -/
def ints (l : List Nat) : List Int := l.map Int.ofNat
theorem nats_ints (l : List Nat) : nats (ints l) = l := by unfold nats ints; rw [List.map_map]; conv => rhs; rw [← List.map_id l]
                                                           apply List.map_congr_left; intro x _; simp
theorem rising_ints {last : Int} {n : Nat} {l : List Nat} (h : ∀ j ∈ l, last < j ∧ j < n) (hp : l.Pairwise (· < ·)) : risingB last n (ints l) = true := by
  induction l generalizing last with
  | nil => rfl
  | cons a l ih =>
    rw [List.pairwise_cons] at hp
    have := h a (by simp)
    simp only [ints, List.map_cons, risingB, Bool.and_eq_true, decide_eq_true_eq]
    refine ⟨by simpa using this.1, by simp; omega, ih (fun j hj => ⟨?_, (h j (by simp [hj])).2⟩) hp.2⟩
    have := hp.1 j hj; simp; omega
theorem right_ints {p : PG} {l : List Nat} (h : RightL p l) : rightA p (ints l) = true := by
  simp only [rightA, Bool.and_eq_true, decide_eq_true_eq]
  exact ⟨by unfold ints; simpa using h.len, rising_ints (fun j hj => ⟨by omega, h.lt j hj⟩) h.pw⟩
theorem look_ints {p : PG} {l : List Nat} (hp : mayPB p = true) (h : RightL p l) (hd : denZ p l ≠ 0) : lookE p (ints l) = 0 := by
  unfold lookE; rw [if_neg (by simp [hp]), if_neg (by simp [right_ints h]), nats_ints, if_neg hd]

/-! The walk. -/
/-- The column that comes in. -/
def inZ (gs : List Int) : Option Nat := gs.findIdx? (fun n => decide (0 < n))
/-- The place of the column that goes out, of the first n. -/
def nearB (xs : List Int) (l : List Nat) (less : List Int) (k : Nat) : Option Nat → Bool
  | none => true
  | some q => decide (xs.getD (l.getD k 0) 0 * less.getD q 0 < xs.getD (l.getD q 0) 0 * less.getD k 0)
def outZ (xs : List Int) (l : List Nat) (less : List Int) (n : Nat) : Option Nat :=
  (List.range n).foldl (fun o k => if 0 < less.getD k 0 ∧ nearB xs l less k o = true then some k else o) none
/-- What columns come to, as numbers from 0 on. -/
def lookN (p : PG) (l : List Nat) : CO := lookC p (ints l)
/-- By how much each column in l becomes less. -/
def lessZ (p : PG) (l : List Nat) (r : Nat) : List Int := l.map fun j => (lookN (qOf p r) l).xs.getD j 0
/-- The next columns; none: there are none. -/
def nxtZ (p : PG) (l : List Nat) : Option (List Nat) :=
  match inZ (lookN p l).gs with
  | none => none
  | some r => match outZ (lookN p l).xs l (lessZ p l r) l.length with
    | none => none
    | some k => some (insN (l.eraseIdx k) r)
/-- The kind of the end. -/
def kindZ (p : PG) (l : List Nat) : Int :=
  match inZ (lookN p l).gs with
  | none => 1
  | some r => match outZ (lookN p l).xs l (lessZ p l r) l.length with
    | none => 2
    | some _ => 0

theorem inZ_some {gs : List Int} {r : Nat} (h : inZ gs = some r) : r < gs.length ∧ 0 < gs.getD r 0 ∧ ∀ j, j < r → gs.getD j 0 ≤ 0 := by
  unfold inZ at h
  rw [List.findIdx?_eq_some_iff_getElem] at h
  obtain ⟨h1, h2, h3⟩ := h
  refine ⟨h1, by simpa [List.getD, List.getElem?_eq_getElem h1] using h2, fun j hj => ?_⟩
  have := h3 j hj
  have hj' : j < gs.length := by omega
  simp at this
  simpa [List.getD, List.getElem?_eq_getElem hj'] using this
theorem inZ_none {gs : List Int} (h : inZ gs = none) : ∀ j, gs.getD j 0 ≤ 0 := by
  unfold inZ at h
  rw [List.findIdx?_eq_none_iff] at h
  intro j
  by_cases hj : j < gs.length
  · have := h gs[j] (List.getElem_mem hj)
    simp at this
    simpa [List.getD, List.getElem?_eq_getElem hj] using this
  · simp [List.getD, List.getElem?_eq_none (Nat.le_of_not_lt hj)]
theorem outZ_succ (xs : List Int) (l : List Nat) (less : List Int) (n : Nat) : outZ xs l less (n + 1) =
    if 0 < less.getD n 0 ∧ nearB xs l less n (outZ xs l less n) = true then some n else outZ xs l less n := by
  unfold outZ; rw [List.range_succ, List.foldl_append]; rfl
theorem outZ_none {xs : List Int} {l : List Nat} {less : List Int} : ∀ {n : Nat}, outZ xs l less n = none ↔ ∀ k, k < n → less.getD k 0 ≤ 0
  | 0 => by simp [outZ]
  | n + 1 => by
    rw [outZ_succ]
    constructor
    · intro h
      split at h
      · simp at h
      · rename_i hh
        rw [h] at hh
        have := outZ_none.1 h
        intro k hk
        by_cases e : k = n
        · subst e; simp [nearB] at hh; exact hh
        · exact this k (by omega)
    · intro h
      rw [if_neg (fun q => by have := h n (by omega); omega)]
      exact outZ_none.2 fun k hk => h k (by omega)
theorem outZ_some {xs : List Int} {l : List Nat} {less : List Int} (hx : ∀ j, 0 ≤ xs.getD j 0) : ∀ {n q : Nat}, outZ xs l less n = some q →
    q < n ∧ 0 < less.getD q 0 ∧ ∀ k, k < n → 0 < less.getD k 0 → xs.getD (l.getD q 0) 0 * less.getD k 0 ≤ xs.getD (l.getD k 0) 0 * less.getD q 0 ∧ (xs.getD (l.getD q 0) 0 * less.getD k 0 = xs.getD (l.getD k 0) 0 * less.getD q 0 → q ≤ k)
  | 0, q, h => by simp [outZ] at h
  | n + 1, q, h => by
    rw [outZ_succ] at h
    split at h
    · rename_i hh
      obtain ⟨h1, h2⟩ := hh
      simp at h
      subst h
      refine ⟨by omega, h1, fun k hk hp => ?_⟩
      by_cases e : k = n
      · subst e; exact ⟨by omega, fun _ => Nat.le_refl _⟩
      · cases ho : outZ xs l less n with
        | none => have := outZ_none.1 ho k (by omega); omega
        | some q =>
          rw [ho] at h2
          simp only [nearB, decide_eq_true_eq] at h2
          obtain ⟨a1, a2, a3⟩ := outZ_some hx ho
          obtain ⟨b1, b2⟩ := a3 k (by omega) hp
          -- x_n q' < x_q n' ; x_q k' ≤ x_k q' ; so x_n k' < x_k n'
          have c1 := Int.mul_lt_mul_of_pos_right h2 hp
          have c2 := Int.mul_le_mul_of_nonneg_right b1 (show 0 ≤ less.getD n 0 by omega)
          have c3 : xs.getD (l.getD n 0) 0 * less.getD k 0 * less.getD q 0 < xs.getD (l.getD k 0) 0 * less.getD n 0 * less.getD q 0 := by
            have e1 : xs.getD (l.getD n 0) 0 * less.getD q 0 * less.getD k 0 = xs.getD (l.getD n 0) 0 * less.getD k 0 * less.getD q 0 := by ac_rfl
            have e2 : xs.getD (l.getD q 0) 0 * less.getD n 0 * less.getD k 0 = xs.getD (l.getD q 0) 0 * less.getD k 0 * less.getD n 0 := by ac_rfl
            have e3 : xs.getD (l.getD k 0) 0 * less.getD q 0 * less.getD n 0 = xs.getD (l.getD k 0) 0 * less.getD n 0 * less.getD q 0 := by ac_rfl
            omega
          have := Int.lt_of_mul_lt_mul_right c3 (by omega)
          exact ⟨by omega, fun e => by omega⟩
    · rename_i hh
      obtain ⟨a1, a2, a3⟩ := outZ_some hx h
      refine ⟨by omega, a2, fun k hk hp => ?_⟩
      by_cases e : k = n
      · subst e
        rw [h] at hh
        simp only [nearB, decide_eq_true_eq] at hh
        have : ¬ (xs.getD (l.getD k 0) 0 * less.getD q 0 < xs.getD (l.getD q 0) 0 * less.getD k 0) := fun q => hh ⟨hp, q⟩
        exact ⟨by omega, fun _ => by omega⟩
      · exact a3 k (by omega) hp
end Go.Proofs.Ytjcdkbalhleeeab

namespace Go.Proofs.Ytjcdkbalhleeeab

theorem cast_sum {f : Nat → Int} : ∀ {n : Nat}, ((sumN f n : Int) : Rat) = sumR (fun i => (f i : Rat)) n
  | 0 => rfl
  | n + 1 => by rw [sumN, sumR, Rat.intCast_add, cast_sum]
theorem cast_ne {n : Int} (h : n ≠ 0) : (n : Rat) ≠ 0 := fun e => h (by exact_mod_cast e)
theorem cast_pos {n : Int} (h : 0 < n) : (0 : Rat) < (n : Rat) := by exact_mod_cast h

/-- A corner's columns, rows and gains as fractions. -/
def xq (c : CO) (j : Nat) : Rat := (c.xs.getD j 0 : Rat) / (c.xd : Rat)
def yq (c : CO) (i : Nat) : Rat := (c.ys.getD i 0 : Rat) / (c.yd : Rat)
def gq (c : CO) (j : Nat) : Rat := (c.gs.getD j 0 : Rat) / (c.gd : Rat)
def aq (p : PG) (i j : Nat) : Rat := (hasZ p i j : Rat)
def cq (p : PG) (j : Nat) : Rat := (costZ p j : Rat)

theorem zdiv (x : Rat) : ((0 : Int) : Rat) / x = 0 := by rw [show ((0 : Int) : Rat) = 0 from rfl]; grind
theorem div_eq {a b g : Int} (h : a = g * b) (hg : g ≠ 0) {e D : Int} (hd : D = g * e) (he : e ≠ 0) : (b : Rat) / (e : Rat) = (a : Rat) / (D : Rat) := by
  subst h hd
  rw [Rat.intCast_mul, Rat.intCast_mul]
  have := cast_ne hg; have := cast_ne he
  grind

section
variable {p : PG} {l : List Nat} {c : CO} {gx gy gg : Int}
theorem Corn.xq_eq (h : Corn p l c gx gy gg) (j : Nat) : xq c j = ((xall p l).getD j 0 : Rat) / (denZ p l : Rat) := div_eq (h.x j) h.nx h.dx (by have := h.px; omega)
theorem Corn.yq_eq (h : Corn p l c gx gy gg) (j : Nat) : yq c j = ((yall p l).getD j 0 : Rat) / (denZ p l : Rat) := div_eq (h.y j) h.ny h.dy (by have := h.py; omega)
theorem Corn.gq_eq (h : Corn p l c gx gy gg) (j : Nat) : gq c j = ((gall p l).getD j 0 : Rat) / (denZ p l : Rat) := div_eq (h.g j) h.ng h.dg (by have := h.pg; omega)
theorem Corn.rowQ (h : Corn p l c gx gy gg) {i : Nat} (hi : i < p.rows.length) : sumR (fun j => aq p i j * xq c j) (p.costs.length + p.rows.length) = ((mosts p).getD i 0 : Rat) := by
  have h1 := sum_has_x h.hr h.rows4 hi
  have h2 : ((sumN (fun j => hasZ p i j * (xall p l).getD j 0) (p.costs.length + p.rows.length) : Int) : Rat) = (((mosts p).getD i 0 * denZ p l : Int) : Rat) := by rw [h1]
  rw [cast_sum, Rat.intCast_mul] at h2
  have hd := cast_ne h.hd
  have e : sumR (fun j => aq p i j * xq c j) (p.costs.length + p.rows.length) = (1 / (denZ p l : Rat)) * sumR (fun j => ((hasZ p i j * (xall p l).getD j 0 : Int) : Rat)) (p.costs.length + p.rows.length) := by
    rw [← sumR_mul]
    refine sumR_congr fun j _ => ?_
    rw [h.xq_eq j, Rat.intCast_mul]; unfold aq; grind
  rw [e, h2]; grind
theorem Corn.offQ (h : Corn p l c gx gy gg) {j : Nat} (hj : j ∉ l) : xq c j = 0 := by
  rw [h.xq_eq j, xall_off h.hr hj]; exact zdiv _
theorem Corn.gainQ (h : Corn p l c gx gy gg) {j : Nat} (hj : j < p.costs.length + p.rows.length) : gq c j = cq p j - sumR (fun i => yq c i * aq p i j) p.rows.length := by
  rw [h.gq_eq j, gall_at hj]
  unfold gk
  have hd := cast_ne h.hd
  have e : sumR (fun i => yq c i * aq p i j) p.rows.length = (1 / (denZ p l : Rat)) * sumR (fun i => ((yk p l i * hasZ p i j : Int) : Rat)) p.rows.length := by
    rw [← sumR_mul]
    refine sumR_congr fun i hi => ?_
    rw [h.yq_eq i, yall_at hi, Rat.intCast_mul]; unfold aq; grind
  rw [e, ← cast_sum, Rat.intCast_sub, Rat.intCast_mul]
  unfold cq
  grind
theorem Corn.gainQ0 (h : Corn p l c gx gy gg) {j : Nat} (hj : j ∈ l) : gq c j = 0 := by
  obtain ⟨k, hk, rfl⟩ := List.mem_iff_getElem.1 hj
  have := h.gain_own (k := k) (by rw [← h.hr.len]; exact hk)
  simp only [List.getD, List.getElem?_eq_getElem hk, Option.getD_some] at this
  unfold gq
  simp only [List.getD]
  rw [this]; exact zdiv _
theorem sign_div {a b : Int} (hb : 0 < b) : ((0 : Rat) < (a : Rat) / (b : Rat) ↔ 0 < a) ∧ ((a : Rat) / (b : Rat) < 0 ↔ a < 0) := by
  have hb' := cast_pos hb
  have e : (a : Rat) / (b : Rat) * (b : Rat) = (a : Rat) := by grind
  constructor
  · constructor
    · intro h
      have := Rat.mul_pos h hb'
      rw [e] at this
      exact_mod_cast this
    · intro h
      have ha := cast_pos h
      apply Classical.byContradiction
      intro hn
      have := Rat.mul_nonneg (show (0 : Rat) ≤ -((a : Rat) / (b : Rat)) by grind) (show (0 : Rat) ≤ (b : Rat) by grind)
      grind
  · constructor
    · intro h
      have := Rat.mul_pos (show (0 : Rat) < -((a : Rat) / (b : Rat)) by grind) hb'
      have h2 : (0 : Rat) < -(a : Rat) := by grind
      have h3 : (a : Rat) < 0 := by grind
      exact_mod_cast h3
    · intro h
      have ha : (a : Rat) < 0 := by exact_mod_cast h
      apply Classical.byContradiction
      intro hn
      have := Rat.mul_nonneg (show (0 : Rat) ≤ (a : Rat) / (b : Rat) by grind) (show (0 : Rat) ≤ (b : Rat) by grind)
      grind
theorem nonneg_div {a b : Int} (hb : 0 < b) : (0 : Rat) ≤ (a : Rat) / (b : Rat) ↔ 0 ≤ a := by
  have h := (sign_div (a := a) hb).2
  constructor
  · intro h1
    apply Classical.byContradiction
    intro h2
    have := h.2 (by omega)
    grind
  · intro h1
    apply Classical.byContradiction
    intro h2
    have := h.1 (by grind)
    omega
end

/-! Only one way. -/
/-- The matrix with a column of 0s and one 1 in the place behind. -/
def unitC (A : Nat → Nat → Int) (m i : Nat) (r c : Nat) : Int := if c < m then A r c else if r = i then 1 else 0
set_option maxHeartbeats 4000000 in
theorem adj_left (A : Nat → Nat → Int) {m k j : Nat} (hm : m ≤ 4) (hk : k < m) (hj : j < m) : sumN (fun i => dtp (unitC A m i) m k m * A i j) m = if j = k then dtm A m else 0 := by
  unfold dtp dtm
  rcases (show m = 1 ∨ m = 2 ∨ m = 3 ∨ m = 4 by omega) with rfl | rfl | rfl | rfl
  · obtain rfl : k = 0 := by omega
    obtain rfl : j = 0 := by omega
    simp [sumN, dt1, unitC]
  · rcases (show k = 0 ∨ k = 1 by omega) with rfl | rfl <;> rcases (show j = 0 ∨ j = 1 by omega) with rfl | rfl <;> (simp [sumN, range2, dt2, unitC]; try grind)
  · rcases (show k = 0 ∨ k = 1 ∨ k = 2 by omega) with rfl | rfl | rfl <;> rcases (show j = 0 ∨ j = 1 ∨ j = 2 by omega) with rfl | rfl | rfl <;> (simp [sumN, range3, dt3, unitC]; try grind)
  · rcases (show k = 0 ∨ k = 1 ∨ k = 2 ∨ k = 3 by omega) with rfl | rfl | rfl | rfl <;> rcases (show j = 0 ∨ j = 1 ∨ j = 2 ∨ j = 3 by omega) with rfl | rfl | rfl | rfl <;> (simp [sumN, range4, dt4, dt3, unitC]; try grind)

/-- A sum over all columns, of what is 0 off l. -/
theorem sum_support {p : PG} {l : List Nat} (hr : RightL p l) {f : Nat → Rat} (hf : ∀ j, j ∉ l → f j = 0) : sumR f (p.costs.length + p.rows.length) = sumR (fun k => f (l.getD k 0)) p.rows.length := by
  have h1 : ∀ j, f j = sumR (fun k => if l.getD k 0 = j then f j else 0) p.rows.length := by
    intro j
    by_cases hj : j ∈ l
    · obtain ⟨k, hk, rfl⟩ := List.mem_iff_getElem.1 hj
      have hk' : k < p.rows.length := by rw [← hr.len]; exact hk
      have e : l.getD k 0 = l[k] := by simp [List.getD, List.getElem?_eq_getElem hk]
      rw [sumR_one hk', if_pos e]
      intro i hi hne
      rw [if_neg]
      intro q
      rw [← e] at q
      rcases Nat.lt_or_gt_of_ne hne with h | h
      · have := hr.ne h hk; omega
      · have := hr.ne h (by rw [hr.len]; exact hi); omega
    · rw [hf j hj]
      refine Eq.symm ((sumR_congr fun k _ => ?_).trans sumR_zero)
      split <;> rfl
  rw [sumR_congr (g := fun j => sumR (fun k => if l.getD k 0 = j then f j else 0) p.rows.length) fun j _ => h1 j]
  rw [← sumR_comm (f := fun k j => if l.getD k 0 = j then f j else 0)]
  refine sumR_congr fun k hk => ?_
  rw [sumR_one (hr.at_lt (by rw [hr.len]; exact hk)), if_pos rfl]
  intro j _ hne
  rw [if_neg (fun q => hne q.symm)]
theorem kernel {p : PG} {l : List Nat} (hr : RightL p l) (h4 : p.rows.length ≤ 4) (hd : denZ p l ≠ 0) {z : Nat → Rat} (hz : ∀ j, j ∉ l → z j = 0)
    (hA : ∀ i, i < p.rows.length → sumR (fun j => aq p i j * z j) (p.costs.length + p.rows.length) = 0) : ∀ j, z j = 0 := by
  intro j
  by_cases hj : j ∈ l
  rotate_left
  · exact hz j hj
  obtain ⟨k, hk, rfl⟩ := List.mem_iff_getElem.1 hj
  have hk' : k < p.rows.length := by rw [← hr.len]; exact hk
  have e : l.getD k 0 = l[k] := by simp [List.getD, List.getElem?_eq_getElem hk]
  rw [← e]
  have h1 : ∀ i, i < p.rows.length → sumR (fun k => (matD p l i k : Rat) * z (l.getD k 0)) p.rows.length = 0 := by
    intro i hi
    rw [← hA i hi, sum_support hr (fun j hj => by rw [hz j hj]; grind)]
    refine sumR_congr fun q hq => ?_
    unfold matD aq
    rw [if_pos (by rw [hr.len]; exact hq)]
  have h2 : sumR (fun i => (dtp (unitC (matD p l) p.rows.length i) p.rows.length k p.rows.length : Rat) * sumR (fun q => (matD p l i q : Rat) * z (l.getD q 0)) p.rows.length) p.rows.length = 0 :=
    (sumR_congr fun i hi => by rw [h1 i hi]; grind).trans sumR_zero
  have h3 : sumR (fun i => (dtp (unitC (matD p l) p.rows.length i) p.rows.length k p.rows.length : Rat) * sumR (fun q => (matD p l i q : Rat) * z (l.getD q 0)) p.rows.length) p.rows.length
      = sumR (fun q => (if q = k then (denZ p l : Rat) else 0) * z (l.getD q 0)) p.rows.length := by
    rw [sumR_congr (g := fun i => sumR (fun q => (dtp (unitC (matD p l) p.rows.length i) p.rows.length k p.rows.length : Rat) * ((matD p l i q : Rat) * z (l.getD q 0))) p.rows.length) fun i _ => by rw [sumR_mul]]
    rw [sumR_comm]
    refine sumR_congr fun q hq => ?_
    have ha := adj_left (matD p l) h4 hk' hq
    have e1 : sumR (fun i => (dtp (unitC (matD p l) p.rows.length i) p.rows.length k p.rows.length : Rat) * ((matD p l i q : Rat) * z (l.getD q 0))) p.rows.length
        = z (l.getD q 0) * ((sumN (fun i => dtp (unitC (matD p l) p.rows.length i) p.rows.length k p.rows.length * matD p l i q) p.rows.length : Int) : Rat) := by
      rw [cast_sum, ← sumR_mul]
      refine sumR_congr fun i _ => ?_
      rw [Rat.intCast_mul]; grind
    rw [e1, ha]
    unfold denZ
    by_cases hqk : q = k
    · rw [if_pos hqk, if_pos hqk]; grind
    · rw [if_neg hqk, if_neg hqk]; simp
  rw [h3, sumR_one hk' (fun q _ hq => by rw [if_neg hq]; grind), if_pos rfl] at h2
  have := cast_ne hd
  grind
end Go.Proofs.Ytjcdkbalhleeeab

namespace Go.Proofs.Ytjcdkbalhleeeab

/-- Columns that are right, have one way, and go. -/
structure OKb (p : PG) (l : List Nat) : Prop where
  hp : mayPB p = true
  hr : RightL p l
  hd : denZ p l ≠ 0
  hx : nonneg (lookN p l).xs = true

theorem corn_of {p : PG} {l : List Nat} (hp : mayPB p = true) (hr : RightL p l) (hd : denZ p l ≠ 0) : ∃ gx gy gg, Corn p l (lookN p l) gx gy gg := by
  have := look_corn (look_ints hp hr hd)
  rwa [nats_ints] at this
theorem getD_map {l : List Nat} {f : Nat → Int} {k : Nat} (h : k < l.length) : (l.map f).getD k 0 = f (l.getD k 0) := by
  simp [List.getD, List.getElem?_eq_getElem h]
theorem mem_getD {l : List Nat} {j : Nat} : j ∈ l ↔ ∃ k, k < l.length ∧ l.getD k 0 = j := by
  constructor
  · intro h
    obtain ⟨k, hk, rfl⟩ := List.mem_iff_getElem.1 h
    exact ⟨k, hk, by simp [List.getD, List.getElem?_eq_getElem hk]⟩
  · rintro ⟨k, hk, rfl⟩
    simp only [List.getD, List.getElem?_eq_getElem hk, Option.getD_some]
    exact List.getElem_mem hk

/-- What a step computes. -/
structure Stp (p : PG) (l : List Nat) (r k : Nat) : Prop where
  hin : inZ (lookN p l).gs = some r
  hout : outZ (lookN p l).xs l (lessZ p l r) l.length = some k
theorem stp_of {p : PG} {l l' : List Nat} (h : nxtZ p l = some l') : ∃ r k, Stp p l r k ∧ l' = insN (l.eraseIdx k) r := by
  unfold nxtZ at h
  split at h
  · simp at h
  · rename_i r hr
    split at h
    · simp at h
    · rename_i k hk
      simp at h
      exact ⟨r, k, ⟨hr, hk⟩, h.symm⟩

section
variable {p : PG} {l : List Nat} {r k : Nat}
theorem mem_erase (hr : RightL p l) (hk : k < l.length) {j : Nat} : j ∈ l.eraseIdx k ↔ j ∈ l ∧ j ≠ l.getD k 0 := by
  rw [List.mem_eraseIdx_iff_getElem]
  constructor
  · rintro ⟨i, hi, hne, rfl⟩
    refine ⟨List.getElem_mem hi, ?_⟩
    have e : l[i] = l.getD i 0 := by simp [List.getD, List.getElem?_eq_getElem hi]
    rw [e]
    rcases Nat.lt_or_gt_of_ne hne with h | h
    · have := hr.ne h hk; omega
    · have := hr.ne h hi; omega
  · rintro ⟨h1, h2⟩
    obtain ⟨i, hi, rfl⟩ := List.mem_iff_getElem.1 h1
    refine ⟨i, hi, fun e => h2 ?_, rfl⟩
    subst e
    simp [List.getD, List.getElem?_eq_getElem hi]
theorem right_next (hr : RightL p l) (hk : k < l.length) (hrl : r ∉ l) (hN : r < p.costs.length + p.rows.length) : RightL p (insN (l.eraseIdx k) r) := by
  refine ⟨?_, ?_, ?_⟩
  · rw [length_insN, List.length_eraseIdx_of_lt hk]; have := hr.len; omega
  · intro j hj
    rcases mem_insN.1 hj with h | h
    · exact hr.lt j ((mem_erase hr hk).1 h).1
    · omega
  · exact insN_pw (hr.pw.sublist (List.eraseIdx_sublist l k)) (fun q => hrl ((mem_erase hr hk).1 q).1)
theorem den_dt (hr : l.length = p.rows.length) : denZ p l = dt (hasZ p) (List.range p.rows.length) l := by
  unfold denZ dtm
  have e : dt (matD p l) (List.range p.rows.length) (List.range p.rows.length) = dt (fun i j => hasZ p i (l.getD j 0)) (List.range p.rows.length) (List.range p.rows.length) := by
    refine dt_congr2 fun i _ j hj => ?_
    have : j < p.rows.length := by simpa using hj
    unfold matD; rw [if_pos (by omega)]
  rw [e, dt_cols (f := fun j => l.getD j 0)]
  congr 1
  refine List.ext_getElem (by simp; omega) fun i h1 h2 => ?_
  simp [List.getD, List.getElem?_eq_getElem h2]
theorem xk_dt (hr : l.length = p.rows.length) (_hk : k < p.rows.length) : xk (qOf p r) l k = dt (hasZ p) (List.range p.rows.length) (l.set k r) := by
  unfold xk dtp
  rw [qOf_len]
  have e : dt (matD (qOf p r) l) (List.range p.rows.length) ((List.range p.rows.length).set k p.rows.length) =
      dt (fun i j => hasZ p i (if j < l.length then l.getD j 0 else r)) (List.range p.rows.length) ((List.range p.rows.length).set k p.rows.length) := by
    refine dt_congr2 fun i hi j _ => ?_
    have : i < p.rows.length := by simpa using hi
    unfold matD
    by_cases hj : j < l.length
    · rw [if_pos hj, if_pos hj, qOf_has]
    · rw [if_neg hj, if_neg hj, qOf_most p r this]
  rw [e, dt_cols (f := fun j => if j < l.length then l.getD j 0 else r)]
  congr 1
  refine List.ext_getElem (by simp; omega) fun i h1 h2 => ?_
  have h2' : i < l.length := by simpa using h2
  simp only [List.getElem_map, List.getElem_set]
  by_cases e : k = i
  · subst e; rw [if_pos rfl, if_pos rfl, if_neg (by omega)]
  · rw [if_neg e, if_neg e, List.getElem_range, if_pos h2']
    simp [List.getD, List.getElem?_eq_getElem h2']
theorem den_next (hr : RightL p l) (h4 : p.rows.length ≤ 4) (hk : k < p.rows.length) (hn : xk (qOf p r) l k ≠ 0) (hrl : r ∉ l) (hN : r < p.costs.length + p.rows.length) : denZ p (insN (l.eraseIdx k) r) ≠ 0 := by
  have hkl : k < l.length := by rw [hr.len]; exact hk
  have hR := right_next hr hkl hrl hN
  rw [den_dt hR.len]
  rw [xk_dt hr.len hk] at hn
  have e1 : l.set k r = (l.eraseIdx k).take k ++ r :: (l.eraseIdx k).drop k := by
    rw [List.set_eq_take_append_cons_drop, if_pos hkl]
    rw [List.eraseIdx_eq_take_drop_succ]
    have hl1 : (l.take k).length = k := by rw [List.length_take]; omega
    rw [List.take_left' hl1, List.drop_left' hl1]
  have hlen : (l.eraseIdx k).length + 1 = (List.range p.rows.length).length := by
    rw [List.length_eraseIdx_of_lt hkl, List.length_range]; have := hr.len; omega
  have h1 := dt_ins (hasZ p) (rs := List.range p.rows.length) (w := l.eraseIdx k) (r := r) (by simpa using h4) hlen k (by rw [List.length_eraseIdx_of_lt hkl]; omega)
  rw [insN_take]
  have h2 := dt_ins (hasZ p) (rs := List.range p.rows.length) (w := l.eraseIdx k) (r := r) (by simpa using h4) hlen ((l.eraseIdx k).takeWhile (fun j => decide (j < r))).length (List.takeWhile_prefix _).length_le
  rw [e1] at hn
  intro h0
  rw [h0] at h2
  rw [← h2] at h1
  exact hn (Int.natAbs_eq_zero.1 h1)
end

theorem getD_nonneg {l : List Int} (h : nonneg l = true) (j : Nat) : 0 ≤ l.getD j 0 := nonneg_at h j
theorem nonneg_of {l : List Int} (h : ∀ j, 0 ≤ l.getD j 0) : nonneg l = true := by
  unfold nonneg
  rw [List.all_eq_true]
  intro x hx
  obtain ⟨j, hj, rfl⟩ := List.mem_iff_getElem.1 hx
  have := h j
  simpa [List.getD, List.getElem?_eq_getElem hj] using this

/-- How all columns change as column r grows by one. -/
def dq (p : PG) (l : List Nat) (r j : Nat) : Rat := if j = r then 1 else -(xq (lookN (qOf p r) l) j)
def tq (p : PG) (l : List Nat) (r k : Nat) : Rat := xq (lookN p l) (l.getD k 0) / xq (lookN (qOf p r) l) (l.getD k 0)

/-- Facts of the direction. -/
theorem dir_ker {p : PG} {l : List Nat} (hp : mayPB p = true) (hr : RightL p l) (hd : denZ p l ≠ 0) {r : Nat} (hrl : r ∉ l) (hN : r < p.costs.length + p.rows.length) {i : Nat} (hi : i < p.rows.length) :
    sumR (fun j => aq p i j * dq p l r j) (p.costs.length + p.rows.length) = 0 := by
  obtain ⟨a1, a2, a3, hq⟩ := corn_of (qOf_may hp r) (qOf_right hr r) (by rw [qOf_den hr.len]; exact hd)
  have h1 := hq.rowQ (i := i) (by rw [qOf_len]; exact hi)
  rw [qOf_most p r hi, qOf_len] at h1
  simp only [show (qOf p r).costs = p.costs from rfl] at h1
  have e : sumR (fun j => aq p i j * dq p l r j) (p.costs.length + p.rows.length) = sumR (fun j => (if j = r then aq p i r else 0) + (-1) * (aq (qOf p r) i j * xq (lookN (qOf p r) l) j)) (p.costs.length + p.rows.length) := by
    refine sumR_congr fun j _ => ?_
    unfold dq
    have ha : aq (qOf p r) i j = aq p i j := by unfold aq; rw [qOf_has]
    rw [ha]
    by_cases hj : j = r
    · subst hj; rw [if_pos rfl, if_pos rfl, hq.offQ hrl]; grind
    · rw [if_neg hj, if_neg hj]; grind
  rw [e, sumR_add, sumR_mul, h1, sumR_one hN (fun j _ hj => if_neg hj), if_pos rfl]
  unfold aq; grind

theorem step_ok {p : PG} {l : List Nat} (ho : OKb p l) {r k : Nat} (hs : Stp p l r k) :
    OKb p (insN (l.eraseIdx k) r) ∧
    Piv p.rows.length (p.costs.length + p.rows.length) (aq p) (cq p) l (insN (l.eraseIdx k) r) (xq (lookN p l)) (xq (lookN p (insN (l.eraseIdx k) r))) (gq (lookN p l)) (dq p l r) (yq (lookN p l)) r (l.getD k 0) (tq p l r k) := by
  obtain ⟨hp, hr, hd, hx⟩ := ho
  obtain ⟨hin, hout⟩ := hs
  obtain ⟨gx, gy, gg, hc⟩ := corn_of hp hr hd
  obtain ⟨a1, a2, a3, hq⟩ := corn_of (qOf_may hp r) (qOf_right hr r) (by rw [qOf_den hr.len]; exact hd)
  have h4 := hc.rows4
  obtain ⟨i1, i2, i3⟩ := inZ_some hin
  rw [hc.lg] at i1
  have hx0 := getD_nonneg hx
  obtain ⟨o1, o2, o3⟩ := outZ_some hx0 hout
  have hk : k < p.rows.length := by rw [← hr.len]; exact o1
  have hrl : r ∉ l := by
    intro h
    obtain ⟨q, hq1, rfl⟩ := mem_getD.1 h
    have := hc.gain_own (k := q) (by rw [← hr.len]; exact hq1)
    omega
  have hs_mem : l.getD k 0 ∈ l := mem_getD.2 ⟨k, o1, rfl⟩
  have hless : ∀ i, i < l.length → (lessZ p l r).getD i 0 = (lookN (qOf p r) l).xs.getD (l.getD i 0) 0 := fun i hi => by unfold lessZ; rw [getD_map hi]
  rw [hless k o1] at o2
  have hxd : 0 < (lookN p l).xd := hc.px
  have hqd : 0 < (lookN (qOf p r) l).xd := hq.px
  have hsp : 0 < xq (lookN (qOf p r) l) (l.getD k 0) := (sign_div hqd).1.2 o2
  have hxs0 : ∀ j, 0 ≤ xq (lookN p l) j := fun j => (nonneg_div hxd).2 (hx0 j)
  have ht : tq p l r k * xq (lookN (qOf p r) l) (l.getD k 0) = xq (lookN p l) (l.getD k 0) := by unfold tq; grind
  have ht0 : 0 ≤ tq p l r k := by
    apply Classical.byContradiction
    intro hn
    have := Rat.mul_pos (show 0 < -(tq p l r k) by grind) hsp
    have := hxs0 (l.getD k 0)
    grind
  have hsr : l.getD k 0 ≠ r := fun e => hrl (e ▸ hs_mem)
  have hds : dq p l r (l.getD k 0) = -(xq (lookN (qOf p r) l) (l.getD k 0)) := by unfold dq; rw [if_neg hsr]
  have hmin : ∀ i, i < l.length → 0 < xq (lookN (qOf p r) l) (l.getD i 0) → tq p l r k * xq (lookN (qOf p r) l) (l.getD i 0) ≤ xq (lookN p l) (l.getD i 0) ∧ (tq p l r k * xq (lookN (qOf p r) l) (l.getD i 0) = xq (lookN p l) (l.getD i 0) → k ≤ i) := by
    intro i hi hpos
    have hpi : 0 < (lookN (qOf p r) l).xs.getD (l.getD i 0) 0 := (sign_div hqd).1.1 hpos
    have := o3 i hi (by rw [hless i hi]; exact hpi)
    rw [hless i hi, hless k o1] at this
    obtain ⟨m1, m2⟩ := this
    have e1 : xq (lookN p l) (l.getD k 0) * xq (lookN (qOf p r) l) (l.getD i 0) = (((lookN p l).xs.getD (l.getD k 0) 0 * (lookN (qOf p r) l).xs.getD (l.getD i 0) 0 : Int) : Rat) / (((lookN p l).xd * (lookN (qOf p r) l).xd : Int) : Rat) := by
      unfold xq; rw [Rat.intCast_mul, Rat.intCast_mul]
      have := cast_pos hxd; have := cast_pos hqd; grind
    have e2 : xq (lookN p l) (l.getD i 0) * xq (lookN (qOf p r) l) (l.getD k 0) = (((lookN p l).xs.getD (l.getD i 0) 0 * (lookN (qOf p r) l).xs.getD (l.getD k 0) 0 : Int) : Rat) / (((lookN p l).xd * (lookN (qOf p r) l).xd : Int) : Rat) := by
      unfold xq; rw [Rat.intCast_mul, Rat.intCast_mul]
      have := cast_pos hxd; have := cast_pos hqd; grind
    have hD : 0 < (lookN p l).xd * (lookN (qOf p r) l).xd := Int.mul_pos hxd hqd
    have e3 : xq (lookN p l) (l.getD i 0) * xq (lookN (qOf p r) l) (l.getD k 0) - xq (lookN p l) (l.getD k 0) * xq (lookN (qOf p r) l) (l.getD i 0) =
        (((lookN p l).xs.getD (l.getD i 0) 0 * (lookN (qOf p r) l).xs.getD (l.getD k 0) 0 - (lookN p l).xs.getD (l.getD k 0) 0 * (lookN (qOf p r) l).xs.getD (l.getD i 0) 0 : Int) : Rat) / (((lookN p l).xd * (lookN (qOf p r) l).xd : Int) : Rat) := by
      rw [e1, e2, Rat.intCast_sub]; grind
    have s1 : 0 ≤ xq (lookN p l) (l.getD i 0) * xq (lookN (qOf p r) l) (l.getD k 0) - xq (lookN p l) (l.getD k 0) * xq (lookN (qOf p r) l) (l.getD i 0) := by
      rw [e3]; exact (nonneg_div hD).2 (by omega)
    have s2 : xq (lookN p l) (l.getD i 0) * xq (lookN (qOf p r) l) (l.getD k 0) - xq (lookN p l) (l.getD k 0) * xq (lookN (qOf p r) l) (l.getD i 0) = (xq (lookN p l) (l.getD i 0) - tq p l r k * xq (lookN (qOf p r) l) (l.getD i 0)) * xq (lookN (qOf p r) l) (l.getD k 0) := by
      rw [← ht]; grind
    constructor
    · apply Classical.byContradiction
      intro hn
      have := Rat.mul_pos (show 0 < -(xq (lookN p l) (l.getD i 0) - tq p l r k * xq (lookN (qOf p r) l) (l.getD i 0)) by grind) hsp
      grind
    · intro he
      apply m2
      have z : (xq (lookN p l) (l.getD i 0) - tq p l r k * xq (lookN (qOf p r) l) (l.getD i 0)) * xq (lookN (qOf p r) l) (l.getD k 0) = 0 := by rw [he]; grind
      rw [z] at s2
      apply Classical.byContradiction
      intro hne
      have := (sign_div (a := (lookN p l).xs.getD (l.getD i 0) 0 * (lookN (qOf p r) l).xs.getD (l.getD k 0) 0 - (lookN p l).xs.getD (l.getD k 0) 0 * (lookN (qOf p r) l).xs.getD (l.getD i 0) 0) hD).1.2 (by omega)
      rw [← e3, s2] at this
      exact absurd this (by grind)
  have hxk : xk (qOf p r) l k ≠ 0 := by
    have h1 := hq.x (l.getD k 0)
    rw [xall_at (qOf_right hr r) (by rw [qOf_len]; exact hk)] at h1
    rw [h1]
    intro h0
    rcases Int.mul_eq_zero.1 h0 with e | e
    · exact hq.nx e
    · omega
  have hR := right_next hr o1 hrl i1
  have hD' := den_next hr h4 hk hxk hrl i1
  obtain ⟨b1, b2, b3, hc'⟩ := corn_of hp hR hD'
  have hstep : ∀ j, xq (lookN p (insN (l.eraseIdx k) r)) j = xq (lookN p l) j + tq p l r k * dq p l r j := by
    have hz := kernel hR h4 hD' (z := fun j => xq (lookN p (insN (l.eraseIdx k) r)) j - (xq (lookN p l) j + tq p l r k * dq p l r j)) ?_ ?_
    · intro j; have := hz j; grind
    · intro j hj
      have hj' : ¬ (j ∈ l ∧ j ≠ l.getD k 0) ∧ j ≠ r := ⟨fun q => hj (mem_insN.2 (Or.inl ((mem_erase hr o1).2 q))), fun q => hj (mem_insN.2 (Or.inr q))⟩
      rw [hc'.offQ hj]
      by_cases hjs : j = l.getD k 0
      · subst hjs; rw [hds, ← ht]; grind
      · have hjl : j ∉ l := fun q => hj'.1 ⟨q, hjs⟩
        rw [hc.offQ hjl]
        unfold dq
        rw [if_neg hj'.2, hq.offQ hjl]; grind
    · intro i hi
      have k1 := hc'.rowQ hi
      have k2 := hc.rowQ hi
      have k3 := dir_ker hp hr hd hrl i1 hi
      have e : sumR (fun j => aq p i j * (xq (lookN p (insN (l.eraseIdx k) r)) j - (xq (lookN p l) j + tq p l r k * dq p l r j))) (p.costs.length + p.rows.length) =
          sumR (fun j => aq p i j * xq (lookN p (insN (l.eraseIdx k) r)) j + ((-1) * (aq p i j * xq (lookN p l) j) + (-(tq p l r k)) * (aq p i j * dq p l r j))) (p.costs.length + p.rows.length) :=
        sumR_congr fun j _ => by grind
      rw [e, sumR_add, sumR_add, sumR_mul, sumR_mul, k1, k2, k3]; grind
  have hdl : ∀ j, j ∈ l → dq p l r j = -(xq (lookN (qOf p r) l) j) := fun j hj => by unfold dq; rw [if_neg (show j ≠ r from fun e => hrl (by rw [← e]; exact hj))]
  refine ⟨⟨hp, hR, hD', nonneg_of fun j => ?_⟩, ?_⟩
  · rw [← nonneg_div hc'.px]
    show 0 ≤ xq (lookN p (insN (l.eraseIdx k) r)) j
    rw [hstep j]
    by_cases hjr : j = r
    · subst hjr
      rw [hc.offQ hrl]; unfold dq; rw [if_pos rfl]; grind
    · by_cases hjl : j ∈ l
      · rw [hdl j hjl]
        by_cases hpos : 0 < xq (lookN (qOf p r) l) j
        · obtain ⟨i, hi, rfl⟩ := mem_getD.1 hjl
          have := (hmin i hi hpos).1
          grind
        · have h1 := Rat.mul_nonneg ht0 (show 0 ≤ -(xq (lookN (qOf p r) l) j) by grind)
          have h2 := hxs0 j
          grind
      · rw [hc.offQ hjl]; unfold dq; rw [if_neg hjr, hq.offQ hjl]; grind
  · refine ⟨hrl, i1, hs_mem, hr.lt, ?_, fun j hj => hc.gainQ hj, fun j hj => hc.gainQ0 hj, (sign_div hc.pg).1.2 i2, ?_, fun i hi => dir_ker hp hr hd hrl i1 hi, ?_, ?_, ?_, ht0, ?_, ?_, fun j hj => hc.offQ hj, hstep⟩
    · intro j
      rw [mem_insN, mem_erase hr o1]
    · intro j hj
      have := i3 j hj
      apply Classical.byContradiction
      intro hn
      have := (sign_div hc.pg).1.1 (show 0 < gq (lookN p l) j by grind)
      omega
    · unfold dq; rw [if_pos rfl]
    · intro j hj hjr; unfold dq; rw [if_neg hjr, hq.offQ hj]; grind
    · rw [hds]; grind
    · rw [hds, ← ht]; grind
    · intro j hj hdj
      rw [hdl j hj] at hdj ⊢
      obtain ⟨i, hi, rfl⟩ := mem_getD.1 hj
      obtain ⟨m1, m2⟩ := hmin i hi (by grind)
      refine ⟨by grind, fun e => ?_⟩
      have hki := m2 (by grind)
      rcases Nat.lt_or_ge k i with h | h
      · have := hr.ne h hi; omega
      · have : k = i := by omega
        subst this; exact Nat.le_refl _

/-- The columns that a walk comes to. -/
def wk (p : PG) (l : List Nat) : Nat → Option (List Nat)
  | 0 => some l
  | n + 1 => (wk p l n).bind (nxtZ p)
theorem wk_ok {p : PG} {l : List Nat} (ho : OKb p l) : ∀ {n : Nat} {l' : List Nat}, wk p l n = some l' → OKb p l'
  | 0, l', h => by simp [wk] at h; exact h ▸ ho
  | n + 1, l', h => by
    simp only [wk, Option.bind_eq_some_iff] at h
    obtain ⟨l1, h1, h2⟩ := h
    obtain ⟨r, k, hs, rfl⟩ := stp_of h2
    exact (step_ok (wk_ok ho h1) hs).1
theorem wk_some {p : PG} {l : List Nat} {n : Nat} (h : wk p l n ≠ none) : ∀ {i}, i ≤ n → ∃ l', wk p l i = some l' := by
  intro i hi
  cases hw : wk p l i with
  | some l' => exact ⟨l', rfl⟩
  | none =>
    exfalso
    have : ∀ k, wk p l (i + k) = none := by
      intro k
      induction k with
      | zero => exact hw
      | succ k ih => rw [show i + (k + 1) = (i + k) + 1 by omega, wk, ih]; rfl
    have := this (n - i)
    rw [show i + (n - i) = n by omega] at this
    exact h this

set_option maxHeartbeats 1000000 in
/-- No columns come twice. -/
theorem wk_once {p : PG} {l : List Nat} (ho : OKb p l) {a b : Nat} (hab : a < b) {la lb : List Nat} (ha : wk p l a = some la) (hb : wk p l b = some lb) : la ≠ lb := by
  intro he
  have hall : ∀ i, ∃ l', i ≤ b → wk p l i = some l' := by
    intro i
    by_cases hi : i ≤ b
    · obtain ⟨l', h⟩ := wk_some (n := b) (by rw [hb]; simp) hi
      exact ⟨l', fun _ => h⟩
    · exact ⟨[], fun h => absurd h hi⟩
  let L : Nat → List Nat := fun i => Classical.choose (hall i)
  have hL : ∀ i, i ≤ b → wk p l i = some (L i) := fun i hi => Classical.choose_spec (hall i) hi
  have hst : ∀ i, ∃ r k, i < b → Stp p (L i) r k ∧ L (i + 1) = insN ((L i).eraseIdx k) r := by
    intro i
    by_cases hi : i < b
    · have h1 := hL (i + 1) (by omega)
      rw [wk, hL i (by omega)] at h1
      obtain ⟨r, k, h2, h3⟩ := stp_of h1
      exact ⟨r, k, fun _ => ⟨h2, h3⟩⟩
    · exact ⟨0, 0, fun h => absurd h hi⟩
  let R : Nat → Nat := fun i => Classical.choose (hst i)
  let K : Nat → Nat := fun i => Classical.choose (Classical.choose_spec (hst i))
  have hS : ∀ i, i < b → Stp p (L i) (R i) (K i) ∧ L (i + 1) = insN ((L i).eraseIdx (K i)) (R i) := fun i hi => Classical.choose_spec (Classical.choose_spec (hst i)) hi
  have ea : L a = la := by have := hL a (by omega); rw [ha] at this; simpa using this.symm
  have eb : L b = lb := by have := hL b (by omega); rw [hb] at this; simpa using this.symm
  have eab : L a = L b := by rw [ea, eb, he]
  refine bland (m := p.rows.length) (N := p.costs.length + p.rows.length) (A := aq p) (c := cq p) (L := L) (X := fun i => xq (lookN p (L i))) (G := fun i => gq (lookN p (L i)))
    (D := fun i => dq p (L i) (R i)) (Y := fun i => yq (lookN p (L i))) (R := R) (S := fun i => (L i).getD (K i) 0) (T := fun i => tq p (L i) (R i) (K i)) hab ?_ ?_ ?_ ?_
  · intro i h1 h2
    obtain ⟨h3, h4⟩ := hS i h2
    rw [h4]
    exact (step_ok (wk_ok ho (hL i (by omega))) h3).2
  · intro j; rw [eab]
  · intro j; show xq (lookN p (L b)) j = xq (lookN p (L a)) j; rw [eab]
  · intro i h1 h2 j hj
    obtain ⟨gx, gy, gg, hc⟩ := corn_of (wk_ok ho (hL i h2)).hp (wk_ok ho (hL i h2)).hr (wk_ok ho (hL i h2)).hd
    exact hc.offQ hj

/-! Each walk ends. -/
def code (l : List Nat) : Nat → Nat
  | 0 => 0
  | n + 1 => code l n + if n ∈ l then 2 ^ n else 0
theorem code_lt (l : List Nat) : ∀ n, code l n < 2 ^ n
  | 0 => by simp [code]
  | n + 1 => by
    have := code_lt l n
    rw [code, Nat.pow_succ]
    split <;> omega
theorem code_inj {l l' : List Nat} : ∀ {n : Nat}, code l n = code l' n → ∀ j, j < n → (j ∈ l ↔ j ∈ l')
  | 0, _, j, hj => by omega
  | n + 1, h, j, hj => by
    have h1 := code_lt l n
    have h2 := code_lt l' n
    rw [code, code] at h
    have hn : (n ∈ l ↔ n ∈ l') := by
      by_cases a : n ∈ l <;> by_cases b : n ∈ l' <;> simp only [a, b, if_true, if_false] at h ⊢ <;> omega
    have he : code l n = code l' n := by
      by_cases a : n ∈ l
      · rw [if_pos a, if_pos (hn.1 a)] at h; omega
      · rw [if_neg a, if_neg (fun q => a (hn.2 q))] at h; omega
    by_cases e : j = n
    · subst e; exact hn
    · exact code_inj he j (by omega)
theorem pw_ext : ∀ {l l' : List Nat}, l.Pairwise (· < ·) → l'.Pairwise (· < ·) → (∀ j, j ∈ l ↔ j ∈ l') → l = l'
  | [], [], _, _, _ => rfl
  | [], b :: l', _, _, h => by have := (h b).2 (by simp); simp at this
  | a :: l, [], _, _, h => by have := (h a).1 (by simp); simp at this
  | a :: l, b :: l', h1, h2, h => by
    rw [List.pairwise_cons] at h1 h2
    have e : a = b := by
      have ha := (h a).1 (by simp)
      have hb := (h b).2 (by simp)
      rcases List.mem_cons.1 ha with q | q
      · exact q
      · rcases List.mem_cons.1 hb with q' | q'
        · exact q'.symm
        · have := h1.1 b q'; have := h2.1 a q; omega
    subst e
    rw [pw_ext h1.2 h2.2 fun j => ?_]
    have := h j
    simp only [List.mem_cons] at this
    constructor
    · intro q
      rcases this.1 (Or.inr q) with e | e
      · have := h1.1 j q; omega
      · exact e
    · intro q
      rcases this.2 (Or.inr q) with e | e
      · have := h2.1 j q; omega
      · exact e
/-- A walk ends. -/
theorem wk_ends {p : PG} {l : List Nat} (ho : OKb p l) : wk p l (2 ^ (p.costs.length + p.rows.length)) = none := by
  apply Classical.byContradiction
  intro hn
  have hall := fun {i} => wk_some (p := p) (l := l) hn (i := i)
  obtain ⟨i, j, hij, hj, he⟩ := pig (2 ^ (p.costs.length + p.rows.length)) (fun i => code ((wk p l i).getD []) (p.costs.length + p.rows.length)) (fun i _ => code_lt _ _)
  obtain ⟨li, hi⟩ := hall (i := i) (by omega)
  obtain ⟨lj, hj'⟩ := hall (i := j) (by omega)
  rw [hi, hj'] at he
  simp only [Option.getD_some] at he
  have oi := wk_ok ho hi
  have oj := wk_ok ho hj'
  refine wk_once ho hij hi hj' (pw_ext oi.hr.pw oj.hr.pw fun q => ?_)
  by_cases hq : q < p.costs.length + p.rows.length
  · exact code_inj he q hq
  · exact ⟨fun h => absurd (oi.hr.lt q h) hq, fun h => absurd (oj.hr.lt q h) hq⟩
end Go.Proofs.Ytjcdkbalhleeeab
