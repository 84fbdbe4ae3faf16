/-
  Plain words for chapter 7: how far a corner stays best, by the program and by the document; and that both are one. No program in sight.
-/
import Derived.Test.YtjcdkbalhleeeaaCornL
namespace Go.Proofs.Ytjcdkbalhleeeaa

/-- An end of a span. -/
structure EN where
  op : Bool
  n : Int
  d : Int
deriving DecidableEq
/-- A span that becomes narrower. -/
structure NW where
  fr : EN
  to : EN
  no : Bool
deriving DecidableEq
def openE : EN := ⟨true, 0, 0⟩
def zeroE : EN := ⟨false, 0, 0⟩
def endE (n d : Int) : EN := ⟨false, frN n d, ptD [n] d⟩
/-- The program's step: a, and t times b, to be 0 or below. -/
def belowZ (s : NW) (a b : Int) : NW :=
  if b = 0 then ⟨s.fr, s.to, s.no || decide (0 < a)⟩
  else if 0 < b ∧ (s.to.op = true ∨ lessB (frN (-a) b) (ptD [-a] b) s.to.n s.to.d = true) then ⟨s.fr, endE (-a) b, s.no⟩
  else if b < 0 ∧ (s.fr.op = true ∨ lessB s.fr.n s.fr.d (frN (-a) b) (ptD [-a] b) = true) then ⟨endE (-a) b, s.to, s.no⟩
  else s
/-- The document's comparison. -/
def cmpZ (a b c d : Int) : Int := a * d - c * b
/-- The document's step: a, and t times b, to be 0 or above. -/
def aboveZ (s : NW) (a b : Int) : NW :=
  if b = 0 then ⟨s.fr, s.to, s.no || decide (a < 0)⟩
  else
    let s1 : NW := if 0 < b ∧ (s.fr.op = true ∨ 0 < cmpZ (frN (0 - a) b) (ptD [0 - a] b) s.fr.n s.fr.d) then ⟨endE (0 - a) b, s.to, s.no⟩ else s
    if b < 0 ∧ (s1.to.op = true ∨ cmpZ (frN (0 - a) b) (ptD [0 - a] b) s1.to.n s1.to.d < 0) then ⟨s1.fr, endE (0 - a) b, s1.no⟩ else s1
def wholeN : NW := ⟨openE, openE, false⟩
/-- All narrowed, of the first k. -/
def ofZ (f g : Nat → Int) (k : Nat) : NW := (List.range k).foldl (fun s j => belowZ s (f j) (g j)) wholeN
def upZ (f g : Nat → Int) (k : Nat) : NW := (List.range k).foldl (fun s j => aboveZ s (f j) (g j)) wholeN
/-- The program's ends: the error (4: none), and both. -/
def endsE (s : NW) : Int := if s.no = true ∨ (s.fr.op = false ∧ s.to.op = false ∧ lessB s.to.n s.to.d s.fr.n s.fr.d = true) then 4 else 0
def endsF (s : NW) : EN := if endsE s = 0 then s.fr else zeroE
def endsT (s : NW) : EN := if endsE s = 0 then s.to else zeroE
/-- The document's: is there one? -/
def someZ (s : NW) : Bool := !(s.no || (!s.fr.op && (!s.to.op && decide (0 < cmpZ s.fr.n s.fr.d s.to.n s.to.d))))

/-- An end that is open, or a fraction that may be. -/
def EOk (e : EN) : Prop := e.op = true ∨ mayB [e.n] e.d = true
def NOk (s : NW) : Prop := EOk s.fr ∧ EOk s.to

theorem less_cmp {a b c d : Int} (h1 : mayB [a] b = true) (h2 : mayB [c] d = true) : lessB a b c d = true ↔ cmpZ a b c d < 0 := by
  simp only [lessB, h1, h2, cmpZ, Bool.true_and, decide_eq_true_eq]; omega
theorem ptE_neg {n d : Int} (hd : d ≠ 0) : ptE [-n] (-d) = ptE [n] d ∧ frN (-n) (-d) = frN n d ∧ ptD [-n] (-d) = ptD [n] d := by
  have hs := sgcd_neg (n := n) hd
  have e1 : divs [-n] (sgcd [-n] (-d)) = divs [n] (sgcd [n] d) := by rw [hs]; simp [divs]
  have e2 : (-d).tdiv (sgcd [-n] (-d)) = d.tdiv (sgcd [n] d) := by rw [hs]; simp
  have h1 : ∀ x : Int, (smallB 4611686018427387904 [-x] = false ↔ smallB 4611686018427387904 [x] = false) := by
    intro x; rw [smallB_one, smallB_one]; simp; omega
  have hE : ptE [-n] (-d) = ptE [n] d := by
    unfold ptE
    rw [e1, e2]
    have : (-d = 0 ∨ smallB 4611686018427387904 [-n] = false ∨ smallB 4611686018427387904 [-d] = false) ↔ (d = 0 ∨ smallB 4611686018427387904 [n] = false ∨ smallB 4611686018427387904 [d] = false) := by
      rw [h1, h1]; constructor <;> (rintro (q | q | q); exact Or.inl (by omega); exact Or.inr (Or.inl q); exact Or.inr (Or.inr q))
    simp only [this]
  refine ⟨hE, ?_, ?_⟩
  · unfold frN ptN; rw [hE, e1]
  · unfold ptD; rw [hE, e2]
theorem may_end {n d : Int} (h : ptE [n] d = 0) : mayB [frN n d] (ptD [n] d) = true := by
  have hN : ptN [n] d = [frN n d] := by unfold frN ptN; rw [if_pos h]; simp [divs]
  have := mayB_pt h
  rwa [hN] at this

/-- Both steps are one. -/
theorem step_one {s : NW} {a b : Int} (hs : NOk s) (h : b ≠ 0 → ptE [-a] b = 0) : aboveZ s (0 - a) (0 - b) = belowZ s a b ∧ NOk (belowZ s a b) := by
  obtain ⟨h1, h2⟩ := hs
  by_cases hb : b = 0
  · subst hb
    unfold aboveZ belowZ
    simp only [Int.sub_zero, if_true]
    refine ⟨?_, h1, h2⟩
    congr 2
    rw [decide_eq_decide]; omega
  have hE := h hb
  obtain ⟨n1, n2, n3⟩ := ptE_neg (n := -a) hb
  have eN : frN (0 - (0 - a)) (0 - b) = frN (-a) b := by rw [← n2]; congr 1 <;> omega
  have eD : ptD [0 - (0 - a)] (0 - b) = ptD [-a] b := by rw [← n3]; congr 1 <;> first | omega | (congr 1; omega)
  have hm := may_end hE
  have eE : endE (0 - (0 - a)) (0 - b) = endE (-a) b := by unfold endE; rw [eN, eD]
  have cmp1 : (s.to.op = true ∨ lessB (frN (-a) b) (ptD [-a] b) s.to.n s.to.d = true) ↔ (s.to.op = true ∨ cmpZ (frN (-a) b) (ptD [-a] b) s.to.n s.to.d < 0) := by
    rcases h2 with q | q
    · simp [q]
    · rw [less_cmp hm q]
  have cmp2 : (s.fr.op = true ∨ lessB s.fr.n s.fr.d (frN (-a) b) (ptD [-a] b) = true) ↔ (s.fr.op = true ∨ 0 < cmpZ (frN (-a) b) (ptD [-a] b) s.fr.n s.fr.d) := by
    rcases h1 with q | q
    · simp [q]
    · rw [less_cmp q hm]; unfold cmpZ; constructor <;> (rintro (w | w); exact Or.inl w; exact Or.inr (by omega))
  have hok : EOk (endE (-a) b) := Or.inr hm
  unfold aboveZ belowZ
  rw [if_neg (by omega), if_neg hb]
  simp only [eN, eD, eE]
  simp only [cmp1, cmp2]
  by_cases hp : 0 < b
  · have hb1 : ¬ 0 < 0 - b := by omega
    have hb2 : 0 - b < 0 := by omega
    have hb3 : ¬ b < 0 := by omega
    simp only [hp, hb1, hb2, hb3, true_and, false_and, if_false]
    by_cases c : s.to.op = true ∨ cmpZ (frN (-a) b) (ptD [-a] b) s.to.n s.to.d < 0
    · rw [if_pos c]; exact ⟨h1, hok⟩
    · rw [if_neg c]; exact ⟨h1, h2⟩
  · have hb1 : 0 < 0 - b := by omega
    have hb2 : ¬ 0 - b < 0 := by omega
    have hb3 : b < 0 := by omega
    simp only [hp, hb1, hb2, hb3, true_and, false_and, if_false]
    by_cases c : s.fr.op = true ∨ 0 < cmpZ (frN (-a) b) (ptD [-a] b) s.fr.n s.fr.d
    · rw [if_pos c]; exact ⟨hok, h2⟩
    · rw [if_neg c]; exact ⟨h1, h2⟩
theorem ofZ_succ (f g : Nat → Int) (k : Nat) : ofZ f g (k + 1) = belowZ (ofZ f g k) (f k) (g k) := by unfold ofZ; rw [List.range_succ, List.foldl_append]; rfl
theorem upZ_succ (f g : Nat → Int) (k : Nat) : upZ f g (k + 1) = aboveZ (upZ f g k) (f k) (g k) := by unfold upZ; rw [List.range_succ, List.foldl_append]; rfl
theorem of_up {f g f' g' : Nat → Int} {k : Nat} (hf : ∀ j, j < k → f' j = 0 - f j) (hg : ∀ j, j < k → g' j = 0 - g j) (hp : ∀ j, j < k → g j ≠ 0 → ptE [-(f j)] (g j) = 0) : upZ f' g' k = ofZ f g k ∧ NOk (ofZ f g k) := by
  induction k with
  | zero => exact ⟨rfl, Or.inl rfl, Or.inl rfl⟩
  | succ k ih =>
    obtain ⟨e, hok⟩ := ih (fun j hj => hf j (by omega)) (fun j hj => hg j (by omega)) (fun j hj => hp j (by omega))
    rw [upZ_succ, ofZ_succ, e, hf k (by omega), hg k (by omega)]
    exact step_one hok (hp k (by omega))
theorem ends_some {s : NW} (h : NOk s) : endsE s = 0 ↔ someZ s = true := by
  obtain ⟨h1, h2⟩ := h
  unfold endsE someZ
  cases hn : s.no
  · cases hf : s.fr.op
    · cases ht : s.to.op
      · have m1 : mayB [s.fr.n] s.fr.d = true := by rcases h1 with q | q; rw [hf] at q; simp at q; exact q
        have m2 : mayB [s.to.n] s.to.d = true := by rcases h2 with q | q; rw [ht] at q; simp at q; exact q
        have := less_cmp m2 m1
        simp only [this]
        unfold cmpZ
        simp
        try omega
      · simp
    · simp
  · simp

/-! What a span says. -/
/-- A number n / d lies within a span. -/
def inE (s : NW) (n d : Int) : Prop := s.no = false ∧ (s.fr.op = true ∨ s.fr.n * d ≤ n * s.fr.d) ∧ (s.to.op = true ∨ n * s.to.d ≤ s.to.n * d)
theorem frac_pos {n d : Int} (h : ptE [n] d = 0) : 0 < ptD [n] d ∧ frN n d * d = n * ptD [n] d := ⟨(fr_cross' h).2, (fr_cross' h).1⟩
where fr_cross' {n d : Int} (h : ptE [n] d = 0) : frN n d * d = n * ptD [n] d ∧ 0 < ptD [n] d := by
        have h0 : d ≠ 0 := fun e => by subst e; simp [ptE] at h
        rw [frN_eq h, ptD_eq h]
        exact ⟨sgcd_cross h0, sgcd_sign h0⟩
def EPos (e : EN) : Prop := e.op = true ∨ 0 < e.d
def NPos (s : NW) : Prop := EPos s.fr ∧ EPos s.to
theorem NOk.pos {s : NW} (h : NOk s) : NPos s := by
  have key : ∀ e, EOk e → EPos e := fun e h => by
    rcases h with q | q
    · exact Or.inl q
    · right
      simp only [mayB, rightB, Bool.and_eq_true, decide_eq_true_eq] at q
      omega
  exact ⟨key _ h.1, key _ h.2⟩
/-- a d + n b ≤ 0, held against the fraction of -a and b. -/
theorem at_end {a b n d : Int} (hE : ptE [-a] b = 0) :
    (0 < b → (a * d + n * b ≤ 0 ↔ n * ptD [-a] b ≤ frN (-a) b * d)) ∧ (b < 0 → (a * d + n * b ≤ 0 ↔ frN (-a) b * d ≤ n * ptD [-a] b)) := by
  obtain ⟨hp, hc⟩ := frac_pos hE
  generalize frN (-a) b = N at *
  generalize ptD [-a] b = D at *
  -- N b = -a D
  have key : (a * d + n * b) * D = (n * D - N * d) * b := by grind
  constructor
  · intro hb
    constructor
    · intro h
      have h1 : (a * d + n * b) * D ≤ 0 := Int.mul_nonpos_of_nonpos_of_nonneg h (by omega)
      rw [key] at h1
      by_cases q : n * D ≤ N * d
      · exact q
      · have := Int.mul_pos (show 0 < n * D - N * d by omega) hb; omega
    · intro h
      have h1 : (n * D - N * d) * b ≤ 0 := Int.mul_nonpos_of_nonpos_of_nonneg (by omega) (by omega)
      rw [← key] at h1
      by_cases q : a * d + n * b ≤ 0
      · exact q
      · have := Int.mul_pos (show 0 < a * d + n * b by omega) hp; omega
  · intro hb
    constructor
    · intro h
      have h1 : (a * d + n * b) * D ≤ 0 := Int.mul_nonpos_of_nonpos_of_nonneg h (by omega)
      rw [key] at h1
      by_cases q : N * d ≤ n * D
      · exact q
      · have := Int.mul_pos_of_neg_of_neg (show n * D - N * d < 0 by omega) hb; omega
    · intro h
      have h1 : (n * D - N * d) * b ≤ 0 := Int.mul_nonpos_of_nonneg_of_nonpos (by omega) (by omega)
      rw [← key] at h1
      by_cases q : a * d + n * b ≤ 0
      · exact q
      · have := Int.mul_pos (show 0 < a * d + n * b by omega) hp; omega
theorem cross_le {a b c d n e : Int} (hb : 0 < b) (hd : 0 < d) (he : 0 < e) : a * d ≤ c * b → n * b ≤ a * e → n * d ≤ c * e := by
  intro h1 h2
  have k1 : n * d * b ≤ c * e * b := by
    have a1 := Int.mul_le_mul_of_nonneg_right h2 (show 0 ≤ d by omega)
    have a2 := Int.mul_le_mul_of_nonneg_right h1 (show 0 ≤ e by omega)
    have e1 : n * b * d = n * d * b := by ac_rfl
    have e2 : a * e * d = a * d * e := by ac_rfl
    have e3 : c * b * e = c * e * b := by ac_rfl
    omega
  exact Int.le_of_mul_le_mul_right k1 hb
theorem step_in {s : NW} {a b n d : Int} (hs : NOk s) (h : b ≠ 0 → ptE [-a] b = 0) (hd : 0 < d) : inE (belowZ s a b) n d ↔ inE s n d ∧ a * d + n * b ≤ 0 := by
  have hP := hs.pos
  obtain ⟨h1, h2⟩ := hs
  by_cases hb : b = 0
  · subst hb
    unfold belowZ inE
    simp only [if_true, Bool.or_eq_false_iff, decide_eq_false_iff_not, Int.mul_zero, Int.add_zero]
    have : (¬ 0 < a) ↔ a * d ≤ 0 := by
      constructor
      · intro q; exact Int.mul_nonpos_of_nonpos_of_nonneg (by omega) (by omega)
      · intro q r; have := Int.mul_pos r hd; omega
    rw [this]
    constructor
    · rintro ⟨⟨x, y⟩, z⟩; exact ⟨⟨x, z⟩, y⟩
    · rintro ⟨⟨x, z⟩, y⟩; exact ⟨⟨x, y⟩, z⟩
  have hE := h hb
  have hm := may_end hE
  obtain ⟨hp, _⟩ := frac_pos hE
  obtain ⟨k1, k2⟩ := at_end (n := n) (d := d) hE
  unfold belowZ
  rw [if_neg hb]
  by_cases hpos : 0 < b
  · have hnn : ¬ b < 0 := by omega
    simp only [hpos, hnn, true_and, false_and, if_false]
    rw [k1 hpos]
    by_cases c : s.to.op = true ∨ lessB (frN (-a) b) (ptD [-a] b) s.to.n s.to.d = true
    · rw [if_pos c]
      unfold inE endE
      simp only [Bool.false_eq_true, false_or]
      constructor
      · rintro ⟨x, y, z⟩
        refine ⟨⟨x, y, ?_⟩, z⟩
        rcases c with c | c
        · exact Or.inl c
        · rcases h2 with q | q
          · exact Or.inl q
          · right
            rw [less_cmp hm q] at c
            have hq : 0 < s.to.d := by simp only [mayB, rightB, Bool.and_eq_true, decide_eq_true_eq] at q; omega
            exact cross_le hp hq hd (by unfold cmpZ at c; omega) z
      · rintro ⟨⟨x, y, _⟩, z⟩; exact ⟨x, y, z⟩
    · rw [if_neg c]
      unfold inE
      constructor
      · rintro ⟨x, y, z⟩
        refine ⟨⟨x, y, z⟩, ?_⟩
        have c1 : ¬ s.to.op = true := fun q => c (Or.inl q)
        rcases z with z | z
        · exact absurd z c1
        · have q : mayB [s.to.n] s.to.d = true := by rcases h2 with q | q; exact absurd q c1; exact q
          have hq : 0 < s.to.d := by rcases hP.2 with w | w; exact absurd w c1; exact w
          have c2 : ¬ cmpZ (frN (-a) b) (ptD [-a] b) s.to.n s.to.d < 0 := fun w => c (Or.inr ((less_cmp hm q).2 w))
          exact cross_le hq hp hd (by unfold cmpZ at c2; omega) z
      · rintro ⟨x, _⟩; exact x
  · have hneg : b < 0 := by omega
    simp only [hpos, hneg, true_and, false_and, if_false]
    rw [k2 hneg]
    have cl : ∀ {a b c d n e : Int}, 0 < b → 0 < d → 0 < e → c * b ≤ a * d → a * e ≤ n * b → c * e ≤ n * d := by
      intro a b c d n e hb hd he h1 h2
      have k1 : c * e * b ≤ n * d * b := by
        have a1 := Int.mul_le_mul_of_nonneg_right h2 (show 0 ≤ d by omega)
        have a2 := Int.mul_le_mul_of_nonneg_right h1 (show 0 ≤ e by omega)
        have e1 : n * b * d = n * d * b := by ac_rfl
        have e2 : a * e * d = a * d * e := by ac_rfl
        have e3 : c * b * e = c * e * b := by ac_rfl
        omega
      exact Int.le_of_mul_le_mul_right k1 hb
    by_cases c : s.fr.op = true ∨ lessB s.fr.n s.fr.d (frN (-a) b) (ptD [-a] b) = true
    · rw [if_pos c]
      unfold inE endE
      simp only [Bool.false_eq_true, false_or]
      constructor
      · rintro ⟨x, y, z⟩
        refine ⟨⟨x, ?_, z⟩, y⟩
        rcases c with c | c
        · exact Or.inl c
        · rcases h1 with q | q
          · exact Or.inl q
          · right
            rw [less_cmp q hm] at c
            have hq : 0 < s.fr.d := by simp only [mayB, rightB, Bool.and_eq_true, decide_eq_true_eq] at q; omega
            exact cl hp hq hd (by unfold cmpZ at c; omega) y
      · rintro ⟨⟨x, _, z⟩, y⟩; exact ⟨x, y, z⟩
    · rw [if_neg c]
      unfold inE
      constructor
      · rintro ⟨x, y, z⟩
        refine ⟨⟨x, y, z⟩, ?_⟩
        have c1 : ¬ s.fr.op = true := fun q => c (Or.inl q)
        rcases y with y | y
        · exact absurd y c1
        · have q : mayB [s.fr.n] s.fr.d = true := by rcases h1 with q | q; exact absurd q c1; exact q
          have hq : 0 < s.fr.d := by rcases hP.1 with w | w; exact absurd w c1; exact w
          have c2 : ¬ cmpZ s.fr.n s.fr.d (frN (-a) b) (ptD [-a] b) < 0 := fun w => c (Or.inr ((less_cmp q hm).2 w))
          exact cl hq hp hd (by unfold cmpZ at c2; omega) y
      · rintro ⟨x, _⟩; exact x
theorem of_in {f g : Nat → Int} {n d : Int} (hd : 0 < d) {k : Nat} (hp : ∀ j, j < k → g j ≠ 0 → ptE [-(f j)] (g j) = 0) : inE (ofZ f g k) n d ↔ ∀ j, j < k → f j * d + n * g j ≤ 0 := by
  induction k with
  | zero => simp [ofZ, inE, wholeN, openE]
  | succ k ih =>
    have hok := (of_up (f := f) (g := g) (f' := fun j => 0 - f j) (g' := fun j => 0 - g j) (k := k) (fun _ _ => rfl) (fun _ _ => rfl) (fun j hj => hp j (by omega))).2
    rw [ofZ_succ, step_in hok (hp k (by omega)) hd, ih fun j hj => hp j (by omega)]
    constructor
    · rintro ⟨h1, h2⟩ j hj
      by_cases e : j = k
      · subst e; exact h2
      · exact h1 j (by omega)
    · intro h; exact ⟨fun j hj => h j (by omega), h k (by omega)⟩
/-- Within both ends, where there are such: what the program tells. -/
theorem ends_in {s : NW} (hs : NOk s) {n d : Int} (hd : 0 < d) : (endsE s = 0 ∧ ((endsF s).op = true ∨ 0 ≤ cmpZ n d (endsF s).n (endsF s).d) ∧ ((endsT s).op = true ∨ cmpZ n d (endsT s).n (endsT s).d ≤ 0)) ↔ inE s n d := by
  have hP := hs.pos
  have hsm := ends_some hs
  by_cases h0 : endsE s = 0
  · unfold endsF endsT
    rw [if_pos h0, if_pos h0]
    unfold inE cmpZ
    have hno : s.no = false := by
      unfold endsE at h0
      split at h0
      · omega
      · rename_i q; cases hh : s.no; rfl; exact absurd (Or.inl hh) q
    constructor
    · rintro ⟨_, x, y⟩
      exact ⟨hno, x.imp id (fun q => by omega), y.imp id (fun q => by omega)⟩
    · rintro ⟨_, x, y⟩
      exact ⟨h0, x.imp id (fun q => by omega), y.imp id (fun q => by omega)⟩
  · refine ⟨fun h => absurd h.1 h0, fun h => ?_⟩
    exfalso
    unfold inE at h
    obtain ⟨x, y, z⟩ := h
    unfold endsE at h0
    split at h0
    rotate_left
    · exact h0 rfl
    rename_i q
    rcases q with q | ⟨q1, q2, q3⟩
    · rw [x] at q; simp at q
    · rw [q1] at y; rw [q2] at z
      simp at y z
      obtain ⟨⟨o1, o2⟩⟩ := (show Nonempty (EOk s.fr ∧ EOk s.to) from ⟨hs.1, hs.2⟩)
      have m1 : mayB [s.fr.n] s.fr.d = true := by rcases o1 with w | w; rw [q1] at w; simp at w; exact w
      have m2 : mayB [s.to.n] s.to.d = true := by rcases o2 with w | w; rw [q2] at w; simp at w; exact w
      rw [less_cmp m2 m1] at q3
      unfold cmpZ at q3
      have d1 : 0 < s.fr.d := by rcases hP.1 with w | w; rw [q1] at w; simp at w; exact w
      have d2 : 0 < s.to.d := by rcases hP.2 with w | w; rw [q2] at w; simp at w; exact w
      -- fr d ≤ n frd ; n tod ≤ to d ; to frd < fr tod
      have k1 := Int.mul_le_mul_of_nonneg_right y (show 0 ≤ s.to.d by omega)
      have k2 := Int.mul_le_mul_of_nonneg_right z (show 0 ≤ s.fr.d by omega)
      have k3 := Int.mul_lt_mul_of_pos_right (show s.to.n * s.fr.d < s.fr.n * s.to.d by omega) hd
      have e1 : s.fr.n * d * s.to.d = s.fr.n * s.to.d * d := by ac_rfl
      have e2 : n * s.fr.d * s.to.d = n * s.to.d * s.fr.d := by ac_rfl
      have e3 : s.to.n * d * s.fr.d = s.to.n * s.fr.d * d := by ac_rfl
      omega
end Go.Proofs.Ytjcdkbalhleeeaa
