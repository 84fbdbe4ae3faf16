/-
  Contracts of functions and plain laws that later parts of the proof use. The conditions stand in each theorem.
-/
import Derived.Sort.AssemblyPlain
namespace Go.Proofs.YtjcdkbalhleeeaaGreatDoor
open Go.Sort
variable {α : Type} [Inhabited α]
def NoTwo (d : Array α) : Prop := ∀ i j, i < d.size → j < d.size → i ≠ j → d[i]! ≠ d[j]!
theorem NoTwo.nodup {d : Array α} (h : NoTwo d) : d.toList.Nodup := by
 rw [List.Nodup, List.pairwise_iff_getElem]
 intro i j hi hj hij
 have := h i j (by simpa using hi) (by simpa using hj) (by omega)
 rw [getElem!_pos d i (by simpa using hi), getElem!_pos d j (by simpa using hj)] at this
 simpa using this
theorem NoTwo.of {d : Array α} (h : d.toList.Nodup) : NoTwo d := by
 intro i j hi hj hij
 rw [List.Nodup, List.pairwise_iff_getElem] at h
 rw [getElem!_pos d i hi, getElem!_pos d j hj]
 rcases Nat.lt_or_gt_of_ne hij with q | q
 ·have := h i j (by simpa using hi) (by simpa using hj) q
  simpa using this
 ·have := h j i (by simpa using hj) (by simpa using hi) q
  intro e
  exact this (by simpa using e.symm)
theorem perm_all {a b : Nat} {d d' : Array α} (h : PermIn a b d d') (hab : a ≤ b) (hb : b ≤ d.size) : d'.toList.Perm d.toList := by
 have h2 := permIn_mono d d' a b 0 d.size (Nat.zero_le _) hb (Nat.le_refl _) h
 have := h2.2.2
 rw [Array.extract_size] at this
 rw [show d'.extract 0 d.size = d' by rw [← h2.1]; exact Array.extract_size] at this
 exact this
theorem NoTwo.perm {a b : Nat} {d d' : Array α} (h : NoTwo d) (hp : PermIn a b d d') (hab : a ≤ b) (hb : b ≤ d.size) : NoTwo d' :=
 NoTwo.of ((perm_all hp hab hb).nodup_iff.2 h.nodup)
theorem NoTwo.swp {d : Array α} (h : NoTwo d) {i j : Nat} (hi : i < d.size) (hj : j < d.size) : NoTwo (swp d i j) :=
 h.perm (swp_permIn d 0 d.size i j (Nat.zero_le _) hi (Nat.zero_le _) hj (Nat.le_refl _)) (Nat.zero_le _) (Nat.le_refl _)
def Alike (lt lt' : α → α → Bool) : Prop := ∀ x y, x ≠ y → lt x y = lt' x y
variable {lt lt' : α → α → Bool}
theorem NoTwo.les {d : Array α} (h : NoTwo d) (E : Alike lt lt') {i j : Nat} (hi : i < d.size) (hj : j < d.size) (hij : i ≠ j) : lt d[i]! d[j]! = lt' d[i]! d[j]! := E _ _ (h i j hi hj hij)
theorem ins_in (E : Alike lt lt') (a : Nat) : ∀ (j : Nat) (d : Array α), NoTwo d → (j < d.size ∨ j = 0) → insInner lt a j d = insInner lt' a j d ∧ NoTwo (insInner lt a j d) ∧ (insInner lt a j d).size = d.size
 | 0, d, h, _ => ⟨by simp [insInner], by simpa [insInner] using h, by simp [insInner]⟩
 | j + 1, d, h, hj => by
  have hj' : j + 1 < d.size := by omega
  have e := h.les E hj' (show j < d.size by omega) (by omega)
  have hs := h.swp hj' (show j < d.size by omega)
  have ih := ins_in E a j (swp d (j + 1) j) hs (Or.inl (by rw [size_swp]; omega))
  unfold insInner
  rw [e]
  split
  ·exact ⟨ih.1, ih.2.1, by rw [ih.2.2, size_swp]⟩
  ·exact ⟨rfl, h, rfl⟩
theorem ins_out (E : Alike lt lt') (a b : Nat) : ∀ (n i : Nat) (d : Array α), b - i = n → NoTwo d → b ≤ d.size → insOuter lt a b i d = insOuter lt' a b i d
 | n, i, d, hn, h, hb => by
  rw [insOuter, insOuter.eq_1 lt']
  split
  ·next hi =>
   have q := ins_in E a i d h (Or.inl (by omega))
   rw [← q.1]
   cases n with
   | zero => omega
   | succ n => exact ins_out E a b n (i + 1) _ (by omega) q.2.1 (by rw [q.2.2]; exact hb)
  ·rfl
theorem insertionSort_alike (E : Alike lt lt') {d : Array α} (h : NoTwo d) {a b : Nat} (hb : b ≤ d.size) : insertionSort lt d a b = insertionSort lt' d a b :=
 ins_out E a b _ _ _ rfl h hb
theorem sift_alike (E : Alike lt lt') (hi first : Nat) : ∀ (n root : Nat) (d : Array α), hi - root ≤ n → NoTwo d → first + hi ≤ d.size →
    siftDown lt hi first root d = siftDown lt' hi first root d ∧ NoTwo (siftDown lt hi first root d) ∧ (siftDown lt hi first root d).size = d.size
 | n, root, d, hn, h, hb => by
  rw [siftDown, siftDown.eq_1 lt']
  by_cases h1 : 2 * root + 1 ≥ hi
  ·rw [dif_pos h1, dif_pos h1]; exact ⟨rfl, h, rfl⟩
  ·rw [dif_neg h1, dif_neg h1]
   have hL : first + (2 * root + 1) < d.size := by omega
   have hR : first + root < d.size := by omega
   have e2 := h.les E hR hL (by omega)
   cases n with
   | zero => omega
   | succ n =>
    by_cases h2 : 2 * root + 1 + 1 < hi
    ·have hQ : first + (2 * root + 1) + 1 < d.size := by omega
     have e1 := h.les E hL hQ (by omega)
     have e3 := h.les E hR (show first + (2 * root + 2) < d.size by omega) (by omega)
     have g1 := sift_alike E hi first n (2 * root + 2) (swp d (first + root) (first + (2 * root + 2))) (by omega) (h.swp hR (by omega)) (by rw [size_swp]; exact hb)
     have g2 := sift_alike E hi first n (2 * root + 1) (swp d (first + root) (first + (2 * root + 1))) (by omega) (h.swp hR hL) (by rw [size_swp]; exact hb)
     rw [size_swp] at g1 g2
     rw [e1, e2, e3]
     repeat' split
     all_goals first | exact ⟨rfl, h, rfl⟩ | exact g1 | exact g2
    ·have g2 := sift_alike E hi first n (2 * root + 1) (swp d (first + root) (first + (2 * root + 1))) (by omega) (h.swp hR hL) (by rw [size_swp]; exact hb)
     rw [size_swp] at g2
     have hz : decide (2 * root + 1 + 1 < hi) = false := decide_eq_false h2
     simp only [hz, Bool.false_and, Bool.false_eq_true, if_false]
     rw [e2]
     split
     ·exact ⟨rfl, h, rfl⟩
     ·exact g2
theorem build_alike (E : Alike lt lt') (hi first : Nat) : ∀ (k : Nat) (d : Array α), NoTwo d → first + hi ≤ d.size →
    heapBuild lt hi first k d = heapBuild lt' hi first k d ∧ NoTwo (heapBuild lt hi first k d) ∧ (heapBuild lt hi first k d).size = d.size
 | 0, d, h, _ => ⟨rfl, h, rfl⟩
 | k + 1, d, h, hb => by
  have g := sift_alike E hi first _ k d (Nat.le_refl _) h hb
  have q := build_alike E hi first k _ g.2.1 (by rw [g.2.2]; exact hb)
  simp only [heapBuild]
  rw [← g.1]
  exact ⟨q.1, q.2.1, q.2.2.trans g.2.2⟩
theorem pop_alike (E : Alike lt lt') (first : Nat) : ∀ (k : Nat) (d : Array α), NoTwo d → first + k ≤ d.size → heapPop lt first k d = heapPop lt' first k d
 | 0, d, h, _ => rfl
 | k + 1, d, h, hb => by
  have g := sift_alike E k first _ 0 (swp d first (first + k)) (Nat.le_refl _) (h.swp (by omega) (by omega)) (by rw [size_swp]; omega)
  simp only [heapPop]
  rw [← g.1]
  exact pop_alike E first k _ g.2.1 (by rw [g.2.2, size_swp]; omega)
theorem heapSort_alike (E : Alike lt lt') {d : Array α} (h : NoTwo d) {a b : Nat} (hab : a ≤ b) (hb : b ≤ d.size) : heapSort lt d a b = heapSort lt' d a b := by
 unfold heapSort
 have g := build_alike E (b - a) a ((b - a - 1) / 2 + 1) d h (by omega)
 rw [← g.1]
 exact pop_alike E a (b - a) _ g.2.1 (by rw [g.2.2]; omega)
theorem scanUp_alike {p q : α → Bool} {d : Array α} {j : Nat} : ∀ (n i : Nat), j + 1 - i = n → (∀ k, i ≤ k → k ≤ j → p d[k]! = q d[k]!) → scanUp p d j i = scanUp q d j i ∧ i ≤ scanUp p d j i
 | n, i, hn, h => by
  rw [scanUp, scanUp.eq_1 q]
  by_cases hi : i ≤ j
  ·rw [h i (Nat.le_refl _) hi]
   cases n with
   | zero => omega
   | succ n =>
    have ih := scanUp_alike n (i + 1) (by omega) (fun k hk => h k (by omega))
    split
    ·exact ⟨ih.1, by omega⟩
    ·exact ⟨rfl, Nat.le_refl _⟩
  ·simp [hi]
theorem scanDown_alike {p q : α → Bool} {d : Array α} {i : Nat} : ∀ (j : Nat), (∀ k, i ≤ k → k ≤ j → p d[k]! = q d[k]!) → scanDown p d i j = scanDown q d i j ∧ scanDown p d i j ≤ j
 | 0, h => ⟨rfl, Nat.le_refl _⟩
 | j + 1, h => by
  rw [scanDown, scanDown]
  have ih := scanDown_alike j (fun k a b => h k a (by omega))
  by_cases hi : i ≤ j + 1
  ·rw [h (j + 1) hi (Nat.le_refl _)]
   split
   ·exact ⟨ih.1, by omega⟩
   ·exact ⟨rfl, Nat.le_refl _⟩
  ·simp [hi]
theorem part_alike (E : Alike lt lt') (a : Nat) : ∀ (n i j : Nat) (d : Array α), j + 1 - i ≤ n → NoTwo d → a < i → j < d.size → a < d.size → partLoop lt a i j d = partLoop lt' a i j d
 | n, i, j, d, hn, h, hi, hj, ha => by
  rw [partLoop, partLoop.eq_1 lt']
  have s1 := scanUp_alike (p := fun x => lt x d[a]!) (q := fun x => lt' x d[a]!) (d := d) (j := j) _ i rfl (fun k h1 h2 => h.les E (by omega) ha (by omega))
  rw [← s1.1]
  generalize scanUp (fun x => lt x d[a]!) d j i = i2 at s1 ⊢
  have s2 := scanDown_alike (p := fun x => !lt x d[a]!) (q := fun x => !lt' x d[a]!) (d := d) (i := i2) j (fun k h1 h2 => by rw [h.les E (show k < d.size by omega) ha (by omega)])
  show (match scanDown (fun x => !lt x d[a]!) d i2 j with | j2 => _) = (match scanDown (fun x => !lt' x d[a]!) d i2 j with | j2 => _)
  rw [← s2.1]
  generalize scanDown (fun x => !lt x d[a]!) d i2 j = j2 at s2 ⊢
  dsimp only
  split
  ·rfl
  ·split
   ·next h3 h4 =>
    cases n with
    | zero => omega
    | succ n => exact part_alike E a n (i2 + 1) (j2 - 1) _ (by omega) (h.swp (by omega) (by omega)) (by omega) (by rw [size_swp]; omega) (by rw [size_swp]; omega)
   ·rfl
theorem partition_alike (E : Alike lt lt') {d : Array α} (h : NoTwo d) {a b pivot : Nat} (h1 : a ≤ pivot) (h2 : pivot < b) (hb : b ≤ d.size) : partition lt d a b pivot = partition lt' d a b pivot := by
 unfold partition
 have h' := h.swp (show a < d.size by omega) (show pivot < d.size by omega)
 have hz : (swp d a pivot).size = d.size := size_swp _ _ _
 generalize swp d a pivot = d1 at h' hz ⊢
 dsimp only
 have s1 := scanUp_alike (p := fun x => lt x d1[a]!) (q := fun x => lt' x d1[a]!) (d := d1) (j := b - 1) _ (a + 1) rfl (fun k g1 g2 => h'.les E (by omega) (by omega) (by omega))
 rw [← s1.1]
 generalize scanUp (fun x => lt x d1[a]!) d1 (b - 1) (a + 1) = i2 at s1 ⊢
 have s2 := scanDown_alike (p := fun x => !lt x d1[a]!) (q := fun x => !lt' x d1[a]!) (d := d1) (i := i2) (b - 1) (fun k g1 g2 => by rw [h'.les E (show k < d1.size by omega) (show a < d1.size by omega) (by omega)])
 rw [← s2.1]
 generalize scanDown (fun x => !lt x d1[a]!) d1 i2 (b - 1) = j2 at s2 ⊢
 split
 ·rfl
 ·next h3 =>
  rw [part_alike E a _ (i2 + 1) (j2 - 1) _ (Nat.le_refl _) (h'.swp (show i2 < d1.size by omega) (show j2 < d1.size by omega)) (by omega) (by rw [size_swp]; omega) (by rw [size_swp]; omega)]
theorem scanS_alike (E : Alike lt lt') {d : Array α} (h : NoTwo d) {b : Nat} (hb : b ≤ d.size) : ∀ (n i : Nat), b - i = n → 0 < i → scanSorted lt d b i = scanSorted lt' d b i ∧ i ≤ scanSorted lt d b i ∧ (scanSorted lt d b i ≤ b ∨ scanSorted lt d b i = i)
 | n, i, hn, h0 => by
  rw [scanSorted, scanSorted.eq_1 lt']
  by_cases hi : i < b
  ·rw [h.les E (show i < d.size by omega) (show i - 1 < d.size by omega) (by omega)]
   cases n with
   | zero => omega
   | succ n =>
    have ih := scanS_alike E h hb n (i + 1) (by omega) (by omega)
    split
    ·exact ⟨ih.1, by omega, by omega⟩
    ·exact ⟨rfl, Nat.le_refl _, Or.inr rfl⟩
  ·simp [hi]
theorem shD_alike (E : Alike lt lt') : ∀ (j : Nat) (d : Array α), NoTwo d → j < d.size → shiftDown lt j d = shiftDown lt' j d ∧ NoTwo (shiftDown lt j d) ∧ (shiftDown lt j d).size = d.size
 | 0, d, h, _ => ⟨rfl, h, rfl⟩
 | j + 1, d, h, hj => by
  have ih := shD_alike E j (swp d (j + 1) j) (h.swp hj (by omega)) (by rw [size_swp]; omega)
  rw [size_swp] at ih
  rw [shiftDown, shiftDown]
  rw [h.les E hj (show j < d.size by omega) (by omega)]
  split
  ·exact ⟨rfl, h, rfl⟩
  ·exact ih
theorem shU_alike (E : Alike lt lt') (b : Nat) : ∀ (n j : Nat) (d : Array α), b - j = n → 0 < j → b ≤ d.size → NoTwo d → shiftUp lt b j d = shiftUp lt' b j d ∧ NoTwo (shiftUp lt b j d) ∧ (shiftUp lt b j d).size = d.size
 | n, j, d, hn, h0, hb, h => by
  rw [shiftUp, shiftUp.eq_1 lt']
  by_cases hj : j < b
  ·rw [if_pos hj, if_pos hj]
   rw [h.les E (show j < d.size by omega) (show j - 1 < d.size by omega) (by omega)]
   cases n with
   | zero => omega
   | succ n =>
    have ih := shU_alike E b n (j + 1) (swp d j (j - 1)) (by omega) (by omega) (by rw [size_swp]; omega) (h.swp (by omega) (by omega))
    rw [size_swp] at ih
    split
    ·exact ⟨rfl, h, rfl⟩
    ·exact ih
  ·rw [if_neg hj, if_neg hj]; exact ⟨rfl, h, rfl⟩
theorem pins_alike (E : Alike lt lt') (a b : Nat) (hab : a < b) : ∀ (s i : Nat) (d : Array α), a < i → i ≤ b → b ≤ d.size → NoTwo d → partialIns lt a b s i d = partialIns lt' a b s i d
 | 0, _, _, _, _, _, _ => rfl
 | s + 1, i, d, hi, hib, hb, h => by
  rw [partialIns, partialIns]
  have s1 := scanS_alike E h hb _ i rfl (by omega)
  rw [← s1.1]
  generalize scanSorted lt d b i = i2 at s1 ⊢
  dsimp only
  by_cases q : i2 = b
  ·rw [if_pos q, if_pos q]
  rw [if_neg q, if_neg q]
  split
  ·rfl
  have h1 := h.swp (show i2 < d.size by omega) (show i2 - 1 < d.size by omega)
  have z1 : (swp d i2 (i2 - 1)).size = d.size := size_swp _ _ _
  generalize swp d i2 (i2 - 1) = d1 at h1 z1 ⊢
  have g1 := shD_alike E (i2 - 1) d1 h1 (by omega)
  rw [← g1.1]
  have h2 : NoTwo (if i2 - a ≥ 2 then shiftDown lt (i2 - 1) d1 else d1) ∧ (if i2 - a ≥ 2 then shiftDown lt (i2 - 1) d1 else d1).size = d.size := by
   split
   ·exact ⟨g1.2.1, g1.2.2.trans z1⟩
   ·exact ⟨h1, z1⟩
  generalize (if i2 - a ≥ 2 then shiftDown lt (i2 - 1) d1 else d1) = d2 at h2 ⊢
  have g2 := shU_alike E b _ (i2 + 1) d2 rfl (by omega) (by omega) h2.1
  rw [← g2.1]
  have h3 : NoTwo (if b - i2 ≥ 2 then shiftUp lt b (i2 + 1) d2 else d2) ∧ (if b - i2 ≥ 2 then shiftUp lt b (i2 + 1) d2 else d2).size = d.size := by
   split
   ·exact ⟨g2.2.1, g2.2.2.trans h2.2⟩
   ·exact h2
  generalize (if b - i2 ≥ 2 then shiftUp lt b (i2 + 1) d2 else d2) = d3 at h3 ⊢
  exact pins_alike E a b hab s i2 d3 (by omega) (by omega) (by omega) h3.1
theorem partialInsertionSort_alike (E : Alike lt lt') {d : Array α} (h : NoTwo d) {a b : Nat} (hab : a < b) (hb : b ≤ d.size) : partialInsertionSort lt d a b = partialInsertionSort lt' d a b :=
 pins_alike E a b hab 5 (a + 1) d (by omega) (by omega) hb h
end Go.Proofs.YtjcdkbalhleeeaaGreatDoor
