/-
  Contracts of functions and plain laws that later parts of the proof use. The conditions stand in each theorem.
-/
import Derived.Test.YtjcdkbalhleeeaaGreatDoorG01
import Derived.Lib.ItoaNum
import Derived.Lib.ParseIntB
import Derived.Lib.Join
import Derived.Lib.SplitLaws
import Derived.Test.YtjcdkbalhleeeaaGreatDoorG03
import Derived.Test.YtjcdkbalhleeeaaGreatDoorG02
namespace Go.Proofs.YtjcdkbalhleeeaaGreatDoor
open Go.Lib
def cutB (c : UInt8) : List UInt8 → List (List UInt8)
 | [] => [[]]
 | b :: l => if b = c then [] :: cutB c l else (b :: (cutB c l).headD []) :: (cutB c l).tail
theorem cutB_ne (c : UInt8) (s : List UInt8) : cutB c s ≠ [] := by
 cases s with
 | nil => simp [cutB]
 | cons b l => rw [cutB]; split <;> simp
theorem cutB_length (c : UInt8) (s : List UInt8) : (cutB c s).length = s.count c + 1 := by
 induction s with
 | nil => simp [cutB]
 | cons b l ih =>
  rw [cutB]
  have h0 := cutB_ne c l
  have h1 : 0 < (cutB c l).length := List.length_pos_iff.2 h0
  split
  ·next e => subst e; simp [ih]
  ·next e => simp [e, ih]
theorem cutB_none {c : UInt8} {s : List UInt8} (h : c ∉ s) : cutB c s = [s] := by
 induction s with
 | nil => rfl
 | cons b l ih =>
  rw [cutB, if_neg (by intro e; exact h (by simp [e])), ih (by intro e; exact h (by simp [e]))]; rfl
theorem cutB_hit {c : UInt8} {a : List UInt8} (h : c ∉ a) (r : List UInt8) : cutB c (a ++ c :: r) = a :: cutB c r := by
 induction a with
 | nil => simp [cutB]
 | cons b l ih =>
  rw [List.cons_append, cutB, if_neg (by intro e; exact h (by simp [e])), ih (by intro e; exact h (by simp [e]))]; rfl
theorem cutB_snoc (c : UInt8) (s : List UInt8) (b : UInt8) : cutB c (s ++ [b]) = if b = c then cutB c s ++ [[]] else (cutB c s).dropLast ++ [(cutB c s).getLastD [] ++ [b]] := by
 induction s with
 | nil => by_cases e : b = c <;> simp [cutB, e]
 | cons x l ih =>
  rw [List.cons_append, cutB, cutB, ih]
  obtain ⟨h, t, ht⟩ := List.exists_cons_of_ne_nil (cutB_ne c l)
  rw [ht]
  by_cases e : b = c
  ·by_cases e' : x = c <;> simp [e, e']
  ·by_cases e' : x = c
   ·simp [e, e']
   ·cases t with
    | nil => simp [e, e']
    | cons y t => simp [e, e']
theorem join_cons2 (x y : List UInt8) (r : List (List UInt8)) (sep : List UInt8) : join (x :: y :: r) sep = x ++ sep ++ join (y :: r) sep := by
 rw [join_cons, join_cons]; simp [joinTail]
theorem join_cutB (c : UInt8) (s : List UInt8) : join (cutB c s) [c] = s := by
 induction s with
 | nil => simp [cutB, join_one]
 | cons b l ih =>
  rw [cutB]
  obtain ⟨h, t, ht⟩ := List.exists_cons_of_ne_nil (cutB_ne c l)
  rw [ht] at ih ⊢
  split
  ·next e => rw [join_cons2, ih]; simp [e]
  ·next e =>
   cases t with
   | nil => simp [join_one] at ih ⊢; exact ih
   | cons y t => rw [join_cons2] at ih; simp only [List.headD_cons, List.tail_cons]; rw [join_cons2, ← ih]; simp
theorem splitK_cut (c : UInt8) : ∀ (n : Nat) (s : List UInt8), s.length ≤ n → splitK [c] 0 (s.count c) s = cutB c s := by
 intro n
 induction n with
 | zero => intro s h; have : s = [] := List.length_eq_zero_iff.1 (by omega); subst this; rfl
 | succ n ih =>
  intro s h
  by_cases hc : c ∈ s
  ·obtain ⟨a, r, e, hn⟩ := List.eq_append_cons_of_mem hc
   rw [e, List.count_append, List.count_eq_zero_of_not_mem hn, List.count_cons_self, Nat.zero_add, splitK]
   have hi : index (a ++ c :: r) [c] = a.length := by
    refine index_first (by simp) (by simp [occAt]) ?_
    intro j hj
    rw [occAt]
    rw [List.drop_append_of_le_length (by omega)]
    have hd : a.drop j = a[j] :: a.drop (j + 1) := List.drop_eq_getElem_cons hj
    have : a[j] ≠ c := fun e => hn (e ▸ List.getElem_mem hj)
    rw [hd, List.cons_append, List.isPrefixOf, beq_eq_false_iff_ne.2 (Ne.symm this), Bool.false_and]
   rw [hi, if_neg (by simp), cutB_hit hn]
   simp only [Int.toNat_natCast, Nat.add_zero, List.length_singleton]
   rw [List.take_left, show (a ++ c :: r).drop (a.length + 1) = r by simp [List.drop_append], ih r (by rw [e] at h; simp at h; omega)]
  ·rw [List.count_eq_zero_of_not_mem hc, cutB_none hc]; rfl
def digs : Nat → List UInt8 → Option Nat
 | n, [] => some n
 | n, c :: r => if 48 ≤ c.toNat ∧ c.toNat ≤ 57 then digs (10 * n + (c.toNat - 48)) r else none
def bare (s : List UInt8) : List UInt8 := if s.head? = some 45 then s.tail else s
def odd (s : List UInt8) : Bool := decide ((bare s).length < 1 ∨ 6 < (bare s).length ∨ ((bare s).head? = some 48 ∧ (1 < (bare s).length ∨ s.head? = some 45)))
def numR (s : List UInt8) : Option Int :=
 if odd s = true then none else (digs 0 (bare s)).map (fun (n : Nat) => if s.head? = some 45 then -(n : Int) else (n : Int))
def numP (s : List UInt8) : Option Int :=
 match parseIntB 64 s with
 | .ok n => if -999999 ≤ n ∧ n ≤ 999999 ∧ itoa n = s then some n else none
 | _ => none
theorem byte_eq {c : UInt8} (h : 48 ≤ c.toNat) (h' : c.toNat ≤ 57) : UInt8.ofNat (48 + (c.toNat - 48)) = c := by
 have : 48 + (c.toNat - 48) = c.toNat := by omega
 rw [this]; simp
theorem dec_step {a d : Nat} (ha : 0 < a) (hd : d < 10) : decDigits (10 * a + d) = decDigits a ++ [UInt8.ofNat (48 + d)] := by
 rw [decDigits, dif_neg (by omega), show (10 * a + d) / 10 = a by omega, show (10 * a + d) % 10 = d by omega]
theorem digs_dec : ∀ {t : List UInt8} {a n : Nat}, 0 < a → digs a t = some n → decDigits n = decDigits a ++ t ∧ a ≤ n
 | [], a, n, _, h => by simp [digs] at h; subst h; simp
 | c :: r, a, n, ha, h => by
  rw [digs] at h
  split at h
  ·next hc =>
   have := digs_dec (a := 10 * a + (c.toNat - 48)) (by omega) h
   rw [dec_step ha (by omega), byte_eq hc.1 hc.2] at this
   exact ⟨by rw [this.1]; simp, by omega⟩
  ·exact absurd h (by simp)
theorem digs_le : ∀ {t : List UInt8} {a n : Nat}, digs a t = some n → a ≤ n
 | [], a, n, h => by simp [digs] at h; omega
 | c :: r, a, n, h => by
  rw [digs] at h
  split at h
  ·have := digs_le h; omega
  ·exact absurd h (by simp)
theorem digs_pow : ∀ {t : List UInt8} {a n : Nat}, digs a t = some n → n < (a + 1) * 10 ^ t.length
 | [], a, n, h => by simp [digs] at h; simp; omega
 | c :: r, a, n, h => by
  rw [digs] at h
  split at h
  ·have := digs_pow h
   have h1 : (10 * a + (c.toNat - 48) + 1) * 10 ^ r.length ≤ (10 * (a + 1)) * 10 ^ r.length := Nat.mul_le_mul_right _ (by omega)
   rw [List.length_cons, Nat.pow_succ]
   calc n < _ := this
    _ ≤ _ := h1
    _ = _ := by rw [Nat.mul_comm 10 (a + 1), Nat.mul_assoc, Nat.mul_comm 10]
  ·exact absurd h (by simp)
theorem digs_parse {M : Nat} (hM : M ≤ 18446744073709551615) : ∀ {t : List UInt8} {a n : Nat}, digs a t = some n → n ≤ M → parseUintM M a t = .ok n
 | [], a, n, h, _ => by simp [digs] at h; rw [parseUintM, h]
 | c :: r, a, n, h, hn => by
  rw [digs] at h
  split at h
  ·next hc =>
   have := digs_le h
   rw [parseUintM, if_pos hc, if_neg (by omega), if_neg (by omega), Nat.mul_comm a]
   exact digs_parse hM h hn
  ·exact absurd h (by simp)
theorem digs_self (u : Nat) : ∀ (r : List UInt8), digs 0 (decDigits u ++ r) = digs u r := by
 induction u using Nat.strongRecOn with
 | ind u ih =>
  intro r
  rw [decDigits]
  split
  ·next h =>
   have e : (UInt8.ofNat (48 + u)).toNat = 48 + u := by simp; omega
   rw [List.singleton_append, digs, if_pos (by omega), e]; congr 1; omega
  ·next h =>
   have e : (UInt8.ofNat (48 + u % 10)).toNat = 48 + u % 10 := by simp; omega
   rw [List.append_assoc, ih (u / 10) (by omega), List.singleton_append, digs, if_pos (by omega), e]; congr 1; omega
theorem dec_head {u : Nat} (h : 0 < u) : ∃ c r, decDigits u = c :: r ∧ c ≠ 48 ∧ c ≠ 45 := by
 induction u using Nat.strongRecOn with
 | ind u ih =>
  rw [decDigits]
  split
  ·next h' =>
   refine ⟨_, _, rfl, ?_, ?_⟩
   ·intro e; have := congrArg UInt8.toNat e; simp at this; omega
   ·intro e; have := congrArg UInt8.toNat e; simp at this; omega
  ·next h' =>
   obtain ⟨c, r, e, h1, h2⟩ := ih (u / 10) (by omega) (by omega)
   exact ⟨c, r ++ _, by rw [e]; rfl, h1, h2⟩
theorem dec_bytes (u : Nat) : ∀ c ∈ decDigits u, 48 ≤ c.toNat ∧ c.toNat ≤ 57 := by
 induction u using Nat.strongRecOn with
 | ind u ih =>
  rw [decDigits]
  split
  ·intro c hc; simp at hc; subst hc; simp; omega
  ·intro c hc
   rw [List.mem_append] at hc
   rcases hc with hc | hc
   ·exact ih _ (by omega) c hc
   ·simp at hc; subst hc; simp; omega
theorem dec_len {u : Nat} (h : u ≤ 999999) : (decDigits u).length ≤ 6 ∧ 1 ≤ (decDigits u).length := by
 rw [decDigits_length]
 refine ⟨?_, nDigits_pos u⟩
 by_cases h1 : u < 10
 ·rw [nDigits_small h1]; omega
 rw [nDigits_big h1]
 by_cases h2 : u / 10 < 10
 ·rw [nDigits_small h2]; omega
 rw [nDigits_big h2]
 by_cases h3 : u / 10 / 10 < 10
 ·rw [nDigits_small h3]; omega
 rw [nDigits_big h3]
 by_cases h4 : u / 10 / 10 / 10 < 10
 ·rw [nDigits_small h4]; omega
 rw [nDigits_big h4]
 by_cases h5 : u / 10 / 10 / 10 / 10 < 10
 ·rw [nDigits_small h5]; omega
 rw [nDigits_big h5, nDigits_small (by omega)]; omega
theorem itoa_neg {v : Int} (h : v < 0) : itoa v = 45 :: decDigits v.natAbs := by rw [itoa, if_pos h]
theorem itoa_pos {v : Int} (h : ¬ v < 0) : itoa v = decDigits v.toNat := by rw [itoa, if_neg h]
theorem numR_itoa {v : Int} (h : -999999 ≤ v) (h' : v ≤ 999999) : numR (itoa v) = some v := by
 by_cases hv : v < 0
 ·rw [itoa_neg hv]
  obtain ⟨c, r, e, h1, h2⟩ := dec_head (u := v.natAbs) (by omega)
  have hl := dec_len (u := v.natAbs) (by omega)
  have hd := digs_self v.natAbs []
  rw [List.append_nil] at hd
  have ho : odd (45 :: decDigits v.natAbs) = false := by
   simp only [odd, bare, List.head?_cons, if_pos, List.tail_cons, decide_eq_false_iff_not]
   rw [e] at hl ⊢
   simp at hl ⊢
   exact ⟨by omega, h1⟩
  rw [numR, ho, if_neg (by simp), bare]
  simp only [List.head?_cons, if_pos, List.tail_cons, hd, digs]
  simp; omega
 ·rw [itoa_pos hv]
  have hl := dec_len (u := v.toNat) (by omega)
  have hd := digs_self v.toNat []
  rw [List.append_nil] at hd
  have hh : (decDigits v.toNat).head? ≠ some 45 := by
   intro e
   obtain ⟨c, r, e'⟩ := List.exists_cons_of_ne_nil (l := decDigits v.toNat) (by intro e0; rw [e0] at hl; simp at hl)
   rw [e'] at e
   have := dec_bytes v.toNat 45 (by rw [e']; simp at e; simp [e])
   simp at this
  have hb : bare (decDigits v.toNat) = decDigits v.toNat := by rw [bare, if_neg hh]
  have ho : odd (decDigits v.toNat) = false := by
   simp only [odd, hb, decide_eq_false_iff_not]
   intro h3
   rcases h3 with h3 | h3 | ⟨h3, h4⟩
   ·omega
   ·omega
   ·rcases h4 with h4 | h4
    ·by_cases h0 : v.toNat = 0
     ·rw [h0, decDigits_one (by omega)] at h4; simp at h4
     ·obtain ⟨c, r, e, h5, _⟩ := dec_head (u := v.toNat) (by omega)
      rw [e] at h3; simp at h3; exact h5 h3
    ·exact hh h4
  rw [numR, ho, if_neg (by simp), hb, hd]
  simp [digs, hh]; omega
theorem numR_some {s : List UInt8} {v : Int} (h : numR s = some v) : itoa v = s ∧ -999999 ≤ v ∧ v ≤ 999999 ∧ parseIntB 64 s = .ok v := by
 unfold numR at h
 split at h
 ·exact absurd h (by simp)
 next ho =>
 simp only [odd, decide_eq_true_eq] at ho
 rw [Option.map_eq_some_iff] at h
 obtain ⟨n, hn, hv⟩ := h
 have hp := digs_pow hn
 have h6 : 10 ^ (bare s).length ≤ 10 ^ 6 := Nat.pow_le_pow_right (by omega) (by omega)
 have hnn : n ≤ 999999 := by omega
 have hdec : decDigits n = bare s := by
  cases hb : bare s with
  | nil => rw [hb] at ho; simp at ho
  | cons c r =>
   rw [hb] at hn ho
   rw [digs] at hn
   split at hn
   ·next hc =>
    by_cases h0 : c = 48
    ·subst h0
     have : r = [] := by
      cases r with
      | nil => rfl
      | cons _ _ => simp at ho
     subst this
     simp [digs] at hn; subst hn
     rw [decDigits_one (by omega)]; rfl
    ·have hc0 : c.toNat ≠ 48 := fun e => h0 (by have := byte_eq hc.1 hc.2; rw [e] at this; simpa using this.symm)
     have := (digs_dec (by omega) hn).1
     rw [this, Nat.mul_zero, Nat.zero_add, decDigits_one (by omega), byte_eq hc.1 hc.2]; rfl
   ·exact absurd hn (by simp)
 have hM : (18446744073709551615 : Nat) = 2 ^ 64 - 1 := by decide
 have hpar : parseUintB 64 (bare s) = .ok n := by
  unfold parseUintB
  rw [if_neg (by intro e; rw [e] at ho; simp at ho)]
  exact digs_parse (M := 2 ^ 64 - 1) (by decide) hn (by omega)
 by_cases hs : s.head? = some 45
 ·rw [if_pos hs] at hv
  cases s with
  | nil => simp at hs
  | cons c r =>
   simp at hs; subst hs
   have hb : bare (45 :: r) = r := by simp [bare]
   rw [hb] at hdec hpar ho
   have hn0 : 0 < n := by
    rcases Nat.eq_zero_or_pos n with e | e
    ·subst e; rw [decDigits_one (by omega)] at hdec; rw [← hdec] at ho; simp at ho
    ·exact e
   refine ⟨?_, by omega, by omega, ?_⟩
   ·rw [← hv, itoa_neg (by omega), show (-(n : Int)).natAbs = n by omega, hdec]
   ·simp only [parseIntB]
    simp [hpar, ← hv]; omega
 ·rw [if_neg hs] at hv
  have hb : bare s = s := by rw [bare, if_neg hs]
  rw [hb] at hdec hpar ho
  refine ⟨?_, by omega, by omega, ?_⟩
  ·rw [← hv, itoa_pos (by omega), show (n : Int).toNat = n by omega, hdec]
  ·cases s with
   | nil => simp at ho
   | cons c r =>
    have hc := dec_bytes n c (by rw [hdec]; simp)
    simp only [parseIntB]
    rw [if_neg (by omega), hpar]
    simp only []
    rw [if_neg (by omega), if_neg (by omega), if_neg (by omega), hv]
theorem numP_eq (s : List UInt8) : numP s = numR s := by
 cases h : numR s with
 | some v =>
  obtain ⟨h1, h2, h3, h4⟩ := numR_some h
  rw [numP, h4]; simp only []; rw [if_pos ⟨h2, h3, h1⟩]
 | none =>
  unfold numP
  split
  ·next n hn =>
   split
   ·next hc => rw [← hc.2.2, numR_itoa hc.1 hc.2.1] at h; exact absurd h (by simp)
   ·rfl
  ·rfl
end Go.Proofs.YtjcdkbalhleeeaaGreatDoor

namespace Go.Proofs.YtjcdkbalhleeeaaGreatDoor
open Go.Lib
def mostW : List UInt8 := [109, 111, 115, 116]
def leW : List UInt8 := [60, 61]
def costT (cs : List Int) : List UInt8 := mostW ++ (cs.map fun n => 32 :: itoa n).flatten ++ [10]
def rowT (r : List Int × Int) : List UInt8 := (r.1.map fun n => itoa n ++ [32]).flatten ++ (leW ++ 32 :: itoa r.2) ++ [10]
def textF (p : PG) : List UInt8 := costT p.costs ++ (p.rows.map rowT).flatten
def costL (cs : List Int) : List UInt8 := join (mostW :: cs.map itoa) [32]
def rowL (r : List Int × Int) : List UInt8 := join (r.1.map itoa ++ [leW, itoa r.2]) [32]
theorem costT_eq (cs : List Int) : costT cs = costL cs ++ [10] := by
 rw [costT, costL, join_cons, joinTail, List.map_map]; rfl
theorem rowT_eq (r : List Int × Int) : rowT r = rowL r ++ [10] := by
 rw [rowT, rowL]
 congr 1
 obtain ⟨l, m⟩ := r
 induction l with
 | nil => simp [join_cons2, join_one]
 | cons n l ih =>
  simp only [List.map_cons, List.flatten_cons, List.cons_append] at ih ⊢
  obtain ⟨x, y, e⟩ := List.exists_cons_of_ne_nil (l := l.map itoa ++ [leW, itoa m]) (by simp)
  rw [List.append_assoc, ih, e, join_cons2]
theorem itoa_bytes (v : Int) : ∀ c ∈ itoa v, c = 45 ∨ (48 ≤ c.toNat ∧ c.toNat ≤ 57) := by
 intro c hc
 by_cases h : v < 0
 ·rw [itoa_neg h] at hc
  simp at hc
  rcases hc with hc | hc
  ·exact Or.inl hc
  ·exact Or.inr (dec_bytes _ c hc)
 ·rw [itoa_pos h] at hc; exact Or.inr (dec_bytes _ c hc)
theorem itoa_not {v : Int} {c : UInt8} (h : c ≠ 45) (h' : c.toNat < 48) : c ∉ itoa v := fun hc => by
 rcases itoa_bytes v c hc with e | e
 ·exact h e
 ·omega
def numsR : List (List UInt8) → Option (List Int)
 | [] => some []
 | w :: l => (numR w).bind fun n => (numsR l).map (n :: ·)
theorem numsR_snoc (l : List (List UInt8)) (w : List UInt8) : numsR (l ++ [w]) = (numsR l).bind fun v => (numR w).map fun n => v ++ [n] := by
 induction l with
 | nil => simp [numsR]; cases numR w <;> rfl
 | cons x l ih =>
  rw [List.cons_append, numsR, numsR, ih]
  cases numR x <;> cases numsR l <;> cases numR w <;> rfl
theorem numsR_none {l : List (List UInt8)} {k : Nat} (hk : k < l.length) (h : numR l[k] = none) : numsR l = none := by
 induction l generalizing k with
 | nil => simp at hk
 | cons x l ih =>
  rw [numsR]
  cases k with
  | zero => simp only [List.getElem_cons_zero] at h; rw [h]; rfl
  | succ k =>
   rw [ih (k := k) (by simpa using hk) (by simpa using h)]; cases numR x <;> rfl
theorem numsR_take {l : List (List UInt8)} {k : Nat} (hk : k < l.length) {v : List Int} {n : Int} (h : numsR (l.take k) = some v) (hn : numR l[k] = some n) : numsR (l.take (k + 1)) = some (v ++ [n]) := by
 rw [List.take_succ_eq_append_getElem hk, numsR_snoc, h, hn]; rfl
theorem numsR_some : ∀ {l : List (List UInt8)} {v : List Int}, numsR l = some v → v.map itoa = l
 | [], v, h => by simp [numsR] at h; subst h; rfl
 | w :: l, v, h => by
  rw [numsR] at h
  cases hw : numR w with
  | none => rw [hw] at h; exact absurd h (by simp)
  | some n =>
   cases hl : numsR l with
   | none => rw [hw, hl] at h; exact absurd h (by simp)
   | some u =>
    rw [hw, hl] at h
    simp at h; subst h
    rw [List.map_cons, (numR_some hw).1, numsR_some hl]
theorem numsR_small : ∀ {l : List (List UInt8)} {v : List Int}, numsR l = some v → smallB 999999 v = true ∧ v.length = l.length
 | [], v, h => by simp [numsR] at h; subst h; exact ⟨rfl, rfl⟩
 | w :: l, v, h => by
  rw [numsR] at h
  cases hw : numR w with
  | none => rw [hw] at h; exact absurd h (by simp)
  | some n =>
   cases hl : numsR l with
   | none => rw [hw, hl] at h; exact absurd h (by simp)
   | some u =>
    rw [hw, hl] at h
    simp at h; subst h
    have h1 := numR_some hw
    have h2 := numsR_small hl
    refine ⟨smallB_iff.2 ?_, by simp [h2.2]⟩
    intro x hx
    rcases List.mem_cons.1 hx with e | e
    ·exact e ▸ ⟨h1.2.1, h1.2.2.1⟩
    ·exact smallB_mem h2.1 e
theorem numsR_one (w : List UInt8) : numsR [w] = (numR w).map fun n => [n] := by
 rw [numsR]; cases numR w <;> rfl
def lineC (s : List UInt8) : Option (List Int) := if (cutB 32 s).headD [] = mostW then numsR (cutB 32 s).tail else none
def lineR (s : List UInt8) : Option (List Int × Int) :=
 if (cutB 32 s).length < 2 ∨ (cutB 32 s).getD ((cutB 32 s).length - 2) [] ≠ leW then none
 else (numsR ((cutB 32 s).take ((cutB 32 s).length - 2))).bind fun l => (numR ((cutB 32 s).getLastD [])).map fun m => (l, m)
theorem lineC_some {s : List UInt8} {cs : List Int} (h : lineC s = some cs) : costL cs = s := by
 unfold lineC at h
 split at h
 ·next e =>
  have hj := join_cutB 32 s
  obtain ⟨x, y, hc⟩ := List.exists_cons_of_ne_nil (cutB_ne 32 s)
  rw [hc] at e h hj
  simp at e; subst e
  rw [List.tail_cons] at h
  rw [costL, numsR_some h, hj]
 ·exact absurd h (by simp)
theorem lineR_some {s : List UInt8} {r : List Int × Int} (h : lineR s = some r) : rowL r = s := by
 unfold lineR at h
 split at h
 ·exact absurd h (by simp)
 next hn =>
 have hn2 : 2 ≤ (cutB 32 s).length := by
  rcases Nat.lt_or_ge (cutB 32 s).length 2 with e | e
  ·exact absurd (Or.inl e) hn
  ·exact e
 have hle : (cutB 32 s).getD ((cutB 32 s).length - 2) [] = leW := by
  rcases Classical.em ((cutB 32 s).getD ((cutB 32 s).length - 2) [] = leW) with e | e
  ·exact e
  ·exact absurd (Or.inr e) hn
 cases h1 : numsR ((cutB 32 s).take ((cutB 32 s).length - 2)) with
 | none => rw [h1] at h; exact absurd h (by simp)
 | some l =>
  cases h2 : numR ((cutB 32 s).getLastD []) with
  | none => rw [h1, h2] at h; exact absurd h (by simp)
  | some m =>
   rw [h1, h2] at h
   simp at h; subst h
   rw [rowL]
   simp only []
   rw [numsR_some h1, (numR_some h2).1, ← hle]
   conv => rhs; rw [← join_cutB 32 s]
   congr 1
   have hk : (cutB 32 s).length - 2 < (cutB 32 s).length := by omega
   have hk1 : (cutB 32 s).length - 2 + 1 < (cutB 32 s).length := by omega
   have e1 : (cutB 32 s).getD ((cutB 32 s).length - 2) [] = (cutB 32 s)[(cutB 32 s).length - 2] := by simp [List.getD, List.getElem?_eq_getElem hk]
   have e2 : (cutB 32 s).getLastD [] = (cutB 32 s)[(cutB 32 s).length - 2 + 1] := by
    rw [List.getLastD_eq_getLast?, List.getLast?_eq_getElem?, show (cutB 32 s).length - 1 = (cutB 32 s).length - 2 + 1 by omega, List.getElem?_eq_getElem hk1]; rfl
   rw [e1, e2]
   conv => rhs; rw [← List.take_append_drop ((cutB 32 s).length - 2) (cutB 32 s)]
   rw [List.drop_eq_getElem_cons hk, List.drop_eq_getElem_cons hk1, List.drop_of_length_le (by omega)]
theorem lineR_short {s : List UInt8} (h : (cutB 32 s).length < 2) : lineR s = none := by unfold lineR; rw [if_pos (Or.inl h)]
theorem lineR_long {s : List UInt8} {m : Nat} (h : (cutB 32 s).length = m + 2) :
    lineR s = if (cutB 32 s)[m]'(by omega) = leW then (numsR ((cutB 32 s).take m)).bind fun l => (numR ((cutB 32 s)[m + 1]'(by omega))).map fun n => (l, n) else none := by
 have e3 : (cutB 32 s).length - 2 = m := by omega
 have e4 : (cutB 32 s).length - 1 = m + 1 := by omega
 have e1 : (cutB 32 s).getD ((cutB 32 s).length - 2) [] = (cutB 32 s)[m]'(by omega) := by
  rw [e3]; simp [List.getD, List.getElem?_eq_getElem (show m < (cutB 32 s).length by omega)]
 have e2 : (cutB 32 s).getLastD [] = (cutB 32 s)[m + 1]'(by omega) := by
  rw [List.getLastD_eq_getLast?, List.getLast?_eq_getElem?, e4, List.getElem?_eq_getElem (by omega)]; rfl
 unfold lineR
 rw [e1, e2, e3]
 by_cases hc : (cutB 32 s)[m]'(by omega) = leW
 ·rw [if_neg (by rintro (q | q); · omega
                 ·exact q hc), if_pos hc]
 ·rw [if_pos (Or.inr hc), if_neg hc]
def rowsP : List (List UInt8) → Option (List (List Int × Int))
 | [] => some []
 | s :: l => (lineR s).bind fun r => (rowsP l).map (r :: ·)
def takeP : List (List UInt8) → Option PG
 | [] => some ⟨[], []⟩
 | s :: l => (lineC s).bind fun cs => (rowsP l).map fun rs => ⟨cs, rs⟩
theorem rowsP_snoc (l : List (List UInt8)) (s : List UInt8) : rowsP (l ++ [s]) = (rowsP l).bind fun v => (lineR s).map fun r => v ++ [r] := by
 induction l with
 | nil => simp [rowsP]; cases lineR s <;> rfl
 | cons x l ih =>
  rw [List.cons_append, rowsP, rowsP, ih]
  cases lineR x <;> cases rowsP l <;> cases lineR s <;> rfl
theorem takeP_snoc (x : List UInt8) (l : List (List UInt8)) (s : List UInt8) : takeP (x :: l ++ [s]) = (takeP (x :: l)).bind fun q => (lineR s).map fun r => ⟨q.costs, q.rows ++ [r]⟩ := by
 rw [List.cons_append, takeP, takeP, rowsP_snoc]
 cases lineC x <;> cases rowsP l <;> cases lineR s <;> rfl
theorem takeP_one (s : List UInt8) : takeP [s] = (lineC s).map fun cs => ⟨cs, []⟩ := by
 simp [takeP, rowsP]; cases lineC s <;> rfl
theorem takeP_step {ls : List (List UInt8)} {k : Nat} (hk : k < ls.length) {q : PG} (h : takeP (ls.take k) = some q) (h0 : 0 < k) :
    takeP (ls.take (k + 1)) = (lineR ls[k]).map fun r => ⟨q.costs, q.rows ++ [r]⟩ := by
 obtain ⟨x, l, e⟩ := List.exists_cons_of_ne_nil (l := ls.take k) (by intro e; have := congrArg List.length e; rw [List.length_take, List.length_nil] at this; omega)
 rw [List.take_succ_eq_append_getElem hk, e, takeP_snoc, ← e, h]; rfl
theorem takeP_first {ls : List (List UInt8)} (hk : 0 < ls.length) : takeP (ls.take 1) = (lineC ls[0]).map fun cs => ⟨cs, []⟩ := by
 rw [List.take_succ_eq_append_getElem hk, List.take_zero, List.nil_append, takeP_one]
theorem takeP_prefix {ls : List (List UInt8)} : ∀ {k : Nat}, k < ls.length → (takeP (ls.take (k + 1))).isSome = true → (takeP (ls.take k)).isSome = true := by
 intro k hk h
 cases k with
 | zero => rfl
 | succ k =>
  obtain ⟨x, l, e⟩ := List.exists_cons_of_ne_nil (l := ls.take (k + 1)) (by intro e; have := congrArg List.length e; rw [List.length_take, List.length_nil] at this; omega)
  rw [List.take_succ_eq_append_getElem hk, e, takeP_snoc] at h
  rw [e]
  cases hq : takeP (x :: l) with
  | none => rw [hq] at h; exact absurd h (by simp)
  | some q => rfl
theorem takeP_all {ls : List (List UInt8)} {k j : Nat} (hk : k ≤ ls.length) (h : (takeP (ls.take k)).isSome = true) (hj : j ≤ k) : (takeP (ls.take j)).isSome = true := by
 induction k with
 | zero => have : j = 0 := by omega
           subst this; exact h
 | succ k ih =>
  rcases Nat.lt_or_ge j (k + 1) with e | e
  ·exact ih (by omega) (takeP_prefix (by omega) h) (by omega)
  ·have : j = k + 1 := by omega
   subst this; exact h
def parF (s : List UInt8) : PG × Int × Nat :=
 match (List.range ((cutB 10 s).length - 1)).find? (fun k => (takeP ((cutB 10 s).take (k + 1))).isNone) with
 | some k => (⟨[], []⟩, 2, k)
 | none => match takeP ((cutB 10 s).take ((cutB 10 s).length - 1)) with
  | some q => if (cutB 10 s).getLastD [] = [] ∧ mayPB q = true then (q, 0, 0) else (⟨[], []⟩, 2, (cutB 10 s).length - 1)
  | none => (⟨[], []⟩, 2, (cutB 10 s).length - 1)
theorem parF_bad {s : List UInt8} {k : Nat} (hk : k < (cutB 10 s).length - 1) {q : PG} (h : takeP ((cutB 10 s).take k) = some q) (hn : takeP ((cutB 10 s).take (k + 1)) = none) : parF s = (⟨[], []⟩, 2, k) := by
 have : (List.range ((cutB 10 s).length - 1)).find? (fun k => (takeP ((cutB 10 s).take (k + 1))).isNone) = some k := by
  rw [List.find?_range_eq_some]
  refine ⟨by rw [hn]; rfl, by simpa using hk, ?_⟩
  intro j hj
  have := takeP_all (ls := cutB 10 s) (k := k) (j := j + 1) (by omega) (by rw [h]; rfl) (by omega)
  simp only [Bool.not_eq_true']
  cases h1 : takeP ((cutB 10 s).take (j + 1)) with
  | none => rw [h1] at this; exact absurd this (by simp)
  | some _ => rfl
 rw [parF, this]
theorem parF_end {s : List UInt8} {q : PG} (h : takeP ((cutB 10 s).take ((cutB 10 s).length - 1)) = some q) :
    parF s = if (cutB 10 s).getLastD [] = [] ∧ mayPB q = true then (q, 0, 0) else (⟨[], []⟩, 2, (cutB 10 s).length - 1) := by
 have : (List.range ((cutB 10 s).length - 1)).find? (fun k => (takeP ((cutB 10 s).take (k + 1))).isNone) = none := by
  rw [List.find?_range_eq_none]
  intro j hj
  have := takeP_all (ls := cutB 10 s) (k := (cutB 10 s).length - 1) (j := j + 1) (by omega) (by rw [h]; rfl) (by omega)
  simp only [Bool.not_eq_true']
  cases h1 : takeP ((cutB 10 s).take (j + 1)) with
  | none => rw [h1] at this; exact absurd this (by simp)
  | some _ => rfl
 rw [parF, this]; simp only [h]
theorem parF_cases (s : List UInt8) : (∃ q, parF s = (q, 0, 0) ∧ takeP ((cutB 10 s).take ((cutB 10 s).length - 1)) = some q ∧ (cutB 10 s).getLastD [] = [] ∧ mayPB q = true) ∨ (∃ k, parF s = (⟨[], []⟩, 2, k) ∧ k < (cutB 10 s).length) := by
 have hl := cutB_length 10 s
 unfold parF
 split
 ·next k hk =>
  rw [List.find?_range_eq_some] at hk
  have := hk.2.1
  simp at this
  exact Or.inr ⟨k, rfl, by omega⟩
 ·split
  ·next q hq =>
   split
   ·next h => exact Or.inl ⟨q, rfl, hq, h.1, h.2⟩
   ·exact Or.inr ⟨_, rfl, by omega⟩
  ·exact Or.inr ⟨_, rfl, by omega⟩
theorem small_more {a b : Int} {l : List Int} (h : smallB a l = true) (hab : a ≤ b) : smallB b l = true :=
 smallB_iff.2 fun n hn => by have := smallB_mem h hn; omega
theorem join_bytes {c b : UInt8} : ∀ {l : List (List UInt8)}, (∀ x ∈ l, c ∉ x) → c ≠ b → c ∉ join l [b]
 | [], _, _ => by simp [join_nil]
 | [x], h, _ => by rw [join_one]; exact h x (by simp)
 | x :: y :: r, h, hb => by
  rw [join_cons2]
  have := join_bytes (c := c) (b := b) (l := y :: r) (fun z hz => h z (by simp [hz])) hb
  have hx := h x (by simp)
  simp [this, hx, hb]
theorem costL_no (cs : List Int) : (10 : UInt8) ∉ costL cs := by
 refine join_bytes ?_ (by decide)
 intro x hx
 rcases List.mem_cons.1 hx with e | e
 ·subst e; decide
 ·obtain ⟨n, _, rfl⟩ := List.mem_map.1 e
  exact itoa_not (by decide) (by decide)
theorem rowL_no (r : List Int × Int) : (10 : UInt8) ∉ rowL r := by
 refine join_bytes ?_ (by decide)
 intro x hx
 rcases List.mem_append.1 hx with e | e
 ·obtain ⟨n, _, rfl⟩ := List.mem_map.1 e
  exact itoa_not (by decide) (by decide)
 ·simp at e
  rcases e with e | e
  ·subst e; decide
  ·subst e; exact itoa_not (by decide) (by decide)
theorem cut_rows (rs : List (List Int × Int)) : cutB 10 (rs.map rowT).flatten = rs.map rowL ++ [[]] := by
 induction rs with
 | nil => rfl
 | cons r rs ih =>
  rw [List.map_cons, List.flatten_cons, rowT_eq, List.append_assoc, List.singleton_append, cutB_hit (rowL_no r), ih]; rfl
theorem cut_text (p : PG) : cutB 10 (textF p) = costL p.costs :: p.rows.map rowL ++ [[]] := by
 rw [textF, costT_eq, List.append_assoc, List.singleton_append, cutB_hit (costL_no _), cut_rows]; rfl
theorem rowsP_some : ∀ {ls : List (List UInt8)} {rs : List (List Int × Int)}, rowsP ls = some rs → rs.map rowL = ls
 | [], rs, h => by simp [rowsP] at h; subst h; rfl
 | s :: l, rs, h => by
  rw [rowsP] at h
  cases hw : lineR s with
  | none => rw [hw] at h; exact absurd h (by simp)
  | some r =>
   cases hl : rowsP l with
   | none => rw [hw, hl] at h; exact absurd h (by simp)
   | some u =>
    rw [hw, hl] at h
    simp at h; subst h
    rw [List.map_cons, lineR_some hw, rowsP_some hl]
theorem text_lines {cs : List Int} {rs : List (List Int × Int)} : textF ⟨cs, rs⟩ = join (costL cs :: rs.map rowL ++ [[]]) [10] := by
 rw [← join_cutB 10 (textF ⟨cs, rs⟩), cut_text]
theorem text_par {s : List UInt8} (h : (parF s).2.1 = 0) : mayPB (parF s).1 = true ∧ textF (parF s).1 = s := by
 rcases parF_cases s with ⟨q, e, ht, hl, hm⟩ | ⟨k, e, _⟩
 ·rw [e]
  refine ⟨hm, ?_⟩
  simp only []
  have hlast : cutB 10 s = (cutB 10 s).take ((cutB 10 s).length - 1) ++ [[]] := by
   have h0 := cutB_ne 10 s
   conv => lhs; rw [← List.dropLast_concat_getLast h0]
   rw [List.dropLast_eq_take]
   congr 2
   rw [List.getLastD_eq_getLast?, List.getLast?_eq_some_getLast h0] at hl
   simpa using hl
  have hm' := mayPB_iff.1 hm
  cases hc : (cutB 10 s).take ((cutB 10 s).length - 1) with
  | nil =>
   rw [hc, takeP] at ht
   simp at ht
   rw [← ht] at hm'
   simp at hm'
  | cons x l =>
   rw [hc] at ht hlast
   rw [takeP] at ht
   cases h1 : lineC x with
   | none => rw [h1] at ht; exact absurd ht (by simp)
   | some cs =>
    cases h2 : rowsP l with
    | none => rw [h1, h2] at ht; exact absurd ht (by simp)
    | some rs =>
     rw [h1, h2] at ht
     simp at ht
     rw [← ht, text_lines, lineC_some h1, rowsP_some h2, ← hlast, join_cutB]
 ·rw [e] at h; exact absurd h (by simp)
theorem dec_lens : ∀ (k u : Nat), u < 10 ^ (k + 1) → (decDigits u).length ≤ k + 1 := by
 intro k
 induction k with
 | zero => intro u h; rw [decDigits_one (by omega)]; simp
 | succ k ih =>
  intro u h
  rw [decDigits]
  split
  ·simp
  ·have := ih (u / 10) (by rw [Nat.pow_succ] at h; omega)
   simp; omega
theorem itoa_len {n : Int} (h1 : -9223372036854775808 ≤ n) (h2 : n ≤ 9223372036854775807) : (itoa n).length ≤ 21 := by
 by_cases h : n < 0
 ·rw [itoa_neg h]
  have := dec_lens 19 n.natAbs (by omega)
  simp; omega
 ·rw [itoa_pos h]
  have := dec_lens 19 n.toNat (by omega)
  omega
theorem join_len {k : Nat} {b : UInt8} : ∀ {xs : List (List UInt8)}, (∀ x ∈ xs, x.length ≤ k) → (join xs [b]).length ≤ xs.length * (k + 1)
 | [], _ => by simp [join_nil]
 | [x], h => by rw [join_one]; have := h x (by simp); simp; omega
 | x :: y :: r, h => by
  have := join_len (b := b) (xs := y :: r) (fun z hz => h z (by simp [hz]))
  have hx := h x (by simp)
  rw [join_cons2, List.length_cons, Nat.succ_mul]
  simp only [List.length_append, List.length_singleton] at this ⊢
  omega
theorem small_itoa {m : Int} {l : List Int} (hm : m ≤ 999999) (h : smallB m l = true) : ∀ x ∈ l.map itoa, x.length ≤ 21 := by
 intro x hx
 obtain ⟨n, hn, rfl⟩ := List.mem_map.1 hx
 have := smallB_mem h hn
 exact itoa_len (by omega) (by omega)
theorem costL_len {cs : List Int} (h : smallB 400 cs = true) (hl : cs.length ≤ 4) : (costL cs).length ≤ 120 := by
 have := join_len (k := 21) (b := 32) (xs := mostW :: cs.map itoa) (by
  intro x hx
  rcases List.mem_cons.1 hx with e | e
  ·subst e; decide
  ·exact small_itoa (by decide) h x e)
 unfold costL
 simp at this ⊢; omega
theorem rowL_len {r : List Int × Int} (h : smallB 12 r.1 = true) (h' : -12 ≤ r.2 ∧ r.2 ≤ 12) (hl : r.1.length ≤ 4) : (rowL r).length ≤ 150 := by
 have := join_len (k := 21) (b := 32) (xs := r.1.map itoa ++ [leW, itoa r.2]) (by
  intro x hx
  rcases List.mem_append.1 hx with e | e
  ·exact small_itoa (by decide) h x e
  ·simp at e
   rcases e with e | e
   ·subst e; decide
   ·subst e; exact itoa_len (by omega) (by omega))
 unfold rowL
 simp at this ⊢; omega
theorem costT_len {cs : List Int} (h : smallB 400 cs = true) (hl : cs.length ≤ 4) : (costT cs).length ≤ 121 := by
 rw [costT_eq]; have := costL_len h hl; simp; omega
theorem rowsT_len {p : PG} (h : mayPB p = true) (k : Nat) (hk : k ≤ p.rows.length) : (((p.rows.take k).map rowT).flatten).length ≤ k * 151 := by
 induction k with
 | zero => simp
 | succ k ih =>
  have hr := mayPB_row h (k := k) (by omega)
  have h4 := mayPB_iff.1 h
  have := rowL_len hr.2.2 hr.2.1 (by omega)
  rw [List.take_succ_eq_append_getElem (by omega), List.map_append, List.flatten_append, List.length_append]
  have := ih (by omega)
  have e : ([p.rows[k]].map rowT).flatten = rowL p.rows[k] ++ [10] := by simp [rowT_eq]
  rw [e, List.length_append, List.length_singleton]
  omega
theorem rowsT_take {p : PG} {k : Nat} (hk : k < p.rows.length) : ((p.rows.take (k + 1)).map rowT).flatten = ((p.rows.take k).map rowT).flatten ++ (rowL p.rows[k] ++ [10]) := by
 rw [List.take_succ_eq_append_getElem hk, List.map_append, List.flatten_append]
 simp [rowT_eq]
theorem cut_step {c : UInt8} {s : List UInt8} {k f : Nat} (hk : k < s.length) (hf : f ≤ k) (hd : (s.take k).drop f = (cutB c (s.take k)).getLastD []) :
    (s[k] = c → (cutB c (s.take (k + 1))).dropLast = (cutB c (s.take k)).dropLast ++ [(s.take k).drop f] ∧ (s.take (k + 1)).drop (k + 1) = (cutB c (s.take (k + 1))).getLastD []) ∧
    (s[k] ≠ c → (cutB c (s.take (k + 1))).dropLast = (cutB c (s.take k)).dropLast ∧ (s.take (k + 1)).drop f = (cutB c (s.take (k + 1))).getLastD []) := by
 have hl : (s.take k).length = k := by rw [List.length_take]; omega
 rw [List.take_succ_eq_append_getElem hk, cutB_snoc]
 refine ⟨fun h => ?_, fun h => ?_⟩
 ·rw [if_pos h, List.dropLast_concat, List.getLastD_concat, hd]
  refine ⟨?_, ?_⟩
  ·have h0 := cutB_ne c (s.take k)
   conv => lhs; rw [← List.dropLast_concat_getLast h0]
   rw [List.getLastD_eq_getLast?, List.getLast?_eq_some_getLast h0]; rfl
  ·rw [List.drop_eq_nil_iff]; simp; omega
 ·rw [if_neg h, List.dropLast_concat, List.getLastD_concat, ← hd, List.drop_append_of_le_length (by omega)]
  exact ⟨rfl, rfl⟩
theorem cut_end {c : UInt8} {s : List UInt8} {f : Nat} (hd : s.drop f = (cutB c s).getLastD []) : (cutB c s).dropLast ++ [s.drop f] = cutB c s := by
 have h0 := cutB_ne c s
 rw [hd, List.getLastD_eq_getLast?, List.getLast?_eq_some_getLast h0]
 exact List.dropLast_concat_getLast h0
theorem cut_small {c : UInt8} {s : List UInt8} : (cutB c s).length ≤ s.length + 1 := by
 rw [cutB_length]; have := List.count_le_length (a := c) (l := s); omega
theorem cut_parts {c : UInt8} : ∀ {s : List UInt8}, ∀ x ∈ cutB c s, x.length ≤ s.length := by
 intro s
 induction s with
 | nil => intro x hx; simp [cutB] at hx; subst hx; simp
 | cons b l ih =>
  intro x hx
  rw [cutB] at hx
  split at hx
  ·rcases List.mem_cons.1 hx with e | e
   ·subst e; simp
   ·have := ih x e; simp; omega
  ·obtain ⟨h, t, ht⟩ := List.exists_cons_of_ne_nil (cutB_ne c l)
   rw [ht] at hx ih
   simp only [List.headD_cons, List.tail_cons, List.mem_cons] at hx
   rcases hx with e | e
   ·subst e; have := ih h (by simp); simp; omega
   ·have := ih x (by simp [e]); simp; omega
theorem digs_snoc (l : List UInt8) (c : UInt8) : ∀ a, digs a (l ++ [c]) = (digs a l).bind fun m => if 48 ≤ c.toNat ∧ c.toNat ≤ 57 then some (10 * m + (c.toNat - 48)) else none := by
 induction l with
 | nil => intro a; simp [digs]
 | cons x l ih =>
  intro a
  rw [List.cons_append, digs, digs]
  split
  ·exact ih _
  ·rfl
theorem digs_take {t : List UInt8} {k m : Nat} (hk : k < t.length) (h : digs 0 (t.take k) = some m) (hc : 48 ≤ (t[k]).toNat ∧ (t[k]).toNat ≤ 57) : digs 0 (t.take (k + 1)) = some (10 * m + ((t[k]).toNat - 48)) := by
 rw [List.take_succ_eq_append_getElem hk, digs_snoc, h]; simp [hc]
theorem digs_bad : ∀ {t : List UInt8} {k : Nat} (a : Nat) (hk : k < t.length), ¬ (48 ≤ (t[k]).toNat ∧ (t[k]).toNat ≤ 57) → digs a t = none
 | [], k, _, hk, _ => by simp at hk
 | c :: r, 0, a, _, h => by rw [digs, if_neg (by simpa using h)]
 | c :: r, k + 1, a, hk, h => by
  rw [digs]
  split
  ·exact digs_bad _ (by simpa using hk) (by simpa using h)
  ·rfl
theorem digs_small {t : List UInt8} {m : Nat} (h : digs 0 t = some m) (hl : t.length ≤ 6) : m < 1000000 := by
 have := digs_pow h
 have h6 : 10 ^ t.length ≤ 10 ^ 6 := Nat.pow_le_pow_right (by omega) hl
 omega
end Go.Proofs.YtjcdkbalhleeeaaGreatDoor

namespace Go.Proofs.YtjcdkbalhleeeaaGreatDoor
open Go.Lib (itoa join)
def wBest : List UInt8 := [98, 101, 115, 116]
def wEndless : List UInt8 := [101, 110, 100, 108, 101, 115, 115]
def wNothing : List UInt8 := [110, 111, 116, 104, 105, 110, 103]
def wGoes : List UInt8 := [103, 111, 101, 115]
def wNot : List UInt8 := [110, 111, 116]
def wBad : List UInt8 := [98, 97, 100]
def wOk : List UInt8 := [111, 107]
def wFresh : List UInt8 := [102, 114, 101, 115, 104]
def wTake : List UInt8 := [116, 97, 107, 101]
def wSolve : List UInt8 := [115, 111, 108, 118, 101]
def wShow : List UInt8 := [115, 104, 111, 119]
def wLook : List UInt8 := [108, 111, 111, 107]
def wWalk : List UInt8 := [119, 97, 108, 107]
def wSweep : List UInt8 := [115, 119, 101, 101, 112]
def wNone : List UInt8 := [110, 111, 110, 101]
def sayW (w : List UInt8) (n : Int) : List UInt8 := w ++ 32 :: itoa n
def frcW (n d : Int) : List UInt8 := itoa n ++ 47 :: itoa d
structure PlS where
 p : PG
 t : List UInt8
 there : Bool
def solS (p : PG) : List UInt8 := if (solZ p).kind = 1 then wBest ++ 32 :: frcW (solZ p).wn (solZ p).wd else if (solZ p).kind = 2 then wEndless else wNothing
def shoS (p : PG) : List UInt8 := itoa ((textF p).length : Nat)
def wthN (p : PG) (l : List Int) : Int := frN (dot p.costs ((lookC p l).xs.take p.costs.length)) (lookC p l).xd
def wthD (p : PG) (l : List Int) : Int := ptD [dot p.costs ((lookC p l).xs.take p.costs.length)] (lookC p l).xd
def lokS (p : PG) (l : List Int) : List UInt8 := if lookE p l = 0 then (if nonneg (lookC p l).xs = true then wGoes else wNot) ++ 32 :: frcW (wthN p l) (wthD p l) else sayW wBad (lookE p l)
def wlkE (p : PG) (l : List Nat) : Nat := ((List.range 256).find? fun k => match wk p l k with
 | some lk => (nxtZ p lk).isNone
 | none => false).getD 0
theorem wlk_end {p : PG} {l : List Nat} (ho : OKb p l) {k : Nat} {lk : List Nat} (h : EndAt p l k lk) : wlkE p l = k := by
 unfold wlkE
 have hk := wk_fewer ho h.at_
 cases hf : (List.range 256).find? (fun k => match wk p l k with
  | some lk => (nxtZ p lk).isNone
  | none => false) with
 | none =>
  have := List.find?_eq_none.1 hf k (List.mem_range.2 hk)
  rw [h.at_] at this
  simp [h.no] at this
 | some j =>
  have := List.find?_some hf
  cases hj : wk p l j with
  | none => rw [hj] at this; cases this
  | some lj =>
   rw [hj] at this
   have he : EndAt p l j lj := ⟨hj, by simpa using this⟩
   exact (he.uniq h).1
def wlkS (p : PG) (l : List Int) : List UInt8 := if nextE p l = 0 then sayW (if kindZ p ((wk p (nats l) (wlkE p (nats l))).getD []) = 1 then wBest else wEndless) ((wlkE p (nats l) + 1 : Nat) : Int) else sayW wBad (nextE p l)
def linesS (s : List UInt8) : List (List UInt8) := (if (cutB 10 s).getLastD [] = [] then (cutB 10 s).dropLast else cutB 10 s).take 60
section
variable (swp : PG → List Int → List UInt8)
def askS (p : PG) (s : List UInt8) (l : List Int) : Option (List UInt8) :=
 if s = wSolve then some (solS p) else if s = wShow then some (shoS p) else if (cutB 32 s).headD [] = wLook then some (lokS p l) else if (cutB 32 s).headD [] = wWalk then some (wlkS p l)
 else if (cutB 32 s).headD [] = wSweep then some (swp p l) else none
def lineS (st : PlS) (s : List UInt8) : List UInt8 × PlS :=
 if s.take 2 = [61, 32] then (sayW wOk ((st.t ++ (s.drop 2 ++ [10])).length : Nat), ⟨st.p, st.t ++ (s.drop 2 ++ [10]), st.there⟩)
 else if s = wFresh then (wOk, ⟨st.p, [], st.there⟩)
 else if s = wTake then (if (parF st.t).2.1 = 0 then (sayW wOk ((parF st.t).1.rows.length : Nat), ⟨(parF st.t).1, st.t, true⟩) else (sayW wBad ((parF st.t).2.2 : Nat), st))
 else match numsR (cutB 32 s).tail with
  | none => ([63], st)
  | some l => match askS swp st.p s l with
   | none => ([63], st)
   | some o => (if st.there = true then o else wNone, st)
def stepS (a : List UInt8 × PlS) (s : List UInt8) : List UInt8 × PlS := (a.1 ++ ((lineS swp a.2 s).1 ++ [10]), (lineS swp a.2 s).2)
def begS : List UInt8 × PlS := ([], ⟨⟨[], []⟩, [], false⟩)
def playS (s : List UInt8) : List UInt8 := ((linesS s).foldl (stepS swp) begS).1
end
end Go.Proofs.YtjcdkbalhleeeaaGreatDoor
