/-
  Plain words and laws of linear programs, put together: no program in sight. No condition.
-/
import Derived.Test.YtjcdkbalhleeeabPlainA
/-
  Plain: the program whose rows may be at most what a column has; a sort of rising columns with one more. No program in sight.
-/
namespace Go.Proofs.Ytjcdkbalhleeeab

/-- What a column has, row by row. -/
def colP (p : PG) (r : Nat) : List Int := (List.range p.rows.length).map fun i => hasZ p i r
theorem colP_len (p : PG) (r : Nat) : (colP p r).length = p.rows.length := by simp [colP]
theorem colP_at (p : PG) (r : Nat) {i : Nat} (h : i < p.rows.length) : (colP p r).getD i 0 = hasZ p i r := by simp [colP, List.getD, h]
theorem qOf_mosts (p : PG) (r : Nat) : qOf p r = mostsOf p (colP p r) := by
  unfold qOf mostsOf rowsK
  congr 1
  refine List.map_congr_left fun i hi => ?_
  rw [colP_at p r (List.mem_range.1 hi)]
theorem colP_small {p : PG} (hp : mayPB p = true) (r : Nat) : smallB 12 (colP p r) = true := by
  unfold smallB colP
  rw [List.all_eq_true]
  intro x hx
  simp only [List.mem_map, List.mem_range] at hx
  obtain ⟨i, hi, rfl⟩ := hx
  have := hasZ_bound hp i r
  simp
  omega
theorem qOf_E {p : PG} {l : List Int} (h : lookE p l = 0) (r : Nat) : lookE (qOf p r) l = 0 := by
  have hp : mayPB p = true := by
    unfold lookE at h
    split at h
    · omega
    · rename_i g; simpa using g
  rw [qOf_mosts]
  exact mostsOf_E (colP_len p r) (colP_small hp r) h

theorem sort_ins {w : List Nat} {r : Nat} (h : w.Pairwise (· < ·)) (hr : r ∉ w) : (ints w ++ [(r : Int)]).mergeSort (fun x y => decide (x ≤ y)) = ints (insN w r) := by
  have hp : (insN w r).Pairwise (· < ·) := insN_pw h hr
  have hperm : (ints w ++ [(r : Int)]).Perm (ints (insN w r)) := by
    unfold insN ints
    have e : w.takeWhile (fun j => decide (j < r)) ++ w.dropWhile (fun j => decide (j < r)) = w := List.takeWhile_append_dropWhile
    conv => lhs; rw [← e]
    rw [List.map_append, List.map_append, List.map_cons, List.append_assoc]
    refine List.Perm.append_left _ ?_
    exact (List.perm_append_comm (l₁ := _) (l₂ := [(r : Int)]))
  have hs : (ints (insN w r)).Pairwise (fun a b : Int => a ≤ b) := by
    unfold ints
    rw [List.pairwise_map]
    exact hp.imp fun {a b} q => by simp; omega
  have h1 := List.pairwise_mergeSort (le := fun x y : Int => decide (x ≤ y)) (by intro a b c; simp; omega) (by intro a b; simp; omega) (ints w ++ [(r : Int)])
  have h2 : ((ints w ++ [(r : Int)]).mergeSort fun x y => decide (x ≤ y)).Perm (ints (insN w r)) := (List.mergeSort_perm _ _).trans hperm
  refine List.Perm.eq_of_pairwise (le := fun a b : Int => a ≤ b) ?_ (h1.imp fun {a b} q => by simpa using q) hs h2
  intro a b _ _ x y
  exact Int.le_antisymm x y
theorem ints_erase : ∀ (l : List Nat) (k : Nat), (ints l).eraseIdx k = ints (l.eraseIdx k)
  | [], _ => rfl
  | _ :: _, 0 => rfl
  | a :: l, k + 1 => by
    show Int.ofNat a :: (ints l).eraseIdx k = Int.ofNat a :: ints (l.eraseIdx k)
    rw [ints_erase l k]
end Go.Proofs.Ytjcdkbalhleeeab

/-
  Plain: the document's list of all columns that are right, and that it has all of them. No program in sight.
-/
namespace Go.Proofs.Ytjcdkbalhleeeab

/-- The columns behind these: the last place below n that can grow does. -/
def nxA (N : Nat) (l : List Nat) : Nat → Option (List Nat)
  | 0 => none
  | n + 1 => if l.getD n 0 + (l.length - n) < N then some (l.take n ++ (List.range (l.length - n)).map fun i => l.getD n 0 + 1 + i) else nxA N l n
def allF (N : Nat) : Nat → List Nat → List (List Nat)
  | 0, _ => []
  | f + 1, l => l :: (match nxA N l l.length with
    | none => []
    | some l' => allF N f l')
def allA (p : PG) : List (List Nat) := allF (p.costs.length + p.rows.length) 100 (List.range p.rows.length)
theorem allF_len (N : Nat) : ∀ (f : Nat) (l : List Nat), (allF N f l).length ≤ f
  | 0, _ => by simp [allF]
  | f + 1, l => by
    rw [allF]
    cases h : nxA N l l.length with
    | none => simp
    | some l' => simp only [List.length_cons]; have := allF_len N f l'; omega
/-- One by one: the i-th's next is the one behind it; the last one has none. -/
theorem allF_next (N : Nat) : ∀ (f : Nat) (l : List Nat) (i : Nat), (allF N f l).length < f → i < (allF N f l).length →
    (nxA N ((allF N f l).getD i []) ((allF N f l).getD i []).length = if i + 1 < (allF N f l).length then some ((allF N f l).getD (i + 1) []) else none)
  | 0, _, _, h, _ => by omega
  | f + 1, l, i, h, hi => by
    rw [allF] at h hi ⊢
    cases hn : nxA N l l.length with
    | none =>
      rw [hn] at h hi
      simp at hi
      subst hi
      simp [hn]
    | some l' =>
      rw [hn] at h hi
      simp only [List.length_cons] at h hi ⊢
      have h0 : 0 < (allF N f l').length := by
        cases f with
        | zero => omega
        | succ f => rw [allF]; simp
      cases i with
      | zero =>
        rw [if_pos (by omega)]
        simp only [List.getD_cons_zero, List.getD_cons_succ]
        rw [hn]
        congr 1
        cases f with
        | zero => omega
        | succ f => rw [allF]; simp
      | succ i =>
        have := allF_next N f l' i (by omega) (by omega)
        simp only [List.getD_cons_succ]
        rw [this]
        by_cases e : i + 1 < (allF N f l').length
        · rw [if_pos e, if_pos (by omega)]
        · rw [if_neg e, if_neg (by omega)]
def chk (n m : Nat) : Bool :=
  decide ((allF (n + m) 100 (List.range m)).length < 100) && ((allF (n + m) 100 (List.range m)).all (fun l => decide (l.length = m) && (l.all (fun j => decide (j < n + m)) && decide (l = bitsN (n + m) (code l (n + m))))) &&
    (List.range (2 ^ (n + m))).all fun s => !decide ((bitsN (n + m) s).length = m) || (allF (n + m) 100 (List.range m)).contains (bitsN (n + m) s))
theorem chk_all : (List.range 5).all (fun n => (List.range 5).all fun m => n == 0 || (m == 0 || chk n m)) = true := by decide +kernel
theorem chk_at {n m : Nat} (h1 : 1 ≤ n) (h2 : n ≤ 4) (h3 : 1 ≤ m) (h4 : m ≤ 4) : chk n m = true := by
  have h := chk_all
  rw [List.all_eq_true] at h
  have := h n (by simp; omega)
  rw [List.all_eq_true] at this
  have := this m (by simp; omega)
  simp only [Bool.or_eq_true, beq_iff_eq] at this
  rcases this with h | h | h
  · omega
  · omega
  · exact h
section
variable {p : PG}
theorem all_parts (hp : mayPB p = true) : (allA p).length < 100 ∧ (∀ l ∈ allA p, RightL p l) ∧ ∀ l, RightL p l → l ∈ allA p := by
  obtain ⟨h1, h2, h3, h4, _⟩ := mayPB_iff.1 hp
  have h := chk_at h1 h2 h3 h4
  unfold chk at h
  simp only [Bool.and_eq_true, List.all_eq_true, decide_eq_true_eq] at h
  obtain ⟨k1, k2, k3⟩ := h
  refine ⟨k1, fun l hl => ?_, fun l hl => ?_⟩
  · obtain ⟨q1, q2, q3⟩ := k2 l hl
    refine ⟨q1, fun j hj => q2 j hj, ?_⟩
    rw [q3]; exact bits_pw _ _
  · have := k3 (code l _) (by rw [List.mem_range]; exact code_lt _ _)
    rw [bits_code hl.lt hl.pw] at this
    simp only [Bool.or_eq_true, Bool.not_eq_true', decide_eq_false_iff_not, List.contains_iff_mem] at this
    rcases this with q | q
    · exact absurd hl.len q
    · exact q
theorem all_pos' (hp : mayPB p = true) : 0 < (allA p).length := by
  unfold allA; rw [allF]; simp
theorem all_zero : (allA p).getD 0 [] = List.range p.rows.length := by unfold allA; rw [allF]; rfl
theorem all_next (hp : mayPB p = true) {i : Nat} (hi : i < (allA p).length) :
    nxA (p.costs.length + p.rows.length) ((allA p).getD i []) ((allA p).getD i []).length = if i + 1 < (allA p).length then some ((allA p).getD (i + 1) []) else none :=
  allF_next _ 100 _ i (all_parts hp).1 hi
theorem all_right (hp : mayPB p = true) {i : Nat} (hi : i < (allA p).length) : RightL p ((allA p).getD i []) := by
  refine (all_parts hp).2.1 _ ?_
  simp [List.getD, List.getElem?_eq_getElem hi]
end
/-- The kind, by all of them. -/
def bestB' (p : PG) (l : List Nat) : Bool := decide (lookE p (ints l) = 0) && (nonneg (lookN p l).xs && (lookN p l).gs.all fun n => decide (n ≤ 0))
def goesC (p : PG) (l : List Nat) : Bool := decide (lookE p (ints l) = 0) && nonneg (lookN p l).xs
def kindD (p : PG) : Int := if (allA p).any (bestB' p) = true then 1 else if (allA p).any (goesC p) = true then 2 else 3
theorem goesC_iff {p : PG} {l : List Nat} : goesC p l = true ↔ OKb p l := by
  unfold goesC
  simp only [Bool.and_eq_true, decide_eq_true_eq]
  constructor
  · rintro ⟨h1, h2⟩
    obtain ⟨q1, q2, q3⟩ := look_parts h1
    rw [nats_ints] at q3
    have := (right_nats q2).1
    rw [nats_ints] at this
    exact ⟨q1, this, q3, h2⟩
  · intro h; exact ⟨ok_look h, h.hx⟩
theorem gsle_iff {l : List Int} : (l.all fun n => decide (n ≤ 0)) = true ↔ ∀ j, l.getD j 0 ≤ 0 := by
  rw [List.all_eq_true]
  constructor
  · intro h j
    by_cases hj : j < l.length
    · have := h l[j] (List.getElem_mem hj); simpa [List.getD, List.getElem?_eq_getElem hj] using this
    · simp [List.getD, List.getElem?_eq_none (Nat.le_of_not_lt hj)]
  · intro h n hn
    obtain ⟨j, hj, rfl⟩ := List.mem_iff_getElem.1 hn
    have := h j; simpa [List.getD, List.getElem?_eq_getElem hj] using this
theorem bestB'_iff {p : PG} {l : List Nat} : bestB' p l = true ↔ BestC p l := by
  unfold bestB' BestC
  rw [← goesC_iff, ← gsle_iff]
  unfold goesC
  simp only [Bool.and_eq_true, decide_eq_true_eq, and_assoc]
theorem kindD_is {p : PG} (hp : mayPB p = true) : KindR p (kindD p) := by
  obtain ⟨_, h2, h3⟩ := all_parts hp
  have e1 : (allA p).any (bestB' p) = true ↔ ∃ l, BestC p l := by
    rw [List.any_eq_true]
    exact ⟨fun ⟨l, _, h⟩ => ⟨l, bestB'_iff.1 h⟩, fun ⟨l, h⟩ => ⟨l, h3 l h.1.hr, bestB'_iff.2 h⟩⟩
  have e2 : (allA p).any (goesC p) = true ↔ ∃ l, OKb p l := by
    rw [List.any_eq_true]
    exact ⟨fun ⟨l, _, h⟩ => ⟨l, goesC_iff.1 h⟩, fun ⟨l, h⟩ => ⟨l, h3 l h.hr, goesC_iff.2 h⟩⟩
  unfold kindD KindR
  by_cases h : (allA p).any (bestB' p) = true
  · rw [if_pos h]; exact .inl ⟨rfl, e1.1 h⟩
  · rw [if_neg h]
    have hn : ∀ l, ¬ BestC p l := fun l q => h (e1.2 ⟨l, q⟩)
    by_cases h' : (allA p).any (goesC p) = true
    · rw [if_pos h']; exact .inr (.inl ⟨rfl, e2.1 h', hn⟩)
    · rw [if_neg h']; exact .inr (.inr ⟨rfl, fun l q => h' (e2.2 ⟨l, q⟩)⟩)
theorem sol_kind {p : PG} (hp : mayPB p = true) : (solZ p).kind = kindD p := (sol_all hp).2.1.uniq (kindD_is hp)
end Go.Proofs.Ytjcdkbalhleeeab

/-
  Plain: the document's Swap puts one column in the place of another one, rising. No program in sight.
-/
namespace Go.Proofs.Ytjcdkbalhleeeab

/-- The document's way: b says whether the new column is in. -/
def swapF (out inn : Nat) : List Nat → Bool → List Nat
  | [], b => if b then [] else [inn]
  | a :: l, b => (if inn < a ∧ b = false then [inn] else []) ++ ((if a ≠ out then [a] else []) ++ swapF out inn l (b || decide (inn < a)))
theorem swapF_true (out inn : Nat) : ∀ l : List Nat, swapF out inn l true = l.filter (fun a => decide (a ≠ out))
  | [] => rfl
  | a :: l => by
    rw [swapF, if_neg (by simp)]
    simp only [Bool.true_or, List.nil_append]
    rw [swapF_true out inn l]
    by_cases h : a = out
    · simp [h]
    · simp [h]
theorem insN_ge {w : List Nat} {r : Nat} (h : ∀ a ∈ w, r < a) : insN w r = r :: w := by
  cases w with
  | nil => rfl
  | cons a w =>
    have := h a (by simp)
    simp [insN, show ¬ a < r by omega]
theorem insN_lt {a r : Nat} {w : List Nat} (h : a < r) : insN (a :: w) r = a :: insN w r := by simp [insN, h]
theorem swapF_false (out inn : Nat) : ∀ l : List Nat, l.Pairwise (· < ·) → inn ∉ l → swapF out inn l false = insN (l.filter (fun a => decide (a ≠ out))) inn
  | [], _, _ => rfl
  | a :: l, hp, hn => by
    rw [List.pairwise_cons] at hp
    have hne : a ≠ inn := fun e => hn (by simp [e])
    rw [swapF]
    by_cases hlt : inn < a
    · rw [if_pos ⟨hlt, rfl⟩]
      simp only [hlt, decide_true, Bool.or_true]
      rw [swapF_true]
      have hall : ∀ x ∈ (a :: l).filter (fun a => decide (a ≠ out)), inn < x := by
        intro x hx
        rcases List.mem_cons.1 (List.mem_filter.1 hx).1 with e | e
        · omega
        · have := hp.1 x e; omega
      rw [insN_ge hall]
      by_cases h : a = out
      · simp [h]
      · simp [h]
    · rw [if_neg (fun q => hlt q.1)]
      have hd : decide (inn < a) = false := by simp; omega
      rw [hd, Bool.or_false, swapF_false out inn l hp.2 (fun q => hn (by simp [q]))]
      by_cases h : a = out
      · simp [h]
      · have e : (a :: l).filter (fun a => decide (a ≠ out)) = a :: l.filter (fun a => decide (a ≠ out)) := by simp [h]
        rw [e, insN_lt (by omega)]
        simp [h]
theorem filter_erase {p : PG} {l : List Nat} (hr : RightL p l) {k : Nat} (hk : k < l.length) : l.filter (fun a => decide (a ≠ l.getD k 0)) = l.eraseIdx k := by
  refine pw_ext (hr.pw.sublist List.filter_sublist) (hr.pw.sublist (List.eraseIdx_sublist l k)) fun j => ?_
  rw [mem_erase hr hk, List.mem_filter]
  simp
theorem swap_ins {p : PG} {l : List Nat} (hr : RightL p l) {k r : Nat} (hk : k < l.length) (hrl : r ∉ l) : swapF (l.getD k 0) r l false = insN (l.eraseIdx k) r := by
  rw [swapF_false _ _ l hr.pw hrl, filter_erase hr hk]
end Go.Proofs.Ytjcdkbalhleeeab
