/-
  Contracts of functions and plain laws that later parts of the proof use. The conditions stand in each theorem.
-/
import Derived.Test.YtjcdkbalhleeeabG03
namespace Go.Proofs.Ytjcdkbalhleeeab

/-! A corner's span along the line, by numbers. -/
def spW (p : PG) (b : List Int) (l : List Nat) : NW :=
  ofZ (fun j => 1 * (lookN p l).gs.getD j 0 * (lookN (costsOf p b) l).gd) (fun j => 1 * (lookN (costsOf p b) l).gs.getD j 0 * (lookN p l).gd) (lookN p l).gs.length
/-- A number within two ends. -/
def InQ (F T : EN) (t : Rat) : Prop := (F.op = true ∨ (F.n : Rat) ≤ t * (F.d : Rat)) ∧ (T.op = true ∨ t * (T.d : Rat) ≤ (T.n : Rat))
/-- Costs and their growth that may be. -/
structure By (p : PG) (b : List Int) : Prop where
  len : b.length = p.costs.length
  small : smallB 400 b = true
section
variable {p : PG} {b : List Int} {l : List Nat}
theorem costs_bs (hb : By p b) (h : Bs p l) : Bs (costsOf p b) l := ⟨costs_may hb.len h.hp hb.small, costs_right hb.len h.hr, by rw [costs_den hb.len]; exact h.hd⟩
/-- What a corner is worth, and its growth. -/
def baseQ (p : PG) (l : List Nat) : Rat := sumR (fun j => cq p j * xq (lookN p l) j) (p.costs.length + p.rows.length)
def slopQ (p : PG) (b : List Int) (l : List Nat) : Rat := sumR (fun j => cq (costsOf p b) j * xq (lookN p l) j) (p.costs.length + p.rows.length)
/-- Best at t. -/
def BestT (p : PG) (b : List Int) (l : List Nat) (t : Rat) : Prop := ∀ j, j < p.costs.length + p.rows.length → gq (lookN p l) j + t * gq (lookN (costsOf p b) l) j ≤ 0
/-- A point that goes. -/
structure PtQ (p : PG) (z : Nat → Rat) : Prop where
  ge : ∀ j, 0 ≤ z j
  row : ∀ i, i < p.rows.length → sumR (fun j => aq p i j * z j) (p.costs.length + p.rows.length) = ((mosts p).getD i 0 : Rat)
theorem ok_pt (h : OKb p l) : PtQ p (xq (lookN p l)) := by
  obtain ⟨_, _, _, hc⟩ := corn_of h.hp h.hr h.hd
  exact ⟨fun j => (nonneg_div hc.px).2 (nonneg_at h.hx j), fun i hi => hc.rowQ hi⟩
theorem best_max (hb : By p b) (h : Bs p l) {t : Rat} (ht : BestT p b l t) {z : Nat → Rat} (hz : PtQ p z) :
    sumR (fun j => cq p j * z j) (p.costs.length + p.rows.length) + t * sumR (fun j => cq (costsOf p b) j * z j) (p.costs.length + p.rows.length) ≤ baseQ p l + t * slopQ p b l := by
  obtain ⟨_, _, _, hc⟩ := corn_of h.hp h.hr h.hd
  have h' := costs_bs hb h
  obtain ⟨_, _, _, hd⟩ := corn_of h'.hp h'.hr h'.hd
  have hN : (costsOf p b).costs.length + (costsOf p b).rows.length = p.costs.length + p.rows.length := by show b.length + p.rows.length = _; rw [hb.len]
  have hdir : ∀ i, i < p.rows.length → sumR (fun j => aq p i j * (z j - xq (lookN p l) j)) (p.costs.length + p.rows.length) = 0 := fun i hi => by
    rw [sumR_congr (g := fun j => aq p i j * z j + (-1) * (aq p i j * xq (lookN p l) j)) fun j _ => by grind, sumR_add, sumR_mul, hz.row i hi, hc.rowQ hi]; grind
  have w1 := worth_dir hc hdir
  have w2 := worth_dir hd (d := fun j => z j - xq (lookN p l) j) (fun i hi => by
    rw [hN]
    have := hdir i hi
    rw [← this]
    exact sumR_congr fun j _ => by unfold aq; rw [costs_has hb.len])
  rw [hN] at w2
  have e1 : sumR (fun j => cq p j * (z j - xq (lookN p l) j)) (p.costs.length + p.rows.length) = sumR (fun j => cq p j * z j) (p.costs.length + p.rows.length) - baseQ p l := by
    unfold baseQ
    rw [sumR_congr (g := fun j => cq p j * z j + (-1) * (cq p j * xq (lookN p l) j)) fun j _ => by grind, sumR_add, sumR_mul]; grind
  have e2 : sumR (fun j => cq (costsOf p b) j * (z j - xq (lookN p l) j)) (p.costs.length + p.rows.length) = sumR (fun j => cq (costsOf p b) j * z j) (p.costs.length + p.rows.length) - slopQ p b l := by
    unfold slopQ
    rw [sumR_congr (g := fun j => cq (costsOf p b) j * z j + (-1) * (cq (costsOf p b) j * xq (lookN p l) j)) fun j _ => by grind, sumR_add, sumR_mul]; grind
  have hsum : sumR (fun j => gq (lookN p l) j * (z j - xq (lookN p l) j) + t * (gq (lookN (costsOf p b) l) j * (z j - xq (lookN p l) j))) (p.costs.length + p.rows.length) ≤ 0 := by
    have : ∀ n, n ≤ p.costs.length + p.rows.length → sumR (fun j => gq (lookN p l) j * (z j - xq (lookN p l) j) + t * (gq (lookN (costsOf p b) l) j * (z j - xq (lookN p l) j))) n ≤ 0 := by
      intro n
      induction n with
      | zero => intro _; simp [sumR]
      | succ n ih =>
        intro hn
        rw [sumR]
        have h0 := ih (by omega)
        have : gq (lookN p l) n * (z n - xq (lookN p l) n) + t * (gq (lookN (costsOf p b) l) n * (z n - xq (lookN p l) n)) ≤ 0 := by
          by_cases hnl : n ∈ l
          · rw [hc.gainQ0 hnl, hd.gainQ0 hnl]; grind
          · rw [hc.offQ hnl]
            have k1 := ht n (by omega)
            have k2 := Rat.mul_nonneg (show 0 ≤ -(gq (lookN p l) n + t * gq (lookN (costsOf p b) l) n) by grind) (hz.ge n)
            grind
        grind
    exact this _ (Nat.le_refl _)
  rw [sumR_add, sumR_mul, ← w1, ← w2, e1, e2] at hsum
  grind
theorem InQ_iff {F T : EN} {n d : Int} (hd : 0 < d) (_hF : EPos F) (_hT : EPos T) : InQ F T ((n : Rat) / (d : Rat)) ↔ ((F.op = true ∨ F.n * d ≤ n * F.d) ∧ (T.op = true ∨ n * T.d ≤ T.n * d)) := by
  have h1 := cast_pos hd
  have key : ∀ x y : Int, ((x : Rat) ≤ (n : Rat) / (d : Rat) * (y : Rat) ↔ x * d ≤ n * y) ∧ ((n : Rat) / (d : Rat) * (y : Rat) ≤ (x : Rat) ↔ n * y ≤ x * d) := by
    intro x y
    have e : (n : Rat) / (d : Rat) * (y : Rat) - (x : Rat) = ((n * y - x * d : Int) : Rat) / (d : Rat) := by
      rw [Rat.intCast_sub, Rat.intCast_mul, Rat.intCast_mul]; grind
    have a1 := nonneg_div (a := n * y - x * d) hd
    have a2 := sign_div (a := n * y - x * d) hd
    rw [← e] at a1 a2
    constructor
    · constructor
      · intro h
        have := a1.1 (by grind); omega
      · intro h
        have := a1.2 (by omega); grind
    · constructor
      · intro h
        apply Classical.byContradiction
        intro q
        have := a2.1.2 (by omega); grind
      · intro h
        apply Classical.byContradiction
        intro q
        have := a2.1.1 (by grind); omega
  unfold InQ
  rw [(key F.n F.d).1, (key T.n T.d).2]
theorem rat_div (t : Rat) : ∃ n d : Int, 0 < d ∧ t = (n : Rat) / (d : Rat) := ⟨t.num, t.den, by have := t.den_pos; omega, by
  have h := Rat.num_divInt_den t
  rw [Rat.divInt_eq_div] at h
  exact h.symm⟩
theorem spW_pt (hb : By p b) (h : Bs p l) (j : Nat) (hj : j < (lookN p l).gs.length) (hg : 1 * (lookN (costsOf p b) l).gs.getD j 0 * (lookN p l).gd ≠ 0) :
    ptE [-(1 * (lookN p l).gs.getD j 0 * (lookN (costsOf p b) l).gd)] (1 * (lookN (costsOf p b) l).gs.getD j 0 * (lookN p l).gd) = 0 := by
  obtain ⟨_, _, _, hc⟩ := corn_of h.hp h.hr h.hd
  have h' := costs_bs hb h
  obtain ⟨_, _, _, hd⟩ := corn_of h'.hp h'.hr h'.hd
  rw [hc.lg] at hj
  have := span_made hb.len hc hd j hj (by unfold gZ; intro e; apply hg; rw [Int.one_mul]; exact e)
  rw [Int.one_mul, Int.one_mul]
  exact this
theorem spW_ok (hb : By p b) (h : Bs p l) : NOk (spW p b l) := by
  unfold spW
  exact (of_up (f' := fun j => 0 - (1 * (lookN p l).gs.getD j 0 * (lookN (costsOf p b) l).gd)) (g' := fun j => 0 - (1 * (lookN (costsOf p b) l).gs.getD j 0 * (lookN p l).gd)) (fun _ _ => rfl) (fun _ _ => rfl) fun j hj hg => spW_pt hb h j hj hg).2
/-- Within what is told, and there alone, the corner is best. -/
theorem spW_best (hb : By p b) (h : Bs p l) (t : Rat) : (endsE (spW p b l) = 0 ∧ InQ (endsF (spW p b l)) (endsT (spW p b l)) t) ↔ BestT p b l t := by
  obtain ⟨n, d, hd0, rfl⟩ := rat_div t
  obtain ⟨_, _, _, hc⟩ := corn_of h.hp h.hr h.hd
  have h' := costs_bs hb h
  obtain ⟨_, _, _, hd⟩ := corn_of h'.hp h'.hr h'.hd
  have hok := spW_ok hb h
  have key := ends_in hok (n := n) hd0
  have hin := of_in (f := fun j => 1 * (lookN p l).gs.getD j 0 * (lookN (costsOf p b) l).gd) (g := fun j => 1 * (lookN (costsOf p b) l).gs.getD j 0 * (lookN p l).gd) (n := n) hd0 (k := (lookN p l).gs.length) (fun j hj hg => spW_pt hb h j hj hg)
  have e1 : (endsE (spW p b l) = 0 ∧ InQ (endsF (spW p b l)) (endsT (spW p b l)) ((n : Rat) / (d : Rat))) ↔ inE (spW p b l) n d := by
    rw [← key]
    by_cases h0 : endsE (spW p b l) = 0
    · have pF : EPos (endsF (spW p b l)) := by unfold endsF; rw [if_pos h0]; exact hok.pos.1
      have pT : EPos (endsT (spW p b l)) := by unfold endsT; rw [if_pos h0]; exact hok.pos.2
      rw [InQ_iff hd0 pF pT]
      unfold cmpZ
      constructor
      · rintro ⟨x, y, z⟩; exact ⟨x, y.imp id (fun q => by omega), z.imp id (fun q => by omega)⟩
      · rintro ⟨x, y, z⟩; exact ⟨x, y.imp id (fun q => by omega), z.imp id (fun q => by omega)⟩
    · exact ⟨fun q => absurd q.1 h0, fun q => absurd q.1 h0⟩
  rw [e1, show spW p b l = ofZ (fun j => 1 * (lookN p l).gs.getD j 0 * (lookN (costsOf p b) l).gd) (fun j => 1 * (lookN (costsOf p b) l).gs.getD j 0 * (lookN p l).gd) (lookN p l).gs.length from rfl, hin, hc.lg]
  unfold BestT
  have hsg : ∀ j, (1 * (lookN p l).gs.getD j 0 * (lookN (costsOf p b) l).gd * d + n * (1 * (lookN (costsOf p b) l).gs.getD j 0 * (lookN p l).gd) ≤ 0 ↔ gq (lookN p l) j + (n : Rat) / (d : Rat) * gq (lookN (costsOf p b) l) j ≤ 0) := by
    intro j
    have p1 := hc.pg
    have p2 := hd.pg
    have q1 := cast_pos p1
    have q2 := cast_pos p2
    have q3 := cast_pos hd0
    have hpos : 0 < (lookN p l).gd * (lookN (costsOf p b) l).gd * d := Int.mul_pos (Int.mul_pos p1 p2) hd0
    have e : gq (lookN p l) j + (n : Rat) / (d : Rat) * gq (lookN (costsOf p b) l) j =
        ((1 * (lookN p l).gs.getD j 0 * (lookN (costsOf p b) l).gd * d + n * (1 * (lookN (costsOf p b) l).gs.getD j 0 * (lookN p l).gd) : Int) : Rat) / (((lookN p l).gd * (lookN (costsOf p b) l).gd * d : Int) : Rat) := by
      unfold gq
      simp only [Rat.intCast_add, Rat.intCast_mul]
      grind
    have s := sign_div (a := 1 * (lookN p l).gs.getD j 0 * (lookN (costsOf p b) l).gd * d + n * (1 * (lookN (costsOf p b) l).gs.getD j 0 * (lookN p l).gd)) hpos
    rw [← e] at s
    constructor
    · intro q
      apply Classical.byContradiction
      intro w
      have := s.1.1 (by grind); omega
    · intro q
      apply Classical.byContradiction
      intro w
      have := s.1.2 (by omega); grind
  constructor
  · intro q j hj; exact (hsg j).1 (q j hj)
  · intro q j hj; exact (hsg j).2 (q j hj)
/-- An end that is open is just that. -/
theorem of_open {f g : Nat → Int} : ∀ k, ((ofZ f g k).fr.op = true → (ofZ f g k).fr = openE) ∧ ((ofZ f g k).to.op = true → (ofZ f g k).to = openE)
  | 0 => by simp [ofZ, wholeN]
  | k + 1 => by
    obtain ⟨h1, h2⟩ := of_open (f := f) (g := g) k
    rw [ofZ_succ]
    unfold belowZ
    split
    · exact ⟨h1, h2⟩
    · split
      · exact ⟨h1, fun q => by simp [endE] at q⟩
      · split
        · exact ⟨fun q => by simp [endE] at q, h2⟩
        · exact ⟨h1, h2⟩
theorem ends_open (h0 : endsE (spW p b l) = 0) : ((endsF (spW p b l)).op = true → endsF (spW p b l) = openE) ∧ ((endsT (spW p b l)).op = true → endsT (spW p b l) = openE) := by
  unfold endsF endsT
  rw [if_pos h0, if_pos h0]
  exact of_open _
end
end Go.Proofs.Ytjcdkbalhleeeab

namespace Go.Proofs.Ytjcdkbalhleeeab

/-- A piece: from, to, base, slope. -/
structure PC where
  fr : EN
  to : EN
  bn : Int
  bd : Int
  sn : Int
  sd : Int
deriving DecidableEq
def PC.line (x : PC) : Int × Int × Int × Int := (x.bn, x.bd, x.sn, x.sd)
/-- A corner's own piece. -/
def valB (p : PG) (b : List Int) (l : List Nat) : Int := dot b (varL p (lookN p l))
def pcZ (p : PG) (b : List Int) (l : List Nat) : PC :=
  ⟨endsF (spW p b l), endsT (spW p b l), frN (valN p l) (lookN p l).xd, ptD [valN p l] (lookN p l).xd, frN (valB p b l) (lookN p l).xd, ptD [valB p b l] (lookN p l).xd⟩
structure GoodL (p : PG) (b : List Int) (l : List Nat) : Prop where
  ok : OKb p l
  some : endsE (spW p b l) = 0
/-- Is a piece one number? -/
def pointB (x : PC) : Bool := !x.fr.op && (!x.to.op && decide (x.fr = x.to))
/-- The lower, and the higher, end. -/
def leE (a b : EN) : Bool := a.op || (!b.op && decide (cmpZ a.n a.d b.n b.d ≤ 0))
def geE (a b : EN) : Bool := a.op || (!b.op && decide (0 ≤ cmpZ a.n a.d b.n b.d))
section
variable {p : PG} {b : List Int}
theorem val_pt {l : List Nat} (h : OKb p l) : ptE [valN p l] (lookN p l).xd = 0 ∧ ((valN p l : Rat) / ((lookN p l).xd : Rat) = baseQ p l) := by
  obtain ⟨_, _, _, hc⟩ := corn_of h.hp h.hr h.hd
  obtain ⟨_, _, w3⟩ := var_worth hc
  have hx := hc.xd12
  refine ⟨pt_ok (by omega) (by omega) ?_ (by simp), (val_sum hc).symm⟩
  rw [smallB_one]
  have : valN p l = dot p.costs (varL p (lookN p l)) := rfl
  simp; omega
theorem valB_pt (hb : By p b) {l : List Nat} (h : OKb p l) : ptE [valB p b l] (lookN p l).xd = 0 ∧ ((valB p b l : Rat) / ((lookN p l).xd : Rat) = slopQ p b l) := by
  obtain ⟨_, _, _, hc⟩ := corn_of h.hp h.hr h.hd
  have h' := costs_bs hb h.bs
  obtain ⟨_, _, _, hd⟩ := corn_of h'.hp h'.hr h'.hd
  have hx := hc.xd12
  obtain ⟨_, n4, _⟩ := mayPB_iff.1 h.hp
  have hbd := dot_bound hb.small (var_small hc) (by omega) (by omega)
  have hlen := hb.len
  have hbd' : -796262400 ≤ valB p b l ∧ valB p b l ≤ 796262400 := by unfold valB; omega
  refine ⟨pt_ok (by omega) (by omega) (by rw [smallB_one]; simp; omega) (by simp), ?_⟩
  have e1 : sumN (fun j => costZ (costsOf p b) j * (lookN p l).xs.getD j 0) (p.costs.length + p.rows.length) = valB p b l := by
    have := sum_costZ (p := costsOf p b) (f := fun j => (lookN p l).xs.getD j 0)
    rw [show (costsOf p b).costs.length + (costsOf p b).rows.length = p.costs.length + p.rows.length by show b.length + p.rows.length = _; rw [hb.len]] at this
    rw [this]
    unfold valB
    rw [show (costsOf p b).costs = b from rfl, dot_sum rfl (by rw [var_len hc, hb.len])]
    refine sumN_congr fun j hj => ?_
    rw [var_at p (lookN p l) (by omega)]
  have hx' := cast_pos hc.px
  unfold slopQ
  rw [sumR_congr (g := fun j => (1 / ((lookN p l).xd : Rat)) * ((costZ (costsOf p b) j * (lookN p l).xs.getD j 0 : Int) : Rat)) fun j _ => by unfold cq xq; rw [Rat.intCast_mul]; grind]
  rw [sumR_mul, ← cast_sum, e1]
  grind
theorem fr_q {n d : Int} (h : ptE [n] d = 0) (hd : 0 < d) : (frN n d : Rat) / (ptD [n] d : Rat) = (n : Rat) / (d : Rat) ∧ mayB [frN n d] (ptD [n] d) = true := by
  obtain ⟨h1, h2⟩ := frac_pos h
  refine ⟨?_, may_end h⟩
  have a := cast_pos h1
  have c := cast_pos hd
  have : (frN n d : Rat) * (d : Rat) = (n : Rat) * (ptD [n] d : Rat) := by rw [← Rat.intCast_mul, ← Rat.intCast_mul, h2]
  grind
/-- One line just where they are worth the same at all numbers. -/
theorem line_eq (hb : By p b) {l l' : List Nat} (h : OKb p l) (h' : OKb p l') : (pcZ p b l).line = (pcZ p b l').line ↔ baseQ p l = baseQ p l' ∧ slopQ p b l = slopQ p b l' := by
  obtain ⟨_, _, _, hc⟩ := corn_of h.hp h.hr h.hd
  obtain ⟨_, _, _, hc'⟩ := corn_of h'.hp h'.hr h'.hd
  obtain ⟨v1, v2⟩ := val_pt h
  obtain ⟨v1', v2'⟩ := val_pt h'
  obtain ⟨s1, s2⟩ := valB_pt hb h
  obtain ⟨s1', s2'⟩ := valB_pt hb h'
  obtain ⟨q1, m1⟩ := fr_q v1 hc.px
  obtain ⟨q1', m1'⟩ := fr_q v1' hc'.px
  obtain ⟨q2, m2⟩ := fr_q s1 hc.px
  obtain ⟨q2', m2'⟩ := fr_q s1' hc'.px
  have p1 := (mayB_parts m1).1
  have p1' := (mayB_parts m1').1
  have p2 := (mayB_parts m2).1
  have p2' := (mayB_parts m2').1
  rw [← v2, ← v2', ← s2, ← s2', ← q1, ← q1', ← q2, ← q2']
  unfold PC.line pcZ
  simp only [Prod.mk.injEq]
  constructor
  · rintro ⟨a1, a2, a3, a4⟩
    rw [a1, a2, a3, a4]; exact ⟨rfl, rfl⟩
  · rintro ⟨a1, a2⟩
    obtain ⟨c1, c2⟩ := frac_one m1 m1' (frac_same (by omega) (by omega) a1)
    obtain ⟨c3, c4⟩ := frac_one m2 m2' (frac_same (by omega) (by omega) a2)
    exact ⟨c1, c2, c3, c4⟩
/-- A grouping: each line once, with the lowest and the highest of its corners' ends. -/
structure Grp (p : PG) (b : List Int) (pcs : List PC) : Prop where
  nodup : pcs.Pairwise (fun x y => x.line ≠ y.line)
  fr : ∀ x ∈ pcs, ∃ l, GoodL p b l ∧ (pcZ p b l).line = x.line ∧ x.fr = endsF (spW p b l)
  to : ∀ x ∈ pcs, ∃ l, GoodL p b l ∧ (pcZ p b l).line = x.line ∧ x.to = endsT (spW p b l)
  all : ∀ l, GoodL p b l → ∃ x ∈ pcs, (pcZ p b l).line = x.line ∧ leE x.fr (endsF (spW p b l)) = true ∧ geE x.to (endsT (spW p b l)) = true
theorem Grp.same {P : List PC} (hP : Grp p b P) {x y : PC} (hx : x ∈ P) (hy : y ∈ P) (h : x.line = y.line) : x = y := by
  obtain ⟨i, hi, rfl⟩ := List.mem_iff_getElem.1 hx
  obtain ⟨j, hj, rfl⟩ := List.mem_iff_getElem.1 hy
  rcases Nat.lt_trichotomy i j with q | q | q
  · exact absurd h (List.pairwise_iff_getElem.1 hP.nodup i j hi hj q)
  · subst q; rfl
  · exact absurd h.symm (List.pairwise_iff_getElem.1 hP.nodup j i hj hi q)
/-- Ends of spans: open just so, or fractions that may be. -/
def EFine (e : EN) : Prop := (e.op = true ∧ e = openE) ∨ (e.op = false ∧ mayB [e.n] e.d = true)
theorem good_fine (hb : By p b) {l : List Nat} (h : GoodL p b l) : EFine (endsF (spW p b l)) ∧ EFine (endsT (spW p b l)) := by
  have hok := spW_ok hb h.ok.bs
  obtain ⟨o1, o2⟩ := ends_open h.some
  have k1 : EOk (endsF (spW p b l)) := by unfold endsF; rw [if_pos h.some]; exact hok.1
  have k2 : EOk (endsT (spW p b l)) := by unfold endsT; rw [if_pos h.some]; exact hok.2
  refine ⟨?_, ?_⟩
  · rcases e : (endsF (spW p b l)).op with _ | _
    · rcases k1 with q | q
      · rw [e] at q; simp at q
      · exact .inr ⟨e, q⟩
    · exact .inl ⟨e, o1 e⟩
  · rcases e : (endsT (spW p b l)).op with _ | _
    · rcases k2 with q | q
      · rw [e] at q; simp at q
      · exact .inr ⟨e, q⟩
    · exact .inl ⟨e, o2 e⟩
theorem fine_eq {a c : EN} (ha : EFine a) (hc : EFine c) (h : a.n * c.d = c.n * a.d) (h1 : a.op = false) (h2 : c.op = false) : a = c := by
  have m1 : mayB [a.n] a.d = true := by rcases ha with ⟨q, _⟩ | ⟨_, q⟩; rw [h1] at q; simp at q; exact q
  have m2 : mayB [c.n] c.d = true := by rcases hc with ⟨q, _⟩ | ⟨_, q⟩; rw [h2] at q; simp at q; exact q
  obtain ⟨e1, e2⟩ := frac_one m1 m2 h
  cases a; cases c
  simp_all
theorem le_anti {a c : EN} (ha : EFine a) (hc : EFine c) (h1 : leE a c = true) (h2 : leE c a = true) : a = c := by
  unfold leE cmpZ at h1 h2
  simp only [Bool.or_eq_true, Bool.and_eq_true, Bool.not_eq_true', decide_eq_true_eq] at h1 h2
  rcases h1 with q1 | ⟨q1, r1⟩
  · rcases h2 with q2 | ⟨q2, r2⟩
    · rcases ha with ⟨_, e1⟩ | ⟨w, _⟩
      · rcases hc with ⟨_, e2⟩ | ⟨w, _⟩
        · rw [e1, e2]
        · rw [q2] at w; simp at w
      · rw [q1] at w; simp at w
    · rw [q1] at q2; simp at q2
  · rcases h2 with q2 | ⟨q2, r2⟩
    · rw [q1] at q2; simp at q2
    · exact fine_eq ha hc (by omega) q2 q1
theorem ge_anti {a c : EN} (ha : EFine a) (hc : EFine c) (h1 : geE a c = true) (h2 : geE c a = true) : a = c := by
  unfold geE cmpZ at h1 h2
  simp only [Bool.or_eq_true, Bool.and_eq_true, Bool.not_eq_true', decide_eq_true_eq] at h1 h2
  rcases h1 with q1 | ⟨q1, r1⟩
  · rcases h2 with q2 | ⟨q2, r2⟩
    · rcases ha with ⟨_, e1⟩ | ⟨w, _⟩
      · rcases hc with ⟨_, e2⟩ | ⟨w, _⟩
        · rw [e1, e2]
        · rw [q2] at w; simp at w
      · rw [q1] at w; simp at w
    · rw [q1] at q2; simp at q2
  · rcases h2 with q2 | ⟨q2, r2⟩
    · rw [q1] at q2; simp at q2
    · exact fine_eq ha hc (by omega) q2 q1
/-- Two groupings have the same pieces. -/
theorem grp_sub (hb : By p b) {P Q : List PC} (hP : Grp p b P) (hQ : Grp p b Q) {x : PC} (hx : x ∈ P) : x ∈ Q := by
  obtain ⟨l, g1, e1, f1⟩ := hP.fr x hx
  obtain ⟨l2, g2, e2, f2⟩ := hP.to x hx
  obtain ⟨y, hy, y1, y2, _⟩ := hQ.all l g1
  obtain ⟨y', hy', z1, _, z3⟩ := hQ.all l2 g2
  have ey : y' = y := hQ.same hy' hy (by rw [← z1, e2, ← e1, y1])
  subst ey
  obtain ⟨l3, g3, e3, f3⟩ := hQ.fr y' hy
  obtain ⟨l4, g4, e4, f4⟩ := hQ.to y' hy
  obtain ⟨x', hx', w1, w2, _⟩ := hP.all l3 g3
  have ex : x' = x := hP.same hx' hx (by rw [← w1, e3, ← y1, e1])
  subst ex
  obtain ⟨x'', hx'', v1, _, v3⟩ := hP.all l4 g4
  have ex' : x'' = x' := hP.same hx'' hx (by rw [← v1, e4, ← y1, e1])
  subst ex'
  rw [← f1] at y2
  rw [← f2] at z3
  rw [← f3] at w2
  rw [← f4] at v3
  have hf : x''.fr = y'.fr := le_anti (by rw [f1]; exact (good_fine hb g1).1) (by rw [f3]; exact (good_fine hb g3).1) w2 y2
  have ht : x''.to = y'.to := ge_anti (by rw [f2]; exact (good_fine hb g2).2) (by rw [f4]; exact (good_fine hb g4).2) v3 z3
  have hl : x''.line = y'.line := by rw [← e1, y1]
  unfold PC.line at hl
  simp only [Prod.mk.injEq] at hl
  have : x'' = y' := by
    cases x''; cases y'
    simp_all
  rw [this]; exact hy

/-! Where a piece is best. -/
def LineMax (p : PG) (b : List Int) (B S t : Rat) : Prop := ∀ z, PtQ p z → sumR (fun j => cq p j * z j) (p.costs.length + p.rows.length) + t * sumR (fun j => cq (costsOf p b) j * z j) (p.costs.length + p.rows.length) ≤ B + t * S
theorem LineMax.between {B S t1 t2 t : Rat} (h1 : LineMax p b B S t1) (h2 : LineMax p b B S t2) (a : t1 ≤ t) (c : t ≤ t2) : LineMax p b B S t := by
  intro z hz
  have k1 := h1 z hz
  have k2 := h2 z hz
  generalize sumR (fun j => cq p j * z j) (p.costs.length + p.rows.length) = u at *
  generalize sumR (fun j => cq (costsOf p b) j * z j) (p.costs.length + p.rows.length) = v at *
  -- u - B + t (v - S) ≤ 0 at both ends
  by_cases hv : 0 ≤ v - S
  · have := Rat.mul_nonneg hv (show 0 ≤ t2 - t by grind)
    grind
  · have := Rat.mul_nonneg (show 0 ≤ S - v by grind) (show 0 ≤ t - t1 by grind)
    grind
/-- A piece's base and slope as fractions. -/
def PC.B (x : PC) : Rat := (x.bn : Rat) / (x.bd : Rat)
def PC.S (x : PC) : Rat := (x.sn : Rat) / (x.sd : Rat)
theorem pc_BS (hb : By p b) {l : List Nat} (h : OKb p l) {x : PC} (e : (pcZ p b l).line = x.line) : x.B = baseQ p l ∧ x.S = slopQ p b l := by
  obtain ⟨_, _, _, hc⟩ := corn_of h.hp h.hr h.hd
  obtain ⟨v1, v2⟩ := val_pt h
  obtain ⟨s1, s2⟩ := valB_pt hb h
  unfold PC.line at e
  simp only [Prod.mk.injEq] at e
  obtain ⟨e1, e2, e3, e4⟩ := e
  unfold PC.B PC.S
  rw [← e1, ← e2, ← e3, ← e4, ← v2, ← s2]
  exact ⟨(fr_q v1 hc.px).1, (fr_q s1 hc.px).1⟩
theorem good_max (hb : By p b) {l : List Nat} (h : GoodL p b l) {t : Rat} (ht : InQ (endsF (spW p b l)) (endsT (spW p b l)) t) : LineMax p b (baseQ p l) (slopQ p b l) t :=
  fun _ hz => best_max hb h.ok.bs ((spW_best hb h.ok.bs t).1 ⟨h.some, ht⟩) hz
/-- An end that is a number, as a fraction. -/
def EN.q (e : EN) : Rat := (e.n : Rat) / (e.d : Rat)
theorem fine_pos {e : EN} (h : EFine e) (ho : e.op = false) : (0 : Rat) < (e.d : Rat) := by
  rcases h with ⟨q, _⟩ | ⟨_, q⟩
  · rw [ho] at q; simp at q
  · exact cast_pos (by have := (mayB_parts q).1; omega)
theorem InQ_q {F T : EN} (hF : EFine F) (hT : EFine T) (t : Rat) : InQ F T t ↔ (F.op = true ∨ F.q ≤ t) ∧ (T.op = true ∨ t ≤ T.q) := by
  have key : ∀ e : EN, EFine e → e.op = false → ((e.n : Rat) ≤ t * (e.d : Rat) ↔ e.q ≤ t) ∧ (t * (e.d : Rat) ≤ (e.n : Rat) ↔ t ≤ e.q) := by
    intro e he ho
    have hp := fine_pos he ho
    have hq : (e.n : Rat) = e.q * (e.d : Rat) := by unfold EN.q; grind
    have hq2 : ∀ a c : Rat, a * (e.d : Rat) ≤ c * (e.d : Rat) ↔ a ≤ c := by
      intro a c
      constructor
      · intro h
        apply Classical.byContradiction
        intro w
        have := Rat.mul_pos (show 0 < a - c by grind) hp
        grind
      · intro h
        have := Rat.mul_nonneg (show 0 ≤ c - a by grind) (Rat.le_of_lt hp)
        grind
    rw [hq]
    exact ⟨hq2 _ _, hq2 _ _⟩
  unfold InQ
  rcases hFo : F.op with _ | _ <;> rcases hTo : T.op with _ | _
  · rw [(key F hF hFo).1, (key T hT hTo).2]
  · rw [(key F hF hFo).1]; simp
  · rw [(key T hT hTo).2]; simp
  · simp
/-- A good corner's span is not empty: its lower end is no higher than its higher one. -/
theorem good_le (hb : By p b) {l : List Nat} (h : GoodL p b l) (h1 : (endsF (spW p b l)).op = false) (h2 : (endsT (spW p b l)).op = false) : (endsF (spW p b l)).q ≤ (endsT (spW p b l)).q := by
  obtain ⟨f1, f2⟩ := good_fine hb h
  have d1 := fine_pos f1 h1
  have d2 := fine_pos f2 h2
  have h0 := h.some
  have m1 : mayB [(endsF (spW p b l)).n] (endsF (spW p b l)).d = true := by rcases f1 with ⟨q, _⟩ | ⟨_, q⟩; rw [h1] at q; simp at q; exact q
  have m2 : mayB [(endsT (spW p b l)).n] (endsT (spW p b l)).d = true := by rcases f2 with ⟨q, _⟩ | ⟨_, q⟩; rw [h2] at q; simp at q; exact q
  have e1 : endsF (spW p b l) = (spW p b l).fr := by unfold endsF; rw [if_pos h0]
  have e2 : endsT (spW p b l) = (spW p b l).to := by unfold endsT; rw [if_pos h0]
  have hn : ¬ lessB (endsT (spW p b l)).n (endsT (spW p b l)).d (endsF (spW p b l)).n (endsF (spW p b l)).d = true := by
    intro q
    rw [e1, e2] at q
    rw [e1] at h1
    rw [e2] at h2
    unfold endsE at h0
    rw [if_pos (.inr ⟨h1, h2, q⟩)] at h0
    omega
  rw [less_cmp m2 m1] at hn
  unfold cmpZ at hn
  clear e1 e2 h0 h
  generalize endsF (spW p b l) = F at *
  generalize endsT (spW p b l) = T at *
  have k : ((F.n * T.d : Int) : Rat) ≤ ((T.n * F.d : Int) : Rat) := Rat.intCast_le_intCast.2 (by omega)
  rw [Rat.intCast_mul, Rat.intCast_mul] at k
  have q1 : (F.n : Rat) = F.q * (F.d : Rat) := by unfold EN.q; grind
  have q2 : (T.n : Rat) = T.q * (T.d : Rat) := by unfold EN.q; grind
  rw [q1, q2] at k
  apply Classical.byContradiction
  intro w
  have := Rat.mul_pos (Rat.mul_pos (show 0 < F.q - T.q by grind) d1) d2
  grind
/-- Wherever a piece is told, its line is best. -/
theorem grp_max (hb : By p b) {P : List PC} (hP : Grp p b P) {x : PC} (hx : x ∈ P) {t : Rat} (ht : InQ x.fr x.to t) : LineMax p b x.B x.S t := by
  obtain ⟨l, g1, e1, f1⟩ := hP.fr x hx
  obtain ⟨l2, g2, e2, f2⟩ := hP.to x hx
  obtain ⟨b1, s1⟩ := pc_BS hb g1.ok e1
  obtain ⟨b2, s2⟩ := pc_BS hb g2.ok e2
  obtain ⟨a1, a2⟩ := good_fine hb g1
  obtain ⟨c1, c2⟩ := good_fine hb g2
  have m1 : ∀ u, InQ (endsF (spW p b l)) (endsT (spW p b l)) u → LineMax p b x.B x.S u := fun u hu => by rw [b1, s1]; exact good_max hb g1 hu
  have m2 : ∀ u, InQ (endsF (spW p b l2)) (endsT (spW p b l2)) u → LineMax p b x.B x.S u := fun u hu => by rw [b2, s2]; exact good_max hb g2 hu
  rw [f1, f2] at ht
  rw [InQ_q a1 c2] at ht
  have m1' : ∀ u, ((endsF (spW p b l)).op = true ∨ (endsF (spW p b l)).q ≤ u) ∧ ((endsT (spW p b l)).op = true ∨ u ≤ (endsT (spW p b l)).q) → LineMax p b x.B x.S u := fun u hu => m1 u ((InQ_q a1 a2 u).2 hu)
  have m2' : ∀ u, ((endsF (spW p b l2)).op = true ∨ (endsF (spW p b l2)).q ≤ u) ∧ ((endsT (spW p b l2)).op = true ∨ u ≤ (endsT (spW p b l2)).q) → LineMax p b x.B x.S u := fun u hu => m2 u ((InQ_q c1 c2 u).2 hu)
  -- a number of the first corner's span at or below t
  obtain ⟨t1, k1, k2⟩ : ∃ t1, t1 ≤ t ∧ LineMax p b x.B x.S t1 := by
    by_cases h : (endsT (spW p b l)).op = true ∨ t ≤ (endsT (spW p b l)).q
    · exact ⟨t, by grind, m1' t ⟨ht.1, h⟩⟩
    · have ho : (endsT (spW p b l)).op = false := by
        cases q : (endsT (spW p b l)).op
        · rfl
        · exact absurd (.inl q) h
      refine ⟨(endsT (spW p b l)).q, by grind, m1' _ ⟨?_, .inr (by grind)⟩⟩
      cases q : (endsF (spW p b l)).op
      · exact .inr (good_le hb g1 q ho)
      · exact .inl rfl
  obtain ⟨t2, k3, k4⟩ : ∃ t2, t ≤ t2 ∧ LineMax p b x.B x.S t2 := by
    by_cases h : (endsF (spW p b l2)).op = true ∨ (endsF (spW p b l2)).q ≤ t
    · exact ⟨t, by grind, m2' t ⟨h, ht.2⟩⟩
    · have ho : (endsF (spW p b l2)).op = false := by
        cases q : (endsF (spW p b l2)).op
        · rfl
        · exact absurd (.inl q) h
      refine ⟨(endsF (spW p b l2)).q, by grind, m2' _ ⟨.inr (by grind), ?_⟩⟩
      cases q : (endsT (spW p b l2)).op
      · exact .inr (good_le hb g2 ho q)
      · exact .inl rfl
  exact k2.between k4 k1 k3
/-- Two pieces that are best at one number are worth the same there. -/
theorem both_max (hb : By p b) {P : List PC} (hP : Grp p b P) {x y : PC} (hx : x ∈ P) (hy : y ∈ P) {t : Rat} (h1 : LineMax p b x.B x.S t) (h2 : LineMax p b y.B y.S t) : x.B + t * x.S = y.B + t * y.S := by
  obtain ⟨l, g1, e1, _⟩ := hP.fr x hx
  obtain ⟨l2, g2, e2, _⟩ := hP.fr y hy
  obtain ⟨b1, s1⟩ := pc_BS hb g1.ok e1
  obtain ⟨b2, s2⟩ := pc_BS hb g2.ok e2
  have k1 := h1 _ (ok_pt g2.ok)
  have k2 := h2 _ (ok_pt g1.ok)
  rw [show sumR (fun j => cq p j * xq (lookN p l2) j) (p.costs.length + p.rows.length) = baseQ p l2 from rfl, show sumR (fun j => cq (costsOf p b) j * xq (lookN p l2) j) (p.costs.length + p.rows.length) = slopQ p b l2 from rfl, ← b2, ← s2] at k1
  rw [show sumR (fun j => cq p j * xq (lookN p l) j) (p.costs.length + p.rows.length) = baseQ p l from rfl, show sumR (fun j => cq (costsOf p b) j * xq (lookN p l) j) (p.costs.length + p.rows.length) = slopQ p b l from rfl, ← b1, ← s1] at k2
  grind
theorem line_of (hb : By p b) {P : List PC} (hP : Grp p b P) {x y : PC} (hx : x ∈ P) (hy : y ∈ P) (hB : x.B = y.B) (hS : x.S = y.S) : x = y := by
  obtain ⟨l, g1, e1, _⟩ := hP.fr x hx
  obtain ⟨l2, g2, e2, _⟩ := hP.fr y hy
  obtain ⟨b1, s1⟩ := pc_BS hb g1.ok e1
  obtain ⟨b2, s2⟩ := pc_BS hb g2.ok e2
  refine hP.same hx hy ?_
  rw [← e1, ← e2]
  exact (line_eq hb g1.ok g2.ok).2 ⟨by rw [← b1, ← b2, hB], by rw [← s1, ← s2, hS]⟩
end
end Go.Proofs.Ytjcdkbalhleeeab

namespace Go.Proofs.Ytjcdkbalhleeeab

/-- Does a piece begin ahead of another one? -/
def befE (a c : EN) : Bool := if a.op || c.op then a.op else decide (cmpZ a.n a.d c.n c.d < 0)
section
variable {p : PG} {b : List Int}
theorem grp_fine (hb : By p b) {P : List PC} (hP : Grp p b P) {x : PC} (hx : x ∈ P) : EFine x.fr ∧ EFine x.to := by
  obtain ⟨l, g1, _, f1⟩ := hP.fr x hx
  obtain ⟨l2, g2, _, f2⟩ := hP.to x hx
  exact ⟨by rw [f1]; exact (good_fine hb g1).1, by rw [f2]; exact (good_fine hb g2).2⟩
theorem cmp_q {a c : EN} (ha : EFine a) (hc : EFine c) (h1 : a.op = false) (h2 : c.op = false) : (cmpZ a.n a.d c.n c.d < 0 ↔ a.q < c.q) ∧ (cmpZ a.n a.d c.n c.d ≤ 0 ↔ a.q ≤ c.q) := by
  have d1 := fine_pos ha h1
  have d2 := fine_pos hc h2
  have e : ((cmpZ a.n a.d c.n c.d : Int) : Rat) = (a.q - c.q) * ((a.d : Rat) * (c.d : Rat)) := by
    unfold cmpZ EN.q
    rw [Rat.intCast_sub, Rat.intCast_mul, Rat.intCast_mul]; grind
  have dd := Rat.mul_pos d1 d2
  have k1 : ((cmpZ a.n a.d c.n c.d : Int) : Rat) < 0 ↔ a.q < c.q := by
    rw [e]
    constructor
    · intro h
      apply Classical.byContradiction
      intro w
      have := Rat.mul_nonneg (show 0 ≤ a.q - c.q by grind) (Rat.le_of_lt dd); grind
    · intro h
      have := Rat.mul_pos (show 0 < c.q - a.q by grind) dd; grind
  have k2 : 0 < ((cmpZ a.n a.d c.n c.d : Int) : Rat) ↔ c.q < a.q := by
    rw [e]
    constructor
    · intro h
      apply Classical.byContradiction
      intro w
      have := Rat.mul_nonneg (show 0 ≤ c.q - a.q by grind) (Rat.le_of_lt dd); grind
    · intro h
      exact Rat.mul_pos (show 0 < a.q - c.q by grind) dd
  have z1 : ((cmpZ a.n a.d c.n c.d : Int) : Rat) < 0 ↔ cmpZ a.n a.d c.n c.d < 0 := by
    rw [show (0 : Rat) = ((0 : Int) : Rat) from rfl]; exact Rat.intCast_lt_intCast
  have z2 : 0 < ((cmpZ a.n a.d c.n c.d : Int) : Rat) ↔ 0 < cmpZ a.n a.d c.n c.d := by
    rw [show (0 : Rat) = ((0 : Int) : Rat) from rfl]; exact Rat.intCast_lt_intCast
  refine ⟨z1.symm.trans k1, ?_⟩
  constructor
  · intro h
    apply Classical.byContradiction
    intro w
    have := z2.1 (k2.2 (by grind)); omega
  · intro h
    apply Classical.byContradiction
    intro w
    have := k2.1 (z2.2 (by omega)); grind
/-- A piece of more than one number has two. -/
theorem not_point (hb : By p b) {P : List PC} (hP : Grp p b P) {x : PC} (hx : x ∈ P) (hn : pointB x = false) (h1 : x.fr.op = false) (h2 : x.to.op = false) : x.fr.q < x.to.q := by
  obtain ⟨f1, f2⟩ := grp_fine hb hP hx
  obtain ⟨l, g1, e1, q1⟩ := hP.fr x hx
  obtain ⟨y, hy, y1, y2, y3⟩ := hP.all l g1
  have ey : y = x := hP.same hy hx (by rw [← y1, e1])
  subst ey
  have hle : y.fr.q ≤ y.to.q := by
    -- from of the corner is no higher than its to, which is no higher than the piece's
    have hop : (endsT (spW p b l)).op = false := by
      unfold geE at y3
      simp only [Bool.or_eq_true, Bool.and_eq_true, Bool.not_eq_true', decide_eq_true_eq] at y3
      rcases y3 with w | w
      · rw [h2] at w; simp at w
      · exact w.1
    have k1 := good_le hb g1 (by rw [← q1]; exact h1) hop
    have k2 : (endsT (spW p b l)).q ≤ y.to.q := by
      unfold geE at y3
      simp only [Bool.or_eq_true, Bool.and_eq_true, Bool.not_eq_true', decide_eq_true_eq] at y3
      rcases y3 with w | w
      · rw [h2] at w; simp at w
      · refine (cmp_q (good_fine hb g1).2 f2 hop h2).2.1 ?_
        have := w.2
        unfold cmpZ at *; omega
    rw [q1]; grind
  rcases Rat.le_iff_lt_or_eq.1 hle with w | w
  · exact w
  · exfalso
    have e : y.fr = y.to := by
      refine fine_eq f1 f2 ?_ h1 h2
      have d1 := fine_pos f1 h1
      have d2 := fine_pos f2 h2
      have a1 : (y.fr.n : Rat) = y.fr.q * (y.fr.d : Rat) := by unfold EN.q; grind
      have a2 : (y.to.n : Rat) = y.to.q * (y.to.d : Rat) := by unfold EN.q; grind
      have : ((y.fr.n * y.to.d : Int) : Rat) = ((y.to.n * y.fr.d : Int) : Rat) := by
        rw [Rat.intCast_mul, Rat.intCast_mul, a1, a2, w]; grind
      exact_mod_cast this
    unfold pointB at hn
    rw [h1, h2] at hn
    simp [e] at hn
/-- Two pieces of more than one number that begin at one place are one. -/
theorem begin_one (hb : By p b) {P : List PC} (hP : Grp p b P) {x y : PC} (hx : x ∈ P) (hy : y ∈ P) (nx : pointB x = false) (ny : pointB y = false) (h : x.fr = y.fr) : x = y := by
  obtain ⟨f1, f2⟩ := grp_fine hb hP hx
  obtain ⟨f3, f4⟩ := grp_fine hb hP hy
  obtain ⟨t1, t2, hlt, i1, i2, j1, j2⟩ : ∃ t1 t2 : Rat, t1 < t2 ∧ InQ x.fr x.to t1 ∧ InQ x.fr x.to t2 ∧ InQ y.fr y.to t1 ∧ InQ y.fr y.to t2 := by
    -- the lower of both ends
    obtain ⟨u, u1, u2, u3⟩ : ∃ u : Rat, (x.to.op = true ∨ u ≤ x.to.q) ∧ (y.to.op = true ∨ u ≤ y.to.q) ∧ (x.fr.op = true ∨ x.fr.q < u) := by
      rcases ox : x.to.op with _ | _
      · rcases oy : y.to.op with _ | _
        · by_cases hq : x.to.q ≤ y.to.q
          · refine ⟨x.to.q, .inr (by grind), .inr hq, ?_⟩
            rcases of' : x.fr.op with _ | _
            · exact .inr (not_point hb hP hx nx of' ox)
            · exact .inl rfl
          · refine ⟨y.to.q, .inr (by grind), .inr (by grind), ?_⟩
            rcases of' : x.fr.op with _ | _
            · right; rw [h]; exact not_point hb hP hy ny (by rw [← h]; exact of') oy
            · exact .inl rfl
        · refine ⟨x.to.q, .inr (by grind), .inl rfl, ?_⟩
          rcases of' : x.fr.op with _ | _
          · exact .inr (not_point hb hP hx nx of' ox)
          · exact .inl rfl
      · rcases oy : y.to.op with _ | _
        · refine ⟨y.to.q, .inl rfl, .inr (by grind), ?_⟩
          rcases of' : x.fr.op with _ | _
          · right; rw [h]; exact not_point hb hP hy ny (by rw [← h]; exact of') oy
          · exact .inl rfl
        · exact ⟨x.fr.q + 1, .inl rfl, .inl rfl, .inr (by grind)⟩
    rcases of' : x.fr.op with _ | _
    · rw [of'] at u3
      have u4 : x.fr.q < u := by rcases u3 with w | w; simp at w; exact w
      refine ⟨x.fr.q, u, u4, (InQ_q f1 f2 _).2 ⟨.inr (by grind), u1.imp id fun w => by grind⟩, (InQ_q f1 f2 _).2 ⟨.inr (by grind), u1⟩, (InQ_q f3 f4 _).2 ⟨.inr (by rw [← h]; grind), u2.imp id fun w => by grind⟩, (InQ_q f3 f4 _).2 ⟨.inr (by rw [← h]; grind), u2⟩⟩
    · have oy : y.fr.op = true := by rw [← h]; exact of'
      exact ⟨u - 1, u, by grind, (InQ_q f1 f2 _).2 ⟨.inl of', u1.imp id fun w => by grind⟩, (InQ_q f1 f2 _).2 ⟨.inl of', u1⟩, (InQ_q f3 f4 _).2 ⟨.inl oy, u2.imp id fun w => by grind⟩, (InQ_q f3 f4 _).2 ⟨.inl oy, u2⟩⟩
  have e1 := both_max hb hP hx hy (grp_max hb hP hx i1) (grp_max hb hP hy j1)
  have e2 := both_max hb hP hx hy (grp_max hb hP hx i2) (grp_max hb hP hy j2)
  have hS : x.S = y.S := by
    have k : (t2 - t1) * (x.S - y.S) = 0 := by grind
    rcases Rat.mul_eq_zero.1 k with w | w
    · grind
    · grind
  refine line_of hb hP hx hy ?_ hS
  rw [hS] at e1; grind
/-- Two pieces with one slope are one. -/
theorem slope_one (hb : By p b) {P : List PC} (hP : Grp p b P) {x y : PC} (hx : x ∈ P) (hy : y ∈ P) (h : x.S = y.S) : x = y := by
  have key : ∀ z ∈ P, ∃ t, LineMax p b z.B z.S t := by
    intro z hz
    obtain ⟨l, g1, e1, q1⟩ := hP.fr z hz
    obtain ⟨f1, f2⟩ := good_fine hb g1
    obtain ⟨b1, s1⟩ := pc_BS hb g1.ok e1
    obtain ⟨t, ht⟩ : ∃ t, InQ (endsF (spW p b l)) (endsT (spW p b l)) t := by
      rcases o1 : (endsF (spW p b l)).op with _ | _
      · refine ⟨(endsF (spW p b l)).q, (InQ_q f1 f2 _).2 ⟨.inr (by grind), ?_⟩⟩
        rcases o2 : (endsT (spW p b l)).op with _ | _
        · exact .inr (good_le hb g1 o1 o2)
        · exact .inl rfl
      · exact ⟨(endsT (spW p b l)).q, (InQ_q f1 f2 _).2 ⟨.inl o1, .inr (by grind)⟩⟩
    exact ⟨t, by rw [b1, s1]; exact good_max hb g1 ht⟩
  obtain ⟨t1, h1⟩ := key x hx
  obtain ⟨t2, h2⟩ := key y hy
  obtain ⟨l, g1, e1, _⟩ := hP.fr x hx
  obtain ⟨l2, g2, e2, _⟩ := hP.fr y hy
  obtain ⟨b1, s1⟩ := pc_BS hb g1.ok e1
  obtain ⟨b2, s2⟩ := pc_BS hb g2.ok e2
  have k1 := h1 _ (ok_pt g2.ok)
  have k2 := h2 _ (ok_pt g1.ok)
  rw [show sumR (fun j => cq p j * xq (lookN p l2) j) (p.costs.length + p.rows.length) = baseQ p l2 from rfl, show sumR (fun j => cq (costsOf p b) j * xq (lookN p l2) j) (p.costs.length + p.rows.length) = slopQ p b l2 from rfl, ← b2, ← s2] at k1
  rw [show sumR (fun j => cq p j * xq (lookN p l) j) (p.costs.length + p.rows.length) = baseQ p l from rfl, show sumR (fun j => cq (costsOf p b) j * xq (lookN p l) j) (p.costs.length + p.rows.length) = slopQ p b l from rfl, ← b1, ← s1] at k2
  refine line_of hb hP hx hy ?_ h
  rw [h] at k1 k2; grind
/-- The order of pieces is one. -/
theorem bef_total (hb : By p b) {P : List PC} (hP : Grp p b P) {x y : PC} (hx : x ∈ P) (hy : y ∈ P) (nx : pointB x = false) (ny : pointB y = false) (hne : x ≠ y) : befE x.fr y.fr = !befE y.fr x.fr := by
  obtain ⟨f1, _⟩ := grp_fine hb hP hx
  obtain ⟨f3, _⟩ := grp_fine hb hP hy
  have hfr : x.fr ≠ y.fr := fun e => hne (begin_one hb hP hx hy nx ny e)
  unfold befE
  rcases ox : x.fr.op with _ | _ <;> rcases oy : y.fr.op with _ | _
  · simp
    have h0 : x.fr.n * y.fr.d ≠ y.fr.n * x.fr.d := fun e => hfr (fine_eq f1 f3 e ox oy)
    unfold cmpZ
    by_cases h : x.fr.n * y.fr.d - y.fr.n * x.fr.d < 0
    · have : ¬ (y.fr.n * x.fr.d - x.fr.n * y.fr.d < 0) := by omega
      simp [h]; omega
    · have : y.fr.n * x.fr.d - x.fr.n * y.fr.d < 0 := by omega
      simp [h]; omega
  · simp
  · simp
  · exfalso
    apply hfr
    rcases f1 with ⟨_, e1⟩ | ⟨w, _⟩
    · rcases f3 with ⟨_, e3⟩ | ⟨w, _⟩
      · rw [e1, e3]
      · rw [oy] at w; simp at w
    · rw [ox] at w; simp at w
theorem bef_trans (hb : By p b) {P : List PC} (hP : Grp p b P) {x y z : PC} (hx : x ∈ P) (hy : y ∈ P) (hz : z ∈ P) (h1 : befE x.fr y.fr = true) (h2 : befE y.fr z.fr = true) : befE x.fr z.fr = true ∨ (x.fr.op = true ∧ y.fr.op = true) := by
  obtain ⟨f1, _⟩ := grp_fine hb hP hx
  obtain ⟨f2, _⟩ := grp_fine hb hP hy
  obtain ⟨f3, _⟩ := grp_fine hb hP hz
  unfold befE at *
  rcases ox : x.fr.op with _ | _ <;> rcases oy : y.fr.op with _ | _ <;> rcases oz : z.fr.op with _ | _ <;> simp [ox, oy, oz] at h1 h2 ⊢
  have k1 := (cmp_q f1 f2 ox oy).1.1 h1
  have k2 := (cmp_q f2 f3 oy oz).1.1 h2
  exact (cmp_q f1 f3 ox oz).1.2 (by grind)
end
/-- Two lists in one strict order with the same members are one. -/
theorem sorted_eq {α : Type} {R : α → α → Prop} : ∀ {l l' : List α}, (∀ x y, x ∈ l → y ∈ l → x ≠ y → R x y → ¬ R y x) → l.Pairwise R → l'.Pairwise R → l.Nodup → l'.Nodup → (∀ x, x ∈ l ↔ x ∈ l') → l = l'
  | [], [], _, _, _, _, _, _ => rfl
  | [], b :: l', _, _, _, _, _, h => by have := (h b).2 (by simp); simp at this
  | a :: l, [], _, _, _, _, _, h => by have := (h a).1 (by simp); simp at this
  | a :: l, b :: l', ha, h1, h2, n1, n2, h => by
    rw [List.pairwise_cons] at h1 h2
    rw [List.nodup_cons] at n1 n2
    have e : a = b := by
      apply Classical.byContradiction
      intro hab
      refine hab ?_
      rcases List.mem_cons.1 ((h a).1 (by simp)) with q | q
      · exact q
      · rcases List.mem_cons.1 ((h b).2 (by simp)) with q' | q'
        · exact q'.symm
        · exact absurd (h2.1 a q) (ha a b (by simp) (by simp [q']) hab (h1.1 b q'))
    subst e
    rw [sorted_eq (l := l) (l' := l') (fun x y hx hy => ha x y (by simp [hx]) (by simp [hy])) h1.2 h2.2 n1.2 n2.2 fun x => ?_]
    have := h x
    simp only [List.mem_cons] at this
    constructor
    · intro q
      rcases this.1 (.inr q) with w | w
      · subst w; exact absurd q n1.1
      · exact w
    · intro q
      rcases this.2 (.inr q) with w | w
      · subst w; exact absurd q n2.1
      · exact w
end Go.Proofs.Ytjcdkbalhleeeab

namespace Go.Proofs.Ytjcdkbalhleeeab

/-- The columns behind these: the last place below n that can grow does. -/
def nxA (N : Nat) (l : List Nat) : Nat → Option (List Nat)
  | 0 => none
  | n + 1 => if l.getD n 0 + (l.length - n) < N then some (l.take n ++ (List.range (l.length - n)).map fun i => l.getD n 0 + 1 + i) else nxA N l n
def allF (N : Nat) : Nat → List Nat → List (List Nat)
  | 0, _ => []
  | f + 1, l => l :: (match nxA N l l.length with
    | none => []
    | some l' => allF N f l')
def allA (p : PG) : List (List Nat) := allF (p.costs.length + p.rows.length) 100 (List.range p.rows.length)
/-- One by one: the i-th's next is the one behind it; the last one has none. -/
theorem allF_next (N : Nat) : ∀ (f : Nat) (l : List Nat) (i : Nat), (allF N f l).length < f → i < (allF N f l).length →
    (nxA N ((allF N f l).getD i []) ((allF N f l).getD i []).length = if i + 1 < (allF N f l).length then some ((allF N f l).getD (i + 1) []) else none)
  | 0, _, _, h, _ => by omega
  | f + 1, l, i, h, hi => by
    rw [allF] at h hi ⊢
    cases hn : nxA N l l.length with
    | none =>
      rw [hn] at h hi
      simp at hi
      subst hi
      simp [hn]
    | some l' =>
      rw [hn] at h hi
      simp only [List.length_cons] at h hi ⊢
      have h0 : 0 < (allF N f l').length := by
        cases f with
        | zero => omega
        | succ f => rw [allF]; simp
      cases i with
      | zero =>
        rw [if_pos (by omega)]
        simp only [List.getD_cons_zero, List.getD_cons_succ]
        rw [hn]
        congr 1
        cases f with
        | zero => omega
        | succ f => rw [allF]; simp
      | succ i =>
        have := allF_next N f l' i (by omega) (by omega)
        simp only [List.getD_cons_succ]
        rw [this]
        by_cases e : i + 1 < (allF N f l').length
        · rw [if_pos e, if_pos (by omega)]
        · rw [if_neg e, if_neg (by omega)]
def chk (n m : Nat) : Bool :=
  decide ((allF (n + m) 100 (List.range m)).length < 100) && ((allF (n + m) 100 (List.range m)).all (fun l => decide (l.length = m) && (l.all (fun j => decide (j < n + m)) && decide (l = bitsN (n + m) (code l (n + m))))) &&
    (List.range (2 ^ (n + m))).all fun s => !decide ((bitsN (n + m) s).length = m) || (allF (n + m) 100 (List.range m)).contains (bitsN (n + m) s))
theorem chk_all : (List.range 5).all (fun n => (List.range 5).all fun m => n == 0 || (m == 0 || chk n m)) = true := by decide +kernel
theorem chk_at {n m : Nat} (h1 : 1 ≤ n) (h2 : n ≤ 4) (h3 : 1 ≤ m) (h4 : m ≤ 4) : chk n m = true := by
  have h := chk_all
  rw [List.all_eq_true] at h
  have := h n (by simp; omega)
  rw [List.all_eq_true] at this
  have := this m (by simp; omega)
  simp only [Bool.or_eq_true, beq_iff_eq] at this
  rcases this with h | h | h
  · omega
  · omega
  · exact h
section
variable {p : PG}
theorem all_parts (hp : mayPB p = true) : (allA p).length < 100 ∧ (∀ l ∈ allA p, RightL p l) ∧ ∀ l, RightL p l → l ∈ allA p := by
  obtain ⟨h1, h2, h3, h4, _⟩ := mayPB_iff.1 hp
  have h := chk_at h1 h2 h3 h4
  unfold chk at h
  simp only [Bool.and_eq_true, List.all_eq_true, decide_eq_true_eq] at h
  obtain ⟨k1, k2, k3⟩ := h
  refine ⟨k1, fun l hl => ?_, fun l hl => ?_⟩
  · obtain ⟨q1, q2, q3⟩ := k2 l hl
    refine ⟨q1, fun j hj => q2 j hj, ?_⟩
    rw [q3]; exact bits_pw _ _
  · have := k3 (code l _) (by rw [List.mem_range]; exact code_lt _ _)
    rw [bits_code hl.lt hl.pw] at this
    simp only [Bool.or_eq_true, Bool.not_eq_true', decide_eq_false_iff_not, List.contains_iff_mem] at this
    rcases this with q | q
    · exact absurd hl.len q
    · exact q
theorem all_pos' (hp : mayPB p = true) : 0 < (allA p).length := by
  unfold allA; rw [allF]; simp
theorem all_zero : (allA p).getD 0 [] = List.range p.rows.length := by unfold allA; rw [allF]; rfl
theorem all_next (hp : mayPB p = true) {i : Nat} (hi : i < (allA p).length) :
    nxA (p.costs.length + p.rows.length) ((allA p).getD i []) ((allA p).getD i []).length = if i + 1 < (allA p).length then some ((allA p).getD (i + 1) []) else none :=
  allF_next _ 100 _ i (all_parts hp).1 hi
theorem all_right (hp : mayPB p = true) {i : Nat} (hi : i < (allA p).length) : RightL p ((allA p).getD i []) := by
  refine (all_parts hp).2.1 _ ?_
  simp [List.getD, List.getElem?_eq_getElem hi]
end
/-- The kind, by all of them. -/
def bestB' (p : PG) (l : List Nat) : Bool := decide (lookE p (ints l) = 0) && (nonneg (lookN p l).xs && (lookN p l).gs.all fun n => decide (n ≤ 0))
def goesC (p : PG) (l : List Nat) : Bool := decide (lookE p (ints l) = 0) && nonneg (lookN p l).xs
def kindD (p : PG) : Int := if (allA p).any (bestB' p) = true then 1 else if (allA p).any (goesC p) = true then 2 else 3
theorem goesC_iff {p : PG} {l : List Nat} : goesC p l = true ↔ OKb p l := by
  unfold goesC
  simp only [Bool.and_eq_true, decide_eq_true_eq]
  constructor
  · rintro ⟨h1, h2⟩
    obtain ⟨q1, q2, q3⟩ := look_parts h1
    rw [nats_ints] at q3
    have := (right_nats q2).1
    rw [nats_ints] at this
    exact ⟨q1, this, q3, h2⟩
  · intro h; exact ⟨ok_look h, h.hx⟩
theorem gsle_iff {l : List Int} : (l.all fun n => decide (n ≤ 0)) = true ↔ ∀ j, l.getD j 0 ≤ 0 := by
  rw [List.all_eq_true]
  constructor
  · intro h j
    by_cases hj : j < l.length
    · have := h l[j] (List.getElem_mem hj); simpa [List.getD, List.getElem?_eq_getElem hj] using this
    · simp [List.getD, List.getElem?_eq_none (Nat.le_of_not_lt hj)]
  · intro h n hn
    obtain ⟨j, hj, rfl⟩ := List.mem_iff_getElem.1 hn
    have := h j; simpa [List.getD, List.getElem?_eq_getElem hj] using this
theorem bestB'_iff {p : PG} {l : List Nat} : bestB' p l = true ↔ BestC p l := by
  unfold bestB' BestC
  rw [← goesC_iff, ← gsle_iff]
  unfold goesC
  simp only [Bool.and_eq_true, decide_eq_true_eq, and_assoc]
theorem kindD_is {p : PG} (hp : mayPB p = true) : KindR p (kindD p) := by
  obtain ⟨_, h2, h3⟩ := all_parts hp
  have e1 : (allA p).any (bestB' p) = true ↔ ∃ l, BestC p l := by
    rw [List.any_eq_true]
    exact ⟨fun ⟨l, _, h⟩ => ⟨l, bestB'_iff.1 h⟩, fun ⟨l, h⟩ => ⟨l, h3 l h.1.hr, bestB'_iff.2 h⟩⟩
  have e2 : (allA p).any (goesC p) = true ↔ ∃ l, OKb p l := by
    rw [List.any_eq_true]
    exact ⟨fun ⟨l, _, h⟩ => ⟨l, goesC_iff.1 h⟩, fun ⟨l, h⟩ => ⟨l, h3 l h.hr, goesC_iff.2 h⟩⟩
  unfold kindD KindR
  by_cases h : (allA p).any (bestB' p) = true
  · rw [if_pos h]; exact .inl ⟨rfl, e1.1 h⟩
  · rw [if_neg h]
    have hn : ∀ l, ¬ BestC p l := fun l q => h (e1.2 ⟨l, q⟩)
    by_cases h' : (allA p).any (goesC p) = true
    · rw [if_pos h']; exact .inr (.inl ⟨rfl, e2.1 h', hn⟩)
    · rw [if_neg h']; exact .inr (.inr ⟨rfl, fun l q => h' (e2.2 ⟨l, q⟩)⟩)
end Go.Proofs.Ytjcdkbalhleeeab
