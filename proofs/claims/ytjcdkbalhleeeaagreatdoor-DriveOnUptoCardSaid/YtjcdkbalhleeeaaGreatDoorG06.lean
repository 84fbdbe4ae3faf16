/-
  Contracts of functions and plain laws that later parts of the proof use. The conditions stand in each theorem.
-/
import Derived.Test.YtjcdkbalhleeeaaGreatDoorG05
namespace Go.Proofs.YtjcdkbalhleeeaaGreatDoor

/-- A piece: from, to, base, slope. -/
structure PC where
  fr : EN
  to : EN
  bn : Int
  bd : Int
  sn : Int
  sd : Int
deriving DecidableEq
def PC.line (x : PC) : Int × Int × Int × Int := (x.bn, x.bd, x.sn, x.sd)
/-- A corner's own piece. -/
def valB (p : PG) (b : List Int) (l : List Nat) : Int := dot b (varL p (lookN p l))
def pcZ (p : PG) (b : List Int) (l : List Nat) : PC :=
  ⟨endsF (spW p b l), endsT (spW p b l), frN (valN p l) (lookN p l).xd, ptD [valN p l] (lookN p l).xd, frN (valB p b l) (lookN p l).xd, ptD [valB p b l] (lookN p l).xd⟩
structure GoodL (p : PG) (b : List Int) (l : List Nat) : Prop where
  ok : OKb p l
  some : endsE (spW p b l) = 0
/-- Is a piece one number? -/
def pointB (x : PC) : Bool := !x.fr.op && (!x.to.op && decide (x.fr = x.to))
/-- The lower, and the higher, end. -/
def leE (a b : EN) : Bool := a.op || (!b.op && decide (cmpZ a.n a.d b.n b.d ≤ 0))
def geE (a b : EN) : Bool := a.op || (!b.op && decide (0 ≤ cmpZ a.n a.d b.n b.d))
section
variable {p : PG} {b : List Int}
theorem val_pt {l : List Nat} (h : OKb p l) : ptE [valN p l] (lookN p l).xd = 0 ∧ ((valN p l : Rat) / ((lookN p l).xd : Rat) = baseQ p l) := by
  obtain ⟨_, _, _, hc⟩ := corn_of h.hp h.hr h.hd
  obtain ⟨_, _, w3⟩ := var_worth hc
  have hx := hc.xd12
  refine ⟨pt_ok (by omega) (by omega) ?_ (by simp), (val_sum hc).symm⟩
  rw [smallB_one]
  have : valN p l = dot p.costs (varL p (lookN p l)) := rfl
  simp; omega
theorem valB_pt (hb : By p b) {l : List Nat} (h : OKb p l) : ptE [valB p b l] (lookN p l).xd = 0 ∧ ((valB p b l : Rat) / ((lookN p l).xd : Rat) = slopQ p b l) := by
  obtain ⟨_, _, _, hc⟩ := corn_of h.hp h.hr h.hd
  have h' := costs_bs hb h.bs
  obtain ⟨_, _, _, hd⟩ := corn_of h'.hp h'.hr h'.hd
  have hx := hc.xd12
  obtain ⟨_, n4, _⟩ := mayPB_iff.1 h.hp
  have hbd := dot_bound hb.small (var_small hc) (by omega) (by omega)
  have hlen := hb.len
  have hbd' : -796262400 ≤ valB p b l ∧ valB p b l ≤ 796262400 := by unfold valB; omega
  refine ⟨pt_ok (by omega) (by omega) (by rw [smallB_one]; simp; omega) (by simp), ?_⟩
  have e1 : sumN (fun j => costZ (costsOf p b) j * (lookN p l).xs.getD j 0) (p.costs.length + p.rows.length) = valB p b l := by
    have := sum_costZ (p := costsOf p b) (f := fun j => (lookN p l).xs.getD j 0)
    rw [show (costsOf p b).costs.length + (costsOf p b).rows.length = p.costs.length + p.rows.length by show b.length + p.rows.length = _; rw [hb.len]] at this
    rw [this]
    unfold valB
    rw [show (costsOf p b).costs = b from rfl, dot_sum rfl (by rw [var_len hc, hb.len])]
    refine sumN_congr fun j hj => ?_
    rw [var_at p (lookN p l) (by omega)]
  have hx' := cast_pos hc.px
  unfold slopQ
  rw [sumR_congr (g := fun j => (1 / ((lookN p l).xd : Rat)) * ((costZ (costsOf p b) j * (lookN p l).xs.getD j 0 : Int) : Rat)) fun j _ => by unfold cq xq; rw [Rat.intCast_mul]; grind]
  rw [sumR_mul, ← cast_sum, e1]
  grind
theorem fr_q {n d : Int} (h : ptE [n] d = 0) (hd : 0 < d) : (frN n d : Rat) / (ptD [n] d : Rat) = (n : Rat) / (d : Rat) ∧ mayB [frN n d] (ptD [n] d) = true := by
  obtain ⟨h1, h2⟩ := frac_pos h
  refine ⟨?_, may_end h⟩
  have a := cast_pos h1
  have c := cast_pos hd
  have : (frN n d : Rat) * (d : Rat) = (n : Rat) * (ptD [n] d : Rat) := by rw [← Rat.intCast_mul, ← Rat.intCast_mul, h2]
  grind
/-- One line just where they are worth the same at all numbers. -/
theorem line_eq (hb : By p b) {l l' : List Nat} (h : OKb p l) (h' : OKb p l') : (pcZ p b l).line = (pcZ p b l').line ↔ baseQ p l = baseQ p l' ∧ slopQ p b l = slopQ p b l' := by
  obtain ⟨_, _, _, hc⟩ := corn_of h.hp h.hr h.hd
  obtain ⟨_, _, _, hc'⟩ := corn_of h'.hp h'.hr h'.hd
  obtain ⟨v1, v2⟩ := val_pt h
  obtain ⟨v1', v2'⟩ := val_pt h'
  obtain ⟨s1, s2⟩ := valB_pt hb h
  obtain ⟨s1', s2'⟩ := valB_pt hb h'
  obtain ⟨q1, m1⟩ := fr_q v1 hc.px
  obtain ⟨q1', m1'⟩ := fr_q v1' hc'.px
  obtain ⟨q2, m2⟩ := fr_q s1 hc.px
  obtain ⟨q2', m2'⟩ := fr_q s1' hc'.px
  have p1 := (mayB_parts m1).1
  have p1' := (mayB_parts m1').1
  have p2 := (mayB_parts m2).1
  have p2' := (mayB_parts m2').1
  rw [← v2, ← v2', ← s2, ← s2', ← q1, ← q1', ← q2, ← q2']
  unfold PC.line pcZ
  simp only [Prod.mk.injEq]
  constructor
  · rintro ⟨a1, a2, a3, a4⟩
    rw [a1, a2, a3, a4]; exact ⟨rfl, rfl⟩
  · rintro ⟨a1, a2⟩
    obtain ⟨c1, c2⟩ := frac_one m1 m1' (frac_same (by omega) (by omega) a1)
    obtain ⟨c3, c4⟩ := frac_one m2 m2' (frac_same (by omega) (by omega) a2)
    exact ⟨c1, c2, c3, c4⟩
/-- A grouping: each line once, with the lowest and the highest of its corners' ends. -/
structure Grp (p : PG) (b : List Int) (pcs : List PC) : Prop where
  nodup : pcs.Pairwise (fun x y => x.line ≠ y.line)
  fr : ∀ x ∈ pcs, ∃ l, GoodL p b l ∧ (pcZ p b l).line = x.line ∧ x.fr = endsF (spW p b l)
  to : ∀ x ∈ pcs, ∃ l, GoodL p b l ∧ (pcZ p b l).line = x.line ∧ x.to = endsT (spW p b l)
  all : ∀ l, GoodL p b l → ∃ x ∈ pcs, (pcZ p b l).line = x.line ∧ leE x.fr (endsF (spW p b l)) = true ∧ geE x.to (endsT (spW p b l)) = true
theorem Grp.same {P : List PC} (hP : Grp p b P) {x y : PC} (hx : x ∈ P) (hy : y ∈ P) (h : x.line = y.line) : x = y := by
  obtain ⟨i, hi, rfl⟩ := List.mem_iff_getElem.1 hx
  obtain ⟨j, hj, rfl⟩ := List.mem_iff_getElem.1 hy
  rcases Nat.lt_trichotomy i j with q | q | q
  · exact absurd h (List.pairwise_iff_getElem.1 hP.nodup i j hi hj q)
  · subst q; rfl
  · exact absurd h.symm (List.pairwise_iff_getElem.1 hP.nodup j i hj hi q)
/-- Ends of spans: open just so, or fractions that may be. -/
def EFine (e : EN) : Prop := (e.op = true ∧ e = openE) ∨ (e.op = false ∧ mayB [e.n] e.d = true)
theorem good_fine (hb : By p b) {l : List Nat} (h : GoodL p b l) : EFine (endsF (spW p b l)) ∧ EFine (endsT (spW p b l)) := by
  have hok := spW_ok hb h.ok.bs
  obtain ⟨o1, o2⟩ := ends_open h.some
  have k1 : EOk (endsF (spW p b l)) := by unfold endsF; rw [if_pos h.some]; exact hok.1
  have k2 : EOk (endsT (spW p b l)) := by unfold endsT; rw [if_pos h.some]; exact hok.2
  refine ⟨?_, ?_⟩
  · rcases e : (endsF (spW p b l)).op with _ | _
    · rcases k1 with q | q
      · rw [e] at q; simp at q
      · exact .inr ⟨e, q⟩
    · exact .inl ⟨e, o1 e⟩
  · rcases e : (endsT (spW p b l)).op with _ | _
    · rcases k2 with q | q
      · rw [e] at q; simp at q
      · exact .inr ⟨e, q⟩
    · exact .inl ⟨e, o2 e⟩
theorem fine_eq {a c : EN} (ha : EFine a) (hc : EFine c) (h : a.n * c.d = c.n * a.d) (h1 : a.op = false) (h2 : c.op = false) : a = c := by
  have m1 : mayB [a.n] a.d = true := by rcases ha with ⟨q, _⟩ | ⟨_, q⟩; rw [h1] at q; simp at q; exact q
  have m2 : mayB [c.n] c.d = true := by rcases hc with ⟨q, _⟩ | ⟨_, q⟩; rw [h2] at q; simp at q; exact q
  obtain ⟨e1, e2⟩ := frac_one m1 m2 h
  cases a; cases c
  simp_all
theorem le_anti {a c : EN} (ha : EFine a) (hc : EFine c) (h1 : leE a c = true) (h2 : leE c a = true) : a = c := by
  unfold leE cmpZ at h1 h2
  simp only [Bool.or_eq_true, Bool.and_eq_true, Bool.not_eq_true', decide_eq_true_eq] at h1 h2
  rcases h1 with q1 | ⟨q1, r1⟩
  · rcases h2 with q2 | ⟨q2, r2⟩
    · rcases ha with ⟨_, e1⟩ | ⟨w, _⟩
      · rcases hc with ⟨_, e2⟩ | ⟨w, _⟩
        · rw [e1, e2]
        · rw [q2] at w; simp at w
      · rw [q1] at w; simp at w
    · rw [q1] at q2; simp at q2
  · rcases h2 with q2 | ⟨q2, r2⟩
    · rw [q1] at q2; simp at q2
    · exact fine_eq ha hc (by omega) q2 q1
theorem ge_anti {a c : EN} (ha : EFine a) (hc : EFine c) (h1 : geE a c = true) (h2 : geE c a = true) : a = c := by
  unfold geE cmpZ at h1 h2
  simp only [Bool.or_eq_true, Bool.and_eq_true, Bool.not_eq_true', decide_eq_true_eq] at h1 h2
  rcases h1 with q1 | ⟨q1, r1⟩
  · rcases h2 with q2 | ⟨q2, r2⟩
    · rcases ha with ⟨_, e1⟩ | ⟨w, _⟩
      · rcases hc with ⟨_, e2⟩ | ⟨w, _⟩
        · rw [e1, e2]
        · rw [q2] at w; simp at w
      · rw [q1] at w; simp at w
    · rw [q1] at q2; simp at q2
  · rcases h2 with q2 | ⟨q2, r2⟩
    · rw [q1] at q2; simp at q2
    · exact fine_eq ha hc (by omega) q2 q1
/-- Two groupings have the same pieces. -/
theorem grp_sub (hb : By p b) {P Q : List PC} (hP : Grp p b P) (hQ : Grp p b Q) {x : PC} (hx : x ∈ P) : x ∈ Q := by
  obtain ⟨l, g1, e1, f1⟩ := hP.fr x hx
  obtain ⟨l2, g2, e2, f2⟩ := hP.to x hx
  obtain ⟨y, hy, y1, y2, _⟩ := hQ.all l g1
  obtain ⟨y', hy', z1, _, z3⟩ := hQ.all l2 g2
  have ey : y' = y := hQ.same hy' hy (by rw [← z1, e2, ← e1, y1])
  subst ey
  obtain ⟨l3, g3, e3, f3⟩ := hQ.fr y' hy
  obtain ⟨l4, g4, e4, f4⟩ := hQ.to y' hy
  obtain ⟨x', hx', w1, w2, _⟩ := hP.all l3 g3
  have ex : x' = x := hP.same hx' hx (by rw [← w1, e3, ← y1, e1])
  subst ex
  obtain ⟨x'', hx'', v1, _, v3⟩ := hP.all l4 g4
  have ex' : x'' = x' := hP.same hx'' hx (by rw [← v1, e4, ← y1, e1])
  subst ex'
  rw [← f1] at y2
  rw [← f2] at z3
  rw [← f3] at w2
  rw [← f4] at v3
  have hf : x''.fr = y'.fr := le_anti (by rw [f1]; exact (good_fine hb g1).1) (by rw [f3]; exact (good_fine hb g3).1) w2 y2
  have ht : x''.to = y'.to := ge_anti (by rw [f2]; exact (good_fine hb g2).2) (by rw [f4]; exact (good_fine hb g4).2) v3 z3
  have hl : x''.line = y'.line := by rw [← e1, y1]
  unfold PC.line at hl
  simp only [Prod.mk.injEq] at hl
  have : x'' = y' := by
    cases x''; cases y'
    simp_all
  rw [this]; exact hy

/-! Where a piece is best. -/
def LineMax (p : PG) (b : List Int) (B S t : Rat) : Prop := ∀ z, PtQ p z → sumR (fun j => cq p j * z j) (p.costs.length + p.rows.length) + t * sumR (fun j => cq (costsOf p b) j * z j) (p.costs.length + p.rows.length) ≤ B + t * S
theorem LineMax.between {B S t1 t2 t : Rat} (h1 : LineMax p b B S t1) (h2 : LineMax p b B S t2) (a : t1 ≤ t) (c : t ≤ t2) : LineMax p b B S t := by
  intro z hz
  have k1 := h1 z hz
  have k2 := h2 z hz
  generalize sumR (fun j => cq p j * z j) (p.costs.length + p.rows.length) = u at *
  generalize sumR (fun j => cq (costsOf p b) j * z j) (p.costs.length + p.rows.length) = v at *
  -- u - B + t (v - S) ≤ 0 at both ends
  by_cases hv : 0 ≤ v - S
  · have := Rat.mul_nonneg hv (show 0 ≤ t2 - t by grind)
    grind
  · have := Rat.mul_nonneg (show 0 ≤ S - v by grind) (show 0 ≤ t - t1 by grind)
    grind
/-- A piece's base and slope as fractions. -/
def PC.B (x : PC) : Rat := (x.bn : Rat) / (x.bd : Rat)
def PC.S (x : PC) : Rat := (x.sn : Rat) / (x.sd : Rat)
theorem pc_BS (hb : By p b) {l : List Nat} (h : OKb p l) {x : PC} (e : (pcZ p b l).line = x.line) : x.B = baseQ p l ∧ x.S = slopQ p b l := by
  obtain ⟨_, _, _, hc⟩ := corn_of h.hp h.hr h.hd
  obtain ⟨v1, v2⟩ := val_pt h
  obtain ⟨s1, s2⟩ := valB_pt hb h
  unfold PC.line at e
  simp only [Prod.mk.injEq] at e
  obtain ⟨e1, e2, e3, e4⟩ := e
  unfold PC.B PC.S
  rw [← e1, ← e2, ← e3, ← e4, ← v2, ← s2]
  exact ⟨(fr_q v1 hc.px).1, (fr_q s1 hc.px).1⟩
theorem good_max (hb : By p b) {l : List Nat} (h : GoodL p b l) {t : Rat} (ht : InQ (endsF (spW p b l)) (endsT (spW p b l)) t) : LineMax p b (baseQ p l) (slopQ p b l) t :=
  fun _ hz => best_max hb h.ok.bs ((spW_best hb h.ok.bs t).1 ⟨h.some, ht⟩) hz
/-- An end that is a number, as a fraction. -/
def EN.q (e : EN) : Rat := (e.n : Rat) / (e.d : Rat)
theorem fine_pos {e : EN} (h : EFine e) (ho : e.op = false) : (0 : Rat) < (e.d : Rat) := by
  rcases h with ⟨q, _⟩ | ⟨_, q⟩
  · rw [ho] at q; simp at q
  · exact cast_pos (by have := (mayB_parts q).1; omega)
theorem InQ_q {F T : EN} (hF : EFine F) (hT : EFine T) (t : Rat) : InQ F T t ↔ (F.op = true ∨ F.q ≤ t) ∧ (T.op = true ∨ t ≤ T.q) := by
  have key : ∀ e : EN, EFine e → e.op = false → ((e.n : Rat) ≤ t * (e.d : Rat) ↔ e.q ≤ t) ∧ (t * (e.d : Rat) ≤ (e.n : Rat) ↔ t ≤ e.q) := by
    intro e he ho
    have hp := fine_pos he ho
    have hq : (e.n : Rat) = e.q * (e.d : Rat) := by unfold EN.q; grind
    have hq2 : ∀ a c : Rat, a * (e.d : Rat) ≤ c * (e.d : Rat) ↔ a ≤ c := by
      intro a c
      constructor
      · intro h
        apply Classical.byContradiction
        intro w
        have := Rat.mul_pos (show 0 < a - c by grind) hp
        grind
      · intro h
        have := Rat.mul_nonneg (show 0 ≤ c - a by grind) (Rat.le_of_lt hp)
        grind
    rw [hq]
    exact ⟨hq2 _ _, hq2 _ _⟩
  unfold InQ
  rcases hFo : F.op with _ | _ <;> rcases hTo : T.op with _ | _
  · rw [(key F hF hFo).1, (key T hT hTo).2]
  · rw [(key F hF hFo).1]; simp
  · rw [(key T hT hTo).2]; simp
  · simp
/-- A good corner's span is not empty: its lower end is no higher than its higher one. -/
theorem good_le (hb : By p b) {l : List Nat} (h : GoodL p b l) (h1 : (endsF (spW p b l)).op = false) (h2 : (endsT (spW p b l)).op = false) : (endsF (spW p b l)).q ≤ (endsT (spW p b l)).q := by
  obtain ⟨f1, f2⟩ := good_fine hb h
  have d1 := fine_pos f1 h1
  have d2 := fine_pos f2 h2
  have h0 := h.some
  have m1 : mayB [(endsF (spW p b l)).n] (endsF (spW p b l)).d = true := by rcases f1 with ⟨q, _⟩ | ⟨_, q⟩; rw [h1] at q; simp at q; exact q
  have m2 : mayB [(endsT (spW p b l)).n] (endsT (spW p b l)).d = true := by rcases f2 with ⟨q, _⟩ | ⟨_, q⟩; rw [h2] at q; simp at q; exact q
  have e1 : endsF (spW p b l) = (spW p b l).fr := by unfold endsF; rw [if_pos h0]
  have e2 : endsT (spW p b l) = (spW p b l).to := by unfold endsT; rw [if_pos h0]
  have hn : ¬ lessB (endsT (spW p b l)).n (endsT (spW p b l)).d (endsF (spW p b l)).n (endsF (spW p b l)).d = true := by
    intro q
    rw [e1, e2] at q
    rw [e1] at h1
    rw [e2] at h2
    unfold endsE at h0
    rw [if_pos (.inr ⟨h1, h2, q⟩)] at h0
    omega
  rw [less_cmp m2 m1] at hn
  unfold cmpZ at hn
  clear e1 e2 h0 h
  generalize endsF (spW p b l) = F at *
  generalize endsT (spW p b l) = T at *
  have k : ((F.n * T.d : Int) : Rat) ≤ ((T.n * F.d : Int) : Rat) := Rat.intCast_le_intCast.2 (by omega)
  rw [Rat.intCast_mul, Rat.intCast_mul] at k
  have q1 : (F.n : Rat) = F.q * (F.d : Rat) := by unfold EN.q; grind
  have q2 : (T.n : Rat) = T.q * (T.d : Rat) := by unfold EN.q; grind
  rw [q1, q2] at k
  apply Classical.byContradiction
  intro w
  have := Rat.mul_pos (Rat.mul_pos (show 0 < F.q - T.q by grind) d1) d2
  grind
/-- Wherever a piece is told, its line is best. -/
theorem grp_max (hb : By p b) {P : List PC} (hP : Grp p b P) {x : PC} (hx : x ∈ P) {t : Rat} (ht : InQ x.fr x.to t) : LineMax p b x.B x.S t := by
  obtain ⟨l, g1, e1, f1⟩ := hP.fr x hx
  obtain ⟨l2, g2, e2, f2⟩ := hP.to x hx
  obtain ⟨b1, s1⟩ := pc_BS hb g1.ok e1
  obtain ⟨b2, s2⟩ := pc_BS hb g2.ok e2
  obtain ⟨a1, a2⟩ := good_fine hb g1
  obtain ⟨c1, c2⟩ := good_fine hb g2
  have m1 : ∀ u, InQ (endsF (spW p b l)) (endsT (spW p b l)) u → LineMax p b x.B x.S u := fun u hu => by rw [b1, s1]; exact good_max hb g1 hu
  have m2 : ∀ u, InQ (endsF (spW p b l2)) (endsT (spW p b l2)) u → LineMax p b x.B x.S u := fun u hu => by rw [b2, s2]; exact good_max hb g2 hu
  rw [f1, f2] at ht
  rw [InQ_q a1 c2] at ht
  have m1' : ∀ u, ((endsF (spW p b l)).op = true ∨ (endsF (spW p b l)).q ≤ u) ∧ ((endsT (spW p b l)).op = true ∨ u ≤ (endsT (spW p b l)).q) → LineMax p b x.B x.S u := fun u hu => m1 u ((InQ_q a1 a2 u).2 hu)
  have m2' : ∀ u, ((endsF (spW p b l2)).op = true ∨ (endsF (spW p b l2)).q ≤ u) ∧ ((endsT (spW p b l2)).op = true ∨ u ≤ (endsT (spW p b l2)).q) → LineMax p b x.B x.S u := fun u hu => m2 u ((InQ_q c1 c2 u).2 hu)
  -- a number of the first corner's span at or below t
  obtain ⟨t1, k1, k2⟩ : ∃ t1, t1 ≤ t ∧ LineMax p b x.B x.S t1 := by
    by_cases h : (endsT (spW p b l)).op = true ∨ t ≤ (endsT (spW p b l)).q
    · exact ⟨t, by grind, m1' t ⟨ht.1, h⟩⟩
    · have ho : (endsT (spW p b l)).op = false := by
        cases q : (endsT (spW p b l)).op
        · rfl
        · exact absurd (.inl q) h
      refine ⟨(endsT (spW p b l)).q, by grind, m1' _ ⟨?_, .inr (by grind)⟩⟩
      cases q : (endsF (spW p b l)).op
      · exact .inr (good_le hb g1 q ho)
      · exact .inl rfl
  obtain ⟨t2, k3, k4⟩ : ∃ t2, t ≤ t2 ∧ LineMax p b x.B x.S t2 := by
    by_cases h : (endsF (spW p b l2)).op = true ∨ (endsF (spW p b l2)).q ≤ t
    · exact ⟨t, by grind, m2' t ⟨h, ht.2⟩⟩
    · have ho : (endsF (spW p b l2)).op = false := by
        cases q : (endsF (spW p b l2)).op
        · rfl
        · exact absurd (.inl q) h
      refine ⟨(endsF (spW p b l2)).q, by grind, m2' _ ⟨.inr (by grind), ?_⟩⟩
      cases q : (endsT (spW p b l2)).op
      · exact .inr (good_le hb g2 ho q)
      · exact .inl rfl
  exact k2.between k4 k1 k3
/-- Two pieces that are best at one number are worth the same there. -/
theorem both_max (hb : By p b) {P : List PC} (hP : Grp p b P) {x y : PC} (hx : x ∈ P) (hy : y ∈ P) {t : Rat} (h1 : LineMax p b x.B x.S t) (h2 : LineMax p b y.B y.S t) : x.B + t * x.S = y.B + t * y.S := by
  obtain ⟨l, g1, e1, _⟩ := hP.fr x hx
  obtain ⟨l2, g2, e2, _⟩ := hP.fr y hy
  obtain ⟨b1, s1⟩ := pc_BS hb g1.ok e1
  obtain ⟨b2, s2⟩ := pc_BS hb g2.ok e2
  have k1 := h1 _ (ok_pt g2.ok)
  have k2 := h2 _ (ok_pt g1.ok)
  rw [show sumR (fun j => cq p j * xq (lookN p l2) j) (p.costs.length + p.rows.length) = baseQ p l2 from rfl, show sumR (fun j => cq (costsOf p b) j * xq (lookN p l2) j) (p.costs.length + p.rows.length) = slopQ p b l2 from rfl, ← b2, ← s2] at k1
  rw [show sumR (fun j => cq p j * xq (lookN p l) j) (p.costs.length + p.rows.length) = baseQ p l from rfl, show sumR (fun j => cq (costsOf p b) j * xq (lookN p l) j) (p.costs.length + p.rows.length) = slopQ p b l from rfl, ← b1, ← s1] at k2
  grind
theorem line_of (hb : By p b) {P : List PC} (hP : Grp p b P) {x y : PC} (hx : x ∈ P) (hy : y ∈ P) (hB : x.B = y.B) (hS : x.S = y.S) : x = y := by
  obtain ⟨l, g1, e1, _⟩ := hP.fr x hx
  obtain ⟨l2, g2, e2, _⟩ := hP.fr y hy
  obtain ⟨b1, s1⟩ := pc_BS hb g1.ok e1
  obtain ⟨b2, s2⟩ := pc_BS hb g2.ok e2
  refine hP.same hx hy ?_
  rw [← e1, ← e2]
  exact (line_eq hb g1.ok g2.ok).2 ⟨by rw [← b1, ← b2, hB], by rw [← s1, ← s2, hS]⟩
end
end Go.Proofs.YtjcdkbalhleeeaaGreatDoor

namespace Go.Proofs.YtjcdkbalhleeeaaGreatDoor

/-- Does a piece begin ahead of another one? -/
def befE (a c : EN) : Bool := if a.op || c.op then a.op else decide (cmpZ a.n a.d c.n c.d < 0)
section
variable {p : PG} {b : List Int}
theorem grp_fine (hb : By p b) {P : List PC} (hP : Grp p b P) {x : PC} (hx : x ∈ P) : EFine x.fr ∧ EFine x.to := by
  obtain ⟨l, g1, _, f1⟩ := hP.fr x hx
  obtain ⟨l2, g2, _, f2⟩ := hP.to x hx
  exact ⟨by rw [f1]; exact (good_fine hb g1).1, by rw [f2]; exact (good_fine hb g2).2⟩
theorem cmp_q {a c : EN} (ha : EFine a) (hc : EFine c) (h1 : a.op = false) (h2 : c.op = false) : (cmpZ a.n a.d c.n c.d < 0 ↔ a.q < c.q) ∧ (cmpZ a.n a.d c.n c.d ≤ 0 ↔ a.q ≤ c.q) := by
  have d1 := fine_pos ha h1
  have d2 := fine_pos hc h2
  have e : ((cmpZ a.n a.d c.n c.d : Int) : Rat) = (a.q - c.q) * ((a.d : Rat) * (c.d : Rat)) := by
    unfold cmpZ EN.q
    rw [Rat.intCast_sub, Rat.intCast_mul, Rat.intCast_mul]; grind
  have dd := Rat.mul_pos d1 d2
  have k1 : ((cmpZ a.n a.d c.n c.d : Int) : Rat) < 0 ↔ a.q < c.q := by
    rw [e]
    constructor
    · intro h
      apply Classical.byContradiction
      intro w
      have := Rat.mul_nonneg (show 0 ≤ a.q - c.q by grind) (Rat.le_of_lt dd); grind
    · intro h
      have := Rat.mul_pos (show 0 < c.q - a.q by grind) dd; grind
  have k2 : 0 < ((cmpZ a.n a.d c.n c.d : Int) : Rat) ↔ c.q < a.q := by
    rw [e]
    constructor
    · intro h
      apply Classical.byContradiction
      intro w
      have := Rat.mul_nonneg (show 0 ≤ c.q - a.q by grind) (Rat.le_of_lt dd); grind
    · intro h
      exact Rat.mul_pos (show 0 < a.q - c.q by grind) dd
  have z1 : ((cmpZ a.n a.d c.n c.d : Int) : Rat) < 0 ↔ cmpZ a.n a.d c.n c.d < 0 := by
    rw [show (0 : Rat) = ((0 : Int) : Rat) from rfl]; exact Rat.intCast_lt_intCast
  have z2 : 0 < ((cmpZ a.n a.d c.n c.d : Int) : Rat) ↔ 0 < cmpZ a.n a.d c.n c.d := by
    rw [show (0 : Rat) = ((0 : Int) : Rat) from rfl]; exact Rat.intCast_lt_intCast
  refine ⟨z1.symm.trans k1, ?_⟩
  constructor
  · intro h
    apply Classical.byContradiction
    intro w
    have := z2.1 (k2.2 (by grind)); omega
  · intro h
    apply Classical.byContradiction
    intro w
    have := k2.1 (z2.2 (by omega)); grind
/-- A piece of more than one number has two. -/
theorem not_point (hb : By p b) {P : List PC} (hP : Grp p b P) {x : PC} (hx : x ∈ P) (hn : pointB x = false) (h1 : x.fr.op = false) (h2 : x.to.op = false) : x.fr.q < x.to.q := by
  obtain ⟨f1, f2⟩ := grp_fine hb hP hx
  obtain ⟨l, g1, e1, q1⟩ := hP.fr x hx
  obtain ⟨y, hy, y1, y2, y3⟩ := hP.all l g1
  have ey : y = x := hP.same hy hx (by rw [← y1, e1])
  subst ey
  have hle : y.fr.q ≤ y.to.q := by
    -- from of the corner is no higher than its to, which is no higher than the piece's
    have hop : (endsT (spW p b l)).op = false := by
      unfold geE at y3
      simp only [Bool.or_eq_true, Bool.and_eq_true, Bool.not_eq_true', decide_eq_true_eq] at y3
      rcases y3 with w | w
      · rw [h2] at w; simp at w
      · exact w.1
    have k1 := good_le hb g1 (by rw [← q1]; exact h1) hop
    have k2 : (endsT (spW p b l)).q ≤ y.to.q := by
      unfold geE at y3
      simp only [Bool.or_eq_true, Bool.and_eq_true, Bool.not_eq_true', decide_eq_true_eq] at y3
      rcases y3 with w | w
      · rw [h2] at w; simp at w
      · refine (cmp_q (good_fine hb g1).2 f2 hop h2).2.1 ?_
        have := w.2
        unfold cmpZ at *; omega
    rw [q1]; grind
  rcases Rat.le_iff_lt_or_eq.1 hle with w | w
  · exact w
  · exfalso
    have e : y.fr = y.to := by
      refine fine_eq f1 f2 ?_ h1 h2
      have d1 := fine_pos f1 h1
      have d2 := fine_pos f2 h2
      have a1 : (y.fr.n : Rat) = y.fr.q * (y.fr.d : Rat) := by unfold EN.q; grind
      have a2 : (y.to.n : Rat) = y.to.q * (y.to.d : Rat) := by unfold EN.q; grind
      have : ((y.fr.n * y.to.d : Int) : Rat) = ((y.to.n * y.fr.d : Int) : Rat) := by
        rw [Rat.intCast_mul, Rat.intCast_mul, a1, a2, w]; grind
      exact_mod_cast this
    unfold pointB at hn
    rw [h1, h2] at hn
    simp [e] at hn
/-- Two pieces of more than one number that begin at one place are one. -/
theorem begin_one (hb : By p b) {P : List PC} (hP : Grp p b P) {x y : PC} (hx : x ∈ P) (hy : y ∈ P) (nx : pointB x = false) (ny : pointB y = false) (h : x.fr = y.fr) : x = y := by
  obtain ⟨f1, f2⟩ := grp_fine hb hP hx
  obtain ⟨f3, f4⟩ := grp_fine hb hP hy
  obtain ⟨t1, t2, hlt, i1, i2, j1, j2⟩ : ∃ t1 t2 : Rat, t1 < t2 ∧ InQ x.fr x.to t1 ∧ InQ x.fr x.to t2 ∧ InQ y.fr y.to t1 ∧ InQ y.fr y.to t2 := by
    -- the lower of both ends
    obtain ⟨u, u1, u2, u3⟩ : ∃ u : Rat, (x.to.op = true ∨ u ≤ x.to.q) ∧ (y.to.op = true ∨ u ≤ y.to.q) ∧ (x.fr.op = true ∨ x.fr.q < u) := by
      rcases ox : x.to.op with _ | _
      · rcases oy : y.to.op with _ | _
        · by_cases hq : x.to.q ≤ y.to.q
          · refine ⟨x.to.q, .inr (by grind), .inr hq, ?_⟩
            rcases of' : x.fr.op with _ | _
            · exact .inr (not_point hb hP hx nx of' ox)
            · exact .inl rfl
          · refine ⟨y.to.q, .inr (by grind), .inr (by grind), ?_⟩
            rcases of' : x.fr.op with _ | _
            · right; rw [h]; exact not_point hb hP hy ny (by rw [← h]; exact of') oy
            · exact .inl rfl
        · refine ⟨x.to.q, .inr (by grind), .inl rfl, ?_⟩
          rcases of' : x.fr.op with _ | _
          · exact .inr (not_point hb hP hx nx of' ox)
          · exact .inl rfl
      · rcases oy : y.to.op with _ | _
        · refine ⟨y.to.q, .inl rfl, .inr (by grind), ?_⟩
          rcases of' : x.fr.op with _ | _
          · right; rw [h]; exact not_point hb hP hy ny (by rw [← h]; exact of') oy
          · exact .inl rfl
        · exact ⟨x.fr.q + 1, .inl rfl, .inl rfl, .inr (by grind)⟩
    rcases of' : x.fr.op with _ | _
    · rw [of'] at u3
      have u4 : x.fr.q < u := by rcases u3 with w | w; simp at w; exact w
      refine ⟨x.fr.q, u, u4, (InQ_q f1 f2 _).2 ⟨.inr (by grind), u1.imp id fun w => by grind⟩, (InQ_q f1 f2 _).2 ⟨.inr (by grind), u1⟩, (InQ_q f3 f4 _).2 ⟨.inr (by rw [← h]; grind), u2.imp id fun w => by grind⟩, (InQ_q f3 f4 _).2 ⟨.inr (by rw [← h]; grind), u2⟩⟩
    · have oy : y.fr.op = true := by rw [← h]; exact of'
      exact ⟨u - 1, u, by grind, (InQ_q f1 f2 _).2 ⟨.inl of', u1.imp id fun w => by grind⟩, (InQ_q f1 f2 _).2 ⟨.inl of', u1⟩, (InQ_q f3 f4 _).2 ⟨.inl oy, u2.imp id fun w => by grind⟩, (InQ_q f3 f4 _).2 ⟨.inl oy, u2⟩⟩
  have e1 := both_max hb hP hx hy (grp_max hb hP hx i1) (grp_max hb hP hy j1)
  have e2 := both_max hb hP hx hy (grp_max hb hP hx i2) (grp_max hb hP hy j2)
  have hS : x.S = y.S := by
    have k : (t2 - t1) * (x.S - y.S) = 0 := by grind
    rcases Rat.mul_eq_zero.1 k with w | w
    · grind
    · grind
  refine line_of hb hP hx hy ?_ hS
  rw [hS] at e1; grind
/-- Two pieces with one slope are one. -/
theorem slope_one (hb : By p b) {P : List PC} (hP : Grp p b P) {x y : PC} (hx : x ∈ P) (hy : y ∈ P) (h : x.S = y.S) : x = y := by
  have key : ∀ z ∈ P, ∃ t, LineMax p b z.B z.S t := by
    intro z hz
    obtain ⟨l, g1, e1, q1⟩ := hP.fr z hz
    obtain ⟨f1, f2⟩ := good_fine hb g1
    obtain ⟨b1, s1⟩ := pc_BS hb g1.ok e1
    obtain ⟨t, ht⟩ : ∃ t, InQ (endsF (spW p b l)) (endsT (spW p b l)) t := by
      rcases o1 : (endsF (spW p b l)).op with _ | _
      · refine ⟨(endsF (spW p b l)).q, (InQ_q f1 f2 _).2 ⟨.inr (by grind), ?_⟩⟩
        rcases o2 : (endsT (spW p b l)).op with _ | _
        · exact .inr (good_le hb g1 o1 o2)
        · exact .inl rfl
      · exact ⟨(endsT (spW p b l)).q, (InQ_q f1 f2 _).2 ⟨.inl o1, .inr (by grind)⟩⟩
    exact ⟨t, by rw [b1, s1]; exact good_max hb g1 ht⟩
  obtain ⟨t1, h1⟩ := key x hx
  obtain ⟨t2, h2⟩ := key y hy
  obtain ⟨l, g1, e1, _⟩ := hP.fr x hx
  obtain ⟨l2, g2, e2, _⟩ := hP.fr y hy
  obtain ⟨b1, s1⟩ := pc_BS hb g1.ok e1
  obtain ⟨b2, s2⟩ := pc_BS hb g2.ok e2
  have k1 := h1 _ (ok_pt g2.ok)
  have k2 := h2 _ (ok_pt g1.ok)
  rw [show sumR (fun j => cq p j * xq (lookN p l2) j) (p.costs.length + p.rows.length) = baseQ p l2 from rfl, show sumR (fun j => cq (costsOf p b) j * xq (lookN p l2) j) (p.costs.length + p.rows.length) = slopQ p b l2 from rfl, ← b2, ← s2] at k1
  rw [show sumR (fun j => cq p j * xq (lookN p l) j) (p.costs.length + p.rows.length) = baseQ p l from rfl, show sumR (fun j => cq (costsOf p b) j * xq (lookN p l) j) (p.costs.length + p.rows.length) = slopQ p b l from rfl, ← b1, ← s1] at k2
  refine line_of hb hP hx hy ?_ h
  rw [h] at k1 k2; grind
/-- The order of pieces is one. -/
theorem bef_total (hb : By p b) {P : List PC} (hP : Grp p b P) {x y : PC} (hx : x ∈ P) (hy : y ∈ P) (nx : pointB x = false) (ny : pointB y = false) (hne : x ≠ y) : befE x.fr y.fr = !befE y.fr x.fr := by
  obtain ⟨f1, _⟩ := grp_fine hb hP hx
  obtain ⟨f3, _⟩ := grp_fine hb hP hy
  have hfr : x.fr ≠ y.fr := fun e => hne (begin_one hb hP hx hy nx ny e)
  unfold befE
  rcases ox : x.fr.op with _ | _ <;> rcases oy : y.fr.op with _ | _
  · simp
    have h0 : x.fr.n * y.fr.d ≠ y.fr.n * x.fr.d := fun e => hfr (fine_eq f1 f3 e ox oy)
    unfold cmpZ
    by_cases h : x.fr.n * y.fr.d - y.fr.n * x.fr.d < 0
    · have : ¬ (y.fr.n * x.fr.d - x.fr.n * y.fr.d < 0) := by omega
      simp [h]; omega
    · have : y.fr.n * x.fr.d - x.fr.n * y.fr.d < 0 := by omega
      simp [h]; omega
  · simp
  · simp
  · exfalso
    apply hfr
    rcases f1 with ⟨_, e1⟩ | ⟨w, _⟩
    · rcases f3 with ⟨_, e3⟩ | ⟨w, _⟩
      · rw [e1, e3]
      · rw [oy] at w; simp at w
    · rw [ox] at w; simp at w
theorem bef_trans (hb : By p b) {P : List PC} (hP : Grp p b P) {x y z : PC} (hx : x ∈ P) (hy : y ∈ P) (hz : z ∈ P) (h1 : befE x.fr y.fr = true) (h2 : befE y.fr z.fr = true) : befE x.fr z.fr = true ∨ (x.fr.op = true ∧ y.fr.op = true) := by
  obtain ⟨f1, _⟩ := grp_fine hb hP hx
  obtain ⟨f2, _⟩ := grp_fine hb hP hy
  obtain ⟨f3, _⟩ := grp_fine hb hP hz
  unfold befE at *
  rcases ox : x.fr.op with _ | _ <;> rcases oy : y.fr.op with _ | _ <;> rcases oz : z.fr.op with _ | _ <;> simp [ox, oy, oz] at h1 h2 ⊢
  have k1 := (cmp_q f1 f2 ox oy).1.1 h1
  have k2 := (cmp_q f2 f3 oy oz).1.1 h2
  exact (cmp_q f1 f3 ox oz).1.2 (by grind)
end
/-- Two lists in one strict order with the same members are one. -/
theorem sorted_eq {α : Type} {R : α → α → Prop} : ∀ {l l' : List α}, (∀ x y, x ∈ l → y ∈ l → x ≠ y → R x y → ¬ R y x) → l.Pairwise R → l'.Pairwise R → l.Nodup → l'.Nodup → (∀ x, x ∈ l ↔ x ∈ l') → l = l'
  | [], [], _, _, _, _, _, _ => rfl
  | [], b :: l', _, _, _, _, _, h => by have := (h b).2 (by simp); simp at this
  | a :: l, [], _, _, _, _, _, h => by have := (h a).1 (by simp); simp at this
  | a :: l, b :: l', ha, h1, h2, n1, n2, h => by
    rw [List.pairwise_cons] at h1 h2
    rw [List.nodup_cons] at n1 n2
    have e : a = b := by
      apply Classical.byContradiction
      intro hab
      refine hab ?_
      rcases List.mem_cons.1 ((h a).1 (by simp)) with q | q
      · exact q
      · rcases List.mem_cons.1 ((h b).2 (by simp)) with q' | q'
        · exact q'.symm
        · exact absurd (h2.1 a q) (ha a b (by simp) (by simp [q']) hab (h1.1 b q'))
    subst e
    rw [sorted_eq (l := l) (l' := l') (fun x y hx hy => ha x y (by simp [hx]) (by simp [hy])) h1.2 h2.2 n1.2 n2.2 fun x => ?_]
    have := h x
    simp only [List.mem_cons] at this
    constructor
    · intro q
      rcases this.1 (.inr q) with w | w
      · subst w; exact absurd q n1.1
      · exact w
    · intro q
      rcases this.2 (.inr q) with w | w
      · subst w; exact absurd q n2.1
      · exact w
end Go.Proofs.YtjcdkbalhleeeaaGreatDoor

namespace Go.Proofs.YtjcdkbalhleeeaaGreatDoor

section
variable {p : PG}
end
def goesC (p : PG) (l : List Nat) : Bool := decide (lookE p (ints l) = 0) && nonneg (lookN p l).xs
theorem goesC_iff {p : PG} {l : List Nat} : goesC p l = true ↔ OKb p l := by
  unfold goesC
  simp only [Bool.and_eq_true, decide_eq_true_eq]
  constructor
  · rintro ⟨h1, h2⟩
    obtain ⟨q1, q2, q3⟩ := look_parts h1
    rw [nats_ints] at q3
    have := (right_nats q2).1
    rw [nats_ints] at this
    exact ⟨q1, this, q3, h2⟩
  · intro h; exact ⟨ok_look h, h.hx⟩
end Go.Proofs.YtjcdkbalhleeeaaGreatDoor

namespace Go.Proofs.YtjcdkbalhleeeaaGreatDoor

/-- A line's spans are one: joined to those that are there. -/
def joinG (lo hi : EN → EN → EN) : List PC → PC → List PC
  | [], x => [x]
  | y :: l, x => if y.line = x.line then ⟨lo y.fr x.fr, hi y.to x.to, y.bn, y.bd, y.sn, y.sd⟩ :: l else y :: joinG lo hi l x
def undP (a c : EN) : EN := if c.op || (!a.op && lessB c.n c.d a.n a.d) then c else a
def ovrP (a c : EN) : EN := if c.op || (!a.op && lessB a.n a.d c.n c.d) then c else a
def LoOK (lo : EN → EN → EN) : Prop := ∀ a c, EFine a → EFine c → (lo a c = a ∨ lo a c = c) ∧ leE (lo a c) a = true ∧ leE (lo a c) c = true
def HiOK (hi : EN → EN → EN) : Prop := ∀ a c, EFine a → EFine c → (hi a c = a ∨ hi a c = c) ∧ geE (hi a c) a = true ∧ geE (hi a c) c = true
theorem fine_may {a : EN} (h : EFine a) (ho : a.op = false) : mayB [a.n] a.d = true := by
  rcases h with ⟨q, _⟩ | ⟨_, q⟩
  · rw [ho] at q; simp at q
  · exact q
theorem fine_op {a : EN} (h : EFine a) (ho : a.op = true) : a = openE := by
  rcases h with ⟨_, q⟩ | ⟨q, _⟩
  · exact q
  · rw [ho] at q; simp at q
theorem leE_refl (a : EN) : leE a a = true := by unfold leE cmpZ; cases a.op <;> simp
theorem geE_refl (a : EN) : geE a a = true := by unfold geE cmpZ; cases a.op <;> simp
theorem undP_ok : LoOK undP := fun a c ha hc => by
  unfold undP
  rcases oa : a.op with _ | _ <;> rcases oc : c.op with _ | _
  · have hl := less_cmp (fine_may hc oc) (fine_may ha oa)
    simp only [Bool.false_or, Bool.not_false, Bool.true_and]
    by_cases h : lessB c.n c.d a.n a.d = true
    · rw [if_pos h]
      have := hl.1 h
      exact ⟨.inr rfl, by unfold leE cmpZ at *; simp [oa]; omega, leE_refl c⟩
    · rw [if_neg h]
      have hn : ¬ cmpZ c.n c.d a.n a.d < 0 := fun q => h (hl.2 q)
      exact ⟨.inl rfl, leE_refl a, by unfold leE cmpZ at *; simp [oc]; omega⟩
  · rw [if_pos (by simp)]
    exact ⟨.inr rfl, by unfold leE; simp [oc], by unfold leE; simp [oc]⟩
  · rw [if_neg (by simp)]
    exact ⟨.inl rfl, by unfold leE; simp [oa], by unfold leE; simp [oa]⟩
  · rw [if_pos (by simp)]
    exact ⟨.inr rfl, by unfold leE; simp [oc], by unfold leE; simp [oc]⟩
theorem ovrP_ok : HiOK ovrP := fun a c ha hc => by
  unfold ovrP
  rcases oa : a.op with _ | _ <;> rcases oc : c.op with _ | _
  · have hl := less_cmp (fine_may ha oa) (fine_may hc oc)
    simp only [Bool.false_or, Bool.not_false, Bool.true_and]
    by_cases h : lessB a.n a.d c.n c.d = true
    · rw [if_pos h]
      have := hl.1 h
      exact ⟨.inr rfl, by unfold geE cmpZ at *; simp [oa]; omega, geE_refl c⟩
    · rw [if_neg h]
      have hn : ¬ cmpZ a.n a.d c.n c.d < 0 := fun q => h (hl.2 q)
      exact ⟨.inl rfl, geE_refl a, by unfold geE cmpZ at *; simp [oc]; omega⟩
  · rw [if_pos (by simp)]
    exact ⟨.inr rfl, by unfold geE; simp [oc], by unfold geE; simp [oc]⟩
  · rw [if_neg (by simp)]
    exact ⟨.inl rfl, by unfold geE; simp [oa], by unfold geE; simp [oa]⟩
  · rw [if_pos (by simp)]
    exact ⟨.inr rfl, by unfold geE; simp [oc], by unfold geE; simp [oc]⟩
theorem leE_trans {a c d : EN} (ha : EFine a) (hc : EFine c) (hd : EFine d) (h1 : leE a c = true) (h2 : leE c d = true) : leE a d = true := by
  unfold leE at *
  rcases oa : a.op with _ | _ <;> rcases oc : c.op with _ | _ <;> rcases od : d.op with _ | _ <;> simp [oa, oc, od] at h1 h2 ⊢
  exact (cmp_q ha hd oa od).2.2 (by have := (cmp_q ha hc oa oc).2.1 h1; have := (cmp_q hc hd oc od).2.1 h2; grind)
theorem geE_trans {a c d : EN} (ha : EFine a) (hc : EFine c) (hd : EFine d) (h1 : geE a c = true) (h2 : geE c d = true) : geE a d = true := by
  have flip : ∀ x y : EN, cmpZ y.n y.d x.n x.d = -(cmpZ x.n x.d y.n y.d) := fun x y => by unfold cmpZ; omega
  unfold geE at *
  rcases oa : a.op with _ | _ <;> rcases oc : c.op with _ | _ <;> rcases od : d.op with _ | _ <;> simp [oa, oc, od] at h1 h2 ⊢
  have k1 := (cmp_q hc ha oc oa).2.1 (by rw [flip a c]; omega)
  have k2 := (cmp_q hd hc od oc).2.1 (by rw [flip c d]; omega)
  have := (cmp_q hd ha od oa).2.2 (by grind)
  rw [flip a d] at this; omega
/-- A grouping of some corners. -/
structure GrpOn (p : PG) (b : List Int) (S : List Nat → Prop) (pcs : List PC) : Prop where
  nodup : pcs.Pairwise (fun x y => x.line ≠ y.line)
  fr : ∀ x ∈ pcs, ∃ l, (S l ∧ GoodL p b l) ∧ (pcZ p b l).line = x.line ∧ x.fr = endsF (spW p b l)
  to : ∀ x ∈ pcs, ∃ l, (S l ∧ GoodL p b l) ∧ (pcZ p b l).line = x.line ∧ x.to = endsT (spW p b l)
  all : ∀ l, S l → GoodL p b l → ∃ x ∈ pcs, (pcZ p b l).line = x.line ∧ leE x.fr (endsF (spW p b l)) = true ∧ geE x.to (endsT (spW p b l)) = true
theorem mem_join {lo hi : EN → EN → EN} {x : PC} : ∀ {l : List PC}, l.Pairwise (fun x y => x.line ≠ y.line) → ∀ z, z ∈ joinG lo hi l x ↔ (z ∈ l ∧ z.line ≠ x.line) ∨ (∃ y ∈ l, y.line = x.line ∧ z = ⟨lo y.fr x.fr, hi y.to x.to, y.bn, y.bd, y.sn, y.sd⟩) ∨ (z = x ∧ ∀ y ∈ l, y.line ≠ x.line)
  | [], _, z => by simp [joinG]
  | y :: l, hp, z => by
    rw [List.pairwise_cons] at hp
    rw [joinG]
    by_cases h : y.line = x.line
    · rw [if_pos h, List.mem_cons]
      have hl : ∀ w ∈ l, w.line ≠ x.line := fun w hw e => hp.1 w hw (by rw [h, e])
      constructor
      · rintro (rfl | q)
        · exact .inr (.inl ⟨y, by simp, h, rfl⟩)
        · exact .inl ⟨by simp [q], hl z q⟩
      · rintro (⟨q, q2⟩ | ⟨w, hw, e, rfl⟩ | ⟨_, q⟩)
        · rcases List.mem_cons.1 q with e | e
          · subst e; exact absurd h q2
          · exact .inr e
        · rcases List.mem_cons.1 hw with e' | e'
          · subst e'; exact .inl rfl
          · exact absurd e (hl w e')
        · exact absurd h (q y (by simp))
    · rw [if_neg h, List.mem_cons, mem_join hp.2 z]
      constructor
      · rintro (rfl | ⟨q, q2⟩ | ⟨w, hw, e, e2⟩ | ⟨q, q2⟩)
        · exact .inl ⟨by simp, h⟩
        · exact .inl ⟨by simp [q], q2⟩
        · exact .inr (.inl ⟨w, by simp [hw], e, e2⟩)
        · exact .inr (.inr ⟨q, fun w hw => by rcases List.mem_cons.1 hw with e | e; subst e; exact h; exact q2 w e⟩)
      · rintro (⟨q, q2⟩ | ⟨w, hw, e, e2⟩ | ⟨q, q2⟩)
        · rcases List.mem_cons.1 q with e | e
          · exact .inl e
          · exact .inr (.inl ⟨e, q2⟩)
        · rcases List.mem_cons.1 hw with e' | e'
          · subst e'; exact absurd e h
          · exact .inr (.inr (.inl ⟨w, e', e, e2⟩))
        · exact .inr (.inr (.inr ⟨q, fun w hw => q2 w (by simp [hw])⟩))
theorem join_nodup {lo hi : EN → EN → EN} {x : PC} : ∀ {l : List PC}, l.Pairwise (fun x y => x.line ≠ y.line) → (joinG lo hi l x).Pairwise (fun x y => x.line ≠ y.line)
  | [], _ => by simp [joinG]
  | y :: l, hp => by
    rw [List.pairwise_cons] at hp
    rw [joinG]
    by_cases h : y.line = x.line
    · rw [if_pos h, List.pairwise_cons]
      exact ⟨fun w hw => hp.1 w hw, hp.2⟩
    · rw [if_neg h, List.pairwise_cons]
      refine ⟨fun w hw => ?_, join_nodup hp.2⟩
      rcases (mem_join hp.2 w).1 hw with ⟨q, _⟩ | ⟨u, hu, e, rfl⟩ | ⟨rfl, _⟩
      · exact hp.1 w q
      · show y.line ≠ u.line; exact hp.1 u hu
      · exact h
section
variable {p : PG} {b : List Int} {S : List Nat → Prop} {pcs : List PC}
theorem GrpOn.nil (p : PG) (b : List Int) : GrpOn p b (fun _ => False) [] := ⟨by simp, by simp, by simp, fun _ h => h.elim⟩
theorem GrpOn.iff (h : GrpOn p b S pcs) {S' : List Nat → Prop} (hs : ∀ l, GoodL p b l → (S l ↔ S' l)) : GrpOn p b S' pcs :=
  ⟨h.nodup, fun x hx => by obtain ⟨l, h1, h2⟩ := h.fr x hx; exact ⟨l, ⟨(hs l h1.2).1 h1.1, h1.2⟩, h2⟩, fun x hx => by obtain ⟨l, h1, h2⟩ := h.to x hx; exact ⟨l, ⟨(hs l h1.2).1 h1.1, h1.2⟩, h2⟩, fun l hl g => h.all l ((hs l g).2 hl) g⟩
theorem GrpOn.grp (h : GrpOn p b S pcs) (hs : ∀ l, GoodL p b l → S l) : Grp p b pcs :=
  ⟨h.nodup, fun x hx => by obtain ⟨l, h1, h2⟩ := h.fr x hx; exact ⟨l, h1.2, h2⟩, fun x hx => by obtain ⟨l, h1, h2⟩ := h.to x hx; exact ⟨l, h1.2, h2⟩, fun l g => h.all l (hs l g) g⟩
theorem GrpOn.step (hb : By p b) {lo hi : EN → EN → EN} (hlo : LoOK lo) (hhi : HiOK hi) (h : GrpOn p b S pcs) {l0 : List Nat} (g0 : GoodL p b l0) : GrpOn p b (fun l => S l ∨ l = l0) (joinG lo hi pcs (pcZ p b l0)) := by
  obtain ⟨z1, z2⟩ := good_fine hb g0
  have hx0 : (pcZ p b l0).fr = endsF (spW p b l0) := rfl
  have hx1 : (pcZ p b l0).to = endsT (spW p b l0) := rfl
  have fineP : ∀ y ∈ pcs, EFine y.fr ∧ EFine y.to := fun y hy => by
    obtain ⟨l, g, _, e⟩ := h.fr y hy
    obtain ⟨l', g', _, e'⟩ := h.to y hy
    exact ⟨by rw [e]; exact (good_fine hb g.2).1, by rw [e']; exact (good_fine hb g'.2).2⟩
  refine ⟨join_nodup h.nodup, fun x hx => ?_, fun x hx => ?_, fun l hl g => ?_⟩
  · rcases (mem_join h.nodup x).1 hx with ⟨q, _⟩ | ⟨y, hy, e, rfl⟩ | ⟨rfl, _⟩
    · obtain ⟨l, g, e⟩ := h.fr x q; exact ⟨l, ⟨.inl g.1, g.2⟩, e⟩
    · obtain ⟨l, g, e1, e2⟩ := h.fr y hy
      rcases (hlo y.fr (pcZ p b l0).fr (fineP y hy).1 z1).1 with w | w
      · exact ⟨l, ⟨.inl g.1, g.2⟩, e1, by show lo y.fr _ = _; rw [w, e2]⟩
      · exact ⟨l0, ⟨.inr rfl, g0⟩, e.symm, by show lo y.fr _ = _; rw [w]; rfl⟩
    · exact ⟨l0, ⟨.inr rfl, g0⟩, rfl, rfl⟩
  · rcases (mem_join h.nodup x).1 hx with ⟨q, _⟩ | ⟨y, hy, e, rfl⟩ | ⟨rfl, _⟩
    · obtain ⟨l, g, e⟩ := h.to x q; exact ⟨l, ⟨.inl g.1, g.2⟩, e⟩
    · obtain ⟨l, g, e1, e2⟩ := h.to y hy
      rcases (hhi y.to (pcZ p b l0).to (fineP y hy).2 z2).1 with w | w
      · exact ⟨l, ⟨.inl g.1, g.2⟩, e1, by show hi y.to _ = _; rw [w, e2]⟩
      · exact ⟨l0, ⟨.inr rfl, g0⟩, e.symm, by show hi y.to _ = _; rw [w]; rfl⟩
    · exact ⟨l0, ⟨.inr rfl, g0⟩, rfl, rfl⟩
  · by_cases hex : ∃ y ∈ pcs, y.line = (pcZ p b l0).line
    · obtain ⟨y, hy, ey⟩ := hex
      have hm : (⟨lo y.fr (pcZ p b l0).fr, hi y.to (pcZ p b l0).to, y.bn, y.bd, y.sn, y.sd⟩ : PC) ∈ joinG lo hi pcs (pcZ p b l0) := (mem_join h.nodup _).2 (.inr (.inl ⟨y, hy, ey, rfl⟩))
      obtain ⟨q1, q2, q3⟩ := hlo y.fr (pcZ p b l0).fr (fineP y hy).1 z1
      obtain ⟨r1, r2, r3⟩ := hhi y.to (pcZ p b l0).to (fineP y hy).2 z2
      have fq : EFine (lo y.fr (pcZ p b l0).fr) := by rcases q1 with w | w <;> rw [w]; exact (fineP y hy).1; exact z1
      have fr : EFine (hi y.to (pcZ p b l0).to) := by rcases r1 with w | w <;> rw [w]; exact (fineP y hy).2; exact z2
      rcases hl with hl | rfl
      · obtain ⟨x, hx, e1, e2, e3⟩ := h.all l hl g
        by_cases exl : x.line = (pcZ p b l0).line
        · have exy : x = y := by
            obtain ⟨i, hi', rfl⟩ := List.mem_iff_getElem.1 hx
            obtain ⟨j, hj', rfl⟩ := List.mem_iff_getElem.1 hy
            have el : pcs[i].line = pcs[j].line := by rw [exl, ey]
            rcases Nat.lt_trichotomy i j with q | q | q
            · exact absurd el (List.pairwise_iff_getElem.1 h.nodup i j hi' hj' q)
            · subst q; rfl
            · exact absurd el.symm (List.pairwise_iff_getElem.1 h.nodup j i hj' hi' q)
          subst exy
          obtain ⟨u1, u2⟩ := good_fine hb g
          exact ⟨_, hm, e1, leE_trans fq (fineP x hx).1 u1 q2 e2, geE_trans fr (fineP x hx).2 u2 r2 e3⟩
        · exact ⟨x, (mem_join h.nodup _).2 (.inl ⟨hx, exl⟩), e1, e2, e3⟩
      · exact ⟨_, hm, ey.symm, q3, r3⟩
    · have hno : ∀ y ∈ pcs, y.line ≠ (pcZ p b l0).line := fun y hy e => hex ⟨y, hy, e⟩
      rcases hl with hl | rfl
      · obtain ⟨x, hx, e1, e2, e3⟩ := h.all l hl g
        exact ⟨x, (mem_join h.nodup _).2 (.inl ⟨hx, hno x hx⟩), e1, e2, e3⟩
      · exact ⟨_, (mem_join h.nodup _).2 (.inr (.inr ⟨rfl, hno⟩)), rfl, leE_refl _, geE_refl _⟩
end
/-- All of some corners' lines. -/
def goodB (p : PG) (b : List Int) (l : List Nat) : Bool := goesC p l && decide (endsE (spW p b l) = 0)
theorem goodB_iff {p : PG} {b : List Int} {l : List Nat} : goodB p b l = true ↔ GoodL p b l := by
  unfold goodB
  simp only [Bool.and_eq_true, decide_eq_true_eq]
  exact ⟨fun h => ⟨goesC_iff.1 h.1, h.2⟩, fun h => ⟨goesC_iff.2 h.ok, h.some⟩⟩
def grpF (lo hi : EN → EN → EN) (p : PG) (b : List Int) (ls : List (List Nat)) : List PC := ls.foldl (fun a l => if goodB p b l = true then joinG lo hi a (pcZ p b l) else a) []
theorem grpF_snoc (lo hi : EN → EN → EN) (p : PG) (b : List Int) (ls : List (List Nat)) (l : List Nat) : grpF lo hi p b (ls ++ [l]) = if goodB p b l = true then joinG lo hi (grpF lo hi p b ls) (pcZ p b l) else grpF lo hi p b ls := by
  unfold grpF; rw [List.foldl_append]; rfl
theorem grpF_on {lo hi : EN → EN → EN} (hlo : LoOK lo) (hhi : HiOK hi) {p : PG} {b : List Int} (hb : By p b) : ∀ n {ls : List (List Nat)}, ls.length = n → GrpOn p b (fun l => l ∈ ls) (grpF lo hi p b ls)
  | 0, ls, h => by
    obtain rfl : ls = [] := List.eq_nil_of_length_eq_zero h
    exact (GrpOn.nil p b).iff fun l _ => by simp
  | n + 1, ls, h => by
    have hne : ls ≠ [] := fun e => by rw [e] at h; simp at h
    have he : ls = ls.dropLast ++ [ls.getLast hne] := (List.dropLast_concat_getLast hne).symm
    have ih := grpF_on hlo hhi hb n (ls := ls.dropLast) (by rw [List.length_dropLast, h]; rfl)
    generalize ls.getLast hne = x at he
    generalize ls.dropLast = ds at *
    rw [he, grpF_snoc]
    by_cases hg : goodB p b x = true
    · rw [if_pos hg]
      exact (ih.step hb hlo hhi (goodB_iff.1 hg)).iff fun l _ => by simp
    · rw [if_neg hg]
      refine ih.iff fun l gl => ?_
      have : l ≠ x := fun e => hg (goodB_iff.2 (e ▸ gl))
      simp [this]
theorem grp_prog {p : PG} {b : List Int} (hb : By p b) : Grp p b (grpF undP ovrP p b (cornersZ p)) :=
  (grpF_on undP_ok ovrP_ok hb _ rfl).grp fun _ g => mem_corners.2 g.ok.bs

/-! The order. -/
def insP (out : List PC) (x : PC) : List PC := out.takeWhile (fun y => befE y.fr x.fr) ++ x :: out.dropWhile (fun y => befE y.fr x.fr)
def sortP (l : List PC) : List PC := l.foldl insP []
theorem mem_insP {out : List PC} {x z : PC} : z ∈ insP out x ↔ z ∈ out ∨ z = x := by
  unfold insP
  have e : out.takeWhile (fun y => befE y.fr x.fr) ++ out.dropWhile (fun y => befE y.fr x.fr) = out := List.takeWhile_append_dropWhile
  conv => rhs; rw [← e]
  simp only [List.mem_append, List.mem_cons]
  constructor
  · rintro (h | h | h)
    · exact .inl (.inl h)
    · exact .inr h
    · exact .inl (.inr h)
  · rintro ((h | h) | h)
    · exact .inl h
    · exact .inr (.inr h)
    · exact .inr (.inl h)
/-- The strict order of pieces. -/
def RB (x y : PC) : Prop := befE x.fr y.fr = true
section
variable {p : PG} {b : List Int} {P : List PC}
theorem RB_asymm (hb : By p b) (hP : Grp p b P) {x y : PC} (hx : x ∈ P) (hy : y ∈ P) (nx : pointB x = false) (ny : pointB y = false) (h : RB x y) (hne : x ≠ y) : ¬ RB y x := by
  intro h2
  have := bef_total hb hP hx hy nx ny hne
  unfold RB at *
  rw [h, h2] at this
  simp at this
theorem insP_sorted (hb : By p b) (hP : Grp p b P) {out : List PC} {x : PC} (ho : ∀ y ∈ out, y ∈ P ∧ pointB y = false ∧ y ≠ x) (hx : x ∈ P) (nx : pointB x = false) (hs : out.Pairwise RB) : (insP out x).Pairwise RB := by
  induction out with
  | nil => simp [insP]
  | cons a out ih =>
    rw [List.pairwise_cons] at hs
    have ha := ho a (by simp)
    by_cases h : befE a.fr x.fr = true
    · have e : insP (a :: out) x = a :: insP out x := by simp [insP, h]
      rw [e, List.pairwise_cons]
      refine ⟨fun z hz => ?_, ih (fun y hy => ho y (by simp [hy])) hs.2⟩
      rcases mem_insP.1 hz with q | rfl
      · exact hs.1 z q
      · exact h
    · have e : insP (a :: out) x = x :: a :: out := by simp [insP, h]
      have hxa : RB x a := by
        have := bef_total hb hP hx ha.1 nx ha.2.1 (fun q => ha.2.2 q.symm)
        unfold RB
        rw [this]
        simpa using h
      rw [e, List.pairwise_cons, List.pairwise_cons]
      refine ⟨fun z hz => ?_, hs.1, hs.2⟩
      rcases List.mem_cons.1 hz with rfl | q
      · exact hxa
      · have haz := hs.1 z q
        have hz' := ho z (by simp [q])
        rcases bef_trans hb hP hx ha.1 hz'.1 hxa haz with w | ⟨w1, w2⟩
        · exact w
        · -- both open: one piece
          exfalso
          have f1 := fine_op (grp_fine hb hP hx).1 w1
          have f2 := fine_op (grp_fine hb hP ha.1).1 w2
          exact ha.2.2 (begin_one hb hP ha.1 hx ha.2.1 nx (by rw [f1, f2]))
theorem mem_sortP {l : List PC} : ∀ {acc : List PC} {z : PC}, z ∈ l.foldl insP acc ↔ z ∈ acc ∨ z ∈ l := by
  induction l with
  | nil => intro acc z; simp
  | cons x l ih =>
    intro acc z
    rw [List.foldl_cons, ih, mem_insP, List.mem_cons]
    constructor
    · rintro ((h | h) | h)
      · exact .inl h
      · exact .inr (.inl h)
      · exact .inr (.inr h)
    · rintro (h | h | h)
      · exact .inl (.inl h)
      · exact .inl (.inr h)
      · exact .inr h
theorem sortP_sorted (hb : By p b) (hP : Grp p b P) {l : List PC} : ∀ {acc : List PC}, (∀ y ∈ acc, y ∈ P ∧ pointB y = false) → (∀ y ∈ l, y ∈ P ∧ pointB y = false) → (acc ++ l).Nodup → acc.Pairwise RB → (l.foldl insP acc).Pairwise RB := by
  induction l with
  | nil => intro acc _ _ _ h; exact h
  | cons x l ih =>
    intro acc ha hl hn hs
    rw [List.foldl_cons]
    have hx := hl x (by simp)
    have hxa : ∀ y ∈ acc, y ≠ x := fun y hy e => by
      rw [List.nodup_append] at hn
      exact hn.2.2 y hy x (by simp) e
    refine ih (fun y hy => ?_) (fun y hy => hl y (by simp [hy])) ?_ (insP_sorted hb hP (fun y hy => ⟨(ha y hy).1, (ha y hy).2, hxa y hy⟩) hx.1 hx.2 hs)
    · rcases mem_insP.1 hy with q | rfl
      · exact ha y q
      · exact hx
    · have hperm : (insP acc x).Perm (acc ++ [x]) := by
        unfold insP
        have e : acc.takeWhile (fun y => befE y.fr x.fr) ++ acc.dropWhile (fun y => befE y.fr x.fr) = acc := List.takeWhile_append_dropWhile
        conv => rhs; rw [← e]
        rw [List.append_assoc]
        refine List.Perm.append_left _ ?_
        exact (List.perm_append_comm (l₁ := [x]))
      have h2 : (insP acc x ++ l).Perm (acc ++ x :: l) := by
        have := hperm.append_right l
        rwa [List.append_assoc] at this
      exact h2.nodup_iff.2 hn
theorem insP_perm (acc : List PC) (x : PC) : (insP acc x).Perm (acc ++ [x]) := by
  unfold insP
  have e : acc.takeWhile (fun y => befE y.fr x.fr) ++ acc.dropWhile (fun y => befE y.fr x.fr) = acc := List.takeWhile_append_dropWhile
  conv => rhs; rw [← e]
  rw [List.append_assoc]
  exact List.Perm.append_left _ (List.perm_append_comm (l₁ := [x]))
theorem foldP_perm : ∀ (l acc : List PC), (l.foldl insP acc).Perm (acc ++ l)
  | [], acc => by simp
  | x :: l, acc => by
    rw [List.foldl_cons]
    refine (foldP_perm l _).trans ?_
    have := (insP_perm acc x).append_right l
    rwa [List.append_assoc] at this
theorem sortP_perm (l : List PC) : (sortP l).Perm l := foldP_perm l []
/-- Of lines of one number: the one with the least slope. -/
def slpB (x y : PC) : Bool := decide (cmpZ x.sn x.sd y.sn y.sd < 0)
def bestP : List PC → List PC
  | [] => []
  | x :: l => [l.foldl (fun a y => if slpB y a = true then y else a) x]
/-- The answer. -/
def ansP (P : List PC) : List PC := if (P.filter fun x => !pointB x) = [] then bestP P else sortP (P.filter fun x => !pointB x)
theorem grp_nodup (hP : Grp p b P) : P.Nodup := hP.nodup.imp fun h e => h (by rw [e])
/-- Whatever sorted list of them. -/
theorem sort_uniq (hb : By p b) (hP : Grp p b P) {Q : List PC} (hQ : Grp p b Q) {l : List PC} (hl : l.Perm (Q.filter fun x => !pointB x)) (hs : l.Pairwise RB) : l = sortP (P.filter fun x => !pointB x) := by
  have mQ : ∀ x, x ∈ l ↔ x ∈ Q ∧ pointB x = false := fun x => by rw [hl.mem_iff, List.mem_filter]; simp
  have mP : ∀ x, x ∈ sortP (P.filter fun x => !pointB x) ↔ x ∈ P ∧ pointB x = false := fun x => by unfold sortP; rw [mem_sortP, List.mem_filter]; simp
  have nd : l.Nodup := hl.nodup_iff.2 ((grp_nodup hQ).sublist List.filter_sublist)
  have hf : ∀ y ∈ P.filter (fun x => !pointB x), y ∈ P ∧ pointB y = false := fun y hy => by rw [List.mem_filter] at hy; simpa using hy
  have hns : (sortP (P.filter fun x => !pointB x)).Pairwise RB := sortP_sorted hb hP (by simp) hf (by simpa using (grp_nodup hP).sublist List.filter_sublist) (by simp)
  refine sorted_eq (R := RB) (fun x y hx hy hne hxy => ?_) hs hns nd ?_ fun x => ?_
  · obtain ⟨q1, q2⟩ := (mQ x).1 hx
    obtain ⟨r1, r2⟩ := (mQ y).1 hy
    exact RB_asymm hb hQ q1 r1 q2 r2 hxy hne
  · exact (sortP_perm _).nodup_iff.2 ((grp_nodup hP).sublist List.filter_sublist)
  · rw [mQ, mP]
    exact ⟨fun h => ⟨grp_sub hb hQ hP h.1, h.2⟩, fun h => ⟨grp_sub hb hP hQ h.1, h.2⟩⟩
theorem pc_pos (hb : By p b) (hP : Grp p b P) {x : PC} (hx : x ∈ P) : mayB [x.bn] x.bd = true ∧ mayB [x.sn] x.sd = true := by
  obtain ⟨l, g1, e1, _⟩ := hP.fr x hx
  obtain ⟨_, _, _, hc⟩ := corn_of g1.ok.hp g1.ok.hr g1.ok.hd
  unfold PC.line at e1
  simp only [Prod.mk.injEq] at e1
  obtain ⟨e1, e2, e3, e4⟩ := e1
  rw [← e1, ← e2, ← e3, ← e4]
  exact ⟨(fr_q (val_pt g1.ok).1 hc.px).2, (fr_q (valB_pt hb g1.ok).1 hc.px).2⟩
theorem slp_iff (hb : By p b) (hP : Grp p b P) {x y : PC} (hx : x ∈ P) (hy : y ∈ P) : slpB x y = true ↔ x.S < y.S := by
  have m1 := (pc_pos hb hP hx).2
  have m2 := (pc_pos hb hP hy).2
  have d1 := (mayB_parts m1).1
  have d2 := (mayB_parts m2).1
  unfold slpB cmpZ PC.S
  rw [decide_eq_true_eq, lt_div (by omega) (by omega)]
theorem foldS (hb : By p b) (hP : Grp p b P) : ∀ (l : List PC) (x : PC), x ∈ P → (∀ y ∈ l, y ∈ P) →
    (l.foldl (fun a y => if slpB y a = true then y else a) x ∈ x :: l ∧ ∀ y ∈ x :: l, (l.foldl (fun a y => if slpB y a = true then y else a) x).S ≤ y.S)
  | [], x, hx, _ => by simp
  | y :: l, x, hx, hl => by
    rw [List.foldl_cons]
    have hy := hl y (by simp)
    have hs := slp_iff hb hP hy hx
    by_cases h : slpB y x = true
    · rw [if_pos h]
      obtain ⟨h1, h2⟩ := foldS hb hP l y hy (fun z hz => hl z (by simp [hz]))
      refine ⟨List.mem_cons_of_mem _ h1, fun z hz => ?_⟩
      rcases List.mem_cons.1 hz with rfl | q
      · have := h2 y (by simp); have := hs.1 h; grind
      · exact h2 z q
    · rw [if_neg h]
      obtain ⟨h1, h2⟩ := foldS hb hP l x hx (fun z hz => hl z (by simp [hz]))
      refine ⟨?_, fun z hz => ?_⟩
      · rcases List.mem_cons.1 h1 with q | q
        · exact List.mem_cons.2 (.inl q)
        · exact List.mem_cons.2 (.inr (List.mem_cons_of_mem _ q))
      · rcases List.mem_cons.1 hz with rfl | q
        · exact h2 z (by simp)
        · rcases List.mem_cons.1 q with rfl | q
          · have := h2 x (by simp)
            have : ¬ z.S < x.S := fun w => h (hs.2 w)
            grind
          · exact h2 z (by simp [q])
theorem best_uniq (hb : By p b) (hP : Grp p b P) {Q : List PC} (hQ : Grp p b Q) {l : List PC} (hl : l.Perm Q) : bestP l = bestP P := by
  have hm : ∀ x, x ∈ l ↔ x ∈ P := fun x => by rw [hl.mem_iff]; exact ⟨fun h => grp_sub hb hQ hP h, fun h => grp_sub hb hP hQ h⟩
  cases l with
  | nil =>
    cases P with
    | nil => rfl
    | cons y P => have := (hm y).2 (by simp); simp at this
  | cons x l =>
    cases P with
    | nil => have := (hm x).1 (by simp); simp at this
    | cons y P' =>
      unfold bestP
      obtain ⟨h1, h2⟩ := foldS hb hP l x ((hm x).1 (by simp)) (fun z hz => (hm z).1 (by simp [hz]))
      obtain ⟨k1, k2⟩ := foldS hb hP P' y (by simp) (fun z hz => by simp [hz])
      have e1 := h2 _ ((hm _).2 k1)
      have e2 := k2 _ ((hm _).1 h1)
      have e3 := slope_one hb hP ((hm _).1 h1) k1 (by grind)
      show [_] = [_]
      rw [e3]
end
end Go.Proofs.YtjcdkbalhleeeaaGreatDoor

namespace Go.Proofs.YtjcdkbalhleeeaaGreatDoor

section
variable {p : PG} {b : List Int}
/-- A corner's gains at t. -/
def gT (p : PG) (b : List Int) (t : Rat) (l : List Nat) (j : Nat) : Rat := gq (lookN p l) j + t * gq (lookN (costsOf p b) l) j
def cT (p : PG) (b : List Int) (t : Rat) (j : Nat) : Rat := cq p j + t * cq (costsOf p b) j
/-- A step at t. -/
structure StT (p : PG) (b : List Int) (t : Rat) (l l' : List Nat) (r k : Nat) : Prop where
  ok : OKb p l
  rl : r ∉ l
  rN : r < p.costs.length + p.rows.length
  gr : 0 < gT p b t l r
  glt : ∀ j, j < r → gT p b t l j ≤ 0
  out : outZ (lookN p l).xs l (lessZ p l r) l.length = some k
  eq : l' = insN (l.eraseIdx k) r
/-- An endless way at t. -/
structure WayT (p : PG) (b : List Int) (t : Rat) (d : Nat → Rat) : Prop where
  ge : ∀ j, 0 ≤ d j
  ker : ∀ i, i < p.rows.length → sumR (fun j => aq p i j * d j) (p.costs.length + p.rows.length) = 0
  up : 0 < sumR (fun j => cT p b t j * d j) (p.costs.length + p.rows.length)
end
end Go.Proofs.YtjcdkbalhleeeaaGreatDoor

namespace Go.Proofs.YtjcdkbalhleeeaaGreatDoor

section
variable {p : PG} {b : List Int} {P : List PC}
theorem mem_ans (hb : By p b) (hP : Grp p b P) {x : PC} (h : x ∈ ansP P) : x ∈ P := by
  unfold ansP at h
  by_cases hf : (P.filter fun x => !pointB x) = []
  · rw [if_pos hf] at h
    cases P with
    | nil => simp [bestP] at h
    | cons y P =>
      unfold bestP at h
      rw [List.mem_singleton] at h
      rw [h]
      exact (foldS hb hP P y (by simp) (fun z hz => by simp [hz])).1
  · rw [if_neg hf] at h
    unfold sortP at h
    rw [mem_sortP] at h
    rcases h with h | h
    · simp at h
    · exact (List.mem_filter.1 h).1
end
end Go.Proofs.YtjcdkbalhleeeaaGreatDoor
