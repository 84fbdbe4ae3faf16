/-
  Contracts of functions and plain laws that later parts of the proof use. The conditions stand in each theorem.
-/
import Derived.Test.YtjcdkbalhleeeaaGreatDoorG06
namespace Go.Proofs.YtjcdkbalhleeeaaGreatDoor

section
variable {p : PG} {b : List Int} {P : List PC} {n d : Int} {l : List Nat}
/-- Of the kind Best: a best corner's answer. -/
theorem sol_best {q : PG} (hk : (solZ q).kind = 1) : ∃ l, BestC q l ∧ solZ q = bestA q l := by
  unfold solZ at hk ⊢
  cases hb : begZ q with
  | some l =>
    rw [hb] at hk
    simp only at hk ⊢
    obtain ⟨ho, hn⟩ := last_ok (beg_some hb)
    generalize wlastZ q l = lk at *
    rcases kind_at hn with ⟨h1, hi⟩ | ⟨h1, r, hi, hout⟩
    · rw [if_pos h1]
      exact ⟨lk, ⟨ho, inZ_none hi⟩, rfl⟩
    · rw [if_neg (by omega)] at hk
      exact absurd hk (by show ¬ ((2 : Int) = 1); omega)
  | none =>
    rw [hb] at hk
    simp only at hk
    cases hs : stZ q with
    | none => rw [hs] at hk; exact absurd hk (by show ¬ ((0 : Int) = 1); omega)
    | some x => rw [hs] at hk; exact absurd hk (by show ¬ ((3 : Int) = 1); omega)
/-- Its worth. -/
theorem bestA_worth {q : PG} (ho : OKb q l) : mayB [(bestA q l).wn] (bestA q l).wd = true ∧ ((bestA q l).wn : Rat) / ((bestA q l).wd : Rat) = sumR (fun j => cq q j * xq (lookN q l) j) (q.costs.length + q.rows.length) := by
  obtain ⟨_, _, _, hc⟩ := corn_of ho.hp ho.hr ho.hd
  obtain ⟨hf, _, _⟩ := goesB_iff.1 (var_goes hc ho.hx)
  obtain ⟨w1, w2, _⟩ := var_worth hc
  obtain ⟨g, g0, g1, g2, g3, g4⟩ := var_parts hc
  have e1 : (bestA q l).wn = frN (dot q.costs (ptN (varL q (lookN q l)) (lookN q l).xd)) (ptD (varL q (lookN q l)) (lookN q l).xd) := by
    show worN q _ _ = _
    unfold worN; rw [if_pos hf]
  have e2 : (bestA q l).wd = ptD [dot q.costs (ptN (varL q (lookN q l)) (lookN q l).xd)] (ptD (varL q (lookN q l)) (lookN q l).xd) := by
    show worD q _ _ = _
    unfold worD; rw [if_pos hf]
  obtain ⟨f1, f2⟩ := fr_q w1 g4
  rw [e1, e2]
  refine ⟨f2, ?_⟩
  rw [f1, val_sum hc]
  have q1 := cast_pos g4
  have q2 := cast_pos hc.px
  have q3 : ((dot q.costs (ptN (varL q (lookN q l)) (lookN q l).xd) : Int) : Rat) * ((lookN q l).xd : Rat) = (dot q.costs ((lookN q l).xs.take q.costs.length) : Rat) * ((ptD (varL q (lookN q l)) (lookN q l).xd : Int) : Rat) := by
    rw [← Rat.intCast_mul, ← Rat.intCast_mul]
    exact congrArg _ w2
  grind
end
end Go.Proofs.YtjcdkbalhleeeaaGreatDoor
