/-
  Contracts of functions and plain laws that later parts of the proof use. The conditions stand in each theorem.
-/
import Derived.Test.YtjcdkbalhleeeaaGreatDoorG02
namespace Go.Proofs.YtjcdkbalhleeeaaGreatDoor
def wholeG (l : List Int) : Int := if comm 0 l = 0 then 1 else (comm 0 l : Int)
def wholeZ (l : List Int) : List Int := l.map fun n => n.tdiv (wholeG l)
theorem wholeZ_len (l : List Int) : (wholeZ l).length = l.length := by simp [wholeZ]
theorem wholeG_pos (l : List Int) : 0 < wholeG l := by unfold wholeG; split <;> omega
theorem whole_at (l : List Int) (j : Nat) : l.getD j 0 = wholeG l * (wholeZ l).getD j 0 := by
 by_cases hj : j < l.length
 ·have hd : wholeG l ∣ l[j] := by
    unfold wholeG
    split
    ·exact Int.one_dvd _
    ·exact (comm_dvd 0 l).2 _ (List.getElem_mem hj)
  simp only [wholeZ, List.getD, List.getElem?_map, List.getElem?_eq_getElem hj, Option.map_some, Option.getD_some]
  exact (Int.mul_tdiv_cancel' hd).symm
 ·rw [List.getD, List.getElem?_eq_none (by omega), List.getD, List.getElem?_eq_none (by rw [wholeZ_len]; omega)]; simp
theorem pos_of_mul {g x : Int} (hg : 0 < g) (h : 0 ≤ g * x) : 0 ≤ x := by
 apply Classical.byContradiction
 intro hn
 have := Int.mul_neg_of_pos_of_neg hg (show x < 0 by omega)
 omega
theorem comm_one (l : List Int) : comm 1 l = 1 := Nat.dvd_one.1 (comm_dvd 1 l).1
theorem whole_may {l : List Int} {B : Int} (h8 : l.length ≤ 8) (hB : 0 ≤ B) (hB2 : B ≤ 1073741824) (hl : smallB B l = true) : mayB (wholeZ l) 1 = true := by
 have hs : smallB 1073741824 (wholeZ l) = true := (smallB_getD (by omega)).2 fun j => by
  have h1 := (smallB_getD hB).1 hl j
  have := le_of_mul (B := B) (by have := wholeG_pos l; omega) (whole_at l j) h1
  omega
 unfold mayB rightB
 simp only [Bool.and_eq_true, decide_eq_true_eq]
 exact ⟨⟨by omega, by omega, hs, by rw [wholeZ_len]; exact h8⟩, comm_one _⟩
def rayZ (p : PG) (l : List Nat) (r : Nat) : List Int := (List.range (p.costs.length + p.rows.length)).map fun j => if j = r then (lookN (qOf p r) l).xd else -((lookN (qOf p r) l).xs.getD j 0)
theorem ray_len (p : PG) (l : List Nat) (r : Nat) : (rayZ p l r).length = p.costs.length + p.rows.length := by simp [rayZ]
section
variable {p : PG} {l : List Nat} {r : Nat}
theorem ray_q (hb : Bs p l) {j : Nat} (hj : j < p.costs.length + p.rows.length) : ((rayZ p l r).getD j 0 : Rat) = ((lookN (qOf p r) l).xd : Rat) * dq p l r j := by
 obtain ⟨a1, a2, a3, hq⟩ := corn_of (qOf_may hb.hp r) (qOf_right hb.hr r) (by rw [qOf_den hb.hr.len]; exact hb.hd)
 have hx := cast_pos hq.px
 unfold rayZ dq xq
 rw [getD_map_range hj]
 by_cases e : j = r
 ·rw [if_pos e, if_pos e]; grind
 ·rw [if_neg e, if_neg e, Rat.intCast_neg]; grind
theorem worth_dir {c : CO} {gx gy gg : Int} (hc : Corn p l c gx gy gg) {d : Nat → Rat} (hd : ∀ i, i < p.rows.length → sumR (fun j => aq p i j * d j) (p.costs.length + p.rows.length) = 0) :
    sumR (fun j => cq p j * d j) (p.costs.length + p.rows.length) = sumR (fun j => gq c j * d j) (p.costs.length + p.rows.length) := by
 have h1 : sumR (fun j => cq p j * d j) (p.costs.length + p.rows.length) = sumR (fun j => gq c j * d j + sumR (fun i => yq c i * (aq p i j * d j)) p.rows.length) (p.costs.length + p.rows.length) := by
  refine sumR_congr fun j hj => ?_
  rw [hc.gainQ hj]
  have e : sumR (fun i => yq c i * (aq p i j * d j)) p.rows.length = d j * sumR (fun i => yq c i * aq p i j) p.rows.length := by
   rw [← sumR_mul]; exact sumR_congr fun i _ => by grind
  rw [e]; grind
 rw [h1, sumR_add, sumR_comm]
 have h2 : sumR (fun i => sumR (fun j => yq c i * (aq p i j * d j)) (p.costs.length + p.rows.length)) p.rows.length = 0 := by
  rw [sumR_congr (g := fun _ => 0) fun i hi => by rw [sumR_mul, hd i hi]; grind]; exact sumR_zero
 rw [h2]; grind
theorem dir_worth (ho : OKb p l) (hin : inZ (lookN p l).gs = some r) : sumR (fun j => cq p j * dq p l r j) (p.costs.length + p.rows.length) = gq (lookN p l) r := by
 obtain ⟨gx, gy, gg, hc⟩ := corn_of ho.hp ho.hr ho.hd
 obtain ⟨h1, h2, h3⟩ := in_new ho hin
 rw [worth_dir hc fun i hi => dir_ker ho.hp ho.hr ho.hd h1 h2 hi]
 rw [sumR_one h2 fun j hj hne => ?_]
 ·unfold dq; rw [if_pos rfl]; grind
 ·by_cases hjl : j ∈ l
  ·rw [hc.gainQ0 hjl]; grind
  ·unfold dq; rw [if_neg hne, colOff ho.bs r hjl]; grind
theorem gain_pos (ho : OKb p l) (hin : inZ (lookN p l).gs = some r) : 0 < gq (lookN p l) r := by
 obtain ⟨gx, gy, gg, hc⟩ := corn_of ho.hp ho.hr ho.hd
 exact (sign_div hc.pg).1.2 (in_new ho hin).2.2
theorem less_end (hout : outZ (lookN p l).xs l (lessZ p l r) l.length = none) : ∀ j ∈ l, (lookN (qOf p r) l).xs.getD j 0 ≤ 0 := by
 intro j hj
 obtain ⟨k, hk, rfl⟩ := mem_getD.1 hj
 have := outZ_none.1 hout k hk
 unfold lessZ at this
 rwa [getD_map hk] at this
theorem dir_nonneg (ho : OKb p l) (hout : outZ (lookN p l).xs l (lessZ p l r) l.length = none) (j : Nat) : 0 ≤ dq p l r j := by
 obtain ⟨a1, a2, a3, hq⟩ := corn_of (qOf_may ho.hp r) (qOf_right ho.hr r) (by rw [qOf_den ho.hr.len]; exact ho.hd)
 unfold dq
 by_cases e : j = r
 ·rw [if_pos e]; grind
 ·rw [if_neg e]
  by_cases hjl : j ∈ l
  ·have := less_end hout j hjl
   have hn : ¬ 0 < xq (lookN (qOf p r) l) j := fun q => by have := (sign_div hq.px).1.1 q; omega
   grind
  ·rw [colOff ho.bs r hjl]; grind
theorem ray_nonneg (ho : OKb p l) (hout : outZ (lookN p l).xs l (lessZ p l r) l.length = none) (j : Nat) : 0 ≤ (rayZ p l r).getD j 0 := by
 obtain ⟨a1, a2, a3, hq⟩ := corn_of (qOf_may ho.hp r) (qOf_right ho.hr r) (by rw [qOf_den ho.hr.len]; exact ho.hd)
 by_cases hj : j < p.costs.length + p.rows.length
 ·unfold rayZ
  rw [getD_map_range hj]
  by_cases e : j = r
  ·rw [if_pos e]; have := hq.px; omega
  ·rw [if_neg e]
   by_cases hjl : j ∈ l
   ·have := less_end hout j hjl; omega
   ·have h0 := hq.x j
    rw [xall_off (qOf_right ho.hr r) hjl] at h0
    rcases Int.mul_eq_zero.1 h0.symm with q | q
    ·exact absurd q hq.nx
    ·omega
 ·rw [List.getD, List.getElem?_eq_none (by rw [ray_len]; omega)]; simp
theorem ray_small (hb : Bs p l) : smallB 497664 (rayZ p l r) = true := by
 obtain ⟨a1, a2, a3, hq⟩ := corn_of (qOf_may hb.hp r) (qOf_right hb.hr r) (by rw [qOf_den hb.hr.len]; exact hb.hd)
 rw [smallB_getD (by omega)]
 intro j
 by_cases hj : j < p.costs.length + p.rows.length
 ·unfold rayZ
  rw [getD_map_range hj]
  split
  ·have := hq.xd12; omega
  ·have := hq.xs12 j; omega
 ·rw [List.getD, List.getElem?_eq_none (by rw [ray_len]; omega)]; simp
theorem ray_sum (hb : Bs p l) {f : Nat → Int} : ((sumN (fun j => f j * (rayZ p l r).getD j 0) (p.costs.length + p.rows.length) : Int) : Rat) = ((lookN (qOf p r) l).xd : Rat) * sumR (fun j => (f j : Rat) * dq p l r j) (p.costs.length + p.rows.length) := by
 rw [cast_sum, ← sumR_mul]
 refine sumR_congr fun j hj => ?_
 rw [Rat.intCast_mul, ray_q hb hj]; grind
theorem take_at {l : List Int} {n j : Nat} (h : j < n) : (l.take n).getD j 0 = l.getD j 0 := by simp [List.getD, h]
def rayL (p : PG) (l : List Nat) (r : Nat) : List Int := (rayZ p l r).take p.costs.length
theorem rayL_len (p : PG) (l : List Nat) (r : Nat) : (rayL p l r).length = p.costs.length := by unfold rayL; rw [List.length_take, ray_len]; omega
theorem rayL_small (hb : Bs p l) : smallB 497664 (rayL p l r) = true := smallB_iff.2 fun x hx => smallB_mem (ray_small (r := r) hb) (List.mem_of_mem_take hx)
theorem ray_row (hb : Bs p l) (hrl : r ∉ l) (hN : r < p.costs.length + p.rows.length) {i : Nat} (hi : i < p.rows.length) : dot (p.rows[i]).1 (rayL p l r) + (rayZ p l r).getD (p.costs.length + i) 0 = 0 := by
 have h1 : sumN (fun j => hasZ p i j * (rayZ p l r).getD j 0) (p.costs.length + p.rows.length) = 0 := by
  have := ray_sum (r := r) hb (f := fun j => hasZ p i j)
  rw [show sumR (fun j => ((hasZ p i j : Int) : Rat) * dq p l r j) (p.costs.length + p.rows.length) = 0 from dir_ker hb.hp hb.hr hb.hd hrl hN hi] at this
  have h0 : ((sumN (fun j => hasZ p i j * (rayZ p l r).getD j 0) (p.costs.length + p.rows.length) : Int) : Rat) = ((0 : Int) : Rat) := by rw [this]; grind
  exact_mod_cast h0
 rw [sumN_split] at h1
 rw [dot_row hb.hp hi (rayL_len p l r)]
 have e1 : sumN (fun j => hasZ p i j * (rayL p l r).getD j 0) p.costs.length = sumN (fun j => hasZ p i j * (rayZ p l r).getD j 0) p.costs.length :=
  sumN_congr fun j hj => by unfold rayL; rw [take_at hj]
 have key : ∀ n, sumN (fun q => hasZ p i (p.costs.length + q) * (rayZ p l r).getD (p.costs.length + q) 0) n = if i < n then (rayZ p l r).getD (p.costs.length + i) 0 else 0 := by
  intro n
  induction n with
  | zero => simp [sumN]
  | succ n ih =>
   rw [sumN, ih]
   have e : hasZ p i (p.costs.length + n) = if n = i then 1 else 0 := by
    unfold hasZ; rw [if_neg (by omega)]
    by_cases e : n = i
    ·rw [if_pos (by omega), if_pos e]
    ·rw [if_neg (by omega), if_neg e]
   rw [e]
   by_cases e : n = i
   ·subst e; rw [if_neg (by omega), if_pos rfl, if_pos (by omega)]; omega
   ·rw [if_neg e]
    by_cases e' : i < n
    ·rw [if_pos e', if_pos (by omega)]; omega
    ·rw [if_neg e', if_neg (by omega)]; omega
 rw [key, if_pos hi] at h1
 rw [e1]; exact h1
theorem endless_holds (ho : OKb p l) (hin : inZ (lookN p l).gs = some r) (hout : outZ (lookN p l).xs l (lessZ p l r) l.length = none) :
    endlessB p ⟨2, ptN (varL p (lookN p l)) (lookN p l).xd, ptD (varL p (lookN p l)) (lookN p l).xd, [], 0, wholeZ (rayL p l r), 1, 0, 0⟩ = true := by
 obtain ⟨gx, gy, gg, hc⟩ := corn_of ho.hp ho.hr ho.hd
 obtain ⟨a1, a2, a3, hq⟩ := corn_of (qOf_may ho.hp r) (qOf_right ho.hr r) (by rw [qOf_den ho.hr.len]; exact ho.hd)
 obtain ⟨h1, h2, h3⟩ := in_new ho hin
 have hn := mayPB_iff.1 ho.hp
 have hG := wholeG_pos (rayL p l r)
 have hW := whole_at (rayL p l r)
 have hWl : (wholeZ (rayL p l r)).length = p.costs.length := by rw [wholeZ_len, rayL_len]
 have hnn : nonneg (wholeZ (rayL p l r)) = true := nonneg_of fun j => by
  by_cases hj : j < p.costs.length
  ·refine pos_of_mul hG ?_
   rw [← hW j]
   unfold rayL
   rw [take_at hj]
   exact ray_nonneg ho hout j
  ·rw [List.getD, List.getElem?_eq_none (by omega)]; simp
 unfold endlessB
 simp only [Bool.and_eq_true, decide_eq_true_eq]
 refine ⟨by simp [emptyB], ⟨trivial, trivial⟩, var_goes hc ho.hx, aboveB_iff.2 ⟨whole_may (B := 497664) (by rw [rayL_len]; omega) (by omega) (by omega) (rayL_small ho.bs), hWl, hnn⟩, trivial, ?_, ?_⟩
 ·rw [List.all_eq_true]
  intro x hx
  obtain ⟨i, hi, rfl⟩ := List.mem_iff_getElem.1 hx
  rw [decide_eq_true_eq]
  have e1 := ray_row ho.bs h1 h2 hi
  have e2 := ray_nonneg ho hout (p.costs.length + i)
  have e3 := dot_scale (mayPB_row ho.hp hi).1 (rayL_len p l r) hWl hW
  rw [e3] at e1
  apply Classical.byContradiction
  intro q
  have := Int.mul_pos hG (show 0 < dot (p.rows[i]).1 (wholeZ (rayL p l r)) by omega)
  omega
 ·have e3 := dot_scale (a := p.costs) rfl (rayL_len p l r) hWl hW
  have e4 : dot p.costs (rayL p l r) = sumN (fun j => costZ p j * (rayZ p l r).getD j 0) (p.costs.length + p.rows.length) := by
   rw [sum_costZ, dot_sum rfl (rayL_len p l r)]
   exact sumN_congr fun j hj => by unfold rayL; rw [take_at hj]
  have e5 := ray_sum (r := r) ho.bs (f := fun j => costZ p j)
  rw [show sumR (fun j => ((costZ p j : Int) : Rat) * dq p l r j) (p.costs.length + p.rows.length) = gq (lookN p l) r from dir_worth ho hin] at e5
  have e6 := Rat.mul_pos (cast_pos hq.px) (gain_pos ho hin)
  rw [← e5, ← e4] at e6
  have e7 : 0 < dot p.costs (rayL p l r) := by exact_mod_cast e6
  rw [e3] at e7
  apply Classical.byContradiction
  intro q
  have := Int.mul_nonpos_of_nonneg_of_nonpos (show 0 ≤ wholeG (rayL p l r) by omega) (show dot p.costs (wholeZ (rayL p l r)) ≤ 0 by omega)
  omega
theorem endless_alone (ho : OKb p l) (hin : inZ (lookN p l).gs = some r) (hout : outZ (lookN p l).xs l (lessZ p l r) l.length = none) {l' : List Nat} (ho' : OKb p l') (hg : ∀ j, (lookN p l').gs.getD j 0 ≤ 0) : False := by
 obtain ⟨gx, gy, gg, hc⟩ := corn_of ho'.hp ho'.hr ho'.hd
 obtain ⟨h1, h2, h3⟩ := in_new ho hin
 have e1 := dir_worth ho hin
 have e2 := gain_pos ho hin
 rw [← e1, worth_dir hc fun i hi => dir_ker ho.hp ho.hr ho.hd h1 h2 hi] at e2
 obtain ⟨j, hj, hp⟩ := sumR_pos e2
 have g1 : ¬ 0 < gq (lookN p l') j := fun q => by have := (sign_div hc.pg).1.1 q; have := hg j; omega
 have := Rat.mul_nonneg (show 0 ≤ -(gq (lookN p l') j) by grind) (dir_nonneg ho hout j)
 grind
end
def rdZ (p : PG) (l : List Nat) (i : Nat) : Int := (lookN (qOf p (p.costs.length + i)) l).xd
def rnZ (p : PG) (l : List Nat) (k i : Nat) : Int := (lookN (qOf p (p.costs.length + i)) l).xs.getD (l.getD k 0) 0
def allN (p : PG) (l : List Nat) : Nat → Nat
 | 0 => 1
 | i + 1 => Nat.lcm (allN p l i) (rdZ p l i).natAbs
def rowZ (p : PG) (l : List Nat) (k : Nat) : List Int := (List.range p.rows.length).map fun i => rnZ p l k i * ((allN p l p.rows.length : Int).tdiv (rdZ p l i))
theorem rowZ_len (p : PG) (l : List Nat) (k : Nat) : (rowZ p l k).length = p.rows.length := by simp [rowZ]
theorem lcm_least {a d n : Nat} (ha : 0 < a) (hn : 0 < n) (h : d ∣ a * n) (hl : ∀ q, 0 < q → q < n → ¬ d ∣ a * q) : a * n = Nat.lcm a d := by
 have h1 : Nat.lcm a d ∣ a * n := Nat.lcm_dvd (Nat.dvd_mul_right _ _) h
 obtain ⟨q, hq⟩ := Nat.dvd_lcm_left a d
 have hd0 : 0 < d := by
  rcases Nat.eq_zero_or_pos d with e | e
  ·subst e
   have := Nat.mul_pos ha hn
   rw [Nat.zero_dvd] at h; omega
  ·exact e
 have hpos : 0 < Nat.lcm a d := Nat.lcm_pos ha hd0
 have hq0 : 0 < q := by
  rcases Nat.eq_zero_or_pos q with e | e
  ·subst e; omega
  ·exact e
 have hle := Nat.le_of_dvd (Nat.mul_pos ha hn) h1
 rw [hq] at hle ⊢
 have hqn : q ≤ n := Nat.le_of_mul_le_mul_left hle ha
 rcases Nat.lt_or_ge q n with hlt | hge
 ·exact absurd (by rw [← hq]; exact Nat.dvd_lcm_right a d) (hl q hq0 hlt)
 ·rw [Nat.le_antisymm hqn hge]
section
variable {p : PG} {l : List Nat}
theorem row_corn (hb : Bs p l) (i : Nat) : ∃ gx gy gg, Corn (qOf p (p.costs.length + i)) l (lookN (qOf p (p.costs.length + i)) l) gx gy gg :=
 corn_of (qOf_may hb.hp _) (qOf_right hb.hr _) (by rw [qOf_den hb.hr.len]; exact hb.hd)
theorem rd_pos (hb : Bs p l) (i : Nat) : 0 < rdZ p l i := by obtain ⟨_, _, _, h⟩ := row_corn hb i; exact h.px
theorem rd_dvd (hb : Bs p l) (i : Nat) : (rdZ p l i).natAbs ∣ (denZ p l).natAbs := by
 obtain ⟨gx, _, _, h⟩ := row_corn hb i
 have h1 := h.dx
 rw [qOf_den hb.hr.len] at h1
 rw [h1, Int.natAbs_mul]; exact Nat.dvd_mul_left _ _
theorem all_dvd (hb : Bs p l) : ∀ n, allN p l n ∣ (denZ p l).natAbs
 | 0 => Nat.one_dvd _
 | n + 1 => Nat.lcm_dvd (all_dvd hb n) (rd_dvd hb n)
theorem all_pos (hb : Bs p l) : ∀ n, 0 < allN p l n
 | 0 => Nat.one_pos
 | n + 1 => Nat.lcm_pos (all_pos hb n) (by have := rd_pos hb n; omega)
theorem all_le (hb : Bs p l) (n : Nat) : allN p l n ≤ 497664 := by
 have := Nat.le_of_dvd (by have := hb.hd; omega) (all_dvd hb n)
 have := den_bound hb.hp hb.hr.len
 omega
theorem rd_all : ∀ {n i : Nat}, i < n → (rdZ p l i).natAbs ∣ allN p l n
 | 0, i, h => by omega
 | n + 1, i, h => by
  rw [allN]
  by_cases e : i = n
  ·subst e; exact Nat.dvd_lcm_right _ _
  ·exact Nat.dvd_trans (rd_all (by omega)) (Nat.dvd_lcm_left _ _)
theorem rd_div (_hb : Bs p l) {i : Nat} (hi : i < p.rows.length) : rdZ p l i * ((allN p l p.rows.length : Int).tdiv (rdZ p l i)) = allN p l p.rows.length :=
 Int.mul_tdiv_cancel' (Int.natAbs_dvd.1 (Int.natCast_dvd_natCast.2 (rd_all hi)))
theorem row_at (k : Nat) {i : Nat} (hi : i < p.rows.length) : (rowZ p l k).getD i 0 = rnZ p l k i * ((allN p l p.rows.length : Int).tdiv (rdZ p l i)) := by unfold rowZ; rw [getD_map_range hi]
theorem row_q (hb : Bs p l) (k : Nat) {i : Nat} (hi : i < p.rows.length) : ((rowZ p l k).getD i 0 : Rat) = (allN p l p.rows.length : Rat) * alq p l k (p.costs.length + i) := by
 rw [row_at k hi]
 have h1 := rd_div hb hi
 have h2 := cast_pos (rd_pos hb i)
 have h3 : ((rdZ p l i * ((allN p l p.rows.length : Int).tdiv (rdZ p l i)) : Int) : Rat) = ((allN p l p.rows.length : Int) : Rat) := by rw [h1]
 rw [Rat.intCast_mul] at h3
 have h4 : alq p l k (p.costs.length + i) = (rnZ p l k i : Rat) / (rdZ p l i : Rat) := rfl
 rw [Rat.intCast_mul, h4]
 rw [show ((allN p l p.rows.length : Nat) : Rat) = (((allN p l p.rows.length : Nat) : Int) : Rat) from rfl, ← h3]
 grind
theorem row_small (hb : Bs p l) {k : Nat} (hk : k < l.length) : smallB 497664 (rowZ p l k) = true := by
 rw [smallB_getD (by omega)]
 intro i
 by_cases hi : i < p.rows.length
 ·obtain ⟨gx, gy, gg, h⟩ := row_corn hb i
  obtain ⟨t, ht⟩ := all_dvd hb p.rows.length
  have h1 := h.dx
  rw [qOf_den hb.hr.len] at h1
  have h2 := h.x (l.getD k 0)
  rw [xall_at (qOf_right hb.hr _) (by rw [qOf_len, ← hb.hr.len]; exact hk)] at h2
  have h3 := xk12 (p := qOf p (p.costs.length + i)) (l := l) (qOf_may hb.hp _) (by rw [qOf_len]; exact hb.hr.len) k
  have h4 := rd_div hb hi
  have hr0 := rd_pos hb i
  rw [row_at k hi]
  generalize hA : (allN p l p.rows.length : Int).tdiv (rdZ p l i) = A at *
  have hden : (denZ p l).natAbs = gx.natAbs * (rdZ p l i).natAbs := by rw [h1, Int.natAbs_mul]; rfl
  have hall : allN p l p.rows.length = (rdZ p l i).natAbs * A.natAbs := by rw [← Int.natAbs_mul, h4]; rfl
  have hgt : gx.natAbs = A.natAbs * t := by
   have : (rdZ p l i).natAbs * gx.natAbs = (rdZ p l i).natAbs * (A.natAbs * t) := by
    rw [Nat.mul_comm, ← hden, ht, hall]; ac_rfl
   exact Nat.eq_of_mul_eq_mul_left (by omega) this
  have hx : (xk (qOf p (p.costs.length + i)) l k).natAbs = t * (rnZ p l k i * A).natAbs := by
   rw [h2, Int.natAbs_mul, hgt, Int.natAbs_mul]
   show A.natAbs * t * (rnZ p l k i).natAbs = _
   ac_rfl
  have ht0 : 1 ≤ t := by
   rcases Nat.eq_zero_or_pos t with e | e
   ·subst e; have := hb.hd; omega
   ·exact e
  have := Nat.mul_le_mul_right (rnZ p l k i * A).natAbs ht0
  omega
 ·rw [List.getD, List.getElem?_eq_none (by rw [rowZ_len]; omega)]; simp
theorem row_sum (hb : Bs p l) (k : Nat) {f : Nat → Int} : ((sumN (fun i => f i * (rowZ p l k).getD i 0) p.rows.length : Int) : Rat) = (allN p l p.rows.length : Rat) * sumR (fun i => (f i : Rat) * alq p l k (p.costs.length + i)) p.rows.length := by
 rw [cast_sum, ← sumR_mul]
 refine sumR_congr fun i hi => ?_
 rw [Rat.intCast_mul, row_q hb k hi]; grind
theorem nothing_holds {k : Nat} (hs : Stuck p l k) : nothingB p ⟨3, [], 0, wholeZ (rowZ p l k), 1, [], 0, 0, 0⟩ = true := by
 have hb := hs.bs
 have hn := mayPB_iff.1 hb.hp
 have hG := wholeG_pos (rowZ p l k)
 have hW := whole_at (rowZ p l k)
 have hWl : (wholeZ (rowZ p l k)).length = p.rows.length := by rw [wholeZ_len, rowZ_len]
 have hA : (0 : Rat) < (allN p l p.rows.length : Rat) := by exact_mod_cast all_pos hb p.rows.length
 have hnn : nonneg (wholeZ (rowZ p l k)) = true := nonneg_of fun i => by
  by_cases hi : i < p.rows.length
  ·refine pos_of_mul hG ?_
   rw [← hW i]
   have h1 := row_q hb k hi
   have h2 := Rat.mul_nonneg (Rat.le_of_lt hA) (hs.al (p.costs.length + i) (by omega))
   rw [← h1] at h2
   exact_mod_cast h2
  ·rw [List.getD, List.getElem?_eq_none (by omega)]; simp
 unfold nothingB
 simp only [Bool.and_eq_true, decide_eq_true_eq]
 refine ⟨by simp [emptyB], by simp [emptyB], ⟨trivial, trivial⟩, aboveB_iff.2 ⟨whole_may (B := 497664) (by rw [rowZ_len]; omega) (by omega) (by omega) (row_small hb hs.kl), hWl, hnn⟩, trivial, ?_, ?_⟩
 ·unfold coversB
  rw [List.all_eq_true]
  intro j hj
  have hj' : j < p.costs.length := by simpa using hj
  rw [decide_eq_true_eq, Int.mul_zero]
  refine pos_of_mul hG ?_
  rw [← dot_scale (length_colZ p j) (rowZ_len p l k) hWl hW, dot_col (rowZ_len p l k)]
  have h1 := row_sum hb k (f := fun i => hasZ p i j)
  rw [show sumR (fun i => ((hasZ p i j : Int) : Rat) * alq p l k (p.costs.length + i)) p.rows.length = alq p l k j from (al_by hb k j).symm] at h1
  have h2 := Rat.mul_nonneg (Rat.le_of_lt hA) (hs.al j (by omega))
  rw [← h1] at h2
  exact_mod_cast h2
 ·obtain ⟨gx, gy, gg, hc⟩ := corn_of hb.hp hb.hr hb.hd
  have h1 := row_sum hb k (f := fun i => (mosts p).getD i 0)
  have h0 := col_by hb (u := xq (lookN p l)) (v := fun i => ((mosts p).getD i 0 : Rat)) (fun j hj => hc.offQ hj) (fun i hi => hc.rowQ hi) (l.getD k 0)
  rw [show sumR (fun i => (((mosts p).getD i 0 : Int) : Rat) * alq p l k (p.costs.length + i)) p.rows.length = xq (lookN p l) (l.getD k 0) from h0.symm] at h1
  have h2 := Rat.mul_pos hA (show 0 < -(xq (lookN p l) (l.getD k 0)) by have := hs.neg; grind)
  have h3 : dot (mosts p) (rowZ p l k) = sumN (fun i => (mosts p).getD i 0 * (rowZ p l k).getD i 0) p.rows.length := dot_sum (length_mosts p) (rowZ_len p l k)
  rw [← h3] at h1
  have h4 : ((dot (mosts p) (rowZ p l k) : Int) : Rat) < 0 := by rw [h1]; grind
  have h5 : dot (mosts p) (rowZ p l k) < 0 := by exact_mod_cast h4
  rw [dot_scale (length_mosts p) (rowZ_len p l k) hWl hW] at h5
  apply Classical.byContradiction
  intro q
  have := Int.mul_nonneg (show 0 ≤ wholeG (rowZ p l k) by omega) (show 0 ≤ dot (mosts p) (wholeZ (rowZ p l k)) by omega)
  omega
def stuckZ (p : PG) (l : List Nat) (k : Nat) : Bool := decide ((lookN p l).xs.getD (l.getD k 0) 0 < 0) && (List.range (p.costs.length + p.rows.length)).all fun j => decide (0 ≤ (lookN (qOf p j) l).xs.getD (l.getD k 0) 0)
theorem stuck_iff (hb : Bs p l) {k : Nat} (hk : k < l.length) : stuckZ p l k = true ↔ Stuck p l k := by
 obtain ⟨gx, gy, gg, hc⟩ := corn_of hb.hp hb.hr hb.hd
 have ha : ∀ j, 0 ≤ alq p l k j ↔ 0 ≤ (lookN (qOf p j) l).xs.getD (l.getD k 0) 0 := fun j => by
  obtain ⟨a1, a2, a3, hq⟩ := corn_of (qOf_may hb.hp j) (qOf_right hb.hr j) (by rw [qOf_den hb.hr.len]; exact hb.hd)
  exact nonneg_div hq.px
 unfold stuckZ
 simp only [Bool.and_eq_true, decide_eq_true_eq, List.all_eq_true, List.mem_range]
 constructor
 ·rintro ⟨h1, h2⟩
  exact ⟨hb, hk, (sign_div hc.px).2.2 h1, fun j hj => (ha j).2 (h2 j hj)⟩
 ·intro h
  exact ⟨(sign_div hc.px).2.1 h.neg, fun j hj => (ha j).1 (h.al j hj)⟩
end
end Go.Proofs.YtjcdkbalhleeeaaGreatDoor

namespace Go.Proofs.YtjcdkbalhleeeaaGreatDoor
def bitsN (N s : Nat) : List Nat := (List.range N).filter fun j => s.testBit j
theorem mem_bits {N s j : Nat} : j ∈ bitsN N s ↔ j < N ∧ s.testBit j = true := by unfold bitsN; rw [List.mem_filter, List.mem_range]
theorem bits_pw (N s : Nat) : (bitsN N s).Pairwise (· < ·) := List.pairwise_lt_range.sublist List.filter_sublist
theorem code_bit (l : List Nat) : ∀ (n j : Nat), (code l n).testBit j = (decide (j < n) && decide (j ∈ l))
 | 0, j => by simp [code]
 | n + 1, j => by
  rw [code]
  have hlt := code_lt l n
  by_cases hn : n ∈ l
  ·rw [if_pos hn, Nat.add_comm, Nat.testBit_two_pow_add_gt_or hlt]
   rw [code_bit l n j]
   by_cases e : j = n
   ·subst e; simp [hn]
   ·by_cases e' : j < n
    ·simp [e', show j < n + 1 by omega, show ¬ n = j by omega]
    ·simp [e', show ¬ j < n + 1 by omega, show ¬ n = j by omega]
  ·rw [if_neg hn, Nat.add_zero, code_bit l n j]
   by_cases e : j = n
   ·subst e; simp [hn]
   ·by_cases e' : j < n
    ·simp [e', show j < n + 1 by omega]
    ·simp [e', show ¬ j < n + 1 by omega]
where
 Nat.testBit_two_pow_add_gt_or {n x j : Nat} (h : x < 2 ^ n) : (2 ^ n + x).testBit j = (decide (n = j) || x.testBit j) := by
  have := Nat.testBit_two_pow_add_eq
  rw [show 2 ^ n + x = 2 ^ n * 1 + x by omega, Nat.testBit_two_pow_mul_add 1 h]
  by_cases e : j < n
  ·rw [if_pos e]; simp [show ¬ n = j by omega]
  ·rw [if_neg e]
   have hx : x.testBit j = false := Nat.testBit_lt_two_pow (Nat.lt_of_lt_of_le h (Nat.pow_le_pow_right (by omega) (by omega)))
   rw [hx, Bool.or_false]
   by_cases e' : n = j
   ·subst e'; simp
   ·have : 1 < 2 ^ (j - n) := Nat.one_lt_two_pow (by omega)
    rw [Nat.testBit_lt_two_pow this]; simp [e']
theorem bits_code {N : Nat} {l : List Nat} (h : ∀ j ∈ l, j < N) (hp : l.Pairwise (· < ·)) : bitsN N (code l N) = l := by
 refine pw_ext (bits_pw _ _) hp fun j => ?_
 rw [mem_bits, code_bit]
 constructor
 ·rintro ⟨_, q⟩; simp at q; exact q.2
 ·intro q; simp [h j q, q]
def cornersZ (p : PG) : List (List Nat) := ((List.range (2 ^ (p.costs.length + p.rows.length))).map (bitsN (p.costs.length + p.rows.length))).filter fun l => decide (l.length = p.rows.length) && decide (lookE p (ints l) = 0)
theorem mem_corners {p : PG} {l : List Nat} : l ∈ cornersZ p ↔ Bs p l := by
 unfold cornersZ
 rw [List.mem_filter]
 simp only [List.mem_map, List.mem_range, Bool.and_eq_true, decide_eq_true_eq]
 constructor
 ·rintro ⟨_, h1, h2⟩
  obtain ⟨q1, q2, q3⟩ := look_parts h2
  rw [nats_ints] at q3
  have := (right_nats q2).1
  rw [nats_ints] at this
  exact ⟨q1, this, q3⟩
 ·intro h
  exact ⟨⟨code l _, code_lt _ _, bits_code h.hr.lt h.hr.pw⟩, h.hr.len, look_ints h.hp h.hr h.hd⟩
def begZ (p : PG) : Option (List Nat) := (cornersZ p).find? fun l => nonneg (lookN p l).xs
theorem beg_some {p : PG} {l : List Nat} (h : begZ p = some l) : OKb p l := by
 have h1 := List.mem_of_find?_eq_some h
 have h2 := List.find?_some h
 have hb := mem_corners.1 h1
 exact ⟨hb.hp, hb.hr, hb.hd, h2⟩
theorem beg_none {p : PG} (h : begZ p = none) (l : List Nat) : ¬ OKb p l := by
 intro ho
 have := List.find?_eq_none.1 h l (mem_corners.2 ho.bs)
 exact this ho.hx
def wkEnd (p : PG) : Nat → List Nat → List Nat
 | 0, l => l
 | f + 1, l => match nxtZ p l with
  | none => l
  | some l' => wkEnd p f l'
def wlastZ (p : PG) (l : List Nat) : List Nat := wkEnd p 256 l
theorem wk_tail' {p : PG} {l l' : List Nat} (h : nxtZ p l = some l') : ∀ k, wk p l (k + 1) = wk p l' k
 | 0 => by simp [wk, h]
 | k + 1 => by rw [wk, wk_tail' h k, wk]
theorem wkEnd_eq {p : PG} : ∀ {f : Nat} {l : List Nat} {k : Nat} {lk : List Nat}, EndAt p l k lk → k < f → wkEnd p f l = lk
 | f + 1, l, 0, lk, h, _ => by
  have e := h.at_
  rw [wk] at e
  injection e with e
  subst e
  rw [wkEnd, h.no]
 | f + 1, l, k + 1, lk, h, hk => by
  rw [wkEnd]
  cases hn : nxtZ p l with
  | none =>
   have hw := h.at_
   have : wk p l 1 = none := by rw [wk, wk]; exact hn
   obtain ⟨l1, h1⟩ := wk_some (p := p) (l := l) (n := k + 1) (by rw [hw]; simp) (i := 1) (by omega)
   rw [this] at h1; cases h1
  | some l' =>
   simp only
   exact wkEnd_eq ⟨by rw [← wk_tail' hn k]; exact h.at_, h.no⟩ (by omega)
theorem last_eq {p : PG} {l : List Nat} {k : Nat} {lk : List Nat} (ho : OKb p l) (h : EndAt p l k lk) : wlastZ p l = lk := wkEnd_eq h (wk_fewer ho h.at_)
theorem end_at {p : PG} {l : List Nat} (ho : OKb p l) : ∃ k, EndAt p l k (wlastZ p l) := by
 obtain ⟨k, _, hk, hm⟩ := least (P := fun k => wk p l k = none) (wk_ends ho)
 rcases k with _ | k
 ·rw [wk] at hk; cases hk
 ·have : wk p l k ≠ none := hm k (by omega)
  obtain ⟨lk, hlk⟩ := Option.ne_none_iff_exists'.1 this
  have he : EndAt p l k lk := ⟨hlk, by rw [wk, hlk] at hk; exact hk⟩
  exact ⟨k, by rw [last_eq ho he]; exact he⟩
theorem last_ok {p : PG} {l : List Nat} (ho : OKb p l) : OKb p (wlastZ p l) ∧ nxtZ p (wlastZ p l) = none := by
 obtain ⟨k, hk⟩ := end_at ho
 exact ⟨wk_ok ho hk.at_, hk.no⟩
def stkZ (p : PG) (l : List Nat) : Option Nat := (List.range l.length).find? (stuckZ p l)
def stZ (p : PG) : Option (List Nat × Nat) := (cornersZ p).findSome? fun l => (stkZ p l).map fun k => (l, k)
theorem st_some {p : PG} {x : List Nat × Nat} (h : stZ p = some x) : Stuck p x.1 x.2 := by
 obtain ⟨l, hl, e⟩ := List.exists_of_findSome?_eq_some h
 obtain ⟨k, hk, rfl⟩ := Option.map_eq_some_iff.1 e
 have h1 := List.mem_of_find?_eq_some hk
 have h2 := List.find?_some hk
 exact (stuck_iff (mem_corners.1 hl) (by simpa using h1)).1 h2
theorem st_none {p : PG} (h : stZ p = none) (l : List Nat) (k : Nat) : ¬ Stuck p l k := by
 intro hs
 have h1 := List.findSome?_eq_none_iff.1 h l (mem_corners.2 hs.bs)
 rw [Option.map_eq_none_iff] at h1
 have := List.find?_eq_none.1 h1 k (by simpa using hs.kl)
 exact this ((stuck_iff hs.bs hs.kl).2 hs)
def bestA (p : PG) (l : List Nat) : AN :=
 ⟨1, ptN (varL p (lookN p l)) (lookN p l).xd, ptD (varL p (lookN p l)) (lookN p l).xd, (lookN p l).ys, (lookN p l).yd, [], 0,
  worN p (ptN (varL p (lookN p l)) (lookN p l).xd) (ptD (varL p (lookN p l)) (lookN p l).xd), worD p (ptN (varL p (lookN p l)) (lookN p l).xd) (ptD (varL p (lookN p l)) (lookN p l).xd)⟩
def endA (p : PG) (l : List Nat) : AN :=
 ⟨2, ptN (varL p (lookN p l)) (lookN p l).xd, ptD (varL p (lookN p l)) (lookN p l).xd, [], 0, wholeZ (rayL p l ((inZ (lookN p l).gs).getD 0)), 1, 0, 0⟩
def notA (p : PG) (x : List Nat × Nat) : AN := ⟨3, [], 0, wholeZ (rowZ p x.1 x.2), 1, [], 0, 0, 0⟩
def solZ (p : PG) : AN :=
 match begZ p with
 | some l => if kindZ p (wlastZ p l) = 1 then bestA p (wlastZ p l) else endA p (wlastZ p l)
 | none => match stZ p with
  | some x => notA p x
  | none => ⟨0, [], 0, [], 0, [], 0, 0, 0⟩
def BestC (p : PG) (l : List Nat) : Prop := OKb p l ∧ ∀ j, (lookN p l).gs.getD j 0 ≤ 0
def KindR (p : PG) (k : Int) : Prop := (k = 1 ∧ ∃ l, BestC p l) ∨ (k = 2 ∧ (∃ l, OKb p l) ∧ ∀ l, ¬ BestC p l) ∨ (k = 3 ∧ ∀ l, ¬ OKb p l)
theorem kind_at {p : PG} {l : List Nat} (h : nxtZ p l = none) : (kindZ p l = 1 ∧ inZ (lookN p l).gs = none) ∨ (kindZ p l = 2 ∧ ∃ r, inZ (lookN p l).gs = some r ∧ outZ (lookN p l).xs l (lessZ p l r) l.length = none) := by
 unfold nxtZ at h
 unfold kindZ
 cases hi : inZ (lookN p l).gs with
 | none => exact .inl ⟨rfl, rfl⟩
 | some r =>
  rw [hi] at h
  simp only at h ⊢
  cases ho : outZ (lookN p l).xs l (lessZ p l r) l.length with
  | none => exact .inr ⟨rfl, r, rfl, ho⟩
  | some k => rw [ho] at h; cases h
theorem sol_all {p : PG} (hp : mayPB p = true) : holdsB p (solZ p) = true ∧ KindR p (solZ p).kind ∧ ((solZ p).kind = 1 ∨ (solZ p).kind = 2 ∨ (solZ p).kind = 3) := by
 unfold solZ
 cases hb : begZ p with
 | some l =>
  simp only
  obtain ⟨ho, hn⟩ := last_ok (beg_some hb)
  generalize wlastZ p l = lk at *
  rcases kind_at hn with ⟨hk, hi⟩ | ⟨hk, r, hi, hout⟩
  ·rw [if_pos hk]
   obtain ⟨gx, gy, gg, hc⟩ := corn_of ho.hp ho.hr ho.hd
   have hg := inZ_none hi
   refine ⟨?_, .inl ⟨rfl, lk, ho, hg⟩, .inl rfl⟩
   unfold holdsB
   rw [hp, Bool.true_and, if_pos (show (bestA p lk).kind = 1 from rfl)]
   exact best_holds hc ho.hx hg rfl rfl
  ·rw [if_neg (by omega)]
   refine ⟨?_, .inr (.inl ⟨rfl, ⟨lk, ho⟩, fun l' hl' => endless_alone ho hi hout hl'.1 hl'.2⟩), .inr (.inl rfl)⟩
   unfold holdsB
   rw [hp, Bool.true_and, if_neg (show ¬ (endA p lk).kind = 1 by show ¬ ((2 : Int) = 1); omega), if_pos (show (endA p lk).kind = 2 from rfl)]
   have := endless_holds ho hi hout
   unfold endA
   rw [hi]; exact this
 | none =>
  simp only
  cases hs : stZ p with
  | none =>
   exfalso
   rcases noth hp with ⟨l, h⟩ | ⟨l, k, h⟩
   ·exact beg_none hb l h
   ·exact st_none hs l k h
  | some x =>
   simp only
   refine ⟨?_, .inr (.inr ⟨rfl, beg_none hb⟩), .inr (.inr rfl)⟩
   unfold holdsB
   rw [hp, Bool.true_and, if_neg (show ¬ (notA p x).kind = 1 by show ¬ ((3 : Int) = 1); omega), if_neg (show ¬ (notA p x).kind = 2 by show ¬ ((3 : Int) = 2); omega), if_pos (show (notA p x).kind = 3 from rfl)]
   exact nothing_holds (st_some hs)
end Go.Proofs.YtjcdkbalhleeeaaGreatDoor

namespace Go.Proofs.YtjcdkbalhleeeaaGreatDoor
theorem intsN_app (a b : List Nat) : ints (a ++ b) = ints a ++ ints b := by simp [ints]
theorem intsN_len (a : List Nat) : (ints a).length = a.length := by simp [ints]
theorem bits_succ (j s : Nat) : bitsN (j + 1) s = bitsN j s ++ (if s.testBit j = true then [j] else []) := by
 unfold bitsN
 rw [List.range_succ, List.filter_append]
 congr 1
 simp [List.filter_cons]
theorem bits_len_le (j s : Nat) : (bitsN j s).length ≤ j := by
 unfold bitsN
 have := List.length_filter_le (fun j => s.testBit j) (List.range j)
 simpa using this
def okC (p : PG) (l : List Nat) : Bool := decide (l.length = p.rows.length) && decide (lookE p (ints l) = 0)
def cornK (p : PG) (s : Nat) : List (List Nat) := ((List.range s).map (bitsN (p.costs.length + p.rows.length))).filter (okC p)
theorem cornK_all (p : PG) : cornK p (2 ^ (p.costs.length + p.rows.length)) = cornersZ p := rfl
theorem cornK_succ (p : PG) (s : Nat) : cornK p (s + 1) = cornK p s ++ (if okC p (bitsN (p.costs.length + p.rows.length) s) = true then [bitsN (p.costs.length + p.rows.length) s] else []) := by
 unfold cornK
 rw [List.range_succ, List.map_append, List.filter_append]
 congr 1
 simp only [List.map_cons, List.map_nil, List.filter_cons, List.filter_nil]
theorem cornK_pre (p : PG) : ∀ {s s' : Nat}, s ≤ s' → cornK p s <+: cornK p s'
 | s, s', h => by
  induction s' with
  | zero => obtain rfl : s = 0 := by omega
            exact List.prefix_rfl
  | succ n ih =>
   by_cases e : s = n + 1
   ·subst e; exact List.prefix_rfl
   ·rw [cornK_succ]
    exact (ih (by omega)).trans (List.prefix_append _ _)
theorem cornK_at {p : PG} {s : Nat} (hs : s < 2 ^ (p.costs.length + p.rows.length)) (h : okC p (bitsN (p.costs.length + p.rows.length) s) = true) :
    (cornK p s).length < (cornersZ p).length ∧ (cornersZ p).getD (cornK p s).length [] = bitsN (p.costs.length + p.rows.length) s := by
 obtain ⟨t, ht⟩ := cornK_pre p (s := s + 1) hs
 rw [cornK_all, cornK_succ, if_pos h] at ht
 rw [← ht]
 constructor
 ·simp
 ·simp [List.getD]
end Go.Proofs.YtjcdkbalhleeeaaGreatDoor

namespace Go.Proofs.YtjcdkbalhleeeaaGreatDoor
def rowsK (p : PG) (b : List Int) (k : Nat) : List (List Int × Int) := (List.range k).map fun i => ((p.rows.getD i ([], 0)).1, b.getD i 0)
def mostsOf (p : PG) (b : List Int) : PG := ⟨p.costs, rowsK p b p.rows.length⟩
section
variable {p : PG} {b : List Int} {l : List Nat}
theorem rowsK_len (p : PG) (b : List Int) (k : Nat) : (rowsK p b k).length = k := by simp [rowsK]
theorem mostsOf_len (p : PG) (b : List Int) : (mostsOf p b).rows.length = p.rows.length := rowsK_len _ _ _
theorem rowsK_at (p : PG) (b : List Int) {k i : Nat} (h : i < k) : (rowsK p b k).getD i ([], 0) = ((p.rows.getD i ([], 0)).1, b.getD i 0) := by simp [rowsK, List.getD, h]
theorem mostsOf_has (p : PG) (b : List Int) (i j : Nat) : hasZ (mostsOf p b) i j = hasZ p i j := by
 unfold hasZ
 show (if j < p.costs.length then ((rowsK p b p.rows.length).getD i ([], 0)).1.getD j 0 else if j - p.costs.length = i then 1 else 0) = _
 by_cases hi : i < p.rows.length
 ·rw [rowsK_at p b hi]
 ·have e1 : (rowsK p b p.rows.length).getD i ([], 0) = ([], 0) := by simp [List.getD, List.getElem?_eq_none (show (rowsK p b p.rows.length).length ≤ i by rw [rowsK_len]; omega)]
  have e2 : p.rows.getD i ([], 0) = ([], 0) := by simp [List.getD, List.getElem?_eq_none (show p.rows.length ≤ i by omega)]
  rw [e1, e2]
theorem mostsOf_den (p : PG) (b : List Int) (hl : l.length = p.rows.length) : denZ (mostsOf p b) l = denZ p l := by
 unfold denZ dtm
 rw [mostsOf_len]
 refine dt_congr2 fun r hr c hc => ?_
 have hc' : c < p.rows.length := by simpa using hc
 unfold matD
 rw [if_pos (by omega), if_pos (by omega), mostsOf_has]
theorem mostsOf_may (hp : mayPB p = true) (hb : b.length = p.rows.length) (hs : smallB 12 b = true) : mayPB (mostsOf p b) = true := by
 obtain ⟨h1, h2, h3, h4, h5, h6⟩ := mayPB_iff.1 hp
 refine mayPB_iff.2 ⟨h1, h2, by rw [mostsOf_len]; exact h3, by rw [mostsOf_len]; exact h4, h5, ?_⟩
 show (rowsK p b p.rows.length).all (rowB p.costs.length) = true
 rw [List.all_eq_true]
 intro r hr
 simp only [rowsK, List.mem_map, List.mem_range] at hr
 obtain ⟨i, hi, rfl⟩ := hr
 obtain ⟨a1, a2, a3⟩ := mayPB_row hp hi
 have e : p.rows.getD i ([], 0) = p.rows[i] := by simp [List.getD, List.getElem?_eq_getElem hi]
 have hbi : -12 ≤ b.getD i 0 ∧ b.getD i 0 ≤ 12 := by
  have := smallB_at hs (k := i) (by omega)
  simpa [List.getD, List.getElem?_eq_getElem (show i < b.length by omega)] using this
 rw [e]
 unfold rowB
 simp only [Bool.and_eq_true, decide_eq_true_eq]
 exact ⟨a1, by rw [smallB_one]; simp; exact hbi, a3⟩
theorem mostsOf_E (hb : b.length = p.rows.length) (hs : smallB 12 b = true) {at_ : List Int} (he : lookE p at_ = 0) : lookE (mostsOf p b) at_ = 0 := by
 unfold lookE at he ⊢
 split at he
 ·omega
 rename_i h1
 split at he
 ·omega
 rename_i h2
 split at he
 ·omega
 rename_i h3
 have hr := (right_nats (p := p) (l := at_) (by simpa using h2)).1
 rw [if_neg (by rw [mostsOf_may (by simpa using h1) hb hs]; simp), if_neg, if_neg (by rw [mostsOf_den p b hr.len]; exact h3)]
 have : rightA (mostsOf p b) at_ = rightA p at_ := by unfold rightA; rw [mostsOf_len]; rfl
 rw [this]; exact h2
end
end Go.Proofs.YtjcdkbalhleeeaaGreatDoor

namespace Go.Proofs.YtjcdkbalhleeeaaGreatDoor
def colP (p : PG) (r : Nat) : List Int := (List.range p.rows.length).map fun i => hasZ p i r
theorem colP_len (p : PG) (r : Nat) : (colP p r).length = p.rows.length := by simp [colP]
theorem colP_at (p : PG) (r : Nat) {i : Nat} (h : i < p.rows.length) : (colP p r).getD i 0 = hasZ p i r := by simp [colP, List.getD, h]
theorem qOf_mosts (p : PG) (r : Nat) : qOf p r = mostsOf p (colP p r) := by
 unfold qOf mostsOf rowsK
 congr 1
 refine List.map_congr_left fun i hi => ?_
 rw [colP_at p r (List.mem_range.1 hi)]
theorem colP_small {p : PG} (hp : mayPB p = true) (r : Nat) : smallB 12 (colP p r) = true := by
 unfold smallB colP
 rw [List.all_eq_true]
 intro x hx
 simp only [List.mem_map, List.mem_range] at hx
 obtain ⟨i, hi, rfl⟩ := hx
 have := hasZ_bound hp i r
 simp
 omega
theorem qOf_E {p : PG} {l : List Int} (h : lookE p l = 0) (r : Nat) : lookE (qOf p r) l = 0 := by
 have hp : mayPB p = true := by
  unfold lookE at h
  split at h
  ·omega
  ·rename_i g; simpa using g
 rw [qOf_mosts]
 exact mostsOf_E (colP_len p r) (colP_small hp r) h
theorem sort_ins {w : List Nat} {r : Nat} (h : w.Pairwise (· < ·)) (hr : r ∉ w) : (ints w ++ [(r : Int)]).mergeSort (fun x y => decide (x ≤ y)) = ints (insN w r) := by
 have hp : (insN w r).Pairwise (· < ·) := insN_pw h hr
 have hperm : (ints w ++ [(r : Int)]).Perm (ints (insN w r)) := by
  unfold insN ints
  have e : w.takeWhile (fun j => decide (j < r)) ++ w.dropWhile (fun j => decide (j < r)) = w := List.takeWhile_append_dropWhile
  conv => lhs; rw [← e]
  rw [List.map_append, List.map_append, List.map_cons, List.append_assoc]
  refine List.Perm.append_left _ ?_
  exact (List.perm_append_comm (l₁ := _) (l₂ := [(r : Int)]))
 have hs : (ints (insN w r)).Pairwise (fun a b : Int => a ≤ b) := by
  unfold ints
  rw [List.pairwise_map]
  exact hp.imp fun {a b} q => by simp; omega
 have h1 := List.pairwise_mergeSort (le := fun x y : Int => decide (x ≤ y)) (by intro a b c; simp; omega) (by intro a b; simp; omega) (ints w ++ [(r : Int)])
 have h2 : ((ints w ++ [(r : Int)]).mergeSort fun x y => decide (x ≤ y)).Perm (ints (insN w r)) := (List.mergeSort_perm _ _).trans hperm
 refine List.Perm.eq_of_pairwise (le := fun a b : Int => a ≤ b) ?_ (h1.imp fun {a b} q => by simpa using q) hs h2
 intro a b _ _ x y
 exact Int.le_antisymm x y
theorem ints_erase : ∀ (l : List Nat) (k : Nat), (ints l).eraseIdx k = ints (l.eraseIdx k)
 | [], _ => rfl
 | _ :: _, 0 => rfl
 | a :: l, k + 1 => by
  show Int.ofNat a :: (ints l).eraseIdx k = Int.ofNat a :: ints (l.eraseIdx k)
  rw [ints_erase l k]
end Go.Proofs.YtjcdkbalhleeeaaGreatDoor

namespace Go.Proofs.YtjcdkbalhleeeaaGreatDoor
def fZ (c d : CO) (j : Nat) : Int := c.gs.getD j 0 * d.gd
def gZ (c d : CO) (j : Nat) : Int := d.gs.getD j 0 * c.gd
section
variable {p : PG} {b e : List Int} {l : List Nat} {c d k : CO} {g1 g2 g3 g4 g5 g6 g7 g8 g9 : Int}
theorem span_made (hb : b.length = p.costs.length) (hc : Corn p l c g1 g2 g3) (hd : Corn (costsOf p b) l d g4 g5 g6) (j : Nat) (hj : j < p.costs.length + p.rows.length) (h : gZ c d j ≠ 0) : ptE [-(fZ c d j)] (gZ c d j) = 0 := by
 have h1 := mayB_parts hc.mg
 have h2 := mayB_parts hd.mg
 have b1 := (smallB_getD (l := c.gs) (m := 1073741824) (by omega)).1 h1.2.2.1 j
 have b2 := (smallB_getD (l := d.gs) (m := 1073741824) (by omega)).1 h2.2.2.1 j
 have e1 := hc.g j
 have e2 := hd.g j
 rw [gall_at hj] at e1
 rw [gall_at (show j < (costsOf p b).costs.length + (costsOf p b).rows.length by show j < b.length + p.rows.length; omega)] at e2
 have k1 := gk_bound hc.hp hc.hr.len j (Nat.le_refl _)
 have k2 := gk_bound hd.hp hd.hr.len j (Nat.le_refl _)
 have dd : denZ p l = g6 * d.gd := by rw [← costs_den hb]; exact hd.dg
 exact span_pt (A := gk p l j p.rows.length) (B := gk (costsOf p b) l j (costsOf p b).rows.length) hc.ng hd.ng e1 e2 hc.dg dd (by omega) (by omega) b1 b2 (by omega) (by omega) h
end
end Go.Proofs.YtjcdkbalhleeeaaGreatDoor

namespace Go.Proofs.YtjcdkbalhleeeaaGreatDoor
def spW (p : PG) (b : List Int) (l : List Nat) : NW :=
 ofZ (fun j => 1 * (lookN p l).gs.getD j 0 * (lookN (costsOf p b) l).gd) (fun j => 1 * (lookN (costsOf p b) l).gs.getD j 0 * (lookN p l).gd) (lookN p l).gs.length
def InQ (F T : EN) (t : Rat) : Prop := (F.op = true ∨ (F.n : Rat) ≤ t * (F.d : Rat)) ∧ (T.op = true ∨ t * (T.d : Rat) ≤ (T.n : Rat))
structure By (p : PG) (b : List Int) : Prop where
 len : b.length = p.costs.length
 small : smallB 400 b = true
section
variable {p : PG} {b : List Int} {l : List Nat}
theorem costs_bs (hb : By p b) (h : Bs p l) : Bs (costsOf p b) l := ⟨costs_may hb.len h.hp hb.small, costs_right hb.len h.hr, by rw [costs_den hb.len]; exact h.hd⟩
def baseQ (p : PG) (l : List Nat) : Rat := sumR (fun j => cq p j * xq (lookN p l) j) (p.costs.length + p.rows.length)
def slopQ (p : PG) (b : List Int) (l : List Nat) : Rat := sumR (fun j => cq (costsOf p b) j * xq (lookN p l) j) (p.costs.length + p.rows.length)
def BestT (p : PG) (b : List Int) (l : List Nat) (t : Rat) : Prop := ∀ j, j < p.costs.length + p.rows.length → gq (lookN p l) j + t * gq (lookN (costsOf p b) l) j ≤ 0
structure PtQ (p : PG) (z : Nat → Rat) : Prop where
 ge : ∀ j, 0 ≤ z j
 row : ∀ i, i < p.rows.length → sumR (fun j => aq p i j * z j) (p.costs.length + p.rows.length) = ((mosts p).getD i 0 : Rat)
theorem ok_pt (h : OKb p l) : PtQ p (xq (lookN p l)) := by
 obtain ⟨_, _, _, hc⟩ := corn_of h.hp h.hr h.hd
 exact ⟨fun j => (nonneg_div hc.px).2 (nonneg_at h.hx j), fun i hi => hc.rowQ hi⟩
theorem best_max (hb : By p b) (h : Bs p l) {t : Rat} (ht : BestT p b l t) {z : Nat → Rat} (hz : PtQ p z) :
    sumR (fun j => cq p j * z j) (p.costs.length + p.rows.length) + t * sumR (fun j => cq (costsOf p b) j * z j) (p.costs.length + p.rows.length) ≤ baseQ p l + t * slopQ p b l := by
 obtain ⟨_, _, _, hc⟩ := corn_of h.hp h.hr h.hd
 have h' := costs_bs hb h
 obtain ⟨_, _, _, hd⟩ := corn_of h'.hp h'.hr h'.hd
 have hN : (costsOf p b).costs.length + (costsOf p b).rows.length = p.costs.length + p.rows.length := by show b.length + p.rows.length = _; rw [hb.len]
 have hdir : ∀ i, i < p.rows.length → sumR (fun j => aq p i j * (z j - xq (lookN p l) j)) (p.costs.length + p.rows.length) = 0 := fun i hi => by
  rw [sumR_congr (g := fun j => aq p i j * z j + (-1) * (aq p i j * xq (lookN p l) j)) fun j _ => by grind, sumR_add, sumR_mul, hz.row i hi, hc.rowQ hi]; grind
 have w1 := worth_dir hc hdir
 have w2 := worth_dir hd (d := fun j => z j - xq (lookN p l) j) (fun i hi => by
  rw [hN]
  have := hdir i hi
  rw [← this]
  exact sumR_congr fun j _ => by unfold aq; rw [costs_has hb.len])
 rw [hN] at w2
 have e1 : sumR (fun j => cq p j * (z j - xq (lookN p l) j)) (p.costs.length + p.rows.length) = sumR (fun j => cq p j * z j) (p.costs.length + p.rows.length) - baseQ p l := by
  unfold baseQ
  rw [sumR_congr (g := fun j => cq p j * z j + (-1) * (cq p j * xq (lookN p l) j)) fun j _ => by grind, sumR_add, sumR_mul]; grind
 have e2 : sumR (fun j => cq (costsOf p b) j * (z j - xq (lookN p l) j)) (p.costs.length + p.rows.length) = sumR (fun j => cq (costsOf p b) j * z j) (p.costs.length + p.rows.length) - slopQ p b l := by
  unfold slopQ
  rw [sumR_congr (g := fun j => cq (costsOf p b) j * z j + (-1) * (cq (costsOf p b) j * xq (lookN p l) j)) fun j _ => by grind, sumR_add, sumR_mul]; grind
 have hsum : sumR (fun j => gq (lookN p l) j * (z j - xq (lookN p l) j) + t * (gq (lookN (costsOf p b) l) j * (z j - xq (lookN p l) j))) (p.costs.length + p.rows.length) ≤ 0 := by
  have : ∀ n, n ≤ p.costs.length + p.rows.length → sumR (fun j => gq (lookN p l) j * (z j - xq (lookN p l) j) + t * (gq (lookN (costsOf p b) l) j * (z j - xq (lookN p l) j))) n ≤ 0 := by
   intro n
   induction n with
   | zero => intro _; simp [sumR]
   | succ n ih =>
    intro hn
    rw [sumR]
    have h0 := ih (by omega)
    have : gq (lookN p l) n * (z n - xq (lookN p l) n) + t * (gq (lookN (costsOf p b) l) n * (z n - xq (lookN p l) n)) ≤ 0 := by
     by_cases hnl : n ∈ l
     ·rw [hc.gainQ0 hnl, hd.gainQ0 hnl]; grind
     ·rw [hc.offQ hnl]
      have k1 := ht n (by omega)
      have k2 := Rat.mul_nonneg (show 0 ≤ -(gq (lookN p l) n + t * gq (lookN (costsOf p b) l) n) by grind) (hz.ge n)
      grind
    grind
  exact this _ (Nat.le_refl _)
 rw [sumR_add, sumR_mul, ← w1, ← w2, e1, e2] at hsum
 grind
theorem InQ_iff {F T : EN} {n d : Int} (hd : 0 < d) (_hF : EPos F) (_hT : EPos T) : InQ F T ((n : Rat) / (d : Rat)) ↔ ((F.op = true ∨ F.n * d ≤ n * F.d) ∧ (T.op = true ∨ n * T.d ≤ T.n * d)) := by
 have h1 := cast_pos hd
 have key : ∀ x y : Int, ((x : Rat) ≤ (n : Rat) / (d : Rat) * (y : Rat) ↔ x * d ≤ n * y) ∧ ((n : Rat) / (d : Rat) * (y : Rat) ≤ (x : Rat) ↔ n * y ≤ x * d) := by
  intro x y
  have e : (n : Rat) / (d : Rat) * (y : Rat) - (x : Rat) = ((n * y - x * d : Int) : Rat) / (d : Rat) := by
   rw [Rat.intCast_sub, Rat.intCast_mul, Rat.intCast_mul]; grind
  have a1 := nonneg_div (a := n * y - x * d) hd
  have a2 := sign_div (a := n * y - x * d) hd
  rw [← e] at a1 a2
  constructor
  ·constructor
   ·intro h
    have := a1.1 (by grind); omega
   ·intro h
    have := a1.2 (by omega); grind
  ·constructor
   ·intro h
    apply Classical.byContradiction
    intro q
    have := a2.1.2 (by omega); grind
   ·intro h
    apply Classical.byContradiction
    intro q
    have := a2.1.1 (by grind); omega
 unfold InQ
 rw [(key F.n F.d).1, (key T.n T.d).2]
theorem rat_div (t : Rat) : ∃ n d : Int, 0 < d ∧ t = (n : Rat) / (d : Rat) := ⟨t.num, t.den, by have := t.den_pos; omega, by
 have h := Rat.num_divInt_den t
 rw [Rat.divInt_eq_div] at h
 exact h.symm⟩
theorem spW_pt (hb : By p b) (h : Bs p l) (j : Nat) (hj : j < (lookN p l).gs.length) (hg : 1 * (lookN (costsOf p b) l).gs.getD j 0 * (lookN p l).gd ≠ 0) :
    ptE [-(1 * (lookN p l).gs.getD j 0 * (lookN (costsOf p b) l).gd)] (1 * (lookN (costsOf p b) l).gs.getD j 0 * (lookN p l).gd) = 0 := by
 obtain ⟨_, _, _, hc⟩ := corn_of h.hp h.hr h.hd
 have h' := costs_bs hb h
 obtain ⟨_, _, _, hd⟩ := corn_of h'.hp h'.hr h'.hd
 rw [hc.lg] at hj
 have := span_made hb.len hc hd j hj (by unfold gZ; intro e; apply hg; rw [Int.one_mul]; exact e)
 rw [Int.one_mul, Int.one_mul]
 exact this
theorem spW_ok (hb : By p b) (h : Bs p l) : NOk (spW p b l) := by
 unfold spW
 exact (of_up (f' := fun j => 0 - (1 * (lookN p l).gs.getD j 0 * (lookN (costsOf p b) l).gd)) (g' := fun j => 0 - (1 * (lookN (costsOf p b) l).gs.getD j 0 * (lookN p l).gd)) (fun _ _ => rfl) (fun _ _ => rfl) fun j hj hg => spW_pt hb h j hj hg).2
theorem spW_best (hb : By p b) (h : Bs p l) (t : Rat) : (endsE (spW p b l) = 0 ∧ InQ (endsF (spW p b l)) (endsT (spW p b l)) t) ↔ BestT p b l t := by
 obtain ⟨n, d, hd0, rfl⟩ := rat_div t
 obtain ⟨_, _, _, hc⟩ := corn_of h.hp h.hr h.hd
 have h' := costs_bs hb h
 obtain ⟨_, _, _, hd⟩ := corn_of h'.hp h'.hr h'.hd
 have hok := spW_ok hb h
 have key := ends_in hok (n := n) hd0
 have hin := of_in (f := fun j => 1 * (lookN p l).gs.getD j 0 * (lookN (costsOf p b) l).gd) (g := fun j => 1 * (lookN (costsOf p b) l).gs.getD j 0 * (lookN p l).gd) (n := n) hd0 (k := (lookN p l).gs.length) (fun j hj hg => spW_pt hb h j hj hg)
 have e1 : (endsE (spW p b l) = 0 ∧ InQ (endsF (spW p b l)) (endsT (spW p b l)) ((n : Rat) / (d : Rat))) ↔ inE (spW p b l) n d := by
  rw [← key]
  by_cases h0 : endsE (spW p b l) = 0
  ·have pF : EPos (endsF (spW p b l)) := by unfold endsF; rw [if_pos h0]; exact hok.pos.1
   have pT : EPos (endsT (spW p b l)) := by unfold endsT; rw [if_pos h0]; exact hok.pos.2
   rw [InQ_iff hd0 pF pT]
   unfold cmpZ
   constructor
   ·rintro ⟨x, y, z⟩; exact ⟨x, y.imp id (fun q => by omega), z.imp id (fun q => by omega)⟩
   ·rintro ⟨x, y, z⟩; exact ⟨x, y.imp id (fun q => by omega), z.imp id (fun q => by omega)⟩
  ·exact ⟨fun q => absurd q.1 h0, fun q => absurd q.1 h0⟩
 rw [e1, show spW p b l = ofZ (fun j => 1 * (lookN p l).gs.getD j 0 * (lookN (costsOf p b) l).gd) (fun j => 1 * (lookN (costsOf p b) l).gs.getD j 0 * (lookN p l).gd) (lookN p l).gs.length from rfl, hin, hc.lg]
 unfold BestT
 have hsg : ∀ j, (1 * (lookN p l).gs.getD j 0 * (lookN (costsOf p b) l).gd * d + n * (1 * (lookN (costsOf p b) l).gs.getD j 0 * (lookN p l).gd) ≤ 0 ↔ gq (lookN p l) j + (n : Rat) / (d : Rat) * gq (lookN (costsOf p b) l) j ≤ 0) := by
  intro j
  have p1 := hc.pg
  have p2 := hd.pg
  have q1 := cast_pos p1
  have q2 := cast_pos p2
  have q3 := cast_pos hd0
  have hpos : 0 < (lookN p l).gd * (lookN (costsOf p b) l).gd * d := Int.mul_pos (Int.mul_pos p1 p2) hd0
  have e : gq (lookN p l) j + (n : Rat) / (d : Rat) * gq (lookN (costsOf p b) l) j =
      ((1 * (lookN p l).gs.getD j 0 * (lookN (costsOf p b) l).gd * d + n * (1 * (lookN (costsOf p b) l).gs.getD j 0 * (lookN p l).gd) : Int) : Rat) / (((lookN p l).gd * (lookN (costsOf p b) l).gd * d : Int) : Rat) := by
   unfold gq
   simp only [Rat.intCast_add, Rat.intCast_mul]
   grind
  have s := sign_div (a := 1 * (lookN p l).gs.getD j 0 * (lookN (costsOf p b) l).gd * d + n * (1 * (lookN (costsOf p b) l).gs.getD j 0 * (lookN p l).gd)) hpos
  rw [← e] at s
  constructor
  ·intro q
   apply Classical.byContradiction
   intro w
   have := s.1.1 (by grind); omega
  ·intro q
   apply Classical.byContradiction
   intro w
   have := s.1.2 (by omega); grind
 constructor
 ·intro q j hj; exact (hsg j).1 (q j hj)
 ·intro q j hj; exact (hsg j).2 (q j hj)
theorem of_open {f g : Nat → Int} : ∀ k, ((ofZ f g k).fr.op = true → (ofZ f g k).fr = openE) ∧ ((ofZ f g k).to.op = true → (ofZ f g k).to = openE)
 | 0 => by simp [ofZ, wholeN]
 | k + 1 => by
  obtain ⟨h1, h2⟩ := of_open (f := f) (g := g) k
  rw [ofZ_succ]
  unfold belowZ
  split
  ·exact ⟨h1, h2⟩
  ·split
   ·exact ⟨h1, fun q => by simp [endE] at q⟩
   ·split
    ·exact ⟨fun q => by simp [endE] at q, h2⟩
    ·exact ⟨h1, h2⟩
theorem ends_open (h0 : endsE (spW p b l) = 0) : ((endsF (spW p b l)).op = true → endsF (spW p b l) = openE) ∧ ((endsT (spW p b l)).op = true → endsT (spW p b l) = openE) := by
 unfold endsF endsT
 rw [if_pos h0, if_pos h0]
 exact of_open _
end
end Go.Proofs.YtjcdkbalhleeeaaGreatDoor

namespace Go.Proofs.YtjcdkbalhleeeaaGreatDoor
structure PC where
 fr : EN
 to : EN
 bn : Int
 bd : Int
 sn : Int
 sd : Int
deriving DecidableEq
def PC.line (x : PC) : Int × Int × Int × Int := (x.bn, x.bd, x.sn, x.sd)
def valB (p : PG) (b : List Int) (l : List Nat) : Int := dot b (varL p (lookN p l))
def pcZ (p : PG) (b : List Int) (l : List Nat) : PC :=
 ⟨endsF (spW p b l), endsT (spW p b l), frN (valN p l) (lookN p l).xd, ptD [valN p l] (lookN p l).xd, frN (valB p b l) (lookN p l).xd, ptD [valB p b l] (lookN p l).xd⟩
structure GoodL (p : PG) (b : List Int) (l : List Nat) : Prop where
 ok : OKb p l
 some : endsE (spW p b l) = 0
def pointB (x : PC) : Bool := !x.fr.op && (!x.to.op && decide (x.fr = x.to))
def leE (a b : EN) : Bool := a.op || (!b.op && decide (cmpZ a.n a.d b.n b.d ≤ 0))
def geE (a b : EN) : Bool := a.op || (!b.op && decide (0 ≤ cmpZ a.n a.d b.n b.d))
section
variable {p : PG} {b : List Int}
theorem val_pt {l : List Nat} (h : OKb p l) : ptE [valN p l] (lookN p l).xd = 0 ∧ ((valN p l : Rat) / ((lookN p l).xd : Rat) = baseQ p l) := by
 obtain ⟨_, _, _, hc⟩ := corn_of h.hp h.hr h.hd
 obtain ⟨_, _, w3⟩ := var_worth hc
 have hx := hc.xd12
 refine ⟨pt_ok (by omega) (by omega) ?_ (by simp), (val_sum hc).symm⟩
 rw [smallB_one]
 have : valN p l = dot p.costs (varL p (lookN p l)) := rfl
 simp; omega
theorem valB_pt (hb : By p b) {l : List Nat} (h : OKb p l) : ptE [valB p b l] (lookN p l).xd = 0 ∧ ((valB p b l : Rat) / ((lookN p l).xd : Rat) = slopQ p b l) := by
 obtain ⟨_, _, _, hc⟩ := corn_of h.hp h.hr h.hd
 have h' := costs_bs hb h.bs
 obtain ⟨_, _, _, hd⟩ := corn_of h'.hp h'.hr h'.hd
 have hx := hc.xd12
 obtain ⟨_, n4, _⟩ := mayPB_iff.1 h.hp
 have hbd := dot_bound hb.small (var_small hc) (by omega) (by omega)
 have hlen := hb.len
 have hbd' : -796262400 ≤ valB p b l ∧ valB p b l ≤ 796262400 := by unfold valB; omega
 refine ⟨pt_ok (by omega) (by omega) (by rw [smallB_one]; simp; omega) (by simp), ?_⟩
 have e1 : sumN (fun j => costZ (costsOf p b) j * (lookN p l).xs.getD j 0) (p.costs.length + p.rows.length) = valB p b l := by
  have := sum_costZ (p := costsOf p b) (f := fun j => (lookN p l).xs.getD j 0)
  rw [show (costsOf p b).costs.length + (costsOf p b).rows.length = p.costs.length + p.rows.length by show b.length + p.rows.length = _; rw [hb.len]] at this
  rw [this]
  unfold valB
  rw [show (costsOf p b).costs = b from rfl, dot_sum rfl (by rw [var_len hc, hb.len])]
  refine sumN_congr fun j hj => ?_
  rw [var_at p (lookN p l) (by omega)]
 have hx' := cast_pos hc.px
 unfold slopQ
 rw [sumR_congr (g := fun j => (1 / ((lookN p l).xd : Rat)) * ((costZ (costsOf p b) j * (lookN p l).xs.getD j 0 : Int) : Rat)) fun j _ => by unfold cq xq; rw [Rat.intCast_mul]; grind]
 rw [sumR_mul, ← cast_sum, e1]
 grind
theorem fr_q {n d : Int} (h : ptE [n] d = 0) (hd : 0 < d) : (frN n d : Rat) / (ptD [n] d : Rat) = (n : Rat) / (d : Rat) ∧ mayB [frN n d] (ptD [n] d) = true := by
 obtain ⟨h1, h2⟩ := frac_pos h
 refine ⟨?_, may_end h⟩
 have a := cast_pos h1
 have c := cast_pos hd
 have : (frN n d : Rat) * (d : Rat) = (n : Rat) * (ptD [n] d : Rat) := by rw [← Rat.intCast_mul, ← Rat.intCast_mul, h2]
 grind
theorem line_eq (hb : By p b) {l l' : List Nat} (h : OKb p l) (h' : OKb p l') : (pcZ p b l).line = (pcZ p b l').line ↔ baseQ p l = baseQ p l' ∧ slopQ p b l = slopQ p b l' := by
 obtain ⟨_, _, _, hc⟩ := corn_of h.hp h.hr h.hd
 obtain ⟨_, _, _, hc'⟩ := corn_of h'.hp h'.hr h'.hd
 obtain ⟨v1, v2⟩ := val_pt h
 obtain ⟨v1', v2'⟩ := val_pt h'
 obtain ⟨s1, s2⟩ := valB_pt hb h
 obtain ⟨s1', s2'⟩ := valB_pt hb h'
 obtain ⟨q1, m1⟩ := fr_q v1 hc.px
 obtain ⟨q1', m1'⟩ := fr_q v1' hc'.px
 obtain ⟨q2, m2⟩ := fr_q s1 hc.px
 obtain ⟨q2', m2'⟩ := fr_q s1' hc'.px
 have p1 := (mayB_parts m1).1
 have p1' := (mayB_parts m1').1
 have p2 := (mayB_parts m2).1
 have p2' := (mayB_parts m2').1
 rw [← v2, ← v2', ← s2, ← s2', ← q1, ← q1', ← q2, ← q2']
 unfold PC.line pcZ
 simp only [Prod.mk.injEq]
 constructor
 ·rintro ⟨a1, a2, a3, a4⟩
  rw [a1, a2, a3, a4]; exact ⟨rfl, rfl⟩
 ·rintro ⟨a1, a2⟩
  obtain ⟨c1, c2⟩ := frac_one m1 m1' (frac_same (by omega) (by omega) a1)
  obtain ⟨c3, c4⟩ := frac_one m2 m2' (frac_same (by omega) (by omega) a2)
  exact ⟨c1, c2, c3, c4⟩
structure Grp (p : PG) (b : List Int) (pcs : List PC) : Prop where
 nodup : pcs.Pairwise (fun x y => x.line ≠ y.line)
 fr : ∀ x ∈ pcs, ∃ l, GoodL p b l ∧ (pcZ p b l).line = x.line ∧ x.fr = endsF (spW p b l)
 to : ∀ x ∈ pcs, ∃ l, GoodL p b l ∧ (pcZ p b l).line = x.line ∧ x.to = endsT (spW p b l)
 all : ∀ l, GoodL p b l → ∃ x ∈ pcs, (pcZ p b l).line = x.line ∧ leE x.fr (endsF (spW p b l)) = true ∧ geE x.to (endsT (spW p b l)) = true
theorem Grp.same {P : List PC} (hP : Grp p b P) {x y : PC} (hx : x ∈ P) (hy : y ∈ P) (h : x.line = y.line) : x = y := by
 obtain ⟨i, hi, rfl⟩ := List.mem_iff_getElem.1 hx
 obtain ⟨j, hj, rfl⟩ := List.mem_iff_getElem.1 hy
 rcases Nat.lt_trichotomy i j with q | q | q
 ·exact absurd h (List.pairwise_iff_getElem.1 hP.nodup i j hi hj q)
 ·subst q; rfl
 ·exact absurd h.symm (List.pairwise_iff_getElem.1 hP.nodup j i hj hi q)
def EFine (e : EN) : Prop := (e.op = true ∧ e = openE) ∨ (e.op = false ∧ mayB [e.n] e.d = true)
theorem good_fine (hb : By p b) {l : List Nat} (h : GoodL p b l) : EFine (endsF (spW p b l)) ∧ EFine (endsT (spW p b l)) := by
 have hok := spW_ok hb h.ok.bs
 obtain ⟨o1, o2⟩ := ends_open h.some
 have k1 : EOk (endsF (spW p b l)) := by unfold endsF; rw [if_pos h.some]; exact hok.1
 have k2 : EOk (endsT (spW p b l)) := by unfold endsT; rw [if_pos h.some]; exact hok.2
 refine ⟨?_, ?_⟩
 ·rcases e : (endsF (spW p b l)).op with _ | _
  ·rcases k1 with q | q
   ·rw [e] at q; simp at q
   ·exact .inr ⟨e, q⟩
  ·exact .inl ⟨e, o1 e⟩
 ·rcases e : (endsT (spW p b l)).op with _ | _
  ·rcases k2 with q | q
   ·rw [e] at q; simp at q
   ·exact .inr ⟨e, q⟩
  ·exact .inl ⟨e, o2 e⟩
theorem fine_eq {a c : EN} (ha : EFine a) (hc : EFine c) (h : a.n * c.d = c.n * a.d) (h1 : a.op = false) (h2 : c.op = false) : a = c := by
 have m1 : mayB [a.n] a.d = true := by rcases ha with ⟨q, _⟩ | ⟨_, q⟩; rw [h1] at q; simp at q; exact q
 have m2 : mayB [c.n] c.d = true := by rcases hc with ⟨q, _⟩ | ⟨_, q⟩; rw [h2] at q; simp at q; exact q
 obtain ⟨e1, e2⟩ := frac_one m1 m2 h
 cases a; cases c
 simp_all
theorem le_anti {a c : EN} (ha : EFine a) (hc : EFine c) (h1 : leE a c = true) (h2 : leE c a = true) : a = c := by
 unfold leE cmpZ at h1 h2
 simp only [Bool.or_eq_true, Bool.and_eq_true, Bool.not_eq_true', decide_eq_true_eq] at h1 h2
 rcases h1 with q1 | ⟨q1, r1⟩
 ·rcases h2 with q2 | ⟨q2, r2⟩
  ·rcases ha with ⟨_, e1⟩ | ⟨w, _⟩
   ·rcases hc with ⟨_, e2⟩ | ⟨w, _⟩
    ·rw [e1, e2]
    ·rw [q2] at w; simp at w
   ·rw [q1] at w; simp at w
  ·rw [q1] at q2; simp at q2
 ·rcases h2 with q2 | ⟨q2, r2⟩
  ·rw [q1] at q2; simp at q2
  ·exact fine_eq ha hc (by omega) q2 q1
theorem ge_anti {a c : EN} (ha : EFine a) (hc : EFine c) (h1 : geE a c = true) (h2 : geE c a = true) : a = c := by
 unfold geE cmpZ at h1 h2
 simp only [Bool.or_eq_true, Bool.and_eq_true, Bool.not_eq_true', decide_eq_true_eq] at h1 h2
 rcases h1 with q1 | ⟨q1, r1⟩
 ·rcases h2 with q2 | ⟨q2, r2⟩
  ·rcases ha with ⟨_, e1⟩ | ⟨w, _⟩
   ·rcases hc with ⟨_, e2⟩ | ⟨w, _⟩
    ·rw [e1, e2]
    ·rw [q2] at w; simp at w
   ·rw [q1] at w; simp at w
  ·rw [q1] at q2; simp at q2
 ·rcases h2 with q2 | ⟨q2, r2⟩
  ·rw [q1] at q2; simp at q2
  ·exact fine_eq ha hc (by omega) q2 q1
theorem grp_sub (hb : By p b) {P Q : List PC} (hP : Grp p b P) (hQ : Grp p b Q) {x : PC} (hx : x ∈ P) : x ∈ Q := by
 obtain ⟨l, g1, e1, f1⟩ := hP.fr x hx
 obtain ⟨l2, g2, e2, f2⟩ := hP.to x hx
 obtain ⟨y, hy, y1, y2, _⟩ := hQ.all l g1
 obtain ⟨y', hy', z1, _, z3⟩ := hQ.all l2 g2
 have ey : y' = y := hQ.same hy' hy (by rw [← z1, e2, ← e1, y1])
 subst ey
 obtain ⟨l3, g3, e3, f3⟩ := hQ.fr y' hy
 obtain ⟨l4, g4, e4, f4⟩ := hQ.to y' hy
 obtain ⟨x', hx', w1, w2, _⟩ := hP.all l3 g3
 have ex : x' = x := hP.same hx' hx (by rw [← w1, e3, ← y1, e1])
 subst ex
 obtain ⟨x'', hx'', v1, _, v3⟩ := hP.all l4 g4
 have ex' : x'' = x' := hP.same hx'' hx (by rw [← v1, e4, ← y1, e1])
 subst ex'
 rw [← f1] at y2
 rw [← f2] at z3
 rw [← f3] at w2
 rw [← f4] at v3
 have hf : x''.fr = y'.fr := le_anti (by rw [f1]; exact (good_fine hb g1).1) (by rw [f3]; exact (good_fine hb g3).1) w2 y2
 have ht : x''.to = y'.to := ge_anti (by rw [f2]; exact (good_fine hb g2).2) (by rw [f4]; exact (good_fine hb g4).2) v3 z3
 have hl : x''.line = y'.line := by rw [← e1, y1]
 unfold PC.line at hl
 simp only [Prod.mk.injEq] at hl
 have : x'' = y' := by
  cases x''; cases y'
  simp_all
 rw [this]; exact hy
def LineMax (p : PG) (b : List Int) (B S t : Rat) : Prop := ∀ z, PtQ p z → sumR (fun j => cq p j * z j) (p.costs.length + p.rows.length) + t * sumR (fun j => cq (costsOf p b) j * z j) (p.costs.length + p.rows.length) ≤ B + t * S
theorem LineMax.between {B S t1 t2 t : Rat} (h1 : LineMax p b B S t1) (h2 : LineMax p b B S t2) (a : t1 ≤ t) (c : t ≤ t2) : LineMax p b B S t := by
 intro z hz
 have k1 := h1 z hz
 have k2 := h2 z hz
 generalize sumR (fun j => cq p j * z j) (p.costs.length + p.rows.length) = u at *
 generalize sumR (fun j => cq (costsOf p b) j * z j) (p.costs.length + p.rows.length) = v at *
 by_cases hv : 0 ≤ v - S
 ·have := Rat.mul_nonneg hv (show 0 ≤ t2 - t by grind)
  grind
 ·have := Rat.mul_nonneg (show 0 ≤ S - v by grind) (show 0 ≤ t - t1 by grind)
  grind
def PC.B (x : PC) : Rat := (x.bn : Rat) / (x.bd : Rat)
def PC.S (x : PC) : Rat := (x.sn : Rat) / (x.sd : Rat)
theorem pc_BS (hb : By p b) {l : List Nat} (h : OKb p l) {x : PC} (e : (pcZ p b l).line = x.line) : x.B = baseQ p l ∧ x.S = slopQ p b l := by
 obtain ⟨_, _, _, hc⟩ := corn_of h.hp h.hr h.hd
 obtain ⟨v1, v2⟩ := val_pt h
 obtain ⟨s1, s2⟩ := valB_pt hb h
 unfold PC.line at e
 simp only [Prod.mk.injEq] at e
 obtain ⟨e1, e2, e3, e4⟩ := e
 unfold PC.B PC.S
 rw [← e1, ← e2, ← e3, ← e4, ← v2, ← s2]
 exact ⟨(fr_q v1 hc.px).1, (fr_q s1 hc.px).1⟩
theorem good_max (hb : By p b) {l : List Nat} (h : GoodL p b l) {t : Rat} (ht : InQ (endsF (spW p b l)) (endsT (spW p b l)) t) : LineMax p b (baseQ p l) (slopQ p b l) t :=
 fun _ hz => best_max hb h.ok.bs ((spW_best hb h.ok.bs t).1 ⟨h.some, ht⟩) hz
def EN.q (e : EN) : Rat := (e.n : Rat) / (e.d : Rat)
theorem fine_pos {e : EN} (h : EFine e) (ho : e.op = false) : (0 : Rat) < (e.d : Rat) := by
 rcases h with ⟨q, _⟩ | ⟨_, q⟩
 ·rw [ho] at q; simp at q
 ·exact cast_pos (by have := (mayB_parts q).1; omega)
theorem InQ_q {F T : EN} (hF : EFine F) (hT : EFine T) (t : Rat) : InQ F T t ↔ (F.op = true ∨ F.q ≤ t) ∧ (T.op = true ∨ t ≤ T.q) := by
 have key : ∀ e : EN, EFine e → e.op = false → ((e.n : Rat) ≤ t * (e.d : Rat) ↔ e.q ≤ t) ∧ (t * (e.d : Rat) ≤ (e.n : Rat) ↔ t ≤ e.q) := by
  intro e he ho
  have hp := fine_pos he ho
  have hq : (e.n : Rat) = e.q * (e.d : Rat) := by unfold EN.q; grind
  have hq2 : ∀ a c : Rat, a * (e.d : Rat) ≤ c * (e.d : Rat) ↔ a ≤ c := by
   intro a c
   constructor
   ·intro h
    apply Classical.byContradiction
    intro w
    have := Rat.mul_pos (show 0 < a - c by grind) hp
    grind
   ·intro h
    have := Rat.mul_nonneg (show 0 ≤ c - a by grind) (Rat.le_of_lt hp)
    grind
  rw [hq]
  exact ⟨hq2 _ _, hq2 _ _⟩
 unfold InQ
 rcases hFo : F.op with _ | _ <;> rcases hTo : T.op with _ | _
 ·rw [(key F hF hFo).1, (key T hT hTo).2]
 ·rw [(key F hF hFo).1]; simp
 ·rw [(key T hT hTo).2]; simp
 ·simp
theorem good_le (hb : By p b) {l : List Nat} (h : GoodL p b l) (h1 : (endsF (spW p b l)).op = false) (h2 : (endsT (spW p b l)).op = false) : (endsF (spW p b l)).q ≤ (endsT (spW p b l)).q := by
 obtain ⟨f1, f2⟩ := good_fine hb h
 have d1 := fine_pos f1 h1
 have d2 := fine_pos f2 h2
 have h0 := h.some
 have m1 : mayB [(endsF (spW p b l)).n] (endsF (spW p b l)).d = true := by rcases f1 with ⟨q, _⟩ | ⟨_, q⟩; rw [h1] at q; simp at q; exact q
 have m2 : mayB [(endsT (spW p b l)).n] (endsT (spW p b l)).d = true := by rcases f2 with ⟨q, _⟩ | ⟨_, q⟩; rw [h2] at q; simp at q; exact q
 have e1 : endsF (spW p b l) = (spW p b l).fr := by unfold endsF; rw [if_pos h0]
 have e2 : endsT (spW p b l) = (spW p b l).to := by unfold endsT; rw [if_pos h0]
 have hn : ¬ lessB (endsT (spW p b l)).n (endsT (spW p b l)).d (endsF (spW p b l)).n (endsF (spW p b l)).d = true := by
  intro q
  rw [e1, e2] at q
  rw [e1] at h1
  rw [e2] at h2
  unfold endsE at h0
  rw [if_pos (.inr ⟨h1, h2, q⟩)] at h0
  omega
 rw [less_cmp m2 m1] at hn
 unfold cmpZ at hn
 clear e1 e2 h0 h
 generalize endsF (spW p b l) = F at *
 generalize endsT (spW p b l) = T at *
 have k : ((F.n * T.d : Int) : Rat) ≤ ((T.n * F.d : Int) : Rat) := Rat.intCast_le_intCast.2 (by omega)
 rw [Rat.intCast_mul, Rat.intCast_mul] at k
 have q1 : (F.n : Rat) = F.q * (F.d : Rat) := by unfold EN.q; grind
 have q2 : (T.n : Rat) = T.q * (T.d : Rat) := by unfold EN.q; grind
 rw [q1, q2] at k
 apply Classical.byContradiction
 intro w
 have := Rat.mul_pos (Rat.mul_pos (show 0 < F.q - T.q by grind) d1) d2
 grind
theorem grp_max (hb : By p b) {P : List PC} (hP : Grp p b P) {x : PC} (hx : x ∈ P) {t : Rat} (ht : InQ x.fr x.to t) : LineMax p b x.B x.S t := by
 obtain ⟨l, g1, e1, f1⟩ := hP.fr x hx
 obtain ⟨l2, g2, e2, f2⟩ := hP.to x hx
 obtain ⟨b1, s1⟩ := pc_BS hb g1.ok e1
 obtain ⟨b2, s2⟩ := pc_BS hb g2.ok e2
 obtain ⟨a1, a2⟩ := good_fine hb g1
 obtain ⟨c1, c2⟩ := good_fine hb g2
 have m1 : ∀ u, InQ (endsF (spW p b l)) (endsT (spW p b l)) u → LineMax p b x.B x.S u := fun u hu => by rw [b1, s1]; exact good_max hb g1 hu
 have m2 : ∀ u, InQ (endsF (spW p b l2)) (endsT (spW p b l2)) u → LineMax p b x.B x.S u := fun u hu => by rw [b2, s2]; exact good_max hb g2 hu
 rw [f1, f2] at ht
 rw [InQ_q a1 c2] at ht
 have m1' : ∀ u, ((endsF (spW p b l)).op = true ∨ (endsF (spW p b l)).q ≤ u) ∧ ((endsT (spW p b l)).op = true ∨ u ≤ (endsT (spW p b l)).q) → LineMax p b x.B x.S u := fun u hu => m1 u ((InQ_q a1 a2 u).2 hu)
 have m2' : ∀ u, ((endsF (spW p b l2)).op = true ∨ (endsF (spW p b l2)).q ≤ u) ∧ ((endsT (spW p b l2)).op = true ∨ u ≤ (endsT (spW p b l2)).q) → LineMax p b x.B x.S u := fun u hu => m2 u ((InQ_q c1 c2 u).2 hu)
 obtain ⟨t1, k1, k2⟩ : ∃ t1, t1 ≤ t ∧ LineMax p b x.B x.S t1 := by
  by_cases h : (endsT (spW p b l)).op = true ∨ t ≤ (endsT (spW p b l)).q
  ·exact ⟨t, by grind, m1' t ⟨ht.1, h⟩⟩
  ·have ho : (endsT (spW p b l)).op = false := by
     cases q : (endsT (spW p b l)).op
     ·rfl
     ·exact absurd (.inl q) h
   refine ⟨(endsT (spW p b l)).q, by grind, m1' _ ⟨?_, .inr (by grind)⟩⟩
   cases q : (endsF (spW p b l)).op
   ·exact .inr (good_le hb g1 q ho)
   ·exact .inl rfl
 obtain ⟨t2, k3, k4⟩ : ∃ t2, t ≤ t2 ∧ LineMax p b x.B x.S t2 := by
  by_cases h : (endsF (spW p b l2)).op = true ∨ (endsF (spW p b l2)).q ≤ t
  ·exact ⟨t, by grind, m2' t ⟨h, ht.2⟩⟩
  ·have ho : (endsF (spW p b l2)).op = false := by
     cases q : (endsF (spW p b l2)).op
     ·rfl
     ·exact absurd (.inl q) h
   refine ⟨(endsF (spW p b l2)).q, by grind, m2' _ ⟨.inr (by grind), ?_⟩⟩
   cases q : (endsT (spW p b l2)).op
   ·exact .inr (good_le hb g2 ho q)
   ·exact .inl rfl
 exact k2.between k4 k1 k3
theorem both_max (hb : By p b) {P : List PC} (hP : Grp p b P) {x y : PC} (hx : x ∈ P) (hy : y ∈ P) {t : Rat} (h1 : LineMax p b x.B x.S t) (h2 : LineMax p b y.B y.S t) : x.B + t * x.S = y.B + t * y.S := by
 obtain ⟨l, g1, e1, _⟩ := hP.fr x hx
 obtain ⟨l2, g2, e2, _⟩ := hP.fr y hy
 obtain ⟨b1, s1⟩ := pc_BS hb g1.ok e1
 obtain ⟨b2, s2⟩ := pc_BS hb g2.ok e2
 have k1 := h1 _ (ok_pt g2.ok)
 have k2 := h2 _ (ok_pt g1.ok)
 rw [show sumR (fun j => cq p j * xq (lookN p l2) j) (p.costs.length + p.rows.length) = baseQ p l2 from rfl, show sumR (fun j => cq (costsOf p b) j * xq (lookN p l2) j) (p.costs.length + p.rows.length) = slopQ p b l2 from rfl, ← b2, ← s2] at k1
 rw [show sumR (fun j => cq p j * xq (lookN p l) j) (p.costs.length + p.rows.length) = baseQ p l from rfl, show sumR (fun j => cq (costsOf p b) j * xq (lookN p l) j) (p.costs.length + p.rows.length) = slopQ p b l from rfl, ← b1, ← s1] at k2
 grind
theorem line_of (hb : By p b) {P : List PC} (hP : Grp p b P) {x y : PC} (hx : x ∈ P) (hy : y ∈ P) (hB : x.B = y.B) (hS : x.S = y.S) : x = y := by
 obtain ⟨l, g1, e1, _⟩ := hP.fr x hx
 obtain ⟨l2, g2, e2, _⟩ := hP.fr y hy
 obtain ⟨b1, s1⟩ := pc_BS hb g1.ok e1
 obtain ⟨b2, s2⟩ := pc_BS hb g2.ok e2
 refine hP.same hx hy ?_
 rw [← e1, ← e2]
 exact (line_eq hb g1.ok g2.ok).2 ⟨by rw [← b1, ← b2, hB], by rw [← s1, ← s2, hS]⟩
end
end Go.Proofs.YtjcdkbalhleeeaaGreatDoor

namespace Go.Proofs.YtjcdkbalhleeeaaGreatDoor
def befE (a c : EN) : Bool := if a.op || c.op then a.op else decide (cmpZ a.n a.d c.n c.d < 0)
section
variable {p : PG} {b : List Int}
theorem grp_fine (hb : By p b) {P : List PC} (hP : Grp p b P) {x : PC} (hx : x ∈ P) : EFine x.fr ∧ EFine x.to := by
 obtain ⟨l, g1, _, f1⟩ := hP.fr x hx
 obtain ⟨l2, g2, _, f2⟩ := hP.to x hx
 exact ⟨by rw [f1]; exact (good_fine hb g1).1, by rw [f2]; exact (good_fine hb g2).2⟩
theorem cmp_q {a c : EN} (ha : EFine a) (hc : EFine c) (h1 : a.op = false) (h2 : c.op = false) : (cmpZ a.n a.d c.n c.d < 0 ↔ a.q < c.q) ∧ (cmpZ a.n a.d c.n c.d ≤ 0 ↔ a.q ≤ c.q) := by
 have d1 := fine_pos ha h1
 have d2 := fine_pos hc h2
 have e : ((cmpZ a.n a.d c.n c.d : Int) : Rat) = (a.q - c.q) * ((a.d : Rat) * (c.d : Rat)) := by
  unfold cmpZ EN.q
  rw [Rat.intCast_sub, Rat.intCast_mul, Rat.intCast_mul]; grind
 have dd := Rat.mul_pos d1 d2
 have k1 : ((cmpZ a.n a.d c.n c.d : Int) : Rat) < 0 ↔ a.q < c.q := by
  rw [e]
  constructor
  ·intro h
   apply Classical.byContradiction
   intro w
   have := Rat.mul_nonneg (show 0 ≤ a.q - c.q by grind) (Rat.le_of_lt dd); grind
  ·intro h
   have := Rat.mul_pos (show 0 < c.q - a.q by grind) dd; grind
 have k2 : 0 < ((cmpZ a.n a.d c.n c.d : Int) : Rat) ↔ c.q < a.q := by
  rw [e]
  constructor
  ·intro h
   apply Classical.byContradiction
   intro w
   have := Rat.mul_nonneg (show 0 ≤ c.q - a.q by grind) (Rat.le_of_lt dd); grind
  ·intro h
   exact Rat.mul_pos (show 0 < a.q - c.q by grind) dd
 have z1 : ((cmpZ a.n a.d c.n c.d : Int) : Rat) < 0 ↔ cmpZ a.n a.d c.n c.d < 0 := by
  rw [show (0 : Rat) = ((0 : Int) : Rat) from rfl]; exact Rat.intCast_lt_intCast
 have z2 : 0 < ((cmpZ a.n a.d c.n c.d : Int) : Rat) ↔ 0 < cmpZ a.n a.d c.n c.d := by
  rw [show (0 : Rat) = ((0 : Int) : Rat) from rfl]; exact Rat.intCast_lt_intCast
 refine ⟨z1.symm.trans k1, ?_⟩
 constructor
 ·intro h
  apply Classical.byContradiction
  intro w
  have := z2.1 (k2.2 (by grind)); omega
 ·intro h
  apply Classical.byContradiction
  intro w
  have := k2.1 (z2.2 (by omega)); grind
theorem not_point (hb : By p b) {P : List PC} (hP : Grp p b P) {x : PC} (hx : x ∈ P) (hn : pointB x = false) (h1 : x.fr.op = false) (h2 : x.to.op = false) : x.fr.q < x.to.q := by
 obtain ⟨f1, f2⟩ := grp_fine hb hP hx
 obtain ⟨l, g1, e1, q1⟩ := hP.fr x hx
 obtain ⟨y, hy, y1, y2, y3⟩ := hP.all l g1
 have ey : y = x := hP.same hy hx (by rw [← y1, e1])
 subst ey
 have hle : y.fr.q ≤ y.to.q := by
  have hop : (endsT (spW p b l)).op = false := by
   unfold geE at y3
   simp only [Bool.or_eq_true, Bool.and_eq_true, Bool.not_eq_true', decide_eq_true_eq] at y3
   rcases y3 with w | w
   ·rw [h2] at w; simp at w
   ·exact w.1
  have k1 := good_le hb g1 (by rw [← q1]; exact h1) hop
  have k2 : (endsT (spW p b l)).q ≤ y.to.q := by
   unfold geE at y3
   simp only [Bool.or_eq_true, Bool.and_eq_true, Bool.not_eq_true', decide_eq_true_eq] at y3
   rcases y3 with w | w
   ·rw [h2] at w; simp at w
   ·refine (cmp_q (good_fine hb g1).2 f2 hop h2).2.1 ?_
    have := w.2
    unfold cmpZ at *; omega
  rw [q1]; grind
 rcases Rat.le_iff_lt_or_eq.1 hle with w | w
 ·exact w
 ·exfalso
  have e : y.fr = y.to := by
   refine fine_eq f1 f2 ?_ h1 h2
   have d1 := fine_pos f1 h1
   have d2 := fine_pos f2 h2
   have a1 : (y.fr.n : Rat) = y.fr.q * (y.fr.d : Rat) := by unfold EN.q; grind
   have a2 : (y.to.n : Rat) = y.to.q * (y.to.d : Rat) := by unfold EN.q; grind
   have : ((y.fr.n * y.to.d : Int) : Rat) = ((y.to.n * y.fr.d : Int) : Rat) := by
    rw [Rat.intCast_mul, Rat.intCast_mul, a1, a2, w]; grind
   exact_mod_cast this
  unfold pointB at hn
  rw [h1, h2] at hn
  simp [e] at hn
theorem begin_one (hb : By p b) {P : List PC} (hP : Grp p b P) {x y : PC} (hx : x ∈ P) (hy : y ∈ P) (nx : pointB x = false) (ny : pointB y = false) (h : x.fr = y.fr) : x = y := by
 obtain ⟨f1, f2⟩ := grp_fine hb hP hx
 obtain ⟨f3, f4⟩ := grp_fine hb hP hy
 obtain ⟨t1, t2, hlt, i1, i2, j1, j2⟩ : ∃ t1 t2 : Rat, t1 < t2 ∧ InQ x.fr x.to t1 ∧ InQ x.fr x.to t2 ∧ InQ y.fr y.to t1 ∧ InQ y.fr y.to t2 := by
  obtain ⟨u, u1, u2, u3⟩ : ∃ u : Rat, (x.to.op = true ∨ u ≤ x.to.q) ∧ (y.to.op = true ∨ u ≤ y.to.q) ∧ (x.fr.op = true ∨ x.fr.q < u) := by
   rcases ox : x.to.op with _ | _
   ·rcases oy : y.to.op with _ | _
    ·by_cases hq : x.to.q ≤ y.to.q
     ·refine ⟨x.to.q, .inr (by grind), .inr hq, ?_⟩
      rcases of' : x.fr.op with _ | _
      ·exact .inr (not_point hb hP hx nx of' ox)
      ·exact .inl rfl
     ·refine ⟨y.to.q, .inr (by grind), .inr (by grind), ?_⟩
      rcases of' : x.fr.op with _ | _
      ·right; rw [h]; exact not_point hb hP hy ny (by rw [← h]; exact of') oy
      ·exact .inl rfl
    ·refine ⟨x.to.q, .inr (by grind), .inl rfl, ?_⟩
     rcases of' : x.fr.op with _ | _
     ·exact .inr (not_point hb hP hx nx of' ox)
     ·exact .inl rfl
   ·rcases oy : y.to.op with _ | _
    ·refine ⟨y.to.q, .inl rfl, .inr (by grind), ?_⟩
     rcases of' : x.fr.op with _ | _
     ·right; rw [h]; exact not_point hb hP hy ny (by rw [← h]; exact of') oy
     ·exact .inl rfl
    ·exact ⟨x.fr.q + 1, .inl rfl, .inl rfl, .inr (by grind)⟩
  rcases of' : x.fr.op with _ | _
  ·rw [of'] at u3
   have u4 : x.fr.q < u := by rcases u3 with w | w; simp at w; exact w
   refine ⟨x.fr.q, u, u4, (InQ_q f1 f2 _).2 ⟨.inr (by grind), u1.imp id fun w => by grind⟩, (InQ_q f1 f2 _).2 ⟨.inr (by grind), u1⟩, (InQ_q f3 f4 _).2 ⟨.inr (by rw [← h]; grind), u2.imp id fun w => by grind⟩, (InQ_q f3 f4 _).2 ⟨.inr (by rw [← h]; grind), u2⟩⟩
  ·have oy : y.fr.op = true := by rw [← h]; exact of'
   exact ⟨u - 1, u, by grind, (InQ_q f1 f2 _).2 ⟨.inl of', u1.imp id fun w => by grind⟩, (InQ_q f1 f2 _).2 ⟨.inl of', u1⟩, (InQ_q f3 f4 _).2 ⟨.inl oy, u2.imp id fun w => by grind⟩, (InQ_q f3 f4 _).2 ⟨.inl oy, u2⟩⟩
 have e1 := both_max hb hP hx hy (grp_max hb hP hx i1) (grp_max hb hP hy j1)
 have e2 := both_max hb hP hx hy (grp_max hb hP hx i2) (grp_max hb hP hy j2)
 have hS : x.S = y.S := by
  have k : (t2 - t1) * (x.S - y.S) = 0 := by grind
  rcases Rat.mul_eq_zero.1 k with w | w
  ·grind
  ·grind
 refine line_of hb hP hx hy ?_ hS
 rw [hS] at e1; grind
theorem slope_one (hb : By p b) {P : List PC} (hP : Grp p b P) {x y : PC} (hx : x ∈ P) (hy : y ∈ P) (h : x.S = y.S) : x = y := by
 have key : ∀ z ∈ P, ∃ t, LineMax p b z.B z.S t := by
  intro z hz
  obtain ⟨l, g1, e1, q1⟩ := hP.fr z hz
  obtain ⟨f1, f2⟩ := good_fine hb g1
  obtain ⟨b1, s1⟩ := pc_BS hb g1.ok e1
  obtain ⟨t, ht⟩ : ∃ t, InQ (endsF (spW p b l)) (endsT (spW p b l)) t := by
   rcases o1 : (endsF (spW p b l)).op with _ | _
   ·refine ⟨(endsF (spW p b l)).q, (InQ_q f1 f2 _).2 ⟨.inr (by grind), ?_⟩⟩
    rcases o2 : (endsT (spW p b l)).op with _ | _
    ·exact .inr (good_le hb g1 o1 o2)
    ·exact .inl rfl
   ·exact ⟨(endsT (spW p b l)).q, (InQ_q f1 f2 _).2 ⟨.inl o1, .inr (by grind)⟩⟩
  exact ⟨t, by rw [b1, s1]; exact good_max hb g1 ht⟩
 obtain ⟨t1, h1⟩ := key x hx
 obtain ⟨t2, h2⟩ := key y hy
 obtain ⟨l, g1, e1, _⟩ := hP.fr x hx
 obtain ⟨l2, g2, e2, _⟩ := hP.fr y hy
 obtain ⟨b1, s1⟩ := pc_BS hb g1.ok e1
 obtain ⟨b2, s2⟩ := pc_BS hb g2.ok e2
 have k1 := h1 _ (ok_pt g2.ok)
 have k2 := h2 _ (ok_pt g1.ok)
 rw [show sumR (fun j => cq p j * xq (lookN p l2) j) (p.costs.length + p.rows.length) = baseQ p l2 from rfl, show sumR (fun j => cq (costsOf p b) j * xq (lookN p l2) j) (p.costs.length + p.rows.length) = slopQ p b l2 from rfl, ← b2, ← s2] at k1
 rw [show sumR (fun j => cq p j * xq (lookN p l) j) (p.costs.length + p.rows.length) = baseQ p l from rfl, show sumR (fun j => cq (costsOf p b) j * xq (lookN p l) j) (p.costs.length + p.rows.length) = slopQ p b l from rfl, ← b1, ← s1] at k2
 refine line_of hb hP hx hy ?_ h
 rw [h] at k1 k2; grind
theorem bef_total (hb : By p b) {P : List PC} (hP : Grp p b P) {x y : PC} (hx : x ∈ P) (hy : y ∈ P) (nx : pointB x = false) (ny : pointB y = false) (hne : x ≠ y) : befE x.fr y.fr = !befE y.fr x.fr := by
 obtain ⟨f1, _⟩ := grp_fine hb hP hx
 obtain ⟨f3, _⟩ := grp_fine hb hP hy
 have hfr : x.fr ≠ y.fr := fun e => hne (begin_one hb hP hx hy nx ny e)
 unfold befE
 rcases ox : x.fr.op with _ | _ <;> rcases oy : y.fr.op with _ | _
 ·simp
  have h0 : x.fr.n * y.fr.d ≠ y.fr.n * x.fr.d := fun e => hfr (fine_eq f1 f3 e ox oy)
  unfold cmpZ
  by_cases h : x.fr.n * y.fr.d - y.fr.n * x.fr.d < 0
  ·have : ¬ (y.fr.n * x.fr.d - x.fr.n * y.fr.d < 0) := by omega
   simp [h]; omega
  ·have : y.fr.n * x.fr.d - x.fr.n * y.fr.d < 0 := by omega
   simp [h]; omega
 ·simp
 ·simp
 ·exfalso
  apply hfr
  rcases f1 with ⟨_, e1⟩ | ⟨w, _⟩
  ·rcases f3 with ⟨_, e3⟩ | ⟨w, _⟩
   ·rw [e1, e3]
   ·rw [oy] at w; simp at w
  ·rw [ox] at w; simp at w
theorem bef_trans (hb : By p b) {P : List PC} (hP : Grp p b P) {x y z : PC} (hx : x ∈ P) (hy : y ∈ P) (hz : z ∈ P) (h1 : befE x.fr y.fr = true) (h2 : befE y.fr z.fr = true) : befE x.fr z.fr = true ∨ (x.fr.op = true ∧ y.fr.op = true) := by
 obtain ⟨f1, _⟩ := grp_fine hb hP hx
 obtain ⟨f2, _⟩ := grp_fine hb hP hy
 obtain ⟨f3, _⟩ := grp_fine hb hP hz
 unfold befE at *
 rcases ox : x.fr.op with _ | _ <;> rcases oy : y.fr.op with _ | _ <;> rcases oz : z.fr.op with _ | _ <;> simp [ox, oy, oz] at h1 h2 ⊢
 have k1 := (cmp_q f1 f2 ox oy).1.1 h1
 have k2 := (cmp_q f2 f3 oy oz).1.1 h2
 exact (cmp_q f1 f3 ox oz).1.2 (by grind)
end
theorem sorted_eq {α : Type} {R : α → α → Prop} : ∀ {l l' : List α}, (∀ x y, x ∈ l → y ∈ l → x ≠ y → R x y → ¬ R y x) → l.Pairwise R → l'.Pairwise R → l.Nodup → l'.Nodup → (∀ x, x ∈ l ↔ x ∈ l') → l = l'
 | [], [], _, _, _, _, _, _ => rfl
 | [], b :: l', _, _, _, _, _, h => by have := (h b).2 (by simp); simp at this
 | a :: l, [], _, _, _, _, _, h => by have := (h a).1 (by simp); simp at this
 | a :: l, b :: l', ha, h1, h2, n1, n2, h => by
  rw [List.pairwise_cons] at h1 h2
  rw [List.nodup_cons] at n1 n2
  have e : a = b := by
   apply Classical.byContradiction
   intro hab
   refine hab ?_
   rcases List.mem_cons.1 ((h a).1 (by simp)) with q | q
   ·exact q
   ·rcases List.mem_cons.1 ((h b).2 (by simp)) with q' | q'
    ·exact q'.symm
    ·exact absurd (h2.1 a q) (ha a b (by simp) (by simp [q']) hab (h1.1 b q'))
  subst e
  rw [sorted_eq (l := l) (l' := l') (fun x y hx hy => ha x y (by simp [hx]) (by simp [hy])) h1.2 h2.2 n1.2 n2.2 fun x => ?_]
  have := h x
  simp only [List.mem_cons] at this
  constructor
  ·intro q
   rcases this.1 (.inr q) with w | w
   ·subst w; exact absurd q n1.1
   ·exact w
  ·intro q
   rcases this.2 (.inr q) with w | w
   ·subst w; exact absurd q n2.1
   ·exact w
end Go.Proofs.YtjcdkbalhleeeaaGreatDoor

namespace Go.Proofs.YtjcdkbalhleeeaaGreatDoor
section
variable {p : PG}
end
def goesC (p : PG) (l : List Nat) : Bool := decide (lookE p (ints l) = 0) && nonneg (lookN p l).xs
theorem goesC_iff {p : PG} {l : List Nat} : goesC p l = true ↔ OKb p l := by
 unfold goesC
 simp only [Bool.and_eq_true, decide_eq_true_eq]
 constructor
 ·rintro ⟨h1, h2⟩
  obtain ⟨q1, q2, q3⟩ := look_parts h1
  rw [nats_ints] at q3
  have := (right_nats q2).1
  rw [nats_ints] at this
  exact ⟨q1, this, q3, h2⟩
 ·intro h; exact ⟨ok_look h, h.hx⟩
end Go.Proofs.YtjcdkbalhleeeaaGreatDoor
