/-
  Contracts of functions and plain laws that later parts of the proof use. The conditions stand in each theorem.
-/
import Derived.Test.YtjcdkbalhleeeaaGreatDoorG03
namespace Go.Proofs.YtjcdkbalhleeeaaGreatDoor
def joinG (lo hi : EN → EN → EN) : List PC → PC → List PC
 | [], x => [x]
 | y :: l, x => if y.line = x.line then ⟨lo y.fr x.fr, hi y.to x.to, y.bn, y.bd, y.sn, y.sd⟩ :: l else y :: joinG lo hi l x
def undP (a c : EN) : EN := if c.op || (!a.op && lessB c.n c.d a.n a.d) then c else a
def ovrP (a c : EN) : EN := if c.op || (!a.op && lessB a.n a.d c.n c.d) then c else a
def LoOK (lo : EN → EN → EN) : Prop := ∀ a c, EFine a → EFine c → (lo a c = a ∨ lo a c = c) ∧ leE (lo a c) a = true ∧ leE (lo a c) c = true
def HiOK (hi : EN → EN → EN) : Prop := ∀ a c, EFine a → EFine c → (hi a c = a ∨ hi a c = c) ∧ geE (hi a c) a = true ∧ geE (hi a c) c = true
theorem fine_may {a : EN} (h : EFine a) (ho : a.op = false) : mayB [a.n] a.d = true := by
 rcases h with ⟨q, _⟩ | ⟨_, q⟩
 ·rw [ho] at q; simp at q
 ·exact q
theorem fine_op {a : EN} (h : EFine a) (ho : a.op = true) : a = openE := by
 rcases h with ⟨_, q⟩ | ⟨q, _⟩
 ·exact q
 ·rw [ho] at q; simp at q
theorem leE_refl (a : EN) : leE a a = true := by unfold leE cmpZ; cases a.op <;> simp
theorem geE_refl (a : EN) : geE a a = true := by unfold geE cmpZ; cases a.op <;> simp
theorem undP_ok : LoOK undP := fun a c ha hc => by
 unfold undP
 rcases oa : a.op with _ | _ <;> rcases oc : c.op with _ | _
 ·have hl := less_cmp (fine_may hc oc) (fine_may ha oa)
  simp only [Bool.false_or, Bool.not_false, Bool.true_and]
  by_cases h : lessB c.n c.d a.n a.d = true
  ·rw [if_pos h]
   have := hl.1 h
   exact ⟨.inr rfl, by unfold leE cmpZ at *; simp [oa]; omega, leE_refl c⟩
  ·rw [if_neg h]
   have hn : ¬ cmpZ c.n c.d a.n a.d < 0 := fun q => h (hl.2 q)
   exact ⟨.inl rfl, leE_refl a, by unfold leE cmpZ at *; simp [oc]; omega⟩
 ·rw [if_pos (by simp)]
  exact ⟨.inr rfl, by unfold leE; simp [oc], by unfold leE; simp [oc]⟩
 ·rw [if_neg (by simp)]
  exact ⟨.inl rfl, by unfold leE; simp [oa], by unfold leE; simp [oa]⟩
 ·rw [if_pos (by simp)]
  exact ⟨.inr rfl, by unfold leE; simp [oc], by unfold leE; simp [oc]⟩
theorem ovrP_ok : HiOK ovrP := fun a c ha hc => by
 unfold ovrP
 rcases oa : a.op with _ | _ <;> rcases oc : c.op with _ | _
 ·have hl := less_cmp (fine_may ha oa) (fine_may hc oc)
  simp only [Bool.false_or, Bool.not_false, Bool.true_and]
  by_cases h : lessB a.n a.d c.n c.d = true
  ·rw [if_pos h]
   have := hl.1 h
   exact ⟨.inr rfl, by unfold geE cmpZ at *; simp [oa]; omega, geE_refl c⟩
  ·rw [if_neg h]
   have hn : ¬ cmpZ a.n a.d c.n c.d < 0 := fun q => h (hl.2 q)
   exact ⟨.inl rfl, geE_refl a, by unfold geE cmpZ at *; simp [oc]; omega⟩
 ·rw [if_pos (by simp)]
  exact ⟨.inr rfl, by unfold geE; simp [oc], by unfold geE; simp [oc]⟩
 ·rw [if_neg (by simp)]
  exact ⟨.inl rfl, by unfold geE; simp [oa], by unfold geE; simp [oa]⟩
 ·rw [if_pos (by simp)]
  exact ⟨.inr rfl, by unfold geE; simp [oc], by unfold geE; simp [oc]⟩
theorem leE_trans {a c d : EN} (ha : EFine a) (hc : EFine c) (hd : EFine d) (h1 : leE a c = true) (h2 : leE c d = true) : leE a d = true := by
 unfold leE at *
 rcases oa : a.op with _ | _ <;> rcases oc : c.op with _ | _ <;> rcases od : d.op with _ | _ <;> simp [oa, oc, od] at h1 h2 ⊢
 exact (cmp_q ha hd oa od).2.2 (by have := (cmp_q ha hc oa oc).2.1 h1; have := (cmp_q hc hd oc od).2.1 h2; grind)
theorem geE_trans {a c d : EN} (ha : EFine a) (hc : EFine c) (hd : EFine d) (h1 : geE a c = true) (h2 : geE c d = true) : geE a d = true := by
 have flip : ∀ x y : EN, cmpZ y.n y.d x.n x.d = -(cmpZ x.n x.d y.n y.d) := fun x y => by unfold cmpZ; omega
 unfold geE at *
 rcases oa : a.op with _ | _ <;> rcases oc : c.op with _ | _ <;> rcases od : d.op with _ | _ <;> simp [oa, oc, od] at h1 h2 ⊢
 have k1 := (cmp_q hc ha oc oa).2.1 (by rw [flip a c]; omega)
 have k2 := (cmp_q hd hc od oc).2.1 (by rw [flip c d]; omega)
 have := (cmp_q hd ha od oa).2.2 (by grind)
 rw [flip a d] at this; omega
structure GrpOn (p : PG) (b : List Int) (S : List Nat → Prop) (pcs : List PC) : Prop where
 nodup : pcs.Pairwise (fun x y => x.line ≠ y.line)
 fr : ∀ x ∈ pcs, ∃ l, (S l ∧ GoodL p b l) ∧ (pcZ p b l).line = x.line ∧ x.fr = endsF (spW p b l)
 to : ∀ x ∈ pcs, ∃ l, (S l ∧ GoodL p b l) ∧ (pcZ p b l).line = x.line ∧ x.to = endsT (spW p b l)
 all : ∀ l, S l → GoodL p b l → ∃ x ∈ pcs, (pcZ p b l).line = x.line ∧ leE x.fr (endsF (spW p b l)) = true ∧ geE x.to (endsT (spW p b l)) = true
theorem mem_join {lo hi : EN → EN → EN} {x : PC} : ∀ {l : List PC}, l.Pairwise (fun x y => x.line ≠ y.line) → ∀ z, z ∈ joinG lo hi l x ↔ (z ∈ l ∧ z.line ≠ x.line) ∨ (∃ y ∈ l, y.line = x.line ∧ z = ⟨lo y.fr x.fr, hi y.to x.to, y.bn, y.bd, y.sn, y.sd⟩) ∨ (z = x ∧ ∀ y ∈ l, y.line ≠ x.line)
 | [], _, z => by simp [joinG]
 | y :: l, hp, z => by
  rw [List.pairwise_cons] at hp
  rw [joinG]
  by_cases h : y.line = x.line
  ·rw [if_pos h, List.mem_cons]
   have hl : ∀ w ∈ l, w.line ≠ x.line := fun w hw e => hp.1 w hw (by rw [h, e])
   constructor
   ·rintro (rfl | q)
    ·exact .inr (.inl ⟨y, by simp, h, rfl⟩)
    ·exact .inl ⟨by simp [q], hl z q⟩
   ·rintro (⟨q, q2⟩ | ⟨w, hw, e, rfl⟩ | ⟨_, q⟩)
    ·rcases List.mem_cons.1 q with e | e
     ·subst e; exact absurd h q2
     ·exact .inr e
    ·rcases List.mem_cons.1 hw with e' | e'
     ·subst e'; exact .inl rfl
     ·exact absurd e (hl w e')
    ·exact absurd h (q y (by simp))
  ·rw [if_neg h, List.mem_cons, mem_join hp.2 z]
   constructor
   ·rintro (rfl | ⟨q, q2⟩ | ⟨w, hw, e, e2⟩ | ⟨q, q2⟩)
    ·exact .inl ⟨by simp, h⟩
    ·exact .inl ⟨by simp [q], q2⟩
    ·exact .inr (.inl ⟨w, by simp [hw], e, e2⟩)
    ·exact .inr (.inr ⟨q, fun w hw => by rcases List.mem_cons.1 hw with e | e; subst e; exact h; exact q2 w e⟩)
   ·rintro (⟨q, q2⟩ | ⟨w, hw, e, e2⟩ | ⟨q, q2⟩)
    ·rcases List.mem_cons.1 q with e | e
     ·exact .inl e
     ·exact .inr (.inl ⟨e, q2⟩)
    ·rcases List.mem_cons.1 hw with e' | e'
     ·subst e'; exact absurd e h
     ·exact .inr (.inr (.inl ⟨w, e', e, e2⟩))
    ·exact .inr (.inr (.inr ⟨q, fun w hw => q2 w (by simp [hw])⟩))
theorem join_nodup {lo hi : EN → EN → EN} {x : PC} : ∀ {l : List PC}, l.Pairwise (fun x y => x.line ≠ y.line) → (joinG lo hi l x).Pairwise (fun x y => x.line ≠ y.line)
 | [], _ => by simp [joinG]
 | y :: l, hp => by
  rw [List.pairwise_cons] at hp
  rw [joinG]
  by_cases h : y.line = x.line
  ·rw [if_pos h, List.pairwise_cons]
   exact ⟨fun w hw => hp.1 w hw, hp.2⟩
  ·rw [if_neg h, List.pairwise_cons]
   refine ⟨fun w hw => ?_, join_nodup hp.2⟩
   rcases (mem_join hp.2 w).1 hw with ⟨q, _⟩ | ⟨u, hu, e, rfl⟩ | ⟨rfl, _⟩
   ·exact hp.1 w q
   ·show y.line ≠ u.line; exact hp.1 u hu
   ·exact h
section
variable {p : PG} {b : List Int} {S : List Nat → Prop} {pcs : List PC}
theorem GrpOn.nil (p : PG) (b : List Int) : GrpOn p b (fun _ => False) [] := ⟨by simp, by simp, by simp, fun _ h => h.elim⟩
theorem GrpOn.iff (h : GrpOn p b S pcs) {S' : List Nat → Prop} (hs : ∀ l, GoodL p b l → (S l ↔ S' l)) : GrpOn p b S' pcs :=
 ⟨h.nodup, fun x hx => by obtain ⟨l, h1, h2⟩ := h.fr x hx; exact ⟨l, ⟨(hs l h1.2).1 h1.1, h1.2⟩, h2⟩, fun x hx => by obtain ⟨l, h1, h2⟩ := h.to x hx; exact ⟨l, ⟨(hs l h1.2).1 h1.1, h1.2⟩, h2⟩, fun l hl g => h.all l ((hs l g).2 hl) g⟩
theorem GrpOn.grp (h : GrpOn p b S pcs) (hs : ∀ l, GoodL p b l → S l) : Grp p b pcs :=
 ⟨h.nodup, fun x hx => by obtain ⟨l, h1, h2⟩ := h.fr x hx; exact ⟨l, h1.2, h2⟩, fun x hx => by obtain ⟨l, h1, h2⟩ := h.to x hx; exact ⟨l, h1.2, h2⟩, fun l g => h.all l (hs l g) g⟩
theorem GrpOn.step (hb : By p b) {lo hi : EN → EN → EN} (hlo : LoOK lo) (hhi : HiOK hi) (h : GrpOn p b S pcs) {l0 : List Nat} (g0 : GoodL p b l0) : GrpOn p b (fun l => S l ∨ l = l0) (joinG lo hi pcs (pcZ p b l0)) := by
 obtain ⟨z1, z2⟩ := good_fine hb g0
 have hx0 : (pcZ p b l0).fr = endsF (spW p b l0) := rfl
 have hx1 : (pcZ p b l0).to = endsT (spW p b l0) := rfl
 have fineP : ∀ y ∈ pcs, EFine y.fr ∧ EFine y.to := fun y hy => by
  obtain ⟨l, g, _, e⟩ := h.fr y hy
  obtain ⟨l', g', _, e'⟩ := h.to y hy
  exact ⟨by rw [e]; exact (good_fine hb g.2).1, by rw [e']; exact (good_fine hb g'.2).2⟩
 refine ⟨join_nodup h.nodup, fun x hx => ?_, fun x hx => ?_, fun l hl g => ?_⟩
 ·rcases (mem_join h.nodup x).1 hx with ⟨q, _⟩ | ⟨y, hy, e, rfl⟩ | ⟨rfl, _⟩
  ·obtain ⟨l, g, e⟩ := h.fr x q; exact ⟨l, ⟨.inl g.1, g.2⟩, e⟩
  ·obtain ⟨l, g, e1, e2⟩ := h.fr y hy
   rcases (hlo y.fr (pcZ p b l0).fr (fineP y hy).1 z1).1 with w | w
   ·exact ⟨l, ⟨.inl g.1, g.2⟩, e1, by show lo y.fr _ = _; rw [w, e2]⟩
   ·exact ⟨l0, ⟨.inr rfl, g0⟩, e.symm, by show lo y.fr _ = _; rw [w]; rfl⟩
  ·exact ⟨l0, ⟨.inr rfl, g0⟩, rfl, rfl⟩
 ·rcases (mem_join h.nodup x).1 hx with ⟨q, _⟩ | ⟨y, hy, e, rfl⟩ | ⟨rfl, _⟩
  ·obtain ⟨l, g, e⟩ := h.to x q; exact ⟨l, ⟨.inl g.1, g.2⟩, e⟩
  ·obtain ⟨l, g, e1, e2⟩ := h.to y hy
   rcases (hhi y.to (pcZ p b l0).to (fineP y hy).2 z2).1 with w | w
   ·exact ⟨l, ⟨.inl g.1, g.2⟩, e1, by show hi y.to _ = _; rw [w, e2]⟩
   ·exact ⟨l0, ⟨.inr rfl, g0⟩, e.symm, by show hi y.to _ = _; rw [w]; rfl⟩
  ·exact ⟨l0, ⟨.inr rfl, g0⟩, rfl, rfl⟩
 ·by_cases hex : ∃ y ∈ pcs, y.line = (pcZ p b l0).line
  ·obtain ⟨y, hy, ey⟩ := hex
   have hm : (⟨lo y.fr (pcZ p b l0).fr, hi y.to (pcZ p b l0).to, y.bn, y.bd, y.sn, y.sd⟩ : PC) ∈ joinG lo hi pcs (pcZ p b l0) := (mem_join h.nodup _).2 (.inr (.inl ⟨y, hy, ey, rfl⟩))
   obtain ⟨q1, q2, q3⟩ := hlo y.fr (pcZ p b l0).fr (fineP y hy).1 z1
   obtain ⟨r1, r2, r3⟩ := hhi y.to (pcZ p b l0).to (fineP y hy).2 z2
   have fq : EFine (lo y.fr (pcZ p b l0).fr) := by rcases q1 with w | w <;> rw [w]; exact (fineP y hy).1; exact z1
   have fr : EFine (hi y.to (pcZ p b l0).to) := by rcases r1 with w | w <;> rw [w]; exact (fineP y hy).2; exact z2
   rcases hl with hl | rfl
   ·obtain ⟨x, hx, e1, e2, e3⟩ := h.all l hl g
    by_cases exl : x.line = (pcZ p b l0).line
    ·have exy : x = y := by
       obtain ⟨i, hi', rfl⟩ := List.mem_iff_getElem.1 hx
       obtain ⟨j, hj', rfl⟩ := List.mem_iff_getElem.1 hy
       have el : pcs[i].line = pcs[j].line := by rw [exl, ey]
       rcases Nat.lt_trichotomy i j with q | q | q
       ·exact absurd el (List.pairwise_iff_getElem.1 h.nodup i j hi' hj' q)
       ·subst q; rfl
       ·exact absurd el.symm (List.pairwise_iff_getElem.1 h.nodup j i hj' hi' q)
     subst exy
     obtain ⟨u1, u2⟩ := good_fine hb g
     exact ⟨_, hm, e1, leE_trans fq (fineP x hx).1 u1 q2 e2, geE_trans fr (fineP x hx).2 u2 r2 e3⟩
    ·exact ⟨x, (mem_join h.nodup _).2 (.inl ⟨hx, exl⟩), e1, e2, e3⟩
   ·exact ⟨_, hm, ey.symm, q3, r3⟩
  ·have hno : ∀ y ∈ pcs, y.line ≠ (pcZ p b l0).line := fun y hy e => hex ⟨y, hy, e⟩
   rcases hl with hl | rfl
   ·obtain ⟨x, hx, e1, e2, e3⟩ := h.all l hl g
    exact ⟨x, (mem_join h.nodup _).2 (.inl ⟨hx, hno x hx⟩), e1, e2, e3⟩
   ·exact ⟨_, (mem_join h.nodup _).2 (.inr (.inr ⟨rfl, hno⟩)), rfl, leE_refl _, geE_refl _⟩
end
def goodB (p : PG) (b : List Int) (l : List Nat) : Bool := goesC p l && decide (endsE (spW p b l) = 0)
theorem goodB_iff {p : PG} {b : List Int} {l : List Nat} : goodB p b l = true ↔ GoodL p b l := by
 unfold goodB
 simp only [Bool.and_eq_true, decide_eq_true_eq]
 exact ⟨fun h => ⟨goesC_iff.1 h.1, h.2⟩, fun h => ⟨goesC_iff.2 h.ok, h.some⟩⟩
def grpF (lo hi : EN → EN → EN) (p : PG) (b : List Int) (ls : List (List Nat)) : List PC := ls.foldl (fun a l => if goodB p b l = true then joinG lo hi a (pcZ p b l) else a) []
theorem grpF_snoc (lo hi : EN → EN → EN) (p : PG) (b : List Int) (ls : List (List Nat)) (l : List Nat) : grpF lo hi p b (ls ++ [l]) = if goodB p b l = true then joinG lo hi (grpF lo hi p b ls) (pcZ p b l) else grpF lo hi p b ls := by
 unfold grpF; rw [List.foldl_append]; rfl
theorem grpF_on {lo hi : EN → EN → EN} (hlo : LoOK lo) (hhi : HiOK hi) {p : PG} {b : List Int} (hb : By p b) : ∀ n {ls : List (List Nat)}, ls.length = n → GrpOn p b (fun l => l ∈ ls) (grpF lo hi p b ls)
 | 0, ls, h => by
  obtain rfl : ls = [] := List.eq_nil_of_length_eq_zero h
  exact (GrpOn.nil p b).iff fun l _ => by simp
 | n + 1, ls, h => by
  have hne : ls ≠ [] := fun e => by rw [e] at h; simp at h
  have he : ls = ls.dropLast ++ [ls.getLast hne] := (List.dropLast_concat_getLast hne).symm
  have ih := grpF_on hlo hhi hb n (ls := ls.dropLast) (by rw [List.length_dropLast, h]; rfl)
  generalize ls.getLast hne = x at he
  generalize ls.dropLast = ds at *
  rw [he, grpF_snoc]
  by_cases hg : goodB p b x = true
  ·rw [if_pos hg]
   exact (ih.step hb hlo hhi (goodB_iff.1 hg)).iff fun l _ => by simp
  ·rw [if_neg hg]
   refine ih.iff fun l gl => ?_
   have : l ≠ x := fun e => hg (goodB_iff.2 (e ▸ gl))
   simp [this]
theorem grp_prog {p : PG} {b : List Int} (hb : By p b) : Grp p b (grpF undP ovrP p b (cornersZ p)) :=
 (grpF_on undP_ok ovrP_ok hb _ rfl).grp fun _ g => mem_corners.2 g.ok.bs
def insP (out : List PC) (x : PC) : List PC := out.takeWhile (fun y => befE y.fr x.fr) ++ x :: out.dropWhile (fun y => befE y.fr x.fr)
def sortP (l : List PC) : List PC := l.foldl insP []
theorem mem_insP {out : List PC} {x z : PC} : z ∈ insP out x ↔ z ∈ out ∨ z = x := by
 unfold insP
 have e : out.takeWhile (fun y => befE y.fr x.fr) ++ out.dropWhile (fun y => befE y.fr x.fr) = out := List.takeWhile_append_dropWhile
 conv => rhs; rw [← e]
 simp only [List.mem_append, List.mem_cons]
 constructor
 ·rintro (h | h | h)
  ·exact .inl (.inl h)
  ·exact .inr h
  ·exact .inl (.inr h)
 ·rintro ((h | h) | h)
  ·exact .inl h
  ·exact .inr (.inr h)
  ·exact .inr (.inl h)
def RB (x y : PC) : Prop := befE x.fr y.fr = true
section
variable {p : PG} {b : List Int} {P : List PC}
theorem RB_asymm (hb : By p b) (hP : Grp p b P) {x y : PC} (hx : x ∈ P) (hy : y ∈ P) (nx : pointB x = false) (ny : pointB y = false) (h : RB x y) (hne : x ≠ y) : ¬ RB y x := by
 intro h2
 have := bef_total hb hP hx hy nx ny hne
 unfold RB at *
 rw [h, h2] at this
 simp at this
theorem insP_sorted (hb : By p b) (hP : Grp p b P) {out : List PC} {x : PC} (ho : ∀ y ∈ out, y ∈ P ∧ pointB y = false ∧ y ≠ x) (hx : x ∈ P) (nx : pointB x = false) (hs : out.Pairwise RB) : (insP out x).Pairwise RB := by
 induction out with
 | nil => simp [insP]
 | cons a out ih =>
  rw [List.pairwise_cons] at hs
  have ha := ho a (by simp)
  by_cases h : befE a.fr x.fr = true
  ·have e : insP (a :: out) x = a :: insP out x := by simp [insP, h]
   rw [e, List.pairwise_cons]
   refine ⟨fun z hz => ?_, ih (fun y hy => ho y (by simp [hy])) hs.2⟩
   rcases mem_insP.1 hz with q | rfl
   ·exact hs.1 z q
   ·exact h
  ·have e : insP (a :: out) x = x :: a :: out := by simp [insP, h]
   have hxa : RB x a := by
    have := bef_total hb hP hx ha.1 nx ha.2.1 (fun q => ha.2.2 q.symm)
    unfold RB
    rw [this]
    simpa using h
   rw [e, List.pairwise_cons, List.pairwise_cons]
   refine ⟨fun z hz => ?_, hs.1, hs.2⟩
   rcases List.mem_cons.1 hz with rfl | q
   ·exact hxa
   ·have haz := hs.1 z q
    have hz' := ho z (by simp [q])
    rcases bef_trans hb hP hx ha.1 hz'.1 hxa haz with w | ⟨w1, w2⟩
    ·exact w
    ·
     exfalso
     have f1 := fine_op (grp_fine hb hP hx).1 w1
     have f2 := fine_op (grp_fine hb hP ha.1).1 w2
     exact ha.2.2 (begin_one hb hP ha.1 hx ha.2.1 nx (by rw [f1, f2]))
theorem mem_sortP {l : List PC} : ∀ {acc : List PC} {z : PC}, z ∈ l.foldl insP acc ↔ z ∈ acc ∨ z ∈ l := by
 induction l with
 | nil => intro acc z; simp
 | cons x l ih =>
  intro acc z
  rw [List.foldl_cons, ih, mem_insP, List.mem_cons]
  constructor
  ·rintro ((h | h) | h)
   ·exact .inl h
   ·exact .inr (.inl h)
   ·exact .inr (.inr h)
  ·rintro (h | h | h)
   ·exact .inl (.inl h)
   ·exact .inl (.inr h)
   ·exact .inr h
theorem sortP_sorted (hb : By p b) (hP : Grp p b P) {l : List PC} : ∀ {acc : List PC}, (∀ y ∈ acc, y ∈ P ∧ pointB y = false) → (∀ y ∈ l, y ∈ P ∧ pointB y = false) → (acc ++ l).Nodup → acc.Pairwise RB → (l.foldl insP acc).Pairwise RB := by
 induction l with
 | nil => intro acc _ _ _ h; exact h
 | cons x l ih =>
  intro acc ha hl hn hs
  rw [List.foldl_cons]
  have hx := hl x (by simp)
  have hxa : ∀ y ∈ acc, y ≠ x := fun y hy e => by
   rw [List.nodup_append] at hn
   exact hn.2.2 y hy x (by simp) e
  refine ih (fun y hy => ?_) (fun y hy => hl y (by simp [hy])) ?_ (insP_sorted hb hP (fun y hy => ⟨(ha y hy).1, (ha y hy).2, hxa y hy⟩) hx.1 hx.2 hs)
  ·rcases mem_insP.1 hy with q | rfl
   ·exact ha y q
   ·exact hx
  ·have hperm : (insP acc x).Perm (acc ++ [x]) := by
     unfold insP
     have e : acc.takeWhile (fun y => befE y.fr x.fr) ++ acc.dropWhile (fun y => befE y.fr x.fr) = acc := List.takeWhile_append_dropWhile
     conv => rhs; rw [← e]
     rw [List.append_assoc]
     refine List.Perm.append_left _ ?_
     exact (List.perm_append_comm (l₁ := [x]))
   have h2 : (insP acc x ++ l).Perm (acc ++ x :: l) := by
    have := hperm.append_right l
    rwa [List.append_assoc] at this
   exact h2.nodup_iff.2 hn
theorem insP_perm (acc : List PC) (x : PC) : (insP acc x).Perm (acc ++ [x]) := by
 unfold insP
 have e : acc.takeWhile (fun y => befE y.fr x.fr) ++ acc.dropWhile (fun y => befE y.fr x.fr) = acc := List.takeWhile_append_dropWhile
 conv => rhs; rw [← e]
 rw [List.append_assoc]
 exact List.Perm.append_left _ (List.perm_append_comm (l₁ := [x]))
theorem foldP_perm : ∀ (l acc : List PC), (l.foldl insP acc).Perm (acc ++ l)
 | [], acc => by simp
 | x :: l, acc => by
  rw [List.foldl_cons]
  refine (foldP_perm l _).trans ?_
  have := (insP_perm acc x).append_right l
  rwa [List.append_assoc] at this
theorem sortP_perm (l : List PC) : (sortP l).Perm l := foldP_perm l []
def slpB (x y : PC) : Bool := decide (cmpZ x.sn x.sd y.sn y.sd < 0)
def bestP : List PC → List PC
 | [] => []
 | x :: l => [l.foldl (fun a y => if slpB y a = true then y else a) x]
def ansP (P : List PC) : List PC := if (P.filter fun x => !pointB x) = [] then bestP P else sortP (P.filter fun x => !pointB x)
theorem grp_nodup (hP : Grp p b P) : P.Nodup := hP.nodup.imp fun h e => h (by rw [e])
theorem sort_uniq (hb : By p b) (hP : Grp p b P) {Q : List PC} (hQ : Grp p b Q) {l : List PC} (hl : l.Perm (Q.filter fun x => !pointB x)) (hs : l.Pairwise RB) : l = sortP (P.filter fun x => !pointB x) := by
 have mQ : ∀ x, x ∈ l ↔ x ∈ Q ∧ pointB x = false := fun x => by rw [hl.mem_iff, List.mem_filter]; simp
 have mP : ∀ x, x ∈ sortP (P.filter fun x => !pointB x) ↔ x ∈ P ∧ pointB x = false := fun x => by unfold sortP; rw [mem_sortP, List.mem_filter]; simp
 have nd : l.Nodup := hl.nodup_iff.2 ((grp_nodup hQ).sublist List.filter_sublist)
 have hf : ∀ y ∈ P.filter (fun x => !pointB x), y ∈ P ∧ pointB y = false := fun y hy => by rw [List.mem_filter] at hy; simpa using hy
 have hns : (sortP (P.filter fun x => !pointB x)).Pairwise RB := sortP_sorted hb hP (by simp) hf (by simpa using (grp_nodup hP).sublist List.filter_sublist) (by simp)
 refine sorted_eq (R := RB) (fun x y hx hy hne hxy => ?_) hs hns nd ?_ fun x => ?_
 ·obtain ⟨q1, q2⟩ := (mQ x).1 hx
  obtain ⟨r1, r2⟩ := (mQ y).1 hy
  exact RB_asymm hb hQ q1 r1 q2 r2 hxy hne
 ·exact (sortP_perm _).nodup_iff.2 ((grp_nodup hP).sublist List.filter_sublist)
 ·rw [mQ, mP]
  exact ⟨fun h => ⟨grp_sub hb hQ hP h.1, h.2⟩, fun h => ⟨grp_sub hb hP hQ h.1, h.2⟩⟩
theorem pc_pos (hb : By p b) (hP : Grp p b P) {x : PC} (hx : x ∈ P) : mayB [x.bn] x.bd = true ∧ mayB [x.sn] x.sd = true := by
 obtain ⟨l, g1, e1, _⟩ := hP.fr x hx
 obtain ⟨_, _, _, hc⟩ := corn_of g1.ok.hp g1.ok.hr g1.ok.hd
 unfold PC.line at e1
 simp only [Prod.mk.injEq] at e1
 obtain ⟨e1, e2, e3, e4⟩ := e1
 rw [← e1, ← e2, ← e3, ← e4]
 exact ⟨(fr_q (val_pt g1.ok).1 hc.px).2, (fr_q (valB_pt hb g1.ok).1 hc.px).2⟩
theorem slp_iff (hb : By p b) (hP : Grp p b P) {x y : PC} (hx : x ∈ P) (hy : y ∈ P) : slpB x y = true ↔ x.S < y.S := by
 have m1 := (pc_pos hb hP hx).2
 have m2 := (pc_pos hb hP hy).2
 have d1 := (mayB_parts m1).1
 have d2 := (mayB_parts m2).1
 unfold slpB cmpZ PC.S
 rw [decide_eq_true_eq, lt_div (by omega) (by omega)]
theorem foldS (hb : By p b) (hP : Grp p b P) : ∀ (l : List PC) (x : PC), x ∈ P → (∀ y ∈ l, y ∈ P) →
    (l.foldl (fun a y => if slpB y a = true then y else a) x ∈ x :: l ∧ ∀ y ∈ x :: l, (l.foldl (fun a y => if slpB y a = true then y else a) x).S ≤ y.S)
 | [], x, hx, _ => by simp
 | y :: l, x, hx, hl => by
  rw [List.foldl_cons]
  have hy := hl y (by simp)
  have hs := slp_iff hb hP hy hx
  by_cases h : slpB y x = true
  ·rw [if_pos h]
   obtain ⟨h1, h2⟩ := foldS hb hP l y hy (fun z hz => hl z (by simp [hz]))
   refine ⟨List.mem_cons_of_mem _ h1, fun z hz => ?_⟩
   rcases List.mem_cons.1 hz with rfl | q
   ·have := h2 y (by simp); have := hs.1 h; grind
   ·exact h2 z q
  ·rw [if_neg h]
   obtain ⟨h1, h2⟩ := foldS hb hP l x hx (fun z hz => hl z (by simp [hz]))
   refine ⟨?_, fun z hz => ?_⟩
   ·rcases List.mem_cons.1 h1 with q | q
    ·exact List.mem_cons.2 (.inl q)
    ·exact List.mem_cons.2 (.inr (List.mem_cons_of_mem _ q))
   ·rcases List.mem_cons.1 hz with rfl | q
    ·exact h2 z (by simp)
    ·rcases List.mem_cons.1 q with rfl | q
     ·have := h2 x (by simp)
      have : ¬ z.S < x.S := fun w => h (hs.2 w)
      grind
     ·exact h2 z (by simp [q])
theorem best_uniq (hb : By p b) (hP : Grp p b P) {Q : List PC} (hQ : Grp p b Q) {l : List PC} (hl : l.Perm Q) : bestP l = bestP P := by
 have hm : ∀ x, x ∈ l ↔ x ∈ P := fun x => by rw [hl.mem_iff]; exact ⟨fun h => grp_sub hb hQ hP h, fun h => grp_sub hb hP hQ h⟩
 cases l with
 | nil =>
  cases P with
  | nil => rfl
  | cons y P => have := (hm y).2 (by simp); simp at this
 | cons x l =>
  cases P with
  | nil => have := (hm x).1 (by simp); simp at this
  | cons y P' =>
   unfold bestP
   obtain ⟨h1, h2⟩ := foldS hb hP l x ((hm x).1 (by simp)) (fun z hz => (hm z).1 (by simp [hz]))
   obtain ⟨k1, k2⟩ := foldS hb hP P' y (by simp) (fun z hz => by simp [hz])
   have e1 := h2 _ ((hm _).2 k1)
   have e2 := k2 _ ((hm _).1 h1)
   have e3 := slope_one hb hP ((hm _).1 h1) k1 (by grind)
   show [_] = [_]
   rw [e3]
end
end Go.Proofs.YtjcdkbalhleeeaaGreatDoor

namespace Go.Proofs.YtjcdkbalhleeeaaGreatDoor
section
variable {p : PG} {b : List Int}
def gT (p : PG) (b : List Int) (t : Rat) (l : List Nat) (j : Nat) : Rat := gq (lookN p l) j + t * gq (lookN (costsOf p b) l) j
def cT (p : PG) (b : List Int) (t : Rat) (j : Nat) : Rat := cq p j + t * cq (costsOf p b) j
structure StT (p : PG) (b : List Int) (t : Rat) (l l' : List Nat) (r k : Nat) : Prop where
 ok : OKb p l
 rl : r ∉ l
 rN : r < p.costs.length + p.rows.length
 gr : 0 < gT p b t l r
 glt : ∀ j, j < r → gT p b t l j ≤ 0
 out : outZ (lookN p l).xs l (lessZ p l r) l.length = some k
 eq : l' = insN (l.eraseIdx k) r
structure WayT (p : PG) (b : List Int) (t : Rat) (d : Nat → Rat) : Prop where
 ge : ∀ j, 0 ≤ d j
 ker : ∀ i, i < p.rows.length → sumR (fun j => aq p i j * d j) (p.costs.length + p.rows.length) = 0
 up : 0 < sumR (fun j => cT p b t j * d j) (p.costs.length + p.rows.length)
end
end Go.Proofs.YtjcdkbalhleeeaaGreatDoor

namespace Go.Proofs.YtjcdkbalhleeeaaGreatDoor
section
variable {p : PG} {b : List Int} {P : List PC}
theorem mem_ans (hb : By p b) (hP : Grp p b P) {x : PC} (h : x ∈ ansP P) : x ∈ P := by
 unfold ansP at h
 by_cases hf : (P.filter fun x => !pointB x) = []
 ·rw [if_pos hf] at h
  cases P with
  | nil => simp [bestP] at h
  | cons y P =>
   unfold bestP at h
   rw [List.mem_singleton] at h
   rw [h]
   exact (foldS hb hP P y (by simp) (fun z hz => by simp [hz])).1
 ·rw [if_neg hf] at h
  unfold sortP at h
  rw [mem_sortP] at h
  rcases h with h | h
  ·simp at h
  ·exact (List.mem_filter.1 h).1
end
end Go.Proofs.YtjcdkbalhleeeaaGreatDoor

namespace Go.Proofs.YtjcdkbalhleeeaaGreatDoor
section
variable {p : PG} {b : List Int} {P : List PC} {n d : Int} {l : List Nat}
theorem sol_best {q : PG} (hk : (solZ q).kind = 1) : ∃ l, BestC q l ∧ solZ q = bestA q l := by
 unfold solZ at hk ⊢
 cases hb : begZ q with
 | some l =>
  rw [hb] at hk
  simp only at hk ⊢
  obtain ⟨ho, hn⟩ := last_ok (beg_some hb)
  generalize wlastZ q l = lk at *
  rcases kind_at hn with ⟨h1, hi⟩ | ⟨h1, r, hi, hout⟩
  ·rw [if_pos h1]
   exact ⟨lk, ⟨ho, inZ_none hi⟩, rfl⟩
  ·rw [if_neg (by omega)] at hk
   exact absurd hk (by show ¬ ((2 : Int) = 1); omega)
 | none =>
  rw [hb] at hk
  simp only at hk
  cases hs : stZ q with
  | none => rw [hs] at hk; exact absurd hk (by show ¬ ((0 : Int) = 1); omega)
  | some x => rw [hs] at hk; exact absurd hk (by show ¬ ((3 : Int) = 1); omega)
theorem bestA_worth {q : PG} (ho : OKb q l) : mayB [(bestA q l).wn] (bestA q l).wd = true ∧ ((bestA q l).wn : Rat) / ((bestA q l).wd : Rat) = sumR (fun j => cq q j * xq (lookN q l) j) (q.costs.length + q.rows.length) := by
 obtain ⟨_, _, _, hc⟩ := corn_of ho.hp ho.hr ho.hd
 obtain ⟨hf, _, _⟩ := goesB_iff.1 (var_goes hc ho.hx)
 obtain ⟨w1, w2, _⟩ := var_worth hc
 obtain ⟨g, g0, g1, g2, g3, g4⟩ := var_parts hc
 have e1 : (bestA q l).wn = frN (dot q.costs (ptN (varL q (lookN q l)) (lookN q l).xd)) (ptD (varL q (lookN q l)) (lookN q l).xd) := by
  show worN q _ _ = _
  unfold worN; rw [if_pos hf]
 have e2 : (bestA q l).wd = ptD [dot q.costs (ptN (varL q (lookN q l)) (lookN q l).xd)] (ptD (varL q (lookN q l)) (lookN q l).xd) := by
  show worD q _ _ = _
  unfold worD; rw [if_pos hf]
 obtain ⟨f1, f2⟩ := fr_q w1 g4
 rw [e1, e2]
 refine ⟨f2, ?_⟩
 rw [f1, val_sum hc]
 have q1 := cast_pos g4
 have q2 := cast_pos hc.px
 have q3 : ((dot q.costs (ptN (varL q (lookN q l)) (lookN q l).xd) : Int) : Rat) * ((lookN q l).xd : Rat) = (dot q.costs ((lookN q l).xs.take q.costs.length) : Rat) * ((ptD (varL q (lookN q l)) (lookN q l).xd : Int) : Rat) := by
  rw [← Rat.intCast_mul, ← Rat.intCast_mul]
  exact congrArg _ w2
 grind
end
end Go.Proofs.YtjcdkbalhleeeaaGreatDoor
