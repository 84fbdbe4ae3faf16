/-
  Contracts of functions and plain laws that later parts of the proof use. The conditions stand in each theorem.
-/
import Derived.Test.YtjcdkbalhleeeaaGreatDoorG10
import Derived.Test.YtjcdkbalhleeeaaGreatDoorG26
import Derived.Test.YtjcdkbalhleeeaaGreatDoorG21
namespace Go.Proofs.YtjcdkbalhleeeaaGreatDoor
open Go.Shelf Go.RowKit Go.Lib Go.Sort
theorem cmp_bef {x y : PC} (hx : EFine x.fr) (hy : EFine y.fr) : cmpP x y < 0 ↔ befE x.fr y.fr = true := by
 unfold cmpP befE
 cases h1 : x.fr.op with
 | true => simp
 | false =>
  cases h2 : y.fr.op with
  | true => simp
  | false =>
   have e : lessB x.fr.n x.fr.d y.fr.n y.fr.d = decide (cmpZ x.fr.n x.fr.d y.fr.n y.fr.d < 0) := by
    unfold lessB cmpZ
    rw [fine_may hx h1, fine_may hy h2, Bool.true_and, Bool.true_and, decide_eq_decide]
    omega
   rw [e]
   simp
   split <;> simp_all
structure Sortable (L : List PC) : Prop where
 nd : L.Nodup
 tot : ∀ x ∈ L, ∀ y ∈ L, x ≠ y → befE x.fr y.fr = !befE y.fr x.fr
 tr : ∀ x ∈ L, ∀ y ∈ L, ∀ z ∈ L, befE x.fr y.fr = true → befE y.fr z.fr = true → befE x.fr z.fr = true ∨ (x.fr.op = true ∧ y.fr.op = true)
 fine : ∀ x ∈ L, EFine x.fr
section
variable {L : List PC}
def ltS (x y : {x : PC // x ∈ L}) : Bool := !decide (x.1 = y.1) && befE x.1.fr y.1.fr
theorem ltS_swo (h : Sortable L) : SWO (ltS (L := L)) := by
 have key : ∀ x y z : {x : PC // x ∈ L}, ltS x y = true → ltS y z = true → ltS x z = true := by
  rintro ⟨x, hx⟩ ⟨y, hy⟩ ⟨z, hz⟩ h1 h2
  simp only [ltS, Bool.and_eq_true, Bool.not_eq_true', decide_eq_false_iff_not] at h1 h2 ⊢
  have t := h.tot x hx y hy h1.1
  have t2 : befE x.fr z.fr = true := by
   rcases h.tr x hx y hy z hz h1.2 h2.2 with q | ⟨q1, q2⟩
   ·exact q
   ·rw [h1.2] at t
    have : befE y.fr x.fr = true := by unfold befE; rw [q2]; simp
    rw [this] at t; cases t
  refine ⟨fun e => ?_, t2⟩
  subst e
  rw [h1.2, h2.2] at t
  cases t
 have tot : ∀ x y : {x : PC // x ∈ L}, x.1 ≠ y.1 → ltS x y = false → ltS y x = true := by
  rintro ⟨x, hx⟩ ⟨y, hy⟩ hne h1
  have t := h.tot x hx y hy hne
  simp only [ltS, Bool.and_eq_false_iff, Bool.not_eq_false', decide_eq_true_eq, Bool.and_eq_true, Bool.not_eq_true', decide_eq_false_iff_not] at h1 ⊢
  rcases h1 with q | q
  ·exact absurd q hne
  ·rw [q] at t
   exact ⟨fun e => hne e.symm, by simpa using t.symm⟩
 refine ⟨fun x => by simp [ltS], key, ?_⟩
 intro x y z h1 h2
 by_cases e1 : x.1 = y.1
 ·have : x = y := Subtype.ext e1
  rw [this]; exact h2
 by_cases e2 : y.1 = z.1
 ·have : y = z := Subtype.ext e2
  rw [← this]; exact h1
 have k := key z y x (tot y z e2 h2) (tot x y e1 h1)
 cases hxz : ltS x z with
 | false => rfl
 | true =>
  have := key z x z k hxz
  simp [ltS] at this
theorem ltS_alike (h : Sortable L) : Alike (ltOf fun x y : {x : PC // x ∈ L} => cmpP x.1 y.1) ltS := by
 intro x y hne
 have h1 : x.1 ≠ y.1 := fun e => hne (Subtype.ext e)
 unfold ltOf ltS
 simp only [h1, decide_false, Bool.not_false, Bool.true_and]
 have := cmp_bef (h.fine _ x.2) (h.fine _ y.2)
 cases hb : befE x.1.fr y.1.fr with
 | true => exact decide_eq_true (this.2 hb)
 | false => exact decide_eq_false fun q => by rw [this.1 q] at hb; cases hb
theorem attach_fine [Inhabited {x : PC // x ∈ L}] (h : Sortable L) : Fine ltS (L.attach.toArray) := by
 unfold Fine
 have hn : L.attach.Pairwise (fun x y => x ≠ y) := by
  have := h.nd
  rw [← List.attach_map_subtype_val L, List.Nodup, List.pairwise_map] at this
  exact this.imp fun q e => q (by rw [e])
 refine hn.imp fun {x y} hne => ⟨hne, ?_⟩
 have h1 : x.1 ≠ y.1 := fun e => hne (Subtype.ext e)
 have t := h.tot x.1 x.2 y.1 y.2 h1
 unfold ltS
 simp only [h1, Ne.symm h1, decide_false, Bool.not_false, Bool.true_and]
 cases hb : befE x.1.fr y.1.fr with
 | true => exact .inl rfl
 | false => rw [hb] at t; right; simpa using t.symm
end
theorem PcOwn.frozen {w : World} {base g n cap : Nat} {L : List PC} (h : PcOwn w base (.slice (some ⟨g, 0, none⟩) n cap) L) (j : Nat) : w.frozen? ⟨g, j, none⟩ = false := by
 rcases h.2 with ⟨e, _⟩ | ⟨g', cap', cur, e, h1, h2, _⟩
 ·cases e
 ·injection e with e1 e2 e3
  injection e1 with e1
  injection e1 with e1
  subst e1
  simp [World.frozen?, h2]
theorem pcs_sort (base g cap : Nat) (L : List PC) (w : World) (hS : Sortable L) (h0 : 0 < L.length) (hs : L.length ≤ 100000) (hown : PcOwn w base (.slice (some ⟨g, 0, none⟩) L.length cap) L) :
    Calls Tryz.prog 60 #[.slice (some ⟨g, 0, none⟩) L.length cap, .func (.func 61) #[] #[]] w fun e w' =>
     e = .returned (.tuple #[]) ∧ ∃ l : List PC, l.Perm L ∧ l.Pairwise RB ∧ w.grownBy w' (some g) ∧ ∀ (i : Nat) (hi : i < l.length), PcAt w' g i l[i] := by
 haveI : Inhabited {x : PC // x ∈ L} := ⟨⟨L[0], List.getElem_mem h0⟩⟩
 obtain ⟨g', cap', e, _, hlt, _, _, hcells⟩ := hown.some' h0
 injection e with e1 e2 e3
 injection e1 with e1
 injection e1 with e1
 subst e1
 obtain ⟨d0, hd0⟩ : ∃ d0 : Array {x : PC // x ∈ L}, d0 = L.attach.toArray := ⟨_, rfl⟩
 have hsz : d0.size = L.length := by rw [hd0]; simp
 have hat : ∀ i (hi : i < L.length), (d0[i]!).1 = L[i] := by
  intro i hi
  rw [getElem!_pos d0 i (by omega)]
  subst hd0
  simp
 have hF : Fine ltS d0 := by rw [hd0]; exact attach_fine hS
 have hk : ∀ x : {x : PC // x ∈ L}, (pcC x.1).length = 10 := fun x => rfl
 have hH : HoldsK (fun x : {x : PC // x ∈ L} => pcC x.1) 10 w g 0 d0 := by
  intro j hj
  have hj' : j < d0.size * 10 := by simpa using hj
  have hq : j / 10 < L.length := by omega
  refine ⟨?_, hown.frozen _⟩
  rw [get_flatK _ _ _ _ hj', hat _ hq]
  have hm : j % 10 < (pcC L[j / 10]).length := by rw [show (pcC L[j / 10]).length = 10 from rfl]; omega
  have := hcells (j / 10) hq (j % 10) ((pcC L[j / 10])[j % 10]) (by rw [List.getElem?_eq_getElem hm])
  rw [getElem!_pos (pcC L[j / 10]) (j % 10) hm, Nat.zero_add]
  rw [show j / 10 * 10 + j % 10 = j by omega] at this
  exact this
 have C : Cx Tryz.prog Tryz.sort6_ren (fun x : {x : PC // x ∈ L} => pcC x.1) 10 (fun x y => cmpP x.1 y.1) 61 #[] g 0 L.length d0 w := {
  aE := Tryz.isAgg79
  zE := Tryz.sizeOf79
  eg := enters_of Tryz.func61 (by kernel_rfl) rfl
  hcmp := fun m os dk hdk x y => (sweep_cmp x.1 y.1 _).mono fun e w' h => ⟨h.1, gr_of h.2.1 h.2.2⟩
  R := ⟨hk, fun x v hv => by
   simp [pcC] at hv
   rcases hv with rfl | rfl | rfl | rfl | rfl | rfl | rfl | rfl | rfl | rfl <;> rfl, hH, hlt⟩
  hn := hsz
  hsz := by omega }
 refine (srt_sort Tryz.sort6 C (ltS_swo hS) (ltS_alike hS) cap hF).mono ?_
 rintro e w' ⟨rfl, d', hsw, hpe, hso⟩
 have hz' : d'.size = L.length := hpe.1.trans hsz
 have hpl := perm_all hpe (Nat.zero_le _) (by omega)
 have hF' : Fine ltS d' := hF.perm hpe (Nat.zero_le _) (by omega)
 have hlen : (d'.toList.map (·.1)).length = L.length := by simp [hz']
 have hget : ∀ i (hi : i < (d'.toList.map (·.1)).length), (d'.toList.map (·.1))[i] = (d'[i]!).1 := by
  intro i hi
  rw [getElem!_pos d' i (by omega)]
  simp
 refine ⟨rfl, d'.toList.map (·.1), ?_, ?_, ?_, ?_⟩
 ·have := hpl.map (·.1)
  rw [hd0] at this
  simpa using this
 ·rw [List.pairwise_iff_getElem]
  intro i j hi hj hij
  rw [hget i hi, hget j hj]
  have h1 := hso i j (Nat.zero_le _) hij (by omega)
  have h2 := hF'.tot (i := i) (j := j) (by omega) (by omega) (by omega)
  have h3 : ltS d'[i]! d'[j]! = true := by
   rcases h2 with q | q
   ·exact q
   ·rw [h1] at q; cases q
  simp only [ltS, Bool.and_eq_true] at h3
  exact h3.2
 ·obtain ⟨m, os, rfl⟩ := hsw
  refine ⟨rfl, rfl, rfl, by unfold sortWorldK; rw [size_grow, size_putRowK]; show w.heap.size ≤ w.heap.size + _; omega, fun k hk hne => ?_⟩
  unfold sortWorldK
  rw [heap_grow_old _ _ (by rw [size_putRowK]; exact hk)]
  have : g ≠ k := fun e => hne (by rw [e])
  simp [putRowK, putRow, mapBlock, Sort.ahead, Array.getElem?_modify, this]
 ·intro i hi
  have hH' := hsw.holds hlt hH (hz'.trans hsz.symm)
  have hi' : i < d'.size := by omega
  rw [hget i hi]
  have cell : ∀ c, c < 10 → w'.cell? ⟨g, i * 10 + c, none⟩ = some (pcC (d'[i]!).1)[c]! := fun c hc => by
   have := (HoldsK.cell hH' hi' hc).1
   rwa [Nat.zero_add] at this
  exact ⟨cell 0 (by omega), cell 1 (by omega), cell 2 (by omega), cell 3 (by omega), cell 4 (by omega), cell 5 (by omega), cell 6 (by omega), cell 7 (by omega), cell 8 (by omega), cell 9 (by omega)⟩
end Go.Proofs.YtjcdkbalhleeeaaGreatDoor
