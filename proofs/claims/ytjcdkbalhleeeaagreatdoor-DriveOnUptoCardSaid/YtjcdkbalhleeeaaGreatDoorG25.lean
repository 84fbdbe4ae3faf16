/-
  Contracts of functions and plain laws that later parts of the proof use. The conditions stand in each theorem.
-/
import Derived.Test.YtjcdkbalhleeeaaGreatDoorG24
import Derived.Test.YtjcdkbalhleeeaaGreatDoorG10
import Derived.Sort.Grow
import Derived.Test.YtjcdkbalhleeeaaGreatDoorG20
import Derived.Deep.DeepCutAuto
import Derived.Test.YtjcdkbalhleeeaaGreatDoorG08
import Derived.Shelf.SlicesE.IndexFunc
import Derived.Shelf.SlSortCmp.InsertionK
import Derived.Ground.SlgfProg
import Derived.Ground.SlsfProg
import Derived.Lib.SliceRun
import Derived.LoopIn
namespace Go.Proofs.YtjcdkbalhleeeaaGreatDoor
open Go.Shelf Go.RowKit Go.Lib Go.Sort
variable {P : Program} {ρ : Ren} {α : Type} [Inhabited α] {lt : α → α → Bool}
variable {enc : α → List Value} {k : Nat} {cf : α → α → Int} {g : Nat} {cb : Array Value} {blk off n : Nat} {d0 : Array α} {w0 : World}

/-- slices.SortFunc, at the whole row. -/
theorem srt_sort (L : SlLaysF0.n6 P ρ) (C : Cx P ρ enc k cf g cb blk off n d0 w0) (hO : SWO lt) (hE : Alike (ltOf cf) lt) (cap : Nat) (hF : Fine lt d0) :
    Calls P (ρ.f 6) #[.slice (some ⟨blk, off, none⟩) n cap, .func (.func g) #[] cb] w0 fun e w' => e = .returned (.tuple #[]) ∧ ∃ d', SWK enc k w0 blk off d' w' ∧ PermIn 0 n d0 d' ∧ SortedIn lt 0 n d' := by
  have mixed := L.mixed; have t0 := L.t0; have a0 := L.a0; have z0 := L.z0; have v0 := L.v0; have t3 := L.t3; have a3 := L.a3; have z3 := L.z3; have v3 := L.v3; have t4 := L.t4; have a4 := L.a4; have z4 := L.z4; have v4 := L.v4; have t5 := L.t5; have a5 := L.a5; have z5 := L.z5; have v5 := L.v5; have t9 := L.t9; have a9 := L.a9; have z9 := L.z9; have v9 := L.v9; have t39 := L.t39; have a39 := L.a39; have z39 := L.z39; have v39 := L.v39; have t45 := L.t45; have a45 := L.a45; have z45 := L.z45; have v45 := L.v45; have t46 := L.t46; have a46 := L.a46; have z46 := L.z46; have v46 := L.v46; have t50 := L.t50; have a50 := L.a50; have z50 := L.z50; have v50 := L.v50; have t53 := L.t53; have a53 := L.a53; have z53 := L.z53; have v53 := L.v53; have t55 := L.t55; have a55 := L.a55; have z55 := L.z55; have v55 := L.v55; have t66 := L.t66; have a66 := L.a66; have z66 := L.z66; have v66 := L.v66; have t70 := L.t70; have a70 := L.a70; have z70 := L.z70; have v70 := L.v70; have t76 := L.t76; have a76 := L.a76; have z76 := L.z76; have v76 := L.v76; have t77 := L.t77; have a77 := L.a77; have z77 := L.z77; have v77 := L.v77; have t22 := L.t22; have a22 := L.a22; have z22 := L.z22; have v22 := L.v22; have t25 := L.t25; have a25 := L.a25; have z25 := L.z25; have v25 := L.v25
  have e14 : ∀ args w, (callFunc (ρ.f 14) args).run P w = .ok (.enter (ρ.f 14) args) w := L.f14.enters rfl
  have e15 : ∀ args w, (callFunc (ρ.f 15) args).run P w = .ok (.enter (ρ.f 15) args) w := enters_of L.f15 (by kernel_rfl) rfl
  have hsz := C.hsz
  have hlim : Lib.bitLen n < 4611686018427387904 := Nat.lt_of_le_of_lt (Lib.bitLen_le n 62 (by omega) (by omega)) (by omega)
  have hp := srt_pdq (P := P) (ρ := ρ) { L with } C hO hE cap (n + 1) 0 n (Lib.bitLen n) d0 w0 (by omega) C.hn hF (SWK.start C.R.hH) (Nat.zero_le _) (Nat.le_refl _) hlim (Or.inl rfl)
  have hl : Calls P (ρ.f 15) #[.int .u64 (n : Int)] w0 fun e w' => e = .returned (.int .i64 (Lib.bitLen n : Nat)) ∧ w' = w0 := by
    have h := Any.bits_Len (SlLaysF0.n15.bits (P := P) (ρ := ρ) { L with }) (n : Int) w0 (by omega) (by omega)
    rwa [Int.toNat_natCast] at h
  have wr : IntKind.u64.wrap (n : Int) = n := by simp [IntKind.wrap, IntKind.bits, IntKind.signed]; omega
  have HP := Lib.hid hp
  clear hp C hF
  obtain ⟨_, _, FG⟩ := L.f6
  go_enter FG, SlBodyF.n6_ntmps ρ
  go_wp2_with (first | (go_at_fn (ρ.f 15); refine hl.mono ?_; rintro e w' ⟨rfl, rfl⟩) | (go_at_fn (ρ.f 14); refine HP.out.mono ?_; rintro e w' ⟨rfl, d', h1, h2, h3⟩; have H1 := Lib.hid h1; have H2 := Lib.hid h2; have H3 := Lib.hid h3; clear h1 h2 h3))
  go_end0
  exact ⟨rfl, d', H1.out, H2.out, H3.out⟩
end Go.Proofs.YtjcdkbalhleeeaaGreatDoor

namespace Go.Proofs.YtjcdkbalhleeeaaGreatDoor
open Go.RowKit

theorem gr_of {w w' : World} (h : Below w.heap.size w w') (hd : w.drawn ≤ w'.drawn) : ∃ (q : Nat) (os : Array Obj), w' = Go.Sort.grow (w.drewN q) os := by
  refine ⟨w'.drawn - w.drawn, w'.heap.extract w.heap.size w'.heap.size, ?_⟩
  obtain ⟨heap', tape', drawn', os', output'⟩ := w'
  have e1 : os' = w.os := h.os
  have e2 : tape' = w.tape := h.tape
  have e3 : output' = w.output := h.output
  have hs : w.heap.size ≤ heap'.size := h.size
  have hb : ∀ k, k < w.heap.size → heap'[k]? = w.heap[k]? := h.block
  subst e1 e2 e3
  have e4 : w.drawn + (drawn' - w.drawn) = drawn' := by simp at hd; omega
  have e5 : w.heap ++ heap'.extract w.heap.size heap'.size = heap' := by
    apply Array.ext_getElem?
    intro i
    by_cases hi : i < w.heap.size
    · rw [Array.getElem?_append_left hi, hb i hi]
    · rw [Array.getElem?_append_right (by omega)]
      by_cases h2 : i < heap'.size
      · rw [Array.getElem?_extract, if_pos (by omega)]
        congr 1
        omega
      · rw [Array.getElem?_extract, if_neg (by omega), Array.getElem?_eq_none (by omega)]
  show World.mk heap' w.tape drawn' w.os w.output = World.mk (w.heap ++ heap'.extract w.heap.size heap'.size) w.tape (w.drawn + (drawn' - w.drawn)) w.os w.output
  rw [e4, e5]
theorem fracG_MayPoint (A : Option Addr) (l : List Int) (c : Nat) (d : Int) (w : World) (hr : Rd w A c l) :
    Calls Tryz.prog 114 #[.agg #[.slice A l.length c, .int .i64 d]] w fun e w' => e = .returned (.bool (mayB l d)) ∧ Below w.heap.size w w' ∧ w.drawn ≤ w'.drawn := by
  have HR := Lib.hid hr
  obtain ⟨hl, hc, hsm, _⟩ := hr
  cases hs : rightB l d with
  | false =>
    have hv : mayB l d = false := by simp [mayB, hs]
    rw [hv]
    clear hv
    go_enter Tryz.func114, Tryz.ntmps114
    go_wp2_with (go_at_call 81; refine (frac_right _ _ _ _ _ (HR.out.alloc _)).mono ?_; rintro e w' ⟨rfl, n', rfl⟩)
    go_ret
    exact ⟨rfl, below_drewN ((Below.refl _ _).alloc (Nat.le_refl _) _) _, by (first | exact Nat.le_add_right _ _ | (show w.drawn ≤ w.drawn + _; omega))⟩
  | true =>
    obtain ⟨d, rfl⟩ : ∃ n : Nat, d = n := ⟨d.toNat, by simp [rightB] at hs; omega⟩
    have hd : d ≤ 4611686018427387904 := by simp [rightB] at hs; omega
    have hz : smallB 4611686018427387904 l = true := by
      rw [smallB_iff]; simp [rightB] at hs; intro n hn; have := smallB_mem hs.2.2.1 hn; omega
    have HZ := Lib.hid hz
    have hv : mayB l d = ((comm d l : Int) == 1) := by rw [Bool.eq_iff_iff]; simp [mayB, hs]; omega
    rw [hv]
    clear hv hz
    go_enter Tryz.func114, Tryz.ntmps114
    go_wp2_with (first
      | (go_at_call 81; refine (frac_right _ _ _ _ _ (HR.out.alloc _)).mono ?_; rintro e w' ⟨rfl, n', rfl⟩)
      | (go_at_call 80; refine (frac_common _ _ _ _ _ hd HZ.out ((HR.out.alloc _).drewN _)).mono ?_; rintro e w' ⟨rfl, n', rfl⟩))
    go_ret
    exact ⟨rfl, below_drewN ((Below.refl _ _).alloc (Nat.le_refl _) _) _, by (first | exact Nat.le_add_right _ _ | (show w.drawn ≤ w.drawn + _; omega))⟩

theorem fracG_MayPoint1 (A : Option Addr) (n : Int) (c : Nat) (d : Int) (w : World) (hr : Rd w A c [n]) :
    Calls Tryz.prog 114 #[.agg #[.slice A 1 c, .int .i64 d]] w fun e w' => e = .returned (.bool (mayB [n] d)) ∧ Below w.heap.size w w' ∧ w.drawn ≤ w'.drawn 
    := fracG_MayPoint A [n] c d w hr

theorem fracG_May (a b : Int) (w : World) :
    Calls Tryz.prog 102 #[.agg #[.int .i64 a, .int .i64 b]] w fun e w' => e = .returned (.bool (mayB [a] b)) ∧ Below w.heap.size w w' ∧ w.drawn ≤ w'.drawn := by
  go_enter Tryz.func102, Tryz.ntmps102
  go_wp2_with (go_at_call 114; refine (fracG_MayPoint1 _ _ _ _ _ (by exact Rd.new1 _ _ _ _ (by simp))).mono ?_; rintro e w' ⟨rfl, hb, hdr⟩)
  go_ret
  exact ⟨rfl, (((Below.refl _ _).alloc (Nat.le_refl _) _).alloc (by simp) _).trans (hb.mono (by simp; omega)), by exact hdr⟩

theorem fracG_Less (a b c d : Int) (w : World) :
    Calls Tryz.prog 62 #[.agg #[.int .i64 a, .int .i64 b], .agg #[.int .i64 c, .int .i64 d]] w fun e w' => e = .returned (.bool (lessB a b c d)) ∧ Below w.heap.size w w' ∧ w.drawn ≤ w'.drawn := by
  cases h1 : mayB [a] b with
  | false =>
    have hv : lessB a b c d = false := by simp [lessB, h1]
    rw [hv]
    clear hv
    go_enter Tryz.func62, Tryz.ntmps62
    go_wp2_with fail
    refine (fracG_May _ _ _).mono ?_
    rintro e w' ⟨rfl, hb, hd1⟩
    have HD1 := Lib.hid hd1; clear hd1
    have HB := Lib.hid hb
    clear hb
    go_wp2_with fail
    go_ret
    exact ⟨rfl, (by (repeat (any_goals (first | exact Below.refl _ _ | exact HB.out | refine below_drewN ?_ _ | refine Below.drew ?_ | refine Below.alloc ?_ ?_ _ | refine Below.setCell ?_ ?_ _ | refine Below.trans ?_ (Below.mono HB.out ?_)))); all_goals (first | omega | (simp; done) | (simp; omega) | ((try have z0 := HB.out.size); (try simp at z0); (try simp); omega))), by (first | exact HD1.out | exact Nat.le_succ_of_le HD1.out)⟩
  | true =>
    cases h2 : mayB [c] d with
    | false =>
      have hv : lessB a b c d = false := by simp [lessB, h2]
      rw [hv]
      clear hv
      go_enter Tryz.func62, Tryz.ntmps62
      go_wp2_with fail
      refine (fracG_May _ _ _).mono ?_
      rintro e w' ⟨rfl, hb, hd1⟩
      have HD1 := Lib.hid hd1; clear hd1
      have hV := (Blk.new (w.alloc (.cells #[.int .i64 a, .int .i64 b] 55)) 55 #[.int .i64 c, .int .i64 d] (w.heap.size + 1) (by simp)).below hb (by simp)
      have hv0 : w'.cell? ⟨w.heap.size + 1, 0, none⟩ = some (.int .i64 c) := hV.cell 0
      have hv1 : w'.cell? ⟨w.heap.size + 1, 1, none⟩ = some (.int .i64 d) := hV.cell 1
      have HB := Lib.hid hb
      clear hb hV
      go_wp2_with fail
      refine (fracG_May _ _ _).mono ?_
      rintro e w2 ⟨rfl, hb, hd2⟩
      have HD2 := Lib.hid hd2; clear hd2
      have HB2 := Lib.hid hb
      clear hb
      go_wp2_with fail
      go_ret
      exact ⟨rfl, (by (repeat (any_goals (first | exact Below.refl _ _ | exact HB.out | exact HB2.out | refine below_drewN ?_ _ | refine Below.drew ?_ | refine Below.alloc ?_ ?_ _ | refine Below.setCell ?_ ?_ _ | refine Below.trans ?_ (Below.mono HB.out ?_) | refine Below.trans ?_ (Below.mono HB2.out ?_)))); all_goals (first | omega | (simp; done) | (simp; omega) | ((try have z0 := HB.out.size); (try simp at z0); (try have z1 := HB2.out.size); (try simp at z1); (try simp); omega))), by (first | exact Nat.le_trans HD1.out HD2.out | exact Nat.le_succ_of_le (Nat.le_trans HD1.out HD2.out))⟩
    | true =>
      have ha : -1073741824 ≤ a ∧ a ≤ 1073741824 ∧ 1 ≤ b ∧ b ≤ 1073741824 := by
        simp [mayB, rightB, smallB] at h1; omega
      have hc : -1073741824 ≤ c ∧ c ≤ 1073741824 ∧ 1 ≤ d ∧ d ≤ 1073741824 := by
        simp [mayB, rightB, smallB] at h2; omega
      have hv : lessB a b c d = decide (a * d < c * b) := by simp [lessB, h1, h2]
      rw [hv]
      clear hv
      obtain ⟨hm1, hm2⟩ := mul_bound a d 1073741824 1073741824 (by omega) (by omega) (by omega) (by omega)
      obtain ⟨hm3, hm4⟩ := mul_bound c b 1073741824 1073741824 (by omega) (by omega) (by omega) (by omega)
      go_enter Tryz.func62, Tryz.ntmps62
      go_wp2_with fail
      refine (fracG_May _ _ _).mono ?_
      rintro e w' ⟨rfl, hb, hd1⟩
      have HD1 := Lib.hid hd1; clear hd1
      have hV := (Blk.new (w.alloc (.cells #[.int .i64 a, .int .i64 b] 55)) 55 #[.int .i64 c, .int .i64 d] (w.heap.size + 1) (by simp)).below hb (by simp)
      have hU := ((Blk.new w 55 #[.int .i64 a, .int .i64 b] _ rfl).alloc (.cells #[.int .i64 c, .int .i64 d] 55)).below hb (by simp; omega)
      have hv0 : w'.cell? ⟨w.heap.size + 1, 0, none⟩ = some (.int .i64 c) := hV.cell 0
      have hv1 : w'.cell? ⟨w.heap.size + 1, 1, none⟩ = some (.int .i64 d) := hV.cell 1
      have HB := Lib.hid hb
      have HV := Lib.hid hV
      have HU := Lib.hid hU
      clear hb hV hU
      go_wp2_with fail
      refine (fracG_May _ _ _).mono ?_
      rintro e w2 ⟨rfl, hb, hd2⟩
      have HD2 := Lib.hid hd2; clear hd2
      have hV := HV.out.below hb HV.out.lt
      have hU := HU.out.below hb HU.out.lt
      have hx0 : w2.cell? ⟨w.heap.size + 1, 0, none⟩ = some (.int .i64 c) := hV.cell 0
      have hx1 : w2.cell? ⟨w.heap.size + 1, 1, none⟩ = some (.int .i64 d) := hV.cell 1
      have hx2 : w2.cell? ⟨w.heap.size, 0, none⟩ = some (.int .i64 a) := hU.cell 0
      have hx3 : w2.cell? ⟨w.heap.size, 1, none⟩ = some (.int .i64 b) := hU.cell 1
      have HB2 := Lib.hid hb
      clear hb hV hU hv0 hv1
      go_wp2_with fail
      go_ret
      exact ⟨rfl, (by (repeat (any_goals (first | exact Below.refl _ _ | exact HB.out | exact HB2.out | refine below_drewN ?_ _ | refine Below.drew ?_ | refine Below.alloc ?_ ?_ _ | refine Below.setCell ?_ ?_ _ | refine Below.trans ?_ (Below.mono HB.out ?_) | refine Below.trans ?_ (Below.mono HB2.out ?_)))); all_goals (first | omega | (simp; done) | (simp; omega) | ((try have z0 := HB.out.size); (try simp at z0); (try have z1 := HB2.out.size); (try simp at z1); (try simp); omega))), by (first | exact Nat.le_trans HD1.out HD2.out | exact Nat.le_succ_of_le (Nat.le_trans HD1.out HD2.out))⟩
end Go.Proofs.YtjcdkbalhleeeaaGreatDoor

namespace Go.Proofs.YtjcdkbalhleeeaaGreatDoor
open Go.RowKit

/-- The comparison. -/
def cmpP (x y : PC) : Int := if x.fr.op || (!y.fr.op && lessB x.fr.n x.fr.d y.fr.n y.fr.d) then -1 else 1
set_option maxRecDepth 100000 in
theorem sweep_cmp (x y : PC) (w : World) :
    Calls Tryz.prog 61 #[.agg (pcC x).toArray, .agg (pcC y).toArray] w fun e w' => e = .returned (.int .i64 (cmpP x y)) ∧ Below w.heap.size w w' ∧ w.drawn ≤ w'.drawn := by
  obtain ⟨q, hq⟩ : ∃ q, lessB x.fr.n x.fr.d y.fr.n y.fr.d = q := ⟨_, rfl⟩
  have HLS := Lib.hid (fun w1 => by have := fracG_Less x.fr.n x.fr.d y.fr.n y.fr.d w1; rw [hq] at this; exact this)
  have hu : cmpP x y = if x.fr.op || (!y.fr.op && q) then -1 else 1 := by simp [cmpP, hq]
  obtain ⟨R, hR⟩ : ∃ R, cmpP x y = R := ⟨_, rfl⟩
  rw [hR] at hu ⊢
  have HU := Lib.hid hu
  clear hu hq hR
  unfold pcC
  go_enter Tryz.func61, Tryz.ntmps61
  go_upto_region 1 with fail
  obtain ⟨V1, hV1⟩ : ∃ V1, w.alloc (.cells #[.bool x.fr.op, .int .i64 x.fr.n, .int .i64 x.fr.d, .bool x.to.op, .int .i64 x.to.n, .int .i64 x.to.d, .int .i64 x.bn, .int .i64 x.bd, .int .i64 x.sn, .int .i64 x.sd] 79) = V1 := ⟨_, rfl⟩
  have b0 : Blk V1 w.heap.size 79 _ := hV1 ▸ Blk.mk' w _ _
  have z1 : V1.heap.size = w.heap.size + 1 := by rw [← hV1]; simp
  have k1 : Below w.heap.size w V1 := by rw [← hV1]; exact (Below.refl _ w).alloc (Nat.le_refl _) _
  have d1 : V1.drawn = w.drawn := by rw [← hV1]; rfl
  rw [hV1]
  clear hV1
  obtain ⟨V, hV⟩ : ∃ V, V1.alloc (.cells #[.bool y.fr.op, .int .i64 y.fr.n, .int .i64 y.fr.d, .bool y.to.op, .int .i64 y.to.n, .int .i64 y.to.d, .int .i64 y.bn, .int .i64 y.bd, .int .i64 y.sn, .int .i64 y.sd] 79) = V := ⟨_, rfl⟩
  have B0 := Lib.hid (show Blk V w.heap.size 79 _ from hV ▸ b0.alloc _)
  have B1 := Lib.hid (show Blk V (w.heap.size + 1) 79 _ from by rw [← z1]; exact hV ▸ Blk.mk' V1 _ _)
  have HB := Lib.hid (show Below w.heap.size w V by rw [← hV]; exact k1.alloc (by omega) _)
  have HD := Lib.hid (show V.drawn = w.drawn by rw [← hV]; exact d1)
  rw [hV]
  clear hV b0 z1 k1 d1
  have a0 : V.cell? ⟨w.heap.size, 0, none⟩ = some (.bool x.fr.op) := (B0.out).cell 0
  have a1 : V.cell? ⟨w.heap.size, 1, none⟩ = some (.int .i64 x.fr.n) := (B0.out).cell 1
  have a2 : V.cell? ⟨w.heap.size, 2, none⟩ = some (.int .i64 x.fr.d) := (B0.out).cell 2
  have c0 : V.cell? ⟨w.heap.size + 1, 0, none⟩ = some (.bool y.fr.op) := (B1.out).cell 0
  have c1 : V.cell? ⟨w.heap.size + 1, 1, none⟩ = some (.int .i64 y.fr.n) := (B1.out).cell 1
  have c2 : V.cell? ⟨w.heap.size + 1, 2, none⟩ = some (.int .i64 y.fr.d) := (B1.out).cell 2
  clear V1
  cases hx : x.fr.op
  · rw [hx] at a0
    cases hy : y.fr.op
    · rw [hy] at c0
      have HXY := Lib.hid (And.intro hx hy)
      clear hx hy
      go_wp2_with fail
      refine (HLS.out _).mono ?_
      rintro e w1 ⟨rfl, hb1, hd1⟩
      have HB1 := Lib.hid (HB.out.trans (hb1.mono HB.out.size))
      have HD1 := Lib.hid (show w.drawn ≤ w1.drawn by have := HD.out; omega)
      clear hb1 hd1
      cases q
      · go_wp2_with fail
        go_ret
        exact ⟨by rw [HU.out, HXY.out.1, HXY.out.2]; rfl, (by (repeat (any_goals (first | exact Below.refl _ _ | exact HB1.out | refine below_drewN ?_ _ | refine Below.drew ?_ | refine Below.alloc ?_ ?_ _ | refine Below.setCell ?_ ?_ _ | refine Below.trans ?_ (Below.mono HB1.out ?_)))); all_goals (first | omega | (simp; done) | (simp; omega) | ((try have z0 := HB1.out.size); (try simp at z0); (try simp); omega))), by (first | exact HD1.out | exact Nat.le_succ_of_le HD1.out)⟩
      · go_wp2_with fail
        go_ret
        exact ⟨by rw [HU.out, HXY.out.1, HXY.out.2]; rfl, (by (repeat (any_goals (first | exact Below.refl _ _ | exact HB1.out | refine below_drewN ?_ _ | refine Below.drew ?_ | refine Below.alloc ?_ ?_ _ | refine Below.setCell ?_ ?_ _ | refine Below.trans ?_ (Below.mono HB1.out ?_)))); all_goals (first | omega | (simp; done) | (simp; omega) | ((try have z0 := HB1.out.size); (try simp at z0); (try simp); omega))), by (first | exact HD1.out | exact Nat.le_succ_of_le HD1.out)⟩
    · rw [hy] at c0
      have HXY := Lib.hid (And.intro hx hy)
      clear hx hy
      go_wp2_with fail
      go_ret
      exact ⟨by rw [HU.out, HXY.out.1, HXY.out.2]; rfl, (by (repeat (any_goals (first | exact Below.refl _ _ | exact HB.out | refine below_drewN ?_ _ | refine Below.drew ?_ | refine Below.alloc ?_ ?_ _ | refine Below.setCell ?_ ?_ _ | refine Below.trans ?_ (Below.mono HB.out ?_)))); all_goals (first | omega | (simp; done) | (simp; omega) | ((try have z0 := HB.out.size); (try simp at z0); (try simp); omega))), by (first | exact Nat.le_of_eq HD.out.symm | exact Nat.le_succ_of_le (Nat.le_of_eq HD.out.symm))⟩
  · rw [hx] at a0
    have HXY := Lib.hid hx
    clear hx
    go_wp2_with fail
    go_ret
    exact ⟨by rw [HU.out, HXY.out]; rfl, (by (repeat (any_goals (first | exact Below.refl _ _ | exact HB.out | refine below_drewN ?_ _ | refine Below.drew ?_ | refine Below.alloc ?_ ?_ _ | refine Below.setCell ?_ ?_ _ | refine Below.trans ?_ (Below.mono HB.out ?_)))); all_goals (first | omega | (simp; done) | (simp; omega) | ((try have z0 := HB.out.size); (try simp at z0); (try simp); omega))), by (first | exact Nat.le_of_eq HD.out.symm | exact Nat.le_succ_of_le (Nat.le_of_eq HD.out.symm))⟩
end Go.Proofs.YtjcdkbalhleeeaaGreatDoor

namespace Go.Proofs
open Go.Shelf Go.RowKit Go.Lib
def Tryz.con8_ren : Go.Shelf.Ren := ⟨fun | 8 => 53 | 6 => 86 | n => n, fun | 22 => 25 | 23 => 2 | 25 => 125 | 4 => 4 | 3 => 3 | 0 => 0 | n => n, fun | n => n⟩
theorem Tryz.con8 : SlLaysH.n8 Tryz.prog Tryz.con8_ren := {
  mixed := by kernel_rfl
  f6 := ⟨Tryz.f86.name, by decide, Tryz.func86.trans (congrArg some (by kernel_rfl))⟩
  f8 := ⟨Tryz.f53.name, by decide, Tryz.func53.trans (congrArg some (by kernel_rfl))⟩
  t0 := Tryz.underlying0
  a0 := Tryz.isAgg0
  z0 := Tryz.sizeOf0
  v0 := Tryz.zeroValue0
  t3 := Tryz.underlying3
  a3 := Tryz.isAgg3
  z3 := Tryz.sizeOf3
  v3 := Tryz.zeroValue3
  t4 := Tryz.underlying4
  a4 := Tryz.isAgg4
  z4 := Tryz.sizeOf4
  v4 := Tryz.zeroValue4
  t22 := Tryz.underlying25
  a22 := Tryz.isAgg25
  z22 := Tryz.sizeOf25
  v22 := Tryz.zeroValue25
  a23 := Tryz.isAgg2
  z23 := Tryz.sizeOf2
  t25 := Tryz.underlying125
  a25 := Tryz.isAgg125
  z25 := Tryz.sizeOf125
  v25 := Tryz.zeroValue125
  }
def Tryz.sort6_ren : Go.Shelf.Ren := ⟨fun | 6 => 60 | 15 => 101 | 14 => 100 | 28 => 136 | 29 => 137 | 20 => 128 | 21 => 129 | 22 => 130 | 23 => 131 | 24 => 132 | 25 => 133 | 26 => 134 | 27 => 135 | 46 => 165 | 47 => 166 | 48 => 167 | 49 => 168 | 50 => 169 | 57 => 182 | n => n, fun | 22 => 73 | 24 => 79 | 25 => 139 | 3 => 3 | 39 => 166 | 0 => 0 | 53 => 197 | 55 => 178 | 4 => 4 | 46 => 190 | 45 => 189 | 50 => 194 | 5 => 5 | 9 => 9 | 66 => 221 | 70 => 225 | 76 => 239 | 77 => 240 | n => n, fun | n => n⟩
theorem Tryz.sort6 : SlLaysF0.n6 Tryz.prog Tryz.sort6_ren := {
  mixed := by kernel_rfl
  f6 := ⟨Tryz.f60.name, by decide, Tryz.func60.trans (congrArg some (by kernel_rfl))⟩
  f14 := ⟨Tryz.f100.name, by decide, Tryz.func100.trans (congrArg some (by kernel_rfl))⟩
  f15 := Tryz.func101.trans (congrArg some (by kernel_rfl))
  f20 := ⟨Tryz.f128.name, by decide, Tryz.func128.trans (congrArg some (by kernel_rfl))⟩
  f21 := ⟨Tryz.f129.name, by decide, Tryz.func129.trans (congrArg some (by kernel_rfl))⟩
  f22 := ⟨Tryz.f130.name, by decide, Tryz.func130.trans (congrArg some (by kernel_rfl))⟩
  f23 := ⟨Tryz.f131.name, by decide, Tryz.func131.trans (congrArg some (by kernel_rfl))⟩
  f24 := ⟨Tryz.f132.name, by decide, Tryz.func132.trans (congrArg some (by kernel_rfl))⟩
  f25 := ⟨Tryz.f133.name, by decide, Tryz.func133.trans (congrArg some (by kernel_rfl))⟩
  f26 := ⟨Tryz.f134.name, by decide, Tryz.func134.trans (congrArg some (by kernel_rfl))⟩
  f27 := ⟨Tryz.f135.name, by decide, Tryz.func135.trans (congrArg some (by kernel_rfl))⟩
  f28 := Tryz.func136.trans (congrArg some (by kernel_rfl))
  f29 := Tryz.func137.trans (congrArg some (by kernel_rfl))
  f46 := ⟨Tryz.f165.name, by decide, Tryz.func165.trans (congrArg some (by kernel_rfl))⟩
  f47 := Tryz.func166.trans (congrArg some (by kernel_rfl))
  f48 := Tryz.func167.trans (congrArg some (by kernel_rfl))
  f49 := ⟨Tryz.f168.name, by decide, Tryz.func168.trans (congrArg some (by kernel_rfl))⟩
  f50 := ⟨Tryz.f169.name, by decide, Tryz.func169.trans (congrArg some (by kernel_rfl))⟩
  f57 := ⟨Tryz.f182.name, by decide, Tryz.func182.trans (congrArg some (by kernel_rfl))⟩
  t0 := Tryz.underlying0
  a0 := Tryz.isAgg0
  z0 := Tryz.sizeOf0
  v0 := Tryz.zeroValue0
  t3 := Tryz.underlying3
  a3 := Tryz.isAgg3
  z3 := Tryz.sizeOf3
  v3 := Tryz.zeroValue3
  t4 := Tryz.underlying4
  a4 := Tryz.isAgg4
  z4 := Tryz.sizeOf4
  v4 := Tryz.zeroValue4
  t5 := Tryz.underlying5
  a5 := Tryz.isAgg5
  z5 := Tryz.sizeOf5
  v5 := Tryz.zeroValue5
  t9 := Tryz.underlying9
  a9 := Tryz.isAgg9
  z9 := Tryz.sizeOf9
  v9 := Tryz.zeroValue9
  t22 := Tryz.underlying73
  a22 := Tryz.isAgg73
  z22 := Tryz.sizeOf73
  v22 := Tryz.zeroValue73
  t25 := Tryz.underlying139
  a25 := Tryz.isAgg139
  z25 := Tryz.sizeOf139
  v25 := Tryz.zeroValue139
  t39 := Tryz.underlying166
  a39 := Tryz.isAgg166
  z39 := Tryz.sizeOf166
  v39 := Tryz.zeroValue166
  t45 := Tryz.underlying189
  a45 := Tryz.isAgg189
  z45 := Tryz.sizeOf189
  v45 := Tryz.zeroValue189
  t46 := Tryz.underlying190
  a46 := Tryz.isAgg190
  z46 := Tryz.sizeOf190
  v46 := Tryz.zeroValue190
  t50 := Tryz.underlying194
  a50 := Tryz.isAgg194
  z50 := Tryz.sizeOf194
  v50 := Tryz.zeroValue194
  t53 := Tryz.underlying197
  a53 := Tryz.isAgg197
  z53 := Tryz.sizeOf197
  v53 := Tryz.zeroValue197
  t55 := Tryz.underlying178
  a55 := Tryz.isAgg178
  z55 := Tryz.sizeOf178
  v55 := Tryz.zeroValue178
  t66 := Tryz.underlying221
  a66 := Tryz.isAgg221
  z66 := Tryz.sizeOf221
  v66 := Tryz.zeroValue221
  t70 := Tryz.underlying225
  a70 := Tryz.isAgg225
  z70 := Tryz.sizeOf225
  v70 := Tryz.zeroValue225
  t76 := Tryz.underlying239
  a76 := Tryz.isAgg239
  z76 := Tryz.sizeOf239
  v76 := Tryz.zeroValue239
  t77 := Tryz.underlying240
  a77 := Tryz.isAgg240
  z77 := Tryz.sizeOf240
  v77 := Tryz.zeroValue240
  }
end Go.Proofs

namespace Go.Proofs.YtjcdkbalhleeeaaGreatDoor
open Go.Shelf Go.RowKit Go.Lib Go.Sort

theorem cmp_bef {x y : PC} (hx : EFine x.fr) (hy : EFine y.fr) : cmpP x y < 0 ↔ befE x.fr y.fr = true := by
  unfold cmpP befE
  cases h1 : x.fr.op with
  | true => simp
  | false =>
    cases h2 : y.fr.op with
    | true => simp
    | false =>
      have e : lessB x.fr.n x.fr.d y.fr.n y.fr.d = decide (cmpZ x.fr.n x.fr.d y.fr.n y.fr.d < 0) := by
        unfold lessB cmpZ
        rw [fine_may hx h1, fine_may hy h2, Bool.true_and, Bool.true_and, decide_eq_decide]
        omega
      rw [e]
      simp
      split <;> simp_all
/-- What is asked of the pieces. -/
structure Sortable (L : List PC) : Prop where
  nd : L.Nodup
  tot : ∀ x ∈ L, ∀ y ∈ L, x ≠ y → befE x.fr y.fr = !befE y.fr x.fr
  tr : ∀ x ∈ L, ∀ y ∈ L, ∀ z ∈ L, befE x.fr y.fr = true → befE y.fr z.fr = true → befE x.fr z.fr = true ∨ (x.fr.op = true ∧ y.fr.op = true)
  fine : ∀ x ∈ L, EFine x.fr
section
variable {L : List PC}
def ltS (x y : {x : PC // x ∈ L}) : Bool := !decide (x.1 = y.1) && befE x.1.fr y.1.fr
theorem ltS_swo (h : Sortable L) : SWO (ltS (L := L)) := by
  have key : ∀ x y z : {x : PC // x ∈ L}, ltS x y = true → ltS y z = true → ltS x z = true := by
    rintro ⟨x, hx⟩ ⟨y, hy⟩ ⟨z, hz⟩ h1 h2
    simp only [ltS, Bool.and_eq_true, Bool.not_eq_true', decide_eq_false_iff_not] at h1 h2 ⊢
    have t := h.tot x hx y hy h1.1
    have t2 : befE x.fr z.fr = true := by
      rcases h.tr x hx y hy z hz h1.2 h2.2 with q | ⟨q1, q2⟩
      · exact q
      · rw [h1.2] at t
        have : befE y.fr x.fr = true := by unfold befE; rw [q2]; simp
        rw [this] at t; cases t
    refine ⟨fun e => ?_, t2⟩
    subst e
    rw [h1.2, h2.2] at t
    cases t
  have tot : ∀ x y : {x : PC // x ∈ L}, x.1 ≠ y.1 → ltS x y = false → ltS y x = true := by
    rintro ⟨x, hx⟩ ⟨y, hy⟩ hne h1
    have t := h.tot x hx y hy hne
    simp only [ltS, Bool.and_eq_false_iff, Bool.not_eq_false', decide_eq_true_eq, Bool.and_eq_true, Bool.not_eq_true', decide_eq_false_iff_not] at h1 ⊢
    rcases h1 with q | q
    · exact absurd q hne
    · rw [q] at t
      exact ⟨fun e => hne e.symm, by simpa using t.symm⟩
  refine ⟨fun x => by simp [ltS], key, ?_⟩
  intro x y z h1 h2
  by_cases e1 : x.1 = y.1
  · have : x = y := Subtype.ext e1
    rw [this]; exact h2
  by_cases e2 : y.1 = z.1
  · have : y = z := Subtype.ext e2
    rw [← this]; exact h1
  have k := key z y x (tot y z e2 h2) (tot x y e1 h1)
  cases hxz : ltS x z with
  | false => rfl
  | true =>
    have := key z x z k hxz
    simp [ltS] at this
theorem ltS_alike (h : Sortable L) : Alike (ltOf fun x y : {x : PC // x ∈ L} => cmpP x.1 y.1) ltS := by
  intro x y hne
  have h1 : x.1 ≠ y.1 := fun e => hne (Subtype.ext e)
  unfold ltOf ltS
  simp only [h1, decide_false, Bool.not_false, Bool.true_and]
  have := cmp_bef (h.fine _ x.2) (h.fine _ y.2)
  cases hb : befE x.1.fr y.1.fr with
  | true => exact decide_eq_true (this.2 hb)
  | false => exact decide_eq_false fun q => by rw [this.1 q] at hb; cases hb
theorem attach_fine [Inhabited {x : PC // x ∈ L}] (h : Sortable L) : Fine ltS (L.attach.toArray) := by
  unfold Fine
  have hn : L.attach.Pairwise (fun x y => x ≠ y) := by
    have := h.nd
    rw [← List.attach_map_subtype_val L, List.Nodup, List.pairwise_map] at this
    exact this.imp fun q e => q (by rw [e])
  refine hn.imp fun {x y} hne => ⟨hne, ?_⟩
  have h1 : x.1 ≠ y.1 := fun e => hne (Subtype.ext e)
  have t := h.tot x.1 x.2 y.1 y.2 h1
  unfold ltS
  simp only [h1, Ne.symm h1, decide_false, Bool.not_false, Bool.true_and]
  cases hb : befE x.1.fr y.1.fr with
  | true => exact .inl rfl
  | false => rw [hb] at t; right; simpa using t.symm
end
theorem PcOwn.frozen {w : World} {base g n cap : Nat} {L : List PC} (h : PcOwn w base (.slice (some ⟨g, 0, none⟩) n cap) L) (j : Nat) : w.frozen? ⟨g, j, none⟩ = false := by
  rcases h.2 with ⟨e, _⟩ | ⟨g', cap', cur, e, h1, h2, _⟩
  · cases e
  · injection e with e1 e2 e3
    injection e1 with e1
    injection e1 with e1
    subst e1
    simp [World.frozen?, h2]
theorem pcs_sort (base g cap : Nat) (L : List PC) (w : World) (hS : Sortable L) (h0 : 0 < L.length) (hs : L.length ≤ 100000) (hown : PcOwn w base (.slice (some ⟨g, 0, none⟩) L.length cap) L) :
    Calls Tryz.prog 60 #[.slice (some ⟨g, 0, none⟩) L.length cap, .func (.func 61) #[] #[]] w fun e w' =>
      e = .returned (.tuple #[]) ∧ ∃ l : List PC, l.Perm L ∧ l.Pairwise RB ∧ w.grownBy w' (some g) ∧ ∀ (i : Nat) (hi : i < l.length), PcAt w' g i l[i] := by
  haveI : Inhabited {x : PC // x ∈ L} := ⟨⟨L[0], List.getElem_mem h0⟩⟩
  obtain ⟨g', cap', e, _, hlt, _, _, hcells⟩ := hown.some' h0
  injection e with e1 e2 e3
  injection e1 with e1
  injection e1 with e1
  subst e1
  obtain ⟨d0, hd0⟩ : ∃ d0 : Array {x : PC // x ∈ L}, d0 = L.attach.toArray := ⟨_, rfl⟩
  have hsz : d0.size = L.length := by rw [hd0]; simp
  have hat : ∀ i (hi : i < L.length), (d0[i]!).1 = L[i] := by
    intro i hi
    rw [getElem!_pos d0 i (by omega)]
    subst hd0
    simp
  have hF : Fine ltS d0 := by rw [hd0]; exact attach_fine hS
  have hk : ∀ x : {x : PC // x ∈ L}, (pcC x.1).length = 10 := fun x => rfl
  have hH : HoldsK (fun x : {x : PC // x ∈ L} => pcC x.1) 10 w g 0 d0 := by
    intro j hj
    have hj' : j < d0.size * 10 := by simpa using hj
    have hq : j / 10 < L.length := by omega
    refine ⟨?_, hown.frozen _⟩
    rw [get_flatK _ _ _ _ hj', hat _ hq]
    have hm : j % 10 < (pcC L[j / 10]).length := by rw [show (pcC L[j / 10]).length = 10 from rfl]; omega
    have := hcells (j / 10) hq (j % 10) ((pcC L[j / 10])[j % 10]) (by rw [List.getElem?_eq_getElem hm])
    rw [getElem!_pos (pcC L[j / 10]) (j % 10) hm, Nat.zero_add]
    rw [show j / 10 * 10 + j % 10 = j by omega] at this
    exact this
  have C : Cx Tryz.prog Tryz.sort6_ren (fun x : {x : PC // x ∈ L} => pcC x.1) 10 (fun x y => cmpP x.1 y.1) 61 #[] g 0 L.length d0 w := {
    aE := Tryz.isAgg79
    zE := Tryz.sizeOf79
    eg := enters_of Tryz.func61 (by kernel_rfl) rfl
    hcmp := fun m os dk hdk x y => (sweep_cmp x.1 y.1 _).mono fun e w' h => ⟨h.1, gr_of h.2.1 h.2.2⟩
    R := ⟨hk, fun x v hv => by
      simp [pcC] at hv
      rcases hv with rfl | rfl | rfl | rfl | rfl | rfl | rfl | rfl | rfl | rfl <;> rfl, hH, hlt⟩
    hn := hsz
    hsz := by omega }
  refine (srt_sort Tryz.sort6 C (ltS_swo hS) (ltS_alike hS) cap hF).mono ?_
  rintro e w' ⟨rfl, d', hsw, hpe, hso⟩
  have hz' : d'.size = L.length := hpe.1.trans hsz
  have hpl := perm_all hpe (Nat.zero_le _) (by omega)
  have hF' : Fine ltS d' := hF.perm hpe (Nat.zero_le _) (by omega)
  have hlen : (d'.toList.map (·.1)).length = L.length := by simp [hz']
  have hget : ∀ i (hi : i < (d'.toList.map (·.1)).length), (d'.toList.map (·.1))[i] = (d'[i]!).1 := by
    intro i hi
    rw [getElem!_pos d' i (by omega)]
    simp
  refine ⟨rfl, d'.toList.map (·.1), ?_, ?_, ?_, ?_⟩
  · have := hpl.map (·.1)
    rw [hd0] at this
    simpa using this
  · rw [List.pairwise_iff_getElem]
    intro i j hi hj hij
    rw [hget i hi, hget j hj]
    have h1 := hso i j (Nat.zero_le _) hij (by omega)
    have h2 := hF'.tot (i := i) (j := j) (by omega) (by omega) (by omega)
    have h3 : ltS d'[i]! d'[j]! = true := by
      rcases h2 with q | q
      · exact q
      · rw [h1] at q; cases q
    simp only [ltS, Bool.and_eq_true] at h3
    exact h3.2
  · obtain ⟨m, os, rfl⟩ := hsw
    refine ⟨rfl, rfl, rfl, by unfold sortWorldK; rw [size_grow, size_putRowK]; show w.heap.size ≤ w.heap.size + _; omega, fun k hk hne => ?_⟩
    unfold sortWorldK
    rw [heap_grow_old _ _ (by rw [size_putRowK]; exact hk)]
    have : g ≠ k := fun e => hne (by rw [e])
    simp [putRowK, putRow, mapBlock, Sort.ahead, Array.getElem?_modify, this]
  · intro i hi
    have hH' := hsw.holds hlt hH (hz'.trans hsz.symm)
    have hi' : i < d'.size := by omega
    rw [hget i hi]
    have cell : ∀ c, c < 10 → w'.cell? ⟨g, i * 10 + c, none⟩ = some (pcC (d'[i]!).1)[c]! := fun c hc => by
      have := (HoldsK.cell hH' hi' hc).1
      rwa [Nat.zero_add] at this
    exact ⟨cell 0 (by omega), cell 1 (by omega), cell 2 (by omega), cell 3 (by omega), cell 4 (by omega), cell 5 (by omega), cell 6 (by omega), cell 7 (by omega), cell 8 (by omega), cell 9 (by omega)⟩
end Go.Proofs.YtjcdkbalhleeeaaGreatDoor

namespace Go.Proofs.YtjcdkbalhleeeaaGreatDoor
open Go.Proofs Go.Shelf Go.RowKit Go.Lib

theorem sw_pred (w : World) : PredAt Tryz.prog 54 #[] (Value.int .i64) (fun x : Int => decide (x < -400) || decide (400 < x)) w := fun W x hb => by
  show Calls Tryz.prog 54 #[.int .i64 x] W _
  by_cases h1 : x < -400
  · go_enter Tryz.func54, Tryz.ntmps54
    go_wp2
    all_goals (go_ret; exact ⟨by simp_all, 0, rfl⟩)
  · by_cases h2 : 400 < x
    · go_enter Tryz.func54, Tryz.ntmps54
      go_wp2
      all_goals (go_ret; exact ⟨by simp_all, 0, rfl⟩)
    · go_enter Tryz.func54, Tryz.ntmps54
      go_wp2
      all_goals (go_ret; exact ⟨by simp_all, 0, rfl⟩)
theorem any_small (b : List Int) : (b.any fun x => decide (x < -400) || decide (400 < x)) = !smallB 400 b := by
  unfold smallB
  induction b with
  | nil => rfl
  | cons x l ih =>
    rw [List.any_cons, List.all_cons, ih, Bool.not_and, Bool.not_and]
    congr 1
    by_cases h1 : x < -400 <;> by_cases h2 : 400 < x <;> simp [h1, h2] <;> omega
theorem con_small (B : Option Addr) (b : List Int) (cb : Nat) (w : World) (hb : Rd w B cb b) :
    Calls Tryz.prog 53 #[.slice B b.length cb, .func (.func 54) #[] #[]] w fun e w' => e = .returned (.bool (!smallB 400 b)) ∧ Below w.heap.size w w' := by
  have eg : ∀ args w, (callFunc 54 args).run Tryz.prog w = .ok (.enter 54 args) w := enters_of Tryz.func54 (by kernel_rfl) rfl
  by_cases h0 : 0 < b.length
  · obtain ⟨g, off, rfl, hc⟩ := hb.plain h0
    have := AnyE.slices_ContainsFunc Tryz.con8 (Value.int .i64) (fun x : Int => decide (x < -400) || decide (400 < x)) 54 #[] eg g off b.length cb b w (sw_pred w) (Nat.le_refl _) (by have := hb.small; omega) (fun j hj => by rw [hc j hj]; simp [List.getD, List.getElem?_eq_getElem hj])
    rw [List.take_length, any_small] at this
    refine this.mono ?_
    rintro e w' ⟨rfl, q, rfl⟩
    exact ⟨rfl, below_drewN (Below.refl _ _) _⟩
  · have hb0 : b = [] := List.eq_nil_of_length_eq_zero (by omega)
    subst hb0
    refine (AnyE.slices_ContainsFunc_empty Tryz.con8 B cb _ w).mono ?_
    rintro e w' ⟨rfl, rfl⟩
    exact ⟨rfl, Below.refl _ _⟩
/-- The error, and the pieces. -/
def swpE (p : PG) (b : List Int) : Int := if mayPB p = false then 2 else if manyB b p.costs.length 400 = false then 1 else if ((cornersZ p).any fun l => nonneg (lookN p l).xs) = false then 4 else 0
def swpL (p : PG) (b : List Int) : List PC := if swpE p b = 0 then ansP (grpF undP ovrP p b (cornersZ p)) else []
/-- A slice of pieces reads. -/
def PcRd (w : World) (base : Nat) (v : Value) (L : List PC) : Prop :=
  (L = [] ∧ ∃ A c, v = .slice A 0 c) ∨ (0 < L.length ∧ ∃ g cap, v = .slice (some ⟨g, 0, none⟩) L.length cap ∧ base ≤ g ∧ g < w.heap.size ∧ L.length ≤ cap ∧ cap ≤ 9223372036854775807 ∧ ∀ (i : Nat) (hi : i < L.length), PcAt w g i L[i])
theorem PcOwn.rd {w : World} {base : Nat} {v : Value} {L : List PC} (h : PcOwn w base v L) : PcRd w base v L := by
  by_cases h0 : 0 < L.length
  · right
    obtain ⟨g, cap, e, h1, h2, h3, h4, hc⟩ := h.some' h0
    refine ⟨h0, g, cap, e, h1, h2, h3, h4, fun i hi => ?_⟩
    have hc' := hc i hi
    exact ⟨hc' 0 _ rfl, hc' 1 _ rfl, hc' 2 _ rfl, hc' 3 _ rfl, hc' 4 _ rfl, hc' 5 _ rfl, hc' 6 _ rfl, hc' 7 _ rfl, hc' 8 _ rfl, hc' 9 _ rfl⟩
  · left
    have hL : L = [] := List.eq_nil_of_length_eq_zero (by omega)
    subst hL
    refine ⟨rfl, ?_⟩
    rcases h.2 with ⟨e, _⟩ | ⟨g, cap, cur, e, _⟩
    · exact ⟨_, _, e⟩
    · exact ⟨_, _, e⟩
theorem PcRd.below {w w' : World} {base : Nat} {v : Value} {L : List PC} (h : PcRd w base v L) (hb : Below w.heap.size w w') : PcRd w' base v L := by
  rcases h with h | ⟨h0, g, cap, e, h1, h2, h3, h4, hc⟩
  · exact .inl h
  · exact .inr ⟨h0, g, cap, e, h1, Nat.lt_of_lt_of_le h2 hb.size, h3, h4, fun i hi => (hc i hi).below hb⟩
theorem PcRd.mono {w : World} {base b' : Nat} {v : Value} {L : List PC} (h : PcRd w base v L) (hb : b' ≤ base) : PcRd w b' v L := by
  rcases h with h | ⟨h0, g, cap, e, h1, h2⟩
  · exact .inl h
  · exact .inr ⟨h0, g, cap, e, by omega, h2⟩
/-- The pieces and an error are handed back. -/
def RetSw (w : World) (L : List PC) (er : Int) (e : Ending) (w' : World) : Prop := ∃ v, e = .returned (.tuple #[v, .int .i64 er]) ∧ PcRd w' w.heap.size v L ∧ Below w.heap.size w w'
theorem joinG_len {lo hi : EN → EN → EN} {x : PC} : ∀ L : List PC, (joinG lo hi L x).length ≤ L.length + 1
  | [] => by simp [joinG]
  | y :: L => by
    rw [joinG]
    split
    · simp
    · have := joinG_len (lo := lo) (hi := hi) (x := x) L
      simp only [List.length_cons]; omega
theorem grpF_len {lo hi : EN → EN → EN} {p : PG} {b : List Int} : ∀ (ls : List (List Nat)), (grpF lo hi p b ls).length ≤ ls.length := by
  have key : ∀ (ls : List (List Nat)) (a : List PC), (ls.foldl (fun a l => if goodB p b l = true then joinG lo hi a (pcZ p b l) else a) a).length ≤ a.length + ls.length := by
    intro ls
    induction ls with
    | nil => intro a; simp
    | cons l ls ih =>
      intro a
      rw [List.foldl_cons]
      refine Nat.le_trans (ih _) ?_
      split
      · have := joinG_len (lo := lo) (hi := hi) (x := pcZ p b l) a
        simp only [List.length_cons]; omega
      · simp only [List.length_cons]; omega
  intro ls
  simpa [grpF] using key ls []
theorem corners_few {p : PG} (h : mayPB p = true) : (cornersZ p).length ≤ 256 := by
  obtain ⟨_, h1, _, h2, _⟩ := mayPB_iff.1 h
  unfold cornersZ
  refine Nat.le_trans (List.length_filter_le _ _) ?_
  rw [List.length_map, List.length_range]
  exact Nat.pow_le_pow_right (n := 2) (by decide) (show p.costs.length + p.rows.length ≤ 8 by omega)
theorem prog_sortable {p : PG} {b : List Int} (hb : By p b) {Q L : List PC} (hQ : Grp p b Q) (hL : L.Perm (Q.filter fun x => !pointB x)) : Sortable L := by
  have mem : ∀ x ∈ L, x ∈ Q ∧ pointB x = false := fun x hx => by
    have := hL.mem_iff.1 hx
    rw [List.mem_filter] at this
    simpa using this
  exact ⟨hL.nodup_iff.2 ((grp_nodup hQ).sublist List.filter_sublist), fun x hx y hy hne => bef_total hb hQ (mem x hx).1 (mem y hy).1 (mem x hx).2 (mem y hy).2 hne,
    fun x hx y hy z hz h1 h2 => bef_trans hb hQ (mem x hx).1 (mem y hy).1 (mem z hz).1 h1 h2, fun x hx => (grp_fine hb hQ (mem x hx).1).1⟩
theorem PcRd.kw {w w' : World} {base B : Nat} {v : Value} {L : List PC} (h : PcRd w base v L) (hk : KW B w w') : PcRd w' base v L := by
  rcases h with h | ⟨h0, g, cap, e, h1, h2, h3, h4, hc⟩
  · exact .inl h
  · exact .inr ⟨h0, g, cap, e, h1, Nat.lt_of_lt_of_le h2 hk.size, h3, h4, fun i hi => ⟨hk.cell (hc i hi).c0, hk.cell (hc i hi).c1, hk.cell (hc i hi).c2, hk.cell (hc i hi).c3, hk.cell (hc i hi).c4, hk.cell (hc i hi).c5, hk.cell (hc i hi).c6, hk.cell (hc i hi).c7, hk.cell (hc i hi).c8, hk.cell (hc i hi).c9⟩⟩
/-- Any goes among the first k. -/
def goesK (p : PG) (k : Nat) : Bool := ((cornersZ p).take k).any fun l => nonneg (lookN p l).xs
theorem goesK_succ {p : PG} {k : Nat} (hk : k < (cornersZ p).length) : goesK p (k + 1) = (goesK p k || nonneg (lookN p ((cornersZ p).getD k [])).xs) := by
  unfold goesK
  rw [List.take_succ_eq_append_getElem hk, List.any_append]
  simp [List.getD, List.getElem?_eq_getElem hk]
theorem goesK_all {p : PG} : goesK p (cornersZ p).length = (cornersZ p).any fun l => nonneg (lookN p l).xs := by unfold goesK; rw [List.take_length]
end Go.Proofs.YtjcdkbalhleeeaaGreatDoor
