/-
  Contracts of functions and plain laws that later parts of the proof use. The conditions stand in each theorem.
-/
import Derived.Test.YtjcdkbalhleeeabG16
import Derived.Test.YtjcdkbalhleeeabG08
import Derived.Test.YtjcdkbalhleeeabG13
import Derived.Test.YtjcdkbalhleeeabG05
import Derived.Test.YtjcdkbalhleeeabG10
namespace Go.Proofs.Ytjcdkbalhleeeab
open Go.RowKit

section
variable {B : Nat} {W W' : World}
theorem Blk.kw {g : Nat} {t : TypeId} {cs : Array Value} (h : Blk W g t cs) (k : KW B W W') : Blk W' g t cs := k.same _ _ h (.inr rfl)
theorem Rd.kw {A : Option Addr} {c : Nat} {l : List Int} (h : Rd W A c l) (k : KW B W W') : Rd W' A c l :=
  ⟨h.le, h.cap, h.small, fun hl => by
    obtain ⟨ad, e, hc⟩ := h.cells hl
    exact ⟨ad, e, fun j u hu => k.cell (hc j u hu)⟩⟩
theorem CnN.kw {X Y G : Option Addr} {cx cy cg : Nat} {c : CO} (h : CnN W X cx Y cy G cg c) (k : KW B W W') : CnN W' X cx Y cy G cg c := ⟨h.x.kw k, h.y.kw k, h.g.kw k⟩
end

set_option maxRecDepth 100000 in
/-- Are all columns 0 or above? -/
theorem solve_Goes (X Y G : Option Addr) (cx ny cy ng cg : Nat) (xs : List Int) (xd yd gd : Int) (w : World) (hx : Rd w X cx xs) :
    Calls Try.prog 52 #[.agg #[.slice X xs.length cx, .int .i64 xd, .slice Y ny cy, .int .i64 yd, .slice G ng cg, .int .i64 gd]] w fun e w' => e = .returned (.bool (nonneg xs)) ∧ Below w.heap.size w w' := by
  have HX := Lib.hid hx
  obtain ⟨hl, hc, hs, _⟩ := hx
  go_enter Try.func52, Try.ntmps52
  go_wp2_with fail
  have BC := Lib.hid (Blk.mk' w 42 #[.slice X xs.length cx, .int .i64 xd, .slice Y ny cy, .int .i64 yd, .slice G ng cg, .int .i64 gd])
  have HB := Lib.hid ((Below.refl w.heap.size w).alloc (Nat.le_refl _) (.cells #[.slice X xs.length cx, .int .i64 xd, .slice Y ny cy, .int .i64 yd, .slice G ng cg, .int .i64 gd] 42))
  generalize (w.alloc (.cells #[.slice X xs.length cx, .int .i64 xd, .slice Y ny cy, .int .i64 yd, .slice G ng cg, .int .i64 gd] 42)) = W at *
  go_loopw [9] (fun i wx => wx = W ∧ ∃ k : Nat, k ≤ xs.length ∧ i = .int .i64 k ∧ Hid (∀ j, j < k → 0 ≤ xs.getD j 0)) (fun i _ => xs.length - (intOf i).toNat)
  case atStart => exact ⟨rfl, 0, by omega, rfl, Lib.hid fun j hj => by omega⟩
  case round =>
    obtain ⟨rfl, k, hk, rfl, hall⟩ := hrel
    rename World => W
    by_cases hlt : k < xs.length
    · obtain ⟨ax, rfl, hcx⟩ := (HX.out.below HB.out).getD_at (k := k) hlt
      have hax := World.block_lt_of_cell? _ _ hcx
      have hi0 : (k : Int) < (xs.length : Int) := by omega
      by_cases hneg : xs.getD k 0 < 0
      · have HF := Lib.hid (show nonneg xs = false by
          rw [Bool.eq_false_iff]
          intro h
          have := nonneg_at h k
          omega)
        obtain ⟨xv, hxv⟩ : ∃ xv, xs.getD k 0 = xv := ⟨_, rfl⟩
        rw [hxv] at hcx hneg
        clear hxv hall
        go_wp2_with fail
        go_ret
        exact ⟨by rw [HF.out]; rfl, HB.out⟩
      · have HA := Lib.hid (show ∀ j, j < k + 1 → 0 ≤ xs.getD j 0 from fun j hj => by
          by_cases e : j = k
          · subst e; omega
          · exact hall.out j (by omega))
        obtain ⟨xv, hxv⟩ : ∃ xv, xs.getD k 0 = xv := ⟨_, rfl⟩
        rw [hxv] at hcx hneg
        clear hxv hall
        go_wp2_with fail
        go_roundw
        case rel => exact ⟨trivial, k + 1, by omega, by go_num, HA⟩
        case measure => simp [intOf]; omega
    · obtain rfl : k = xs.length := by omega
      have HT := Lib.hid (show nonneg xs = true from nonneg_of fun j => by
        by_cases hj : j < xs.length
        · exact hall.out j hj
        · rw [List.getD, List.getElem?_eq_none (by omega)]; simp)
      clear hall
      go_wp2_with fail
      go_ret
      exact ⟨by rw [HT.out]; rfl, HB.out⟩

/-- The iterator's value is handed back. -/
def RetC (w : World) (A : Option Addr) (c : Nat) (A2 : Option Addr) (c2 : Nat) (p : PG) (e : Ending) (w' : World) : Prop :=
  ∃ b1 b2 b3, e = .returned (.func (.func 98) #[] #[.pointer (some ⟨b1, 0, none⟩), .pointer (some ⟨b2, 0, none⟩), .pointer (some ⟨b3, 0, none⟩)]) ∧
    w.heap.size ≤ b1 ∧ w.heap.size ≤ b2 ∧ w.heap.size ≤ b3 ∧ w'.cell? ⟨b1, 0, none⟩ = some (.int .i64 p.costs.length) ∧ w'.cell? ⟨b2, 0, none⟩ = some (.int .i64 p.rows.length) ∧
    w'.cell? ⟨b3, 0, none⟩ = some (.slice A p.costs.length c) ∧ w'.cell? ⟨b3, 1, none⟩ = some (.slice A2 p.rows.length c2) ∧ Below w.heap.size w w'
theorem two_boxes (V : World) (x y : Value) (t : TypeId) : ((V.alloc (.cells #[x] t)).alloc (.cells #[y] t)).drew.cell? ⟨V.heap.size, 0, none⟩ = some x ∧ ((V.alloc (.cells #[x] t)).alloc (.cells #[y] t)).drew.cell? ⟨V.heap.size + 1, 0, none⟩ = some y ∧
    (∀ q v, V.cell? q = some v → ((V.alloc (.cells #[x] t)).alloc (.cells #[y] t)).drew.cell? q = some v) ∧ Below V.heap.size V ((V.alloc (.cells #[x] t)).alloc (.cells #[y] t)).drew := by
  have hb : Below V.heap.size V ((V.alloc (.cells #[x] t)).alloc (.cells #[y] t)).drew := (((Below.refl _ V).alloc (Nat.le_refl _) _).alloc (by simp) _).drew
  refine ⟨((Blk.mk' V t #[x]).alloc _).cell 0, ?_, fun q v hq => (hb.cell (World.block_lt_of_cell? _ _ hq)).trans hq, hb⟩
  have := Blk.mk' (V.alloc (.cells #[x] t)) t #[y]
  rw [World.size_alloc] at this
  exact this.cell 0
set_option maxRecDepth 100000 in
theorem solve_Corners (A : Option Addr) (c : Nat) (A2 : Option Addr) (c2 : Nat) (p : PG) (w : World) :
    Calls Try.prog 51 #[.agg #[.slice A p.costs.length c, .slice A2 p.rows.length c2]] w (RetC w A c A2 c2 p) := by
  unfold RetC
  generalize p.costs.length = n
  generalize p.rows.length = m
  go_enter Try.func51, Try.ntmps51
  go_upto_region 1 with fail
  have BP := Lib.hid (Blk.mk' w 25 #[.slice A n c, .slice A2 m c2])
  have HB := Lib.hid ((Below.refl w.heap.size w).alloc (Nat.le_refl _) (.cells #[.slice A n c, .slice A2 m c2] 25))
  have lV : (w.alloc (.cells #[.slice A n c, .slice A2 m c2] 25)).heap.size = w.heap.size + 1 := by simp
  have lw : w.heap.size < (w.alloc (.cells #[.slice A n c, .slice A2 m c2] 25)).heap.size := by omega
  have LV := Lib.hid lV
  clear lV
  generalize (w.alloc (.cells #[.slice A n c, .slice A2 m c2] 25)) = V at *
  have p0 : V.cell? ⟨w.heap.size, 0, none⟩ = some (.slice A n c) := BP.out.cell 0
  have p1 : V.cell? ⟨w.heap.size, 1, none⟩ = some (.slice A2 m c2) := BP.out.cell 1
  go_region
  all_goals go_wp2_with fail
  all_goals go_ret
  · obtain ⟨k1, k2, k3, k4⟩ := two_boxes V (.int .i64 n) (.int .i64 m) 3
    exact ⟨_, _, _, rfl, by omega, by omega, Nat.le_refl _, k1, k2, k3 _ _ p0, k3 _ _ p1, HB.out.trans (k4.mono (by omega))⟩
  · obtain ⟨k1, k2, k3, k4⟩ := two_boxes V (.int .i64 m) (.int .i64 n) 3
    exact ⟨_, _, _, rfl, by omega, by omega, Nat.le_refl _, k2, k1, k3 _ _ p0, k3 _ _ p1, HB.out.trans (k4.mono (by omega))⟩

/-- A corner's columns are handed back, or none. -/
def RetBg (w : World) (p : PG) (e : Ending) (w' : World) : Prop :=
  Below w.heap.size w w' ∧ (begZ p = none → e = .returned (.slice none 0 0)) ∧ ∀ l, begZ p = some l → ∃ L cl, e = .returned (.slice L l.length cl) ∧ Rd w' L cl (ints l)
theorem beg_at {p : PG} {k : Nat} (hk : k < (cornersZ p).length) (hg : nonneg (lookN p ((cornersZ p).getD k [])).xs = true) (hn : ∀ i, i < k → nonneg (lookN p ((cornersZ p).getD i [])).xs = false) : begZ p = some ((cornersZ p).getD k []) := by
  unfold begZ
  have e : (cornersZ p).getD k [] = (cornersZ p)[k] := by simp [List.getD, List.getElem?_eq_getElem hk]
  rw [List.find?_eq_some_iff_getElem]
  refine ⟨hg, k, hk, e.symm, fun j hj => ?_⟩
  have := hn j hj
  rw [List.getD, List.getElem?_eq_getElem (by omega), Option.getD_some] at this
  simp [this]
theorem beg_no {p : PG} (hn : ∀ i, i < (cornersZ p).length → nonneg (lookN p ((cornersZ p).getD i [])).xs = false) : begZ p = none := by
  unfold begZ
  rw [List.find?_eq_none]
  intro x hx
  obtain ⟨j, hj, rfl⟩ := List.mem_iff_getElem.1 hx
  have := hn j hj
  rw [List.getD, List.getElem?_eq_getElem hj, Option.getD_some] at this
  simp [this]
attribute [local go_sem] Oper.semAt_some
set_option maxRecDepth 100000 in
set_option maxHeartbeats 2000000 in
theorem solve_begin (A : Option Addr) (c : Nat) (A2 : Option Addr) (c2 : Nat) (p : PG) (w : World) (hp : Pg w A c A2 c2 p) (hm : mayPB p = true) :
    Calls Try.prog 64 #[.agg #[.slice A p.costs.length c, .slice A2 p.rows.length c2]] w (RetBg w p) := by
  have HP := Lib.hid hp
  have HM := Lib.hid hm
  clear hp hm
  refine calls_of_marks Try.func64 rfl ?_
  simp only [Try.ntmps64, List.size_toArray, List.length_cons, List.length_nil, Nat.reduceAdd, Nat.reduceSub, Array.replicate_succ, Array.replicate_zero, List.push_toArray, List.append_toArray, List.nil_append, List.cons_append]
  go_wp2_with fail
  refine (solve_Corners A c A2 c2 p _).mono ?_
  rintro e w1 ⟨b1, b2, b3, rfl, l1, l2, l3, k1, k2, k3, k4, hb1⟩
  go_wp2_with fail
  have BR := Lib.hid (show Blk w1 (w.heap.size + 1) 26 #[.slice none 0 0] from Blk.next (by
    have := Blk.mk' (w.alloc (.cells #[.slice A p.costs.length c, .slice A2 p.rows.length c2] 25)) 26 #[.slice none 0 0]
    simpa using this) hb1)
  have HB1 := Lib.hid (show Below w.heap.size w w1 from (((Below.refl w.heap.size w).alloc (Nat.le_refl _) _).alloc (by simp) _).trans (hb1.mono (by simp; omega)))
  have z1 := hb1.size
  simp only [World.size_alloc] at z1 l1 l2 l3
  have q1 := World.block_lt_of_cell? _ _ k1
  have q2 := World.block_lt_of_cell? _ _ k2
  have q3 := World.block_lt_of_cell? _ _ k3
  simp only at q1 q2 q3
  obtain ⟨S, hS⟩ : ∃ S : Nat → Prop, S = fun i => i < w.heap.size ∨ i = b1 ∨ i = b2 ∨ i = b3 := ⟨_, rfl⟩
  have HS := Lib.hid hS
  have hbox : BoxC S w1 b1 b2 b3 A c A2 c2 p := by
    subst hS
    exact ⟨.inr (.inl rfl), .inr (.inr (.inl rfl)), .inr (.inr (.inr rfl)), k1, k2, k3, k4, fun W h => HP.out.below (HB1.out.trans (h.below (fun i hi => .inl hi) HB1.out.size))⟩
  have hSn : ∀ i, S i → i < w1.heap.size := by
    subst hS
    rintro i (h | rfl | rfl | rfl) <;> omega
  have hSr : ¬ S (w.heap.size + 1) := by
    subst hS
    rintro (h | h | h | h) <;> omega
  have HSB := Lib.hid (show ∀ W, KS S w1 W → Below w.heap.size w W from fun W h => by
    subst hS
    exact HB1.out.trans (h.below (fun i hi => .inl hi) HB1.out.size))
  have HIT := Lib.hid (corners_iter S w1 b1 b2 b3 A c A2 c2 p hbox HM.out)
  clear hb1 k1 k2 k3 k4 hbox hS
  refine wp_iter (gf := 98) (lb := #[.pointer (some ⟨b1, 0, none⟩), .pointer (some ⟨b2, 0, none⟩), .pointer (some ⟨b3, 0, none⟩)]) rfl (enters_of Try.func98 (by kernel_rfl) rfl) HIT.out (KS.refl _ _) hSn
    (fun k args W h => by obtain ⟨_, _, _, _, _, _, _, _, rfl, _⟩ := h; rfl)
    (fun k W => (∀ i, i < k → nonneg (lookN p ((cornersZ p).getD i [])).xs = false) ∧ Blk W (w.heap.size + 1) 26 #[.slice none 0 0])
    (fun cd k W => cd = .ret ∧ nonneg (lookN p ((cornersZ p).getD k [])).xs = true ∧ (∀ i, i < k → nonneg (lookN p ((cornersZ p).getD i [])).xs = false) ∧ ∃ L cl, Blk W (w.heap.size + 1) 26 #[.slice L ((cornersZ p).getD k []).length cl] ∧ Rd W L cl (ints ((cornersZ p).getD k [])))
    (fun k X Y h kw => ⟨h.1, h.2.kw kw⟩)
    (fun cd k X Y h kw => by obtain ⟨h1, h2, h3, L, cl, h4, h5⟩ := h; exact ⟨h1, h2, h3, L, cl, h4.kw kw, h5.kw kw⟩)
    ⟨fun i hi => by omega, BR.out⟩ ?round ?done ?stop
  case round =>
    rintro l k args W hl hk ⟨hno, hbr⟩ hks ⟨L, cl, X, cx, Y, cy, G, cg, rfl, hL, hC, hLB⟩ hlt
    have HNO := Lib.hid hno
    have HBR := Lib.hid hbr
    have HKS := Lib.hid hks
    have HL := Lib.hid hL
    have HC := Lib.hid hC
    have HLO := Lib.hid hLB
    obtain ⟨lb, hlb⟩ : ∃ lb, (cornersZ p).getD k [] = lb := ⟨_, rfl⟩
    have HLB := Lib.hid hlb
    rw [hlb] at HL HC ⊢
    clear hno hbr hks hL hC hlb hLB
    gi_wp2
    refine ⟨(KeepsOthers.alloc _ _).from _, (KS.refl _ _).alloc _, fun Wb hkw hks2 => ?_⟩
    have BC := Lib.hid (show Blk Wb W.heap.size 42 #[.slice X (lookN p lb).xs.length cx, .int .i64 (lookN p lb).xd, .slice Y (lookN p lb).ys.length cy, .int .i64 (lookN p lb).yd, .slice G (lookN p lb).gs.length cg, .int .i64 (lookN p lb).gd] from (Blk.mk' _ _ _).kw hkw)
    have kwa : KW w1.heap.size W (W.alloc (.cells #[.slice X (lookN p lb).xs.length cx, .int .i64 (lookN p lb).xd, .slice Y (lookN p lb).ys.length cy, .int .i64 (lookN p lb).yd, .slice G (lookN p lb).gs.length cg, .int .i64 (lookN p lb).gd] 42)) := .of_below ((Below.refl _ W).alloc (Nat.le_refl _) _)
    have HL2 := Lib.hid (HL.out.kw (kwa.trans hkw))
    have HC2 := Lib.hid (HC.out.kw (kwa.trans hkw))
    have HBR2 := Lib.hid (HBR.out.kw (kwa.trans hkw))
    clear kwa hkw hks2
    generalize W.heap.size = bc at *
    have e0 := BC.out.cell 0
    have e1 := BC.out.cell 1
    have e2 := BC.out.cell 2
    have e3 := BC.out.cell 3
    have e4 := BC.out.cell 4
    have e5 := BC.out.cell 5
    simp at e0 e1 e2 e3 e4 e5
    have r0 : Wb.cell? ⟨w.heap.size + 1, 0, none⟩ = some (.slice none 0 0) := HBR2.out.cell 0
    have r1 := HBR2.out.frozen 0
    have HGO := Lib.hid (solve_Goes X Y G cx (lookN p lb).ys.length cy (lookN p lb).gs.length cg (lookN p lb).xs (lookN p lb).xd (lookN p lb).yd (lookN p lb).gd Wb HC2.out.x)
    cases hg : nonneg (lookN p lb).xs with
    | false =>
      rw [hg] at HGO
      have HG := Lib.hid hg
      clear hg
      gi_wp2_with fail
      refine ⟨trivial, rfl, ?_⟩
      refine (CallsIn.inRound l (callsIn_wide.2 HGO.out)).mono ?_
      rintro e w3 ⟨rfl, hb3⟩
      gi_wp2_with fail
      refine ⟨(KeepsFrom.of_below hb3 _), .of_below hb3, fun i hi => ?_, HBR2.out.next hb3⟩
      by_cases e : i = k
      · subst e; rw [HLB.out]; exact HG.out
      · exact HNO.out i (by omega)
    | true =>
      rw [hg] at HGO
      have HG := Lib.hid hg
      clear hg
      gi_wp2_with fail
      refine ⟨trivial, rfl, ?_⟩
      refine (CallsIn.inRound l (callsIn_wide.2 HGO.out)).mono ?_
      rintro e w3 ⟨rfl, hb3⟩
      have r0' : w3.cell? ⟨w.heap.size + 1, 0, none⟩ = some (.slice none 0 0) := (HBR2.out.next hb3).cell 0
      have r1' := (HBR2.out.next hb3).frozen 0
      gi_wp2_with fail
      refine ⟨(KeepsFrom.of_below hb3 _).trans ((KeepsOthers.setCell _ _ _).from _), (KS.of_below hb3).setCell _ _ hSr, rfl, by rw [HLB.out]; exact HG.out, HNO.out, L, cl, ?_, ?_⟩
      · rw [HLB.out]; exact (HBR2.out.next hb3).set0 0 _
      · rw [HLB.out]; exact (HL2.out.below hb3).setCell_out _ _ (fun ad e q => by have := HLO.out ad e; simp at q; omega)
  case done =>
    rintro D W hD ⟨hno, hbr⟩ hks hK
    have HK := Lib.hid hK
    have HBR := Lib.hid hbr
    have HKS := Lib.hid hks
    have HNO := Lib.hid (beg_no hno)
    have r0 : W.cell? ⟨w.heap.size + 1, 0, none⟩ = some (.slice none 0 0) := hbr.cell 0
    have r1 := hbr.frozen 0
    clear hno hbr hks hK
    go_wp2_with fail
    have hK' := (KeepsOthers.setCell W ⟨w.heap.size + 1, 0, none⟩ (.slice none 0 0)).same D _ HK.out rfl
    have hkw := KW.putObj (B := 0) (.deferred none) (Nat.zero_le _) hK' rfl
    have hc5 := ((HBR.out.set0 0 (.slice none 0 0)).kw hkw).cell 0
    simp at hc5
    refine ⟨by simp, .inl ⟨_, _, rfl, run_takeDeferred hK', .slice none 0 0, ?_, HSB.out _ ((HKS.out.setCell _ _ hSr).putObj _ fun h => by have := hSn _ h; omega), fun _ => rfl, fun l h => by rw [HNO.out] at h; cases h⟩⟩
    simp [results, Try.results64, go_sem, hc5]
  case stop =>
    rintro D cd k W hD hk ⟨rfl, hg, hno, L, cl, hbr, hL⟩ hks hK
    have HK := Lib.hid hK
    have HBR := Lib.hid hbr
    have HKS := Lib.hid hks
    have HL := Lib.hid hL
    have HBG := Lib.hid (beg_at hk hg hno)
    clear hg hno hbr hks hK hL
    obtain ⟨lb, hlb⟩ : ∃ lb, (cornersZ p).getD k [] = lb := ⟨_, rfl⟩
    rw [hlb] at HBG HL HBR
    clear hlb
    go_wp2_with fail
    have hkw := KW.putObj (B := 0) (.deferred none) (Nat.zero_le _) HK.out rfl
    have hc5 := (HBR.out.kw hkw).cell 0
    simp at hc5
    refine ⟨by simp, .inl ⟨_, _, rfl, run_takeDeferred HK.out, .slice L lb.length cl, ?_, ?_⟩⟩
    · simp [results, Try.results64, go_sem, hc5]
    · refine ⟨HSB.out _ (HKS.out.putObj _ fun h => by have := hSn _ h; omega), fun h => ?_, fun l h => ?_⟩
      · rw [HBG.out] at h; cases h
      · rw [HBG.out] at h
        injection h with h
        subst h
        exact ⟨L, cl, rfl, HL.out.kw hkw⟩
end Go.Proofs.Ytjcdkbalhleeeab

namespace Go.Proofs.Ytjcdkbalhleeeab
open Go.RowKit

theorem wholeG_max (l : List Int) : max ((comm 0 l : Nat) : Int) 1 = wholeG l := by
  unfold wholeG
  split <;> omega
/-- A point with whole numbers is handed back. -/
def RetWh (w : World) (l : List Int) (e : Ending) (w' : World) : Prop :=
  ∃ O co, e = .returned (.agg #[.slice O l.length co, .int .i64 1]) ∧ Rd w' O co l ∧ (∀ ad, O = some ad → w.heap.size ≤ ad.block) ∧ Below w.heap.size w w'
set_option maxRecDepth 100000 in
set_option maxHeartbeats 2000000 in
theorem solve_whole (A : Option Addr) (l : List Int) (c : Nat) (w : World) (hr : Rd w A c l) (hs : smallB 1073741824 l = true) (h8 : l.length ≤ 100) :
    Calls Try.prog 67 #[.slice A l.length c] w (RetWh w (wholeZ l)) := by
  have HR := Lib.hid hr
  have HS := Lib.hid hs
  obtain ⟨hl, hc, hsm, _⟩ := hr
  have HZL := Lib.hid (wholeZ_len l)
  clear hs
  go_enter Try.func67, Try.ntmps67
  go_wp2_with fail
  have BR := Lib.hid (Blk.mk' w 40 #[.slice none 0 0, .int .i64 0])
  have HW := Lib.hid ((Below.refl w.heap.size w).alloc (Nat.le_refl _) (.cells #[.slice none 0 0, .int .i64 0] 40))
  generalize (w.alloc (.cells #[.slice none 0 0, .int .i64 0] 40)) = W at *
  go_loopw [3, 11] (fun g i wx => ∃ k : Nat, k ≤ l.length ∧ i = .int .i64 k ∧ g = .int .i64 (comm 0 (l.take k)) ∧ Below W.heap.size W wx) (fun _ i _ => l.length - (intOf i).toNat)
  case atStart => exact ⟨0, by omega, rfl, rfl, Below.refl _ _⟩
  case round =>
    obtain ⟨k, hk, rfl, rfl, hbel⟩ := hrel
    rename World => U
    have HU := Lib.hid hbel
    have HB := Lib.hid (HW.out.trans (hbel.mono HW.out.size))
    clear hbel
    by_cases hlt : k < l.length
    · obtain ⟨ad, rfl, hcl⟩ := (HR.out.below HB.out).getD_at (k := k) hlt
      have hal := World.block_lt_of_cell? _ _ hcl
      have hi0 : (k : Int) < (l.length : Int) := by omega
      have hx := (smallB_getD (m := 1073741824) (by omega)).1 HS.out k
      have hcb : comm 0 (l.take k) ≤ 1073741824 := comm_bound _ _ _ (by omega) fun x hx => by have := smallB_mem HS.out (List.mem_of_mem_take hx); omega
      have HT := Lib.hid (comm_take 0 hlt)
      have HG0 := Lib.hid (show l[k] = l.getD k 0 by simp [List.getD, List.getElem?_eq_getElem hlt])
      obtain ⟨xv, hxv⟩ : ∃ xv, l.getD k 0 = xv := ⟨_, rfl⟩
      rw [hxv] at hcl hx
      have HXV := Lib.hid hxv
      clear hxv
      obtain ⟨g0, hg0⟩ : ∃ g0, comm 0 (l.take k) = g0 := ⟨_, rfl⟩
      rw [hg0] at hcb HT ⊢
      have HG1 := Lib.hid hg0
      clear hg0
      have hw1 : IntKind.i64.wrap (-xv) = -xv := IntWalk.i64_in _ (by omega)
      go_wp2_with fail
      rw [show max xv (-xv) = ((xv.natAbs : Nat) : Int) by omega]
      have hxa : xv.natAbs ≤ 1073741824 := by omega
      go_loopw [3, 5] (fun x y wx => ∃ a b : Nat, a ≤ 1073741824 ∧ b ≤ 1073741824 ∧ Hid (Nat.gcd a b = Nat.gcd g0 xv.natAbs) ∧ x = .int .i64 a ∧ y = .int .i64 b ∧ Below U.heap.size U wx) (fun _ y _ => (intOf y).toNat)
      case atStart => exact ⟨g0, xv.natAbs, hcb, hxa, Lib.hid rfl, rfl, rfl, Below.refl _ _⟩
      case round =>
        obtain ⟨a, b, ha, hb, hg, rfl, rfl, hbel⟩ := hrel
        rename World => U1
        have HU1 := Lib.hid hbel
        clear hbel
        by_cases h0 : b = 0
        · subst h0
          have HGG := Lib.hid (show a = Nat.gcd g0 xv.natAbs by rw [← hg.out]; simp)
          clear hg
          go_wp2_with fail
          go_roundw
          case rel => exact ⟨k + 1, by omega, by go_num, by rw [HT.out, HG0.out, HXV.out, ← HGG.out], HU.out.trans (HU1.out.mono HU.out.size)⟩
          case measure => simp [intOf]; omega
        · have hz' : ((b : Int) != 0) = true := by simp; omega
          have hm : a % b < b := Nat.mod_lt _ (by omega)
          go_wp2_with fail
          go_region
          all_goals
            go_wp2_with fail
            go_roundw
            case rel => exact ⟨b, a % b, hb, by omega, Lib.hid (by rw [← hg.out, Nat.gcd_comm a b, Nat.gcd_rec b a, Nat.gcd_comm]), rfl, by simp, HU1.out.drew⟩
            case measure => simp [intOf]; omega
    · obtain rfl : k = l.length := by omega
      rw [List.take_length]
      have hwg := wholeG_pos l
      have HMX := Lib.hid (wholeG_max l)
      have hgb : wholeG l ≤ 1073741824 := by
        have hcb : comm 0 l ≤ 1073741824 := comm_bound _ _ _ (by omega) fun x hx => by have := smallB_mem HS.out hx; omega
        unfold wholeG; split <;> omega
      go_wp2_with fail
      have BQ := Lib.hid (Blk.mk' U 40 #[.slice none 0 0, .int .i64 1])
      have BR2 := Lib.hid ((BR.out.next HU.out).alloc (.cells #[.slice none 0 0, .int .i64 1] 40))
      have lR := BR.out.lt
      have zU := HU.out.size
      have HV := Lib.hid ((Below.refl U.heap.size U).alloc (Nat.le_refl _) (.cells #[.slice none 0 0, .int .i64 1] 40))
      have lV : U.heap.size + 1 ≤ (U.alloc (.cells #[.slice none 0 0, .int .i64 1] 40)).heap.size := by simp
      generalize (U.alloc (.cells #[.slice none 0 0, .int .i64 1] 40)) = V at *
      obtain ⟨g0, hg0⟩ : ∃ g0 : Int, g0 = (comm 0 l : Nat) := ⟨_, rfl⟩
      rw [← hg0] at HMX ⊢
      clear hg0
      obtain ⟨zs, hzs⟩ : ∃ zs, wholeZ l = zs := ⟨_, rfl⟩
      have HZS := Lib.hid hzs
      rw [hzs] at HZL ⊢
      go_loopw [29] (fun i wx => ∃ (k : Nat) (v : Value), k ≤ l.length ∧ i = .int .i64 k ∧ Blk wx U.heap.size 40 #[v, .int .i64 1] ∧ Blk wx w.heap.size 40 #[.slice none 0 0, .int .i64 0] ∧ wx.ownsRow (U.heap.size + 1) 2 1 v k ((zs.take k).map (Value.int .i64)) ∧ Below U.heap.size U wx) (fun i _ => l.length - (intOf i).toNat)
      case atStart => exact ⟨0, _, by omega, rfl, BQ.out, BR2.out, World.ownsRow_nil _ _ _ _, HV.out⟩
      case round =>
        obtain ⟨k, v, hk, rfl, hq, hbr, hown, hbel⟩ := hrel
        rename World => U2
        have HQ := Lib.hid hq
        have HBR := Lib.hid hbr
        have HO := Lib.hid hown
        have HU2 := Lib.hid hbel
        have z2 := hbel.size
        have lq := hq.lt
        clear hq hbr hown hbel
        by_cases hlt : k < l.length
        · obtain ⟨ad, rfl, hcl⟩ := (((HR.out.below HW.out).below HU.out).below HU2.out).getD_at (k := k) hlt
          have hal := World.block_lt_of_cell? _ _ hcl
          have hi0 : (k : Int) < (l.length : Int) := by omega
          have hx := (smallB_getD (m := 1073741824) (by omega)).1 HS.out k
          have HTK := Lib.hid (show (zs.take (k + 1)).map (Value.int .i64) = (zs.take k).map (Value.int .i64) ++ [Value.int .i64 ((l.getD k 0).tdiv (wholeG l))] by
            have hk' : k < zs.length := by rw [HZL.out]; exact hlt
            rw [List.take_succ_eq_append_getElem hk', List.map_append]
            have : zs[k] = (l.getD k 0).tdiv (wholeG l) := by
              have : zs[k] = zs.getD k 0 := by simp [List.getD, List.getElem?_eq_getElem hk']
              rw [this, ← HZS.out]
              unfold wholeZ
              simp [List.getD, List.getElem?_map, List.getElem?_eq_getElem hlt]
            rw [this]; rfl)
          obtain ⟨xv, hxv⟩ : ∃ xv, l.getD k 0 = xv := ⟨_, rfl⟩
          rw [hxv] at hcl hx HTK
          clear hxv
          have hg1 : 0 < max g0 1 := by omega
          obtain ⟨hq3, hq4⟩ := tdiv_bound 4611686018427387904 xv (max g0 1) (by omega) (by omega)
          have hz : ¬ max g0 1 = 0 := by omega
          have hw2 : IntKind.i64.wrap (xv.tdiv (max g0 1)) = xv.tdiv (max g0 1) := IntWalk.i64_in _ (by omega)
          have hq0' : U2.cell? ⟨U.heap.size, 0, none⟩ = some v := HQ.out.cell 0
          have hqf' := HQ.out.frozen 0
          go_upto_region 13 with fail
          go_region_law (refine step_app1 rfl (.tmp 34) (.tmp 39) _ _ _ 8 und_i64s inf_i64 rfl rfl _ v k _ _ (by simp [Act.eval]) ((HO.out.drew).alloc _) _ 1 (by simp [Act.eval]) (cell_new1 _ _ _) rfl (by unfold maxLen; omega) (by omega) (by simp; omega) ?_; intro g cap w1 hown1 hg1 hat hlt1; have hB1 := ((HQ.out.drew).alloc _).grown hg1 (own_ne HO.out (by omega)); have hq0 : w1.cell? ⟨U.heap.size, 0, none⟩ = some v := hB1.cell 0; have hqf := hB1.frozen 0)
          all_goals
            have HB1 := Lib.hid hB1
            have HW1 := Lib.hid hown1
            have HG1 := Lib.hid (by assumption : World.grownBy _ w1 _)
            clear hB1 hown1 hq0 hqf
            go_wp2_with fail
            go_roundw
            case rel =>
              have hb2 : Below U.heap.size U w1 := (((HU2.out.drew).alloc (by have := HU2.out.size; simp; omega) _).grown HG1.out (by have := HU2.out.size; simp; omega) (own_ge HO.out (by omega)))
              refine ⟨k + 1, _, by omega, by go_num, HB1.out.set0 0 _, (((HBR.out.drew).alloc _).grown HG1.out (own_ne HO.out (by omega))).far _ (by simp; omega), ?_, hb2.setCell (by simp) _⟩
              rw [HTK.out, ← HMX.out]
              exact ownsRow_setCell_below HW1.out (by simp) _
            case measure => simp [intOf]; omega
        · obtain rfl : k = l.length := by omega
          have hown := HO.out
          rw [← HZL.out, List.take_length] at hown
          obtain ⟨A', c', rfl, hRd, hA'⟩ := Rd.of_ownv hown rfl (by rw [HZL.out]; omega)
          have HRD := Lib.hid hRd
          have HA := Lib.hid hA'
          rw [HZL.out] at HQ
          have hp0 : U2.cell? ⟨U.heap.size, 0, none⟩ = some (.slice A' l.length c') := HQ.out.cell 0
          have hp1 : U2.cell? ⟨U.heap.size, 1, none⟩ = some (.int .i64 1) := HQ.out.cell 1
          have hr0 : U2.cell? ⟨w.heap.size, 0, none⟩ = some (.slice none 0 0) := HBR.out.cell 0
          have hr1 : U2.cell? ⟨w.heap.size, 1, none⟩ = some (.int .i64 0) := HBR.out.cell 1
          have hrf0 := HBR.out.frozen 0
          have hrf1 := HBR.out.frozen 1
          clear hown hRd hA'
          go_wp2_with fail
          refine bodyPost_ret (v := .agg #[.slice A' l.length c', .int .i64 1]) (by simp [results, Try.results67, go_sem, hr0, hr1]) rfl ?_
          unfold RetWh
          rw [HZS.out, HZL.out]
          refine ⟨A', c', rfl, ((HRD.out).setCell_out _ _ (fun ad e => by have := HA.out ad e; simp; omega)).setCell_out _ _ (fun ad e => by have := HA.out ad e; simp; omega), fun ad e => by have := HA.out ad e; omega, ?_⟩
          exact ((HW.out.trans ((HU.out.trans (HU2.out.mono zU)).mono HW.out.size)).setCell (Nat.le_refl _) _).setCell (Nat.le_refl _) _
end Go.Proofs.Ytjcdkbalhleeeab

namespace Go.Proofs.Ytjcdkbalhleeeab
open Go.RowKit

theorem Rd.blk_lt {w : World} {A : Option Addr} {c : Nat} {l : List Int} (h : Rd w A c l) (h0 : 0 < l.length) : ∀ ad, A = some ad → ad.block < w.heap.size := by
  intro ad e
  obtain ⟨ad', e', hc⟩ := h.at_ h0
  rw [e] at e'
  injection e' with e'
  subst e'
  exact World.block_lt_of_cell? _ _ hc
theorem Rd.takeW {w : World} {A : Option Addr} {c : Nat} {l : List Int} (h : Rd w A c l) (n : Nat) (hn : n ≤ l.length) : Rd w A c (l.take n) ∧ (l.take n).length = n := by
  have hl : (l.take n).length = n := by rw [List.length_take]; omega
  refine ⟨⟨by rw [hl]; have := h.le; omega, h.cap, by rw [hl]; have := h.small; omega, fun h0 => ?_⟩, hl⟩
  simp only [List.length_map] at h0
  obtain ⟨ad, e, hc⟩ := h.cells (by simp; omega)
  refine ⟨ad, e, fun j u hu => hc j u ?_⟩
  rw [List.map_take, List.getElem?_take] at hu
  split at hu
  · exact hu
  · simp at hu
end Go.Proofs.Ytjcdkbalhleeeab

namespace Go.Proofs.Ytjcdkbalhleeeab
open Go.RowKit

/-- By how much column l k becomes less, as r grows. -/
def chN (p : PG) (l : List Nat) (r k : Nat) : Int := (lookN (qOf p r) l).xs.getD (l.getD k 0) 0
def chL (p : PG) (l : List Nat) (r : Nat) : List Int := (List.range l.length).map (chN p l r)
theorem chL_len (p : PG) (l : List Nat) (r : Nat) : (chL p l r).length = l.length := by simp [chL]
theorem chL_at {p : PG} {l : List Nat} {r k : Nat} (hk : k < l.length) : (chL p l r).getD k 0 = chN p l r k := by
  unfold chL; simp [List.getD, hk]
theorem change_n (A : Option Addr) (c : Nat) (A2 : Option Addr) (c2 : Nat) (p : PG) (L : Option Addr) (l : List Int) (cl r : Nat) (w : World) (hp : Pg w A c A2 c2 p) (hr : Rd w L cl l) (h0 : lookE p l = 0) (hj : r < 1000000) :
    Calls Try.prog 40 #[.agg #[.slice A p.costs.length c, .slice A2 p.rows.length c2], .slice L l.length cl, .int .i64 r] w fun e w' => ∃ O co, e = .returned (.tuple #[.slice O l.length co, .int .i64 (lookN (qOf p r) (nats l)).xd]) ∧
      Rd w' O co (chL p (nats l) r) ∧ Below w.heap.size w w' := by
  refine (walk_Change A c A2 c2 p L l cl r w hp hr h0 hj).mono ?_
  rintro e w' ⟨O, co, rfl, hO, hb⟩
  have hq : lookN (qOf p r) (nats l) = lookC (qOf p r) l := lookN_eq (qOf_E h0 r)
  refine ⟨O, co, by rw [hq], ?_, hb⟩
  have : (l.map fun j => (lookC (qOf p r) l).xs.getD j.toNat 0) = chL p (nats l) r := by
    unfold chL chN
    rw [hq]
    apply List.ext_getElem
    · simp [nats]
    · intro i h1 h2
      simp only [List.length_map] at h1
      simp [nats, List.getD, h1]
  rwa [this] at hO
theorem chN_small {p : PG} {l : List Nat} (hb : Bs p l) {r k : Nat} : -1073741824 ≤ chN p l r k ∧ chN p l r k ≤ 1073741824 := by
  obtain ⟨a1, a2, a3, hq⟩ := corn_of (qOf_may hb.hp r) (qOf_right hb.hr r) (by rw [qOf_den hb.hr.len]; exact hb.hd)
  exact (smallB_getD (m := 1073741824) (by omega)).1 (mayB_parts hq.mx).2.2.1 _

set_option maxRecDepth 100000 in
theorem walk_Variables (A : Option Addr) (c : Nat) (A2 : Option Addr) (c2 : Nat) (p : PG) (X Y G : Option Addr) (cx ny cy ng cg : Nat) (xs : List Int) (xd yd gd : Int) (w : World) (hp : Pg w A c A2 c2 p) (hx : Rd w X cx xs) (h0 : 0 < xs.length) (hn : p.costs.length ≤ xs.length) :
    Calls Try.prog 66 #[.agg #[.slice A p.costs.length c, .slice A2 p.rows.length c2], .agg #[.slice X xs.length cx, .int .i64 xd, .slice Y ny cy, .int .i64 yd, .slice G ng cg, .int .i64 gd]] w fun e w' =>
      e = .returned (.slice X p.costs.length cx) ∧ Below w.heap.size w w' := by
  obtain ⟨ax, rfl, _⟩ := hx.getD_at (k := 0) h0
  obtain ⟨hl, hc, hs, _⟩ := hx
  obtain ⟨⟨hl1, hc1, hsm, _⟩, ⟨hl2, hc2, hsm2, _⟩⟩ := hp
  have hcx : p.costs.length ≤ cx := by omega
  go_enter Try.func66, Try.ntmps66
  go_wp2_with fail
  go_ret
  exact ⟨rfl, (by (repeat (any_goals (first | exact Below.refl _ _ | refine below_drewN ?_ _ | refine Below.drew ?_ | refine Below.alloc ?_ ?_ _ | refine Below.setCell ?_ ?_ _))); all_goals (first | omega | (simp; done) | (simp; omega)))⟩

/-- No column makes the k-th grow. -/
def stB (p : PG) (l : List Nat) (k : Nat) : Bool := (List.range (p.costs.length + p.rows.length)).all fun j => decide (0 ≤ chN p l j k)
set_option maxRecDepth 100000 in
set_option maxHeartbeats 1000000 in
theorem solve_stuck (A : Option Addr) (c : Nat) (A2 : Option Addr) (c2 : Nat) (p : PG) (L : Option Addr) (l : List Int) (cl k : Nat) (w : World) (hp : Pg w A c A2 c2 p) (hr : Rd w L cl l) (h0 : lookE p l = 0) (hk : k < l.length) :
    Calls Try.prog 110 #[.agg #[.slice A p.costs.length c, .slice A2 p.rows.length c2], .slice L l.length cl, .int .i64 k] w fun e w' => e = .returned (.bool (stB p (nats l) k)) ∧ Below w.heap.size w w' := by
  have HP := Lib.hid hp
  have HL := Lib.hid hr
  have HN := Lib.hid (look_eq h0)
  have HL0 := Lib.hid h0
  obtain ⟨q1, q2, q3⟩ := look_parts h0
  have HB0 := Lib.hid (show Bs p (nats l) from ⟨q1, (right_nats q2).1, q3⟩)
  have h4 := (mayPB_iff.1 q1).2.2.2.1
  have h5 := (mayPB_iff.1 q1).2.1
  obtain ⟨⟨hl, hc, hsm, _⟩, ⟨hl2, hc2, hsm2, _⟩⟩ := hp
  obtain ⟨hll, hlc, hls, _⟩ := hr
  have hnl : (nats l).length = l.length := by simp [nats]
  have HNL := Lib.hid hnl
  clear q1 q2 q3 hnl
  go_enter Try.func110, Try.ntmps110
  go_upto_region 1 with fail
  have BP := Lib.hid (Blk.mk' w 25 #[.slice A p.costs.length c, .slice A2 p.rows.length c2])
  have HW := Lib.hid ((Below.refl w.heap.size w).alloc (Nat.le_refl _) (.cells #[.slice A p.costs.length c, .slice A2 p.rows.length c2] 25))
  generalize (w.alloc (.cells #[.slice A p.costs.length c, .slice A2 p.rows.length c2] 25)) = W at *
  have zW := HW.out.size
  have p0 : W.cell? ⟨w.heap.size, 0, none⟩ = some (.slice A p.costs.length c) := BP.out.cell 0
  have p1 : W.cell? ⟨w.heap.size, 1, none⟩ = some (.slice A2 p.rows.length c2) := BP.out.cell 1
  have hc0 : (0 : Int) ≤ (p.costs.length : Int) := by omega
  go_wp2_with fail
  go_loopw [17] (fun i wx => ∃ j : Nat, j ≤ p.costs.length + p.rows.length ∧ i = .int .i64 j ∧ Hid (∀ q, q < j → 0 ≤ chN p (nats l) q k) ∧ Below W.heap.size W wx) (fun i _ => p.costs.length + p.rows.length - (intOf i).toNat)
  case atStart => exact ⟨0, by omega, rfl, Lib.hid fun q hq => by omega, Below.refl _ _⟩
  case round =>
    obtain ⟨j, hj, rfl, hall, hbel⟩ := hrel
    rename World => U
    have HU := Lib.hid hbel
    have HB := Lib.hid (HW.out.trans (hbel.mono zW))
    have u0 := (hbel.cell (World.block_lt_of_cell? _ _ p0)).trans p0
    have u1 := (hbel.cell (World.block_lt_of_cell? _ _ p1)).trans p1
    clear hbel
    by_cases hlt : j < p.costs.length + p.rows.length
    · have hi0 : (j : Int) < (p.costs.length : Int) + (p.rows.length : Int) := by omega
      go_wp2_with fail
      refine (change_n A c A2 c2 p L l cl j U (HP.out.below HB.out) (HL.out.below HB.out) HL0.out (by omega)).mono ?_
      rintro e w1 ⟨O, co, rfl, hO, hb1⟩
      have H1 := Lib.hid (HU.out.trans (hb1.mono HU.out.size))
      obtain ⟨ao, rfl, hco⟩ := hO.getD_at (k := k) (by rw [chL_len, HNL.out]; exact hk)
      rw [chL_at (by rw [HNL.out]; exact hk)] at hco
      have hao := World.block_lt_of_cell? _ _ hco
      have hocap := hO.le
      rw [chL_len, HNL.out] at hocap
      have hoc := hO.cap
      have hk0 : (k : Int) < (l.length : Int) := by omega
      clear hb1 hO u0 u1
      by_cases hneg : chN p (nats l) j k < 0
      · have HF := Lib.hid (show stB p (nats l) k = false by
          rw [Bool.eq_false_iff]
          intro h
          unfold stB at h
          rw [List.all_eq_true] at h
          have := h j (List.mem_range.2 hlt)
          simp at this; omega)
        obtain ⟨xv, hxv⟩ : ∃ xv, chN p (nats l) j k = xv := ⟨_, rfl⟩
        rw [hxv] at hco hneg
        clear hxv hall
        go_wp2_with fail
        go_ret
        exact ⟨by rw [HF.out]; rfl, HW.out.trans (H1.out.mono zW)⟩
      · have HA := Lib.hid (show ∀ q, q < j + 1 → 0 ≤ chN p (nats l) q k from fun q hq => by
          by_cases e : q = j
          · subst e; omega
          · exact hall.out q (by omega))
        obtain ⟨xv, hxv⟩ : ∃ xv, chN p (nats l) j k = xv := ⟨_, rfl⟩
        rw [hxv] at hco hneg
        clear hxv hall
        go_wp2_with fail
        go_roundw
        case rel => exact ⟨j + 1, by omega, by go_num, HA, H1.out⟩
        case measure => simp [intOf]; omega
    · obtain rfl : j = p.costs.length + p.rows.length := by omega
      have HT := Lib.hid (show stB p (nats l) k = true by
        unfold stB
        rw [List.all_eq_true]
        intro q hq
        simpa using hall.out q (List.mem_range.1 hq))
      have hi1 : ¬ (((p.costs.length + p.rows.length : Nat) : Int) < (p.costs.length : Int) + (p.rows.length : Int)) := by omega
      clear hall
      go_wp2_with fail
      go_ret
      exact ⟨by rw [HT.out]; rfl, HB.out⟩

/-- The way of one column, of the first i of the others. -/
def rayT (p : PG) (l : List Nat) (r i : Nat) : List Int := (List.range (p.costs.length + p.rows.length)).map fun j => if j = r then (lookN (qOf p r) l).xd else if j ∈ l.take i then -((lookN (qOf p r) l).xs.getD j 0) else 0
theorem rayT_len (p : PG) (l : List Nat) (r i : Nat) : (rayT p l r i).length = p.costs.length + p.rows.length := by simp [rayT]
theorem rayT_zero (p : PG) (l : List Nat) (r : Nat) : rayT p l r 0 = (List.replicate (p.costs.length + p.rows.length) (0 : Int)).set r (lookN (qOf p r) l).xd := by
  apply List.ext_getElem
  · simp [rayT]
  · intro j h1 h2
    simp [rayT, List.getElem_set, eq_comm]
theorem rayT_succ {p : PG} {l : List Nat} {r i : Nat} (hi : i < l.length) (hrl : r ∉ l) : rayT p l r (i + 1) = (rayT p l r i).set (l.getD i 0) (-(chN p l r i)) := by
  have hg : l.getD i 0 = l[i] := by simp [List.getD, List.getElem?_eq_getElem hi]
  unfold chN
  rw [hg]
  apply List.ext_getElem
  · simp [rayT]
  · intro j h1 h2
    simp only [rayT, List.getElem_map, List.getElem_range, List.getElem_set]
    have hmem : j ∈ l.take (i + 1) ↔ j ∈ l.take i ∨ j = l[i] := by rw [List.take_succ_eq_append_getElem hi, List.mem_append, List.mem_singleton]
    by_cases hj : j = r
    · subst hj
      have : l[i] ≠ j := fun q => hrl (q ▸ List.getElem_mem hi)
      rw [if_pos rfl, if_neg this, if_pos rfl]
    · by_cases hji : l[i] = j
      · rw [if_neg hj, if_pos (hmem.2 (.inr hji.symm)), if_pos hji, hji]
      · rw [if_neg hj, if_neg hji, if_neg hj]
        by_cases h : j ∈ l.take i
        · rw [if_pos (hmem.2 (.inl h)), if_pos h]
        · rw [if_neg (fun q => (hmem.1 q).elim h fun q => hji q.symm), if_neg h]
theorem rayT_end {p : PG} {l : List Nat} {r : Nat} (hb : Bs p l) : rayT p l r l.length = rayZ p l r := by
  obtain ⟨a1, a2, a3, hq⟩ := corn_of (qOf_may hb.hp r) (qOf_right hb.hr r) (by rw [qOf_den hb.hr.len]; exact hb.hd)
  unfold rayT rayZ
  rw [List.take_length]
  apply List.map_congr_left
  intro j _
  by_cases hj : j = r
  · simp [hj]
  · simp only [hj, if_false]
    split
    · rfl
    · rename_i hjl
      have h1 := hq.x j
      rw [xall_off (qOf_right hb.hr r) hjl] at h1
      have := Int.mul_eq_zero.1 h1.symm
      have hx : (lookN (qOf p r) l).xs.getD j 0 = 0 := by
        rcases this with q | q
        · exact absurd q hq.nx
        · exact q
      rw [hx]; rfl
set_option maxRecDepth 100000 in
set_option maxHeartbeats 1000000 in
theorem walk_Ray (A : Option Addr) (c : Nat) (A2 : Option Addr) (c2 : Nat) (p : PG) (L : Option Addr) (l : List Int) (cl r : Nat) (w : World) (hp : Pg w A c A2 c2 p) (hr : Rd w L cl l) (h0 : lookE p l = 0) (hrl : r ∉ nats l) (hrN : r < p.costs.length + p.rows.length) :
    Calls Try.prog 68 #[.agg #[.slice A p.costs.length c, .slice A2 p.rows.length c2], .slice L l.length cl, .int .i64 r] w fun e w' => ∃ O co, e = .returned (.slice O (p.costs.length + p.rows.length) co) ∧ Rd w' O co (rayZ p (nats l) r) ∧ (∀ ad, O = some ad → w.heap.size ≤ ad.block) ∧ Below w.heap.size w w' := by
  have HP := Lib.hid hp
  have HL := Lib.hid hr
  have HN := Lib.hid (look_eq h0)
  have HL0 := Lib.hid h0
  obtain ⟨q1, q2, q3⟩ := look_parts h0
  have HB0 := Lib.hid (show Bs p (nats l) from ⟨q1, (right_nats q2).1, q3⟩)
  have h4 := (mayPB_iff.1 q1).2.2.2.1
  have h5 := (mayPB_iff.1 q1).2.1
  obtain ⟨⟨hl, hc, hsm, _⟩, ⟨hl2, hc2, hsm2, _⟩⟩ := hp
  obtain ⟨hll, hlc, hls, _⟩ := hr
  have hnl : (nats l).length = l.length := by simp [nats]
  have HNL := Lib.hid hnl
  clear q1 q2 q3 hnl
  go_enter Try.func68, Try.ntmps68
  go_upto_region 1 with fail
  have BP := Lib.hid (Blk.mk' w 25 #[.slice A p.costs.length c, .slice A2 p.rows.length c2])
  have HW := Lib.hid ((Below.refl w.heap.size w).alloc (Nat.le_refl _) (.cells #[.slice A p.costs.length c, .slice A2 p.rows.length c2] 25))
  generalize (w.alloc (.cells #[.slice A p.costs.length c, .slice A2 p.rows.length c2] 25)) = W at *
  have zW := HW.out.size
  have p0 : W.cell? ⟨w.heap.size, 0, none⟩ = some (.slice A p.costs.length c) := BP.out.cell 0
  have p1 : W.cell? ⟨w.heap.size, 1, none⟩ = some (.slice A2 p.rows.length c2) := BP.out.cell 1
  go_wp2_with fail
  refine (change_n A c A2 c2 p L l cl r W (HP.out.below HW.out) (HL.out.below HW.out) HL0.out (by omega)).mono ?_
  rintro e w1 ⟨O, co, rfl, hO, hb1⟩
  have HO := Lib.hid hO
  have H1 := Lib.hid hb1
  have z1 := hb1.size
  have u0 := (hb1.cell (World.block_lt_of_cell? _ _ p0)).trans p0
  have u1 := (hb1.cell (World.block_lt_of_cell? _ _ p1)).trans p1
  have HRT := Lib.hid (rayT_zero p (nats l) r)
  have HRE := Lib.hid (rayT_end (r := r) HB0.out)
  obtain ⟨xd, hxd⟩ : ∃ xd, (lookN (qOf p r) (nats l)).xd = xd := ⟨_, rfl⟩
  rw [hxd] at HRT ⊢
  clear hxd hO hb1 p0 p1
  obtain ⟨N, hN⟩ : ∃ N, p.costs.length + p.rows.length = N := ⟨_, rfl⟩
  have HNN := Lib.hid hN
  have hNc : (p.costs.length : Int) + (p.rows.length : Int) = N := by omega
  have hmk := fun w => made_i64 w N ((p.costs.length : Int) + (p.rows.length : Int)) (by omega) (by omega)
  rw [hNc] at hmk
  have hwN : IntKind.i64.wrap (N : Int) = N := IntWalk.i64_in _ (by omega)
  rw [hN] at HRT
  go_upto_region 3 with fail
  have HM := Lib.hid (own_made w1 W.heap.size N w1.heap.size rfl z1 (by omega))
  have HB1 := Lib.hid (H1.out.alloc z1 (.cells (Array.replicate N (Value.int .i64 0)) 2))
  have lG : w1.heap.size < (w1.alloc (.cells (Array.replicate N (Value.int .i64 0)) 2)).heap.size := by simp
  have HO1 := Lib.hid (HO.out.alloc (.cells (Array.replicate N (Value.int .i64 0)) 2))
  generalize hG : w1.heap.size = g at *
  generalize (w1.alloc (.cells (Array.replicate N (Value.int .i64 0)) 2)) = V at *
  have e1 := own_cell' HM.out r (.int .i64 0) (by simp [hN ▸ hrN])
  have f1 := own_free' HM.out r
  have hrc : (r : Int) < (N : Int) := by omega
  clear u0 u1 hmk
  go_wp2_with fail
  have HM2 := Lib.hid (show (V.setCell ⟨g, r, none⟩ (.int .i64 xd)).ownsRow W.heap.size 2 1 (.slice (some ⟨g, 0, none⟩) N N) N ((rayT p (nats l) r 0).map (Value.int .i64)) from by rw [HRT.out, ← map_set_int]; exact own_put HM.out r _)
  have hrv : r < N := by rw [← hN]; exact hrN
  have HOV := Lib.hid (fun ad (e : O = some ad) (h : 0 < l.length) => (show ad.block ≠ g from by
    have := HO.out.blk_lt (by rw [chL_len, HNL.out]; exact h) ad e; omega))
  go_loopw [33] (fun i wx => ∃ k : Nat, k ≤ l.length ∧ i = .int .i64 k ∧ wx.ownsRow W.heap.size 2 1 (.slice (some ⟨g, 0, none⟩) N N) N ((rayT p (nats l) r k).map (Value.int .i64)) ∧ (0 < l.length → Rd wx O co (chL p (nats l) r)) ∧ Below W.heap.size W wx) (fun i _ => l.length - (intOf i).toNat)
  case atStart => exact ⟨0, by omega, rfl, HM2.out, fun h => HO1.out.setCell_out _ _ (fun ad e => HOV.out ad e h), HB1.out.setCell z1 _⟩
  case round =>
    obtain ⟨k, hk, rfl, hown, hro, hbel⟩ := hrel
    rename World => U
    have HU := Lib.hid hbel
    have HB := Lib.hid (HW.out.trans (hbel.mono zW))
    have HK := Lib.hid hown
    have lg := (hown.lt g rfl).2
    clear hown hbel
    by_cases hlt : k < l.length
    · have hro := hro (by omega)
      have HRO := Lib.hid hro
      obtain ⟨al, rfl, hcl⟩ := (HL.out.below HB.out).natAt HN.out hlt
      obtain ⟨ao, rfl, hco⟩ := hro.getD_at (k := k) (by rw [chL_len, HNL.out]; exact hlt)
      rw [chL_at (by rw [HNL.out]; exact hlt)] at hco
      have hal := World.block_lt_of_cell? _ _ hcl
      have hao := World.block_lt_of_cell? _ _ hco
      have hocap := hro.le
      rw [chL_len, HNL.out] at hocap
      have hoc := hro.cap
      have hi0 : (k : Int) < (l.length : Int) := by omega
      have hin : k < (nats l).length := by rw [HNL.out]; exact hlt
      have hjN : (nats l).getD k 0 < N := by rw [← hN]; exact HB0.out.hr.lt _ (mem_getD.2 ⟨k, hin, rfl⟩)
      have HS := Lib.hid (rayT_succ (p := p) hin hrl)
      obtain ⟨hs1, hs2⟩ := chN_small HB0.out (r := r) (k := k)
      obtain ⟨cv, hcv⟩ : ∃ cv, chN p (nats l) r k = cv := ⟨_, rfl⟩
      rw [hcv] at hco HS hs1 hs2
      obtain ⟨jn, hjn⟩ : ∃ jn, (nats l).getD k 0 = jn := ⟨_, rfl⟩
      rw [hjn] at hcl hjN HS
      have e2 := own_cell' HK.out jn _ (map_at_int (by rw [rayT_len, hN]; exact hjN))
      have f2 := own_free' HK.out jn
      have hj0 : (jn : Int) < (N : Int) := by omega
      have hwc : IntKind.i64.wrap (-cv) = -cv := IntWalk.i64_in _ (by omega)
      generalize (rayT p (nats l) r k).getD jn 0 = z0 at *
      clear hro hcv hjn hin e1 f1
      go_wp2_with fail
      go_roundw
      case rel => exact ⟨k + 1, by omega, by go_num, by rw [HS.out, ← map_set_int]; exact own_put HK.out jn _, fun h => HRO.out.setCell_out _ _ (fun ad e => HOV.out ad e h), HU.out.setCell z1 _⟩
      case measure => simp [intOf]; omega
    · obtain rfl : k = l.length := by omega
      have hown := HK.out
      rw [← HNL.out, HRE.out] at hown
      clear hro e1 f1
      go_wp2_with fail
      go_ret
      exact ⟨some ⟨g, 0, none⟩, N, by rw [hN]; rfl, Rd.of_own (base := W.heap.size) (e := 2) (by rw [ray_len, hN]; exact hown) (by rw [ray_len]; omega), fun ad e => (by cases e; exact Nat.le_trans zW z1), HB.out⟩
end Go.Proofs.Ytjcdkbalhleeeab

namespace Go.Proofs.Ytjcdkbalhleeeab
open Go.RowKit

/-- Are numbers so many, within a limit? -/
def manyB (l : List Int) (many : Nat) (m : Int) : Bool := smallB m l && decide (l.length = many)
theorem span_small (m : Int) (A : Option Addr) (l : List Int) (c many : Nat) (w : World) (hm : 0 ≤ m) (hm' : m ≤ 4611686018427387904) (hr : Rd w A c l) :
    Calls Try.prog 134 #[.slice A l.length c, .int .i64 many, .int .i64 m] w fun e w' => e = .returned (.bool (manyB l many m)) ∧ w' = w := by
  have HR := Lib.hid hr
  obtain ⟨hl, hc, hsm, _⟩ := hr
  have HV := Lib.hid (show manyB l many m = (smallB m l && decide (l.length = many)) from rfl)
  go_enter Try.func134, Try.ntmps134
  go_wp2_with fail
  go_loop [11] (fun i => ∃ k : Nat, k ≤ l.length ∧ smallB m (l.take k) = true ∧ i = .int .i64 k) (fun i => l.length - (intOf i).toNat)
  case atStart => exact ⟨0, by omega, by simp [smallB], rfl⟩
  case round =>
    obtain ⟨k, hk, hs, rfl⟩ := hrel
    have HS := Lib.hid hs
    clear hs
    by_cases hlt : k < l.length
    · obtain ⟨ad, rfl, hc1⟩ := HR.out.at_ hlt
      have HT := Lib.hid (smallB_take (m := m) hlt)
      have HF := Lib.hid (smallB_false (m := m) hlt)
      by_cases h1 : l[k] < -m
      · go_wp2_with fail
        go_ret
        exact ⟨ret_bool (by rw [HV.out, HF.out (by simp; omega)]; rfl), rfl⟩
      · by_cases h2 : m < l[k]
        · go_wp2_with fail
          go_ret
          exact ⟨ret_bool (by rw [HV.out, HF.out (by simp; omega)]; rfl), rfl⟩
        · go_wp2_with fail
          go_round
          case rel => exact ⟨k + 1, by omega, by rw [HT.out, HS.out]; simp; omega, by go_num⟩
          case measure => simp [intOf]; omega
    · obtain rfl : k = l.length := by omega
      have HX := Lib.hid (show smallB m l = true by have := HS.out; rwa [List.take_length] at this)
      by_cases h0 : l.length = many
      · have hz : ((l.length : Int) == (many : Int)) = true := by simp; omega
        have H0 := Lib.hid h0
        clear h0
        go_wp2_with fail
        go_ret
        exact ⟨ret_bool (by rw [HV.out, HX.out, H0.out]; simp), rfl⟩
      · have hz : ((l.length : Int) == (many : Int)) = false := by simp; omega
        have H0 := Lib.hid h0
        clear h0
        go_wp2_with fail
        go_ret
        exact ⟨ret_bool (by rw [HV.out, HX.out, decide_eq_false H0.out]; rfl), rfl⟩
theorem Rd.getDk {w : World} {A : Option Addr} {c : Nat} {l : List Int} (h : Rd w A c l) {k : Nat} (hk : k < l.length) : ∃ ad, A = some ad ∧ w.cell? (ad.add k) = some (.int .i64 (l.getD k 0)) := by
  obtain ⟨ad, e, hc⟩ := h.at_ hk
  exact ⟨ad, e, by rw [hc]; simp [List.getD, List.getElem?_eq_getElem hk]⟩
theorem smallB_atD {l : List Int} (h : smallB 1073741824 l = true) (j : Nat) : -1073741824 ≤ l.getD j 0 ∧ l.getD j 0 ≤ 1073741824 := by
  by_cases hj : j < l.length
  · have := smallB_at h hj; simpa [List.getD, List.getElem?_eq_getElem hj] using this
  · simp [List.getD, List.getElem?_eq_none (Nat.le_of_not_lt hj)]
theorem Blk.turned {w w' : World} {g : Nat} {t : TypeId} {cs : Array Value} {S : Nat → Prop} (h : Blk w g t cs) (ht : Turned S w w') (hg : ¬ S g) : Blk w' g t cs := (ht.block g h.lt hg).trans h
/-- The numbers by which a span is narrowed. -/
def fN (sg : Int) (xs : List Int) (yd : Int) (j : Nat) : Int := sg * xs.getD j 0 * yd
set_option maxRecDepth 100000 in
set_option maxHeartbeats 2000000 in
theorem span_of (X : Option Addr) (xs : List Int) (cx : Nat) (xd : Int) (Y : Option Addr) (ys : List Int) (cy : Nat) (yd sg : Int) (w : World) (hx : Rd w X cx xs) (hy : Rd w Y cy ys) (hlen : xs.length = ys.length)
    (sx : smallB 1073741824 xs = true) (sy : smallB 1073741824 ys = true) (dx : 1 ≤ xd ∧ xd ≤ 1073741824) (dy : 1 ≤ yd ∧ yd ≤ 1073741824) (hs : sg = 1 ∨ sg = -1) :
    Calls Try.prog 135 #[.agg #[.slice X xs.length cx, .int .i64 xd], .agg #[.slice Y ys.length cy, .int .i64 yd], .int .i64 sg] w
      (RetEn w (endsF (ofZ (fN sg xs yd) (fN sg ys xd) xs.length)) (endsT (ofZ (fN sg xs yd) (fN sg ys xd) xs.length)) (endsE (ofZ (fN sg xs yd) (fN sg ys xd) xs.length))) := by
  have HX := Lib.hid hx
  have HY := Lib.hid hy
  obtain ⟨lx, cxm, sxm, _⟩ := hx
  obtain ⟨ly, cym, sym, _⟩ := hy
  obtain ⟨dx1, dx2⟩ := dx
  obtain ⟨dy1, dy2⟩ := dy
  have HSX := Lib.hid sx
  have HSY := Lib.hid sy
  have HLE := Lib.hid hlen
  rw [← hlen]
  rw [← hlen] at ly
  clear sx sy hlen sym
  go_enter Try.func135, Try.ntmps135
  go_wp2_with fail
  have BA := Lib.hid (show Blk (((((w.alloc (.cells #[.slice X xs.length cx, .int .i64 xd] 40)).alloc (.cells #[.slice Y xs.length cy, .int .i64 yd] 40)).alloc (.cells #[.bool false, .int .i64 0, .int .i64 0] 71)).alloc (.cells #[.bool false, .int .i64 0, .int .i64 0] 71)).alloc (.cells #[.bool true, .int .i64 0, .int .i64 0, .bool true, .int .i64 0, .int .i64 0, .bool false] 184)) w.heap.size 40 #[.slice X xs.length cx, .int .i64 xd] from ((((Blk.mk' _ _ _).alloc _).alloc _).alloc _).alloc _)
  have BB := Lib.hid (show Blk (((((w.alloc (.cells #[.slice X xs.length cx, .int .i64 xd] 40)).alloc (.cells #[.slice Y xs.length cy, .int .i64 yd] 40)).alloc (.cells #[.bool false, .int .i64 0, .int .i64 0] 71)).alloc (.cells #[.bool false, .int .i64 0, .int .i64 0] 71)).alloc (.cells #[.bool true, .int .i64 0, .int .i64 0, .bool true, .int .i64 0, .int .i64 0, .bool false] 184)) (w.heap.size + 1) 40 #[.slice Y xs.length cy, .int .i64 yd] from (((Blk.new _ _ _ _ (by simp)).alloc _).alloc _).alloc _)
  have BR := Lib.hid (show Blk (((((w.alloc (.cells #[.slice X xs.length cx, .int .i64 xd] 40)).alloc (.cells #[.slice Y xs.length cy, .int .i64 yd] 40)).alloc (.cells #[.bool false, .int .i64 0, .int .i64 0] 71)).alloc (.cells #[.bool false, .int .i64 0, .int .i64 0] 71)).alloc (.cells #[.bool true, .int .i64 0, .int .i64 0, .bool true, .int .i64 0, .int .i64 0, .bool false] 184)) (w.heap.size + 1 + 1) 71 #[.bool false, .int .i64 0, .int .i64 0] from ((Blk.new _ _ _ _ (by simp)).alloc _).alloc _)
  have BQ := Lib.hid (show Blk (((((w.alloc (.cells #[.slice X xs.length cx, .int .i64 xd] 40)).alloc (.cells #[.slice Y xs.length cy, .int .i64 yd] 40)).alloc (.cells #[.bool false, .int .i64 0, .int .i64 0] 71)).alloc (.cells #[.bool false, .int .i64 0, .int .i64 0] 71)).alloc (.cells #[.bool true, .int .i64 0, .int .i64 0, .bool true, .int .i64 0, .int .i64 0, .bool false] 184)) (w.heap.size + 1 + 1 + 1) 71 #[.bool false, .int .i64 0, .int .i64 0] from (Blk.new _ _ _ _ (by simp)).alloc _)
  have BS := Lib.hid (show Blk (((((w.alloc (.cells #[.slice X xs.length cx, .int .i64 xd] 40)).alloc (.cells #[.slice Y xs.length cy, .int .i64 yd] 40)).alloc (.cells #[.bool false, .int .i64 0, .int .i64 0] 71)).alloc (.cells #[.bool false, .int .i64 0, .int .i64 0] 71)).alloc (.cells #[.bool true, .int .i64 0, .int .i64 0, .bool true, .int .i64 0, .int .i64 0, .bool false] 184)) (w.heap.size + 1 + 1 + 1 + 1) 184 (nwA (ofZ (fN sg xs yd) (fN sg ys xd) 0)) from Blk.new _ _ _ _ (by simp))
  have HVW := Lib.hid ((by (repeat (any_goals (first | exact Below.refl _ _ | refine below_drewN ?_ _ | refine Below.drew ?_ | refine Below.alloc ?_ ?_ _ | refine Below.setCell ?_ ?_ _))); all_goals (first | omega | (simp; done) | (simp; omega))) : Below w.heap.size w (((((w.alloc (.cells #[.slice X xs.length cx, .int .i64 xd] 40)).alloc (.cells #[.slice Y xs.length cy, .int .i64 yd] 40)).alloc (.cells #[.bool false, .int .i64 0, .int .i64 0] 71)).alloc (.cells #[.bool false, .int .i64 0, .int .i64 0] 71)).alloc (.cells #[.bool true, .int .i64 0, .int .i64 0, .bool true, .int .i64 0, .int .i64 0, .bool false] 184)))
  generalize (((((w.alloc (.cells #[.slice X xs.length cx, .int .i64 xd] 40)).alloc (.cells #[.slice Y xs.length cy, .int .i64 yd] 40)).alloc (.cells #[.bool false, .int .i64 0, .int .i64 0] 71)).alloc (.cells #[.bool false, .int .i64 0, .int .i64 0] 71)).alloc (.cells #[.bool true, .int .i64 0, .int .i64 0, .bool true, .int .i64 0, .int .i64 0, .bool false] 184)) = V at *
  have zV := HVW.out.size
  have zS := BS.out.lt
  go_loopw [19] (fun i wx => ∃ k : Nat, k ≤ xs.length ∧ i = .int .i64 k ∧ Blk wx (w.heap.size + 1 + 1 + 1 + 1) 184 (nwA (ofZ (fN sg xs yd) (fN sg ys xd) k)) ∧ Turned (· = w.heap.size + 1 + 1 + 1 + 1) V wx) (fun i _ => xs.length - (intOf i).toNat)
  case atStart => exact ⟨0, by omega, rfl, BS.out, Turned.refl _ _⟩
  case round =>
    obtain ⟨k, hk, rfl, hS, hT⟩ := hrel
    have HS := Lib.hid hS
    have HT := Lib.hid hT
    have HBW := Lib.hid (show Below w.heap.size w _ from HVW.out.trans (hT.below zV fun k e => by omega))
    have BA2 := Lib.hid (BA.out.turned hT (by omega))
    have BB2 := Lib.hid (BB.out.turned hT (by omega))
    have zX := hT.size
    have lS := hS.lt
    clear hS hT
    rename World => U
    by_cases hlt : k < xs.length
    · obtain ⟨ax, rfl, hcx⟩ := (HX.out.below HBW.out).getDk hlt
      obtain ⟨ay, rfl, hcy⟩ := (HY.out.below HBW.out).getDk (k := k) (by rw [← HLE.out]; exact hlt)
      have hayl := World.block_lt_of_cell? _ _ hcy
      have hb1 := smallB_atD HSX.out k
      have hb2 := smallB_atD HSY.out k
      have HF := Lib.hid (show fN sg xs yd k = sg * xs.getD k 0 * yd from rfl)
      have HG := Lib.hid (show fN sg ys xd k = sg * ys.getD k 0 * xd from rfl)
      have HOF := Lib.hid (ofZ_succ (fN sg xs yd) (fN sg ys xd) k)
      generalize xs.getD k 0 = xv at *
      generalize ys.getD k 0 = yv at *
      have hsx : -1073741824 ≤ sg * xv ∧ sg * xv ≤ 1073741824 := by rcases hs with e | e <;> rw [e] <;> omega
      have hsy : -1073741824 ≤ sg * yv ∧ sg * yv ≤ 1073741824 := by rcases hs with e | e <;> rw [e] <;> omega
      obtain ⟨hm1, hm2⟩ := mul_bound (sg * xv) yd 1073741824 1073741824 hsx.1 hsx.2 (by omega) dy2
      obtain ⟨hm3, hm4⟩ := mul_bound (sg * yv) xd 1073741824 1073741824 hsy.1 hsy.2 (by omega) dx2
      have hw1 : IntKind.i64.wrap (sg * xv) = sg * xv := IntWalk.i64_in _ (by omega)
      have hw2 : IntKind.i64.wrap (sg * xv * yd) = sg * xv * yd := IntWalk.i64_in _ (by omega)
      have hw3 : IntKind.i64.wrap (sg * yv) = sg * yv := IntWalk.i64_in _ (by omega)
      have hw4 : IntKind.i64.wrap (sg * yv * xd) = sg * yv * xd := IntWalk.i64_in _ (by omega)
      have HM := Lib.hid (show -4611686018427387904 ≤ sg * xv * yd ∧ sg * xv * yd ≤ 4611686018427387904 by omega)
      have s0 : ∀ u : Wk U, u.1.cell? ⟨w.heap.size, 1, none⟩ = some (.int .i64 xd) := fun u => (BA2.out.next u.2).cell 1
      have s1 : ∀ u : Wk U, u.1.cell? ⟨w.heap.size + 1, 0, none⟩ = some (.slice (some ay) xs.length cy) := fun u => (BB2.out.next u.2).cell 0
      have s2 : ∀ u : Wk U, u.1.cell? ⟨w.heap.size + 1, 1, none⟩ = some (.int .i64 yd) := fun u => (BB2.out.next u.2).cell 1
      have s3 : ∀ u : Wk U, u.1.cell? (ay.add k) = some (.int .i64 yv) := fun u => (u.2.cell hayl).trans hcy
      have hi0 : (k : Int) < (xs.length : Int) := by omega
      clear hb1 hb2 hsx hsy hm1 hm2 hm3 hm4 hcy
      go_wp2_with fail
      refine wk_tail 17 (by kernel_rfl) (by kernel_rfl) ?_
      simp only [List.take_succ_cons, List.take_zero, List.drop_succ_cons, List.drop_zero]
      repeat (go_big_quiet_step (fail))
      refine wpQuiet_nil ?_
      rintro w7 ⟨u7, rfl⟩
      go_wp2_with fail
      refine (span_below _ _ _ _ _ (HS.out.next u7.2) HM.out).mono ?_
      rintro e w8 ⟨rfl, hB8, hT8⟩
      have HB8 := Lib.hid hB8
      have HT8 := Lib.hid (HT.out.trans ((Turned.of_below u7.2).trans hT8))
      clear hB8 hT8
      go_wp2_with fail
      go_roundw
      case rel => exact ⟨k + 1, by omega, by go_num, by rw [HOF.out, HF.out, HG.out]; exact HB8.out, HT8.out⟩
      case measure => simp [intOf]; omega
    · obtain rfl : k = xs.length := by omega
      have BR2 := Lib.hid (BR.out.turned HT.out (by omega))
      have BQ2 := Lib.hid (BQ.out.turned HT.out (by omega))
      go_wp2_with fail
      refine (span_ends _ _ _ HS.out).mono ?_
      rintro e w8 ⟨rfl, hb8⟩
      have z0 : w8.cell? ⟨w.heap.size + 1 + 1, 0, none⟩ = some (.bool false) := (BR2.out.next hb8).cell 0
      have z1 : w8.cell? ⟨w.heap.size + 1 + 1, 1, none⟩ = some (.int .i64 0) := (BR2.out.next hb8).cell 1
      have z2 : w8.cell? ⟨w.heap.size + 1 + 1, 2, none⟩ = some (.int .i64 0) := (BR2.out.next hb8).cell 2
      have z3 : w8.cell? ⟨w.heap.size + 1 + 1 + 1, 0, none⟩ = some (.bool false) := (BQ2.out.next hb8).cell 0
      have z4 : w8.cell? ⟨w.heap.size + 1 + 1 + 1, 1, none⟩ = some (.int .i64 0) := (BQ2.out.next hb8).cell 1
      have z5 : w8.cell? ⟨w.heap.size + 1 + 1 + 1, 2, none⟩ = some (.int .i64 0) := (BQ2.out.next hb8).cell 2
      have y0 := (BR2.out.next hb8).frozen 0
      have y1 := (BR2.out.next hb8).frozen 1
      have y2 := (BR2.out.next hb8).frozen 2
      have y3 := (BQ2.out.next hb8).frozen 0
      have y4 := (BQ2.out.next hb8).frozen 1
      have y5 := (BQ2.out.next hb8).frozen 2
      have HB8 := Lib.hid (HBW.out.trans (hb8.mono HBW.out.size))
      clear hb8
      generalize endsF (ofZ (fN sg xs yd) (fN sg ys xd) xs.length) = ef at *
      generalize endsT (ofZ (fN sg xs yd) (fN sg ys xd) xs.length) = et at *
      generalize endsE (ofZ (fN sg xs yd) (fN sg ys xd) xs.length) = ee at *
      go_wp2_with fail
      refine bodyPost_ret (v := .tuple #[.agg #[.bool ef.op, .int .i64 ef.n, .int .i64 ef.d], .agg #[.bool et.op, .int .i64 et.n, .int .i64 et.d], .int .i64 ee]) ?_ ?_ ?_
      · simp [results, Try.results135, go_sem, z0, z1, z2, z3, z4, z5]
      · rfl
      · refine ⟨rfl, ?_⟩
        iterate 6 refine Below.setCell ?_ (by first | (simp; done) | (simp; omega)) _
        exact HB8.out
end Go.Proofs.Ytjcdkbalhleeeab
