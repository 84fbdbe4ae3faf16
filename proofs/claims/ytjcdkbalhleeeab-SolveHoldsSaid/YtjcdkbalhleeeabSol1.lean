/-
  Solve: solve.Goes, solve.Corners, solve.begin compute what the plain words say.
-/
import Derived.Test.YtjcdkbalhleeeabItr1
namespace Go.Proofs.Ytjcdkbalhleeeab
open Go.RowKit

section
variable {B : Nat} {W W' : World}
theorem Blk.kw {g : Nat} {t : TypeId} {cs : Array Value} (h : Blk W g t cs) (k : KW B W W') : Blk W' g t cs := k.same _ _ h (.inr rfl)
theorem Rd.kw {A : Option Addr} {c : Nat} {l : List Int} (h : Rd W A c l) (k : KW B W W') : Rd W' A c l :=
  ⟨h.le, h.cap, h.small, fun hl => by
    obtain ⟨ad, e, hc⟩ := h.cells hl
    exact ⟨ad, e, fun j u hu => k.cell (hc j u hu)⟩⟩
theorem CnN.kw {X Y G : Option Addr} {cx cy cg : Nat} {c : CO} (h : CnN W X cx Y cy G cg c) (k : KW B W W') : CnN W' X cx Y cy G cg c := ⟨h.x.kw k, h.y.kw k, h.g.kw k⟩
end

set_option maxRecDepth 100000 in
/-- Are all columns 0 or above? -/
theorem solve_Goes (X Y G : Option Addr) (cx ny cy ng cg : Nat) (xs : List Int) (xd yd gd : Int) (w : World) (hx : Rd w X cx xs) :
    Calls Try.prog 52 #[.agg #[.slice X xs.length cx, .int .i64 xd, .slice Y ny cy, .int .i64 yd, .slice G ng cg, .int .i64 gd]] w fun e w' => e = .returned (.bool (nonneg xs)) ∧ Below w.heap.size w w' := by
  have HX := Lib.hid hx
  obtain ⟨hl, hc, hs, _⟩ := hx
  go_enter Try.func52, Try.ntmps52
  go_wp2_with fail
  have BC := Lib.hid (Blk.mk' w 42 #[.slice X xs.length cx, .int .i64 xd, .slice Y ny cy, .int .i64 yd, .slice G ng cg, .int .i64 gd])
  have HB := Lib.hid ((Below.refl w.heap.size w).alloc (Nat.le_refl _) (.cells #[.slice X xs.length cx, .int .i64 xd, .slice Y ny cy, .int .i64 yd, .slice G ng cg, .int .i64 gd] 42))
  generalize (w.alloc (.cells #[.slice X xs.length cx, .int .i64 xd, .slice Y ny cy, .int .i64 yd, .slice G ng cg, .int .i64 gd] 42)) = W at *
  go_loopw [9] (fun i wx => wx = W ∧ ∃ k : Nat, k ≤ xs.length ∧ i = .int .i64 k ∧ Hid (∀ j, j < k → 0 ≤ xs.getD j 0)) (fun i _ => xs.length - (intOf i).toNat)
  case atStart => exact ⟨rfl, 0, by omega, rfl, Lib.hid fun j hj => by omega⟩
  case round =>
    obtain ⟨rfl, k, hk, rfl, hall⟩ := hrel
    rename World => W
    by_cases hlt : k < xs.length
    · obtain ⟨ax, rfl, hcx⟩ := (HX.out.below HB.out).getD_at (k := k) hlt
      have hax := World.block_lt_of_cell? _ _ hcx
      have hi0 : (k : Int) < (xs.length : Int) := by omega
      by_cases hneg : xs.getD k 0 < 0
      · have HF := Lib.hid (show nonneg xs = false by
          rw [Bool.eq_false_iff]
          intro h
          have := nonneg_at h k
          omega)
        obtain ⟨xv, hxv⟩ : ∃ xv, xs.getD k 0 = xv := ⟨_, rfl⟩
        rw [hxv] at hcx hneg
        clear hxv hall
        go_wp2_with fail
        go_ret
        exact ⟨by rw [HF.out]; rfl, HB.out⟩
      · have HA := Lib.hid (show ∀ j, j < k + 1 → 0 ≤ xs.getD j 0 from fun j hj => by
          by_cases e : j = k
          · subst e; omega
          · exact hall.out j (by omega))
        obtain ⟨xv, hxv⟩ : ∃ xv, xs.getD k 0 = xv := ⟨_, rfl⟩
        rw [hxv] at hcx hneg
        clear hxv hall
        go_wp2_with fail
        go_roundw
        case rel => exact ⟨trivial, k + 1, by omega, by go_num, HA⟩
        case measure => simp [intOf]; omega
    · obtain rfl : k = xs.length := by omega
      have HT := Lib.hid (show nonneg xs = true from nonneg_of fun j => by
        by_cases hj : j < xs.length
        · exact hall.out j hj
        · rw [List.getD, List.getElem?_eq_none (by omega)]; simp)
      clear hall
      go_wp2_with fail
      go_ret
      exact ⟨by rw [HT.out]; rfl, HB.out⟩

/-- The iterator's value is handed back. -/
def RetC (w : World) (A : Option Addr) (c : Nat) (A2 : Option Addr) (c2 : Nat) (p : PG) (e : Ending) (w' : World) : Prop :=
  ∃ b1 b2 b3, e = .returned (.func (.func 98) #[] #[.pointer (some ⟨b1, 0, none⟩), .pointer (some ⟨b2, 0, none⟩), .pointer (some ⟨b3, 0, none⟩)]) ∧
    w.heap.size ≤ b1 ∧ w.heap.size ≤ b2 ∧ w.heap.size ≤ b3 ∧ w'.cell? ⟨b1, 0, none⟩ = some (.int .i64 p.costs.length) ∧ w'.cell? ⟨b2, 0, none⟩ = some (.int .i64 p.rows.length) ∧
    w'.cell? ⟨b3, 0, none⟩ = some (.slice A p.costs.length c) ∧ w'.cell? ⟨b3, 1, none⟩ = some (.slice A2 p.rows.length c2) ∧ Below w.heap.size w w'
theorem two_boxes (V : World) (x y : Value) (t : TypeId) : ((V.alloc (.cells #[x] t)).alloc (.cells #[y] t)).drew.cell? ⟨V.heap.size, 0, none⟩ = some x ∧ ((V.alloc (.cells #[x] t)).alloc (.cells #[y] t)).drew.cell? ⟨V.heap.size + 1, 0, none⟩ = some y ∧
    (∀ q v, V.cell? q = some v → ((V.alloc (.cells #[x] t)).alloc (.cells #[y] t)).drew.cell? q = some v) ∧ Below V.heap.size V ((V.alloc (.cells #[x] t)).alloc (.cells #[y] t)).drew := by
  have hb : Below V.heap.size V ((V.alloc (.cells #[x] t)).alloc (.cells #[y] t)).drew := (((Below.refl _ V).alloc (Nat.le_refl _) _).alloc (by simp) _).drew
  refine ⟨((Blk.mk' V t #[x]).alloc _).cell 0, ?_, fun q v hq => (hb.cell (World.block_lt_of_cell? _ _ hq)).trans hq, hb⟩
  have := Blk.mk' (V.alloc (.cells #[x] t)) t #[y]
  rw [World.size_alloc] at this
  exact this.cell 0
set_option maxRecDepth 100000 in
theorem solve_Corners (A : Option Addr) (c : Nat) (A2 : Option Addr) (c2 : Nat) (p : PG) (w : World) :
    Calls Try.prog 51 #[.agg #[.slice A p.costs.length c, .slice A2 p.rows.length c2]] w (RetC w A c A2 c2 p) := by
  unfold RetC
  generalize p.costs.length = n
  generalize p.rows.length = m
  go_enter Try.func51, Try.ntmps51
  go_upto_region 1 with fail
  have BP := Lib.hid (Blk.mk' w 25 #[.slice A n c, .slice A2 m c2])
  have HB := Lib.hid ((Below.refl w.heap.size w).alloc (Nat.le_refl _) (.cells #[.slice A n c, .slice A2 m c2] 25))
  have lV : (w.alloc (.cells #[.slice A n c, .slice A2 m c2] 25)).heap.size = w.heap.size + 1 := by simp
  have lw : w.heap.size < (w.alloc (.cells #[.slice A n c, .slice A2 m c2] 25)).heap.size := by omega
  have LV := Lib.hid lV
  clear lV
  generalize (w.alloc (.cells #[.slice A n c, .slice A2 m c2] 25)) = V at *
  have p0 : V.cell? ⟨w.heap.size, 0, none⟩ = some (.slice A n c) := BP.out.cell 0
  have p1 : V.cell? ⟨w.heap.size, 1, none⟩ = some (.slice A2 m c2) := BP.out.cell 1
  go_region
  all_goals go_wp2_with fail
  all_goals go_ret
  · obtain ⟨k1, k2, k3, k4⟩ := two_boxes V (.int .i64 n) (.int .i64 m) 3
    exact ⟨_, _, _, rfl, by omega, by omega, Nat.le_refl _, k1, k2, k3 _ _ p0, k3 _ _ p1, HB.out.trans (k4.mono (by omega))⟩
  · obtain ⟨k1, k2, k3, k4⟩ := two_boxes V (.int .i64 m) (.int .i64 n) 3
    exact ⟨_, _, _, rfl, by omega, by omega, Nat.le_refl _, k2, k1, k3 _ _ p0, k3 _ _ p1, HB.out.trans (k4.mono (by omega))⟩

/-- A corner's columns are handed back, or none. -/
def RetBg (w : World) (p : PG) (e : Ending) (w' : World) : Prop :=
  Below w.heap.size w w' ∧ (begZ p = none → e = .returned (.slice none 0 0)) ∧ ∀ l, begZ p = some l → ∃ L cl, e = .returned (.slice L l.length cl) ∧ Rd w' L cl (ints l)
theorem beg_at {p : PG} {k : Nat} (hk : k < (cornersZ p).length) (hg : nonneg (lookN p ((cornersZ p).getD k [])).xs = true) (hn : ∀ i, i < k → nonneg (lookN p ((cornersZ p).getD i [])).xs = false) : begZ p = some ((cornersZ p).getD k []) := by
  unfold begZ
  have e : (cornersZ p).getD k [] = (cornersZ p)[k] := by simp [List.getD, List.getElem?_eq_getElem hk]
  rw [List.find?_eq_some_iff_getElem]
  refine ⟨hg, k, hk, e.symm, fun j hj => ?_⟩
  have := hn j hj
  rw [List.getD, List.getElem?_eq_getElem (by omega), Option.getD_some] at this
  simp [this]
theorem beg_no {p : PG} (hn : ∀ i, i < (cornersZ p).length → nonneg (lookN p ((cornersZ p).getD i [])).xs = false) : begZ p = none := by
  unfold begZ
  rw [List.find?_eq_none]
  intro x hx
  obtain ⟨j, hj, rfl⟩ := List.mem_iff_getElem.1 hx
  have := hn j hj
  rw [List.getD, List.getElem?_eq_getElem hj, Option.getD_some] at this
  simp [this]
attribute [local go_sem] Oper.semAt_some
set_option maxRecDepth 100000 in
set_option maxHeartbeats 2000000 in
theorem solve_begin (A : Option Addr) (c : Nat) (A2 : Option Addr) (c2 : Nat) (p : PG) (w : World) (hp : Pg w A c A2 c2 p) (hm : mayPB p = true) :
    Calls Try.prog 64 #[.agg #[.slice A p.costs.length c, .slice A2 p.rows.length c2]] w (RetBg w p) := by
  have HP := Lib.hid hp
  have HM := Lib.hid hm
  clear hp hm
  refine calls_of_marks Try.func64 rfl ?_
  simp only [Try.ntmps64, List.size_toArray, List.length_cons, List.length_nil, Nat.reduceAdd, Nat.reduceSub, Array.replicate_succ, Array.replicate_zero, List.push_toArray, List.append_toArray, List.nil_append, List.cons_append]
  go_wp2_with fail
  refine (solve_Corners A c A2 c2 p _).mono ?_
  rintro e w1 ⟨b1, b2, b3, rfl, l1, l2, l3, k1, k2, k3, k4, hb1⟩
  go_wp2_with fail
  have BR := Lib.hid (show Blk w1 (w.heap.size + 1) 26 #[.slice none 0 0] from Blk.next (by
    have := Blk.mk' (w.alloc (.cells #[.slice A p.costs.length c, .slice A2 p.rows.length c2] 25)) 26 #[.slice none 0 0]
    simpa using this) hb1)
  have HB1 := Lib.hid (show Below w.heap.size w w1 from (((Below.refl w.heap.size w).alloc (Nat.le_refl _) _).alloc (by simp) _).trans (hb1.mono (by simp; omega)))
  have z1 := hb1.size
  simp only [World.size_alloc] at z1 l1 l2 l3
  have q1 := World.block_lt_of_cell? _ _ k1
  have q2 := World.block_lt_of_cell? _ _ k2
  have q3 := World.block_lt_of_cell? _ _ k3
  simp only at q1 q2 q3
  obtain ⟨S, hS⟩ : ∃ S : Nat → Prop, S = fun i => i < w.heap.size ∨ i = b1 ∨ i = b2 ∨ i = b3 := ⟨_, rfl⟩
  have HS := Lib.hid hS
  have hbox : BoxC S w1 b1 b2 b3 A c A2 c2 p := by
    subst hS
    exact ⟨.inr (.inl rfl), .inr (.inr (.inl rfl)), .inr (.inr (.inr rfl)), k1, k2, k3, k4, fun W h => HP.out.below (HB1.out.trans (h.below (fun i hi => .inl hi) HB1.out.size))⟩
  have hSn : ∀ i, S i → i < w1.heap.size := by
    subst hS
    rintro i (h | rfl | rfl | rfl) <;> omega
  have hSr : ¬ S (w.heap.size + 1) := by
    subst hS
    rintro (h | h | h | h) <;> omega
  have HSB := Lib.hid (show ∀ W, KS S w1 W → Below w.heap.size w W from fun W h => by
    subst hS
    exact HB1.out.trans (h.below (fun i hi => .inl hi) HB1.out.size))
  have HIT := Lib.hid (corners_iter S w1 b1 b2 b3 A c A2 c2 p hbox HM.out)
  clear hb1 k1 k2 k3 k4 hbox hS
  refine wp_iter (gf := 98) (lb := #[.pointer (some ⟨b1, 0, none⟩), .pointer (some ⟨b2, 0, none⟩), .pointer (some ⟨b3, 0, none⟩)]) rfl (enters_of Try.func98 (by kernel_rfl) rfl) HIT.out (KS.refl _ _) hSn
    (fun k args W h => by obtain ⟨_, _, _, _, _, _, _, _, rfl, _⟩ := h; rfl)
    (fun k W => (∀ i, i < k → nonneg (lookN p ((cornersZ p).getD i [])).xs = false) ∧ Blk W (w.heap.size + 1) 26 #[.slice none 0 0])
    (fun cd k W => cd = .ret ∧ nonneg (lookN p ((cornersZ p).getD k [])).xs = true ∧ (∀ i, i < k → nonneg (lookN p ((cornersZ p).getD i [])).xs = false) ∧ ∃ L cl, Blk W (w.heap.size + 1) 26 #[.slice L ((cornersZ p).getD k []).length cl] ∧ Rd W L cl (ints ((cornersZ p).getD k [])))
    (fun k X Y h kw => ⟨h.1, h.2.kw kw⟩)
    (fun cd k X Y h kw => by obtain ⟨h1, h2, h3, L, cl, h4, h5⟩ := h; exact ⟨h1, h2, h3, L, cl, h4.kw kw, h5.kw kw⟩)
    ⟨fun i hi => by omega, BR.out⟩ ?round ?done ?stop
  case round =>
    rintro l k args W hl hk ⟨hno, hbr⟩ hks ⟨L, cl, X, cx, Y, cy, G, cg, rfl, hL, hC, hLB⟩ hlt
    have HNO := Lib.hid hno
    have HBR := Lib.hid hbr
    have HKS := Lib.hid hks
    have HL := Lib.hid hL
    have HC := Lib.hid hC
    have HLO := Lib.hid hLB
    obtain ⟨lb, hlb⟩ : ∃ lb, (cornersZ p).getD k [] = lb := ⟨_, rfl⟩
    have HLB := Lib.hid hlb
    rw [hlb] at HL HC ⊢
    clear hno hbr hks hL hC hlb hLB
    gi_wp2
    refine ⟨(KeepsOthers.alloc _ _).from _, (KS.refl _ _).alloc _, fun Wb hkw hks2 => ?_⟩
    have BC := Lib.hid (show Blk Wb W.heap.size 42 #[.slice X (lookN p lb).xs.length cx, .int .i64 (lookN p lb).xd, .slice Y (lookN p lb).ys.length cy, .int .i64 (lookN p lb).yd, .slice G (lookN p lb).gs.length cg, .int .i64 (lookN p lb).gd] from (Blk.mk' _ _ _).kw hkw)
    have kwa : KW w1.heap.size W (W.alloc (.cells #[.slice X (lookN p lb).xs.length cx, .int .i64 (lookN p lb).xd, .slice Y (lookN p lb).ys.length cy, .int .i64 (lookN p lb).yd, .slice G (lookN p lb).gs.length cg, .int .i64 (lookN p lb).gd] 42)) := .of_below ((Below.refl _ W).alloc (Nat.le_refl _) _)
    have HL2 := Lib.hid (HL.out.kw (kwa.trans hkw))
    have HC2 := Lib.hid (HC.out.kw (kwa.trans hkw))
    have HBR2 := Lib.hid (HBR.out.kw (kwa.trans hkw))
    clear kwa hkw hks2
    generalize W.heap.size = bc at *
    have e0 := BC.out.cell 0
    have e1 := BC.out.cell 1
    have e2 := BC.out.cell 2
    have e3 := BC.out.cell 3
    have e4 := BC.out.cell 4
    have e5 := BC.out.cell 5
    simp at e0 e1 e2 e3 e4 e5
    have r0 : Wb.cell? ⟨w.heap.size + 1, 0, none⟩ = some (.slice none 0 0) := HBR2.out.cell 0
    have r1 := HBR2.out.frozen 0
    have HGO := Lib.hid (solve_Goes X Y G cx (lookN p lb).ys.length cy (lookN p lb).gs.length cg (lookN p lb).xs (lookN p lb).xd (lookN p lb).yd (lookN p lb).gd Wb HC2.out.x)
    cases hg : nonneg (lookN p lb).xs with
    | false =>
      rw [hg] at HGO
      have HG := Lib.hid hg
      clear hg
      gi_wp2_with fail
      refine ⟨trivial, rfl, ?_⟩
      refine (CallsIn.inRound l (callsIn_wide.2 HGO.out)).mono ?_
      rintro e w3 ⟨rfl, hb3⟩
      gi_wp2_with fail
      refine ⟨(KeepsFrom.of_below hb3 _), .of_below hb3, fun i hi => ?_, HBR2.out.next hb3⟩
      by_cases e : i = k
      · subst e; rw [HLB.out]; exact HG.out
      · exact HNO.out i (by omega)
    | true =>
      rw [hg] at HGO
      have HG := Lib.hid hg
      clear hg
      gi_wp2_with fail
      refine ⟨trivial, rfl, ?_⟩
      refine (CallsIn.inRound l (callsIn_wide.2 HGO.out)).mono ?_
      rintro e w3 ⟨rfl, hb3⟩
      have r0' : w3.cell? ⟨w.heap.size + 1, 0, none⟩ = some (.slice none 0 0) := (HBR2.out.next hb3).cell 0
      have r1' := (HBR2.out.next hb3).frozen 0
      gi_wp2_with fail
      refine ⟨(KeepsFrom.of_below hb3 _).trans ((KeepsOthers.setCell _ _ _).from _), (KS.of_below hb3).setCell _ _ hSr, rfl, by rw [HLB.out]; exact HG.out, HNO.out, L, cl, ?_, ?_⟩
      · rw [HLB.out]; exact (HBR2.out.next hb3).set0 0 _
      · rw [HLB.out]; exact (HL2.out.below hb3).setCell_out _ _ (fun ad e q => by have := HLO.out ad e; simp at q; omega)
  case done =>
    rintro D W hD ⟨hno, hbr⟩ hks hK
    have HK := Lib.hid hK
    have HBR := Lib.hid hbr
    have HKS := Lib.hid hks
    have HNO := Lib.hid (beg_no hno)
    have r0 : W.cell? ⟨w.heap.size + 1, 0, none⟩ = some (.slice none 0 0) := hbr.cell 0
    have r1 := hbr.frozen 0
    clear hno hbr hks hK
    go_wp2_with fail
    have hK' := (KeepsOthers.setCell W ⟨w.heap.size + 1, 0, none⟩ (.slice none 0 0)).same D _ HK.out rfl
    have hkw := KW.putObj (B := 0) (.deferred none) (Nat.zero_le _) hK' rfl
    have hc5 := ((HBR.out.set0 0 (.slice none 0 0)).kw hkw).cell 0
    simp at hc5
    refine ⟨by simp, .inl ⟨_, _, rfl, run_takeDeferred hK', .slice none 0 0, ?_, HSB.out _ ((HKS.out.setCell _ _ hSr).putObj _ fun h => by have := hSn _ h; omega), fun _ => rfl, fun l h => by rw [HNO.out] at h; cases h⟩⟩
    simp [results, Try.results64, go_sem, hc5]
  case stop =>
    rintro D cd k W hD hk ⟨rfl, hg, hno, L, cl, hbr, hL⟩ hks hK
    have HK := Lib.hid hK
    have HBR := Lib.hid hbr
    have HKS := Lib.hid hks
    have HL := Lib.hid hL
    have HBG := Lib.hid (beg_at hk hg hno)
    clear hg hno hbr hks hK hL
    obtain ⟨lb, hlb⟩ : ∃ lb, (cornersZ p).getD k [] = lb := ⟨_, rfl⟩
    rw [hlb] at HBG HL HBR
    clear hlb
    go_wp2_with fail
    have hkw := KW.putObj (B := 0) (.deferred none) (Nat.zero_le _) HK.out rfl
    have hc5 := (HBR.out.kw hkw).cell 0
    simp at hc5
    refine ⟨by simp, .inl ⟨_, _, rfl, run_takeDeferred HK.out, .slice L lb.length cl, ?_, ?_⟩⟩
    · simp [results, Try.results64, go_sem, hc5]
    · refine ⟨HSB.out _ (HKS.out.putObj _ fun h => by have := hSn _ h; omega), fun h => ?_, fun l h => ?_⟩
      · rw [HBG.out] at h; cases h
      · rw [HBG.out] at h
        injection h with h
        subst h
        exact ⟨L, cl, rfl, HL.out.kw hkw⟩
end Go.Proofs.Ytjcdkbalhleeeab
