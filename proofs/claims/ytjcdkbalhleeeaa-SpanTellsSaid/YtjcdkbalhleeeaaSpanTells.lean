/-
  The walk of the law SpanTells: it returns true. No condition but that its arguments read as a program, columns and numbers.
-/
import Derived.Test.YtjcdkbalhleeeaaSpan7
import Derived.Test.YtjcdkbalhleeeaaCorn2
namespace Go.Proofs.Ytjcdkbalhleeeaa
open Go.RowKit

theorem ends_true (s : NW) (w : World) : Calls Try.prog 43 #[.agg #[.bool s.fr.op, .int .i64 s.fr.n, .int .i64 s.fr.d, .bool s.to.op, .int .i64 s.to.n, .int .i64 s.to.d, .bool s.no], .bool true,
    .agg #[.bool s.fr.op, .int .i64 s.fr.n, .int .i64 s.fr.d], .agg #[.bool s.to.op, .int .i64 s.to.n, .int .i64 s.to.d], .int .i64 0] w fun e w' => e = .returned (.bool true) ∧ Below w.heap.size w w' := by
  go_enter Try.func43, Try.ntmps43
  go_wp2_with fail
  go_ret
  exact ⟨rfl, (by (repeat (any_goals (first | exact Below.refl _ _ | refine below_drewN ?_ _ | refine Below.drew ?_ | refine Below.alloc ?_ ?_ _ | refine Below.setCell ?_ ?_ _))); all_goals (first | omega | (simp; done) | (simp; omega)))⟩
theorem ends_false (s : NW) (w : World) : Calls Try.prog 43 #[.agg #[.bool s.fr.op, .int .i64 s.fr.n, .int .i64 s.fr.d, .bool s.to.op, .int .i64 s.to.n, .int .i64 s.to.d, .bool s.no], .bool false,
    .agg #[.bool false, .int .i64 0, .int .i64 0], .agg #[.bool false, .int .i64 0, .int .i64 0], .int .i64 4] w fun e w' => e = .returned (.bool true) ∧ Below w.heap.size w w' := by
  go_enter Try.func43, Try.ntmps43
  go_wp2_with fail
  go_ret
  exact ⟨rfl, (by (repeat (any_goals (first | exact Below.refl _ _ | refine below_drewN ?_ _ | refine Below.drew ?_ | refine Below.alloc ?_ ?_ _ | refine Below.setCell ?_ ?_ _))); all_goals (first | omega | (simp; done) | (simp; omega)))⟩
theorem endsE_cases (s : NW) : endsE s = 0 ∨ endsE s = 4 := by unfold endsE; split <;> simp
theorem ends_call (s x : NW) (hx : x = if someZ s = true then s else zeroN) (ef et : EN) (ee : Int) (h1 : ef = endsF s) (h2 : et = endsT s) (h3 : ee = endsE s) (hok : NOk s) (w : World) :
    Calls Try.prog 43 #[.agg #[.bool x.fr.op, .int .i64 x.fr.n, .int .i64 x.fr.d, .bool x.to.op, .int .i64 x.to.n, .int .i64 x.to.d, .bool x.no], .bool (someZ s),
      .agg #[.bool ef.op, .int .i64 ef.n, .int .i64 ef.d], .agg #[.bool et.op, .int .i64 et.n, .int .i64 et.d], .int .i64 ee] w fun e w' => e = .returned (.bool true) ∧ Below w.heap.size w w' := by
  subst h1 h2 h3
  cases hs : someZ s with
  | true =>
    have h0 := (ends_some hok).2 hs
    rw [hx, if_pos hs, show endsF s = s.fr by unfold endsF; rw [if_pos h0], show endsT s = s.to by unfold endsT; rw [if_pos h0], h0]
    exact ends_true s w
  | false =>
    have h0 : ¬ endsE s = 0 := fun h => by have := (ends_some hok).1 h; rw [hs] at this; cases this
    have h4 : endsE s = 4 := (endsE_cases s).resolve_left h0
    rw [hx, if_neg (by rw [hs]; decide), show endsF s = zeroE by unfold endsF; rw [if_neg h0], show endsT s = zeroE by unfold endsT; rw [if_neg h0], h4]
    exact ends_false zeroN w

/-- The cells that the law reads. -/
structure LawC (w1 w2 : Nat) (w0 : Nat) (A : Option Addr) (n c : Nat) (A2 : Option Addr) (m c2 : Nat) (ef et mf mt : EN) (W : World) : Prop where
  p0 : W.cell? ⟨w0, 0, none⟩ = some (.slice A n c)
  p1 : W.cell? ⟨w0, 1, none⟩ = some (.slice A2 m c2)
  a0 : W.cell? ⟨w1, 0, none⟩ = some (.bool ef.op)
  a1 : W.cell? ⟨w1, 1, none⟩ = some (.int .i64 ef.n)
  a2 : W.cell? ⟨w1, 2, none⟩ = some (.int .i64 ef.d)
  b0 : W.cell? ⟨w1 + 1, 0, none⟩ = some (.bool et.op)
  b1 : W.cell? ⟨w1 + 1, 1, none⟩ = some (.int .i64 et.n)
  b2 : W.cell? ⟨w1 + 1, 2, none⟩ = some (.int .i64 et.d)
  c0 : W.cell? ⟨w2, 0, none⟩ = some (.bool mf.op)
  c1 : W.cell? ⟨w2, 1, none⟩ = some (.int .i64 mf.n)
  c2 : W.cell? ⟨w2, 2, none⟩ = some (.int .i64 mf.d)
  d0 : W.cell? ⟨w2 + 1, 0, none⟩ = some (.bool mt.op)
  d1 : W.cell? ⟨w2 + 1, 1, none⟩ = some (.int .i64 mt.n)
  d2 : W.cell? ⟨w2 + 1, 2, none⟩ = some (.int .i64 mt.d)
set_option maxRecDepth 100000 in
set_option maxHeartbeats 4000000 in
theorem spanTells_form (A : Option Addr) (c : Nat) (A2 : Option Addr) (c2 : Nat) (p : PG) (L : Option Addr) (l : List Int) (cl : Nat) (B : Option Addr) (b : List Int) (cb : Nat) (M : Option Addr) (m : List Int) (cm : Nat) (w : World) (hp : Pg w A c A2 c2 p) (hr : Rd w L cl l) (hb : Rd w B cb b) (hmm : Rd w M cm m) (hm : mayPB p = false) :
    Calls Try.prog 12 #[.agg #[.slice A p.costs.length c, .slice A2 p.rows.length c2], .slice L l.length cl, .slice B b.length cb, .slice M m.length cm] w fun e w' => e = .returned (.bool true) ∧ Below w.heap.size w w' := by
  have hE : lookE p l = 2 := by unfold lookE; rw [if_pos hm]
  have hef : costsF p l b = zeroE := by unfold costsF; rw [if_pos (by rw [hE]; decide)]
  have het : costsT p l b = zeroE := by unfold costsT; rw [if_pos (by rw [hE]; decide)]
  have hee : costsE p l b = 2 := by unfold costsE; rw [if_pos (by rw [hE]; decide), hE]
  have hmf : mostsF p l m = zeroE := by unfold mostsF; rw [if_pos (by rw [hE]; decide)]
  have hmt : mostsT p l m = zeroE := by unfold mostsT; rw [if_pos (by rw [hE]; decide)]
  have hme : mostsE p l m = 2 := by unfold mostsE; rw [if_pos (by rw [hE]; decide), hE]
  obtain ⟨ef, hz⟩ : ∃ ef, ef = zeroE := ⟨_, rfl⟩
  obtain ⟨et, hz2⟩ : ∃ ef, ef = zeroE := ⟨_, rfl⟩
  obtain ⟨mf, hz3⟩ : ∃ ef, ef = zeroE := ⟨_, rfl⟩
  obtain ⟨mt, hz4⟩ : ∃ ef, ef = zeroE := ⟨_, rfl⟩
  rw [← hz] at hef
  rw [← hz2] at het
  rw [← hz3] at hmf
  rw [← hz4] at hmt
  have HZ := Lib.hid (show ef.op = false ∧ ef.n = 0 ∧ ef.d = 0 ∧ et.op = false ∧ et.n = 0 ∧ et.d = 0 ∧ mf.op = false ∧ mf.n = 0 ∧ mf.d = 0 ∧ mt.op = false ∧ mt.n = 0 ∧ mt.d = 0 by subst hz hz2 hz3 hz4; simp [zeroE])
  clear hz hz2 hz3 hz4
  have HM := Lib.hid hm
  clear hm hE
  have HP := Lib.hid hp
  have HL := Lib.hid hr
  have HD := Lib.hid hb
  have HMM := Lib.hid hmm
  obtain ⟨⟨hl, hc, hsm, _⟩, ⟨hl2, hc2, hsm2, _⟩⟩ := hp
  obtain ⟨hll, hlc, hls, _⟩ := hr
  obtain ⟨hbl, hbc, hbs, _⟩ := hb
  obtain ⟨hml, hmc, hms, _⟩ := hmm
  go_enter Try.func12, Try.ntmps12
  go_wp2_with fail
  have BP := Lib.hid (Blk.mk' w 40 #[.slice A p.costs.length c, .slice A2 p.rows.length c2])
  have HBU := Lib.hid ((Below.refl w.heap.size w).alloc (Nat.le_refl _) (.cells #[.slice A p.costs.length c, .slice A2 p.rows.length c2] 40))
  generalize (w.alloc (.cells #[.slice A p.costs.length c, .slice A2 p.rows.length c2] 40)) = U at *
  refine (span_Costs _ _ _ _ _ _ _ _ _ _ _ _ (HP.out.below HBU.out) (HL.out.below HBU.out) (HD.out.below HBU.out)).mono ?_
  rw [hef, het, hee]
  rintro e w1 ⟨rfl, hb1⟩
  have z01 := hb1.size
  have zU := HBU.out.size
  have lU := BP.out.lt
  have lw1 : w.heap.size < w1.heap.size := by omega
  go_upto_region 2 with fail
  have BF := Lib.hid (show Blk ((w1.alloc (.cells #[.bool ef.op, .int .i64 ef.n, .int .i64 ef.d] 64)).alloc (.cells #[.bool et.op, .int .i64 et.n, .int .i64 et.d] 64)) w1.heap.size 64 #[.bool ef.op, .int .i64 ef.n, .int .i64 ef.d] from (Blk.mk' _ _ _).alloc _)
  have BT := Lib.hid (Blk.new (w1.alloc (.cells #[.bool ef.op, .int .i64 ef.n, .int .i64 ef.d] 64)) 64 #[.bool et.op, .int .i64 et.n, .int .i64 et.d] (w1.heap.size + 1) (by simp))
  have HV1 := Lib.hid ((hb1.alloc z01 (.cells #[.bool ef.op, .int .i64 ef.n, .int .i64 ef.d] 64)).alloc (by simp; omega) (.cells #[.bool et.op, .int .i64 et.n, .int .i64 et.d] 64))
  clear hb1
  generalize ((w1.alloc (.cells #[.bool ef.op, .int .i64 ef.n, .int .i64 ef.d] 64)).alloc (.cells #[.bool et.op, .int .i64 et.n, .int .i64 et.d] 64)) = W1 at *
  have p0 : W1.cell? ⟨w.heap.size, 0, none⟩ = some (.slice A p.costs.length c) := (BP.out.next HV1.out).cell 0
  have p1 : W1.cell? ⟨w.heap.size, 1, none⟩ = some (.slice A2 p.rows.length c2) := (BP.out.next HV1.out).cell 1
  have HBW1 := Lib.hid (HBU.out.trans (HV1.out.mono zU))
  have zV1 := HV1.out.size
  have lT := BT.out.lt
  go_wp2_with fail
  clear p0 p1
  refine (span_Mosts _ _ _ _ _ _ _ _ _ _ _ _ (HP.out.below HBW1.out) (HL.out.below HBW1.out) (HMM.out.below HBW1.out)).mono ?_
  rw [hmf, hmt, hme]
  rintro e w2 ⟨rfl, hb2⟩
  have z12 := hb2.size
  have lw2 : w.heap.size < w2.heap.size := by omega
  have lw3 : w1.heap.size + 1 < w2.heap.size := by omega
  have lw4 : w1.heap.size < w2.heap.size := by omega
  go_upto_region 3 with fail
  have BL := Lib.hid (show Blk ((w2.alloc (.cells #[.bool mf.op, .int .i64 mf.n, .int .i64 mf.d] 64)).alloc (.cells #[.bool mt.op, .int .i64 mt.n, .int .i64 mt.d] 64)) w2.heap.size 64 #[.bool mf.op, .int .i64 mf.n, .int .i64 mf.d] from (Blk.mk' _ _ _).alloc _)
  have BH := Lib.hid (Blk.new (w2.alloc (.cells #[.bool mf.op, .int .i64 mf.n, .int .i64 mf.d] 64)) 64 #[.bool mt.op, .int .i64 mt.n, .int .i64 mt.d] (w2.heap.size + 1) (by simp))
  have HV2 := Lib.hid ((hb2.alloc z12 (.cells #[.bool mf.op, .int .i64 mf.n, .int .i64 mf.d] 64)).alloc (by simp; omega) (.cells #[.bool mt.op, .int .i64 mt.n, .int .i64 mt.d] 64))
  clear hb2
  generalize ((w2.alloc (.cells #[.bool mf.op, .int .i64 mf.n, .int .i64 mf.d] 64)).alloc (.cells #[.bool mt.op, .int .i64 mt.n, .int .i64 mt.d] 64)) = W2 at *
  have HV12 := Lib.hid (HV1.out.trans (HV2.out.mono zV1))
  have HBW := Lib.hid (HBU.out.trans (HV12.out.mono zU))
  have SC := Lib.hid (show ∀ w', Below W2.heap.size W2 w' → LawC w1.heap.size w2.heap.size w.heap.size A p.costs.length c A2 p.rows.length c2 ef et mf mt w' from fun w' h =>
    ⟨((BP.out.next HV12.out).next h).cell 0, ((BP.out.next HV12.out).next h).cell 1, ((BF.out.next HV2.out).next h).cell 0, ((BF.out.next HV2.out).next h).cell 1, ((BF.out.next HV2.out).next h).cell 2,
     ((BT.out.next HV2.out).next h).cell 0, ((BT.out.next HV2.out).next h).cell 1, ((BT.out.next HV2.out).next h).cell 2, (BL.out.next h).cell 0, (BL.out.next h).cell 1, (BL.out.next h).cell 2, (BH.out.next h).cell 0, (BH.out.next h).cell 1, (BH.out.next h).cell 2⟩)
  have zW2 := HBW.out.size
  have p0 := (SC.out _ (Below.refl _ _)).p0
  have p1 := (SC.out _ (Below.refl _ _)).p1
  have a0 := (SC.out _ (Below.refl _ _)).a0
  have a1 := (SC.out _ (Below.refl _ _)).a1
  have a2 := (SC.out _ (Below.refl _ _)).a2
  have b0 := (SC.out _ (Below.refl _ _)).b0
  have b1 := (SC.out _ (Below.refl _ _)).b1
  have b2 := (SC.out _ (Below.refl _ _)).b2
  have c0 := (SC.out _ (Below.refl _ _)).c0
  have c1 := (SC.out _ (Below.refl _ _)).c1
  have c2' := (SC.out _ (Below.refl _ _)).c2
  have d0 := (SC.out _ (Below.refl _ _)).d0
  have d1 := (SC.out _ (Below.refl _ _)).d1
  have d2 := (SC.out _ (Below.refl _ _)).d2
  go_wp2_with fail
  clear p0 p1 a0 a1 a2 b0 b1 b2 c0 c1 c2' d0 d1 d2
  refine (ref2_May _ _ _ _ _ _ (HP.out.below HBW.out)).mono ?_
  rintro e w3 ⟨rfl, hb3⟩
  have H3 := Lib.hid hb3
  clear hb3
  have p0 := (SC.out _ H3.out).p0
  have p1 := (SC.out _ H3.out).p1
  have a0 := (SC.out _ H3.out).a0
  have a1 := (SC.out _ H3.out).a1
  have a2 := (SC.out _ H3.out).a2
  have b0 := (SC.out _ H3.out).b0
  have b1 := (SC.out _ H3.out).b1
  have b2 := (SC.out _ H3.out).b2
  have c0 := (SC.out _ H3.out).c0
  have c1 := (SC.out _ H3.out).c1
  have c2' := (SC.out _ H3.out).c2
  have d0 := (SC.out _ H3.out).d0
  have d1 := (SC.out _ H3.out).d1
  have d2 := (SC.out _ H3.out).d2
  rw [HM.out]
  obtain ⟨x1, x2, x3, x4, x5, x6, x7, x8, x9, x10, x11, x12⟩ := HZ.out
  go_wp2_with fail
  go_ret
  exact ⟨rfl, HBW.out.trans (H3.out.mono zW2)⟩
set_option maxRecDepth 100000 in
set_option maxHeartbeats 4000000 in
theorem spanTells_range (A : Option Addr) (c : Nat) (A2 : Option Addr) (c2 : Nat) (p : PG) (L : Option Addr) (l : List Int) (cl : Nat) (B : Option Addr) (b : List Int) (cb : Nat) (M : Option Addr) (m : List Int) (cm : Nat) (w : World) (hp : Pg w A c A2 c2 p) (hr : Rd w L cl l) (hb : Rd w B cb b) (hmm : Rd w M cm m) (hm : mayPB p = true) (hri : rightA p l = false) :
    Calls Try.prog 12 #[.agg #[.slice A p.costs.length c, .slice A2 p.rows.length c2], .slice L l.length cl, .slice B b.length cb, .slice M m.length cm] w fun e w' => e = .returned (.bool true) ∧ Below w.heap.size w w' := by
  have hE : lookE p l = 3 := by unfold lookE; rw [if_neg (by rw [hm]; decide), if_pos hri]
  have hef : costsF p l b = zeroE := by unfold costsF; rw [if_pos (by rw [hE]; decide)]
  have het : costsT p l b = zeroE := by unfold costsT; rw [if_pos (by rw [hE]; decide)]
  have hee : costsE p l b = 3 := by unfold costsE; rw [if_pos (by rw [hE]; decide), hE]
  have hmf : mostsF p l m = zeroE := by unfold mostsF; rw [if_pos (by rw [hE]; decide)]
  have hmt : mostsT p l m = zeroE := by unfold mostsT; rw [if_pos (by rw [hE]; decide)]
  have hme : mostsE p l m = 3 := by unfold mostsE; rw [if_pos (by rw [hE]; decide), hE]
  obtain ⟨ef, hz⟩ : ∃ ef, ef = zeroE := ⟨_, rfl⟩
  obtain ⟨et, hz2⟩ : ∃ ef, ef = zeroE := ⟨_, rfl⟩
  obtain ⟨mf, hz3⟩ : ∃ ef, ef = zeroE := ⟨_, rfl⟩
  obtain ⟨mt, hz4⟩ : ∃ ef, ef = zeroE := ⟨_, rfl⟩
  rw [← hz] at hef
  rw [← hz2] at het
  rw [← hz3] at hmf
  rw [← hz4] at hmt
  have HZ := Lib.hid (show ef.op = false ∧ ef.n = 0 ∧ ef.d = 0 ∧ et.op = false ∧ et.n = 0 ∧ et.d = 0 ∧ mf.op = false ∧ mf.n = 0 ∧ mf.d = 0 ∧ mt.op = false ∧ mt.n = 0 ∧ mt.d = 0 by subst hz hz2 hz3 hz4; simp [zeroE])
  clear hz hz2 hz3 hz4
  have HM := Lib.hid hm
  have HRI := Lib.hid hri
  clear hm hE hri
  have HP := Lib.hid hp
  have HL := Lib.hid hr
  have HD := Lib.hid hb
  have HMM := Lib.hid hmm
  obtain ⟨⟨hl, hc, hsm, _⟩, ⟨hl2, hc2, hsm2, _⟩⟩ := hp
  obtain ⟨hll, hlc, hls, _⟩ := hr
  obtain ⟨hbl, hbc, hbs, _⟩ := hb
  obtain ⟨hml, hmc, hms, _⟩ := hmm
  go_enter Try.func12, Try.ntmps12
  go_wp2_with fail
  have BP := Lib.hid (Blk.mk' w 40 #[.slice A p.costs.length c, .slice A2 p.rows.length c2])
  have HBU := Lib.hid ((Below.refl w.heap.size w).alloc (Nat.le_refl _) (.cells #[.slice A p.costs.length c, .slice A2 p.rows.length c2] 40))
  generalize (w.alloc (.cells #[.slice A p.costs.length c, .slice A2 p.rows.length c2] 40)) = U at *
  refine (span_Costs _ _ _ _ _ _ _ _ _ _ _ _ (HP.out.below HBU.out) (HL.out.below HBU.out) (HD.out.below HBU.out)).mono ?_
  rw [hef, het, hee]
  rintro e w1 ⟨rfl, hb1⟩
  have z01 := hb1.size
  have zU := HBU.out.size
  have lU := BP.out.lt
  have lw1 : w.heap.size < w1.heap.size := by omega
  go_upto_region 2 with fail
  have BF := Lib.hid (show Blk ((w1.alloc (.cells #[.bool ef.op, .int .i64 ef.n, .int .i64 ef.d] 64)).alloc (.cells #[.bool et.op, .int .i64 et.n, .int .i64 et.d] 64)) w1.heap.size 64 #[.bool ef.op, .int .i64 ef.n, .int .i64 ef.d] from (Blk.mk' _ _ _).alloc _)
  have BT := Lib.hid (Blk.new (w1.alloc (.cells #[.bool ef.op, .int .i64 ef.n, .int .i64 ef.d] 64)) 64 #[.bool et.op, .int .i64 et.n, .int .i64 et.d] (w1.heap.size + 1) (by simp))
  have HV1 := Lib.hid ((hb1.alloc z01 (.cells #[.bool ef.op, .int .i64 ef.n, .int .i64 ef.d] 64)).alloc (by simp; omega) (.cells #[.bool et.op, .int .i64 et.n, .int .i64 et.d] 64))
  clear hb1
  generalize ((w1.alloc (.cells #[.bool ef.op, .int .i64 ef.n, .int .i64 ef.d] 64)).alloc (.cells #[.bool et.op, .int .i64 et.n, .int .i64 et.d] 64)) = W1 at *
  have p0 : W1.cell? ⟨w.heap.size, 0, none⟩ = some (.slice A p.costs.length c) := (BP.out.next HV1.out).cell 0
  have p1 : W1.cell? ⟨w.heap.size, 1, none⟩ = some (.slice A2 p.rows.length c2) := (BP.out.next HV1.out).cell 1
  have HBW1 := Lib.hid (HBU.out.trans (HV1.out.mono zU))
  have zV1 := HV1.out.size
  have lT := BT.out.lt
  go_wp2_with fail
  clear p0 p1
  refine (span_Mosts _ _ _ _ _ _ _ _ _ _ _ _ (HP.out.below HBW1.out) (HL.out.below HBW1.out) (HMM.out.below HBW1.out)).mono ?_
  rw [hmf, hmt, hme]
  rintro e w2 ⟨rfl, hb2⟩
  have z12 := hb2.size
  have lw2 : w.heap.size < w2.heap.size := by omega
  have lw3 : w1.heap.size + 1 < w2.heap.size := by omega
  have lw4 : w1.heap.size < w2.heap.size := by omega
  go_upto_region 3 with fail
  have BL := Lib.hid (show Blk ((w2.alloc (.cells #[.bool mf.op, .int .i64 mf.n, .int .i64 mf.d] 64)).alloc (.cells #[.bool mt.op, .int .i64 mt.n, .int .i64 mt.d] 64)) w2.heap.size 64 #[.bool mf.op, .int .i64 mf.n, .int .i64 mf.d] from (Blk.mk' _ _ _).alloc _)
  have BH := Lib.hid (Blk.new (w2.alloc (.cells #[.bool mf.op, .int .i64 mf.n, .int .i64 mf.d] 64)) 64 #[.bool mt.op, .int .i64 mt.n, .int .i64 mt.d] (w2.heap.size + 1) (by simp))
  have HV2 := Lib.hid ((hb2.alloc z12 (.cells #[.bool mf.op, .int .i64 mf.n, .int .i64 mf.d] 64)).alloc (by simp; omega) (.cells #[.bool mt.op, .int .i64 mt.n, .int .i64 mt.d] 64))
  clear hb2
  generalize ((w2.alloc (.cells #[.bool mf.op, .int .i64 mf.n, .int .i64 mf.d] 64)).alloc (.cells #[.bool mt.op, .int .i64 mt.n, .int .i64 mt.d] 64)) = W2 at *
  have HV12 := Lib.hid (HV1.out.trans (HV2.out.mono zV1))
  have HBW := Lib.hid (HBU.out.trans (HV12.out.mono zU))
  have SC := Lib.hid (show ∀ w', Below W2.heap.size W2 w' → LawC w1.heap.size w2.heap.size w.heap.size A p.costs.length c A2 p.rows.length c2 ef et mf mt w' from fun w' h =>
    ⟨((BP.out.next HV12.out).next h).cell 0, ((BP.out.next HV12.out).next h).cell 1, ((BF.out.next HV2.out).next h).cell 0, ((BF.out.next HV2.out).next h).cell 1, ((BF.out.next HV2.out).next h).cell 2,
     ((BT.out.next HV2.out).next h).cell 0, ((BT.out.next HV2.out).next h).cell 1, ((BT.out.next HV2.out).next h).cell 2, (BL.out.next h).cell 0, (BL.out.next h).cell 1, (BL.out.next h).cell 2, (BH.out.next h).cell 0, (BH.out.next h).cell 1, (BH.out.next h).cell 2⟩)
  have zW2 := HBW.out.size
  have p0 := (SC.out _ (Below.refl _ _)).p0
  have p1 := (SC.out _ (Below.refl _ _)).p1
  have a0 := (SC.out _ (Below.refl _ _)).a0
  have a1 := (SC.out _ (Below.refl _ _)).a1
  have a2 := (SC.out _ (Below.refl _ _)).a2
  have b0 := (SC.out _ (Below.refl _ _)).b0
  have b1 := (SC.out _ (Below.refl _ _)).b1
  have b2 := (SC.out _ (Below.refl _ _)).b2
  have c0 := (SC.out _ (Below.refl _ _)).c0
  have c1 := (SC.out _ (Below.refl _ _)).c1
  have c2' := (SC.out _ (Below.refl _ _)).c2
  have d0 := (SC.out _ (Below.refl _ _)).d0
  have d1 := (SC.out _ (Below.refl _ _)).d1
  have d2 := (SC.out _ (Below.refl _ _)).d2
  go_wp2_with fail
  clear p0 p1 a0 a1 a2 b0 b1 b2 c0 c1 c2' d0 d1 d2
  refine (ref2_May _ _ _ _ _ _ (HP.out.below HBW.out)).mono ?_
  rintro e w3 ⟨rfl, hb3⟩
  have H3 := Lib.hid hb3
  clear hb3
  have p0 := (SC.out _ H3.out).p0
  have p1 := (SC.out _ H3.out).p1
  have a0 := (SC.out _ H3.out).a0
  have a1 := (SC.out _ H3.out).a1
  have a2 := (SC.out _ H3.out).a2
  have b0 := (SC.out _ H3.out).b0
  have b1 := (SC.out _ H3.out).b1
  have b2 := (SC.out _ H3.out).b2
  have c0 := (SC.out _ H3.out).c0
  have c1 := (SC.out _ H3.out).c1
  have c2' := (SC.out _ H3.out).c2
  have d0 := (SC.out _ H3.out).d0
  have d1 := (SC.out _ H3.out).d1
  have d2 := (SC.out _ H3.out).d2
  rw [HM.out]
  go_wp2_with fail
  clear p0 p1 a0 a1 a2 b0 b1 b2 c0 c1 c2' d0 d1 d2
  refine (ref3_Right _ _ _ _ _ _ _ _ _ (HP.out.below (HBW.out.trans (H3.out.mono zW2))) (HL.out.below (HBW.out.trans (H3.out.mono zW2)))).mono ?_
  rintro e w4 ⟨rfl, hb4⟩
  have H4 := Lib.hid (H3.out.trans (hb4.mono H3.out.size))
  clear hb4
  have p0 := (SC.out _ H4.out).p0
  have p1 := (SC.out _ H4.out).p1
  have a0 := (SC.out _ H4.out).a0
  have a1 := (SC.out _ H4.out).a1
  have a2 := (SC.out _ H4.out).a2
  have b0 := (SC.out _ H4.out).b0
  have b1 := (SC.out _ H4.out).b1
  have b2 := (SC.out _ H4.out).b2
  have c0 := (SC.out _ H4.out).c0
  have c1 := (SC.out _ H4.out).c1
  have c2' := (SC.out _ H4.out).c2
  have d0 := (SC.out _ H4.out).d0
  have d1 := (SC.out _ H4.out).d1
  have d2 := (SC.out _ H4.out).d2
  rw [HRI.out]
  obtain ⟨x1, x2, x3, x4, x5, x6, x7, x8, x9, x10, x11, x12⟩ := HZ.out
  go_wp2_with fail
  go_ret
  exact ⟨rfl, HBW.out.trans (H4.out.mono zW2)⟩
set_option maxRecDepth 100000 in
set_option maxHeartbeats 4000000 in
theorem spanTells_none (A : Option Addr) (c : Nat) (A2 : Option Addr) (c2 : Nat) (p : PG) (L : Option Addr) (l : List Int) (cl : Nat) (B : Option Addr) (b : List Int) (cb : Nat) (M : Option Addr) (m : List Int) (cm : Nat) (w : World) (hp : Pg w A c A2 c2 p) (hr : Rd w L cl l) (hb : Rd w B cb b) (hmm : Rd w M cm m) (hm : mayPB p = true) (hri : rightA p l = true) (hE : lookE p l = 4) :
    Calls Try.prog 12 #[.agg #[.slice A p.costs.length c, .slice A2 p.rows.length c2], .slice L l.length cl, .slice B b.length cb, .slice M m.length cm] w fun e w' => e = .returned (.bool true) ∧ Below w.heap.size w w' := by
  have hef : costsF p l b = zeroE := by unfold costsF; rw [if_pos (by rw [hE]; decide)]
  have het : costsT p l b = zeroE := by unfold costsT; rw [if_pos (by rw [hE]; decide)]
  have hee : costsE p l b = 4 := by unfold costsE; rw [if_pos (by rw [hE]; decide), hE]
  have hmf : mostsF p l m = zeroE := by unfold mostsF; rw [if_pos (by rw [hE]; decide)]
  have hmt : mostsT p l m = zeroE := by unfold mostsT; rw [if_pos (by rw [hE]; decide)]
  have hme : mostsE p l m = 4 := by unfold mostsE; rw [if_pos (by rw [hE]; decide), hE]
  obtain ⟨ef, hz⟩ : ∃ ef, ef = zeroE := ⟨_, rfl⟩
  obtain ⟨et, hz2⟩ : ∃ ef, ef = zeroE := ⟨_, rfl⟩
  obtain ⟨mf, hz3⟩ : ∃ ef, ef = zeroE := ⟨_, rfl⟩
  obtain ⟨mt, hz4⟩ : ∃ ef, ef = zeroE := ⟨_, rfl⟩
  rw [← hz] at hef
  rw [← hz2] at het
  rw [← hz3] at hmf
  rw [← hz4] at hmt
  have HZ := Lib.hid (show ef.op = false ∧ ef.n = 0 ∧ ef.d = 0 ∧ et.op = false ∧ et.n = 0 ∧ et.d = 0 ∧ mf.op = false ∧ mf.n = 0 ∧ mf.d = 0 ∧ mt.op = false ∧ mt.n = 0 ∧ mt.d = 0 by subst hz hz2 hz3 hz4; simp [zeroE])
  clear hz hz2 hz3 hz4
  have HM := Lib.hid hm
  have HRI := Lib.hid hri
  have HE := Lib.hid hE
  clear hm hE hri
  have HP := Lib.hid hp
  have HL := Lib.hid hr
  have HD := Lib.hid hb
  have HMM := Lib.hid hmm
  obtain ⟨⟨hl, hc, hsm, _⟩, ⟨hl2, hc2, hsm2, _⟩⟩ := hp
  obtain ⟨hll, hlc, hls, _⟩ := hr
  obtain ⟨hbl, hbc, hbs, _⟩ := hb
  obtain ⟨hml, hmc, hms, _⟩ := hmm
  go_enter Try.func12, Try.ntmps12
  go_wp2_with fail
  have BP := Lib.hid (Blk.mk' w 40 #[.slice A p.costs.length c, .slice A2 p.rows.length c2])
  have HBU := Lib.hid ((Below.refl w.heap.size w).alloc (Nat.le_refl _) (.cells #[.slice A p.costs.length c, .slice A2 p.rows.length c2] 40))
  generalize (w.alloc (.cells #[.slice A p.costs.length c, .slice A2 p.rows.length c2] 40)) = U at *
  refine (span_Costs _ _ _ _ _ _ _ _ _ _ _ _ (HP.out.below HBU.out) (HL.out.below HBU.out) (HD.out.below HBU.out)).mono ?_
  rw [hef, het, hee]
  rintro e w1 ⟨rfl, hb1⟩
  have z01 := hb1.size
  have zU := HBU.out.size
  have lU := BP.out.lt
  have lw1 : w.heap.size < w1.heap.size := by omega
  go_upto_region 2 with fail
  have BF := Lib.hid (show Blk ((w1.alloc (.cells #[.bool ef.op, .int .i64 ef.n, .int .i64 ef.d] 64)).alloc (.cells #[.bool et.op, .int .i64 et.n, .int .i64 et.d] 64)) w1.heap.size 64 #[.bool ef.op, .int .i64 ef.n, .int .i64 ef.d] from (Blk.mk' _ _ _).alloc _)
  have BT := Lib.hid (Blk.new (w1.alloc (.cells #[.bool ef.op, .int .i64 ef.n, .int .i64 ef.d] 64)) 64 #[.bool et.op, .int .i64 et.n, .int .i64 et.d] (w1.heap.size + 1) (by simp))
  have HV1 := Lib.hid ((hb1.alloc z01 (.cells #[.bool ef.op, .int .i64 ef.n, .int .i64 ef.d] 64)).alloc (by simp; omega) (.cells #[.bool et.op, .int .i64 et.n, .int .i64 et.d] 64))
  clear hb1
  generalize ((w1.alloc (.cells #[.bool ef.op, .int .i64 ef.n, .int .i64 ef.d] 64)).alloc (.cells #[.bool et.op, .int .i64 et.n, .int .i64 et.d] 64)) = W1 at *
  have p0 : W1.cell? ⟨w.heap.size, 0, none⟩ = some (.slice A p.costs.length c) := (BP.out.next HV1.out).cell 0
  have p1 : W1.cell? ⟨w.heap.size, 1, none⟩ = some (.slice A2 p.rows.length c2) := (BP.out.next HV1.out).cell 1
  have HBW1 := Lib.hid (HBU.out.trans (HV1.out.mono zU))
  have zV1 := HV1.out.size
  have lT := BT.out.lt
  go_wp2_with fail
  clear p0 p1
  refine (span_Mosts _ _ _ _ _ _ _ _ _ _ _ _ (HP.out.below HBW1.out) (HL.out.below HBW1.out) (HMM.out.below HBW1.out)).mono ?_
  rw [hmf, hmt, hme]
  rintro e w2 ⟨rfl, hb2⟩
  have z12 := hb2.size
  have lw2 : w.heap.size < w2.heap.size := by omega
  have lw3 : w1.heap.size + 1 < w2.heap.size := by omega
  have lw4 : w1.heap.size < w2.heap.size := by omega
  go_upto_region 3 with fail
  have BL := Lib.hid (show Blk ((w2.alloc (.cells #[.bool mf.op, .int .i64 mf.n, .int .i64 mf.d] 64)).alloc (.cells #[.bool mt.op, .int .i64 mt.n, .int .i64 mt.d] 64)) w2.heap.size 64 #[.bool mf.op, .int .i64 mf.n, .int .i64 mf.d] from (Blk.mk' _ _ _).alloc _)
  have BH := Lib.hid (Blk.new (w2.alloc (.cells #[.bool mf.op, .int .i64 mf.n, .int .i64 mf.d] 64)) 64 #[.bool mt.op, .int .i64 mt.n, .int .i64 mt.d] (w2.heap.size + 1) (by simp))
  have HV2 := Lib.hid ((hb2.alloc z12 (.cells #[.bool mf.op, .int .i64 mf.n, .int .i64 mf.d] 64)).alloc (by simp; omega) (.cells #[.bool mt.op, .int .i64 mt.n, .int .i64 mt.d] 64))
  clear hb2
  generalize ((w2.alloc (.cells #[.bool mf.op, .int .i64 mf.n, .int .i64 mf.d] 64)).alloc (.cells #[.bool mt.op, .int .i64 mt.n, .int .i64 mt.d] 64)) = W2 at *
  have HV12 := Lib.hid (HV1.out.trans (HV2.out.mono zV1))
  have HBW := Lib.hid (HBU.out.trans (HV12.out.mono zU))
  have SC := Lib.hid (show ∀ w', Below W2.heap.size W2 w' → LawC w1.heap.size w2.heap.size w.heap.size A p.costs.length c A2 p.rows.length c2 ef et mf mt w' from fun w' h =>
    ⟨((BP.out.next HV12.out).next h).cell 0, ((BP.out.next HV12.out).next h).cell 1, ((BF.out.next HV2.out).next h).cell 0, ((BF.out.next HV2.out).next h).cell 1, ((BF.out.next HV2.out).next h).cell 2,
     ((BT.out.next HV2.out).next h).cell 0, ((BT.out.next HV2.out).next h).cell 1, ((BT.out.next HV2.out).next h).cell 2, (BL.out.next h).cell 0, (BL.out.next h).cell 1, (BL.out.next h).cell 2, (BH.out.next h).cell 0, (BH.out.next h).cell 1, (BH.out.next h).cell 2⟩)
  have zW2 := HBW.out.size
  have p0 := (SC.out _ (Below.refl _ _)).p0
  have p1 := (SC.out _ (Below.refl _ _)).p1
  have a0 := (SC.out _ (Below.refl _ _)).a0
  have a1 := (SC.out _ (Below.refl _ _)).a1
  have a2 := (SC.out _ (Below.refl _ _)).a2
  have b0 := (SC.out _ (Below.refl _ _)).b0
  have b1 := (SC.out _ (Below.refl _ _)).b1
  have b2 := (SC.out _ (Below.refl _ _)).b2
  have c0 := (SC.out _ (Below.refl _ _)).c0
  have c1 := (SC.out _ (Below.refl _ _)).c1
  have c2' := (SC.out _ (Below.refl _ _)).c2
  have d0 := (SC.out _ (Below.refl _ _)).d0
  have d1 := (SC.out _ (Below.refl _ _)).d1
  have d2 := (SC.out _ (Below.refl _ _)).d2
  go_wp2_with fail
  clear p0 p1 a0 a1 a2 b0 b1 b2 c0 c1 c2' d0 d1 d2
  refine (ref2_May _ _ _ _ _ _ (HP.out.below HBW.out)).mono ?_
  rintro e w3 ⟨rfl, hb3⟩
  have H3 := Lib.hid hb3
  clear hb3
  have p0 := (SC.out _ H3.out).p0
  have p1 := (SC.out _ H3.out).p1
  have a0 := (SC.out _ H3.out).a0
  have a1 := (SC.out _ H3.out).a1
  have a2 := (SC.out _ H3.out).a2
  have b0 := (SC.out _ H3.out).b0
  have b1 := (SC.out _ H3.out).b1
  have b2 := (SC.out _ H3.out).b2
  have c0 := (SC.out _ H3.out).c0
  have c1 := (SC.out _ H3.out).c1
  have c2' := (SC.out _ H3.out).c2
  have d0 := (SC.out _ H3.out).d0
  have d1 := (SC.out _ H3.out).d1
  have d2 := (SC.out _ H3.out).d2
  rw [HM.out]
  go_wp2_with fail
  clear p0 p1 a0 a1 a2 b0 b1 b2 c0 c1 c2' d0 d1 d2
  refine (ref3_Right _ _ _ _ _ _ _ _ _ (HP.out.below (HBW.out.trans (H3.out.mono zW2))) (HL.out.below (HBW.out.trans (H3.out.mono zW2)))).mono ?_
  rintro e w4 ⟨rfl, hb4⟩
  have H4 := Lib.hid (H3.out.trans (hb4.mono H3.out.size))
  clear hb4
  have p0 := (SC.out _ H4.out).p0
  have p1 := (SC.out _ H4.out).p1
  have a0 := (SC.out _ H4.out).a0
  have a1 := (SC.out _ H4.out).a1
  have a2 := (SC.out _ H4.out).a2
  have b0 := (SC.out _ H4.out).b0
  have b1 := (SC.out _ H4.out).b1
  have b2 := (SC.out _ H4.out).b2
  have c0 := (SC.out _ H4.out).c0
  have c1 := (SC.out _ H4.out).c1
  have c2' := (SC.out _ H4.out).c2
  have d0 := (SC.out _ H4.out).d0
  have d1 := (SC.out _ H4.out).d1
  have d2 := (SC.out _ H4.out).d2
  rw [HRI.out]
  go_wp2_with fail
  clear p0 p1 a0 a1 a2 b0 b1 b2 c0 c1 c2' d0 d1 d2
  refine (ref3_Look _ _ _ _ _ _ _ _ _ (HP.out.below (HBW.out.trans (H4.out.mono zW2))) (HL.out.below (HBW.out.trans (H4.out.mono zW2))) HM.out HRI.out).mono ?_
  rw [HE.out]
  obtain ⟨cc, hcc⟩ : ∃ cc, lookC p l = cc := ⟨_, rfl⟩
  rw [hcc]
  clear hcc
  rintro e w5 ⟨X, cx, Y, cy, G, cg, rfl, _, _, _, hb5⟩
  have H5 := Lib.hid (H4.out.trans (hb5.mono H4.out.size))
  have z5 := H5.out.size
  have lq : w2.heap.size + 1 < w5.heap.size := by have := BH.out.lt; omega
  have lq2 : w2.heap.size < w5.heap.size := by omega
  have lq3 : w1.heap.size + 1 < w5.heap.size := by omega
  have lq4 : w1.heap.size < w5.heap.size := by omega
  have p0 := (SC.out _ H5.out).p0
  have p1 := (SC.out _ H5.out).p1
  have a0 := (SC.out _ H5.out).a0
  have a1 := (SC.out _ H5.out).a1
  have a2 := (SC.out _ H5.out).a2
  have b0 := (SC.out _ H5.out).b0
  have b1 := (SC.out _ H5.out).b1
  have b2 := (SC.out _ H5.out).b2
  have c0 := (SC.out _ H5.out).c0
  have c1 := (SC.out _ H5.out).c1
  have c2' := (SC.out _ H5.out).c2
  have d0 := (SC.out _ H5.out).d0
  have d1 := (SC.out _ H5.out).d1
  have d2 := (SC.out _ H5.out).d2
  clear hb5
  obtain ⟨x1, x2, x3, x4, x5, x6, x7, x8, x9, x10, x11, x12⟩ := HZ.out
  go_wp2_with fail
  go_ret
  exact ⟨rfl, HBW.out.trans ((H5.out.alloc z5 _).mono zW2)⟩

theorem costs_call (A : Option Addr) (c : Nat) (A2 : Option Addr) (c2 : Nat) (p : PG) (L : Option Addr) (l : List Int) (cl : Nat) (B : Option Addr) (b : List Int) (cb : Nat) (w : World) (hp : Pg w A c A2 c2 p) (hr : Rd w L cl l) (hb : Rd w B cb b)
    (h0 : lookE p l = 0) (hm : manyB b p.costs.length 400 = true) (x s : NW) (hs : s = costsN p l b) (hx : x = if someZ s = true then s else zeroN) :
    Calls Try.prog 42 #[.agg #[.slice A p.costs.length c, .slice A2 p.rows.length c2], .slice L l.length cl, .slice B b.length cb] w
      fun e w' => e = .returned (.tuple #[.agg #[.bool x.fr.op, .int .i64 x.fr.n, .int .i64 x.fr.d, .bool x.to.op, .int .i64 x.to.n, .int .i64 x.to.d, .bool x.no], .bool (someZ s)]) ∧ Below w.heap.size w w' := by
  subst hs hx
  exact ref7_Costs A c A2 c2 p L l cl B b cb w hp hr hb h0 (manyB_iff.1 hm).2 (manyB_iff.1 hm).1
theorem mosts_call (A : Option Addr) (c : Nat) (A2 : Option Addr) (c2 : Nat) (p : PG) (L : Option Addr) (l : List Int) (cl : Nat) (B : Option Addr) (b : List Int) (cb : Nat) (w : World) (hp : Pg w A c A2 c2 p) (hr : Rd w L cl l) (hb : Rd w B cb b)
    (h0 : lookE p l = 0) (hm : manyB b p.rows.length 12 = true) (x s : NW) (hs : s = mostsN p l b) (hx : x = if someZ s = true then s else zeroN) :
    Calls Try.prog 44 #[.agg #[.slice A p.costs.length c, .slice A2 p.rows.length c2], .slice L l.length cl, .slice B b.length cb] w
      fun e w' => e = .returned (.tuple #[.agg #[.bool x.fr.op, .int .i64 x.fr.n, .int .i64 x.fr.d, .bool x.to.op, .int .i64 x.to.n, .int .i64 x.to.d, .bool x.no], .bool (someZ s)]) ∧ Below w.heap.size w w' := by
  subst hs hx
  exact ref7_Mosts A c A2 c2 p L l cl B b cb w hp hr hb h0 (manyB_iff.1 hm).2 (manyB_iff.1 hm).1
theorem costsN_ok {p : PG} {l b : List Int} (h0 : lookE p l = 0) (hm : manyB b p.costs.length 400 = true) : NOk (costsN p l b) := (costs_up h0 (manyB_iff.1 hm).2 (manyB_iff.1 hm).1 _ (Nat.le_refl _)).2
theorem mostsN_ok {p : PG} {l b : List Int} (h0 : lookE p l = 0) (hm : manyB b p.rows.length 12 = true) : NOk (mostsN p l b) := (mosts_up h0 (manyB_iff.1 hm).2 (manyB_iff.1 hm).1 _ (Nat.le_refl _)).2
set_option maxRecDepth 100000 in
set_option maxHeartbeats 4000000 in
theorem spanTells_zz (A : Option Addr) (c : Nat) (A2 : Option Addr) (c2 : Nat) (p : PG) (L : Option Addr) (l : List Int) (cl : Nat) (B : Option Addr) (b : List Int) (cb : Nat) (M : Option Addr) (m : List Int) (cm : Nat) (w : World) (hp : Pg w A c A2 c2 p) (hr : Rd w L cl l) (hb : Rd w B cb b) (hmm : Rd w M cm m) (hm : mayPB p = true) (hri : rightA p l = true) (hE : lookE p l = 0) (hb1 : manyB b p.costs.length 400 = false) (hm1 : manyB m p.rows.length 12 = false) :
    Calls Try.prog 12 #[.agg #[.slice A p.costs.length c, .slice A2 p.rows.length c2], .slice L l.length cl, .slice B b.length cb, .slice M m.length cm] w fun e w' => e = .returned (.bool true) ∧ Below w.heap.size w w' := by
  have hef0 : costsF p l b = zeroE := by unfold costsF; rw [if_neg (by simp [hE]), if_pos hb1]
  have het0 : costsT p l b = zeroE := by unfold costsT; rw [if_neg (by simp [hE]), if_pos hb1]
  have hee : costsE p l b = 1 := by unfold costsE; rw [if_neg (by simp [hE]), if_pos hb1]
  obtain ⟨ef, hz⟩ : ∃ ef, ef = zeroE := ⟨_, rfl⟩
  obtain ⟨et, hz2⟩ : ∃ ef, ef = zeroE := ⟨_, rfl⟩
  have hef : costsF p l b = ef := by rw [hef0, hz]
  have het : costsT p l b = et := by rw [het0, hz2]
  have HZ := Lib.hid (show ef.op = false ∧ ef.n = 0 ∧ ef.d = 0 ∧ et.op = false ∧ et.n = 0 ∧ et.d = 0 by subst hz hz2; simp [zeroE])
  clear hz hz2 hef0 het0
  have hmf0 : mostsF p l m = zeroE := by unfold mostsF; rw [if_neg (by simp [hE]), if_pos hm1]
  have hmt0 : mostsT p l m = zeroE := by unfold mostsT; rw [if_neg (by simp [hE]), if_pos hm1]
  have hme : mostsE p l m = 1 := by unfold mostsE; rw [if_neg (by simp [hE]), if_pos hm1]
  obtain ⟨mf, hz⟩ : ∃ ef, ef = zeroE := ⟨_, rfl⟩
  obtain ⟨mt, hz2⟩ : ∃ ef, ef = zeroE := ⟨_, rfl⟩
  have hmf : mostsF p l m = mf := by rw [hmf0, hz]
  have hmt : mostsT p l m = mt := by rw [hmt0, hz2]
  have HZM := Lib.hid (show mf.op = false ∧ mf.n = 0 ∧ mf.d = 0 ∧ mt.op = false ∧ mt.n = 0 ∧ mt.d = 0 by subst hz hz2; simp [zeroE])
  clear hz hz2 hmf0 hmt0
  have HM := Lib.hid hm
  have HRI := Lib.hid hri
  have HE := Lib.hid hE
  have HB1 := Lib.hid hb1
  have HM1 := Lib.hid hm1
  clear hm hri hE hb1 hm1
  have HP := Lib.hid hp
  have HL := Lib.hid hr
  have HD := Lib.hid hb
  have HMM := Lib.hid hmm
  obtain ⟨⟨hl, hc, hsm, _⟩, ⟨hl2, hc2, hsm2, _⟩⟩ := hp
  obtain ⟨hll, hlc, hls, _⟩ := hr
  obtain ⟨hbl, hbc, hbs, _⟩ := hb
  obtain ⟨hml, hmc, hms, _⟩ := hmm
  go_enter Try.func12, Try.ntmps12
  go_wp2_with fail
  have BP := Lib.hid (Blk.mk' w 40 #[.slice A p.costs.length c, .slice A2 p.rows.length c2])
  have HBU := Lib.hid ((Below.refl w.heap.size w).alloc (Nat.le_refl _) (.cells #[.slice A p.costs.length c, .slice A2 p.rows.length c2] 40))
  generalize (w.alloc (.cells #[.slice A p.costs.length c, .slice A2 p.rows.length c2] 40)) = U at *
  refine (span_Costs _ _ _ _ _ _ _ _ _ _ _ _ (HP.out.below HBU.out) (HL.out.below HBU.out) (HD.out.below HBU.out)).mono ?_
  rw [hef, het, hee]
  rintro e w1 ⟨rfl, hb1⟩
  have z01 := hb1.size
  have zU := HBU.out.size
  have lU := BP.out.lt
  have lw1 : w.heap.size < w1.heap.size := by omega
  go_upto_region 2 with fail
  have BF := Lib.hid (show Blk ((w1.alloc (.cells #[.bool ef.op, .int .i64 ef.n, .int .i64 ef.d] 64)).alloc (.cells #[.bool et.op, .int .i64 et.n, .int .i64 et.d] 64)) w1.heap.size 64 #[.bool ef.op, .int .i64 ef.n, .int .i64 ef.d] from (Blk.mk' _ _ _).alloc _)
  have BT := Lib.hid (Blk.new (w1.alloc (.cells #[.bool ef.op, .int .i64 ef.n, .int .i64 ef.d] 64)) 64 #[.bool et.op, .int .i64 et.n, .int .i64 et.d] (w1.heap.size + 1) (by simp))
  have HV1 := Lib.hid ((hb1.alloc z01 (.cells #[.bool ef.op, .int .i64 ef.n, .int .i64 ef.d] 64)).alloc (by simp; omega) (.cells #[.bool et.op, .int .i64 et.n, .int .i64 et.d] 64))
  clear hb1
  generalize ((w1.alloc (.cells #[.bool ef.op, .int .i64 ef.n, .int .i64 ef.d] 64)).alloc (.cells #[.bool et.op, .int .i64 et.n, .int .i64 et.d] 64)) = W1 at *
  have p0 : W1.cell? ⟨w.heap.size, 0, none⟩ = some (.slice A p.costs.length c) := (BP.out.next HV1.out).cell 0
  have p1 : W1.cell? ⟨w.heap.size, 1, none⟩ = some (.slice A2 p.rows.length c2) := (BP.out.next HV1.out).cell 1
  have HBW1 := Lib.hid (HBU.out.trans (HV1.out.mono zU))
  have zV1 := HV1.out.size
  have lT := BT.out.lt
  go_wp2_with fail
  clear p0 p1
  refine (span_Mosts _ _ _ _ _ _ _ _ _ _ _ _ (HP.out.below HBW1.out) (HL.out.below HBW1.out) (HMM.out.below HBW1.out)).mono ?_
  rw [hmf, hmt, hme]
  rintro e w2 ⟨rfl, hb2⟩
  have z12 := hb2.size
  have lw2 : w.heap.size < w2.heap.size := by omega
  have lw3 : w1.heap.size + 1 < w2.heap.size := by omega
  have lw4 : w1.heap.size < w2.heap.size := by omega
  go_upto_region 3 with fail
  have BL := Lib.hid (show Blk ((w2.alloc (.cells #[.bool mf.op, .int .i64 mf.n, .int .i64 mf.d] 64)).alloc (.cells #[.bool mt.op, .int .i64 mt.n, .int .i64 mt.d] 64)) w2.heap.size 64 #[.bool mf.op, .int .i64 mf.n, .int .i64 mf.d] from (Blk.mk' _ _ _).alloc _)
  have BH := Lib.hid (Blk.new (w2.alloc (.cells #[.bool mf.op, .int .i64 mf.n, .int .i64 mf.d] 64)) 64 #[.bool mt.op, .int .i64 mt.n, .int .i64 mt.d] (w2.heap.size + 1) (by simp))
  have HV2 := Lib.hid ((hb2.alloc z12 (.cells #[.bool mf.op, .int .i64 mf.n, .int .i64 mf.d] 64)).alloc (by simp; omega) (.cells #[.bool mt.op, .int .i64 mt.n, .int .i64 mt.d] 64))
  clear hb2
  generalize ((w2.alloc (.cells #[.bool mf.op, .int .i64 mf.n, .int .i64 mf.d] 64)).alloc (.cells #[.bool mt.op, .int .i64 mt.n, .int .i64 mt.d] 64)) = W2 at *
  have HV12 := Lib.hid (HV1.out.trans (HV2.out.mono zV1))
  have HBW := Lib.hid (HBU.out.trans (HV12.out.mono zU))
  have SC := Lib.hid (show ∀ w', Below W2.heap.size W2 w' → LawC w1.heap.size w2.heap.size w.heap.size A p.costs.length c A2 p.rows.length c2 ef et mf mt w' from fun w' h =>
    ⟨((BP.out.next HV12.out).next h).cell 0, ((BP.out.next HV12.out).next h).cell 1, ((BF.out.next HV2.out).next h).cell 0, ((BF.out.next HV2.out).next h).cell 1, ((BF.out.next HV2.out).next h).cell 2,
     ((BT.out.next HV2.out).next h).cell 0, ((BT.out.next HV2.out).next h).cell 1, ((BT.out.next HV2.out).next h).cell 2, (BL.out.next h).cell 0, (BL.out.next h).cell 1, (BL.out.next h).cell 2, (BH.out.next h).cell 0, (BH.out.next h).cell 1, (BH.out.next h).cell 2⟩)
  have zW2 := HBW.out.size
  have p0 := (SC.out _ (Below.refl _ _)).p0
  have p1 := (SC.out _ (Below.refl _ _)).p1
  have a0 := (SC.out _ (Below.refl _ _)).a0
  have a1 := (SC.out _ (Below.refl _ _)).a1
  have a2 := (SC.out _ (Below.refl _ _)).a2
  have b0 := (SC.out _ (Below.refl _ _)).b0
  have b1 := (SC.out _ (Below.refl _ _)).b1
  have b2 := (SC.out _ (Below.refl _ _)).b2
  have c0 := (SC.out _ (Below.refl _ _)).c0
  have c1 := (SC.out _ (Below.refl _ _)).c1
  have c2' := (SC.out _ (Below.refl _ _)).c2
  have d0 := (SC.out _ (Below.refl _ _)).d0
  have d1 := (SC.out _ (Below.refl _ _)).d1
  have d2 := (SC.out _ (Below.refl _ _)).d2
  go_wp2_with fail
  clear p0 p1 a0 a1 a2 b0 b1 b2 c0 c1 c2' d0 d1 d2
  refine (ref2_May _ _ _ _ _ _ (HP.out.below HBW.out)).mono ?_
  rintro e w3 ⟨rfl, hb3⟩
  have H3 := Lib.hid hb3
  clear hb3
  have p0 := (SC.out _ H3.out).p0
  have p1 := (SC.out _ H3.out).p1
  have a0 := (SC.out _ H3.out).a0
  have a1 := (SC.out _ H3.out).a1
  have a2 := (SC.out _ H3.out).a2
  have b0 := (SC.out _ H3.out).b0
  have b1 := (SC.out _ H3.out).b1
  have b2 := (SC.out _ H3.out).b2
  have c0 := (SC.out _ H3.out).c0
  have c1 := (SC.out _ H3.out).c1
  have c2' := (SC.out _ H3.out).c2
  have d0 := (SC.out _ H3.out).d0
  have d1 := (SC.out _ H3.out).d1
  have d2 := (SC.out _ H3.out).d2
  rw [HM.out]
  go_wp2_with fail
  clear p0 p1 a0 a1 a2 b0 b1 b2 c0 c1 c2' d0 d1 d2
  refine (ref3_Right _ _ _ _ _ _ _ _ _ (HP.out.below (HBW.out.trans (H3.out.mono zW2))) (HL.out.below (HBW.out.trans (H3.out.mono zW2)))).mono ?_
  rintro e w4 ⟨rfl, hb4⟩
  have H4 := Lib.hid (H3.out.trans (hb4.mono H3.out.size))
  clear hb4
  have p0 := (SC.out _ H4.out).p0
  have p1 := (SC.out _ H4.out).p1
  have a0 := (SC.out _ H4.out).a0
  have a1 := (SC.out _ H4.out).a1
  have a2 := (SC.out _ H4.out).a2
  have b0 := (SC.out _ H4.out).b0
  have b1 := (SC.out _ H4.out).b1
  have b2 := (SC.out _ H4.out).b2
  have c0 := (SC.out _ H4.out).c0
  have c1 := (SC.out _ H4.out).c1
  have c2' := (SC.out _ H4.out).c2
  have d0 := (SC.out _ H4.out).d0
  have d1 := (SC.out _ H4.out).d1
  have d2 := (SC.out _ H4.out).d2
  rw [HRI.out]
  go_wp2_with fail
  clear p0 p1 a0 a1 a2 b0 b1 b2 c0 c1 c2' d0 d1 d2
  refine (ref3_Look _ _ _ _ _ _ _ _ _ (HP.out.below (HBW.out.trans (H4.out.mono zW2))) (HL.out.below (HBW.out.trans (H4.out.mono zW2))) HM.out HRI.out).mono ?_
  rw [show decide (lookE p l = 0) = true from decide_eq_true HE.out]
  obtain ⟨cc, hcc⟩ : ∃ cc, lookC p l = cc := ⟨_, rfl⟩
  rw [hcc]
  clear hcc
  rintro e w5 ⟨X, cx, Y, cy, G, cg, rfl, _, _, _, hb5⟩
  have z45 := hb5.size
  go_upto_region 9 with fail
  have H5 := Lib.hid (H4.out.trans ((hb5.alloc z45 (.cells #[.slice X cc.xs.length cx, .int .i64 cc.xd, .slice Y cc.ys.length cy, .int .i64 cc.yd, .slice G cc.gs.length cg, .int .i64 cc.gd] 47)).mono H4.out.size))
  clear hb5
  generalize (w5.alloc (.cells #[.slice X cc.xs.length cx, .int .i64 cc.xd, .slice Y cc.ys.length cy, .int .i64 cc.yd, .slice G cc.gs.length cg, .int .i64 cc.gd] 47)) = W5 at *
  have HB5 := Lib.hid (HBW.out.trans (H5.out.mono zW2))
  have p0 := (SC.out _ H5.out).p0
  have p1 := (SC.out _ H5.out).p1
  have a0 := (SC.out _ H5.out).a0
  have a1 := (SC.out _ H5.out).a1
  have a2 := (SC.out _ H5.out).a2
  have b0 := (SC.out _ H5.out).b0
  have b1 := (SC.out _ H5.out).b1
  have b2 := (SC.out _ H5.out).b2
  have c0 := (SC.out _ H5.out).c0
  have c1 := (SC.out _ H5.out).c1
  have c2' := (SC.out _ H5.out).c2
  have d0 := (SC.out _ H5.out).d0
  have d1 := (SC.out _ H5.out).d1
  have d2 := (SC.out _ H5.out).d2
  go_wp2_with fail
  refine (ref7_Small _ _ _ _ _ _ (by omega) (by omega) (HD.out.below HB5.out)).mono ?_
  rw [HB1.out]
  rintro e w6 ⟨rfl, rfl⟩
  rename World => W5
  obtain ⟨x1, x2, x3, x4, x5, x6⟩ := HZ.out
  go_wp2_with fail
  clear p0 p1 a0 a1 a2 b0 b1 b2 c0 c1 c2' d0 d1 d2
  refine (ref7_Small _ _ _ _ _ _ (by omega) (by omega) (HMM.out.below (HB5.out))).mono ?_
  rw [HM1.out]
  rintro e wm ⟨rfl, rfl⟩
  rename World => WM
  have p0 := (SC.out _ H5.out).p0
  have p1 := (SC.out _ H5.out).p1
  have a0 := (SC.out _ H5.out).a0
  have a1 := (SC.out _ H5.out).a1
  have a2 := (SC.out _ H5.out).a2
  have b0 := (SC.out _ H5.out).b0
  have b1 := (SC.out _ H5.out).b1
  have b2 := (SC.out _ H5.out).b2
  have c0 := (SC.out _ H5.out).c0
  have c1 := (SC.out _ H5.out).c1
  have c2' := (SC.out _ H5.out).c2
  have d0 := (SC.out _ H5.out).d0
  have d1 := (SC.out _ H5.out).d1
  have d2 := (SC.out _ H5.out).d2
  obtain ⟨x1, x2, x3, x4, x5, x6⟩ := HZM.out
  go_wp2_with fail
  go_ret
  exact ⟨rfl, HBW.out.trans ((H5.out).mono zW2)⟩
set_option maxRecDepth 100000 in
set_option maxHeartbeats 4000000 in
theorem spanTells_zs (A : Option Addr) (c : Nat) (A2 : Option Addr) (c2 : Nat) (p : PG) (L : Option Addr) (l : List Int) (cl : Nat) (B : Option Addr) (b : List Int) (cb : Nat) (M : Option Addr) (m : List Int) (cm : Nat) (w : World) (hp : Pg w A c A2 c2 p) (hr : Rd w L cl l) (hb : Rd w B cb b) (hmm : Rd w M cm m) (hm : mayPB p = true) (hri : rightA p l = true) (hE : lookE p l = 0) (hb1 : manyB b p.costs.length 400 = false) (hm1 : manyB m p.rows.length 12 = true) :
    Calls Try.prog 12 #[.agg #[.slice A p.costs.length c, .slice A2 p.rows.length c2], .slice L l.length cl, .slice B b.length cb, .slice M m.length cm] w fun e w' => e = .returned (.bool true) ∧ Below w.heap.size w w' := by
  have hef0 : costsF p l b = zeroE := by unfold costsF; rw [if_neg (by simp [hE]), if_pos hb1]
  have het0 : costsT p l b = zeroE := by unfold costsT; rw [if_neg (by simp [hE]), if_pos hb1]
  have hee : costsE p l b = 1 := by unfold costsE; rw [if_neg (by simp [hE]), if_pos hb1]
  obtain ⟨ef, hz⟩ : ∃ ef, ef = zeroE := ⟨_, rfl⟩
  obtain ⟨et, hz2⟩ : ∃ ef, ef = zeroE := ⟨_, rfl⟩
  have hef : costsF p l b = ef := by rw [hef0, hz]
  have het : costsT p l b = et := by rw [het0, hz2]
  have HZ := Lib.hid (show ef.op = false ∧ ef.n = 0 ∧ ef.d = 0 ∧ et.op = false ∧ et.n = 0 ∧ et.d = 0 by subst hz hz2; simp [zeroE])
  clear hz hz2 hef0 het0
  obtain ⟨sb, hsa⟩ : ∃ s, s = mostsN p l m := ⟨_, rfl⟩
  obtain ⟨xb, hxa⟩ : ∃ x, x = if someZ sb = true then sb else zeroN := ⟨_, rfl⟩
  obtain ⟨mf, h1⟩ : ∃ e, e = endsF sb := ⟨_, rfl⟩
  obtain ⟨mt, h2⟩ : ∃ e, e = endsT sb := ⟨_, rfl⟩
  obtain ⟨me, h3⟩ : ∃ e, e = endsE sb := ⟨_, rfl⟩
  have hmf : mostsF p l m = mf := by unfold mostsF; rw [if_neg (by simp [hE]), if_neg (by simp [hm1]), h1, hsa]
  have hmt : mostsT p l m = mt := by unfold mostsT; rw [if_neg (by simp [hE]), if_neg (by simp [hm1]), h2, hsa]
  have hme : mostsE p l m = me := by unfold mostsE; rw [if_neg (by simp [hE]), if_neg (by simp [hm1]), h3, hsa]
  have HOB := Lib.hid (show NOk sb by rw [hsa]; exact mostsN_ok hE hm1)
  have HSB := Lib.hid hsa
  have HXB := Lib.hid hxa
  have HMF := Lib.hid h1
  have HMT := Lib.hid h2
  have HME := Lib.hid h3
  clear hsa hxa h1 h2 h3
  have HM := Lib.hid hm
  have HRI := Lib.hid hri
  have HE := Lib.hid hE
  have HB1 := Lib.hid hb1
  have HM1 := Lib.hid hm1
  clear hm hri hE hb1 hm1
  have HP := Lib.hid hp
  have HL := Lib.hid hr
  have HD := Lib.hid hb
  have HMM := Lib.hid hmm
  obtain ⟨⟨hl, hc, hsm, _⟩, ⟨hl2, hc2, hsm2, _⟩⟩ := hp
  obtain ⟨hll, hlc, hls, _⟩ := hr
  obtain ⟨hbl, hbc, hbs, _⟩ := hb
  obtain ⟨hml, hmc, hms, _⟩ := hmm
  go_enter Try.func12, Try.ntmps12
  go_wp2_with fail
  have BP := Lib.hid (Blk.mk' w 40 #[.slice A p.costs.length c, .slice A2 p.rows.length c2])
  have HBU := Lib.hid ((Below.refl w.heap.size w).alloc (Nat.le_refl _) (.cells #[.slice A p.costs.length c, .slice A2 p.rows.length c2] 40))
  generalize (w.alloc (.cells #[.slice A p.costs.length c, .slice A2 p.rows.length c2] 40)) = U at *
  refine (span_Costs _ _ _ _ _ _ _ _ _ _ _ _ (HP.out.below HBU.out) (HL.out.below HBU.out) (HD.out.below HBU.out)).mono ?_
  rw [hef, het, hee]
  rintro e w1 ⟨rfl, hb1⟩
  have z01 := hb1.size
  have zU := HBU.out.size
  have lU := BP.out.lt
  have lw1 : w.heap.size < w1.heap.size := by omega
  go_upto_region 2 with fail
  have BF := Lib.hid (show Blk ((w1.alloc (.cells #[.bool ef.op, .int .i64 ef.n, .int .i64 ef.d] 64)).alloc (.cells #[.bool et.op, .int .i64 et.n, .int .i64 et.d] 64)) w1.heap.size 64 #[.bool ef.op, .int .i64 ef.n, .int .i64 ef.d] from (Blk.mk' _ _ _).alloc _)
  have BT := Lib.hid (Blk.new (w1.alloc (.cells #[.bool ef.op, .int .i64 ef.n, .int .i64 ef.d] 64)) 64 #[.bool et.op, .int .i64 et.n, .int .i64 et.d] (w1.heap.size + 1) (by simp))
  have HV1 := Lib.hid ((hb1.alloc z01 (.cells #[.bool ef.op, .int .i64 ef.n, .int .i64 ef.d] 64)).alloc (by simp; omega) (.cells #[.bool et.op, .int .i64 et.n, .int .i64 et.d] 64))
  clear hb1
  generalize ((w1.alloc (.cells #[.bool ef.op, .int .i64 ef.n, .int .i64 ef.d] 64)).alloc (.cells #[.bool et.op, .int .i64 et.n, .int .i64 et.d] 64)) = W1 at *
  have p0 : W1.cell? ⟨w.heap.size, 0, none⟩ = some (.slice A p.costs.length c) := (BP.out.next HV1.out).cell 0
  have p1 : W1.cell? ⟨w.heap.size, 1, none⟩ = some (.slice A2 p.rows.length c2) := (BP.out.next HV1.out).cell 1
  have HBW1 := Lib.hid (HBU.out.trans (HV1.out.mono zU))
  have zV1 := HV1.out.size
  have lT := BT.out.lt
  go_wp2_with fail
  clear p0 p1
  refine (span_Mosts _ _ _ _ _ _ _ _ _ _ _ _ (HP.out.below HBW1.out) (HL.out.below HBW1.out) (HMM.out.below HBW1.out)).mono ?_
  rw [hmf, hmt, hme]
  rintro e w2 ⟨rfl, hb2⟩
  have z12 := hb2.size
  have lw2 : w.heap.size < w2.heap.size := by omega
  have lw3 : w1.heap.size + 1 < w2.heap.size := by omega
  have lw4 : w1.heap.size < w2.heap.size := by omega
  go_upto_region 3 with fail
  have BL := Lib.hid (show Blk ((w2.alloc (.cells #[.bool mf.op, .int .i64 mf.n, .int .i64 mf.d] 64)).alloc (.cells #[.bool mt.op, .int .i64 mt.n, .int .i64 mt.d] 64)) w2.heap.size 64 #[.bool mf.op, .int .i64 mf.n, .int .i64 mf.d] from (Blk.mk' _ _ _).alloc _)
  have BH := Lib.hid (Blk.new (w2.alloc (.cells #[.bool mf.op, .int .i64 mf.n, .int .i64 mf.d] 64)) 64 #[.bool mt.op, .int .i64 mt.n, .int .i64 mt.d] (w2.heap.size + 1) (by simp))
  have HV2 := Lib.hid ((hb2.alloc z12 (.cells #[.bool mf.op, .int .i64 mf.n, .int .i64 mf.d] 64)).alloc (by simp; omega) (.cells #[.bool mt.op, .int .i64 mt.n, .int .i64 mt.d] 64))
  clear hb2
  generalize ((w2.alloc (.cells #[.bool mf.op, .int .i64 mf.n, .int .i64 mf.d] 64)).alloc (.cells #[.bool mt.op, .int .i64 mt.n, .int .i64 mt.d] 64)) = W2 at *
  have HV12 := Lib.hid (HV1.out.trans (HV2.out.mono zV1))
  have HBW := Lib.hid (HBU.out.trans (HV12.out.mono zU))
  have SC := Lib.hid (show ∀ w', Below W2.heap.size W2 w' → LawC w1.heap.size w2.heap.size w.heap.size A p.costs.length c A2 p.rows.length c2 ef et mf mt w' from fun w' h =>
    ⟨((BP.out.next HV12.out).next h).cell 0, ((BP.out.next HV12.out).next h).cell 1, ((BF.out.next HV2.out).next h).cell 0, ((BF.out.next HV2.out).next h).cell 1, ((BF.out.next HV2.out).next h).cell 2,
     ((BT.out.next HV2.out).next h).cell 0, ((BT.out.next HV2.out).next h).cell 1, ((BT.out.next HV2.out).next h).cell 2, (BL.out.next h).cell 0, (BL.out.next h).cell 1, (BL.out.next h).cell 2, (BH.out.next h).cell 0, (BH.out.next h).cell 1, (BH.out.next h).cell 2⟩)
  have zW2 := HBW.out.size
  have p0 := (SC.out _ (Below.refl _ _)).p0
  have p1 := (SC.out _ (Below.refl _ _)).p1
  have a0 := (SC.out _ (Below.refl _ _)).a0
  have a1 := (SC.out _ (Below.refl _ _)).a1
  have a2 := (SC.out _ (Below.refl _ _)).a2
  have b0 := (SC.out _ (Below.refl _ _)).b0
  have b1 := (SC.out _ (Below.refl _ _)).b1
  have b2 := (SC.out _ (Below.refl _ _)).b2
  have c0 := (SC.out _ (Below.refl _ _)).c0
  have c1 := (SC.out _ (Below.refl _ _)).c1
  have c2' := (SC.out _ (Below.refl _ _)).c2
  have d0 := (SC.out _ (Below.refl _ _)).d0
  have d1 := (SC.out _ (Below.refl _ _)).d1
  have d2 := (SC.out _ (Below.refl _ _)).d2
  go_wp2_with fail
  clear p0 p1 a0 a1 a2 b0 b1 b2 c0 c1 c2' d0 d1 d2
  refine (ref2_May _ _ _ _ _ _ (HP.out.below HBW.out)).mono ?_
  rintro e w3 ⟨rfl, hb3⟩
  have H3 := Lib.hid hb3
  clear hb3
  have p0 := (SC.out _ H3.out).p0
  have p1 := (SC.out _ H3.out).p1
  have a0 := (SC.out _ H3.out).a0
  have a1 := (SC.out _ H3.out).a1
  have a2 := (SC.out _ H3.out).a2
  have b0 := (SC.out _ H3.out).b0
  have b1 := (SC.out _ H3.out).b1
  have b2 := (SC.out _ H3.out).b2
  have c0 := (SC.out _ H3.out).c0
  have c1 := (SC.out _ H3.out).c1
  have c2' := (SC.out _ H3.out).c2
  have d0 := (SC.out _ H3.out).d0
  have d1 := (SC.out _ H3.out).d1
  have d2 := (SC.out _ H3.out).d2
  rw [HM.out]
  go_wp2_with fail
  clear p0 p1 a0 a1 a2 b0 b1 b2 c0 c1 c2' d0 d1 d2
  refine (ref3_Right _ _ _ _ _ _ _ _ _ (HP.out.below (HBW.out.trans (H3.out.mono zW2))) (HL.out.below (HBW.out.trans (H3.out.mono zW2)))).mono ?_
  rintro e w4 ⟨rfl, hb4⟩
  have H4 := Lib.hid (H3.out.trans (hb4.mono H3.out.size))
  clear hb4
  have p0 := (SC.out _ H4.out).p0
  have p1 := (SC.out _ H4.out).p1
  have a0 := (SC.out _ H4.out).a0
  have a1 := (SC.out _ H4.out).a1
  have a2 := (SC.out _ H4.out).a2
  have b0 := (SC.out _ H4.out).b0
  have b1 := (SC.out _ H4.out).b1
  have b2 := (SC.out _ H4.out).b2
  have c0 := (SC.out _ H4.out).c0
  have c1 := (SC.out _ H4.out).c1
  have c2' := (SC.out _ H4.out).c2
  have d0 := (SC.out _ H4.out).d0
  have d1 := (SC.out _ H4.out).d1
  have d2 := (SC.out _ H4.out).d2
  rw [HRI.out]
  go_wp2_with fail
  clear p0 p1 a0 a1 a2 b0 b1 b2 c0 c1 c2' d0 d1 d2
  refine (ref3_Look _ _ _ _ _ _ _ _ _ (HP.out.below (HBW.out.trans (H4.out.mono zW2))) (HL.out.below (HBW.out.trans (H4.out.mono zW2))) HM.out HRI.out).mono ?_
  rw [show decide (lookE p l = 0) = true from decide_eq_true HE.out]
  obtain ⟨cc, hcc⟩ : ∃ cc, lookC p l = cc := ⟨_, rfl⟩
  rw [hcc]
  clear hcc
  rintro e w5 ⟨X, cx, Y, cy, G, cg, rfl, _, _, _, hb5⟩
  have z45 := hb5.size
  go_upto_region 9 with fail
  have H5 := Lib.hid (H4.out.trans ((hb5.alloc z45 (.cells #[.slice X cc.xs.length cx, .int .i64 cc.xd, .slice Y cc.ys.length cy, .int .i64 cc.yd, .slice G cc.gs.length cg, .int .i64 cc.gd] 47)).mono H4.out.size))
  clear hb5
  generalize (w5.alloc (.cells #[.slice X cc.xs.length cx, .int .i64 cc.xd, .slice Y cc.ys.length cy, .int .i64 cc.yd, .slice G cc.gs.length cg, .int .i64 cc.gd] 47)) = W5 at *
  have HB5 := Lib.hid (HBW.out.trans (H5.out.mono zW2))
  have p0 := (SC.out _ H5.out).p0
  have p1 := (SC.out _ H5.out).p1
  have a0 := (SC.out _ H5.out).a0
  have a1 := (SC.out _ H5.out).a1
  have a2 := (SC.out _ H5.out).a2
  have b0 := (SC.out _ H5.out).b0
  have b1 := (SC.out _ H5.out).b1
  have b2 := (SC.out _ H5.out).b2
  have c0 := (SC.out _ H5.out).c0
  have c1 := (SC.out _ H5.out).c1
  have c2' := (SC.out _ H5.out).c2
  have d0 := (SC.out _ H5.out).d0
  have d1 := (SC.out _ H5.out).d1
  have d2 := (SC.out _ H5.out).d2
  go_wp2_with fail
  refine (ref7_Small _ _ _ _ _ _ (by omega) (by omega) (HD.out.below HB5.out)).mono ?_
  rw [HB1.out]
  rintro e w6 ⟨rfl, rfl⟩
  rename World => W5
  obtain ⟨x1, x2, x3, x4, x5, x6⟩ := HZ.out
  go_wp2_with fail
  clear p0 p1 a0 a1 a2 b0 b1 b2 c0 c1 c2' d0 d1 d2
  refine (ref7_Small _ _ _ _ _ _ (by omega) (by omega) (HMM.out.below (HB5.out))).mono ?_
  rw [HM1.out]
  rintro e wm ⟨rfl, rfl⟩
  rename World => WM
  clear x1 x2 x3 x4 x5 x6
  have p0 := (SC.out _ H5.out).p0
  have p1 := (SC.out _ H5.out).p1
  have a0 := (SC.out _ H5.out).a0
  have a1 := (SC.out _ H5.out).a1
  have a2 := (SC.out _ H5.out).a2
  have b0 := (SC.out _ H5.out).b0
  have b1 := (SC.out _ H5.out).b1
  have b2 := (SC.out _ H5.out).b2
  have c0 := (SC.out _ H5.out).c0
  have c1 := (SC.out _ H5.out).c1
  have c2' := (SC.out _ H5.out).c2
  have d0 := (SC.out _ H5.out).d0
  have d1 := (SC.out _ H5.out).d1
  have d2 := (SC.out _ H5.out).d2
  go_wp2_with fail
  clear p0 p1 a0 a1 a2 b0 b1 b2 c0 c1 c2' d0 d1 d2
  refine (mosts_call _ _ _ _ _ _ _ _ _ _ _ _ (HP.out.below HB5.out) (HL.out.below HB5.out) (HMM.out.below HB5.out) HE.out HM1.out xb sb HSB.out HXB.out).mono ?_
  rintro e v7 ⟨rfl, hb7⟩
  have z57 := hb7.size
  go_upto_region 22 with fail
  have BX := Lib.hid (Blk.mk' v7 76 #[.bool xb.fr.op, .int .i64 xb.fr.n, .int .i64 xb.fr.d, .bool xb.to.op, .int .i64 xb.to.n, .int .i64 xb.to.d, .bool xb.no])
  have HWL := ((Below.refl _ v7).alloc (Nat.le_refl _) (.cells #[.bool xb.fr.op, .int .i64 xb.fr.n, .int .i64 xb.fr.d, .bool xb.to.op, .int .i64 xb.to.n, .int .i64 xb.to.d, .bool xb.no] 76))
  have K8 := Lib.hid ((H5.out).trans ((hb7.trans (HWL.mono z57)).mono (H5.out).size))
  clear HWL hb7
  generalize (v7.alloc (.cells #[.bool xb.fr.op, .int .i64 xb.fr.n, .int .i64 xb.fr.d, .bool xb.to.op, .int .i64 xb.to.n, .int .i64 xb.to.d, .bool xb.no] 76)) = V8 at *
  have x0 : V8.cell? ⟨v7.heap.size, 0, none⟩ = some (.bool xb.fr.op) := BX.out.cell 0
  have x1 : V8.cell? ⟨v7.heap.size, 1, none⟩ = some (.int .i64 xb.fr.n) := BX.out.cell 1
  have x2 : V8.cell? ⟨v7.heap.size, 2, none⟩ = some (.int .i64 xb.fr.d) := BX.out.cell 2
  have x3 : V8.cell? ⟨v7.heap.size, 3, none⟩ = some (.bool xb.to.op) := BX.out.cell 3
  have x4 : V8.cell? ⟨v7.heap.size, 4, none⟩ = some (.int .i64 xb.to.n) := BX.out.cell 4
  have x5 : V8.cell? ⟨v7.heap.size, 5, none⟩ = some (.int .i64 xb.to.d) := BX.out.cell 5
  have x6 : V8.cell? ⟨v7.heap.size, 6, none⟩ = some (.bool xb.no) := BX.out.cell 6
  have p0 := (SC.out _ K8.out).p0
  have p1 := (SC.out _ K8.out).p1
  have a0 := (SC.out _ K8.out).a0
  have a1 := (SC.out _ K8.out).a1
  have a2 := (SC.out _ K8.out).a2
  have b0 := (SC.out _ K8.out).b0
  have b1 := (SC.out _ K8.out).b1
  have b2 := (SC.out _ K8.out).b2
  have c0 := (SC.out _ K8.out).c0
  have c1 := (SC.out _ K8.out).c1
  have c2' := (SC.out _ K8.out).c2
  have d0 := (SC.out _ K8.out).d0
  have d1 := (SC.out _ K8.out).d1
  have d2 := (SC.out _ K8.out).d2
  go_wp2_with fail
  clear x0 x1 x2 x3 x4 x5 x6 BX
  clear p0 p1 a0 a1 a2 b0 b1 b2 c0 c1 c2' d0 d1 d2
  refine (ends_call sb xb HXB.out mf mt me HMF.out HMT.out HME.out HOB.out _).mono ?_
  rintro e v9 ⟨rfl, hb9⟩
  have K9 := Lib.hid (K8.out.trans (hb9.mono K8.out.size))
  clear hb9
  go_wp2_with fail
  go_ret
  exact ⟨rfl, HBW.out.trans (K9.out.mono zW2)⟩
set_option maxRecDepth 100000 in
set_option maxHeartbeats 4000000 in
theorem spanTells_sz (A : Option Addr) (c : Nat) (A2 : Option Addr) (c2 : Nat) (p : PG) (L : Option Addr) (l : List Int) (cl : Nat) (B : Option Addr) (b : List Int) (cb : Nat) (M : Option Addr) (m : List Int) (cm : Nat) (w : World) (hp : Pg w A c A2 c2 p) (hr : Rd w L cl l) (hb : Rd w B cb b) (hmm : Rd w M cm m) (hm : mayPB p = true) (hri : rightA p l = true) (hE : lookE p l = 0) (hb1 : manyB b p.costs.length 400 = true) (hm1 : manyB m p.rows.length 12 = false) :
    Calls Try.prog 12 #[.agg #[.slice A p.costs.length c, .slice A2 p.rows.length c2], .slice L l.length cl, .slice B b.length cb, .slice M m.length cm] w fun e w' => e = .returned (.bool true) ∧ Below w.heap.size w w' := by
  obtain ⟨sa, hsa⟩ : ∃ s, s = costsN p l b := ⟨_, rfl⟩
  obtain ⟨xa, hxa⟩ : ∃ x, x = if someZ sa = true then sa else zeroN := ⟨_, rfl⟩
  obtain ⟨ef, h1⟩ : ∃ e, e = endsF sa := ⟨_, rfl⟩
  obtain ⟨et, h2⟩ : ∃ e, e = endsT sa := ⟨_, rfl⟩
  obtain ⟨ee, h3⟩ : ∃ e, e = endsE sa := ⟨_, rfl⟩
  have hef : costsF p l b = ef := by unfold costsF; rw [if_neg (by simp [hE]), if_neg (by simp [hb1]), h1, hsa]
  have het : costsT p l b = et := by unfold costsT; rw [if_neg (by simp [hE]), if_neg (by simp [hb1]), h2, hsa]
  have hee : costsE p l b = ee := by unfold costsE; rw [if_neg (by simp [hE]), if_neg (by simp [hb1]), h3, hsa]
  have HOA := Lib.hid (show NOk sa by rw [hsa]; exact costsN_ok hE hb1)
  have HSA := Lib.hid hsa
  have HXA := Lib.hid hxa
  have HEF := Lib.hid h1
  have HET := Lib.hid h2
  have HEE := Lib.hid h3
  clear hsa hxa h1 h2 h3
  have hmf0 : mostsF p l m = zeroE := by unfold mostsF; rw [if_neg (by simp [hE]), if_pos hm1]
  have hmt0 : mostsT p l m = zeroE := by unfold mostsT; rw [if_neg (by simp [hE]), if_pos hm1]
  have hme : mostsE p l m = 1 := by unfold mostsE; rw [if_neg (by simp [hE]), if_pos hm1]
  obtain ⟨mf, hz⟩ : ∃ ef, ef = zeroE := ⟨_, rfl⟩
  obtain ⟨mt, hz2⟩ : ∃ ef, ef = zeroE := ⟨_, rfl⟩
  have hmf : mostsF p l m = mf := by rw [hmf0, hz]
  have hmt : mostsT p l m = mt := by rw [hmt0, hz2]
  have HZM := Lib.hid (show mf.op = false ∧ mf.n = 0 ∧ mf.d = 0 ∧ mt.op = false ∧ mt.n = 0 ∧ mt.d = 0 by subst hz hz2; simp [zeroE])
  clear hz hz2 hmf0 hmt0
  have HM := Lib.hid hm
  have HRI := Lib.hid hri
  have HE := Lib.hid hE
  have HB1 := Lib.hid hb1
  have HM1 := Lib.hid hm1
  clear hm hri hE hb1 hm1
  have HP := Lib.hid hp
  have HL := Lib.hid hr
  have HD := Lib.hid hb
  have HMM := Lib.hid hmm
  obtain ⟨⟨hl, hc, hsm, _⟩, ⟨hl2, hc2, hsm2, _⟩⟩ := hp
  obtain ⟨hll, hlc, hls, _⟩ := hr
  obtain ⟨hbl, hbc, hbs, _⟩ := hb
  obtain ⟨hml, hmc, hms, _⟩ := hmm
  go_enter Try.func12, Try.ntmps12
  go_wp2_with fail
  have BP := Lib.hid (Blk.mk' w 40 #[.slice A p.costs.length c, .slice A2 p.rows.length c2])
  have HBU := Lib.hid ((Below.refl w.heap.size w).alloc (Nat.le_refl _) (.cells #[.slice A p.costs.length c, .slice A2 p.rows.length c2] 40))
  generalize (w.alloc (.cells #[.slice A p.costs.length c, .slice A2 p.rows.length c2] 40)) = U at *
  refine (span_Costs _ _ _ _ _ _ _ _ _ _ _ _ (HP.out.below HBU.out) (HL.out.below HBU.out) (HD.out.below HBU.out)).mono ?_
  rw [hef, het, hee]
  rintro e w1 ⟨rfl, hb1⟩
  have z01 := hb1.size
  have zU := HBU.out.size
  have lU := BP.out.lt
  have lw1 : w.heap.size < w1.heap.size := by omega
  go_upto_region 2 with fail
  have BF := Lib.hid (show Blk ((w1.alloc (.cells #[.bool ef.op, .int .i64 ef.n, .int .i64 ef.d] 64)).alloc (.cells #[.bool et.op, .int .i64 et.n, .int .i64 et.d] 64)) w1.heap.size 64 #[.bool ef.op, .int .i64 ef.n, .int .i64 ef.d] from (Blk.mk' _ _ _).alloc _)
  have BT := Lib.hid (Blk.new (w1.alloc (.cells #[.bool ef.op, .int .i64 ef.n, .int .i64 ef.d] 64)) 64 #[.bool et.op, .int .i64 et.n, .int .i64 et.d] (w1.heap.size + 1) (by simp))
  have HV1 := Lib.hid ((hb1.alloc z01 (.cells #[.bool ef.op, .int .i64 ef.n, .int .i64 ef.d] 64)).alloc (by simp; omega) (.cells #[.bool et.op, .int .i64 et.n, .int .i64 et.d] 64))
  clear hb1
  generalize ((w1.alloc (.cells #[.bool ef.op, .int .i64 ef.n, .int .i64 ef.d] 64)).alloc (.cells #[.bool et.op, .int .i64 et.n, .int .i64 et.d] 64)) = W1 at *
  have p0 : W1.cell? ⟨w.heap.size, 0, none⟩ = some (.slice A p.costs.length c) := (BP.out.next HV1.out).cell 0
  have p1 : W1.cell? ⟨w.heap.size, 1, none⟩ = some (.slice A2 p.rows.length c2) := (BP.out.next HV1.out).cell 1
  have HBW1 := Lib.hid (HBU.out.trans (HV1.out.mono zU))
  have zV1 := HV1.out.size
  have lT := BT.out.lt
  go_wp2_with fail
  clear p0 p1
  refine (span_Mosts _ _ _ _ _ _ _ _ _ _ _ _ (HP.out.below HBW1.out) (HL.out.below HBW1.out) (HMM.out.below HBW1.out)).mono ?_
  rw [hmf, hmt, hme]
  rintro e w2 ⟨rfl, hb2⟩
  have z12 := hb2.size
  have lw2 : w.heap.size < w2.heap.size := by omega
  have lw3 : w1.heap.size + 1 < w2.heap.size := by omega
  have lw4 : w1.heap.size < w2.heap.size := by omega
  go_upto_region 3 with fail
  have BL := Lib.hid (show Blk ((w2.alloc (.cells #[.bool mf.op, .int .i64 mf.n, .int .i64 mf.d] 64)).alloc (.cells #[.bool mt.op, .int .i64 mt.n, .int .i64 mt.d] 64)) w2.heap.size 64 #[.bool mf.op, .int .i64 mf.n, .int .i64 mf.d] from (Blk.mk' _ _ _).alloc _)
  have BH := Lib.hid (Blk.new (w2.alloc (.cells #[.bool mf.op, .int .i64 mf.n, .int .i64 mf.d] 64)) 64 #[.bool mt.op, .int .i64 mt.n, .int .i64 mt.d] (w2.heap.size + 1) (by simp))
  have HV2 := Lib.hid ((hb2.alloc z12 (.cells #[.bool mf.op, .int .i64 mf.n, .int .i64 mf.d] 64)).alloc (by simp; omega) (.cells #[.bool mt.op, .int .i64 mt.n, .int .i64 mt.d] 64))
  clear hb2
  generalize ((w2.alloc (.cells #[.bool mf.op, .int .i64 mf.n, .int .i64 mf.d] 64)).alloc (.cells #[.bool mt.op, .int .i64 mt.n, .int .i64 mt.d] 64)) = W2 at *
  have HV12 := Lib.hid (HV1.out.trans (HV2.out.mono zV1))
  have HBW := Lib.hid (HBU.out.trans (HV12.out.mono zU))
  have SC := Lib.hid (show ∀ w', Below W2.heap.size W2 w' → LawC w1.heap.size w2.heap.size w.heap.size A p.costs.length c A2 p.rows.length c2 ef et mf mt w' from fun w' h =>
    ⟨((BP.out.next HV12.out).next h).cell 0, ((BP.out.next HV12.out).next h).cell 1, ((BF.out.next HV2.out).next h).cell 0, ((BF.out.next HV2.out).next h).cell 1, ((BF.out.next HV2.out).next h).cell 2,
     ((BT.out.next HV2.out).next h).cell 0, ((BT.out.next HV2.out).next h).cell 1, ((BT.out.next HV2.out).next h).cell 2, (BL.out.next h).cell 0, (BL.out.next h).cell 1, (BL.out.next h).cell 2, (BH.out.next h).cell 0, (BH.out.next h).cell 1, (BH.out.next h).cell 2⟩)
  have zW2 := HBW.out.size
  have p0 := (SC.out _ (Below.refl _ _)).p0
  have p1 := (SC.out _ (Below.refl _ _)).p1
  have a0 := (SC.out _ (Below.refl _ _)).a0
  have a1 := (SC.out _ (Below.refl _ _)).a1
  have a2 := (SC.out _ (Below.refl _ _)).a2
  have b0 := (SC.out _ (Below.refl _ _)).b0
  have b1 := (SC.out _ (Below.refl _ _)).b1
  have b2 := (SC.out _ (Below.refl _ _)).b2
  have c0 := (SC.out _ (Below.refl _ _)).c0
  have c1 := (SC.out _ (Below.refl _ _)).c1
  have c2' := (SC.out _ (Below.refl _ _)).c2
  have d0 := (SC.out _ (Below.refl _ _)).d0
  have d1 := (SC.out _ (Below.refl _ _)).d1
  have d2 := (SC.out _ (Below.refl _ _)).d2
  go_wp2_with fail
  clear p0 p1 a0 a1 a2 b0 b1 b2 c0 c1 c2' d0 d1 d2
  refine (ref2_May _ _ _ _ _ _ (HP.out.below HBW.out)).mono ?_
  rintro e w3 ⟨rfl, hb3⟩
  have H3 := Lib.hid hb3
  clear hb3
  have p0 := (SC.out _ H3.out).p0
  have p1 := (SC.out _ H3.out).p1
  have a0 := (SC.out _ H3.out).a0
  have a1 := (SC.out _ H3.out).a1
  have a2 := (SC.out _ H3.out).a2
  have b0 := (SC.out _ H3.out).b0
  have b1 := (SC.out _ H3.out).b1
  have b2 := (SC.out _ H3.out).b2
  have c0 := (SC.out _ H3.out).c0
  have c1 := (SC.out _ H3.out).c1
  have c2' := (SC.out _ H3.out).c2
  have d0 := (SC.out _ H3.out).d0
  have d1 := (SC.out _ H3.out).d1
  have d2 := (SC.out _ H3.out).d2
  rw [HM.out]
  go_wp2_with fail
  clear p0 p1 a0 a1 a2 b0 b1 b2 c0 c1 c2' d0 d1 d2
  refine (ref3_Right _ _ _ _ _ _ _ _ _ (HP.out.below (HBW.out.trans (H3.out.mono zW2))) (HL.out.below (HBW.out.trans (H3.out.mono zW2)))).mono ?_
  rintro e w4 ⟨rfl, hb4⟩
  have H4 := Lib.hid (H3.out.trans (hb4.mono H3.out.size))
  clear hb4
  have p0 := (SC.out _ H4.out).p0
  have p1 := (SC.out _ H4.out).p1
  have a0 := (SC.out _ H4.out).a0
  have a1 := (SC.out _ H4.out).a1
  have a2 := (SC.out _ H4.out).a2
  have b0 := (SC.out _ H4.out).b0
  have b1 := (SC.out _ H4.out).b1
  have b2 := (SC.out _ H4.out).b2
  have c0 := (SC.out _ H4.out).c0
  have c1 := (SC.out _ H4.out).c1
  have c2' := (SC.out _ H4.out).c2
  have d0 := (SC.out _ H4.out).d0
  have d1 := (SC.out _ H4.out).d1
  have d2 := (SC.out _ H4.out).d2
  rw [HRI.out]
  go_wp2_with fail
  clear p0 p1 a0 a1 a2 b0 b1 b2 c0 c1 c2' d0 d1 d2
  refine (ref3_Look _ _ _ _ _ _ _ _ _ (HP.out.below (HBW.out.trans (H4.out.mono zW2))) (HL.out.below (HBW.out.trans (H4.out.mono zW2))) HM.out HRI.out).mono ?_
  rw [show decide (lookE p l = 0) = true from decide_eq_true HE.out]
  obtain ⟨cc, hcc⟩ : ∃ cc, lookC p l = cc := ⟨_, rfl⟩
  rw [hcc]
  clear hcc
  rintro e w5 ⟨X, cx, Y, cy, G, cg, rfl, _, _, _, hb5⟩
  have z45 := hb5.size
  go_upto_region 9 with fail
  have H5 := Lib.hid (H4.out.trans ((hb5.alloc z45 (.cells #[.slice X cc.xs.length cx, .int .i64 cc.xd, .slice Y cc.ys.length cy, .int .i64 cc.yd, .slice G cc.gs.length cg, .int .i64 cc.gd] 47)).mono H4.out.size))
  clear hb5
  generalize (w5.alloc (.cells #[.slice X cc.xs.length cx, .int .i64 cc.xd, .slice Y cc.ys.length cy, .int .i64 cc.yd, .slice G cc.gs.length cg, .int .i64 cc.gd] 47)) = W5 at *
  have HB5 := Lib.hid (HBW.out.trans (H5.out.mono zW2))
  have p0 := (SC.out _ H5.out).p0
  have p1 := (SC.out _ H5.out).p1
  have a0 := (SC.out _ H5.out).a0
  have a1 := (SC.out _ H5.out).a1
  have a2 := (SC.out _ H5.out).a2
  have b0 := (SC.out _ H5.out).b0
  have b1 := (SC.out _ H5.out).b1
  have b2 := (SC.out _ H5.out).b2
  have c0 := (SC.out _ H5.out).c0
  have c1 := (SC.out _ H5.out).c1
  have c2' := (SC.out _ H5.out).c2
  have d0 := (SC.out _ H5.out).d0
  have d1 := (SC.out _ H5.out).d1
  have d2 := (SC.out _ H5.out).d2
  go_wp2_with fail
  refine (ref7_Small _ _ _ _ _ _ (by omega) (by omega) (HD.out.below HB5.out)).mono ?_
  rw [HB1.out]
  rintro e w6 ⟨rfl, rfl⟩
  rename World => W5
  go_wp2_with fail
  clear p0 p1 a0 a1 a2 b0 b1 b2 c0 c1 c2' d0 d1 d2
  refine (costs_call _ _ _ _ _ _ _ _ _ _ _ _ (HP.out.below HB5.out) (HL.out.below HB5.out) (HD.out.below HB5.out) HE.out HB1.out xa sa HSA.out HXA.out).mono ?_
  rintro e w7 ⟨rfl, hb7⟩
  have z57 := hb7.size
  go_upto_region 17 with fail
  have BX := Lib.hid (Blk.mk' w7 76 #[.bool xa.fr.op, .int .i64 xa.fr.n, .int .i64 xa.fr.d, .bool xa.to.op, .int .i64 xa.to.n, .int .i64 xa.to.d, .bool xa.no])
  have HWL := ((Below.refl _ w7).alloc (Nat.le_refl _) (.cells #[.bool xa.fr.op, .int .i64 xa.fr.n, .int .i64 xa.fr.d, .bool xa.to.op, .int .i64 xa.to.n, .int .i64 xa.to.d, .bool xa.no] 76))
  have H8 := Lib.hid (H5.out.trans ((hb7.trans (HWL.mono z57)).mono H5.out.size))
  clear HWL hb7
  generalize (w7.alloc (.cells #[.bool xa.fr.op, .int .i64 xa.fr.n, .int .i64 xa.fr.d, .bool xa.to.op, .int .i64 xa.to.n, .int .i64 xa.to.d, .bool xa.no] 76)) = W8 at *
  have x0 : W8.cell? ⟨w7.heap.size, 0, none⟩ = some (.bool xa.fr.op) := BX.out.cell 0
  have x1 : W8.cell? ⟨w7.heap.size, 1, none⟩ = some (.int .i64 xa.fr.n) := BX.out.cell 1
  have x2 : W8.cell? ⟨w7.heap.size, 2, none⟩ = some (.int .i64 xa.fr.d) := BX.out.cell 2
  have x3 : W8.cell? ⟨w7.heap.size, 3, none⟩ = some (.bool xa.to.op) := BX.out.cell 3
  have x4 : W8.cell? ⟨w7.heap.size, 4, none⟩ = some (.int .i64 xa.to.n) := BX.out.cell 4
  have x5 : W8.cell? ⟨w7.heap.size, 5, none⟩ = some (.int .i64 xa.to.d) := BX.out.cell 5
  have x6 : W8.cell? ⟨w7.heap.size, 6, none⟩ = some (.bool xa.no) := BX.out.cell 6
  have p0 := (SC.out _ H8.out).p0
  have p1 := (SC.out _ H8.out).p1
  have a0 := (SC.out _ H8.out).a0
  have a1 := (SC.out _ H8.out).a1
  have a2 := (SC.out _ H8.out).a2
  have b0 := (SC.out _ H8.out).b0
  have b1 := (SC.out _ H8.out).b1
  have b2 := (SC.out _ H8.out).b2
  have c0 := (SC.out _ H8.out).c0
  have c1 := (SC.out _ H8.out).c1
  have c2' := (SC.out _ H8.out).c2
  have d0 := (SC.out _ H8.out).d0
  have d1 := (SC.out _ H8.out).d1
  have d2 := (SC.out _ H8.out).d2
  go_wp2_with fail
  clear x0 x1 x2 x3 x4 x5 x6 BX
  clear p0 p1 a0 a1 a2 b0 b1 b2 c0 c1 c2' d0 d1 d2
  refine (ends_call sa xa HXA.out ef et ee HEF.out HET.out HEE.out HOA.out _).mono ?_
  rintro e w9 ⟨rfl, hb9⟩
  have H9 := Lib.hid (H8.out.trans (hb9.mono H8.out.size))
  have HB9 := Lib.hid (HBW.out.trans (H9.out.mono zW2))
  clear hb9
  have p0 := (SC.out _ H9.out).p0
  have p1 := (SC.out _ H9.out).p1
  have a0 := (SC.out _ H9.out).a0
  have a1 := (SC.out _ H9.out).a1
  have a2 := (SC.out _ H9.out).a2
  have b0 := (SC.out _ H9.out).b0
  have b1 := (SC.out _ H9.out).b1
  have b2 := (SC.out _ H9.out).b2
  have c0 := (SC.out _ H9.out).c0
  have c1 := (SC.out _ H9.out).c1
  have c2' := (SC.out _ H9.out).c2
  have d0 := (SC.out _ H9.out).d0
  have d1 := (SC.out _ H9.out).d1
  have d2 := (SC.out _ H9.out).d2
  go_wp2_with fail
  clear p0 p1 a0 a1 a2 b0 b1 b2 c0 c1 c2' d0 d1 d2
  refine (ref7_Small _ _ _ _ _ _ (by omega) (by omega) (HMM.out.below (HB9.out))).mono ?_
  rw [HM1.out]
  rintro e wm ⟨rfl, rfl⟩
  rename World => WM
  have p0 := (SC.out _ H9.out).p0
  have p1 := (SC.out _ H9.out).p1
  have a0 := (SC.out _ H9.out).a0
  have a1 := (SC.out _ H9.out).a1
  have a2 := (SC.out _ H9.out).a2
  have b0 := (SC.out _ H9.out).b0
  have b1 := (SC.out _ H9.out).b1
  have b2 := (SC.out _ H9.out).b2
  have c0 := (SC.out _ H9.out).c0
  have c1 := (SC.out _ H9.out).c1
  have c2' := (SC.out _ H9.out).c2
  have d0 := (SC.out _ H9.out).d0
  have d1 := (SC.out _ H9.out).d1
  have d2 := (SC.out _ H9.out).d2
  obtain ⟨x1, x2, x3, x4, x5, x6⟩ := HZM.out
  go_wp2_with fail
  go_ret
  exact ⟨rfl, HBW.out.trans ((H9.out).mono zW2)⟩
set_option maxRecDepth 100000 in
set_option maxHeartbeats 4000000 in
theorem spanTells_ss (A : Option Addr) (c : Nat) (A2 : Option Addr) (c2 : Nat) (p : PG) (L : Option Addr) (l : List Int) (cl : Nat) (B : Option Addr) (b : List Int) (cb : Nat) (M : Option Addr) (m : List Int) (cm : Nat) (w : World) (hp : Pg w A c A2 c2 p) (hr : Rd w L cl l) (hb : Rd w B cb b) (hmm : Rd w M cm m) (hm : mayPB p = true) (hri : rightA p l = true) (hE : lookE p l = 0) (hb1 : manyB b p.costs.length 400 = true) (hm1 : manyB m p.rows.length 12 = true) :
    Calls Try.prog 12 #[.agg #[.slice A p.costs.length c, .slice A2 p.rows.length c2], .slice L l.length cl, .slice B b.length cb, .slice M m.length cm] w fun e w' => e = .returned (.bool true) ∧ Below w.heap.size w w' := by
  obtain ⟨sa, hsa⟩ : ∃ s, s = costsN p l b := ⟨_, rfl⟩
  obtain ⟨xa, hxa⟩ : ∃ x, x = if someZ sa = true then sa else zeroN := ⟨_, rfl⟩
  obtain ⟨ef, h1⟩ : ∃ e, e = endsF sa := ⟨_, rfl⟩
  obtain ⟨et, h2⟩ : ∃ e, e = endsT sa := ⟨_, rfl⟩
  obtain ⟨ee, h3⟩ : ∃ e, e = endsE sa := ⟨_, rfl⟩
  have hef : costsF p l b = ef := by unfold costsF; rw [if_neg (by simp [hE]), if_neg (by simp [hb1]), h1, hsa]
  have het : costsT p l b = et := by unfold costsT; rw [if_neg (by simp [hE]), if_neg (by simp [hb1]), h2, hsa]
  have hee : costsE p l b = ee := by unfold costsE; rw [if_neg (by simp [hE]), if_neg (by simp [hb1]), h3, hsa]
  have HOA := Lib.hid (show NOk sa by rw [hsa]; exact costsN_ok hE hb1)
  have HSA := Lib.hid hsa
  have HXA := Lib.hid hxa
  have HEF := Lib.hid h1
  have HET := Lib.hid h2
  have HEE := Lib.hid h3
  clear hsa hxa h1 h2 h3
  obtain ⟨sb, hsa⟩ : ∃ s, s = mostsN p l m := ⟨_, rfl⟩
  obtain ⟨xb, hxa⟩ : ∃ x, x = if someZ sb = true then sb else zeroN := ⟨_, rfl⟩
  obtain ⟨mf, h1⟩ : ∃ e, e = endsF sb := ⟨_, rfl⟩
  obtain ⟨mt, h2⟩ : ∃ e, e = endsT sb := ⟨_, rfl⟩
  obtain ⟨me, h3⟩ : ∃ e, e = endsE sb := ⟨_, rfl⟩
  have hmf : mostsF p l m = mf := by unfold mostsF; rw [if_neg (by simp [hE]), if_neg (by simp [hm1]), h1, hsa]
  have hmt : mostsT p l m = mt := by unfold mostsT; rw [if_neg (by simp [hE]), if_neg (by simp [hm1]), h2, hsa]
  have hme : mostsE p l m = me := by unfold mostsE; rw [if_neg (by simp [hE]), if_neg (by simp [hm1]), h3, hsa]
  have HOB := Lib.hid (show NOk sb by rw [hsa]; exact mostsN_ok hE hm1)
  have HSB := Lib.hid hsa
  have HXB := Lib.hid hxa
  have HMF := Lib.hid h1
  have HMT := Lib.hid h2
  have HME := Lib.hid h3
  clear hsa hxa h1 h2 h3
  have HM := Lib.hid hm
  have HRI := Lib.hid hri
  have HE := Lib.hid hE
  have HB1 := Lib.hid hb1
  have HM1 := Lib.hid hm1
  clear hm hri hE hb1 hm1
  have HP := Lib.hid hp
  have HL := Lib.hid hr
  have HD := Lib.hid hb
  have HMM := Lib.hid hmm
  obtain ⟨⟨hl, hc, hsm, _⟩, ⟨hl2, hc2, hsm2, _⟩⟩ := hp
  obtain ⟨hll, hlc, hls, _⟩ := hr
  obtain ⟨hbl, hbc, hbs, _⟩ := hb
  obtain ⟨hml, hmc, hms, _⟩ := hmm
  go_enter Try.func12, Try.ntmps12
  go_wp2_with fail
  have BP := Lib.hid (Blk.mk' w 40 #[.slice A p.costs.length c, .slice A2 p.rows.length c2])
  have HBU := Lib.hid ((Below.refl w.heap.size w).alloc (Nat.le_refl _) (.cells #[.slice A p.costs.length c, .slice A2 p.rows.length c2] 40))
  generalize (w.alloc (.cells #[.slice A p.costs.length c, .slice A2 p.rows.length c2] 40)) = U at *
  refine (span_Costs _ _ _ _ _ _ _ _ _ _ _ _ (HP.out.below HBU.out) (HL.out.below HBU.out) (HD.out.below HBU.out)).mono ?_
  rw [hef, het, hee]
  rintro e w1 ⟨rfl, hb1⟩
  have z01 := hb1.size
  have zU := HBU.out.size
  have lU := BP.out.lt
  have lw1 : w.heap.size < w1.heap.size := by omega
  go_upto_region 2 with fail
  have BF := Lib.hid (show Blk ((w1.alloc (.cells #[.bool ef.op, .int .i64 ef.n, .int .i64 ef.d] 64)).alloc (.cells #[.bool et.op, .int .i64 et.n, .int .i64 et.d] 64)) w1.heap.size 64 #[.bool ef.op, .int .i64 ef.n, .int .i64 ef.d] from (Blk.mk' _ _ _).alloc _)
  have BT := Lib.hid (Blk.new (w1.alloc (.cells #[.bool ef.op, .int .i64 ef.n, .int .i64 ef.d] 64)) 64 #[.bool et.op, .int .i64 et.n, .int .i64 et.d] (w1.heap.size + 1) (by simp))
  have HV1 := Lib.hid ((hb1.alloc z01 (.cells #[.bool ef.op, .int .i64 ef.n, .int .i64 ef.d] 64)).alloc (by simp; omega) (.cells #[.bool et.op, .int .i64 et.n, .int .i64 et.d] 64))
  clear hb1
  generalize ((w1.alloc (.cells #[.bool ef.op, .int .i64 ef.n, .int .i64 ef.d] 64)).alloc (.cells #[.bool et.op, .int .i64 et.n, .int .i64 et.d] 64)) = W1 at *
  have p0 : W1.cell? ⟨w.heap.size, 0, none⟩ = some (.slice A p.costs.length c) := (BP.out.next HV1.out).cell 0
  have p1 : W1.cell? ⟨w.heap.size, 1, none⟩ = some (.slice A2 p.rows.length c2) := (BP.out.next HV1.out).cell 1
  have HBW1 := Lib.hid (HBU.out.trans (HV1.out.mono zU))
  have zV1 := HV1.out.size
  have lT := BT.out.lt
  go_wp2_with fail
  clear p0 p1
  refine (span_Mosts _ _ _ _ _ _ _ _ _ _ _ _ (HP.out.below HBW1.out) (HL.out.below HBW1.out) (HMM.out.below HBW1.out)).mono ?_
  rw [hmf, hmt, hme]
  rintro e w2 ⟨rfl, hb2⟩
  have z12 := hb2.size
  have lw2 : w.heap.size < w2.heap.size := by omega
  have lw3 : w1.heap.size + 1 < w2.heap.size := by omega
  have lw4 : w1.heap.size < w2.heap.size := by omega
  go_upto_region 3 with fail
  have BL := Lib.hid (show Blk ((w2.alloc (.cells #[.bool mf.op, .int .i64 mf.n, .int .i64 mf.d] 64)).alloc (.cells #[.bool mt.op, .int .i64 mt.n, .int .i64 mt.d] 64)) w2.heap.size 64 #[.bool mf.op, .int .i64 mf.n, .int .i64 mf.d] from (Blk.mk' _ _ _).alloc _)
  have BH := Lib.hid (Blk.new (w2.alloc (.cells #[.bool mf.op, .int .i64 mf.n, .int .i64 mf.d] 64)) 64 #[.bool mt.op, .int .i64 mt.n, .int .i64 mt.d] (w2.heap.size + 1) (by simp))
  have HV2 := Lib.hid ((hb2.alloc z12 (.cells #[.bool mf.op, .int .i64 mf.n, .int .i64 mf.d] 64)).alloc (by simp; omega) (.cells #[.bool mt.op, .int .i64 mt.n, .int .i64 mt.d] 64))
  clear hb2
  generalize ((w2.alloc (.cells #[.bool mf.op, .int .i64 mf.n, .int .i64 mf.d] 64)).alloc (.cells #[.bool mt.op, .int .i64 mt.n, .int .i64 mt.d] 64)) = W2 at *
  have HV12 := Lib.hid (HV1.out.trans (HV2.out.mono zV1))
  have HBW := Lib.hid (HBU.out.trans (HV12.out.mono zU))
  have SC := Lib.hid (show ∀ w', Below W2.heap.size W2 w' → LawC w1.heap.size w2.heap.size w.heap.size A p.costs.length c A2 p.rows.length c2 ef et mf mt w' from fun w' h =>
    ⟨((BP.out.next HV12.out).next h).cell 0, ((BP.out.next HV12.out).next h).cell 1, ((BF.out.next HV2.out).next h).cell 0, ((BF.out.next HV2.out).next h).cell 1, ((BF.out.next HV2.out).next h).cell 2,
     ((BT.out.next HV2.out).next h).cell 0, ((BT.out.next HV2.out).next h).cell 1, ((BT.out.next HV2.out).next h).cell 2, (BL.out.next h).cell 0, (BL.out.next h).cell 1, (BL.out.next h).cell 2, (BH.out.next h).cell 0, (BH.out.next h).cell 1, (BH.out.next h).cell 2⟩)
  have zW2 := HBW.out.size
  have p0 := (SC.out _ (Below.refl _ _)).p0
  have p1 := (SC.out _ (Below.refl _ _)).p1
  have a0 := (SC.out _ (Below.refl _ _)).a0
  have a1 := (SC.out _ (Below.refl _ _)).a1
  have a2 := (SC.out _ (Below.refl _ _)).a2
  have b0 := (SC.out _ (Below.refl _ _)).b0
  have b1 := (SC.out _ (Below.refl _ _)).b1
  have b2 := (SC.out _ (Below.refl _ _)).b2
  have c0 := (SC.out _ (Below.refl _ _)).c0
  have c1 := (SC.out _ (Below.refl _ _)).c1
  have c2' := (SC.out _ (Below.refl _ _)).c2
  have d0 := (SC.out _ (Below.refl _ _)).d0
  have d1 := (SC.out _ (Below.refl _ _)).d1
  have d2 := (SC.out _ (Below.refl _ _)).d2
  go_wp2_with fail
  clear p0 p1 a0 a1 a2 b0 b1 b2 c0 c1 c2' d0 d1 d2
  refine (ref2_May _ _ _ _ _ _ (HP.out.below HBW.out)).mono ?_
  rintro e w3 ⟨rfl, hb3⟩
  have H3 := Lib.hid hb3
  clear hb3
  have p0 := (SC.out _ H3.out).p0
  have p1 := (SC.out _ H3.out).p1
  have a0 := (SC.out _ H3.out).a0
  have a1 := (SC.out _ H3.out).a1
  have a2 := (SC.out _ H3.out).a2
  have b0 := (SC.out _ H3.out).b0
  have b1 := (SC.out _ H3.out).b1
  have b2 := (SC.out _ H3.out).b2
  have c0 := (SC.out _ H3.out).c0
  have c1 := (SC.out _ H3.out).c1
  have c2' := (SC.out _ H3.out).c2
  have d0 := (SC.out _ H3.out).d0
  have d1 := (SC.out _ H3.out).d1
  have d2 := (SC.out _ H3.out).d2
  rw [HM.out]
  go_wp2_with fail
  clear p0 p1 a0 a1 a2 b0 b1 b2 c0 c1 c2' d0 d1 d2
  refine (ref3_Right _ _ _ _ _ _ _ _ _ (HP.out.below (HBW.out.trans (H3.out.mono zW2))) (HL.out.below (HBW.out.trans (H3.out.mono zW2)))).mono ?_
  rintro e w4 ⟨rfl, hb4⟩
  have H4 := Lib.hid (H3.out.trans (hb4.mono H3.out.size))
  clear hb4
  have p0 := (SC.out _ H4.out).p0
  have p1 := (SC.out _ H4.out).p1
  have a0 := (SC.out _ H4.out).a0
  have a1 := (SC.out _ H4.out).a1
  have a2 := (SC.out _ H4.out).a2
  have b0 := (SC.out _ H4.out).b0
  have b1 := (SC.out _ H4.out).b1
  have b2 := (SC.out _ H4.out).b2
  have c0 := (SC.out _ H4.out).c0
  have c1 := (SC.out _ H4.out).c1
  have c2' := (SC.out _ H4.out).c2
  have d0 := (SC.out _ H4.out).d0
  have d1 := (SC.out _ H4.out).d1
  have d2 := (SC.out _ H4.out).d2
  rw [HRI.out]
  go_wp2_with fail
  clear p0 p1 a0 a1 a2 b0 b1 b2 c0 c1 c2' d0 d1 d2
  refine (ref3_Look _ _ _ _ _ _ _ _ _ (HP.out.below (HBW.out.trans (H4.out.mono zW2))) (HL.out.below (HBW.out.trans (H4.out.mono zW2))) HM.out HRI.out).mono ?_
  rw [show decide (lookE p l = 0) = true from decide_eq_true HE.out]
  obtain ⟨cc, hcc⟩ : ∃ cc, lookC p l = cc := ⟨_, rfl⟩
  rw [hcc]
  clear hcc
  rintro e w5 ⟨X, cx, Y, cy, G, cg, rfl, _, _, _, hb5⟩
  have z45 := hb5.size
  go_upto_region 9 with fail
  have H5 := Lib.hid (H4.out.trans ((hb5.alloc z45 (.cells #[.slice X cc.xs.length cx, .int .i64 cc.xd, .slice Y cc.ys.length cy, .int .i64 cc.yd, .slice G cc.gs.length cg, .int .i64 cc.gd] 47)).mono H4.out.size))
  clear hb5
  generalize (w5.alloc (.cells #[.slice X cc.xs.length cx, .int .i64 cc.xd, .slice Y cc.ys.length cy, .int .i64 cc.yd, .slice G cc.gs.length cg, .int .i64 cc.gd] 47)) = W5 at *
  have HB5 := Lib.hid (HBW.out.trans (H5.out.mono zW2))
  have p0 := (SC.out _ H5.out).p0
  have p1 := (SC.out _ H5.out).p1
  have a0 := (SC.out _ H5.out).a0
  have a1 := (SC.out _ H5.out).a1
  have a2 := (SC.out _ H5.out).a2
  have b0 := (SC.out _ H5.out).b0
  have b1 := (SC.out _ H5.out).b1
  have b2 := (SC.out _ H5.out).b2
  have c0 := (SC.out _ H5.out).c0
  have c1 := (SC.out _ H5.out).c1
  have c2' := (SC.out _ H5.out).c2
  have d0 := (SC.out _ H5.out).d0
  have d1 := (SC.out _ H5.out).d1
  have d2 := (SC.out _ H5.out).d2
  go_wp2_with fail
  refine (ref7_Small _ _ _ _ _ _ (by omega) (by omega) (HD.out.below HB5.out)).mono ?_
  rw [HB1.out]
  rintro e w6 ⟨rfl, rfl⟩
  rename World => W5
  go_wp2_with fail
  clear p0 p1 a0 a1 a2 b0 b1 b2 c0 c1 c2' d0 d1 d2
  refine (costs_call _ _ _ _ _ _ _ _ _ _ _ _ (HP.out.below HB5.out) (HL.out.below HB5.out) (HD.out.below HB5.out) HE.out HB1.out xa sa HSA.out HXA.out).mono ?_
  rintro e w7 ⟨rfl, hb7⟩
  have z57 := hb7.size
  go_upto_region 17 with fail
  have BX := Lib.hid (Blk.mk' w7 76 #[.bool xa.fr.op, .int .i64 xa.fr.n, .int .i64 xa.fr.d, .bool xa.to.op, .int .i64 xa.to.n, .int .i64 xa.to.d, .bool xa.no])
  have HWL := ((Below.refl _ w7).alloc (Nat.le_refl _) (.cells #[.bool xa.fr.op, .int .i64 xa.fr.n, .int .i64 xa.fr.d, .bool xa.to.op, .int .i64 xa.to.n, .int .i64 xa.to.d, .bool xa.no] 76))
  have H8 := Lib.hid (H5.out.trans ((hb7.trans (HWL.mono z57)).mono H5.out.size))
  clear HWL hb7
  generalize (w7.alloc (.cells #[.bool xa.fr.op, .int .i64 xa.fr.n, .int .i64 xa.fr.d, .bool xa.to.op, .int .i64 xa.to.n, .int .i64 xa.to.d, .bool xa.no] 76)) = W8 at *
  have x0 : W8.cell? ⟨w7.heap.size, 0, none⟩ = some (.bool xa.fr.op) := BX.out.cell 0
  have x1 : W8.cell? ⟨w7.heap.size, 1, none⟩ = some (.int .i64 xa.fr.n) := BX.out.cell 1
  have x2 : W8.cell? ⟨w7.heap.size, 2, none⟩ = some (.int .i64 xa.fr.d) := BX.out.cell 2
  have x3 : W8.cell? ⟨w7.heap.size, 3, none⟩ = some (.bool xa.to.op) := BX.out.cell 3
  have x4 : W8.cell? ⟨w7.heap.size, 4, none⟩ = some (.int .i64 xa.to.n) := BX.out.cell 4
  have x5 : W8.cell? ⟨w7.heap.size, 5, none⟩ = some (.int .i64 xa.to.d) := BX.out.cell 5
  have x6 : W8.cell? ⟨w7.heap.size, 6, none⟩ = some (.bool xa.no) := BX.out.cell 6
  have p0 := (SC.out _ H8.out).p0
  have p1 := (SC.out _ H8.out).p1
  have a0 := (SC.out _ H8.out).a0
  have a1 := (SC.out _ H8.out).a1
  have a2 := (SC.out _ H8.out).a2
  have b0 := (SC.out _ H8.out).b0
  have b1 := (SC.out _ H8.out).b1
  have b2 := (SC.out _ H8.out).b2
  have c0 := (SC.out _ H8.out).c0
  have c1 := (SC.out _ H8.out).c1
  have c2' := (SC.out _ H8.out).c2
  have d0 := (SC.out _ H8.out).d0
  have d1 := (SC.out _ H8.out).d1
  have d2 := (SC.out _ H8.out).d2
  go_wp2_with fail
  clear x0 x1 x2 x3 x4 x5 x6 BX
  clear p0 p1 a0 a1 a2 b0 b1 b2 c0 c1 c2' d0 d1 d2
  refine (ends_call sa xa HXA.out ef et ee HEF.out HET.out HEE.out HOA.out _).mono ?_
  rintro e w9 ⟨rfl, hb9⟩
  have H9 := Lib.hid (H8.out.trans (hb9.mono H8.out.size))
  have HB9 := Lib.hid (HBW.out.trans (H9.out.mono zW2))
  clear hb9
  have p0 := (SC.out _ H9.out).p0
  have p1 := (SC.out _ H9.out).p1
  have a0 := (SC.out _ H9.out).a0
  have a1 := (SC.out _ H9.out).a1
  have a2 := (SC.out _ H9.out).a2
  have b0 := (SC.out _ H9.out).b0
  have b1 := (SC.out _ H9.out).b1
  have b2 := (SC.out _ H9.out).b2
  have c0 := (SC.out _ H9.out).c0
  have c1 := (SC.out _ H9.out).c1
  have c2' := (SC.out _ H9.out).c2
  have d0 := (SC.out _ H9.out).d0
  have d1 := (SC.out _ H9.out).d1
  have d2 := (SC.out _ H9.out).d2
  go_wp2_with fail
  clear p0 p1 a0 a1 a2 b0 b1 b2 c0 c1 c2' d0 d1 d2
  refine (ref7_Small _ _ _ _ _ _ (by omega) (by omega) (HMM.out.below (HB9.out))).mono ?_
  rw [HM1.out]
  rintro e wm ⟨rfl, rfl⟩
  rename World => WM
  have p0 := (SC.out _ H9.out).p0
  have p1 := (SC.out _ H9.out).p1
  have a0 := (SC.out _ H9.out).a0
  have a1 := (SC.out _ H9.out).a1
  have a2 := (SC.out _ H9.out).a2
  have b0 := (SC.out _ H9.out).b0
  have b1 := (SC.out _ H9.out).b1
  have b2 := (SC.out _ H9.out).b2
  have c0 := (SC.out _ H9.out).c0
  have c1 := (SC.out _ H9.out).c1
  have c2' := (SC.out _ H9.out).c2
  have d0 := (SC.out _ H9.out).d0
  have d1 := (SC.out _ H9.out).d1
  have d2 := (SC.out _ H9.out).d2
  go_wp2_with fail
  clear p0 p1 a0 a1 a2 b0 b1 b2 c0 c1 c2' d0 d1 d2
  refine (mosts_call _ _ _ _ _ _ _ _ _ _ _ _ (HP.out.below HB9.out) (HL.out.below HB9.out) (HMM.out.below HB9.out) HE.out HM1.out xb sb HSB.out HXB.out).mono ?_
  rintro e v7 ⟨rfl, hb7⟩
  have z57 := hb7.size
  go_upto_region 22 with fail
  have BX := Lib.hid (Blk.mk' v7 76 #[.bool xb.fr.op, .int .i64 xb.fr.n, .int .i64 xb.fr.d, .bool xb.to.op, .int .i64 xb.to.n, .int .i64 xb.to.d, .bool xb.no])
  have HWL := ((Below.refl _ v7).alloc (Nat.le_refl _) (.cells #[.bool xb.fr.op, .int .i64 xb.fr.n, .int .i64 xb.fr.d, .bool xb.to.op, .int .i64 xb.to.n, .int .i64 xb.to.d, .bool xb.no] 76))
  have K8 := Lib.hid ((H9.out).trans ((hb7.trans (HWL.mono z57)).mono (H9.out).size))
  clear HWL hb7
  generalize (v7.alloc (.cells #[.bool xb.fr.op, .int .i64 xb.fr.n, .int .i64 xb.fr.d, .bool xb.to.op, .int .i64 xb.to.n, .int .i64 xb.to.d, .bool xb.no] 76)) = V8 at *
  have x0 : V8.cell? ⟨v7.heap.size, 0, none⟩ = some (.bool xb.fr.op) := BX.out.cell 0
  have x1 : V8.cell? ⟨v7.heap.size, 1, none⟩ = some (.int .i64 xb.fr.n) := BX.out.cell 1
  have x2 : V8.cell? ⟨v7.heap.size, 2, none⟩ = some (.int .i64 xb.fr.d) := BX.out.cell 2
  have x3 : V8.cell? ⟨v7.heap.size, 3, none⟩ = some (.bool xb.to.op) := BX.out.cell 3
  have x4 : V8.cell? ⟨v7.heap.size, 4, none⟩ = some (.int .i64 xb.to.n) := BX.out.cell 4
  have x5 : V8.cell? ⟨v7.heap.size, 5, none⟩ = some (.int .i64 xb.to.d) := BX.out.cell 5
  have x6 : V8.cell? ⟨v7.heap.size, 6, none⟩ = some (.bool xb.no) := BX.out.cell 6
  have p0 := (SC.out _ K8.out).p0
  have p1 := (SC.out _ K8.out).p1
  have a0 := (SC.out _ K8.out).a0
  have a1 := (SC.out _ K8.out).a1
  have a2 := (SC.out _ K8.out).a2
  have b0 := (SC.out _ K8.out).b0
  have b1 := (SC.out _ K8.out).b1
  have b2 := (SC.out _ K8.out).b2
  have c0 := (SC.out _ K8.out).c0
  have c1 := (SC.out _ K8.out).c1
  have c2' := (SC.out _ K8.out).c2
  have d0 := (SC.out _ K8.out).d0
  have d1 := (SC.out _ K8.out).d1
  have d2 := (SC.out _ K8.out).d2
  go_wp2_with fail
  clear x0 x1 x2 x3 x4 x5 x6 BX
  clear p0 p1 a0 a1 a2 b0 b1 b2 c0 c1 c2' d0 d1 d2
  refine (ends_call sb xb HXB.out mf mt me HMF.out HMT.out HME.out HOB.out _).mono ?_
  rintro e v9 ⟨rfl, hb9⟩
  have K9 := Lib.hid (K8.out.trans (hb9.mono K8.out.size))
  clear hb9
  go_wp2_with fail
  go_ret
  exact ⟨rfl, HBW.out.trans (K9.out.mono zW2)⟩
theorem lookE_cases' {p : PG} {l : List Int} (hm : mayPB p = true) (hri : rightA p l = true) : lookE p l = 0 ∨ lookE p l = 4 := by
  unfold lookE
  rw [if_neg (by rw [hm]; decide), if_neg (by rw [hri]; decide)]
  split <;> simp
theorem spanTells_walk (A : Option Addr) (c : Nat) (A2 : Option Addr) (c2 : Nat) (p : PG) (L : Option Addr) (l : List Int) (cl : Nat) (B : Option Addr) (b : List Int) (cb : Nat) (M : Option Addr) (m : List Int) (cm : Nat) (w : World) (hp : Pg w A c A2 c2 p) (hr : Rd w L cl l) (hb : Rd w B cb b) (hmm : Rd w M cm m) :
    Calls Try.prog 12 #[.agg #[.slice A p.costs.length c, .slice A2 p.rows.length c2], .slice L l.length cl, .slice B b.length cb, .slice M m.length cm] w fun e w' => e = .returned (.bool true) ∧ Below w.heap.size w w' := by
  cases hm : mayPB p with
  | false => exact spanTells_form A c A2 c2 p L l cl B b cb M m cm w hp hr hb hmm hm
  | true =>
    cases hri : rightA p l with
    | false => exact spanTells_range A c A2 c2 p L l cl B b cb M m cm w hp hr hb hmm hm hri
    | true =>
      rcases lookE_cases' hm hri with h | h
      · cases hb1 : manyB b p.costs.length 400 <;> cases hm1 : manyB m p.rows.length 12
        · exact spanTells_zz A c A2 c2 p L l cl B b cb M m cm w hp hr hb hmm hm hri h hb1 hm1
        · exact spanTells_zs A c A2 c2 p L l cl B b cb M m cm w hp hr hb hmm hm hri h hb1 hm1
        · exact spanTells_sz A c A2 c2 p L l cl B b cb M m cm w hp hr hb hmm hm hri h hb1 hm1
        · exact spanTells_ss A c A2 c2 p L l cl B b cb M m cm w hp hr hb hmm hm hri h hb1 hm1
      · exact spanTells_none A c A2 c2 p L l cl B b cb M m cm w hp hr hb hmm hm hri h
end Go.Proofs.Ytjcdkbalhleeeaa
