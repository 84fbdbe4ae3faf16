/-
  Walk: the document's Walk computes what the plain words say.
-/
import Derived.Test.YtjcdkbalhleeeabRf5d
import Derived.Test.YtjcdkbalhleeeabWlk1
import Derived.Test.YtjcdkbalhleeeabRef4
import Derived.Test.YtjcdkbalhleeeabJRefA
import Derived.Test.YtjcdkbalhleeeabCorn2
namespace Go.Proofs.Ytjcdkbalhleeeab
open Go.RowKit Go.Sort

set_option maxRecDepth 100000 in
theorem may3 (A : Option Addr) (c : Nat) (A2 : Option Addr) (c2 : Nat) (p : PG) (w : World) (hp : Pg w A c A2 c2 p) :
    Calls Try.prog 34 #[.agg #[.slice A p.costs.length c, .slice A2 p.rows.length c2]] w fun e w' => e = .returned (.bool (mayPB p)) ∧ Below w.heap.size w w' := by
  have HP := Lib.hid hp
  have HM := Lib.hid (ref2_May A c A2 c2 p)
  clear hp
  go_enter Try.func34, Try.ntmps34
  go_wp2_with fail
  have HVW := Lib.hid ((by (repeat (any_goals (first | exact Below.refl _ _ | refine below_drewN ?_ _ | refine Below.drew ?_ | refine Below.alloc ?_ ?_ _ | refine Below.setCell ?_ ?_ _))); all_goals (first | omega | (simp; done) | (simp; omega))) : Below w.heap.size w (w.alloc (.cells #[.slice A p.costs.length c, .slice A2 p.rows.length c2] 25)))
  refine (HM.out _ (HP.out.below HVW.out)).mono ?_
  rintro e w1 ⟨rfl, hb1⟩
  have HB1 := Lib.hid (HVW.out.trans (hb1.mono HVW.out.size))
  clear hb1
  go_wp2_with fail
  go_ret
  exact ⟨rfl, HB1.out⟩
theorem kind_ne {p : PG} {l : List Nat} (h : nxtZ p l = none) : kindZ p l ≠ 0 := by
  unfold nxtZ at h
  unfold kindZ
  cases h1 : inZ (lookN p l).gs with
  | none => simp
  | some r =>
    rw [h1] at h
    simp only at h ⊢
    cases h2 : outZ (lookN p l).xs l (lessZ p l r) l.length with
    | none => simp
    | some k => rw [h2] at h; cases h
set_option maxRecDepth 100000 in
set_option maxHeartbeats 2000000 in
theorem ref5_Walk_bad (A : Option Addr) (c : Nat) (A2 : Option Addr) (c2 : Nat) (p : PG) (L : Option Addr) (l : List Int) (cl : Nat) (w : World) (hp : Pg w A c A2 c2 p) (hr : Rd w L cl l) (he : nextE p l ≠ 0) :
    Calls Try.prog 10 #[.agg #[.slice A p.costs.length c, .slice A2 p.rows.length c2], .slice L l.length cl] w (RetWk w p l) := by
  cases hm : mayPB p with
  | false =>
    have HE := Lib.hid (show nextE p l = 2 by unfold nextE; have : lookE p l = 2 := by unfold lookE; rw [if_pos hm]
                                              rw [this]; rfl)
    have HM := Lib.hid hm
    clear he hm
    have HP := Lib.hid hp
    have HL := Lib.hid hr
    obtain ⟨⟨hl, hc, hsm, _⟩, ⟨hl2, hc2, hsm2, _⟩⟩ := hp
    obtain ⟨hll, hlc, hls, _⟩ := hr
    go_enter Try.func10, Try.ntmps10
    go_upto_region 1 with fail
    have BP := Lib.hid (Blk.mk' w 25 #[.slice A p.costs.length c, .slice A2 p.rows.length c2])
    have HVW := Lib.hid ((by (repeat (any_goals (first | exact Below.refl _ _ | refine below_drewN ?_ _ | refine Below.drew ?_ | refine Below.alloc ?_ ?_ _ | refine Below.setCell ?_ ?_ _))); all_goals (first | omega | (simp; done) | (simp; omega))) : Below w.heap.size w (w.alloc (.cells #[.slice A p.costs.length c, .slice A2 p.rows.length c2] 25)))
    generalize (w.alloc (.cells #[.slice A p.costs.length c, .slice A2 p.rows.length c2] 25)) = V at *
    have zV := HVW.out.size
    have lP := BP.out.lt
    have p0 : V.cell? ⟨w.heap.size, 0, none⟩ = some (.slice A p.costs.length c) := BP.out.cell 0
    have p1 : V.cell? ⟨w.heap.size, 1, none⟩ = some (.slice A2 p.rows.length c2) := BP.out.cell 1
    go_wp2_with fail
    refine (may3 A c A2 c2 p _ (HP.out.below HVW.out)).mono ?_
    rintro e V1 ⟨rfl, hv1⟩
    have HV1 := Lib.hid hv1
    have zV1 := hv1.size
    have v10 := (hv1.cell (World.block_lt_of_cell? _ _ p0)).trans p0
    have v11 := (hv1.cell (World.block_lt_of_cell? _ _ p1)).trans p1
    clear p0 p1 hv1
    rw [HM.out]
    go_wp2_with fail
    refine bodyPost_ret (v := .tuple #[.slice none 0 0, .int .i64 0, .int .i64 2]) ?_ ?_ ?_
    · simp [results, Try.results10, go_sem]
    · rfl
    exact ⟨HVW.out.trans (HV1.out.mono zV), fun _ => by rw [HE.out], fun h => by have := HE.out.symm.trans h; cases this⟩
  | true =>
    cases hri : rightA p l with
    | false =>
      have HE := Lib.hid (show nextE p l = 3 by unfold nextE; have : lookE p l = 3 := by unfold lookE; rw [hm, hri]; rfl
                                                rw [this]; rfl)
      have HM := Lib.hid hm
      have HRI := Lib.hid hri
      clear he hm hri
      have HP := Lib.hid hp
      have HL := Lib.hid hr
      obtain ⟨⟨hl, hc, hsm, _⟩, ⟨hl2, hc2, hsm2, _⟩⟩ := hp
      obtain ⟨hll, hlc, hls, _⟩ := hr
      go_enter Try.func10, Try.ntmps10
      go_upto_region 1 with fail
      have BP := Lib.hid (Blk.mk' w 25 #[.slice A p.costs.length c, .slice A2 p.rows.length c2])
      have HVW := Lib.hid ((by (repeat (any_goals (first | exact Below.refl _ _ | refine below_drewN ?_ _ | refine Below.drew ?_ | refine Below.alloc ?_ ?_ _ | refine Below.setCell ?_ ?_ _))); all_goals (first | omega | (simp; done) | (simp; omega))) : Below w.heap.size w (w.alloc (.cells #[.slice A p.costs.length c, .slice A2 p.rows.length c2] 25)))
      generalize (w.alloc (.cells #[.slice A p.costs.length c, .slice A2 p.rows.length c2] 25)) = V at *
      have zV := HVW.out.size
      have lP := BP.out.lt
      have p0 : V.cell? ⟨w.heap.size, 0, none⟩ = some (.slice A p.costs.length c) := BP.out.cell 0
      have p1 : V.cell? ⟨w.heap.size, 1, none⟩ = some (.slice A2 p.rows.length c2) := BP.out.cell 1
      go_wp2_with fail
      refine (may3 A c A2 c2 p _ (HP.out.below HVW.out)).mono ?_
      rintro e V1 ⟨rfl, hv1⟩
      have HV1 := Lib.hid hv1
      have zV1 := hv1.size
      have v10 := (hv1.cell (World.block_lt_of_cell? _ _ p0)).trans p0
      have v11 := (hv1.cell (World.block_lt_of_cell? _ _ p1)).trans p1
      clear p0 p1 hv1
      rw [HM.out]
      go_wp2_with fail
      refine (ref3_Right A c A2 c2 p L l cl _ ((HP.out.below HVW.out).below HV1.out) ((HL.out.below HVW.out).below HV1.out)).mono ?_
      rintro e V2 ⟨rfl, hv2⟩
      have HV2 := Lib.hid (HV1.out.trans (hv2.mono HV1.out.size))
      have zV2 := HV2.out.size
      clear v10 v11 hv2
      rw [HRI.out]
      go_wp2_with fail
      refine bodyPost_ret (v := .tuple #[.slice none 0 0, .int .i64 0, .int .i64 3]) ?_ ?_ ?_
      · simp [results, Try.results10, go_sem]
      · rfl
      exact ⟨HVW.out.trans (HV2.out.mono zV), fun _ => by rw [HE.out], fun h => by have := HE.out.symm.trans h; cases this⟩
    | true =>
      have HM := Lib.hid hm
      have HRI := Lib.hid hri
      by_cases hd : denZ p (nats l) = 0
      · have hE4 : lookE p l = 4 := by unfold lookE; rw [hm, hri, if_pos hd]; rfl
        have HE := Lib.hid (show nextE p l = 4 by unfold nextE; rw [hE4]; rfl)
        have HDC := Lib.hid (show decide (lookE p l = 0) = false by rw [hE4]; rfl)
        clear he hm hri hd hE4
        have HP := Lib.hid hp
        have HL := Lib.hid hr
        obtain ⟨⟨hl, hc, hsm, _⟩, ⟨hl2, hc2, hsm2, _⟩⟩ := hp
        obtain ⟨hll, hlc, hls, _⟩ := hr
        go_enter Try.func10, Try.ntmps10
        go_upto_region 1 with fail
        have BP := Lib.hid (Blk.mk' w 25 #[.slice A p.costs.length c, .slice A2 p.rows.length c2])
        have HVW := Lib.hid ((by (repeat (any_goals (first | exact Below.refl _ _ | refine below_drewN ?_ _ | refine Below.drew ?_ | refine Below.alloc ?_ ?_ _ | refine Below.setCell ?_ ?_ _))); all_goals (first | omega | (simp; done) | (simp; omega))) : Below w.heap.size w (w.alloc (.cells #[.slice A p.costs.length c, .slice A2 p.rows.length c2] 25)))
        generalize (w.alloc (.cells #[.slice A p.costs.length c, .slice A2 p.rows.length c2] 25)) = V at *
        have zV := HVW.out.size
        have lP := BP.out.lt
        have p0 : V.cell? ⟨w.heap.size, 0, none⟩ = some (.slice A p.costs.length c) := BP.out.cell 0
        have p1 : V.cell? ⟨w.heap.size, 1, none⟩ = some (.slice A2 p.rows.length c2) := BP.out.cell 1
        go_wp2_with fail
        refine (may3 A c A2 c2 p _ (HP.out.below HVW.out)).mono ?_
        rintro e V1 ⟨rfl, hv1⟩
        have HV1 := Lib.hid hv1
        have zV1 := hv1.size
        have v10 := (hv1.cell (World.block_lt_of_cell? _ _ p0)).trans p0
        have v11 := (hv1.cell (World.block_lt_of_cell? _ _ p1)).trans p1
        clear p0 p1 hv1
        rw [HM.out]
        go_wp2_with fail
        refine (ref3_Right A c A2 c2 p L l cl _ ((HP.out.below HVW.out).below HV1.out) ((HL.out.below HVW.out).below HV1.out)).mono ?_
        rintro e V2 ⟨rfl, hv2⟩
        have HV2 := Lib.hid (HV1.out.trans (hv2.mono HV1.out.size))
        have zV2 := HV2.out.size
        clear v10 v11 hv2
        rw [HRI.out]
        go_wp2_with fail
        go_loopw [7, 8] (fun s7 s8 wx => s7 = .slice none 0 0 ∧ s8 = .slice L l.length cl ∧ Below V.heap.size V wx) (fun _ _ _ => 0)
        case atStart => exact ⟨rfl, rfl, HV2.out⟩
        case round =>
          obtain ⟨rfl, rfl, hbel⟩ := hrel
          rename World => U
          have HU := Lib.hid hbel
          have HB := Lib.hid (HVW.out.trans (HU.out.mono zV))
          have p0 : U.cell? ⟨w.heap.size, 0, none⟩ = some (.slice A p.costs.length c) := (BP.out.next HU.out).cell 0
          have p1 : U.cell? ⟨w.heap.size, 1, none⟩ = some (.slice A2 p.rows.length c2) := (BP.out.next HU.out).cell 1
          clear hbel
          go_wp2_with fail
          refine (ref3_Look A c A2 c2 p L l cl U (HP.out.below HB.out) (HL.out.below HB.out) HM.out HRI.out).mono ?_
          rintro e w2 ⟨X, cx, Y, cy, G, cg, rfl, _, _, _, hb2⟩
          rw [HDC.out]
          have HB2 := Lib.hid (HB.out.trans (hb2.mono HB.out.size))
          clear hb2 p0 p1
          go_wp2_with fail
          refine bodyPost_ret (v := .tuple #[.slice none 0 0, .int .i64 0, .int .i64 4]) ?_ ?_ ?_
          · simp [results, Try.results10, go_sem]
          · rfl
          exact ⟨(by (repeat (any_goals (first | exact Below.refl _ _ | exact HB2.out | refine below_drewN ?_ _ | refine Below.drew ?_ | refine Below.alloc ?_ ?_ _ | refine Below.setCell ?_ ?_ _ | refine Below.trans ?_ (Below.mono HB2.out ?_)))); all_goals (first | omega | (simp; done) | (simp; omega) | ((try have z0 := HB2.out.size); (try simp at z0); (try simp); omega))), fun _ => by rw [HE.out], fun h => by have := HE.out.symm.trans h; cases this⟩
      · have hE0 : lookE p l = 0 := by unfold lookE; rw [hm, hri, if_neg hd]; rfl
        have hnn : nonneg (lookC p l).xs = false := by
          cases h : nonneg (lookC p l).xs with
          | false => rfl
          | true => exact absurd (by unfold nextE; rw [if_pos hE0, if_pos h]) he
        have HE := Lib.hid (show nextE p l = 3 by unfold nextE; rw [if_pos hE0, hnn]; rfl)
        have HDC := Lib.hid (show decide (lookE p l = 0) = true by rw [hE0]; rfl)
        have HNN := Lib.hid hnn
        clear he hm hri hd hE0 hnn
        have HP := Lib.hid hp
        have HL := Lib.hid hr
        obtain ⟨⟨hl, hc, hsm, _⟩, ⟨hl2, hc2, hsm2, _⟩⟩ := hp
        obtain ⟨hll, hlc, hls, _⟩ := hr
        go_enter Try.func10, Try.ntmps10
        go_upto_region 1 with fail
        have BP := Lib.hid (Blk.mk' w 25 #[.slice A p.costs.length c, .slice A2 p.rows.length c2])
        have HVW := Lib.hid ((by (repeat (any_goals (first | exact Below.refl _ _ | refine below_drewN ?_ _ | refine Below.drew ?_ | refine Below.alloc ?_ ?_ _ | refine Below.setCell ?_ ?_ _))); all_goals (first | omega | (simp; done) | (simp; omega))) : Below w.heap.size w (w.alloc (.cells #[.slice A p.costs.length c, .slice A2 p.rows.length c2] 25)))
        generalize (w.alloc (.cells #[.slice A p.costs.length c, .slice A2 p.rows.length c2] 25)) = V at *
        have zV := HVW.out.size
        have lP := BP.out.lt
        have p0 : V.cell? ⟨w.heap.size, 0, none⟩ = some (.slice A p.costs.length c) := BP.out.cell 0
        have p1 : V.cell? ⟨w.heap.size, 1, none⟩ = some (.slice A2 p.rows.length c2) := BP.out.cell 1
        go_wp2_with fail
        refine (may3 A c A2 c2 p _ (HP.out.below HVW.out)).mono ?_
        rintro e V1 ⟨rfl, hv1⟩
        have HV1 := Lib.hid hv1
        have zV1 := hv1.size
        have v10 := (hv1.cell (World.block_lt_of_cell? _ _ p0)).trans p0
        have v11 := (hv1.cell (World.block_lt_of_cell? _ _ p1)).trans p1
        clear p0 p1 hv1
        rw [HM.out]
        go_wp2_with fail
        refine (ref3_Right A c A2 c2 p L l cl _ ((HP.out.below HVW.out).below HV1.out) ((HL.out.below HVW.out).below HV1.out)).mono ?_
        rintro e V2 ⟨rfl, hv2⟩
        have HV2 := Lib.hid (HV1.out.trans (hv2.mono HV1.out.size))
        have zV2 := HV2.out.size
        clear v10 v11 hv2
        rw [HRI.out]
        go_wp2_with fail
        go_loopw [7, 8] (fun s7 s8 wx => s7 = .slice none 0 0 ∧ s8 = .slice L l.length cl ∧ Below V.heap.size V wx) (fun _ _ _ => 0)
        case atStart => exact ⟨rfl, rfl, HV2.out⟩
        case round =>
          obtain ⟨rfl, rfl, hbel⟩ := hrel
          rename World => U
          have HU := Lib.hid hbel
          have HB := Lib.hid (HVW.out.trans (HU.out.mono zV))
          have p0 : U.cell? ⟨w.heap.size, 0, none⟩ = some (.slice A p.costs.length c) := (BP.out.next HU.out).cell 0
          have p1 : U.cell? ⟨w.heap.size, 1, none⟩ = some (.slice A2 p.rows.length c2) := (BP.out.next HU.out).cell 1
          clear hbel
          go_wp2_with fail
          refine (ref3_Look A c A2 c2 p L l cl U (HP.out.below HB.out) (HL.out.below HB.out) HM.out HRI.out).mono ?_
          rintro e w2 ⟨X, cx, Y, cy, G, cg, rfl, hX, _, _, hb2⟩
          rw [HDC.out]
          obtain ⟨dd, hdd⟩ : ∃ dd, lookC p l = dd := ⟨_, rfl⟩
          rw [hdd] at hX HNN ⊢
          clear hdd
          have HX := Lib.hid hX
          have HB2 := Lib.hid (HB.out.trans (hb2.mono HB.out.size))
          clear hb2 p0 p1 hX
          go_wp2_with fail
          refine (ref3_Above _ _ _ _ _ (HX.out.alloc _)).mono ?_
          rintro e w3 ⟨rfl, hb3⟩
          rw [HNN.out]
          have HB3 := Lib.hid (((by (repeat (any_goals (first | exact Below.refl _ _ | exact HB2.out | refine below_drewN ?_ _ | refine Below.drew ?_ | refine Below.alloc ?_ ?_ _ | refine Below.setCell ?_ ?_ _ | refine Below.trans ?_ (Below.mono HB2.out ?_)))); all_goals (first | omega | (simp; done) | (simp; omega) | ((try have z0 := HB2.out.size); (try simp at z0); (try simp); omega))) : Below w.heap.size w _).trans (hb3.mono ((by (repeat (any_goals (first | exact Below.refl _ _ | exact HB2.out | refine below_drewN ?_ _ | refine Below.drew ?_ | refine Below.alloc ?_ ?_ _ | refine Below.setCell ?_ ?_ _ | refine Below.trans ?_ (Below.mono HB2.out ?_)))); all_goals (first | omega | (simp; done) | (simp; omega) | ((try have z0 := HB2.out.size); (try simp at z0); (try simp); omega))) : Below w.heap.size w _).size))
          clear hb3
          go_wp2_with fail
          refine bodyPost_ret (v := .tuple #[.slice none 0 0, .int .i64 0, .int .i64 3]) ?_ ?_ ?_
          · simp [results, Try.results10, go_sem]
          · rfl
          exact ⟨HB3.out, fun _ => by rw [HE.out], fun h => by have := HE.out.symm.trans h; cases this⟩

set_option maxRecDepth 100000 in
set_option maxHeartbeats 4000000 in
theorem ref5_Walk_ok (A : Option Addr) (c : Nat) (A2 : Option Addr) (c2 : Nat) (p : PG) (L : Option Addr) (l : List Int) (cl : Nat) (w : World) (hp : Pg w A c A2 c2 p) (hr : Rd w L cl l) (he : nextE p l = 0) :
    Calls Try.prog 10 #[.agg #[.slice A p.costs.length c, .slice A2 p.rows.length c2], .slice L l.length cl] w (RetWk w p l) := by
  have HE := Lib.hid he
  have ho := nextE_ok he
  have HOK := Lib.hid ho
  have HNE := Lib.hid (look_eq (nextE_look he).1)
  have HM := Lib.hid ho.hp
  have HRI := Lib.hid (look_parts (nextE_look he).1).2.1
  have hlm : l.length ≤ 4 := by
    have := ho.hr.len
    have h4 := (mayPB_iff.1 ho.hp).2.2.2.1
    simp [nats] at this; omega
  have hl0 : 0 < l.length := by
    have := ho.hr.len
    have h4 := (mayPB_iff.1 ho.hp).2.2.1
    simp [nats] at this; omega
  clear he ho
  have HP := Lib.hid hp
  have HL := Lib.hid hr
  obtain ⟨⟨hl, hc, hsm, _⟩, ⟨hl2, hc2, hsm2, _⟩⟩ := hp
  obtain ⟨hll, hlc, hls, _⟩ := hr
  go_enter Try.func10, Try.ntmps10
  go_upto_region 1 with fail
  have BP := Lib.hid (Blk.mk' w 25 #[.slice A p.costs.length c, .slice A2 p.rows.length c2])
  have HVW := Lib.hid ((by (repeat (any_goals (first | exact Below.refl _ _ | refine below_drewN ?_ _ | refine Below.drew ?_ | refine Below.alloc ?_ ?_ _ | refine Below.setCell ?_ ?_ _))); all_goals (first | omega | (simp; done) | (simp; omega))) : Below w.heap.size w (w.alloc (.cells #[.slice A p.costs.length c, .slice A2 p.rows.length c2] 25)))
  generalize (w.alloc (.cells #[.slice A p.costs.length c, .slice A2 p.rows.length c2] 25)) = V at *
  have zV := HVW.out.size
  have lP := BP.out.lt
  have p0 : V.cell? ⟨w.heap.size, 0, none⟩ = some (.slice A p.costs.length c) := BP.out.cell 0
  have p1 : V.cell? ⟨w.heap.size, 1, none⟩ = some (.slice A2 p.rows.length c2) := BP.out.cell 1
  go_wp2_with fail
  refine (may3 A c A2 c2 p _ (HP.out.below HVW.out)).mono ?_
  rintro e V1 ⟨rfl, hv1⟩
  have HV1 := Lib.hid hv1
  have zV1 := hv1.size
  have v10 := (hv1.cell (World.block_lt_of_cell? _ _ p0)).trans p0
  have v11 := (hv1.cell (World.block_lt_of_cell? _ _ p1)).trans p1
  clear p0 p1 hv1
  rw [HM.out]
  go_wp2_with fail
  refine (ref3_Right A c A2 c2 p L l cl _ ((HP.out.below HVW.out).below HV1.out) ((HL.out.below HVW.out).below HV1.out)).mono ?_
  rintro e V2 ⟨rfl, hv2⟩
  have HV2 := Lib.hid (HV1.out.trans (hv2.mono HV1.out.size))
  have zV2 := HV2.out.size
  clear v10 v11 hv2
  rw [HRI.out]
  have HO := Lib.hid (((HL.out.below HVW.out).below HV2.out))
  have HOL := Lib.hid (fun ad (e : L = some ad) => (show ad.block < w.heap.size from HL.out.blk_lt hl0 ad e))
  go_wp2_with fail
  go_loopw [7, 8] (fun s7 s8 wx => ∃ (k : Nat) (lk : List Nat) (O' : Option Addr) (co' : Nat) (As : Nat → Option Addr) (cs : Nat → Nat), Hid (wk p (nats l) k = some lk) ∧ s8 = .slice O' lk.length co' ∧ Rd wx O' co' (ints lk) ∧
      LsB wx V.heap.size s7 k As cs (fun i => ints ((wk p (nats l) i).getD [])) ∧ (∀ ad, O' = some ad → s7.ownBlock ≠ some ad.block ∧ ad.block < wx.heap.size) ∧ (∀ i, i < k → ∀ ad, As i = some ad → ad.block < wx.heap.size) ∧ Below V.heap.size V wx) (fun s7 _ _ => 256 - lenV s7)
  case atStart =>
    exact ⟨0, nats l, L, cl, fun _ => none, fun _ => 0, rfl, by simp [nats], by rw [show ints (nats l) = l from HNE.out.symm]; exact HO.out, LsB.nil _ _ _ _ _, fun ad e => ⟨by simp [Value.ownBlock], by have := HOL.out ad e; omega⟩, fun i hi => by omega, HV2.out⟩
  case round =>
    obtain ⟨k, lk, O', co', As, cs, hwk, rfl, hO', hLs, hap, hAs, hbel⟩ := hrel
    rename World => U
    have HWK := hwk
    have HRO := Lib.hid hO'
    have HLs := Lib.hid hLs
    have HAP := Lib.hid hap
    have HAS := Lib.hid hAs
    have HU := Lib.hid hbel
    have zU := hbel.size
    have hlen := LsB.len hLs
    have HB := Lib.hid (HVW.out.trans (HU.out.mono zV))
    have hokk := wk_ok HOK.out hwk.out
    have hk256 := wk_fewer HOK.out hwk.out
    have HOKK := Lib.hid hokk
    have hlk0 : lookE p (ints lk) = 0 := ok_look hokk
    have HLK0 := Lib.hid hlk0
    have p0 : U.cell? ⟨w.heap.size, 0, none⟩ = some (.slice A p.costs.length c) := (BP.out.next HU.out).cell 0
    have p1 : U.cell? ⟨w.heap.size, 1, none⟩ = some (.slice A2 p.rows.length c2) := (BP.out.next HU.out).cell 1
    have HNN := Lib.hid (show nonneg (lookC p (ints lk)).xs = true from by have := hokk.hx; unfold lookN at this; exact this)
    have HLK := Lib.hid (show Calls Try.prog 36 #[.agg #[.slice A p.costs.length c, .slice A2 p.rows.length c2], .slice O' lk.length co'] U (RetCbN U (lookC p (ints lk)) true) from by
      have := ref3_LookN A c A2 c2 p O' (ints lk) co' U (HP.out.below HB.out) hO' hokk.hp (right_ints hokk.hr)
      rw [ints_len, hlk0, show decide ((0 : Int) = 0) = true from rfl] at this
      exact this)
    have HN5 := Lib.hid (fun (X Y G : Option Addr) (cx cy cg : Nat) (u : World) (hP : Pg u A c A2 c2 p) (hR : Rd u O' co' (ints lk)) (hG : Rd u G cg (lookC p (ints lk)).gs) => show Calls Try.prog 37 #[.agg #[.slice A p.costs.length c, .slice A2 p.rows.length c2], .slice O' lk.length co', .agg #[.slice X (lookC p (ints lk)).xs.length cx, .int .i64 (lookC p (ints lk)).xd, .slice Y (lookC p (ints lk)).ys.length cy, .int .i64 (lookC p (ints lk)).yd, .slice G (lookC p (ints lk)).gs.length cg, .int .i64 (lookC p (ints lk)).gd]] u (RetN5 u p lk) from by
      have := ref5_Next A c A2 c2 p O' (ints lk) co' X Y G cx cy cg u hP hR HLK0.out HNN.out hG
      rw [ints_len, nats_ints] at this
      exact this)
    clear hwk hO' hLs hap hAs hbel hokk hlk0
    obtain ⟨dd, hdd⟩ : ∃ dd, lookC p (ints lk) = dd := ⟨_, rfl⟩
    rw [hdd] at HNN HLK HN5
    clear hdd
    go_wp2_with fail
    refine HLK.out.mono ?_
    rintro e w2 ⟨X, cx, Y, cy, G, cg, rfl, hX, _, hG, hb2, hGn⟩
    have HGN := Lib.hid hGn
    have HX2 := Lib.hid hX
    have HG2 := Lib.hid hG
    have H2 := Lib.hid hb2
    have z02 := hb2.size
    clear hX hG hb2 hGn p0 p1
    go_upto_region 8 with fail
    have BD := Lib.hid (Blk.mk' w2 42 #[.slice X dd.xs.length cx, .int .i64 dd.xd, .slice Y dd.ys.length cy, .int .i64 dd.yd, .slice G dd.gs.length cg, .int .i64 dd.gd])
    have HX3 := Lib.hid (HX2.out.alloc (.cells #[.slice X dd.xs.length cx, .int .i64 dd.xd, .slice Y dd.ys.length cy, .int .i64 dd.yd, .slice G dd.gs.length cg, .int .i64 dd.gd] 42))
    have HG3 := Lib.hid (HG2.out.alloc (.cells #[.slice X dd.xs.length cx, .int .i64 dd.xd, .slice Y dd.ys.length cy, .int .i64 dd.yd, .slice G dd.gs.length cg, .int .i64 dd.gd] 42))
    have H3 := Lib.hid (H2.out.alloc H2.out.size (.cells #[.slice X dd.xs.length cx, .int .i64 dd.xd, .slice Y dd.ys.length cy, .int .i64 dd.yd, .slice G dd.gs.length cg, .int .i64 dd.gd] 42))
    generalize hb15 : w2.heap.size = b15 at *
    generalize (w2.alloc (.cells #[.slice X dd.xs.length cx, .int .i64 dd.xd, .slice Y dd.ys.length cy, .int .i64 dd.yd, .slice G dd.gs.length cg, .int .i64 dd.gd] 42)) = w3 at *
    have d0 : w3.cell? ⟨b15, 0, none⟩ = some (.slice X dd.xs.length cx) := BD.out.cell 0
    have d1 : w3.cell? ⟨b15, 1, none⟩ = some (.int .i64 dd.xd) := BD.out.cell 1
    go_wp2_with fail
    refine (ref3_Above _ _ _ _ _ HX3.out).mono ?_
    rintro e w4 ⟨rfl, hb4⟩
    rw [HNN.out]
    have H4 := Lib.hid (H3.out.trans (hb4.mono H3.out.size))
    have z04 := H4.out.size
    have HG4 := Lib.hid (HG3.out.below hb4)
    have BD4 := Lib.hid (BD.out.next hb4)
    clear hb4 d0 d1
    have HL4 := Lib.hid (HLs.out.below H4.out)
    have HO4 := Lib.hid (HRO.out.below H4.out)
    have HB4 := Lib.hid (HB.out.trans (H4.out.mono HB.out.size))
    have HV4 := Lib.hid (HU.out.trans (H4.out.mono zU))
    have hfk : ints ((wk p (nats l) k).getD []) = ints lk := by rw [HWK.out]; rfl
    have HFK := Lib.hid hfk
    have HPU := Lib.hid (fun (o : Obj) (g cap : Nat) (w5 : World) (hown : w5.ownsRow V.heap.size 26 1 (.slice (some ⟨g, 0, none⟩) (k + 1) cap) (k + 1) (((List.range k).map fun i => Value.slice (As i) (ints ((wk p (nats l) i).getD [])).length (cs i)) ++ [.slice O' lk.length co']))
        (hg : (w4.alloc o).grownBy w5 u7.ownBlock) (hat : u7.ownBlock = some g ∨ g = (w4.alloc o).heap.size) =>
      (HL4.out.below ((Below.refl _ _).alloc (Nat.le_refl _) o)).push (A := O') (c := co') (o := g) (cap := cap) (by show Rd _ O' co' (ints ((wk p (nats l) k).getD [])); rw [hfk]; exact HO4.out.alloc o) (fun ad e => (HAP.out ad e).1)
        (fun ad e => by have := (HAP.out ad e).2; simp; omega) (fun i hi ad e => by have := HAS.out i hi ad e; simp; omega)
        (by show World.ownsRow _ _ _ _ _ _ (_ ++ [.slice O' (ints ((wk p (nats l) k).getD [])).length co']); rw [hfk, show (ints lk).length = lk.length by simp [ints]]; exact hown) hg hat)
    clear hfk
    go_wp2_with (at_builtin; refine list_appS rfl (.tmp 33) (.tmp 35) rfl V.heap.size u7 k _ (.slice O' lk.length co') rfl (own_below HL4.out.own ((Below.refl _ _).alloc (Nat.le_refl _) _)) _ 1 rfl (cell_new1 _ _ _) rfl (by omega) (by simp; omega) ?_; intro g cap w5 hown5 hg5 hat5 hlt5; refine Hid.out ?_)
    refine Lib.hid ?_
    have HLP := Lib.hid (HPU.out _ g cap w5 hown5 hg5 hat5)
    have hvlt : ∀ j, u7.ownBlock = some j → V.heap.size ≤ j ∧ j < U.heap.size := fun j e => HLs.out.own.lt j e
    have HB5 := Lib.hid ((HV4.out.alloc HV4.out.size _).grown hg5 (by have := HV4.out.size; simp; omega) (fun j e => (HLs.out.own.lt j e).1))
    have HBW5 := Lib.hid (HVW.out.trans (HB5.out.mono zV))
    have HR5 := Lib.hid ((HO4.out.alloc _).grown' hg5 (fun ad e => (HAP.out ad e).1))
    have HG5 := Lib.hid ((HG4.out.alloc _).grown' hg5 (fun ad e q => by have := hvlt _ q; have := HGN.out ad e; omega))
    have BD5 := Lib.hid ((BD4.out.alloc _).grown hg5 (fun q => by have := hvlt _ q.symm; omega))
    have HG := Lib.hid (show g < w5.heap.size ∧ (∀ ad, O' = some ad → ad.block < w5.heap.size) ∧ ∀ i, i < k → ∀ ad, As i = some ad → ad.block < w5.heap.size from by
      have z5 := hg5.size
      simp only [World.size_alloc] at z5 hat5
      exact ⟨hlt5, fun ad e => by have := (HAP.out ad e).2; omega, fun i hi ad e => by have := HAS.out i hi ad e; omega⟩)
    have p0 : w5.cell? ⟨w.heap.size, 0, none⟩ = some (.slice A p.costs.length c) := (BP.out.next HB5.out).cell 0
    have p1 : w5.cell? ⟨w.heap.size, 1, none⟩ = some (.slice A2 p.rows.length c2) := (BP.out.next HB5.out).cell 1
    have d0 : w5.cell? ⟨b15, 0, none⟩ = some (.slice X dd.xs.length cx) := BD5.out.cell 0
    have d1 : w5.cell? ⟨b15, 1, none⟩ = some (.int .i64 dd.xd) := BD5.out.cell 1
    have d2 : w5.cell? ⟨b15, 2, none⟩ = some (.slice Y dd.ys.length cy) := BD5.out.cell 2
    have d3 : w5.cell? ⟨b15, 3, none⟩ = some (.int .i64 dd.yd) := BD5.out.cell 3
    have d4 : w5.cell? ⟨b15, 4, none⟩ = some (.slice G dd.gs.length cg) := BD5.out.cell 4
    have d5 : w5.cell? ⟨b15, 5, none⟩ = some (.int .i64 dd.gd) := BD5.out.cell 5
    clear hown5 hg5 hat5 hvlt
    go_wp2_with fail
    refine (HN5.out X Y G cx cy cg w5 (HP.out.below HBW5.out) HR5.out HG5.out).mono ?_
    rintro e w6 ⟨hb6, hn1, hn2⟩
    have H6 := Lib.hid hb6
    have z56 := hb6.size
    clear hb6 p0 p1 d0 d1 d2 d3 d4 d5
    cases hn : nxtZ p lk with
    | none =>
      obtain rfl := hn1 hn
      have HN := Lib.hid hn
      have hk0 := kind_ne hn
      clear hn1 hn2 hn
      generalize hkd : kindZ p lk = kd at *
      have HKD := Lib.hid hkd
      have hz : (kd != 0) = true := by simpa using hk0
      clear hkd hk0
      go_wp2_with fail
      refine bodyPost_ret (v := .tuple #[.slice (some ⟨g, 0, none⟩) (k + 1) cap, .int .i64 kd, .int .i64 0]) ?_ ?_ ?_
      · simp [results, Try.results10, go_sem]
      · rfl
      refine ⟨HBW5.out.trans (H6.out.mono HBW5.out.size), fun h => absurd HE.out h, fun _ => ⟨k, lk, some ⟨g, 0, none⟩, cap, ⟨HWK.out, HN.out⟩, by rw [HKD.out], ?_⟩⟩
      exact (HLP.out.below H6.out).read (by omega)
    | some l' =>
      obtain ⟨O6, c6, rfl, hO6, hlt6⟩ := hn2 l' hn
      have HN := Lib.hid hn
      have HO6 := Lib.hid hO6
      have HL6 := Lib.hid hlt6
      clear hn1 hn2 hn hO6 hlt6
      go_wp2_with fail
      go_roundw
      case rel =>
        refine ⟨k + 1, l', O6, c6, _, _, Lib.hid (by rw [wk, HWK.out]; exact HN.out), rfl, HO6.out, HLP.out.below H6.out, fun ad e => ⟨fun q => ?_, (HL6.out ad e).2⟩, fun i hi ad e => ?_, HB5.out.trans (H6.out.mono HB5.out.size)⟩
        · have h1 := (HL6.out ad e).1
          have h2 := HG.out.1
          injection q with q
          simp only at q
          omega
        · by_cases hik : i = k
          · subst hik; simp only [if_true] at e; have := HG.out.2.1 ad e; omega
          · simp only [hik, if_false] at e; have := HG.out.2.2 i (by omega) ad e; omega
      case measure => rw [hlen]; simp [lenV]; omega
theorem ref5_Walk (A : Option Addr) (c : Nat) (A2 : Option Addr) (c2 : Nat) (p : PG) (L : Option Addr) (l : List Int) (cl : Nat) (w : World) (hp : Pg w A c A2 c2 p) (hr : Rd w L cl l) :
    Calls Try.prog 10 #[.agg #[.slice A p.costs.length c, .slice A2 p.rows.length c2], .slice L l.length cl] w (RetWk w p l) := by
  by_cases he : nextE p l = 0
  · exact ref5_Walk_ok A c A2 c2 p L l cl w hp hr he
  · exact ref5_Walk_bad A c A2 c2 p L l cl w hp hr he
end Go.Proofs.Ytjcdkbalhleeeab
