/-
  Contracts of functions and plain laws that later parts of the proof use. The conditions stand in each theorem.
-/
import Derived.Test.YtjcdkbalhleeeaaGreatDoorG25
import Derived.Test.YtjcdkbalhleeeaaGreatDoorG09
import Derived.Test.YtjcdkbalhleeeaaGreatDoorG10
import Derived.Deep.RegionLaw
import Derived.Deep.DeepCutAuto
import Derived.RegionTactic
import Derived.Test.YtjcdkbalhleeeaaGreatDoorG18
import Derived.Test.YtjcdkbalhleeeaaGreatDoorG07
namespace Go.Proofs.YtjcdkbalhleeeaaGreatDoor
open Go.Proofs Go.Shelf Go.RowKit Go.Lib

theorem below_put {n D : Nat} {w X : World} (h : Below n w X) (hD : n ≤ D) (hn : n ≤ w.heap.size) (o : Obj) : Below n w (X.putObj D o) :=
  ((KS.of_below (S := fun i => i < n) (W := X) (Below.refl _ X)).putObj o (by omega)).below (fun i hi => hi) (Nat.le_trans hn h.size) |> fun k => h.trans k
theorem pc_new (W : World) (y : PC) : ∀ (j : Nat) (u : Value), (pcC y)[j]? = some u → (W.alloc (.cells #[.bool y.fr.op, .int .i64 y.fr.n, .int .i64 y.fr.d, .bool y.to.op, .int .i64 y.to.n, .int .i64 y.to.d, .int .i64 y.bn, .int .i64 y.bd, .int .i64 y.sn, .int .i64 y.sd] 79)).cell? ((⟨W.heap.size, 0, none⟩ : Addr).add j) = some u := fun j u h => by
  have e1 : ∀ q, (⟨W.heap.size, 0, none⟩ : Addr).add q = ⟨W.heap.size, q, none⟩ := fun q => by unfold Addr.add; split <;> simp_all
  rw [e1, (Blk.mk' W 79 _).cell j, ← h]
  simp [pcC]
attribute [local go_sem] Oper.semAt_some
set_option maxRecDepth 100000 in
set_option maxHeartbeats 4000000 in
theorem sweep_Sweep (A : Option Addr) (c : Nat) (A2 : Option Addr) (c2 : Nat) (p : PG) (B : Option Addr) (b : List Int) (cb : Nat) (w : World) (hp : Pg w A c A2 c2 p) (hb : Rd w B cb b) :
    Calls Tryz.prog 25 #[.agg #[.slice A p.costs.length c, .slice A2 p.rows.length c2], .slice B b.length cb] w (RetSw w (swpL p b) (swpE p b)) := by
  have HP := Lib.hid hp
  have HBY := Lib.hid hb
  clear hp hb
  refine calls_of_marks Tryz.func25 rfl ?_
  simp only [Tryz.ntmps25, List.size_toArray, List.length_cons, List.length_nil, Nat.reduceAdd, Nat.reduceSub, Array.replicate_succ, Array.replicate_zero, List.push_toArray, List.append_toArray, List.nil_append, List.cons_append]
  go_wp2_with fail
  have BP := Lib.hid (Blk.mk' w 28 #[.slice A p.costs.length c, .slice A2 p.rows.length c2])
  have HB := Lib.hid ((Below.refl w.heap.size w).alloc (Nat.le_refl _) (.cells #[.slice A p.costs.length c, .slice A2 p.rows.length c2] 28))
  generalize (w.alloc (.cells #[.slice A p.costs.length c, .slice A2 p.rows.length c2] 28)) = V at *
  have zV := HB.out.size
  have lBP := BP.out.lt
  refine (layout_May A c A2 c2 p V (HP.out.below HB.out)).mono ?_
  rintro e w1 ⟨rfl, hb1⟩
  have HB1 := Lib.hid (HB.out.trans (hb1.mono zV))
  have BP1 := Lib.hid (BP.out.next hb1)
  have z1 := HB1.out.size
  have lB1 := BP1.out.lt
  clear hb1
  cases hm : mayPB p with
  | false =>
    have HE := Lib.hid (show swpE p b = 2 by unfold swpE; rw [if_pos hm])
    have HLL := Lib.hid (show swpL p b = [] by unfold swpL; rw [if_neg (by rw [HE.out]; decide)])
    clear hm
    go_wp2_with fail
    refine ⟨.tuple #[.slice none 0 0, .int .i64 (2)], ?_, .slice none 0 0, ?_, ?_, HB1.out⟩
    · simp [results, Tryz.results25, go_sem]
    · rw [HE.out]
    · rw [HLL.out]; exact .inl ⟨rfl, none, 0, rfl⟩
  | true =>
    have HM := Lib.hid hm
    have p0 : w1.cell? ⟨w.heap.size, 0, none⟩ = some (.slice A p.costs.length c) := BP1.out.cell 0
    have p1 : w1.cell? ⟨w.heap.size, 1, none⟩ = some (.slice A2 p.rows.length c2) := BP1.out.cell 1
    clear hm
    by_cases hl : b.length = p.costs.length
    · have HLN := Lib.hid hl
      have hlz : ((b.length : Int) != (p.costs.length : Int)) = false := by simp [hl]
      have HCN := Lib.hid (con_small B b cb w1 (HBY.out.below HB1.out))
      cases hsm : smallB 400 b with
      | false =>
        rw [hsm] at HCN
        have HE := Lib.hid (show swpE p b = 1 by
          unfold swpE
          rw [if_neg (by rw [HM.out]; decide), if_pos]
          unfold manyB
          simp [hsm])
        have HLL := Lib.hid (show swpL p b = [] by unfold swpL; rw [if_neg (by rw [HE.out]; decide)])
        clear hsm hl
        go_wp2_with fail
        refine HCN.out.mono ?_
        rintro e w2 ⟨rfl, hb2⟩
        have HB2 := Lib.hid (HB1.out.trans (hb2.mono z1))
        go_wp2_with fail
        refine ⟨.tuple #[.slice none 0 0, .int .i64 (1)], ?_, .slice none 0 0, ?_, ?_, HB2.out⟩
        · simp [results, Tryz.results25, go_sem]
        · rw [HE.out]
        · rw [HLL.out]; exact .inl ⟨rfl, none, 0, rfl⟩
      | true =>
        rw [hsm] at HCN
        have HG := Lib.hid (show By p b from ⟨HLN.out, hsm⟩)
        have HMN := Lib.hid (show manyB b p.costs.length 400 = true by unfold manyB; simp [hsm, hl])
        clear hsm hl
        go_wp2_with fail
        refine HCN.out.mono ?_
        rintro e w2 ⟨rfl, hb2⟩
        have HB2 := Lib.hid (HB1.out.trans (hb2.mono z1))
        have BP2 := Lib.hid (BP1.out.next hb2)
        have z2 := hb2.size
        clear hb2 p0 p1 hlz HCN
        have p0 : w2.cell? ⟨w.heap.size, 0, none⟩ = some (.slice A p.costs.length c) := BP2.out.cell 0
        have p1 : w2.cell? ⟨w.heap.size, 1, none⟩ = some (.slice A2 p.rows.length c2) := BP2.out.cell 1
        go_upto_region 6 with fail
        have HBb := Lib.hid (Blk.mk' w2 4 #[.bool false])
        have HV2 := Lib.hid ((Below.refl w2.heap.size w2).alloc (Nat.le_refl _) (.cells #[.bool false] 4))
        clear p0 p1
        generalize (w2.alloc (.cells #[.bool false] 4)) = V2 at *
        have zV2 := HV2.out.size
        have lBb := HBb.out.lt
        have HBV := Lib.hid (HB2.out.trans (HV2.out.mono (by omega)))
        have BPV := Lib.hid (BP2.out.next HV2.out)
        have p0 : V2.cell? ⟨w.heap.size, 0, none⟩ = some (.slice A p.costs.length c) := BPV.out.cell 0
        have p1 : V2.cell? ⟨w.heap.size, 1, none⟩ = some (.slice A2 p.rows.length c2) := BPV.out.cell 1
        go_wp2_with fail
        refine (solve_Corners A c A2 c2 p V2).mono ?_
        rintro e w3 ⟨b1, b2, b3, rfl, l1, l2, l3, k1, k2, k3, k4, hb3⟩
        go_wp2_with fail
        clear p0 p1
        have BP3 := Lib.hid (BPV.out.next hb3)
        have BB3 := Lib.hid (HBb.out.next hb3)
        have HB3 := Lib.hid (HBV.out.trans (hb3.mono (by omega)))
        have z3 := hb3.size
        generalize hgb : w2.heap.size = gb at *
        have q1 := World.block_lt_of_cell? _ _ k1
        have q2 := World.block_lt_of_cell? _ _ k2
        have q3 := World.block_lt_of_cell? _ _ k3
        simp only at q1 q2 q3
        have wgb : w.heap.size ≤ gb := by omega
        obtain ⟨S, hS⟩ : ∃ S : Nat → Prop, S = fun i => i < gb ∨ i = b1 ∨ i = b2 ∨ i = b3 := ⟨_, rfl⟩
        have hbox : BoxC S w3 b1 b2 b3 A c A2 c2 p := by
          subst hS
          exact ⟨.inr (.inl rfl), .inr (.inr (.inl rfl)), .inr (.inr (.inr rfl)), k1, k2, k3, k4, fun W h => HP.out.below (HB3.out.trans (h.below (fun i hi => .inl (Nat.lt_of_lt_of_le hi wgb)) HB3.out.size))⟩
        have hSn : ∀ i, S i → i < w3.heap.size := by
          subst hS
          rintro i (h | rfl | rfl | rfl)
          all_goals omega
        have hSr : ¬ S gb := by
          subst hS
          rintro (h | h | h | h)
          · exact Nat.lt_irrefl _ h
          all_goals omega
        have HSB := Lib.hid (show ∀ W, KS S w3 W → Below w.heap.size w W from fun W h => by
          subst hS
          exact HB3.out.trans (h.below (fun i hi => .inl (Nat.lt_of_lt_of_le hi wgb)) HB3.out.size))
        have HSP := Lib.hid (show ∀ W, KS S w3 W → Blk W w.heap.size 28 #[.slice A p.costs.length c, .slice A2 p.rows.length c2] from fun W h => by
          subst hS
          exact (h.block _ BP3.out.lt (.inl (Nat.lt_of_lt_of_le lB1 z2))).trans BP3.out)
        have HIT := Lib.hid (corners_iter S w3 b1 b2 b3 A c A2 c2 p hbox HM.out)
        have lgb := BB3.out.lt
        have lw3 : w.heap.size < w3.heap.size := by omega
        clear hb3 k1 k2 k3 k4 hbox hS hgb
        refine wp_iter (gf := 95) (lb := #[.pointer (some ⟨b1, 0, none⟩), .pointer (some ⟨b2, 0, none⟩), .pointer (some ⟨b3, 0, none⟩)]) rfl (enters_of Tryz.func95 (by kernel_rfl) rfl) HIT.out (KS.refl _ _) hSn
          (fun k args W h => by obtain ⟨_, _, _, _, _, _, _, _, rfl, _⟩ := h; rfl)
          (fun k W => Blk W gb 4 #[.bool (goesK p k)])
          (fun cd k W => False)
          (fun k X Y h kw => h.kw kw)
          (fun cd k X Y h kw => h)
          BB3.out ?round ?done ?stop
        case stop => rintro D cd k W hD hk h; exact h.elim
        case round =>
          rintro l k args W hl hk hbk hks ⟨L, cl, X, cx, Y, cy, G, cg, rfl, hL, hC, hLB⟩ hlt
          have HBK := Lib.hid hbk
          have HKS := Lib.hid hks
          have HC := Lib.hid hC
          have HGK := Lib.hid (goesK_succ hk)
          obtain ⟨lb, hlb⟩ : ∃ lb, (cornersZ p).getD k [] = lb := ⟨_, rfl⟩
          rw [hlb] at HC HGK ⊢
          clear hbk hks hL hC hlb hLB
          gi_wp2
          refine ⟨(KeepsOthers.alloc _ _).from _, (KS.refl _ _).alloc _, fun Wb hkw hks2 => ?_⟩
          have BC := Lib.hid (show Blk Wb W.heap.size 64 #[.slice X (lookN p lb).xs.length cx, .int .i64 (lookN p lb).xd, .slice Y (lookN p lb).ys.length cy, .int .i64 (lookN p lb).yd, .slice G (lookN p lb).gs.length cg, .int .i64 (lookN p lb).gd] from (Blk.mk' _ _ _).kw hkw)
          have kwa : KW w3.heap.size W (W.alloc (.cells #[.slice X (lookN p lb).xs.length cx, .int .i64 (lookN p lb).xd, .slice Y (lookN p lb).ys.length cy, .int .i64 (lookN p lb).yd, .slice G (lookN p lb).gs.length cg, .int .i64 (lookN p lb).gd] 64)) := .of_below ((Below.refl _ W).alloc (Nat.le_refl _) _)
          have HX2 := Lib.hid (show Rd Wb X cx (lookN p lb).xs from HC.out.x.kw (kwa.trans hkw))
          have HBK2 := Lib.hid (HBK.out.kw (kwa.trans hkw))
          clear kwa hkw hks2 HC HBK HKS
          generalize W.heap.size = bc at *
          clear W
          have e0 := BC.out.cell 0
          have e1 := BC.out.cell 1
          have e2 := BC.out.cell 2
          have e3 := BC.out.cell 3
          have e4 := BC.out.cell 4
          have e5 := BC.out.cell 5
          simp at e0 e1 e2 e3 e4 e5
          have f0 : Wb.cell? ⟨gb, 0, none⟩ = some (.bool (goesK p k)) := HBK2.out.cell 0
          have f1 := HBK2.out.frozen 0
          have HGO := Lib.hid (solve_Goes X Y G cx (lookN p lb).ys.length cy (lookN p lb).gs.length cg (lookN p lb).xs (lookN p lb).xd (lookN p lb).yd (lookN p lb).gd Wb HX2.out)
          cases hg : goesK p k with
          | true =>
            rw [hg] at f0 HGK HBK2
            clear hg
            gi_wp2_with fail
            refine ⟨trivial, ?_⟩
            gi_wp2_with fail
            refine ⟨(KeepsOthers.setCell _ _ _).from _, (KS.refl _ _).setCell _ _ hSr, ?_⟩
            show Blk _ gb 4 #[.bool (goesK p (k + 1))]
            rw [HGK.out]
            exact HBK2.out.set0 0 (.bool true)
          | false =>
            rw [hg] at f0 HGK HBK2
            clear hg
            gi_wp2_with fail
            refine ⟨trivial, rfl, ?_⟩
            refine (CallsIn.inRound l (callsIn_wide.2 HGO.out)).mono ?_
            rintro e w4 ⟨rfl, hb4⟩
            have g0 : w4.cell? ⟨gb, 0, none⟩ = some (.bool false) := (HBK2.out.next hb4).cell 0
            have g1 := (HBK2.out.next hb4).frozen 0
            gi_wp2_with fail
            refine ⟨(KeepsFrom.of_below hb4 _).trans ((KeepsOthers.setCell _ _ _).from _), (KS.of_below hb4).setCell _ _ hSr, ?_⟩
            show Blk _ gb 4 #[.bool (goesK p (k + 1))]
            rw [HGK.out]
            exact (HBK2.out.next hb4).set0 0 _
        case done =>
          rintro D W hD hbk hks hK
          rw [goesK_all] at hbk
          have HBW := Lib.hid (HSB.out W hks)
          have BPW := Lib.hid (HSP.out W hks)
          have HK := Lib.hid hK
          have lD : D < W.heap.size := (Array.getElem?_eq_some_iff.1 hK).1
          have HDW := Lib.hid (show w.heap.size ≤ D by omega)
          clear hks hK HIT HSB HSP
          have p0 : W.cell? ⟨w.heap.size, 0, none⟩ = some (.slice A p.costs.length c) := BPW.out.cell 0
          have p1 : W.cell? ⟨w.heap.size, 1, none⟩ = some (.slice A2 p.rows.length c2) := BPW.out.cell 1
          obtain ⟨q, hany⟩ : ∃ q, ((cornersZ p).any fun l => nonneg (lookN p l).xs) = q := ⟨_, rfl⟩
          rw [hany] at hbk
          have c0 : W.cell? ⟨gb, 0, none⟩ = some (.bool q) := hbk.cell 0
          cases q with
          | false =>
            have HE := Lib.hid (show swpE p b = 4 by
              unfold swpE
              rw [if_neg (by rw [HM.out]; decide), if_neg (by rw [HMN.out]; decide), if_pos hany])
            have HLL := Lib.hid (show swpL p b = [] by unfold swpL; rw [if_neg (by rw [HE.out]; decide)])
            clear hany hbk
            go_wp2_with fail
            refine ⟨by simp, .inl ⟨_, _, rfl, run_takeDeferred HK.out, .tuple #[.slice none 0 0, .int .i64 (4)], ?_, .slice none 0 0, ?_, ?_, ?_⟩⟩
            · simp [results, Tryz.results25, go_sem]
            · rw [HE.out]
            · rw [HLL.out]; exact ((show PcRd W w.heap.size (.slice none 0 0) [] from .inl ⟨rfl, none, 0, rfl⟩)).kw (KW.putObj (B := 0) (.deferred none) (Nat.zero_le _) HK.out rfl)
            · exact below_put HBW.out HDW.out (Nat.le_refl _) _
          | true =>
            have HE := Lib.hid (show swpE p b = 0 by
              unfold swpE
              rw [if_neg (by rw [HM.out]; decide), if_neg (by rw [HMN.out]; decide), if_neg (by rw [hany]; decide)])
            have HLL := Lib.hid (show swpL p b = ansP (grpF undP ovrP p b (cornersZ p)) by unfold swpL; rw [if_pos HE.out])
            clear hany hbk
            go_wp2_with fail
            refine (sweep_lines A c A2 c2 p B b cb W (HP.out.below HBW.out) (HBY.out.below HBW.out) HM.out HG.out).mono ?_
            rintro e w5 ⟨M, rfl, hM, hml, hb5⟩
            obtain ⟨P, hP⟩ : ∃ P, grpF undP ovrP p b (cornersZ p) = P := ⟨_, rfl⟩
            have HQ := Lib.hid (show Grp p b P from hP ▸ grp_prog HG.out)
            have HPL := Lib.hid (show P.length ≤ 256 from hP ▸ Nat.le_trans (grpF_len _) (corners_few HM.out))
            rw [hP] at hml HLL
            have HML := Lib.hid hml
            have HB5 := Lib.hid (HBW.out.trans (hb5.mono (by omega)))
            have HK5 := Lib.hid (show w5.heap[D]? = some (.deferred (some [])) from (hb5.block D lD).trans HK.out)
            have z5 := hb5.size
            obtain ⟨o, hr1, hr2⟩ := hml.rangeE
            clear hb5 hml p0 p1 c0 hP
            go_wp2_with fail
            have HR := Lib.hid hr2
            have HB6 := Lib.hid ((Below.refl w5.heap.size w5).alloc (Nat.le_refl _) o)
            have zW : (w5.alloc o).heap.size = w5.heap.size + 1 := by simp
            clear hr1 hr2
            generalize w5.alloc o = W6 at *
            go_loopw [10] (fun s10 wx => ∃ dn left : List PC, Hid ((dn ++ left).Perm P) ∧ MapR wx M w5.heap.size P left ∧ PcOwn wx (w5.heap.size + 1) s10 (dn.filter fun x => !pointB x) ∧ Below w5.heap.size w5 wx ∧ w5.heap.size + 1 ≤ wx.heap.size) (fun _ wx => wx.rangeLeft M w5.heap.size)
            case atStart => exact ⟨[], P, Lib.hid (by simp), HR.out, PcOwn.nil _ _, HB6.out, by omega⟩
            case round =>
              obtain ⟨dn, left, hpm, hmr, hpo, hbl, hsz⟩ := hrel
              rename World => U
              have HMR := Lib.hid hmr
              have HPO := Lib.hid hpo
              have HBL := Lib.hid hbl
              have hle := hmr.left_eq
              have HLE := Lib.hid hle
              clear hbl hle
              rcases hmr.next 0 with ⟨rfl, hnx⟩ | ⟨l1, x, l2, U1, rfl, hnx, hmr1, hg1, hs1, hent⟩
              · clear hmr hpo HMR HLE
                have HKU := Lib.hid (show U.heap[D]? = some (.deferred (some [])) from (HBL.out.block D (Array.getElem?_eq_some_iff.1 HK5.out).1).trans HK5.out)
                have HBU := Lib.hid (HB5.out.trans (HBL.out.mono (by omega)))
                have hpm' := hpm.out
                rw [List.append_nil] at hpm'
                by_cases hfl : (dn.filter fun x => !pointB x) = []
                · have HAN := Lib.hid (show ansP P = bestP P from by
                    unfold ansP
                    rw [if_pos]
                    have := hpm'.filter fun x => !pointB x
                    rw [hfl] at this
                    exact this.symm.eq_nil)
                  rw [hfl] at HPO
                  have hs3 : ∃ A c, u10 = .slice A 0 c := by
                    rcases HPO.out.2 with ⟨e, _⟩ | ⟨g, cap, _, e, _⟩
                    · exact ⟨_, _, e⟩
                    · exact ⟨_, _, e⟩
                  obtain ⟨A', c', rfl⟩ := hs3
                  have HPM := Lib.hid hpm'
                  have HMU := Lib.hid (HML.out.below HBL.out)
                  clear hpm' hfl
                  go_wp2_with fail
                  refine (sweep_only M P U HMU.out fun x hx => (pc_pos HG.out HQ.out hx).2).mono ?_
                  rintro e w8 ⟨_, ⟨L', hL', rfl⟩, v, rfl, hpo8, hb8⟩
                  have HB8 := Lib.hid (HBU.out.trans (hb8.mono HBU.out.size))
                  have HK8 := Lib.hid ((hb8.block D (Array.getElem?_eq_some_iff.1 HKU.out).1).trans HKU.out)
                  have HP8 := Lib.hid (show PcRd w8 w.heap.size v (ansP P) from by
                    rw [HAN.out, ← best_uniq HG.out HQ.out HQ.out hL']
                    exact hpo8.rd.mono HBU.out.size)
                  clear hpo8 hb8 hL'
                  go_wp2_with fail
                  refine ⟨by simp, .inl ⟨_, _, rfl, run_takeDeferred HK8.out, .tuple #[v, .int .i64 (0)], ?_, v, ?_, ?_, ?_⟩⟩
                  · simp [results, Tryz.results25, go_sem]
                  · rw [HE.out]
                  · rw [HLL.out]; exact (HP8.out).kw (KW.putObj (B := 0) (.deferred none) (Nat.zero_le _) HK8.out rfl)
                  · exact below_put HB8.out HDW.out (Nat.le_refl _) _
                · have h0 : 0 < (dn.filter fun x => !pointB x).length := by
                    cases hq : dn.filter fun x => !pointB x with
                    | nil => exact absurd hq hfl
                    | cons a l => simp
                  have HFP := Lib.hid (hpm'.filter fun x => !pointB x)
                  have HAN := Lib.hid (show ansP P = sortP (P.filter fun x => !pointB x) from by
                    unfold ansP
                    rw [if_neg]
                    intro hq
                    have := HFP.out
                    rw [hq] at this
                    exact hfl this.eq_nil)
                  obtain ⟨Q, hQ⟩ : ∃ Q, (dn.filter fun x => !pointB x) = Q := ⟨_, rfl⟩
                  rw [hQ] at h0 HFP HPO
                  have hQl : Q.length ≤ 100000 := by
                    have h1 := HFP.out.length_eq
                    have h2 := List.length_filter_le (fun x => !pointB x) P
                    have h3 := HPL.out
                    omega
                  clear hpm' hfl hQ
                  obtain ⟨g, cap, rfl, hg1, hg2, hg3, hg4, _⟩ := HPO.out.some' h0
                  have hn0 : ¬ ((Q.length : Int) = 0) := by omega
                  go_wp2_with fail
                  refine (pcs_sort _ g cap Q U (prog_sortable HG.out HQ.out HFP.out) h0 hQl HPO.out).mono ?_
                  rintro e w8 ⟨rfl, l, hl1, hl2, hgr, hat⟩
                  have z8 := hgr.size
                  have HB8 := Lib.hid (HBU.out.grown hgr HBU.out.size (fun j e => by cases e; omega))
                  have hDU := (Array.getElem?_eq_some_iff.1 HKU.out).1
                  have hDg : D < g := by have := (Array.getElem?_eq_some_iff.1 HK5.out).1; omega
                  have HK8 := Lib.hid ((hgr.block D hDU (fun e => by injection e with e; omega)).trans HKU.out)
                  have HP8 := Lib.hid (show PcRd w8 w.heap.size (.slice (some ⟨g, 0, none⟩) Q.length cap) (ansP P) from by
                    rw [HAN.out, ← sort_uniq HG.out HQ.out HQ.out (hl1.trans HFP.out) hl2, ← hl1.length_eq]
                    refine .inr ⟨by rw [hl1.length_eq]; exact h0, g, cap, rfl, by omega, by omega, by rw [hl1.length_eq]; exact hg3, hg4, hat⟩)
                  clear hgr hat hl1 hl2
                  go_wp2_with fail
                  refine ⟨by simp, .inl ⟨_, _, rfl, run_takeDeferred HK8.out, .tuple #[(.slice (some ⟨g, 0, none⟩) Q.length cap), .int .i64 (0)], ?_, (.slice (some ⟨g, 0, none⟩) Q.length cap), ?_, ?_, ?_⟩⟩
                  · simp [results, Tryz.results25, go_sem]
                  · rw [HE.out]
                  · rw [HLL.out]; exact (HP8.out).kw (KW.putObj (B := 0) (.deferred none) (Nat.zero_le _) HK8.out rfl)
                  · exact below_put HB8.out HDW.out (Nat.le_refl _) _
              · have HPM := Lib.hid (show (dn ++ [x] ++ (l1 ++ l2)).Perm P from by
                  refine List.Perm.trans ?_ hpm.out
                  rw [List.append_assoc]
                  exact List.Perm.append_left dn (List.perm_middle (l₁ := l1) (l₂ := l2)).symm)
                have hlt := HMR.out.lt
                have hmv := HLE.out
                simp only [List.length_append, List.length_cons] at hmv
                clear hmr hpm HLE
                have HPO1 := Lib.hid (HPO.out.kept hg1 (by
                  rcases hb : u10.ownBlock with _ | k
                  · exact .inl rfl
                  · right
                    have := (World.ownsRow.lt HPO.out k hb).1
                    intro e
                    injection e with e
                    omega))
                have HBL1 := Lib.hid (HBL.out.grown hg1 (by omega) (fun k hk => by cases hk; omega))
                have HMR1 := Lib.hid hmr1
                have hs2 : U.heap.size ≤ U1.heap.size := Nat.le_of_eq hs1.symm
                clear hmr1 hg1 hpo HPO HBL HMR hs1
                unfold lnV wdV at hnx hent
                go_upto_region 16 with fail
                have BL := Lib.hid (show Blk ((U1.alloc (.cells #[.int .i64 x.bn, .int .i64 x.bd, .int .i64 x.sn, .int .i64 x.sd] 132)).alloc (.cells #[.bool x.fr.op, .int .i64 x.fr.n, .int .i64 x.fr.d, .bool x.to.op, .int .i64 x.to.n, .int .i64 x.to.d] 134)) U1.heap.size 132 #[.int .i64 x.bn, .int .i64 x.bd, .int .i64 x.sn, .int .i64 x.sd] from (Blk.mk' _ _ _).alloc _)
                have BW := Lib.hid (show Blk ((U1.alloc (.cells #[.int .i64 x.bn, .int .i64 x.bd, .int .i64 x.sn, .int .i64 x.sd] 132)).alloc (.cells #[.bool x.fr.op, .int .i64 x.fr.n, .int .i64 x.fr.d, .bool x.to.op, .int .i64 x.to.n, .int .i64 x.to.d] 134)) (U1.heap.size + 1) 134 #[.bool x.fr.op, .int .i64 x.fr.n, .int .i64 x.fr.d, .bool x.to.op, .int .i64 x.to.n, .int .i64 x.to.d] from Blk.new (U1.alloc (.cells #[.int .i64 x.bn, .int .i64 x.bd, .int .i64 x.sn, .int .i64 x.sd] 132)) 134 _ _ (by simp))
                have HV1 := Lib.hid ((by (repeat (any_goals (first | exact Below.refl _ _ | refine below_drewN ?_ _ | refine Below.drew ?_ | refine Below.alloc ?_ ?_ _ | refine Below.setCell ?_ ?_ _))); all_goals (first | omega | (simp; done) | (simp; omega))) : Below U1.heap.size U1 ((U1.alloc (.cells #[.int .i64 x.bn, .int .i64 x.bd, .int .i64 x.sn, .int .i64 x.sd] 132)).alloc (.cells #[.bool x.fr.op, .int .i64 x.fr.n, .int .i64 x.fr.d, .bool x.to.op, .int .i64 x.to.n, .int .i64 x.to.d] 134)))
                clear hnx hent
                generalize ((U1.alloc (.cells #[.int .i64 x.bn, .int .i64 x.bd, .int .i64 x.sn, .int .i64 x.sd] 132)).alloc (.cells #[.bool x.fr.op, .int .i64 x.fr.n, .int .i64 x.fr.d, .bool x.to.op, .int .i64 x.to.n, .int .i64 x.to.d] 134)) = V9 at *
                generalize hgl : U1.heap.size = gl at *
                have zV9 := HV1.out.size
                have lBW := BW.out.lt
                have HPO2 := Lib.hid (HPO1.out.below (by rw [hgl]; exact HV1.out))
                have HMR2 := Lib.hid (HMR1.out.below (by rw [hgl]; exact HV1.out))
                have HBL2 := Lib.hid (HBL1.out.trans (HV1.out.mono (by omega)))
                clear HPO1 HMR1 HBL1
                have v0 : V9.cell? ⟨gl + 1, 0, none⟩ = some (.bool x.fr.op) := BW.out.cell 0
                have v1 : V9.cell? ⟨gl + 1, 1, none⟩ = some (.int .i64 x.fr.n) := BW.out.cell 1
                have v2 : V9.cell? ⟨gl + 1, 2, none⟩ = some (.int .i64 x.fr.d) := BW.out.cell 2
                have v3 : V9.cell? ⟨gl + 1, 3, none⟩ = some (.bool x.to.op) := BW.out.cell 3
                have v4 : V9.cell? ⟨gl + 1, 4, none⟩ = some (.int .i64 x.to.n) := BW.out.cell 4
                have v5 : V9.cell? ⟨gl + 1, 5, none⟩ = some (.int .i64 x.to.d) := BW.out.cell 5
                have HPT := Lib.hid (sweep_point x V9)
                have HFS := Lib.hid (show ((dn ++ [x]).filter fun x => !pointB x) = (dn.filter fun x => !pointB x) ++ (if pointB x = true then [] else [x]) from by
                  rw [List.filter_append]
                  cases hq : pointB x <;> simp [hq])
                cases hpt : pointB x with
                | true =>
                  rw [hpt] at HPT HFS
                  clear hpt
                  go_wp2_with fail
                  refine HPT.out.mono ?_
                  rintro e w7 ⟨rfl, hb7⟩
                  have z7 := hb7.size
                  have HPO7 := Lib.hid (HPO2.out.below hb7)
                  have HMR7 := Lib.hid (HMR2.out.below hb7)
                  have HBL7 := Lib.hid (HBL2.out.trans (hb7.mono (by have := HBL2.out.size; omega)))
                  clear hb7
                  go_wp2_with fail
                  go_roundw
                  case measure =>
                    have := HMR7.out.left_eq
                    rw [this, hmv, List.length_append]
                    omega
                  case rel =>
                    refine ⟨dn ++ [x], l1 ++ l2, HPM, HMR7.out, ?_, HBL7.out, by omega⟩
                    rw [HFS.out]
                    simpa using HPO7.out
                | false =>
                  rw [hpt] at HPT HFS
                  clear hpt
                  go_wp2_with fail
                  refine HPT.out.mono ?_
                  rintro e w7 ⟨rfl, hb7⟩
                  have z7 := hb7.size
                  have HPO7 := Lib.hid (HPO2.out.below hb7)
                  have HMR7 := Lib.hid (HMR2.out.below hb7)
                  have HBL7 := Lib.hid (HBL2.out.trans (hb7.mono (by have := HBL2.out.size; omega)))
                  have BL7 := Lib.hid (BL.out.next hb7)
                  have BW7 := Lib.hid (BW.out.next hb7)
                  clear hb7 v0 v1 v2 v3 v4 v5
                  have k0 : w7.cell? ⟨gl, 0, none⟩ = some (.int .i64 x.bn) := BL7.out.cell 0
                  have k1 : w7.cell? ⟨gl, 1, none⟩ = some (.int .i64 x.bd) := BL7.out.cell 1
                  have k2 : w7.cell? ⟨gl, 2, none⟩ = some (.int .i64 x.sn) := BL7.out.cell 2
                  have k3 : w7.cell? ⟨gl, 3, none⟩ = some (.int .i64 x.sd) := BL7.out.cell 3
                  have v0 : w7.cell? ⟨gl + 1, 0, none⟩ = some (.bool x.fr.op) := BW7.out.cell 0
                  have v1 : w7.cell? ⟨gl + 1, 1, none⟩ = some (.int .i64 x.fr.n) := BW7.out.cell 1
                  have v2 : w7.cell? ⟨gl + 1, 2, none⟩ = some (.int .i64 x.fr.d) := BW7.out.cell 2
                  have v3 : w7.cell? ⟨gl + 1, 3, none⟩ = some (.bool x.to.op) := BW7.out.cell 3
                  have v4 : w7.cell? ⟨gl + 1, 4, none⟩ = some (.int .i64 x.to.n) := BW7.out.cell 4
                  have v5 : w7.cell? ⟨gl + 1, 5, none⟩ = some (.int .i64 x.to.d) := BW7.out.cell 5
                  have hfew : (dn.filter fun x => !pointB x).length ≤ 100000 := by
                    have h1 := HPM.out.length_eq
                    have h2 := List.length_filter_le (fun x => !pointB x) dn
                    have h3 := HPL.out
                    simp only [List.length_append, List.length_cons, List.length_nil] at h1
                    omega
                  go_wp2_with (at_builtin; refine list_appP rfl (.tmp 50) (.tmp 60) rfl (w5.heap.size + 1) u10 _ x rfl (PcOwn.below HPO7.out ((Below.refl _ _).alloc (Nat.le_refl _) _)) _ 1 rfl (pc_new w7 x) hfew (by simp; omega) ?_; intro g cap w9 hown9 hg9 hat9 hlt9)
                  have z9 := hg9.size
                  simp at z9
                  have HOW := Lib.hid (own_ge HPO7.out (Nat.le_refl _))
                  have HMR9 := Lib.hid (show MapR w9 M w5.heap.size P (l1 ++ l2) from by
                    have hl7 := HMR7.out.lt
                    have hM5 := HML.out.lt
                    refine HMR7.out.keep ?_ ?_
                    · exact (hg9.block M (by simp; omega) (fun e => by have := HOW.out M e.symm; omega)).trans (Below.heap_alloc _ _ _ hl7.1)
                    · exact (hg9.block w5.heap.size (by simp; omega) (fun e => by have := HOW.out _ e.symm; omega)).trans (Below.heap_alloc _ _ _ hl7.2.1))
                  have HBL9 := Lib.hid ((HBL7.out.alloc HBL7.out.size (.cells #[.bool x.fr.op, .int .i64 x.fr.n, .int .i64 x.fr.d, .bool x.to.op, .int .i64 x.to.n, .int .i64 x.to.d, .int .i64 x.bn, .int .i64 x.bd, .int .i64 x.sn, .int .i64 x.sd] 79)).grown hg9 (by simp; have := HBL7.out.size; omega) (fun j e => by have := HOW.out j e; omega))
                  refine ⟨⟨dn ++ [x], l1 ++ l2, HPM, HMR9.out, ?_, HBL9.out, by omega⟩, ?_⟩
                  · rw [HFS.out]
                    have := hown9
                    unfold PcOwn at this ⊢
                    simpa using this
                  · have := HMR9.out.left_eq
                    rw [this, hmv, List.length_append]
                    omega
    · have hlz : ¬ ((b.length : Int) = (p.costs.length : Int)) := by omega
      have HE := Lib.hid (show swpE p b = 1 by
        unfold swpE
        rw [if_neg (by rw [HM.out]; decide), if_pos]
        unfold manyB
        simp [hl])
      have HLL := Lib.hid (show swpL p b = [] by unfold swpL; rw [if_neg (by rw [HE.out]; decide)])
      go_wp2_with fail
      refine ⟨.tuple #[.slice none 0 0, .int .i64 (1)], ?_, .slice none 0 0, ?_, ?_, HB1.out⟩
      · simp [results, Tryz.results25, go_sem]
      · rw [HE.out]
      · rw [HLL.out]; exact .inl ⟨rfl, none, 0, rfl⟩
end Go.Proofs.YtjcdkbalhleeeaaGreatDoor

namespace Go.Proofs.YtjcdkbalhleeeaaGreatDoor
open Go.Proofs Go.RowKit
open Go.Lib (itoa join)

/-- A call that hands back a value of which R tells. -/
theorem step_callR {P : Program} {ops : Array Oper} {K : Act → World → Prop} {E' : Prop} {o : Oper} {a : Act} {w : World} {Q : Exit → Act → World → Prop} (hg : o.guard = none) {f : FuncId} {args : Array Value} {R : Value → World → Prop}
    (hrun : (execOp a.eval o).run P w = .ok (.enter f args) w) (hc : Calls P f args w fun e w' => ∃ v, e = .returned v ∧ R v w') (hK : ∀ v w', R v w' → K (a.put o.dst v) w') :
    if Region.wanted o (yielded ops a.tmps) = true then Oper.wp P o a w K Q else E' := by
  rw [if_pos (by simp [Region.wanted, hg])]
  unfold Oper.wp
  rw [hrun, Oper.upon_enter]
  exact hc.mono (by rintro _ _ ⟨v, rfl, h⟩; exact hK v _ h)
theorem step_appS {ops : Array Oper} {K : Act → World → Prop} {E' : Prop} {o : Oper} {a : Act} {w : World} {Q : Exit → Act → World → Prop} (hgd : o.guard = none) (s x : Operand)
    (ho : o.op = .call { callee := .builtin .append, args := #[s, x], argTypes := #[22, 22] })
    (base : Nat) (v : Value) (n : Nat) (xs : List Value) (u1 u2 : ByteArray) (hs : a.eval s = v) (hown : w.ownsRow base 9 1 v n xs)
    (b c : Nat) (hx : a.eval x = .slice (some ⟨b, 0, none⟩) 2 c) (hb : Blk w b 9 #[.string u1, .string u2])
    (hn : n ≤ 1000) (hbase : base ≤ w.heap.size)
    (h : ∀ g cap w', w'.ownsRow base 9 1 (.slice (some ⟨g, 0, none⟩) (n + 2) cap) (n + 2) (xs ++ [.string u1, .string u2]) → w.grownBy w' v.ownBlock → (v.ownBlock = some g ∨ g = w.heap.size) → g < w'.heap.size → K (a.put o.dst (.slice (some ⟨g, 0, none⟩) (n + 2) cap)) w') :
    if Region.wanted o (yielded ops a.tmps) = true then Oper.wp Tryz.prog o a w K Q else E' := by
  obtain ⟨i, hi, hz0, hz1, hz2⟩ := info_parts inf_str
  refine step_append_lies w hgd s x 22 ho base 9 i _ 1 16 und_strs hi hz0 hz1 hz2 rfl (by omega) v n xs hs hown ⟨b, 0, none⟩ 2 c [.string u1, .string u2] hx rfl ?_ (by simp; exact ⟨rfl, rfl⟩) (by omega) (by unfold maxLen; omega) (by omega) hbase _ rfl h
  intro j u hu
  rw [addzG, hb.cell]
  simpa using hu
/-- A new slice's row is the call's own. -/
theorem own_lit (w : World) (base : Nat) (e : TypeId) (u : Value) (g : Nat) (hg : g = w.heap.size) (hb : base ≤ g) : (w.alloc (.cells #[u] e)).ownsRow base e 1 (.slice (some ⟨g, 0, none⟩) 1 1) 1 [u] := by
  subst hg
  exact ⟨by simp, Or.inr ⟨_, 1, _, rfl, hb, heap_alloc_new w _, Nat.le_refl _, by unfold maxLen; omega, by simp, by simp⟩⟩
/-- What text.Print hands back. -/
def prtV (p : PG) : Value := .tuple #[strV (if mayPB p = true then textF p else []), .int .i64 (if mayPB p = true then 0 else 2)]

set_option maxRecDepth 100000 in
set_option maxHeartbeats 2000000 in
theorem text_Print (A : Option Addr) (c : Nat) (A2 : Option Addr) (c2 : Nat) (p : PG) (w : World) (hp : Pg w A c A2 c2 p) (ht : Tab w) :
    Calls Tryz.prog 19 #[.agg #[.slice A p.costs.length c, .slice A2 p.rows.length c2]] w fun e w' => e = .returned (prtV p) ∧ Below w.heap.size w w' := by
  have HP := Lib.hid hp
  have HT := Lib.hid ht
  obtain ⟨⟨hl, hc, hsm, _⟩, ⟨hl2, hc2, hsm2, _⟩⟩ := hp
  clear ht
  go_enter Tryz.func19, Tryz.ntmps19
  go_wp2_with fail
  have BP := Lib.hid (Blk.mk' w 28 #[.slice A p.costs.length c, .slice A2 p.rows.length c2])
  have HBU := Lib.hid ((Below.refl w.heap.size w).alloc (Nat.le_refl _) (.cells #[.slice A p.costs.length c, .slice A2 p.rows.length c2] 28))
  generalize (w.alloc (.cells #[.slice A p.costs.length c, .slice A2 p.rows.length c2] 28)) = U at *
  have zU := HBU.out.size
  have lU := BP.out.lt
  refine (layout_May _ _ _ _ p _ (HP.out.below HBU.out)).mono ?_
  rintro e w1 ⟨rfl, hb1⟩
  have H1 := Lib.hid (HBU.out.trans (hb1.mono zU))
  have B1 := Lib.hid (BP.out.next hb1)
  clear hb1
  cases hm : mayPB p with
  | false =>
    go_wp2_with fail
    refine bodyPost_ret (v := .tuple #[.string (bs []), .int .i64 2]) ?_ ?_ ?_
    · simp [results, Tryz.results19, go_sem]; rfl
    · rfl
    · exact ⟨by rw [prtV, if_neg (by simp [hm]), if_neg (by simp [hm])], H1.out⟩
  | true =>
    have HM := Lib.hid hm
    have hp4 := mayPB_iff.1 hm
    have z01 := H1.out.size
    have z11 := B1.out.lt
    go_upto_region 5 with fail
    have HBl : Bld w1.heap.size [] (w1.alloc (.cells #[.pointer none, .slice none 0 0] 105)) := Lib.fresh_isBuilder _ _ w1
    have HBl := Lib.hid HBl
    have HV := Lib.hid ((Below.refl w1.heap.size w1).alloc (Nat.le_refl _) (.cells #[.pointer none, .slice none 0 0] 105))
    generalize (w1.alloc (.cells #[.pointer none, .slice none 0 0] 105)) = V at *
    have zV := HV.out.size
    have lV := HBl.out.lt
    have HLV := Lib.hid ((Below.refl V.heap.size V).alloc (Nat.le_refl _) (.cells #[.string { data := #[109, 111, 115, 116] }] 9))
    have HOW := Lib.hid (own_lit V V.heap.size 9 (.string { data := #[109, 111, 115, 116] }) V.heap.size rfl (Nat.le_refl _))
    have HWV := Lib.hid (H1.out.trans (HV.out.mono z01))
    have b0 : (V.alloc (.cells #[.string { data := #[109, 111, 115, 116] }] 9)).cell? ⟨w.heap.size, 0, none⟩ = some (.slice A p.costs.length c) := ((B1.out.next HV.out).alloc _).cell 0
    have b1 : ∀ u, Below V.heap.size V u → u.cell? ⟨w.heap.size, 1, none⟩ = some (.slice A2 p.rows.length c2) := fun u hu => ((B1.out.next HV.out).next hu).cell 1
    have hs400 : smallB 999999 p.costs = true := small_more hp4.2.2.2.2.1 (by decide)
    go_wp2_with (first
      | (go_at_call 43; refine (text_words A p.costs c _ ((HP.out.costs.below HWV.out).alloc _) hs400 (by omega) ((HT.out.below HWV.out).below HLV.out)).mono ?_; rintro e w2 ⟨v, rfl, hown, hb2⟩; obtain ⟨A3, c3, rfl, hSd, had, hnone⟩ := Sd.of_own hown (by simp); rw [List.length_map] at hnone)
      | (at_builtin; refine list_appG rfl (.tmp 13) (.tmp 16) 22 9 (.string ByteArray.empty) 16 und_strs inf_str rfl rfl V.heap.size (.slice (some ⟨V.heap.size, 0, none⟩) 1 1) 1 _ rfl (own_below HOW.out hb2) (by simp) A3 p.costs.length c3 ((p.costs.map itoa).map strV) rfl (by simp) hnone hSd.cells strs_one (by unfold maxLen; omega) (by omega) (by have := hb2.size; simp at this; omega) ?_; intro g cap w5 hown5 hg5 hat5 hlt5))
    have z2 := hb2.size
    have HV5 := Lib.hid (show Below V.heap.size V w5 from (HLV.out.trans (hb2.mono (by simp))).grown hg5 (by simp at z2; omega) (by intro k hk; simp [Value.ownBlock] at hk; omega))
    have HS5 := Lib.hid (Sd.of_own' (l := mostW :: p.costs.map itoa) hown5 (by simp; omega))
    have HB5 := Lib.hid (HBl.out.below HV5.out)
    have hcl := costL_len hp4.2.2.2.2.1 hp4.2.1
    have := text_put g 0 cap (mostW :: p.costs.map itoa) w1.heap.size [] w5 HS5.out (by simp) HB5.out (by show 0 + ((costL p.costs).length + 1) ≤ _; omega) (by simp; omega)
    rw [show (mostW :: p.costs.map itoa).length = 1 + p.costs.length by simp; omega, show join (mostW :: p.costs.map itoa) [32] ++ [10] = costT p.costs from (costT_eq _).symm, List.nil_append] at this
    refine this.mono ?_
    rintro e w6 ⟨rfl, hbl6, hb6⟩
    have b1' : w6.cell? ⟨w.heap.size, 1, none⟩ = some (.slice A2 p.rows.length c2) := (hb6.cell (by exact z11)).trans (b1 _ HV5.out)
    have HW6 := Lib.hid (HWV.out.trans ((HV5.out.mono (by omega)).trans (hb6.mono (by omega))) : Hid (Below w.heap.size w w6))
    have HL6 := Lib.hid hbl6
    clear this hbl6 hb6 hown5 hg5 hat5 hlt5 hown hSd had hnone hb2 b0 b1
    go_wp2_with fail
    go_loopw [22] (fun i wx => ∃ (k : Nat), k ≤ p.rows.length ∧ i = .int .i64 k ∧ Bld w1.heap.size (costT p.costs ++ ((p.rows.take k).map rowT).flatten) wx ∧ Below w.heap.size w wx) (fun i _ => p.rows.length - (intOf i).toNat)
    case atStart => exact ⟨0, by omega, rfl, by simpa using HL6.out, HW6.out⟩
    case round =>
      obtain ⟨k, hk, rfl, hbl, hbel⟩ := hrel
      rename World => U1
      have HB1 := Lib.hid hbl
      have HU1 := Lib.hid hbel
      have zU1 := hbel.size
      clear hbl hbel b1'
      by_cases hlt : k < p.rows.length
      · obtain ⟨ad, A', c', e0, q1, q2, q3⟩ := (HP.out.rows.below HU1.out).at_ hlt
        subst e0
        have hrow := mayPB_row hm hlt
        have hi0 : (k : Int) < (p.rows.length : Int) := by omega
        have HRT := Lib.hid (rowsT_take hlt)
        have hlen := rowsT_len hm k hk
        have hcln := costT_len hp4.2.2.2.2.1 hp4.2.1
        have hrl := rowL_len hrow.2.2 hrow.2.1 (by omega)
        have HRL := Lib.hid (show rowL p.rows[k] = join ((p.rows[k]).1.map itoa ++ [leW, itoa (p.rows[k]).2]) [32] from rfl)
        obtain ⟨hr1, hr2, hr3⟩ := hrow
        rw [hr1] at q1
        have HR3 := Lib.hid q3
        have hs12 : smallB 999999 (p.rows[k]).1 = true := small_more hr3 (by decide)
        have HS12 := Lib.hid hs12
        have HLN := Lib.hid hr1
        clear hr3 hs12 q3 hr1
        generalize (p.rows[k]).1 = ro at *
        generalize (p.rows[k]).2 = rm at *
        generalize rowL p.rows[k] = RL at *
        go_upto_region 9 with fail
        have BR := Lib.hid (Blk.mk' U1 91 #[.slice A' p.costs.length c', .int .i64 rm])
        have HU2 := Lib.hid ((Below.refl U1.heap.size U1).alloc (Nat.le_refl _) (.cells #[.slice A' p.costs.length c', .int .i64 rm] 91))
        generalize (U1.alloc (.cells #[.slice A' p.costs.length c', .int .i64 rm] 91)) = U2 at *
        have zU2 := HU2.out.size
        have lU2 := BR.out.lt
        have HWU2 := Lib.hid (HU1.out.trans (HU2.out.mono zU1))
        have HWD := Lib.hid (show Calls Tryz.prog 43 #[.slice A' p.costs.length c'] U2.drew (fun e w' => ∃ v, e = .returned v ∧ w'.ownsRow U2.heap.size 9 1 v p.costs.length ((ro.map itoa).map strV) ∧ Below U2.heap.size U2 w') from by
          have := text_words A' ro c' U2.drew ((HR3.out.below HU2.out).drew) HS12.out (by rw [HLN.out]; omega) ((HT.out.below HWU2.out).below (Below.refl _ _).drew)
          rw [HLN.out] at this
          exact this.mono fun e w' ⟨v, h1, h2, h3⟩ => ⟨v, h1, h2, ((Below.refl _ _).drew).trans h3⟩)
        have HFI := Lib.hid (show ∀ u, Below U2.heap.size U2 u → Calls Tryz.prog 44 #[.int .i64 rm, .int .i64 10] u (fun e w' => ∃ v, e = .returned v ∧ v = .string (bs (itoa rm)) ∧ Below u.heap.size u w') from fun u hu =>
          (format_int rm (by omega) (by omega) u ((HT.out.below HWU2.out).below hu)).mono fun e w' ⟨h1, h2⟩ => ⟨_, h1, rfl, h2⟩)
        have HPUT := Lib.hid (show ∀ g cap u, u.ownsRow U2.heap.size 9 1 (.slice (some ⟨g, 0, none⟩) (p.costs.length + 2) cap) (p.costs.length + 2) ((ro.map itoa).map strV ++ [.string { data := #[60, 61] }, .string (bs (itoa rm))]) → Below U2.heap.size U2 u →
            Calls Tryz.prog 40 #[.slice (some ⟨g, 0, none⟩) (p.costs.length + 2) cap, .pointer (some ⟨w1.heap.size, 0, none⟩)] u (fun e w' => ∃ v, e = .returned v ∧ v = .tuple #[] ∧ Bld w1.heap.size (costT p.costs ++ ((p.rows.take k).map rowT).flatten ++ (RL ++ [10])) w' ∧ Below w1.heap.size u w') from fun g cap u ho hu => by
          have hS := Sd.of_own' (l := ro.map itoa ++ [leW, itoa rm]) (by rw [List.map_append]; exact ho) (by simp [HLN.out])
          have := text_put g 0 cap (ro.map itoa ++ [leW, itoa rm]) w1.heap.size _ u hS (by simp) ((HB1.out.below HU2.out).below hu) (by rw [← HRL.out, List.length_append]; omega) (by simp [HLN.out]; omega)
          rw [← HRL.out, show (ro.map itoa ++ [leW, itoa rm]).length = p.costs.length + 2 by simp [HLN.out]] at this
          exact this.mono fun e w' ⟨h1, h2, h3⟩ => ⟨_, h1, rfl, h2, h3⟩)
        have d0 := BR.out.cell 0
        have d1 := BR.out.cell 1
        have D1 := Lib.hid (show ∀ u, Below U2.heap.size U2 u → u.cell? ⟨U1.heap.size, 1, none⟩ = some (.int .i64 rm) from fun u hu => (BR.out.next hu).cell 1)
        simp at d0 d1
        go_region_law (first
          | (refine step_callR (f := 43) (R := fun v w' => w'.ownsRow U2.heap.size 9 1 v p.costs.length ((ro.map itoa).map strV) ∧ Below U2.heap.size U2 w') rfl (by go_simp; done) HWD.out ?_; rintro v w2 ⟨hown2, hb2⟩; have d2 := D1.out _ hb2)
          | (refine step_callR (f := 44) (R := fun v w' => v = .string (bs (itoa rm)) ∧ Below w2.heap.size w2 w') rfl (by go_simp; done) (HFI.out _ hb2) ?_; rintro v3 w3 ⟨rfl, hb3⟩)
          | (refine step_appS rfl (.tmp 29) (.tmp 33) rfl U2.heap.size v p.costs.length _ _ _ (by simp [Act.eval]) (own_below hown2 (hb3.alloc hb3.size _)) _ 2 (by simp [Act.eval]) (Blk.mk' _ _ _) (by omega) (by have := hb2.size; have := hb3.size; simp; omega) ?_; intro g cap w5 hown5 hg5 hat5 hlt5; have hb5 : Below U2.heap.size U2 w5 := ((hb2.trans (hb3.mono hb2.size)).alloc (by have := hb2.size; have := hb3.size; omega) _).grown hg5 (by have := hb2.size; have := hb3.size; simp; omega) (own_ge hown2 (Nat.le_refl _)))
          | (refine step_callR (f := 40) (R := fun v w' => v = .tuple #[] ∧ Bld w1.heap.size (costT p.costs ++ ((p.rows.take k).map rowT).flatten ++ (RL ++ [10])) w' ∧ Below w1.heap.size w5 w') rfl (by go_simp; done) (HPUT.out _ _ _ hown5 hb5) ?_; rintro v6 w6 ⟨rfl, hbl6, hb6⟩))
        all_goals
          have HB5 := Lib.hid hb5
          have HB6 := Lib.hid hbl6
          have HBB6 := Lib.hid hb6
          clear hb5 hbl6 hb6
          go_wp2_with fail
          go_roundw
          case rel => exact ⟨k + 1, by omega, by go_num, by rw [HRT.out, ← List.append_assoc]; exact HB6.out, HWU2.out.trans ((HB5.out.mono (by omega)).trans (HBB6.out.mono (by omega)))⟩
          case measure => simp [intOf]; omega
      · obtain rfl : k = p.rows.length := by omega
        have hd : decide ((p.rows.length : Int) < (p.rows.length : Int)) = false := by simp
        have HST := Lib.hid (builder_string _ _ _ HB1.out)
        go_wp2_with (go_at_call 45; refine HST.out.mono ?_; rintro e w7 ⟨rfl, hb7⟩)
        refine bodyPost_ret (v := prtV p) ?_ ?_ ?_
        · simp [results, Tryz.results19, go_sem, prtV, hm, textF]
        · rfl
        · exact ⟨rfl, HU1.out.trans (hb7.mono (by omega))⟩
end Go.Proofs.YtjcdkbalhleeeaaGreatDoor

namespace Go.Proofs.YtjcdkbalhleeeaaGreatDoor
open Go.Proofs Go.RowKit
open Go.Lib (itoa join)

/-- What sweep says. -/
def swpS (p : PG) (b : List Int) : List UInt8 := if swpE p b = 0 then itoa ((swpL p b).length : Nat) ++ ((swpL p b).map fun x => 32 :: frcW x.bn x.bd ++ 32 :: frcW x.sn x.sd).flatten else sayW wBad (swpE p b)
def RetS (w : World) (s : List UInt8) (e : Ending) (w' : World) : Prop := e = .returned (.string (bs s)) ∧ Below w.heap.size w w'
theorem sol_bound {p : PG} (h : (solZ p).kind = 1) : (-9223372036854775807 ≤ (solZ p).wn ∧ (solZ p).wn ≤ 9223372036854775807) ∧ (-9223372036854775807 ≤ (solZ p).wd ∧ (solZ p).wd ≤ 9223372036854775807) := by
  obtain ⟨l, hl, e⟩ := sol_best h
  obtain ⟨m1, _⟩ := bestA_worth hl.1
  rw [← e] at m1
  simp [mayB, rightB, smallB] at m1
  omega
set_option maxRecDepth 100000 in
set_option maxHeartbeats 1000000 in
theorem drive_solve (g : Nat) (A : Option Addr) (c : Nat) (A2 : Option Addr) (c2 : Nat) (p : PG) (t3 t4 : Value) (w : World) (hb : Blk w g 46 #[.slice A p.costs.length c, .slice A2 p.rows.length c2, t3, t4]) (hp : Pg w A c A2 c2 p) (hm : mayPB p = true) (ht : Tab w) :
    Calls Tryz.prog 71 #[.pointer (some ⟨g, 0, none⟩)] w (RetS w (solS p)) := by
  have B := Lib.hid hb
  have HT := Lib.hid ht
  have p0 : w.cell? ⟨g, 0, none⟩ = some (.slice A p.costs.length c) := hb.cell 0
  have p1 : w.cell? ⟨g, 1, none⟩ = some (.slice A2 p.rows.length c2) := hb.cell 1
  have hlt := hb.lt
  have hse : solEr p = 0 := by unfold solEr; rw [if_pos hm]
  have hsa : solA p = solZ p := by unfold solA; rw [if_pos hm]
  have hk := (sol_all hm).2.2
  have hbd := sol_bound (p := p)
  have hS : solS p = if (solZ p).kind = 1 then wBest ++ 32 :: frcW (solZ p).wn (solZ p).wd else if (solZ p).kind = 2 then wEndless else wNothing := rfl
  have HSO := Lib.hid (solve_Solve A c A2 c2 p w hp)
  obtain ⟨S, hSd⟩ : ∃ S, solS p = S := ⟨_, rfl⟩
  rw [hSd] at hS ⊢
  have HSS := Lib.hid hS
  have HBD := Lib.hid hbd
  have HK := Lib.hid hk
  unfold RetS
  clear hSd hb hm ht hp hS hbd hk
  go_enter Tryz.func71, Tryz.ntmps71
  go_wp2_with fail
  refine HSO.out.mono ?_
  rintro e w1 ⟨hb1, X, cx, Y, cy, R, cr, rfl, _⟩
  rw [hse, hsa]
  obtain ⟨an, han⟩ : ∃ an, solZ p = an := ⟨_, rfl⟩
  rw [han] at HK HSS HBD ⊢
  clear han hse hsa HSO
  obtain ⟨kd, xs, xd, ys, yd, rs, rd, wn, wd⟩ := an
  have hk := HK.out
  simp only at hk HSS HBD ⊢
  have HK := Lib.hid hk
  have HB1 := Lib.hid hb1
  have z1 := hb1.size
  unfold anV
  clear hb1 p0 p1 hk
  go_upto_region 2 with fail
  have BA := Lib.hid (Blk.mk' w1 57 #[.int .i64 kd, .slice X xs.length cx, .int .i64 xd, .slice Y ys.length cy, .int .i64 yd, .slice R rs.length cr, .int .i64 rd, .int .i64 wn, .int .i64 wd])
  have HV := Lib.hid (HB1.out.alloc z1 (.cells #[.int .i64 kd, .slice X xs.length cx, .int .i64 xd, .slice Y ys.length cy, .int .i64 yd, .slice R rs.length cr, .int .i64 rd, .int .i64 wn, .int .i64 wd] 57))
  generalize w1.heap.size = b1 at *
  generalize (w1.alloc (.cells #[.int .i64 kd, .slice X xs.length cx, .int .i64 xd, .slice Y ys.length cy, .int .i64 yd, .slice R rs.length cr, .int .i64 rd, .int .i64 wn, .int .i64 wd] 57)) = V at *
  have a0 : V.cell? ⟨b1, 0, none⟩ = some (.int .i64 kd) := BA.out.cell 0
  have a7 : V.cell? ⟨b1, 7, none⟩ = some (.int .i64 wn) := BA.out.cell 7
  have a8 : V.cell? ⟨b1, 8, none⟩ = some (.int .i64 wd) := BA.out.cell 8
  rcases HK.out with rfl | rfl | rfl
  · have hS1 : S = wBest ++ 32 :: frcW wn wd := HSS.out
    have HFR := Lib.hid (drive_fraction wn wd V (HBD.out rfl).1 (HBD.out rfl).2 (HT.out.below HV.out))
    have hl1 := itoa_len (n := wn) (by have := (HBD.out rfl).1; omega) (HBD.out rfl).1.2
    have hl2 := itoa_len (n := wd) (by have := (HBD.out rfl).2; omega) (HBD.out rfl).2.2
    have ha : ∀ W, (Op.stringOp .add { data := #[98, 101, 115, 116, 32] } (bs (frcW wn wd))).run Tryz.prog W = .ok (.string (bs S)) W := fun W => by
      rw [hS1, show wBest ++ 32 :: frcW wn wd = [98, 101, 115, 116, 32] ++ frcW wn wd from rfl]
      exact run_add _ _ (by simp [frcW]; omega) W
    clear hS1 hl1 hl2
    generalize bs (frcW wn wd) = t1 at *
    go_wp2_with (go_at_call 109; refine HFR.out.mono ?_; rintro e w2 ⟨rfl, hb2⟩)
    go_ret
    exact ⟨rfl, HV.out.trans (hb2.mono HV.out.size)⟩
  · have hS1 : S = wEndless := HSS.out
    subst hS1
    go_wp2_with fail
    go_ret
    exact ⟨rfl, HV.out⟩
  · have hS1 : S = wNothing := HSS.out
    subst hS1
    go_wp2_with fail
    go_ret
    exact ⟨rfl, HV.out⟩
set_option maxRecDepth 100000 in
theorem drive_show (q g : Nat) (A : Option Addr) (c : Nat) (A2 : Option Addr) (c2 : Nat) (p : PG) (t3 t4 : Value) (w : World) (hq : w.cell? ⟨q, 0, none⟩ = some (.pointer (some ⟨g, 0, none⟩))) (hb : Blk w g 46 #[.slice A p.costs.length c, .slice A2 p.rows.length c2, t3, t4]) (hp : Pg w A c A2 c2 p) (hm : mayPB p = true) (ht : Tab w) :
    Calls Tryz.prog 72 #[.pointer (some ⟨q, 0, none⟩)] w (RetS w (shoS p)) := by
  have p0 : w.cell? ⟨g, 0, none⟩ = some (.slice A p.costs.length c) := hb.cell 0
  have p1 : w.cell? ⟨g, 1, none⟩ = some (.slice A2 p.rows.length c2) := hb.cell 1
  have hlt := hb.lt
  have hltq := World.block_lt_of_cell? _ _ hq
  have hPV : prtV p = .tuple #[.string (bs (textF p)), .int .i64 0] := by unfold prtV strV; rw [if_pos hm, if_pos hm]
  have HPR := Lib.hid (text_Print A c A2 c2 p w hp ht)
  rw [hPV] at HPR
  have htl : (textF p).length ≤ 1000000 := by
    have := rowsT_len hm p.rows.length (Nat.le_refl _)
    have h4 := mayPB_iff.1 hm
    have := costT_len h4.2.2.2.2.1 h4.2.1
    unfold textF
    rw [List.take_length] at *
    rw [List.length_append]
    omega
  have HIT := Lib.hid (fun (W : World) (hW : Below w.heap.size w W) => itoa_call ((textF p).length : Nat) (by omega) (by omega) W (ht.below hW))
  have hsz : (bs (textF p)).size = (textF p).length := bs_size _
  have hR : shoS p = itoa ((textF p).length : Nat) := rfl
  rw [hR]
  unfold RetS
  clear hPV hb hp hm ht hR htl
  generalize hT : bs (textF p) = T at *
  generalize (textF p).length = n at *
  generalize bs (itoa (n : Int)) = t2 at *
  go_enter Tryz.func72, Tryz.ntmps72
  go_wp2_with (first
    | (go_at_call 19; refine HPR.out.mono ?_; rintro e w1 ⟨rfl, hb1⟩)
    | (go_at_call 67; refine (HIT.out _ hb1).mono ?_; rintro e w2 ⟨rfl, hb2⟩))
  go_ret
  exact ⟨rfl, hb1.trans (hb2.mono hb1.size)⟩
end Go.Proofs.YtjcdkbalhleeeaaGreatDoor
