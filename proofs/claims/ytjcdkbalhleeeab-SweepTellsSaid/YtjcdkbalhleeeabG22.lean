/-
  Contracts of functions and plain laws that later parts of the proof use. The conditions stand in each theorem.
-/
import Derived.Test.YtjcdkbalhleeeabG21
import Derived.BigQuiet
import Derived.Test.YtjcdkbalhleeeabG04
import Derived.Test.YtjcdkbalhleeeabG11
import Derived.Test.YtjcdkbalhleeeabG13
import Derived.Test.YtjcdkbalhleeeabG15
import Derived.Test.YtjcdkbalhleeeabG05
import Derived.WalkSpells
namespace Go.Proofs.Ytjcdkbalhleeeab
open Go.Proofs Go.Shelf Go.RowKit Go.Lib

theorem below_put {n D : Nat} {w X : World} (h : Below n w X) (hD : n ≤ D) (hn : n ≤ w.heap.size) (o : Obj) : Below n w (X.putObj D o) :=
  ((KS.of_below (S := fun i => i < n) (W := X) (Below.refl _ X)).putObj o (by omega)).below (fun i hi => hi) (Nat.le_trans hn h.size) |> fun k => h.trans k
theorem pc_new (W : World) (y : PC) : ∀ (j : Nat) (u : Value), (pcC y)[j]? = some u → (W.alloc (.cells #[.bool y.fr.op, .int .i64 y.fr.n, .int .i64 y.fr.d, .bool y.to.op, .int .i64 y.to.n, .int .i64 y.to.d, .int .i64 y.bn, .int .i64 y.bd, .int .i64 y.sn, .int .i64 y.sd] 73)).cell? ((⟨W.heap.size, 0, none⟩ : Addr).add j) = some u := fun j u h => by
  have e1 : ∀ q, (⟨W.heap.size, 0, none⟩ : Addr).add q = ⟨W.heap.size, q, none⟩ := fun q => by unfold Addr.add; split <;> simp_all
  rw [e1, (Blk.mk' W 73 _).cell j, ← h]
  simp [pcC]
attribute [local go_sem] Oper.semAt_some
set_option maxRecDepth 100000 in
set_option maxHeartbeats 4000000 in
theorem sweep_Sweep (A : Option Addr) (c : Nat) (A2 : Option Addr) (c2 : Nat) (p : PG) (B : Option Addr) (b : List Int) (cb : Nat) (w : World) (hp : Pg w A c A2 c2 p) (hb : Rd w B cb b) :
    Calls Try.prog 18 #[.agg #[.slice A p.costs.length c, .slice A2 p.rows.length c2], .slice B b.length cb] w (RetSw w (swpL p b) (swpE p b)) := by
  have HP := Lib.hid hp
  have HBY := Lib.hid hb
  clear hp hb
  refine calls_of_marks Try.func18 rfl ?_
  simp only [Try.ntmps18, List.size_toArray, List.length_cons, List.length_nil, Nat.reduceAdd, Nat.reduceSub, Array.replicate_succ, Array.replicate_zero, List.push_toArray, List.append_toArray, List.nil_append, List.cons_append]
  go_wp2_with fail
  have BP := Lib.hid (Blk.mk' w 25 #[.slice A p.costs.length c, .slice A2 p.rows.length c2])
  have HB := Lib.hid ((Below.refl w.heap.size w).alloc (Nat.le_refl _) (.cells #[.slice A p.costs.length c, .slice A2 p.rows.length c2] 25))
  generalize (w.alloc (.cells #[.slice A p.costs.length c, .slice A2 p.rows.length c2] 25)) = V at *
  have zV := HB.out.size
  have lBP := BP.out.lt
  refine (layout_May A c A2 c2 p V (HP.out.below HB.out)).mono ?_
  rintro e w1 ⟨rfl, hb1⟩
  have HB1 := Lib.hid (HB.out.trans (hb1.mono zV))
  have BP1 := Lib.hid (BP.out.next hb1)
  have z1 := HB1.out.size
  have lB1 := BP1.out.lt
  clear hb1
  cases hm : mayPB p with
  | false =>
    have HE := Lib.hid (show swpE p b = 2 by unfold swpE; rw [if_pos hm])
    have HLL := Lib.hid (show swpL p b = [] by unfold swpL; rw [if_neg (by rw [HE.out]; decide)])
    clear hm
    go_wp2_with fail
    refine ⟨.tuple #[.slice none 0 0, .int .i64 (2)], ?_, .slice none 0 0, ?_, ?_, HB1.out⟩
    · simp [results, Try.results18, go_sem]
    · rw [HE.out]
    · rw [HLL.out]; exact .inl ⟨rfl, none, 0, rfl⟩
  | true =>
    have HM := Lib.hid hm
    have p0 : w1.cell? ⟨w.heap.size, 0, none⟩ = some (.slice A p.costs.length c) := BP1.out.cell 0
    have p1 : w1.cell? ⟨w.heap.size, 1, none⟩ = some (.slice A2 p.rows.length c2) := BP1.out.cell 1
    clear hm
    by_cases hl : b.length = p.costs.length
    · have HLN := Lib.hid hl
      have hlz : ((b.length : Int) != (p.costs.length : Int)) = false := by simp [hl]
      have HCN := Lib.hid (con_small B b cb w1 (HBY.out.below HB1.out))
      cases hsm : smallB 400 b with
      | false =>
        rw [hsm] at HCN
        have HE := Lib.hid (show swpE p b = 1 by
          unfold swpE
          rw [if_neg (by rw [HM.out]; decide), if_pos]
          unfold manyB
          simp [hsm])
        have HLL := Lib.hid (show swpL p b = [] by unfold swpL; rw [if_neg (by rw [HE.out]; decide)])
        clear hsm hl
        go_wp2_with fail
        refine HCN.out.mono ?_
        rintro e w2 ⟨rfl, hb2⟩
        have HB2 := Lib.hid (HB1.out.trans (hb2.mono z1))
        go_wp2_with fail
        refine ⟨.tuple #[.slice none 0 0, .int .i64 (1)], ?_, .slice none 0 0, ?_, ?_, HB2.out⟩
        · simp [results, Try.results18, go_sem]
        · rw [HE.out]
        · rw [HLL.out]; exact .inl ⟨rfl, none, 0, rfl⟩
      | true =>
        rw [hsm] at HCN
        have HG := Lib.hid (show By p b from ⟨HLN.out, hsm⟩)
        have HMN := Lib.hid (show manyB b p.costs.length 400 = true by unfold manyB; simp [hsm, hl])
        clear hsm hl
        go_wp2_with fail
        refine HCN.out.mono ?_
        rintro e w2 ⟨rfl, hb2⟩
        have HB2 := Lib.hid (HB1.out.trans (hb2.mono z1))
        have BP2 := Lib.hid (BP1.out.next hb2)
        have z2 := hb2.size
        clear hb2 p0 p1 hlz HCN
        have p0 : w2.cell? ⟨w.heap.size, 0, none⟩ = some (.slice A p.costs.length c) := BP2.out.cell 0
        have p1 : w2.cell? ⟨w.heap.size, 1, none⟩ = some (.slice A2 p.rows.length c2) := BP2.out.cell 1
        go_upto_region 6 with fail
        have HBb := Lib.hid (Blk.mk' w2 4 #[.bool false])
        have HV2 := Lib.hid ((Below.refl w2.heap.size w2).alloc (Nat.le_refl _) (.cells #[.bool false] 4))
        clear p0 p1
        generalize (w2.alloc (.cells #[.bool false] 4)) = V2 at *
        have zV2 := HV2.out.size
        have lBb := HBb.out.lt
        have HBV := Lib.hid (HB2.out.trans (HV2.out.mono (by omega)))
        have BPV := Lib.hid (BP2.out.next HV2.out)
        have p0 : V2.cell? ⟨w.heap.size, 0, none⟩ = some (.slice A p.costs.length c) := BPV.out.cell 0
        have p1 : V2.cell? ⟨w.heap.size, 1, none⟩ = some (.slice A2 p.rows.length c2) := BPV.out.cell 1
        go_wp2_with fail
        refine (solve_Corners A c A2 c2 p V2).mono ?_
        rintro e w3 ⟨b1, b2, b3, rfl, l1, l2, l3, k1, k2, k3, k4, hb3⟩
        go_wp2_with fail
        clear p0 p1
        have BP3 := Lib.hid (BPV.out.next hb3)
        have BB3 := Lib.hid (HBb.out.next hb3)
        have HB3 := Lib.hid (HBV.out.trans (hb3.mono (by omega)))
        have z3 := hb3.size
        generalize hgb : w2.heap.size = gb at *
        have q1 := World.block_lt_of_cell? _ _ k1
        have q2 := World.block_lt_of_cell? _ _ k2
        have q3 := World.block_lt_of_cell? _ _ k3
        simp only at q1 q2 q3
        have wgb : w.heap.size ≤ gb := by omega
        obtain ⟨S, hS⟩ : ∃ S : Nat → Prop, S = fun i => i < gb ∨ i = b1 ∨ i = b2 ∨ i = b3 := ⟨_, rfl⟩
        have hbox : BoxC S w3 b1 b2 b3 A c A2 c2 p := by
          subst hS
          exact ⟨.inr (.inl rfl), .inr (.inr (.inl rfl)), .inr (.inr (.inr rfl)), k1, k2, k3, k4, fun W h => HP.out.below (HB3.out.trans (h.below (fun i hi => .inl (Nat.lt_of_lt_of_le hi wgb)) HB3.out.size))⟩
        have hSn : ∀ i, S i → i < w3.heap.size := by
          subst hS
          rintro i (h | rfl | rfl | rfl)
          all_goals omega
        have hSr : ¬ S gb := by
          subst hS
          rintro (h | h | h | h)
          · exact Nat.lt_irrefl _ h
          all_goals omega
        have HSB := Lib.hid (show ∀ W, KS S w3 W → Below w.heap.size w W from fun W h => by
          subst hS
          exact HB3.out.trans (h.below (fun i hi => .inl (Nat.lt_of_lt_of_le hi wgb)) HB3.out.size))
        have HSP := Lib.hid (show ∀ W, KS S w3 W → Blk W w.heap.size 25 #[.slice A p.costs.length c, .slice A2 p.rows.length c2] from fun W h => by
          subst hS
          exact (h.block _ BP3.out.lt (.inl (Nat.lt_of_lt_of_le lB1 z2))).trans BP3.out)
        have HIT := Lib.hid (corners_iter S w3 b1 b2 b3 A c A2 c2 p hbox HM.out)
        have lgb := BB3.out.lt
        have lw3 : w.heap.size < w3.heap.size := by omega
        clear hb3 k1 k2 k3 k4 hbox hS hgb
        refine wp_iter (gf := 98) (lb := #[.pointer (some ⟨b1, 0, none⟩), .pointer (some ⟨b2, 0, none⟩), .pointer (some ⟨b3, 0, none⟩)]) rfl (enters_of Try.func98 (by kernel_rfl) rfl) HIT.out (KS.refl _ _) hSn
          (fun k args W h => by obtain ⟨_, _, _, _, _, _, _, _, rfl, _⟩ := h; rfl)
          (fun k W => Blk W gb 4 #[.bool (goesK p k)])
          (fun cd k W => False)
          (fun k X Y h kw => h.kw kw)
          (fun cd k X Y h kw => h)
          BB3.out ?round ?done ?stop
        case stop => rintro D cd k W hD hk h; exact h.elim
        case round =>
          rintro l k args W hl hk hbk hks ⟨L, cl, X, cx, Y, cy, G, cg, rfl, hL, hC, hLB⟩ hlt
          have HBK := Lib.hid hbk
          have HKS := Lib.hid hks
          have HC := Lib.hid hC
          have HGK := Lib.hid (goesK_succ hk)
          obtain ⟨lb, hlb⟩ : ∃ lb, (cornersZ p).getD k [] = lb := ⟨_, rfl⟩
          rw [hlb] at HC HGK ⊢
          clear hbk hks hL hC hlb hLB
          gi_wp2
          refine ⟨(KeepsOthers.alloc _ _).from _, (KS.refl _ _).alloc _, fun Wb hkw hks2 => ?_⟩
          have BC := Lib.hid (show Blk Wb W.heap.size 42 #[.slice X (lookN p lb).xs.length cx, .int .i64 (lookN p lb).xd, .slice Y (lookN p lb).ys.length cy, .int .i64 (lookN p lb).yd, .slice G (lookN p lb).gs.length cg, .int .i64 (lookN p lb).gd] from (Blk.mk' _ _ _).kw hkw)
          have kwa : KW w3.heap.size W (W.alloc (.cells #[.slice X (lookN p lb).xs.length cx, .int .i64 (lookN p lb).xd, .slice Y (lookN p lb).ys.length cy, .int .i64 (lookN p lb).yd, .slice G (lookN p lb).gs.length cg, .int .i64 (lookN p lb).gd] 42)) := .of_below ((Below.refl _ W).alloc (Nat.le_refl _) _)
          have HX2 := Lib.hid (show Rd Wb X cx (lookN p lb).xs from HC.out.x.kw (kwa.trans hkw))
          have HBK2 := Lib.hid (HBK.out.kw (kwa.trans hkw))
          clear kwa hkw hks2 HC HBK HKS
          generalize W.heap.size = bc at *
          clear W
          have e0 := BC.out.cell 0
          have e1 := BC.out.cell 1
          have e2 := BC.out.cell 2
          have e3 := BC.out.cell 3
          have e4 := BC.out.cell 4
          have e5 := BC.out.cell 5
          simp at e0 e1 e2 e3 e4 e5
          have f0 : Wb.cell? ⟨gb, 0, none⟩ = some (.bool (goesK p k)) := HBK2.out.cell 0
          have f1 := HBK2.out.frozen 0
          have HGO := Lib.hid (solve_Goes X Y G cx (lookN p lb).ys.length cy (lookN p lb).gs.length cg (lookN p lb).xs (lookN p lb).xd (lookN p lb).yd (lookN p lb).gd Wb HX2.out)
          cases hg : goesK p k with
          | true =>
            rw [hg] at f0 HGK HBK2
            clear hg
            gi_wp2_with fail
            refine ⟨trivial, ?_⟩
            gi_wp2_with fail
            refine ⟨(KeepsOthers.setCell _ _ _).from _, (KS.refl _ _).setCell _ _ hSr, ?_⟩
            show Blk _ gb 4 #[.bool (goesK p (k + 1))]
            rw [HGK.out]
            exact HBK2.out.set0 0 (.bool true)
          | false =>
            rw [hg] at f0 HGK HBK2
            clear hg
            gi_wp2_with fail
            refine ⟨trivial, rfl, ?_⟩
            refine (CallsIn.inRound l (callsIn_wide.2 HGO.out)).mono ?_
            rintro e w4 ⟨rfl, hb4⟩
            have g0 : w4.cell? ⟨gb, 0, none⟩ = some (.bool false) := (HBK2.out.next hb4).cell 0
            have g1 := (HBK2.out.next hb4).frozen 0
            gi_wp2_with fail
            refine ⟨(KeepsFrom.of_below hb4 _).trans ((KeepsOthers.setCell _ _ _).from _), (KS.of_below hb4).setCell _ _ hSr, ?_⟩
            show Blk _ gb 4 #[.bool (goesK p (k + 1))]
            rw [HGK.out]
            exact (HBK2.out.next hb4).set0 0 _
        case done =>
          rintro D W hD hbk hks hK
          rw [goesK_all] at hbk
          have HBW := Lib.hid (HSB.out W hks)
          have BPW := Lib.hid (HSP.out W hks)
          have HK := Lib.hid hK
          have lD : D < W.heap.size := (Array.getElem?_eq_some_iff.1 hK).1
          have HDW := Lib.hid (show w.heap.size ≤ D by omega)
          clear hks hK HIT HSB HSP
          have p0 : W.cell? ⟨w.heap.size, 0, none⟩ = some (.slice A p.costs.length c) := BPW.out.cell 0
          have p1 : W.cell? ⟨w.heap.size, 1, none⟩ = some (.slice A2 p.rows.length c2) := BPW.out.cell 1
          obtain ⟨q, hany⟩ : ∃ q, ((cornersZ p).any fun l => nonneg (lookN p l).xs) = q := ⟨_, rfl⟩
          rw [hany] at hbk
          have c0 : W.cell? ⟨gb, 0, none⟩ = some (.bool q) := hbk.cell 0
          cases q with
          | false =>
            have HE := Lib.hid (show swpE p b = 4 by
              unfold swpE
              rw [if_neg (by rw [HM.out]; decide), if_neg (by rw [HMN.out]; decide), if_pos hany])
            have HLL := Lib.hid (show swpL p b = [] by unfold swpL; rw [if_neg (by rw [HE.out]; decide)])
            clear hany hbk
            go_wp2_with fail
            refine ⟨by simp, .inl ⟨_, _, rfl, run_takeDeferred HK.out, .tuple #[.slice none 0 0, .int .i64 (4)], ?_, .slice none 0 0, ?_, ?_, ?_⟩⟩
            · simp [results, Try.results18, go_sem]
            · rw [HE.out]
            · rw [HLL.out]; exact ((show PcRd W w.heap.size (.slice none 0 0) [] from .inl ⟨rfl, none, 0, rfl⟩)).kw (KW.putObj (B := 0) (.deferred none) (Nat.zero_le _) HK.out rfl)
            · exact below_put HBW.out HDW.out (Nat.le_refl _) _
          | true =>
            have HE := Lib.hid (show swpE p b = 0 by
              unfold swpE
              rw [if_neg (by rw [HM.out]; decide), if_neg (by rw [HMN.out]; decide), if_neg (by rw [hany]; decide)])
            have HLL := Lib.hid (show swpL p b = ansP (grpF undP ovrP p b (cornersZ p)) by unfold swpL; rw [if_pos HE.out])
            clear hany hbk
            go_wp2_with fail
            refine (sweep_lines A c A2 c2 p B b cb W (HP.out.below HBW.out) (HBY.out.below HBW.out) HM.out HG.out).mono ?_
            rintro e w5 ⟨M, rfl, hM, hml, hb5⟩
            obtain ⟨P, hP⟩ : ∃ P, grpF undP ovrP p b (cornersZ p) = P := ⟨_, rfl⟩
            have HQ := Lib.hid (show Grp p b P from hP ▸ grp_prog HG.out)
            have HPL := Lib.hid (show P.length ≤ 256 from hP ▸ Nat.le_trans (grpF_len _) (corners_few HM.out))
            rw [hP] at hml HLL
            have HML := Lib.hid hml
            have HB5 := Lib.hid (HBW.out.trans (hb5.mono (by omega)))
            have HK5 := Lib.hid (show w5.heap[D]? = some (.deferred (some [])) from (hb5.block D lD).trans HK.out)
            have z5 := hb5.size
            obtain ⟨o, hr1, hr2⟩ := hml.rangeE
            clear hb5 hml p0 p1 c0 hP
            go_wp2_with fail
            have HR := Lib.hid hr2
            have HB6 := Lib.hid ((Below.refl w5.heap.size w5).alloc (Nat.le_refl _) o)
            have zW : (w5.alloc o).heap.size = w5.heap.size + 1 := by simp
            clear hr1 hr2
            generalize w5.alloc o = W6 at *
            go_loopw [10] (fun s10 wx => ∃ dn left : List PC, Hid ((dn ++ left).Perm P) ∧ MapR wx M w5.heap.size P left ∧ PcOwn wx (w5.heap.size + 1) s10 (dn.filter fun x => !pointB x) ∧ Below w5.heap.size w5 wx ∧ w5.heap.size + 1 ≤ wx.heap.size) (fun _ wx => wx.rangeLeft M w5.heap.size)
            case atStart => exact ⟨[], P, Lib.hid (by simp), HR.out, PcOwn.nil _ _, HB6.out, by omega⟩
            case round =>
              obtain ⟨dn, left, hpm, hmr, hpo, hbl, hsz⟩ := hrel
              rename World => U
              have HMR := Lib.hid hmr
              have HPO := Lib.hid hpo
              have HBL := Lib.hid hbl
              have hle := hmr.left_eq
              have HLE := Lib.hid hle
              clear hbl hle
              rcases hmr.next 0 with ⟨rfl, hnx⟩ | ⟨l1, x, l2, U1, rfl, hnx, hmr1, hg1, hs1, hent⟩
              · clear hmr hpo HMR HLE
                have HKU := Lib.hid (show U.heap[D]? = some (.deferred (some [])) from (HBL.out.block D (Array.getElem?_eq_some_iff.1 HK5.out).1).trans HK5.out)
                have HBU := Lib.hid (HB5.out.trans (HBL.out.mono (by omega)))
                have hpm' := hpm.out
                rw [List.append_nil] at hpm'
                by_cases hfl : (dn.filter fun x => !pointB x) = []
                · have HAN := Lib.hid (show ansP P = bestP P from by
                    unfold ansP
                    rw [if_pos]
                    have := hpm'.filter fun x => !pointB x
                    rw [hfl] at this
                    exact this.symm.eq_nil)
                  rw [hfl] at HPO
                  have hs3 : ∃ A c, u10 = .slice A 0 c := by
                    rcases HPO.out.2 with ⟨e, _⟩ | ⟨g, cap, _, e, _⟩
                    · exact ⟨_, _, e⟩
                    · exact ⟨_, _, e⟩
                  obtain ⟨A', c', rfl⟩ := hs3
                  have HPM := Lib.hid hpm'
                  have HMU := Lib.hid (HML.out.below HBL.out)
                  clear hpm' hfl
                  go_wp2_with fail
                  refine (sweep_only M P U HMU.out fun x hx => (pc_pos HG.out HQ.out hx).2).mono ?_
                  rintro e w8 ⟨_, ⟨L', hL', rfl⟩, v, rfl, hpo8, hb8⟩
                  have HB8 := Lib.hid (HBU.out.trans (hb8.mono HBU.out.size))
                  have HK8 := Lib.hid ((hb8.block D (Array.getElem?_eq_some_iff.1 HKU.out).1).trans HKU.out)
                  have HP8 := Lib.hid (show PcRd w8 w.heap.size v (ansP P) from by
                    rw [HAN.out, ← best_uniq HG.out HQ.out HQ.out hL']
                    exact hpo8.rd.mono HBU.out.size)
                  clear hpo8 hb8 hL'
                  go_wp2_with fail
                  refine ⟨by simp, .inl ⟨_, _, rfl, run_takeDeferred HK8.out, .tuple #[v, .int .i64 (0)], ?_, v, ?_, ?_, ?_⟩⟩
                  · simp [results, Try.results18, go_sem]
                  · rw [HE.out]
                  · rw [HLL.out]; exact (HP8.out).kw (KW.putObj (B := 0) (.deferred none) (Nat.zero_le _) HK8.out rfl)
                  · exact below_put HB8.out HDW.out (Nat.le_refl _) _
                · have h0 : 0 < (dn.filter fun x => !pointB x).length := by
                    cases hq : dn.filter fun x => !pointB x with
                    | nil => exact absurd hq hfl
                    | cons a l => simp
                  have HFP := Lib.hid (hpm'.filter fun x => !pointB x)
                  have HAN := Lib.hid (show ansP P = sortP (P.filter fun x => !pointB x) from by
                    unfold ansP
                    rw [if_neg]
                    intro hq
                    have := HFP.out
                    rw [hq] at this
                    exact hfl this.eq_nil)
                  obtain ⟨Q, hQ⟩ : ∃ Q, (dn.filter fun x => !pointB x) = Q := ⟨_, rfl⟩
                  rw [hQ] at h0 HFP HPO
                  have hQl : Q.length ≤ 100000 := by
                    have h1 := HFP.out.length_eq
                    have h2 := List.length_filter_le (fun x => !pointB x) P
                    have h3 := HPL.out
                    omega
                  clear hpm' hfl hQ
                  obtain ⟨g, cap, rfl, hg1, hg2, hg3, hg4, _⟩ := HPO.out.some' h0
                  have hn0 : ¬ ((Q.length : Int) = 0) := by omega
                  go_wp2_with fail
                  refine (pcs_sort _ g cap Q U (prog_sortable HG.out HQ.out HFP.out) h0 hQl HPO.out).mono ?_
                  rintro e w8 ⟨rfl, l, hl1, hl2, hgr, hat⟩
                  have z8 := hgr.size
                  have HB8 := Lib.hid (HBU.out.grown hgr HBU.out.size (fun j e => by cases e; omega))
                  have hDU := (Array.getElem?_eq_some_iff.1 HKU.out).1
                  have hDg : D < g := by have := (Array.getElem?_eq_some_iff.1 HK5.out).1; omega
                  have HK8 := Lib.hid ((hgr.block D hDU (fun e => by injection e with e; omega)).trans HKU.out)
                  have HP8 := Lib.hid (show PcRd w8 w.heap.size (.slice (some ⟨g, 0, none⟩) Q.length cap) (ansP P) from by
                    rw [HAN.out, ← sort_uniq HG.out HQ.out HQ.out (hl1.trans HFP.out) hl2, ← hl1.length_eq]
                    refine .inr ⟨by rw [hl1.length_eq]; exact h0, g, cap, rfl, by omega, by omega, by rw [hl1.length_eq]; exact hg3, hg4, hat⟩)
                  clear hgr hat hl1 hl2
                  go_wp2_with fail
                  refine ⟨by simp, .inl ⟨_, _, rfl, run_takeDeferred HK8.out, .tuple #[(.slice (some ⟨g, 0, none⟩) Q.length cap), .int .i64 (0)], ?_, (.slice (some ⟨g, 0, none⟩) Q.length cap), ?_, ?_, ?_⟩⟩
                  · simp [results, Try.results18, go_sem]
                  · rw [HE.out]
                  · rw [HLL.out]; exact (HP8.out).kw (KW.putObj (B := 0) (.deferred none) (Nat.zero_le _) HK8.out rfl)
                  · exact below_put HB8.out HDW.out (Nat.le_refl _) _
              · have HPM := Lib.hid (show (dn ++ [x] ++ (l1 ++ l2)).Perm P from by
                  refine List.Perm.trans ?_ hpm.out
                  rw [List.append_assoc]
                  exact List.Perm.append_left dn (List.perm_middle (l₁ := l1) (l₂ := l2)).symm)
                have hlt := HMR.out.lt
                have hmv := HLE.out
                simp only [List.length_append, List.length_cons] at hmv
                clear hmr hpm HLE
                have HPO1 := Lib.hid (HPO.out.kept hg1 (by
                  rcases hb : u10.ownBlock with _ | k
                  · exact .inl rfl
                  · right
                    have := (World.ownsRow.lt HPO.out k hb).1
                    intro e
                    injection e with e
                    omega))
                have HBL1 := Lib.hid (HBL.out.grown hg1 (by omega) (fun k hk => by cases hk; omega))
                have HMR1 := Lib.hid hmr1
                have hs2 : U.heap.size ≤ U1.heap.size := Nat.le_of_eq hs1.symm
                clear hmr1 hg1 hpo HPO HBL HMR hs1
                unfold lnV wdV at hnx hent
                go_upto_region 16 with fail
                have BL := Lib.hid (show Blk ((U1.alloc (.cells #[.int .i64 x.bn, .int .i64 x.bd, .int .i64 x.sn, .int .i64 x.sd] 102)).alloc (.cells #[.bool x.fr.op, .int .i64 x.fr.n, .int .i64 x.fr.d, .bool x.to.op, .int .i64 x.to.n, .int .i64 x.to.d] 104)) U1.heap.size 102 #[.int .i64 x.bn, .int .i64 x.bd, .int .i64 x.sn, .int .i64 x.sd] from (Blk.mk' _ _ _).alloc _)
                have BW := Lib.hid (show Blk ((U1.alloc (.cells #[.int .i64 x.bn, .int .i64 x.bd, .int .i64 x.sn, .int .i64 x.sd] 102)).alloc (.cells #[.bool x.fr.op, .int .i64 x.fr.n, .int .i64 x.fr.d, .bool x.to.op, .int .i64 x.to.n, .int .i64 x.to.d] 104)) (U1.heap.size + 1) 104 #[.bool x.fr.op, .int .i64 x.fr.n, .int .i64 x.fr.d, .bool x.to.op, .int .i64 x.to.n, .int .i64 x.to.d] from Blk.new (U1.alloc (.cells #[.int .i64 x.bn, .int .i64 x.bd, .int .i64 x.sn, .int .i64 x.sd] 102)) 104 _ _ (by simp))
                have HV1 := Lib.hid ((by (repeat (any_goals (first | exact Below.refl _ _ | refine below_drewN ?_ _ | refine Below.drew ?_ | refine Below.alloc ?_ ?_ _ | refine Below.setCell ?_ ?_ _))); all_goals (first | omega | (simp; done) | (simp; omega))) : Below U1.heap.size U1 ((U1.alloc (.cells #[.int .i64 x.bn, .int .i64 x.bd, .int .i64 x.sn, .int .i64 x.sd] 102)).alloc (.cells #[.bool x.fr.op, .int .i64 x.fr.n, .int .i64 x.fr.d, .bool x.to.op, .int .i64 x.to.n, .int .i64 x.to.d] 104)))
                clear hnx hent
                generalize ((U1.alloc (.cells #[.int .i64 x.bn, .int .i64 x.bd, .int .i64 x.sn, .int .i64 x.sd] 102)).alloc (.cells #[.bool x.fr.op, .int .i64 x.fr.n, .int .i64 x.fr.d, .bool x.to.op, .int .i64 x.to.n, .int .i64 x.to.d] 104)) = V9 at *
                generalize hgl : U1.heap.size = gl at *
                have zV9 := HV1.out.size
                have lBW := BW.out.lt
                have HPO2 := Lib.hid (HPO1.out.below (by rw [hgl]; exact HV1.out))
                have HMR2 := Lib.hid (HMR1.out.below (by rw [hgl]; exact HV1.out))
                have HBL2 := Lib.hid (HBL1.out.trans (HV1.out.mono (by omega)))
                clear HPO1 HMR1 HBL1
                have v0 : V9.cell? ⟨gl + 1, 0, none⟩ = some (.bool x.fr.op) := BW.out.cell 0
                have v1 : V9.cell? ⟨gl + 1, 1, none⟩ = some (.int .i64 x.fr.n) := BW.out.cell 1
                have v2 : V9.cell? ⟨gl + 1, 2, none⟩ = some (.int .i64 x.fr.d) := BW.out.cell 2
                have v3 : V9.cell? ⟨gl + 1, 3, none⟩ = some (.bool x.to.op) := BW.out.cell 3
                have v4 : V9.cell? ⟨gl + 1, 4, none⟩ = some (.int .i64 x.to.n) := BW.out.cell 4
                have v5 : V9.cell? ⟨gl + 1, 5, none⟩ = some (.int .i64 x.to.d) := BW.out.cell 5
                have HPT := Lib.hid (sweep_point x V9)
                have HFS := Lib.hid (show ((dn ++ [x]).filter fun x => !pointB x) = (dn.filter fun x => !pointB x) ++ (if pointB x = true then [] else [x]) from by
                  rw [List.filter_append]
                  cases hq : pointB x <;> simp [hq])
                cases hpt : pointB x with
                | true =>
                  rw [hpt] at HPT HFS
                  clear hpt
                  go_wp2_with fail
                  refine HPT.out.mono ?_
                  rintro e w7 ⟨rfl, hb7⟩
                  have z7 := hb7.size
                  have HPO7 := Lib.hid (HPO2.out.below hb7)
                  have HMR7 := Lib.hid (HMR2.out.below hb7)
                  have HBL7 := Lib.hid (HBL2.out.trans (hb7.mono (by have := HBL2.out.size; omega)))
                  clear hb7
                  go_wp2_with fail
                  go_roundw
                  case measure =>
                    have := HMR7.out.left_eq
                    rw [this, hmv, List.length_append]
                    omega
                  case rel =>
                    refine ⟨dn ++ [x], l1 ++ l2, HPM, HMR7.out, ?_, HBL7.out, by omega⟩
                    rw [HFS.out]
                    simpa using HPO7.out
                | false =>
                  rw [hpt] at HPT HFS
                  clear hpt
                  go_wp2_with fail
                  refine HPT.out.mono ?_
                  rintro e w7 ⟨rfl, hb7⟩
                  have z7 := hb7.size
                  have HPO7 := Lib.hid (HPO2.out.below hb7)
                  have HMR7 := Lib.hid (HMR2.out.below hb7)
                  have HBL7 := Lib.hid (HBL2.out.trans (hb7.mono (by have := HBL2.out.size; omega)))
                  have BL7 := Lib.hid (BL.out.next hb7)
                  have BW7 := Lib.hid (BW.out.next hb7)
                  clear hb7 v0 v1 v2 v3 v4 v5
                  have k0 : w7.cell? ⟨gl, 0, none⟩ = some (.int .i64 x.bn) := BL7.out.cell 0
                  have k1 : w7.cell? ⟨gl, 1, none⟩ = some (.int .i64 x.bd) := BL7.out.cell 1
                  have k2 : w7.cell? ⟨gl, 2, none⟩ = some (.int .i64 x.sn) := BL7.out.cell 2
                  have k3 : w7.cell? ⟨gl, 3, none⟩ = some (.int .i64 x.sd) := BL7.out.cell 3
                  have v0 : w7.cell? ⟨gl + 1, 0, none⟩ = some (.bool x.fr.op) := BW7.out.cell 0
                  have v1 : w7.cell? ⟨gl + 1, 1, none⟩ = some (.int .i64 x.fr.n) := BW7.out.cell 1
                  have v2 : w7.cell? ⟨gl + 1, 2, none⟩ = some (.int .i64 x.fr.d) := BW7.out.cell 2
                  have v3 : w7.cell? ⟨gl + 1, 3, none⟩ = some (.bool x.to.op) := BW7.out.cell 3
                  have v4 : w7.cell? ⟨gl + 1, 4, none⟩ = some (.int .i64 x.to.n) := BW7.out.cell 4
                  have v5 : w7.cell? ⟨gl + 1, 5, none⟩ = some (.int .i64 x.to.d) := BW7.out.cell 5
                  have hfew : (dn.filter fun x => !pointB x).length ≤ 100000 := by
                    have h1 := HPM.out.length_eq
                    have h2 := List.length_filter_le (fun x => !pointB x) dn
                    have h3 := HPL.out
                    simp only [List.length_append, List.length_cons, List.length_nil] at h1
                    omega
                  go_wp2_with (at_builtin; refine list_appP rfl (.tmp 50) (.tmp 60) rfl (w5.heap.size + 1) u10 _ x rfl (PcOwn.below HPO7.out ((Below.refl _ _).alloc (Nat.le_refl _) _)) _ 1 rfl (pc_new w7 x) hfew (by simp; omega) ?_; intro g cap w9 hown9 hg9 hat9 hlt9)
                  have z9 := hg9.size
                  simp at z9
                  have HOW := Lib.hid (own_ge HPO7.out (Nat.le_refl _))
                  have HMR9 := Lib.hid (show MapR w9 M w5.heap.size P (l1 ++ l2) from by
                    have hl7 := HMR7.out.lt
                    have hM5 := HML.out.lt
                    refine HMR7.out.keep ?_ ?_
                    · exact (hg9.block M (by simp; omega) (fun e => by have := HOW.out M e.symm; omega)).trans (Below.heap_alloc _ _ _ hl7.1)
                    · exact (hg9.block w5.heap.size (by simp; omega) (fun e => by have := HOW.out _ e.symm; omega)).trans (Below.heap_alloc _ _ _ hl7.2.1))
                  have HBL9 := Lib.hid ((HBL7.out.alloc HBL7.out.size (.cells #[.bool x.fr.op, .int .i64 x.fr.n, .int .i64 x.fr.d, .bool x.to.op, .int .i64 x.to.n, .int .i64 x.to.d, .int .i64 x.bn, .int .i64 x.bd, .int .i64 x.sn, .int .i64 x.sd] 73)).grown hg9 (by simp; have := HBL7.out.size; omega) (fun j e => by have := HOW.out j e; omega))
                  refine ⟨⟨dn ++ [x], l1 ++ l2, HPM, HMR9.out, ?_, HBL9.out, by omega⟩, ?_⟩
                  · rw [HFS.out]
                    have := hown9
                    unfold PcOwn at this ⊢
                    simpa using this
                  · have := HMR9.out.left_eq
                    rw [this, hmv, List.length_append]
                    omega
    · have hlz : ¬ ((b.length : Int) = (p.costs.length : Int)) := by omega
      have HE := Lib.hid (show swpE p b = 1 by
        unfold swpE
        rw [if_neg (by rw [HM.out]; decide), if_pos]
        unfold manyB
        simp [hl])
      have HLL := Lib.hid (show swpL p b = [] by unfold swpL; rw [if_neg (by rw [HE.out]; decide)])
      go_wp2_with fail
      refine ⟨.tuple #[.slice none 0 0, .int .i64 (1)], ?_, .slice none 0 0, ?_, ?_, HB1.out⟩
      · simp [results, Try.results18, go_sem]
      · rw [HE.out]
      · rw [HLL.out]; exact .inl ⟨rfl, none, 0, rfl⟩
end Go.Proofs.Ytjcdkbalhleeeab

namespace Go.Proofs.Ytjcdkbalhleeeab
open Go.RowKit

set_option maxRecDepth 100000 in
set_option maxHeartbeats 2000000 in
theorem ref8_Same (b1 b2 : Nat) (v1 v2 : Value) (L : List PC) (w : World) (h1 : PcRd w b1 v1 L) (h2 : PcRd w b2 v2 L) :
    Calls Try.prog 20 #[v1, v2] w fun e w' => e = .returned (.bool true) ∧ Below w.heap.size w w' := by
  by_cases h0 : 0 < L.length
  · have hL : L ≠ [] := fun e => by rw [e] at h0; simp at h0
    obtain ⟨g, cg, rfl, _, lg, a1, a2, hg⟩ : ∃ g cap, v1 = .slice (some ⟨g, 0, none⟩) L.length cap ∧ b1 ≤ g ∧ g < w.heap.size ∧ L.length ≤ cap ∧ cap ≤ 9223372036854775807 ∧ ∀ (i : Nat) (hi : i < L.length), PcAt w g i L[i] := by
      rcases h1 with ⟨e, _⟩ | ⟨_, h⟩
      · exact absurd e hL
      · exact h
    obtain ⟨k, ck, rfl, _, lk, a3, a4, hk⟩ : ∃ g cap, v2 = .slice (some ⟨g, 0, none⟩) L.length cap ∧ b2 ≤ g ∧ g < w.heap.size ∧ L.length ≤ cap ∧ cap ≤ 9223372036854775807 ∧ ∀ (i : Nat) (hi : i < L.length), PcAt w g i L[i] := by
      rcases h2 with ⟨e, _⟩ | ⟨_, h⟩
      · exact absurd e hL
      · exact h
    have HGA := Lib.hid hg
    have HKA := Lib.hid hk
    obtain ⟨n, hn⟩ : ∃ n, L.length = n := ⟨_, rfl⟩
    have HN := Lib.hid hn
    rw [hn] at a1 a3 h0 ⊢
    clear h1 h2 hg hk hn hL
    go_enter Try.func20, Try.ntmps20
    go_wp2_with fail
    go_loopw [5] (fun s5 wx => ∃ i : Nat, i ≤ n ∧ s5 = .int .i64 i ∧ Below w.heap.size w wx) (fun s5 _ => n - (intOf s5).toNat)
    case atStart => exact ⟨0, by omega, rfl, Below.refl _ _⟩
    case round =>
      obtain ⟨i, hi, rfl, hbel⟩ := hrel
      rename World => U
      have HU := Lib.hid hbel
      have zU := hbel.size
      by_cases hlt : i < n
      · have hiL : i < L.length := by rw [HN.out]; exact hlt
        obtain ⟨y, hy⟩ : ∃ y, L[i] = y := ⟨_, rfl⟩
        have hA := (HGA.out i hiL).below hbel
        have hC := (HKA.out i hiL).below hbel
        rw [hy] at hA hC
        have HA := Lib.hid (fun u : Wk U => hA.below u.2)
        have HC := Lib.hid (fun u : Wk U => hC.below u.2)
        have hi0 : (i : Int) < (n : Int) := by omega
        clear hA hC hy hiL hbel
        have d0 : ∀ u : Wk U, u.1.cell? ⟨g, i * 10, none⟩ = some (.bool y.fr.op) := fun u => (HA.out u).c0
        have d1 : ∀ u : Wk U, u.1.cell? ⟨g, i * 10 + 1, none⟩ = some (.int .i64 y.fr.n) := fun u => (HA.out u).c1
        have d2 : ∀ u : Wk U, u.1.cell? ⟨g, i * 10 + 2, none⟩ = some (.int .i64 y.fr.d) := fun u => (HA.out u).c2
        have d3 : ∀ u : Wk U, u.1.cell? ⟨g, i * 10 + 3, none⟩ = some (.bool y.to.op) := fun u => (HA.out u).c3
        have d4 : ∀ u : Wk U, u.1.cell? ⟨g, i * 10 + 4, none⟩ = some (.int .i64 y.to.n) := fun u => (HA.out u).c4
        have d5 : ∀ u : Wk U, u.1.cell? ⟨g, i * 10 + 5, none⟩ = some (.int .i64 y.to.d) := fun u => (HA.out u).c5
        have d6 : ∀ u : Wk U, u.1.cell? ⟨g, i * 10 + 6, none⟩ = some (.int .i64 y.bn) := fun u => (HA.out u).c6
        have d7 : ∀ u : Wk U, u.1.cell? ⟨g, i * 10 + 7, none⟩ = some (.int .i64 y.bd) := fun u => (HA.out u).c7
        have d8 : ∀ u : Wk U, u.1.cell? ⟨g, i * 10 + 8, none⟩ = some (.int .i64 y.sn) := fun u => (HA.out u).c8
        have d9 : ∀ u : Wk U, u.1.cell? ⟨g, i * 10 + 9, none⟩ = some (.int .i64 y.sd) := fun u => (HA.out u).c9
        have f0 : ∀ u : Wk U, u.1.cell? ⟨k, i * 10, none⟩ = some (.bool y.fr.op) := fun u => (HC.out u).c0
        have f1 : ∀ u : Wk U, u.1.cell? ⟨k, i * 10 + 1, none⟩ = some (.int .i64 y.fr.n) := fun u => (HC.out u).c1
        have f2 : ∀ u : Wk U, u.1.cell? ⟨k, i * 10 + 2, none⟩ = some (.int .i64 y.fr.d) := fun u => (HC.out u).c2
        have f3 : ∀ u : Wk U, u.1.cell? ⟨k, i * 10 + 3, none⟩ = some (.bool y.to.op) := fun u => (HC.out u).c3
        have f4 : ∀ u : Wk U, u.1.cell? ⟨k, i * 10 + 4, none⟩ = some (.int .i64 y.to.n) := fun u => (HC.out u).c4
        have f5 : ∀ u : Wk U, u.1.cell? ⟨k, i * 10 + 5, none⟩ = some (.int .i64 y.to.d) := fun u => (HC.out u).c5
        have f6 : ∀ u : Wk U, u.1.cell? ⟨k, i * 10 + 6, none⟩ = some (.int .i64 y.bn) := fun u => (HC.out u).c6
        have f7 : ∀ u : Wk U, u.1.cell? ⟨k, i * 10 + 7, none⟩ = some (.int .i64 y.bd) := fun u => (HC.out u).c7
        have f8 : ∀ u : Wk U, u.1.cell? ⟨k, i * 10 + 8, none⟩ = some (.int .i64 y.sn) := fun u => (HC.out u).c8
        have f9 : ∀ u : Wk U, u.1.cell? ⟨k, i * 10 + 9, none⟩ = some (.int .i64 y.sd) := fun u => (HC.out u).c9
        go_wp2_with fail
        refine wk_region (by kernel_rfl) (by kernel_rfl) ?_
        repeat (go_big_quiet_step (fail))
        refine wpQuiet_nil ?_
        rintro w7 ⟨u7, rfl⟩
        go_wp2_with fail
        go_roundw
        case rel => exact ⟨i + 1, by omega, by go_num, HU.out.trans (u7.2.mono (by omega))⟩
        case measure => simp [intOf]; omega
      · obtain rfl : i = n := by omega
        go_wp2_with fail
        go_ret
        exact ⟨rfl, HU.out⟩
  · have hL : L = [] := List.eq_nil_of_length_eq_zero (by omega)
    subst hL
    have e1 : ∃ A c, v1 = .slice A 0 c := by
      rcases h1 with ⟨_, h⟩ | ⟨h, _⟩
      · exact h
      · simp at h
    have e2 : ∃ A c, v2 = .slice A 0 c := by
      rcases h2 with ⟨_, h⟩ | ⟨h, _⟩
      · exact h
      · simp at h
    obtain ⟨A, c, rfl⟩ := e1
    obtain ⟨A', c', rfl⟩ := e2
    clear h1 h2
    go_enter Try.func20, Try.ntmps20
    go_wp2_with fail
    go_loopw [5] (fun s5 wx => s5 = .int .i64 0 ∧ Below w.heap.size w wx) (fun s5 _ => 0)
    case atStart => exact ⟨rfl, Below.refl _ _⟩
    case round =>
      obtain ⟨rfl, hbel⟩ := hrel
      have HU := Lib.hid hbel
      clear hbel
      go_wp2_with fail
      go_ret
      exact ⟨rfl, HU.out⟩
end Go.Proofs.Ytjcdkbalhleeeab

namespace Go.Proofs.Ytjcdkbalhleeeab
open Go.RowKit

/-- The next columns, made up to the place i. -/
def nxT (l : List Nat) (n i : Nat) : List Nat := (List.range l.length).map fun j => if n ≤ j ∧ j < i then l.getD n 0 + 1 + (j - n) else l.getD j 0
theorem nxT_len (l : List Nat) (n i : Nat) : (nxT l n i).length = l.length := by simp [nxT]
theorem nxT_at {l : List Nat} {n i j : Nat} (hj : j < l.length) : (nxT l n i).getD j 0 = if n ≤ j ∧ j < i then l.getD n 0 + 1 + (j - n) else l.getD j 0 := by
  unfold nxT; simp [List.getD, hj]
theorem ext_getD {a b : List Nat} (h : a.length = b.length) (he : ∀ j, j < a.length → a.getD j 0 = b.getD j 0) : a = b := by
  apply List.ext_getElem h
  intro j h1 h2
  have := he j h1
  simpa [List.getD, List.getElem?_eq_getElem h1, List.getElem?_eq_getElem h2] using this
theorem getD_setN (a : List Nat) (i j x : Nat) : (a.set i x).getD j 0 = if i = j ∧ j < a.length then x else a.getD j 0 := by
  simp only [List.getD, List.getElem?_set]
  by_cases h : i = j
  · subst h
    by_cases h2 : i < a.length
    · simp [h2]
    · simp [h2]
  · simp [h]
theorem nxT_one {l : List Nat} {n : Nat} (hn : n < l.length) : nxT l n (n + 1) = l.set n (l.getD n 0 + 1) := by
  refine ext_getD (by simp [nxT]) fun j hj => ?_
  rw [nxT_len] at hj
  rw [nxT_at hj, getD_setN]
  by_cases h : n = j
  · subst h; rw [if_pos ⟨Nat.le_refl _, by omega⟩, if_pos ⟨rfl, hn⟩]; omega
  · rw [if_neg (by omega), if_neg (by omega)]
theorem nxT_succ {l : List Nat} {n i : Nat} (hi : i < l.length) (hn : n < i) : nxT l n (i + 1) = (nxT l n i).set i ((nxT l n i).getD (i - 1) 0 + 1) := by
  refine ext_getD (by simp [nxT]) fun j hj => ?_
  rw [nxT_len] at hj
  rw [nxT_at hj, getD_setN, nxT_len]
  by_cases h : i = j
  · subst h
    rw [if_pos ⟨by omega, by omega⟩, if_pos ⟨rfl, hi⟩, nxT_at (by omega), if_pos ⟨by omega, by omega⟩]; omega
  · rw [if_neg (show ¬ (i = j ∧ j < l.length) by omega), nxT_at hj]
    by_cases h2 : n ≤ j ∧ j < i
    · rw [if_pos (by omega), if_pos h2]
    · rw [if_neg (by omega), if_neg h2]
theorem nxT_end {l : List Nat} {n : Nat} (hn : n < l.length) : nxT l n l.length = l.take n ++ (List.range (l.length - n)).map fun i => l.getD n 0 + 1 + i := by
  refine ext_getD (by simp [nxT]; omega) fun j hj => ?_
  rw [nxT_len] at hj
  rw [nxT_at hj]
  by_cases h : n ≤ j
  · rw [if_pos ⟨h, hj⟩]
    have e : (l.take n ++ (List.range (l.length - n)).map fun i => l.getD n 0 + 1 + i)[j]? = some (l.getD n 0 + 1 + (j - n)) := by
      rw [List.getElem?_append_right (by rw [List.length_take]; omega), show j - (l.take n).length = j - n by rw [List.length_take]; omega, List.getElem?_map, List.getElem?_range (by omega)]
      rfl
    generalize l.getD n 0 + 1 + (j - n) = v at *
    rw [List.getD, e]; rfl
  · rw [if_neg (by omega)]
    have e : (l.take n ++ (List.range (l.length - n)).map fun i => l.getD n 0 + 1 + i)[j]? = l[j]? := by
      rw [List.getElem?_append_left (by rw [List.length_take]; omega), List.getElem?_take, if_pos (by omega)]
    rw [List.getD, List.getD, e]
theorem ints_set (l : List Nat) (i x : Nat) : ints (l.set i x) = (ints l).set i (x : Int) := by unfold ints; rw [List.map_set]; rfl
theorem ints_at {l : List Nat} {i : Nat} (h : i < l.length) : ((ints l).map (Value.int .i64))[i]? = some (.int .i64 (l.getD i 0 : Nat)) := by
  simp [ints, List.getD, List.getElem?_eq_getElem h]
/-- What next hands back. -/
def RetNn (w : World) (N : Nat) (l : List Nat) (e : Ending) (w' : World) : Prop :=
  Below w.heap.size w w' ∧ (nxA N l l.length = none → e = .returned (.slice none 0 0)) ∧ ∀ l', nxA N l l.length = some l' → ∃ g cap, e = .returned (.slice (some ⟨g, 0, none⟩) l'.length cap) ∧ Rd w' (some ⟨g, 0, none⟩) cap (ints l') ∧ w.heap.size ≤ g ∧ g < w'.heap.size
set_option maxRecDepth 100000 in
set_option maxHeartbeats 2000000 in
theorem ref3_next (L : Option Addr) (l : List Nat) (cl N : Nat) (w : World) (hr : Rd w L cl (ints l)) (h1 : 0 < l.length) (h4 : l.length ≤ 4) (hb : ∀ j, l.getD j 0 < 1000) (hN : N ≤ 1000) :
    Calls Try.prog 104 #[.slice L l.length cl, .int .i64 N] w (RetNn w N l) := by
  have HR := Lib.hid hr
  have hil : (ints l).length = l.length := intsN_len _
  obtain ⟨al, rfl, _⟩ := hr.at_ (k := 0) (by rw [hil]; exact h1)
  clear hr
  go_enter Try.func104, Try.ntmps104
  go_wp2_with (at_builtin; refine list_appM rfl (.tmp 8) (.tmp 9) _ _ _ 8 und_intS1 inf_intS1 rfl rfl w.heap.size (.slice (some ⟨w.heap.size, 0, none⟩) 0 0) 0 [] rfl (own_empty _ _ _ _ rfl (Nat.le_refl _)) (fun e => by cases e) (some al) l.length _ ((ints l).map (Value.int .i64)) rfl (by rw [List.length_map, hil]) (fun e => by cases e) (HR.out.alloc _).cells (one_ints _) (by unfold maxLen; omega) (by omega) (by simp) ?_; intro g cap w1 hown1 hg1 hat1 hlt1; simp only [Nat.zero_add, List.nil_append] at hown1; have HB1 := Lib.hid (((Below.refl w.heap.size w).alloc (Nat.le_refl _) _).grown hg1 (by simp) (fun j e => by cases e; exact Nat.le_refl _)); have HO := Lib.hid hown1; clear hown1 hg1 hat1)
  have hgw := HO.out.lt g rfl
  obtain ⟨hc1, hc2⟩ := own_caps HO.out
  go_loopw [6] (fun s6 wx => ∃ n : Nat, n ≤ l.length ∧ s6 = .int .i64 ((n : Int) - 1) ∧ Hid (nxA N l l.length = nxA N l n) ∧ wx = w1) (fun s6 _ => (intOf s6 + 1).toNat)
  case atStart => exact ⟨l.length, Nat.le_refl _, rfl, Lib.hid rfl, rfl⟩
  case round =>
    obtain ⟨n, hn, rfl, hnx, rfl⟩ := hrel
    rename World => w1
    rcases n with _ | n
    · have HNX := Lib.hid (show nxA N l l.length = none by rw [hnx.out]; rfl)
      clear hnx
      rw [show ((0 : Nat) : Int) - 1 = -1 by rfl]
      go_wp2_with fail
      go_ret
      exact ⟨HB1.out, fun _ => rfl, fun l' q => by rw [HNX.out] at q; cases q⟩
    · rw [show ((n + 1 : Nat) : Int) - 1 = (n : Int) by omega]
      have hnl : n < l.length := by omega
      have hi0 : (n : Int) < (l.length : Int) := by omega
      have c0 := own_cell' HO.out n _ (ints_at hnl)
      have f0 := own_free' HO.out n
      have hbn := hb n
      have HONE := Lib.hid (nxT_one hnl)
      have hnx' : nxA N l (n + 1) = if l.getD n 0 + (l.length - n) < N then some (l.take n ++ (List.range (l.length - n)).map fun i => l.getD n 0 + 1 + i) else nxA N l n := rfl
      obtain ⟨jn, hjn⟩ : ∃ jn, l.getD n 0 = jn := ⟨_, rfl⟩
      by_cases hlt : l.getD n 0 + (l.length - n) < N
      · rw [if_pos hlt, ← nxT_end hnl] at hnx'
        have HNX := Lib.hid (hnx.out.trans hnx')
        rw [hjn] at c0 hbn HONE hlt
        have hcmp : (jn : Int) < (N : Int) - ((l.length : Int) - (n : Int)) := by omega
        clear hnx hnx' hjn
        go_wp2_with fail
        go_loopw [7] (fun s7 wx => ∃ i : Nat, n < i ∧ i ≤ l.length ∧ s7 = .int .i64 i ∧ wx.ownsRow w.heap.size 3 1 (.slice (some ⟨g, 0, none⟩) l.length cap) l.length ((ints (nxT l n i)).map (Value.int .i64)) ∧ Below w.heap.size w wx) (fun s7 _ => l.length - (intOf s7).toNat)
        case atStart => exact ⟨n + 1, by omega, by omega, by go_num, by rw [HONE.out, ints_set, ← map_set_int]; exact own_put HO.out n _, HB1.out.setCell hgw.1 _⟩
        case round =>
          obtain ⟨i, hni, hil', rfl, hown, hbel⟩ := hrel
          rename World => U
          have HU := Lib.hid hown
          have HBU := Lib.hid hbel
          clear hown hbel c0 f0
          by_cases hil2 : i < l.length
          · obtain ⟨q, rfl⟩ : ∃ q, i = q + 1 := ⟨i - 1, by omega⟩
            have hi1 : ((q + 1 : Nat) : Int) < (l.length : Int) := by omega
            have hi2 : (q : Int) + 1 < (l.length : Int) := by omega
            have hi3 : (q : Int) < (l.length : Int) := by omega
            have hq1 : ((q + 1 : Nat) : Int) - 1 = (q : Int) := by omega
            have hq2 : (q : Int) + 1 - 1 = (q : Int) := by omega
            have c1 := own_cell' HU.out q _ (ints_at (by rw [nxT_len]; omega))
            have c2 := own_cell' HU.out (q + 1) _ (ints_at (by rw [nxT_len]; omega))
            have f2 := own_free' HU.out (q + 1)
            have HS := Lib.hid (nxT_succ hil2 hni)
            have hsm : (nxT l n (q + 1)).getD q 0 < 1100 := by
              rw [nxT_at (by omega)]
              have h1 := hb n
              have h2 := hb q
              split <;> omega
            rw [Nat.add_sub_cancel] at HS
            obtain ⟨v1, hv1⟩ : ∃ v, (nxT l n (q + 1)).getD q 0 = v := ⟨_, rfl⟩
            obtain ⟨v2, hv2⟩ : ∃ v, (nxT l n (q + 1)).getD (q + 1) 0 = v := ⟨_, rfl⟩
            rw [hv1] at c1 HS hsm
            rw [hv2] at c2
            clear hv1 hv2
            go_wp2_with fail
            go_roundw
            case rel => exact ⟨q + 2, by omega, by omega, by go_num, by rw [HS.out, ints_set, ← map_set_int]; exact own_put HU.out (q + 1) _, HBU.out.setCell hgw.1 _⟩
            case measure => simp [intOf]; omega
          · obtain rfl : i = l.length := by omega
            have hnl2 : (nxT l n l.length).length = l.length := nxT_len _ _ _
            have hnil : (ints (nxT l n l.length)).length = l.length := by rw [intsN_len, hnl2]
            have HRD := Lib.hid (show Rd U (some ⟨g, 0, none⟩) cap (ints (nxT l n l.length)) from Rd.of_own (base := w.heap.size) (e := 3) (by rw [hnil]; exact HU.out) (by rw [hnil]; omega))
            have hlg := HU.out.lt g rfl
            go_wp2_with fail
            go_ret
            refine ⟨HBU.out, fun q => (by rw [HNX.out] at q; cases q), fun l' q => ?_⟩
            rw [HNX.out] at q
            injection q with q
            subst q
            exact ⟨g, cap, by rw [hnl2]; rfl, HRD.out, hlg.1, hlg.2⟩
      · rw [if_neg hlt] at hnx'
        have HNX := Lib.hid (hnx.out.trans hnx')
        rw [hjn] at c0 hbn HONE hlt
        have hcmp : ¬ (jn : Int) < (N : Int) - ((l.length : Int) - (n : Int)) := by omega
        clear hnx hnx' hjn
        go_wp2_with fail
        go_roundw
        case rel => exact ⟨n, by omega, by go_num, HNX, trivial⟩
        case measure => simp [intOf]
end Go.Proofs.Ytjcdkbalhleeeab

namespace Go.Proofs.Ytjcdkbalhleeeab
open Go.RowKit

theorem und_intss : Try.prog.underlying 27 = some (.slice 26) := by kernel_rfl
theorem inf_intS : (Try.prog.info? 26).map (fun i => (i.zero, i.size, i.bytes)) = some (some (.slice none 0 0), 1, 24) := by kernel_rfl

/-- A slice of slices reads as a list of lists. -/
structure Ls (w : World) (A : Option Addr) (c : Nat) (ls : List (List Int)) : Prop where
  le : ls.length ≤ c
  cap : c ≤ 9223372036854775807
  small : ls.length ≤ 100000
  cells : 0 < ls.length → ∃ ad, A = some ad ∧ ∀ j, j < ls.length → ∃ A' c', w.cell? (ad.add j) = some (.slice A' (ls.getD j []).length c') ∧ Rd w A' c' (ls.getD j [])
section
variable {w w' : World} {A : Option Addr} {c : Nat} {ls : List (List Int)}
theorem Ls.below (h : Ls w A c ls) (hb : Below w.heap.size w w') : Ls w' A c ls :=
  ⟨h.le, h.cap, h.small, fun h0 => by
    obtain ⟨ad, e, hc⟩ := h.cells h0
    exact ⟨ad, e, fun j hj => by
      obtain ⟨A', c', h1, h2⟩ := hc j hj
      exact ⟨A', c', (hb.cell (World.block_lt_of_cell? _ _ h1)).trans h1, h2.below hb⟩⟩⟩
theorem Ls.nil (w : World) : Ls w none 0 [] := ⟨by simp, by omega, by simp, fun h => by simp at h⟩
/-- One element of it. -/
theorem Ls.at_ (h : Ls w A c ls) {k : Nat} (hk : k < ls.length) : ∃ ad A' c', A = some ad ∧ w.cell? (ad.add k) = some (.slice A' (ls.getD k []).length c') ∧ Rd w A' c' (ls.getD k []) := by
  obtain ⟨ad, e, hc⟩ := h.cells (by omega)
  obtain ⟨A', c', h1, h2⟩ := hc k hk
  exact ⟨ad, A', c', e, h1, h2⟩
end

/-- A slice of slices that the call makes, of the first k. -/
structure LsB (w : World) (base : Nat) (v : Value) (k : Nat) (As : Nat → Option Addr) (cs : Nat → Nat) (f : Nat → List Int) : Prop where
  own : w.ownsRow base 26 1 v k ((List.range k).map fun i => Value.slice (As i) (f i).length (cs i))
  rd : ∀ i, i < k → Rd w (As i) (cs i) (f i)
  ne : ∀ i, i < k → ∀ ad, As i = some ad → v.ownBlock ≠ some ad.block
section
variable {w w' : World} {base k : Nat} {v : Value} {As : Nat → Option Addr} {cs : Nat → Nat} {f : Nat → List Int}
theorem LsB.nil (w : World) (base : Nat) (As : Nat → Option Addr) (cs : Nat → Nat) (f : Nat → List Int) : LsB w base (.slice none 0 0) 0 As cs f :=
  ⟨World.ownsRow_nil _ _ _ _, fun i hi => by omega, fun i hi => by omega⟩
theorem LsB.below (h : LsB w base v k As cs f) (hb : Below w.heap.size w w') : LsB w' base v k As cs f :=
  ⟨own_below h.own hb, fun i hi => (h.rd i hi).below hb, h.ne⟩
theorem Rd.grown' {A : Option Addr} {c : Nat} {l : List Int} {row : Option Nat} (h : Rd w A c l) (hg : w.grownBy w' row) (hr : ∀ ad, A = some ad → row ≠ some ad.block) : Rd w' A c l :=
  h.same fun ad e hlt => hg.block _ hlt fun q => hr ad e q.symm
/-- One more. -/
theorem LsB.push (h : LsB w base v k As cs f) {A : Option Addr} {c o cap : Nat} (hr : Rd w A c (f k)) (hn : ∀ ad, A = some ad → v.ownBlock ≠ some ad.block) (hlt : ∀ ad, A = some ad → ad.block < w.heap.size)
    (hlts : ∀ i, i < k → ∀ ad, As i = some ad → ad.block < w.heap.size)
    (hown : w'.ownsRow base 26 1 (.slice (some ⟨o, 0, none⟩) (k + 1) cap) (k + 1) (((List.range k).map fun i => Value.slice (As i) (f i).length (cs i)) ++ [.slice A (f k).length c]))
    (hg : w.grownBy w' v.ownBlock) (hat : v.ownBlock = some o ∨ o = w.heap.size) :
    LsB w' base (.slice (some ⟨o, 0, none⟩) (k + 1) cap) (k + 1) (fun i => if i = k then A else As i) (fun i => if i = k then c else cs i) f := by
  refine ⟨?_, fun i hi => ?_, fun i hi ad e => ?_⟩
  · have e1 : ((List.range (k + 1)).map fun i => Value.slice (if i = k then A else As i) (f i).length (if i = k then c else cs i)) = ((List.range k).map fun i => Value.slice (As i) (f i).length (cs i)) ++ [.slice A (f k).length c] := by
      rw [List.range_succ, List.map_append]
      congr 1
      · apply List.map_congr_left
        intro i hi
        have : i < k := by simpa using hi
        rw [if_neg (by omega), if_neg (by omega)]
      · simp
    show w'.ownsRow base 26 1 _ _ ((List.range (k + 1)).map fun i => Value.slice (if i = k then A else As i) (f i).length (if i = k then c else cs i))
    rw [e1]; exact hown
  · by_cases e : i = k
    · subst e; simp only [if_true]; exact hr.grown' hg hn
    · simp only [e, if_false]; exact (h.rd i (by omega)).grown' hg (h.ne i (by omega))
  · have key : ∀ ad : Addr, ad.block < w.heap.size → v.ownBlock ≠ some ad.block → (Value.slice (some ⟨o, 0, none⟩) (k + 1) cap).ownBlock ≠ some ad.block := by
      intro ad h1 h2 q
      have q' : o = ad.block := Option.some.inj q
      rcases hat with w | w
      · exact h2 (w.trans q)
      · omega
    by_cases e' : i = k
    · subst e'; simp only [if_true] at e; exact key ad (hlt ad e) (hn ad e)
    · simp only [e', if_false] at e; exact key ad (hlts i (by omega) ad e) (h.ne i (by omega) ad e)
theorem LsB.read {g cap : Nat} (h : LsB w base (.slice (some ⟨g, 0, none⟩) k cap) k As cs f) (hk : k ≤ 100000) : Ls w (some ⟨g, 0, none⟩) cap ((List.range k).map f) := by
  have hc := own_caps h.own
  refine ⟨by simpa using hc.1, hc.2, by simpa using hk, fun _ => ⟨_, rfl, fun j hj => ?_⟩⟩
  have hj' : j < k := by simpa using hj
  have e : ((List.range k).map f).getD j [] = f j := by simp [List.getD, hj']
  rw [e]
  refine ⟨As j, cs j, ?_, h.rd j hj'⟩
  have h1 := own_cell' h.own j (.slice (As j) (f j).length (cs j)) (by simp [hj'])
  have e1 : (⟨g, 0, none⟩ : Addr).add j = ⟨g, j, none⟩ := by unfold Addr.add; split <;> simp_all
  rw [e1]; exact h1
end
section
variable {ops : Array Oper} {rest : List Oper} {o : Oper} {a : Act} {w : World} {Q : Exit → Act → World → Prop}
set_option maxRecDepth 100000 in
/-- One more slice behind. -/
theorem list_appS (hgd : o.guard = none) (s x : Operand) (ho : o.op = .call { callee := .builtin .append, args := #[s, x], argTypes := #[27, 27] })
    (base : Nat) (v : Value) (n : Nat) (xs : List Value) (u : Value) (hs : a.eval s = v) (hown : w.ownsRow base 26 1 v n xs)
    (b c : Nat) (hx : a.eval x = .slice (some ⟨b, 0, none⟩) 1 c) (hb : w.cell? ⟨b, 0, none⟩ = some u) (hu : u.oneCell' = true) (hn : n ≤ 100000) (hbase : base ≤ w.heap.size)
    (h : ∀ g cap w', w'.ownsRow base 26 1 (.slice (some ⟨g, 0, none⟩) (n + 1) cap) (n + 1) (xs ++ [u]) → w.grownBy w' v.ownBlock → (v.ownBlock = some g ∨ g = w.heap.size) → g < w'.heap.size → wpList Try.prog ops Q rest (a.put o.dst (.slice (some ⟨g, 0, none⟩) (n + 1) cap)) w') :
    wpList Try.prog ops Q (o :: rest) a w :=
  list_app1 hgd s x 27 26 (.slice none 0 0) 24 und_intss inf_intS rfl ho base v n xs u hs hown b c hx hb hu (by unfold maxLen; omega) (by omega) hbase h
end
end Go.Proofs.Ytjcdkbalhleeeab

namespace Go.Proofs.Ytjcdkbalhleeeab
open Go.RowKit Go.Sort

/-- A list of columns is handed back, and how it ends. -/
def RetWk (w : World) (p : PG) (l : List Int) (e : Ending) (w' : World) : Prop :=
  Below w.heap.size w w' ∧ (nextE p l ≠ 0 → e = .returned (.tuple #[.slice none 0 0, .int .i64 0, .int .i64 (nextE p l)])) ∧
  (nextE p l = 0 → ∃ k lk A c, EndAt p (nats l) k lk ∧ e = .returned (.tuple #[.slice A (k + 1) c, .int .i64 (kindZ p lk), .int .i64 0]) ∧ Ls w' A c (wkL p (nats l) (k + 1)))
def lenV : Value → Nat
  | .slice _ n _ => n
  | _ => 0
theorem LsB.len {w : World} {base k : Nat} {v : Value} {As : Nat → Option Addr} {cs : Nat → Nat} {f : Nat → List Int} (h : LsB w base v k As cs f) : lenV v = k := by
  rcases h.own.2 with ⟨rfl, rfl⟩ | ⟨g, cap, cur, rfl, _⟩ <;> rfl

theorem RetWk.any {w w' : World} {p : PG} {l : List Int} {e : Ending} (h : RetWk w p l e w') : ∃ A n c kd er, e = .returned (.tuple #[.slice A n c, .int .i64 kd, .int .i64 er]) ∧ Below w.heap.size w w' ∧ er = nextE p l ∧
    (er ≠ 0 → n = 0 ∧ kd = 0) ∧ (er = 0 → ∃ k lk, n = k + 1 ∧ EndAt p (nats l) k lk ∧ kd = kindZ p lk ∧ Ls w' A c (wkL p (nats l) (k + 1))) := by
  obtain ⟨hb, h1, h2⟩ := h
  by_cases he : nextE p l = 0
  · obtain ⟨k, lk, A, c, q1, q2, q3⟩ := h2 he
    exact ⟨A, k + 1, c, _, 0, q2, hb, he.symm, fun q => absurd rfl q, fun _ => ⟨k, lk, rfl, q1, rfl, q3⟩⟩
  · exact ⟨none, 0, 0, 0, nextE p l, h1 he, hb, rfl, fun _ => ⟨rfl, rfl⟩, fun q => absurd q he⟩
end Go.Proofs.Ytjcdkbalhleeeab
