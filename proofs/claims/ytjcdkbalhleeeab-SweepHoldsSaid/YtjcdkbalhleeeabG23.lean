/-
  Contracts of functions and plain laws that later parts of the proof use. The conditions stand in each theorem.
-/
import Derived.Test.YtjcdkbalhleeeabG22
import Derived.Test.YtjcdkbalhleeeabG18
import Derived.Test.YtjcdkbalhleeeabG12
import Derived.Test.YtjcdkbalhleeeabG07
import Derived.Test.YtjcdkbalhleeeabG11
import Derived.Test.YtjcdkbalhleeeabG17
namespace Go.Proofs.Ytjcdkbalhleeeab
open Go.Proofs Go.Shelf Go.RowKit Go.Lib

theorem below_put {n D : Nat} {w X : World} (h : Below n w X) (hD : n ≤ D) (hn : n ≤ w.heap.size) (o : Obj) : Below n w (X.putObj D o) :=
  ((KS.of_below (S := fun i => i < n) (W := X) (Below.refl _ X)).putObj o (by omega)).below (fun i hi => hi) (Nat.le_trans hn h.size) |> fun k => h.trans k
theorem pc_new (W : World) (y : PC) : ∀ (j : Nat) (u : Value), (pcC y)[j]? = some u → (W.alloc (.cells #[.bool y.fr.op, .int .i64 y.fr.n, .int .i64 y.fr.d, .bool y.to.op, .int .i64 y.to.n, .int .i64 y.to.d, .int .i64 y.bn, .int .i64 y.bd, .int .i64 y.sn, .int .i64 y.sd] 73)).cell? ((⟨W.heap.size, 0, none⟩ : Addr).add j) = some u := fun j u h => by
  have e1 : ∀ q, (⟨W.heap.size, 0, none⟩ : Addr).add q = ⟨W.heap.size, q, none⟩ := fun q => by unfold Addr.add; split <;> simp_all
  rw [e1, (Blk.mk' W 73 _).cell j, ← h]
  simp [pcC]
attribute [local go_sem] Oper.semAt_some
set_option maxRecDepth 100000 in
set_option maxHeartbeats 4000000 in
theorem sweep_Sweep (A : Option Addr) (c : Nat) (A2 : Option Addr) (c2 : Nat) (p : PG) (B : Option Addr) (b : List Int) (cb : Nat) (w : World) (hp : Pg w A c A2 c2 p) (hb : Rd w B cb b) :
    Calls Try.prog 18 #[.agg #[.slice A p.costs.length c, .slice A2 p.rows.length c2], .slice B b.length cb] w (RetSw w (swpL p b) (swpE p b)) := by
  have HP := Lib.hid hp
  have HBY := Lib.hid hb
  clear hp hb
  refine calls_of_marks Try.func18 rfl ?_
  simp only [Try.ntmps18, List.size_toArray, List.length_cons, List.length_nil, Nat.reduceAdd, Nat.reduceSub, Array.replicate_succ, Array.replicate_zero, List.push_toArray, List.append_toArray, List.nil_append, List.cons_append]
  go_wp2_with fail
  have BP := Lib.hid (Blk.mk' w 25 #[.slice A p.costs.length c, .slice A2 p.rows.length c2])
  have HB := Lib.hid ((Below.refl w.heap.size w).alloc (Nat.le_refl _) (.cells #[.slice A p.costs.length c, .slice A2 p.rows.length c2] 25))
  generalize (w.alloc (.cells #[.slice A p.costs.length c, .slice A2 p.rows.length c2] 25)) = V at *
  have zV := HB.out.size
  have lBP := BP.out.lt
  refine (layout_May A c A2 c2 p V (HP.out.below HB.out)).mono ?_
  rintro e w1 ⟨rfl, hb1⟩
  have HB1 := Lib.hid (HB.out.trans (hb1.mono zV))
  have BP1 := Lib.hid (BP.out.next hb1)
  have z1 := HB1.out.size
  have lB1 := BP1.out.lt
  clear hb1
  cases hm : mayPB p with
  | false =>
    have HE := Lib.hid (show swpE p b = 2 by unfold swpE; rw [if_pos hm])
    have HLL := Lib.hid (show swpL p b = [] by unfold swpL; rw [if_neg (by rw [HE.out]; decide)])
    clear hm
    go_wp2_with fail
    refine ⟨.tuple #[.slice none 0 0, .int .i64 (2)], ?_, .slice none 0 0, ?_, ?_, HB1.out⟩
    · simp [results, Try.results18, go_sem]
    · rw [HE.out]
    · rw [HLL.out]; exact .inl ⟨rfl, none, 0, rfl⟩
  | true =>
    have HM := Lib.hid hm
    have p0 : w1.cell? ⟨w.heap.size, 0, none⟩ = some (.slice A p.costs.length c) := BP1.out.cell 0
    have p1 : w1.cell? ⟨w.heap.size, 1, none⟩ = some (.slice A2 p.rows.length c2) := BP1.out.cell 1
    clear hm
    by_cases hl : b.length = p.costs.length
    · have HLN := Lib.hid hl
      have hlz : ((b.length : Int) != (p.costs.length : Int)) = false := by simp [hl]
      have HCN := Lib.hid (con_small B b cb w1 (HBY.out.below HB1.out))
      cases hsm : smallB 400 b with
      | false =>
        rw [hsm] at HCN
        have HE := Lib.hid (show swpE p b = 1 by
          unfold swpE
          rw [if_neg (by rw [HM.out]; decide), if_pos]
          unfold manyB
          simp [hsm])
        have HLL := Lib.hid (show swpL p b = [] by unfold swpL; rw [if_neg (by rw [HE.out]; decide)])
        clear hsm hl
        go_wp2_with fail
        refine HCN.out.mono ?_
        rintro e w2 ⟨rfl, hb2⟩
        have HB2 := Lib.hid (HB1.out.trans (hb2.mono z1))
        go_wp2_with fail
        refine ⟨.tuple #[.slice none 0 0, .int .i64 (1)], ?_, .slice none 0 0, ?_, ?_, HB2.out⟩
        · simp [results, Try.results18, go_sem]
        · rw [HE.out]
        · rw [HLL.out]; exact .inl ⟨rfl, none, 0, rfl⟩
      | true =>
        rw [hsm] at HCN
        have HG := Lib.hid (show By p b from ⟨HLN.out, hsm⟩)
        have HMN := Lib.hid (show manyB b p.costs.length 400 = true by unfold manyB; simp [hsm, hl])
        clear hsm hl
        go_wp2_with fail
        refine HCN.out.mono ?_
        rintro e w2 ⟨rfl, hb2⟩
        have HB2 := Lib.hid (HB1.out.trans (hb2.mono z1))
        have BP2 := Lib.hid (BP1.out.next hb2)
        have z2 := hb2.size
        clear hb2 p0 p1 hlz HCN
        have p0 : w2.cell? ⟨w.heap.size, 0, none⟩ = some (.slice A p.costs.length c) := BP2.out.cell 0
        have p1 : w2.cell? ⟨w.heap.size, 1, none⟩ = some (.slice A2 p.rows.length c2) := BP2.out.cell 1
        go_upto_region 6 with fail
        have HBb := Lib.hid (Blk.mk' w2 4 #[.bool false])
        have HV2 := Lib.hid ((Below.refl w2.heap.size w2).alloc (Nat.le_refl _) (.cells #[.bool false] 4))
        clear p0 p1
        generalize (w2.alloc (.cells #[.bool false] 4)) = V2 at *
        have zV2 := HV2.out.size
        have lBb := HBb.out.lt
        have HBV := Lib.hid (HB2.out.trans (HV2.out.mono (by omega)))
        have BPV := Lib.hid (BP2.out.next HV2.out)
        have p0 : V2.cell? ⟨w.heap.size, 0, none⟩ = some (.slice A p.costs.length c) := BPV.out.cell 0
        have p1 : V2.cell? ⟨w.heap.size, 1, none⟩ = some (.slice A2 p.rows.length c2) := BPV.out.cell 1
        go_wp2_with fail
        refine (solve_Corners A c A2 c2 p V2).mono ?_
        rintro e w3 ⟨b1, b2, b3, rfl, l1, l2, l3, k1, k2, k3, k4, hb3⟩
        go_wp2_with fail
        clear p0 p1
        have BP3 := Lib.hid (BPV.out.next hb3)
        have BB3 := Lib.hid (HBb.out.next hb3)
        have HB3 := Lib.hid (HBV.out.trans (hb3.mono (by omega)))
        have z3 := hb3.size
        generalize hgb : w2.heap.size = gb at *
        have q1 := World.block_lt_of_cell? _ _ k1
        have q2 := World.block_lt_of_cell? _ _ k2
        have q3 := World.block_lt_of_cell? _ _ k3
        simp only at q1 q2 q3
        have wgb : w.heap.size ≤ gb := by omega
        obtain ⟨S, hS⟩ : ∃ S : Nat → Prop, S = fun i => i < gb ∨ i = b1 ∨ i = b2 ∨ i = b3 := ⟨_, rfl⟩
        have hbox : BoxC S w3 b1 b2 b3 A c A2 c2 p := by
          subst hS
          exact ⟨.inr (.inl rfl), .inr (.inr (.inl rfl)), .inr (.inr (.inr rfl)), k1, k2, k3, k4, fun W h => HP.out.below (HB3.out.trans (h.below (fun i hi => .inl (Nat.lt_of_lt_of_le hi wgb)) HB3.out.size))⟩
        have hSn : ∀ i, S i → i < w3.heap.size := by
          subst hS
          rintro i (h | rfl | rfl | rfl)
          all_goals omega
        have hSr : ¬ S gb := by
          subst hS
          rintro (h | h | h | h)
          · exact Nat.lt_irrefl _ h
          all_goals omega
        have HSB := Lib.hid (show ∀ W, KS S w3 W → Below w.heap.size w W from fun W h => by
          subst hS
          exact HB3.out.trans (h.below (fun i hi => .inl (Nat.lt_of_lt_of_le hi wgb)) HB3.out.size))
        have HSP := Lib.hid (show ∀ W, KS S w3 W → Blk W w.heap.size 25 #[.slice A p.costs.length c, .slice A2 p.rows.length c2] from fun W h => by
          subst hS
          exact (h.block _ BP3.out.lt (.inl (Nat.lt_of_lt_of_le lB1 z2))).trans BP3.out)
        have HIT := Lib.hid (corners_iter S w3 b1 b2 b3 A c A2 c2 p hbox HM.out)
        have lgb := BB3.out.lt
        have lw3 : w.heap.size < w3.heap.size := by omega
        clear hb3 k1 k2 k3 k4 hbox hS hgb
        refine wp_iter (gf := 98) (lb := #[.pointer (some ⟨b1, 0, none⟩), .pointer (some ⟨b2, 0, none⟩), .pointer (some ⟨b3, 0, none⟩)]) rfl (enters_of Try.func98 (by kernel_rfl) rfl) HIT.out (KS.refl _ _) hSn
          (fun k args W h => by obtain ⟨_, _, _, _, _, _, _, _, rfl, _⟩ := h; rfl)
          (fun k W => Blk W gb 4 #[.bool (goesK p k)])
          (fun cd k W => False)
          (fun k X Y h kw => h.kw kw)
          (fun cd k X Y h kw => h)
          BB3.out ?round ?done ?stop
        case stop => rintro D cd k W hD hk h; exact h.elim
        case round =>
          rintro l k args W hl hk hbk hks ⟨L, cl, X, cx, Y, cy, G, cg, rfl, hL, hC, hLB⟩ hlt
          have HBK := Lib.hid hbk
          have HKS := Lib.hid hks
          have HC := Lib.hid hC
          have HGK := Lib.hid (goesK_succ hk)
          obtain ⟨lb, hlb⟩ : ∃ lb, (cornersZ p).getD k [] = lb := ⟨_, rfl⟩
          rw [hlb] at HC HGK ⊢
          clear hbk hks hL hC hlb hLB
          gi_wp2
          refine ⟨(KeepsOthers.alloc _ _).from _, (KS.refl _ _).alloc _, fun Wb hkw hks2 => ?_⟩
          have BC := Lib.hid (show Blk Wb W.heap.size 42 #[.slice X (lookN p lb).xs.length cx, .int .i64 (lookN p lb).xd, .slice Y (lookN p lb).ys.length cy, .int .i64 (lookN p lb).yd, .slice G (lookN p lb).gs.length cg, .int .i64 (lookN p lb).gd] from (Blk.mk' _ _ _).kw hkw)
          have kwa : KW w3.heap.size W (W.alloc (.cells #[.slice X (lookN p lb).xs.length cx, .int .i64 (lookN p lb).xd, .slice Y (lookN p lb).ys.length cy, .int .i64 (lookN p lb).yd, .slice G (lookN p lb).gs.length cg, .int .i64 (lookN p lb).gd] 42)) := .of_below ((Below.refl _ W).alloc (Nat.le_refl _) _)
          have HX2 := Lib.hid (show Rd Wb X cx (lookN p lb).xs from HC.out.x.kw (kwa.trans hkw))
          have HBK2 := Lib.hid (HBK.out.kw (kwa.trans hkw))
          clear kwa hkw hks2 HC HBK HKS
          generalize W.heap.size = bc at *
          clear W
          have e0 := BC.out.cell 0
          have e1 := BC.out.cell 1
          have e2 := BC.out.cell 2
          have e3 := BC.out.cell 3
          have e4 := BC.out.cell 4
          have e5 := BC.out.cell 5
          simp at e0 e1 e2 e3 e4 e5
          have f0 : Wb.cell? ⟨gb, 0, none⟩ = some (.bool (goesK p k)) := HBK2.out.cell 0
          have f1 := HBK2.out.frozen 0
          have HGO := Lib.hid (solve_Goes X Y G cx (lookN p lb).ys.length cy (lookN p lb).gs.length cg (lookN p lb).xs (lookN p lb).xd (lookN p lb).yd (lookN p lb).gd Wb HX2.out)
          cases hg : goesK p k with
          | true =>
            rw [hg] at f0 HGK HBK2
            clear hg
            gi_wp2_with fail
            refine ⟨trivial, ?_⟩
            gi_wp2_with fail
            refine ⟨(KeepsOthers.setCell _ _ _).from _, (KS.refl _ _).setCell _ _ hSr, ?_⟩
            show Blk _ gb 4 #[.bool (goesK p (k + 1))]
            rw [HGK.out]
            exact HBK2.out.set0 0 (.bool true)
          | false =>
            rw [hg] at f0 HGK HBK2
            clear hg
            gi_wp2_with fail
            refine ⟨trivial, rfl, ?_⟩
            refine (CallsIn.inRound l (callsIn_wide.2 HGO.out)).mono ?_
            rintro e w4 ⟨rfl, hb4⟩
            have g0 : w4.cell? ⟨gb, 0, none⟩ = some (.bool false) := (HBK2.out.next hb4).cell 0
            have g1 := (HBK2.out.next hb4).frozen 0
            gi_wp2_with fail
            refine ⟨(KeepsFrom.of_below hb4 _).trans ((KeepsOthers.setCell _ _ _).from _), (KS.of_below hb4).setCell _ _ hSr, ?_⟩
            show Blk _ gb 4 #[.bool (goesK p (k + 1))]
            rw [HGK.out]
            exact (HBK2.out.next hb4).set0 0 _
        case done =>
          rintro D W hD hbk hks hK
          rw [goesK_all] at hbk
          have HBW := Lib.hid (HSB.out W hks)
          have BPW := Lib.hid (HSP.out W hks)
          have HK := Lib.hid hK
          have lD : D < W.heap.size := (Array.getElem?_eq_some_iff.1 hK).1
          have HDW := Lib.hid (show w.heap.size ≤ D by omega)
          clear hks hK HIT HSB HSP
          have p0 : W.cell? ⟨w.heap.size, 0, none⟩ = some (.slice A p.costs.length c) := BPW.out.cell 0
          have p1 : W.cell? ⟨w.heap.size, 1, none⟩ = some (.slice A2 p.rows.length c2) := BPW.out.cell 1
          obtain ⟨q, hany⟩ : ∃ q, ((cornersZ p).any fun l => nonneg (lookN p l).xs) = q := ⟨_, rfl⟩
          rw [hany] at hbk
          have c0 : W.cell? ⟨gb, 0, none⟩ = some (.bool q) := hbk.cell 0
          cases q with
          | false =>
            have HE := Lib.hid (show swpE p b = 4 by
              unfold swpE
              rw [if_neg (by rw [HM.out]; decide), if_neg (by rw [HMN.out]; decide), if_pos hany])
            have HLL := Lib.hid (show swpL p b = [] by unfold swpL; rw [if_neg (by rw [HE.out]; decide)])
            clear hany hbk
            go_wp2_with fail
            refine ⟨by simp, .inl ⟨_, _, rfl, run_takeDeferred HK.out, .tuple #[.slice none 0 0, .int .i64 (4)], ?_, .slice none 0 0, ?_, ?_, ?_⟩⟩
            · simp [results, Try.results18, go_sem]
            · rw [HE.out]
            · rw [HLL.out]; exact ((show PcRd W w.heap.size (.slice none 0 0) [] from .inl ⟨rfl, none, 0, rfl⟩)).kw (KW.putObj (B := 0) (.deferred none) (Nat.zero_le _) HK.out rfl)
            · exact below_put HBW.out HDW.out (Nat.le_refl _) _
          | true =>
            have HE := Lib.hid (show swpE p b = 0 by
              unfold swpE
              rw [if_neg (by rw [HM.out]; decide), if_neg (by rw [HMN.out]; decide), if_neg (by rw [hany]; decide)])
            have HLL := Lib.hid (show swpL p b = ansP (grpF undP ovrP p b (cornersZ p)) by unfold swpL; rw [if_pos HE.out])
            clear hany hbk
            go_wp2_with fail
            refine (sweep_lines A c A2 c2 p B b cb W (HP.out.below HBW.out) (HBY.out.below HBW.out) HM.out HG.out).mono ?_
            rintro e w5 ⟨M, rfl, hM, hml, hb5⟩
            obtain ⟨P, hP⟩ : ∃ P, grpF undP ovrP p b (cornersZ p) = P := ⟨_, rfl⟩
            have HQ := Lib.hid (show Grp p b P from hP ▸ grp_prog HG.out)
            have HPL := Lib.hid (show P.length ≤ 256 from hP ▸ Nat.le_trans (grpF_len _) (corners_few HM.out))
            rw [hP] at hml HLL
            have HML := Lib.hid hml
            have HB5 := Lib.hid (HBW.out.trans (hb5.mono (by omega)))
            have HK5 := Lib.hid (show w5.heap[D]? = some (.deferred (some [])) from (hb5.block D lD).trans HK.out)
            have z5 := hb5.size
            obtain ⟨o, hr1, hr2⟩ := hml.rangeE
            clear hb5 hml p0 p1 c0 hP
            go_wp2_with fail
            have HR := Lib.hid hr2
            have HB6 := Lib.hid ((Below.refl w5.heap.size w5).alloc (Nat.le_refl _) o)
            have zW : (w5.alloc o).heap.size = w5.heap.size + 1 := by simp
            clear hr1 hr2
            generalize w5.alloc o = W6 at *
            go_loopw [10] (fun s10 wx => ∃ dn left : List PC, Hid ((dn ++ left).Perm P) ∧ MapR wx M w5.heap.size P left ∧ PcOwn wx (w5.heap.size + 1) s10 (dn.filter fun x => !pointB x) ∧ Below w5.heap.size w5 wx ∧ w5.heap.size + 1 ≤ wx.heap.size) (fun _ wx => wx.rangeLeft M w5.heap.size)
            case atStart => exact ⟨[], P, Lib.hid (by simp), HR.out, PcOwn.nil _ _, HB6.out, by omega⟩
            case round =>
              obtain ⟨dn, left, hpm, hmr, hpo, hbl, hsz⟩ := hrel
              rename World => U
              have HMR := Lib.hid hmr
              have HPO := Lib.hid hpo
              have HBL := Lib.hid hbl
              have hle := hmr.left_eq
              have HLE := Lib.hid hle
              clear hbl hle
              rcases hmr.next 0 with ⟨rfl, hnx⟩ | ⟨l1, x, l2, U1, rfl, hnx, hmr1, hg1, hs1, hent⟩
              · clear hmr hpo HMR HLE
                have HKU := Lib.hid (show U.heap[D]? = some (.deferred (some [])) from (HBL.out.block D (Array.getElem?_eq_some_iff.1 HK5.out).1).trans HK5.out)
                have HBU := Lib.hid (HB5.out.trans (HBL.out.mono (by omega)))
                have hpm' := hpm.out
                rw [List.append_nil] at hpm'
                by_cases hfl : (dn.filter fun x => !pointB x) = []
                · have HAN := Lib.hid (show ansP P = bestP P from by
                    unfold ansP
                    rw [if_pos]
                    have := hpm'.filter fun x => !pointB x
                    rw [hfl] at this
                    exact this.symm.eq_nil)
                  rw [hfl] at HPO
                  have hs3 : ∃ A c, u10 = .slice A 0 c := by
                    rcases HPO.out.2 with ⟨e, _⟩ | ⟨g, cap, _, e, _⟩
                    · exact ⟨_, _, e⟩
                    · exact ⟨_, _, e⟩
                  obtain ⟨A', c', rfl⟩ := hs3
                  have HPM := Lib.hid hpm'
                  have HMU := Lib.hid (HML.out.below HBL.out)
                  clear hpm' hfl
                  go_wp2_with fail
                  refine (sweep_only M P U HMU.out fun x hx => (pc_pos HG.out HQ.out hx).2).mono ?_
                  rintro e w8 ⟨_, ⟨L', hL', rfl⟩, v, rfl, hpo8, hb8⟩
                  have HB8 := Lib.hid (HBU.out.trans (hb8.mono HBU.out.size))
                  have HK8 := Lib.hid ((hb8.block D (Array.getElem?_eq_some_iff.1 HKU.out).1).trans HKU.out)
                  have HP8 := Lib.hid (show PcRd w8 w.heap.size v (ansP P) from by
                    rw [HAN.out, ← best_uniq HG.out HQ.out HQ.out hL']
                    exact hpo8.rd.mono HBU.out.size)
                  clear hpo8 hb8 hL'
                  go_wp2_with fail
                  refine ⟨by simp, .inl ⟨_, _, rfl, run_takeDeferred HK8.out, .tuple #[v, .int .i64 (0)], ?_, v, ?_, ?_, ?_⟩⟩
                  · simp [results, Try.results18, go_sem]
                  · rw [HE.out]
                  · rw [HLL.out]; exact (HP8.out).kw (KW.putObj (B := 0) (.deferred none) (Nat.zero_le _) HK8.out rfl)
                  · exact below_put HB8.out HDW.out (Nat.le_refl _) _
                · have h0 : 0 < (dn.filter fun x => !pointB x).length := by
                    cases hq : dn.filter fun x => !pointB x with
                    | nil => exact absurd hq hfl
                    | cons a l => simp
                  have HFP := Lib.hid (hpm'.filter fun x => !pointB x)
                  have HAN := Lib.hid (show ansP P = sortP (P.filter fun x => !pointB x) from by
                    unfold ansP
                    rw [if_neg]
                    intro hq
                    have := HFP.out
                    rw [hq] at this
                    exact hfl this.eq_nil)
                  obtain ⟨Q, hQ⟩ : ∃ Q, (dn.filter fun x => !pointB x) = Q := ⟨_, rfl⟩
                  rw [hQ] at h0 HFP HPO
                  have hQl : Q.length ≤ 100000 := by
                    have h1 := HFP.out.length_eq
                    have h2 := List.length_filter_le (fun x => !pointB x) P
                    have h3 := HPL.out
                    omega
                  clear hpm' hfl hQ
                  obtain ⟨g, cap, rfl, hg1, hg2, hg3, hg4, _⟩ := HPO.out.some' h0
                  have hn0 : ¬ ((Q.length : Int) = 0) := by omega
                  go_wp2_with fail
                  refine (pcs_sort _ g cap Q U (prog_sortable HG.out HQ.out HFP.out) h0 hQl HPO.out).mono ?_
                  rintro e w8 ⟨rfl, l, hl1, hl2, hgr, hat⟩
                  have z8 := hgr.size
                  have HB8 := Lib.hid (HBU.out.grown hgr HBU.out.size (fun j e => by cases e; omega))
                  have hDU := (Array.getElem?_eq_some_iff.1 HKU.out).1
                  have hDg : D < g := by have := (Array.getElem?_eq_some_iff.1 HK5.out).1; omega
                  have HK8 := Lib.hid ((hgr.block D hDU (fun e => by injection e with e; omega)).trans HKU.out)
                  have HP8 := Lib.hid (show PcRd w8 w.heap.size (.slice (some ⟨g, 0, none⟩) Q.length cap) (ansP P) from by
                    rw [HAN.out, ← sort_uniq HG.out HQ.out HQ.out (hl1.trans HFP.out) hl2, ← hl1.length_eq]
                    refine .inr ⟨by rw [hl1.length_eq]; exact h0, g, cap, rfl, by omega, by omega, by rw [hl1.length_eq]; exact hg3, hg4, hat⟩)
                  clear hgr hat hl1 hl2
                  go_wp2_with fail
                  refine ⟨by simp, .inl ⟨_, _, rfl, run_takeDeferred HK8.out, .tuple #[(.slice (some ⟨g, 0, none⟩) Q.length cap), .int .i64 (0)], ?_, (.slice (some ⟨g, 0, none⟩) Q.length cap), ?_, ?_, ?_⟩⟩
                  · simp [results, Try.results18, go_sem]
                  · rw [HE.out]
                  · rw [HLL.out]; exact (HP8.out).kw (KW.putObj (B := 0) (.deferred none) (Nat.zero_le _) HK8.out rfl)
                  · exact below_put HB8.out HDW.out (Nat.le_refl _) _
              · have HPM := Lib.hid (show (dn ++ [x] ++ (l1 ++ l2)).Perm P from by
                  refine List.Perm.trans ?_ hpm.out
                  rw [List.append_assoc]
                  exact List.Perm.append_left dn (List.perm_middle (l₁ := l1) (l₂ := l2)).symm)
                have hlt := HMR.out.lt
                have hmv := HLE.out
                simp only [List.length_append, List.length_cons] at hmv
                clear hmr hpm HLE
                have HPO1 := Lib.hid (HPO.out.kept hg1 (by
                  rcases hb : u10.ownBlock with _ | k
                  · exact .inl rfl
                  · right
                    have := (World.ownsRow.lt HPO.out k hb).1
                    intro e
                    injection e with e
                    omega))
                have HBL1 := Lib.hid (HBL.out.grown hg1 (by omega) (fun k hk => by cases hk; omega))
                have HMR1 := Lib.hid hmr1
                have hs2 : U.heap.size ≤ U1.heap.size := Nat.le_of_eq hs1.symm
                clear hmr1 hg1 hpo HPO HBL HMR hs1
                unfold lnV wdV at hnx hent
                go_upto_region 16 with fail
                have BL := Lib.hid (show Blk ((U1.alloc (.cells #[.int .i64 x.bn, .int .i64 x.bd, .int .i64 x.sn, .int .i64 x.sd] 102)).alloc (.cells #[.bool x.fr.op, .int .i64 x.fr.n, .int .i64 x.fr.d, .bool x.to.op, .int .i64 x.to.n, .int .i64 x.to.d] 104)) U1.heap.size 102 #[.int .i64 x.bn, .int .i64 x.bd, .int .i64 x.sn, .int .i64 x.sd] from (Blk.mk' _ _ _).alloc _)
                have BW := Lib.hid (show Blk ((U1.alloc (.cells #[.int .i64 x.bn, .int .i64 x.bd, .int .i64 x.sn, .int .i64 x.sd] 102)).alloc (.cells #[.bool x.fr.op, .int .i64 x.fr.n, .int .i64 x.fr.d, .bool x.to.op, .int .i64 x.to.n, .int .i64 x.to.d] 104)) (U1.heap.size + 1) 104 #[.bool x.fr.op, .int .i64 x.fr.n, .int .i64 x.fr.d, .bool x.to.op, .int .i64 x.to.n, .int .i64 x.to.d] from Blk.new (U1.alloc (.cells #[.int .i64 x.bn, .int .i64 x.bd, .int .i64 x.sn, .int .i64 x.sd] 102)) 104 _ _ (by simp))
                have HV1 := Lib.hid ((by (repeat (any_goals (first | exact Below.refl _ _ | refine below_drewN ?_ _ | refine Below.drew ?_ | refine Below.alloc ?_ ?_ _ | refine Below.setCell ?_ ?_ _))); all_goals (first | omega | (simp; done) | (simp; omega))) : Below U1.heap.size U1 ((U1.alloc (.cells #[.int .i64 x.bn, .int .i64 x.bd, .int .i64 x.sn, .int .i64 x.sd] 102)).alloc (.cells #[.bool x.fr.op, .int .i64 x.fr.n, .int .i64 x.fr.d, .bool x.to.op, .int .i64 x.to.n, .int .i64 x.to.d] 104)))
                clear hnx hent
                generalize ((U1.alloc (.cells #[.int .i64 x.bn, .int .i64 x.bd, .int .i64 x.sn, .int .i64 x.sd] 102)).alloc (.cells #[.bool x.fr.op, .int .i64 x.fr.n, .int .i64 x.fr.d, .bool x.to.op, .int .i64 x.to.n, .int .i64 x.to.d] 104)) = V9 at *
                generalize hgl : U1.heap.size = gl at *
                have zV9 := HV1.out.size
                have lBW := BW.out.lt
                have HPO2 := Lib.hid (HPO1.out.below (by rw [hgl]; exact HV1.out))
                have HMR2 := Lib.hid (HMR1.out.below (by rw [hgl]; exact HV1.out))
                have HBL2 := Lib.hid (HBL1.out.trans (HV1.out.mono (by omega)))
                clear HPO1 HMR1 HBL1
                have v0 : V9.cell? ⟨gl + 1, 0, none⟩ = some (.bool x.fr.op) := BW.out.cell 0
                have v1 : V9.cell? ⟨gl + 1, 1, none⟩ = some (.int .i64 x.fr.n) := BW.out.cell 1
                have v2 : V9.cell? ⟨gl + 1, 2, none⟩ = some (.int .i64 x.fr.d) := BW.out.cell 2
                have v3 : V9.cell? ⟨gl + 1, 3, none⟩ = some (.bool x.to.op) := BW.out.cell 3
                have v4 : V9.cell? ⟨gl + 1, 4, none⟩ = some (.int .i64 x.to.n) := BW.out.cell 4
                have v5 : V9.cell? ⟨gl + 1, 5, none⟩ = some (.int .i64 x.to.d) := BW.out.cell 5
                have HPT := Lib.hid (sweep_point x V9)
                have HFS := Lib.hid (show ((dn ++ [x]).filter fun x => !pointB x) = (dn.filter fun x => !pointB x) ++ (if pointB x = true then [] else [x]) from by
                  rw [List.filter_append]
                  cases hq : pointB x <;> simp [hq])
                cases hpt : pointB x with
                | true =>
                  rw [hpt] at HPT HFS
                  clear hpt
                  go_wp2_with fail
                  refine HPT.out.mono ?_
                  rintro e w7 ⟨rfl, hb7⟩
                  have z7 := hb7.size
                  have HPO7 := Lib.hid (HPO2.out.below hb7)
                  have HMR7 := Lib.hid (HMR2.out.below hb7)
                  have HBL7 := Lib.hid (HBL2.out.trans (hb7.mono (by have := HBL2.out.size; omega)))
                  clear hb7
                  go_wp2_with fail
                  go_roundw
                  case measure =>
                    have := HMR7.out.left_eq
                    rw [this, hmv, List.length_append]
                    omega
                  case rel =>
                    refine ⟨dn ++ [x], l1 ++ l2, HPM, HMR7.out, ?_, HBL7.out, by omega⟩
                    rw [HFS.out]
                    simpa using HPO7.out
                | false =>
                  rw [hpt] at HPT HFS
                  clear hpt
                  go_wp2_with fail
                  refine HPT.out.mono ?_
                  rintro e w7 ⟨rfl, hb7⟩
                  have z7 := hb7.size
                  have HPO7 := Lib.hid (HPO2.out.below hb7)
                  have HMR7 := Lib.hid (HMR2.out.below hb7)
                  have HBL7 := Lib.hid (HBL2.out.trans (hb7.mono (by have := HBL2.out.size; omega)))
                  have BL7 := Lib.hid (BL.out.next hb7)
                  have BW7 := Lib.hid (BW.out.next hb7)
                  clear hb7 v0 v1 v2 v3 v4 v5
                  have k0 : w7.cell? ⟨gl, 0, none⟩ = some (.int .i64 x.bn) := BL7.out.cell 0
                  have k1 : w7.cell? ⟨gl, 1, none⟩ = some (.int .i64 x.bd) := BL7.out.cell 1
                  have k2 : w7.cell? ⟨gl, 2, none⟩ = some (.int .i64 x.sn) := BL7.out.cell 2
                  have k3 : w7.cell? ⟨gl, 3, none⟩ = some (.int .i64 x.sd) := BL7.out.cell 3
                  have v0 : w7.cell? ⟨gl + 1, 0, none⟩ = some (.bool x.fr.op) := BW7.out.cell 0
                  have v1 : w7.cell? ⟨gl + 1, 1, none⟩ = some (.int .i64 x.fr.n) := BW7.out.cell 1
                  have v2 : w7.cell? ⟨gl + 1, 2, none⟩ = some (.int .i64 x.fr.d) := BW7.out.cell 2
                  have v3 : w7.cell? ⟨gl + 1, 3, none⟩ = some (.bool x.to.op) := BW7.out.cell 3
                  have v4 : w7.cell? ⟨gl + 1, 4, none⟩ = some (.int .i64 x.to.n) := BW7.out.cell 4
                  have v5 : w7.cell? ⟨gl + 1, 5, none⟩ = some (.int .i64 x.to.d) := BW7.out.cell 5
                  have hfew : (dn.filter fun x => !pointB x).length ≤ 100000 := by
                    have h1 := HPM.out.length_eq
                    have h2 := List.length_filter_le (fun x => !pointB x) dn
                    have h3 := HPL.out
                    simp only [List.length_append, List.length_cons, List.length_nil] at h1
                    omega
                  go_wp2_with (at_builtin; refine list_appP rfl (.tmp 50) (.tmp 60) rfl (w5.heap.size + 1) u10 _ x rfl (PcOwn.below HPO7.out ((Below.refl _ _).alloc (Nat.le_refl _) _)) _ 1 rfl (pc_new w7 x) hfew (by simp; omega) ?_; intro g cap w9 hown9 hg9 hat9 hlt9)
                  have z9 := hg9.size
                  simp at z9
                  have HOW := Lib.hid (own_ge HPO7.out (Nat.le_refl _))
                  have HMR9 := Lib.hid (show MapR w9 M w5.heap.size P (l1 ++ l2) from by
                    have hl7 := HMR7.out.lt
                    have hM5 := HML.out.lt
                    refine HMR7.out.keep ?_ ?_
                    · exact (hg9.block M (by simp; omega) (fun e => by have := HOW.out M e.symm; omega)).trans (Below.heap_alloc _ _ _ hl7.1)
                    · exact (hg9.block w5.heap.size (by simp; omega) (fun e => by have := HOW.out _ e.symm; omega)).trans (Below.heap_alloc _ _ _ hl7.2.1))
                  have HBL9 := Lib.hid ((HBL7.out.alloc HBL7.out.size (.cells #[.bool x.fr.op, .int .i64 x.fr.n, .int .i64 x.fr.d, .bool x.to.op, .int .i64 x.to.n, .int .i64 x.to.d, .int .i64 x.bn, .int .i64 x.bd, .int .i64 x.sn, .int .i64 x.sd] 73)).grown hg9 (by simp; have := HBL7.out.size; omega) (fun j e => by have := HOW.out j e; omega))
                  refine ⟨⟨dn ++ [x], l1 ++ l2, HPM, HMR9.out, ?_, HBL9.out, by omega⟩, ?_⟩
                  · rw [HFS.out]
                    have := hown9
                    unfold PcOwn at this ⊢
                    simpa using this
                  · have := HMR9.out.left_eq
                    rw [this, hmv, List.length_append]
                    omega
    · have hlz : ¬ ((b.length : Int) = (p.costs.length : Int)) := by omega
      have HE := Lib.hid (show swpE p b = 1 by
        unfold swpE
        rw [if_neg (by rw [HM.out]; decide), if_pos]
        unfold manyB
        simp [hl])
      have HLL := Lib.hid (show swpL p b = [] by unfold swpL; rw [if_neg (by rw [HE.out]; decide)])
      go_wp2_with fail
      refine ⟨.tuple #[.slice none 0 0, .int .i64 (1)], ?_, .slice none 0 0, ?_, ?_, HB1.out⟩
      · simp [results, Try.results18, go_sem]
      · rw [HE.out]
      · rw [HLL.out]; exact .inl ⟨rfl, none, 0, rfl⟩
end Go.Proofs.Ytjcdkbalhleeeab

namespace Go.Proofs.Ytjcdkbalhleeeab

theorem mayB_parts2 {n d : Int} (h : mayB [n] d = true) : 1 ≤ d ∧ d ≤ 1073741824 ∧ (-1073741824 ≤ n ∧ n ≤ 1073741824) ∧ True := by
  simp only [mayB, rightB, Bool.and_eq_true, decide_eq_true_eq, smallB_one] at h
  exact ⟨h.1.1, h.1.2.1, h.1.2.2.1, trivial⟩
end Go.Proofs.Ytjcdkbalhleeeab

namespace Go.Proofs.Ytjcdkbalhleeeab
open Go.RowKit

theorem fine_ok {e : EN} (h : EFine e) : EOk e := h.imp (fun q => q.1) (fun q => q.2)
set_option maxRecDepth 100000 in
set_option maxHeartbeats 1000000 in
theorem ref8_InP (x : PC) (n d : Int) (w : World) (hF : EOk x.fr) (hT : EOk x.to) (ht : mayB [n] d = true) :
    Calls Try.prog 32 #[.agg (pcC x).toArray, .agg #[.int .i64 n, .int .i64 d]] w
      fun e w' => e = .returned (.bool (inP x n d)) ∧ Below w.heap.size w w' := by
  obtain ⟨F, T, z6, z7, z8, z9⟩ := x
  unfold pcC
  simp only at hF hT ⊢
  obtain ⟨hd1, hd2, hn, _⟩ := mayB_parts2 ht
  have HV := Lib.hid (show inP ⟨F, T, z6, z7, z8, z9⟩ n d = ((F.op || decide (0 ≤ cmpZ n d F.n F.d)) && (T.op || decide (cmpZ n d T.n T.d ≤ 0))) from rfl)
  clear ht
  by_cases hfo : F.op = true
  · have HFO := Lib.hid hfo
    have HFX := Lib.hid (show (F.op || decide (0 ≤ cmpZ n d F.n F.d)) = true by rw [hfo]; rfl)
    clear hfo
    go_enter Try.func32, Try.ntmps32
    go_upto_region 1 with fail
    have BP := Lib.hid (show Blk ((w.alloc (.cells #[.bool F.op, .int .i64 F.n, .int .i64 F.d, .bool T.op, .int .i64 T.n, .int .i64 T.d, .int .i64 z6, .int .i64 z7, .int .i64 z8, .int .i64 z9] 73)).alloc (.cells #[.int .i64 n, .int .i64 d] 38)) w.heap.size 73 #[.bool F.op, .int .i64 F.n, .int .i64 F.d, .bool T.op, .int .i64 T.n, .int .i64 T.d, .int .i64 z6, .int .i64 z7, .int .i64 z8, .int .i64 z9] from (Blk.mk' _ _ _).alloc _)
    have BT := Lib.hid (Blk.new (w.alloc (.cells #[.bool F.op, .int .i64 F.n, .int .i64 F.d, .bool T.op, .int .i64 T.n, .int .i64 T.d, .int .i64 z6, .int .i64 z7, .int .i64 z8, .int .i64 z9] 73)) 38 #[.int .i64 n, .int .i64 d] (w.heap.size + 1) (by simp))
    have HVW := Lib.hid ((by (repeat (any_goals (first | exact Below.refl _ _ | refine below_drewN ?_ _ | refine Below.drew ?_ | refine Below.alloc ?_ ?_ _ | refine Below.setCell ?_ ?_ _))); all_goals (first | omega | (simp; done) | (simp; omega))) : Below w.heap.size w ((w.alloc (.cells #[.bool F.op, .int .i64 F.n, .int .i64 F.d, .bool T.op, .int .i64 T.n, .int .i64 T.d, .int .i64 z6, .int .i64 z7, .int .i64 z8, .int .i64 z9] 73)).alloc (.cells #[.int .i64 n, .int .i64 d] 38)))
    generalize ((w.alloc (.cells #[.bool F.op, .int .i64 F.n, .int .i64 F.d, .bool T.op, .int .i64 T.n, .int .i64 T.d, .int .i64 z6, .int .i64 z7, .int .i64 z8, .int .i64 z9] 73)).alloc (.cells #[.int .i64 n, .int .i64 d] 38)) = V at *
    have zV := HVW.out.size
    have k0 : (V).cell? ⟨w.heap.size, 0, none⟩ = some (.bool F.op) := (BP.out.next (Below.refl _ _)).cell 0
    have k1 : (V).cell? ⟨w.heap.size, 1, none⟩ = some (.int .i64 F.n) := (BP.out.next (Below.refl _ _)).cell 1
    have k2 : (V).cell? ⟨w.heap.size, 2, none⟩ = some (.int .i64 F.d) := (BP.out.next (Below.refl _ _)).cell 2
    have k3 : (V).cell? ⟨w.heap.size, 3, none⟩ = some (.bool T.op) := (BP.out.next (Below.refl _ _)).cell 3
    have k4 : (V).cell? ⟨w.heap.size, 4, none⟩ = some (.int .i64 T.n) := (BP.out.next (Below.refl _ _)).cell 4
    have k5 : (V).cell? ⟨w.heap.size, 5, none⟩ = some (.int .i64 T.d) := (BP.out.next (Below.refl _ _)).cell 5
    have t0 : (V).cell? ⟨w.heap.size + 1, 0, none⟩ = some (.int .i64 n) := (BT.out.next (Below.refl _ _)).cell 0
    have t1 : (V).cell? ⟨w.heap.size + 1, 1, none⟩ = some (.int .i64 d) := (BT.out.next (Below.refl _ _)).cell 1
    rw [HFO.out] at k0
    by_cases hto : T.op = true
    · have HTO := Lib.hid hto
      clear hto
      rw [HTO.out] at k3
      go_wp2_with fail
      go_ret
      exact ⟨ret_bool (by rw [HV.out, HFX.out, HTO.out]; rfl), HVW.out.trans ((Below.refl V.heap.size V).mono zV)⟩
    · obtain ⟨td1, td2, tn, _⟩ := mayB_parts2 (hT.resolve_left hto)
      replace hto : T.op = false := by simpa using hto
      have HTO := Lib.hid hto
      clear hto
      rw [HTO.out] at k3
      go_wp2_with fail
      refine (ref1_Cmp n d T.n T.d _ hn ⟨by omega, hd2⟩ tn ⟨by omega, td2⟩).mono ?_
      rintro e w9 ⟨rfl, hb9⟩
      have H9 := Lib.hid ((Below.refl V.heap.size V).trans (hb9.mono (Below.refl V.heap.size V).size))
      clear k0 k1 k2 k3 k4 k5 t0 t1 hb9
      by_cases hc : n * T.d - T.n * d ≤ 0
      · go_wp2_with fail
        go_ret
        exact ⟨ret_bool (by rw [HV.out, HFX.out, HTO.out, Bool.true_and, Bool.false_or]; exact (decide_eq_true (show cmpZ n d T.n T.d ≤ 0 by unfold cmpZ; omega)).symm), HVW.out.trans (H9.out.mono zV)⟩
      · go_wp2_with fail
        go_ret
        exact ⟨ret_bool (by rw [HV.out, HFX.out, HTO.out, Bool.true_and, Bool.false_or]; rfl), HVW.out.trans (H9.out.mono zV)⟩
  · obtain ⟨fd1, fd2, fn, _⟩ := mayB_parts2 (hF.resolve_left hfo)
    replace hfo : F.op = false := by simpa using hfo
    have HFO := Lib.hid hfo
    by_cases hc : 0 ≤ n * F.d - F.n * d
    · have HFX := Lib.hid (show (F.op || decide (0 ≤ cmpZ n d F.n F.d)) = true by rw [hfo]; simpa [cmpZ] using hc)
      clear hfo
      go_enter Try.func32, Try.ntmps32
      go_upto_region 1 with fail
      have BP := Lib.hid (show Blk ((w.alloc (.cells #[.bool F.op, .int .i64 F.n, .int .i64 F.d, .bool T.op, .int .i64 T.n, .int .i64 T.d, .int .i64 z6, .int .i64 z7, .int .i64 z8, .int .i64 z9] 73)).alloc (.cells #[.int .i64 n, .int .i64 d] 38)) w.heap.size 73 #[.bool F.op, .int .i64 F.n, .int .i64 F.d, .bool T.op, .int .i64 T.n, .int .i64 T.d, .int .i64 z6, .int .i64 z7, .int .i64 z8, .int .i64 z9] from (Blk.mk' _ _ _).alloc _)
      have BT := Lib.hid (Blk.new (w.alloc (.cells #[.bool F.op, .int .i64 F.n, .int .i64 F.d, .bool T.op, .int .i64 T.n, .int .i64 T.d, .int .i64 z6, .int .i64 z7, .int .i64 z8, .int .i64 z9] 73)) 38 #[.int .i64 n, .int .i64 d] (w.heap.size + 1) (by simp))
      have HVW := Lib.hid ((by (repeat (any_goals (first | exact Below.refl _ _ | refine below_drewN ?_ _ | refine Below.drew ?_ | refine Below.alloc ?_ ?_ _ | refine Below.setCell ?_ ?_ _))); all_goals (first | omega | (simp; done) | (simp; omega))) : Below w.heap.size w ((w.alloc (.cells #[.bool F.op, .int .i64 F.n, .int .i64 F.d, .bool T.op, .int .i64 T.n, .int .i64 T.d, .int .i64 z6, .int .i64 z7, .int .i64 z8, .int .i64 z9] 73)).alloc (.cells #[.int .i64 n, .int .i64 d] 38)))
      generalize ((w.alloc (.cells #[.bool F.op, .int .i64 F.n, .int .i64 F.d, .bool T.op, .int .i64 T.n, .int .i64 T.d, .int .i64 z6, .int .i64 z7, .int .i64 z8, .int .i64 z9] 73)).alloc (.cells #[.int .i64 n, .int .i64 d] 38)) = V at *
      have zV := HVW.out.size
      have k0 : (V).cell? ⟨w.heap.size, 0, none⟩ = some (.bool F.op) := (BP.out.next (Below.refl _ _)).cell 0
      have k1 : (V).cell? ⟨w.heap.size, 1, none⟩ = some (.int .i64 F.n) := (BP.out.next (Below.refl _ _)).cell 1
      have k2 : (V).cell? ⟨w.heap.size, 2, none⟩ = some (.int .i64 F.d) := (BP.out.next (Below.refl _ _)).cell 2
      have k3 : (V).cell? ⟨w.heap.size, 3, none⟩ = some (.bool T.op) := (BP.out.next (Below.refl _ _)).cell 3
      have k4 : (V).cell? ⟨w.heap.size, 4, none⟩ = some (.int .i64 T.n) := (BP.out.next (Below.refl _ _)).cell 4
      have k5 : (V).cell? ⟨w.heap.size, 5, none⟩ = some (.int .i64 T.d) := (BP.out.next (Below.refl _ _)).cell 5
      have t0 : (V).cell? ⟨w.heap.size + 1, 0, none⟩ = some (.int .i64 n) := (BT.out.next (Below.refl _ _)).cell 0
      have t1 : (V).cell? ⟨w.heap.size + 1, 1, none⟩ = some (.int .i64 d) := (BT.out.next (Below.refl _ _)).cell 1
      rw [HFO.out] at k0
      go_wp2_with fail
      refine (ref1_Cmp n d F.n F.d _ hn ⟨by omega, hd2⟩ fn ⟨by omega, fd2⟩).mono ?_
      rintro e w5 ⟨rfl, hb5⟩
      have H5 := Lib.hid hb5
      clear k0 k1 k2 k3 k4 k5 t0 t1 hb5
      have k0 : (w5).cell? ⟨w.heap.size, 0, none⟩ = some (.bool F.op) := (BP.out.next (H5.out)).cell 0
      have k1 : (w5).cell? ⟨w.heap.size, 1, none⟩ = some (.int .i64 F.n) := (BP.out.next (H5.out)).cell 1
      have k2 : (w5).cell? ⟨w.heap.size, 2, none⟩ = some (.int .i64 F.d) := (BP.out.next (H5.out)).cell 2
      have k3 : (w5).cell? ⟨w.heap.size, 3, none⟩ = some (.bool T.op) := (BP.out.next (H5.out)).cell 3
      have k4 : (w5).cell? ⟨w.heap.size, 4, none⟩ = some (.int .i64 T.n) := (BP.out.next (H5.out)).cell 4
      have k5 : (w5).cell? ⟨w.heap.size, 5, none⟩ = some (.int .i64 T.d) := (BP.out.next (H5.out)).cell 5
      have t0 : (w5).cell? ⟨w.heap.size + 1, 0, none⟩ = some (.int .i64 n) := (BT.out.next (H5.out)).cell 0
      have t1 : (w5).cell? ⟨w.heap.size + 1, 1, none⟩ = some (.int .i64 d) := (BT.out.next (H5.out)).cell 1
      rw [HFO.out] at k0
      by_cases hto : T.op = true
      · have HTO := Lib.hid hto
        clear hto
        rw [HTO.out] at k3
        go_wp2_with fail
        go_ret
        exact ⟨ret_bool (by rw [HV.out, HFX.out, HTO.out]; rfl), HVW.out.trans ((H5.out).mono zV)⟩
      · obtain ⟨td1, td2, tn, _⟩ := mayB_parts2 (hT.resolve_left hto)
        replace hto : T.op = false := by simpa using hto
        have HTO := Lib.hid hto
        clear hto
        rw [HTO.out] at k3
        go_wp2_with fail
        refine (ref1_Cmp n d T.n T.d _ hn ⟨by omega, hd2⟩ tn ⟨by omega, td2⟩).mono ?_
        rintro e w9 ⟨rfl, hb9⟩
        have H9 := Lib.hid ((H5.out).trans (hb9.mono (H5.out).size))
        clear k0 k1 k2 k3 k4 k5 t0 t1 hb9
        by_cases hc : n * T.d - T.n * d ≤ 0
        · go_wp2_with fail
          go_ret
          exact ⟨ret_bool (by rw [HV.out, HFX.out, HTO.out, Bool.true_and, Bool.false_or]; exact (decide_eq_true (show cmpZ n d T.n T.d ≤ 0 by unfold cmpZ; omega)).symm), HVW.out.trans (H9.out.mono zV)⟩
        · go_wp2_with fail
          go_ret
          exact ⟨ret_bool (by rw [HV.out, HFX.out, HTO.out, Bool.true_and, Bool.false_or]; rfl), HVW.out.trans (H9.out.mono zV)⟩
    · have HFX := Lib.hid (show (F.op || decide (0 ≤ cmpZ n d F.n F.d)) = false by rw [hfo]; simpa [cmpZ] using hc)
      clear hfo
      go_enter Try.func32, Try.ntmps32
      go_upto_region 1 with fail
      have BP := Lib.hid (show Blk ((w.alloc (.cells #[.bool F.op, .int .i64 F.n, .int .i64 F.d, .bool T.op, .int .i64 T.n, .int .i64 T.d, .int .i64 z6, .int .i64 z7, .int .i64 z8, .int .i64 z9] 73)).alloc (.cells #[.int .i64 n, .int .i64 d] 38)) w.heap.size 73 #[.bool F.op, .int .i64 F.n, .int .i64 F.d, .bool T.op, .int .i64 T.n, .int .i64 T.d, .int .i64 z6, .int .i64 z7, .int .i64 z8, .int .i64 z9] from (Blk.mk' _ _ _).alloc _)
      have BT := Lib.hid (Blk.new (w.alloc (.cells #[.bool F.op, .int .i64 F.n, .int .i64 F.d, .bool T.op, .int .i64 T.n, .int .i64 T.d, .int .i64 z6, .int .i64 z7, .int .i64 z8, .int .i64 z9] 73)) 38 #[.int .i64 n, .int .i64 d] (w.heap.size + 1) (by simp))
      have HVW := Lib.hid ((by (repeat (any_goals (first | exact Below.refl _ _ | refine below_drewN ?_ _ | refine Below.drew ?_ | refine Below.alloc ?_ ?_ _ | refine Below.setCell ?_ ?_ _))); all_goals (first | omega | (simp; done) | (simp; omega))) : Below w.heap.size w ((w.alloc (.cells #[.bool F.op, .int .i64 F.n, .int .i64 F.d, .bool T.op, .int .i64 T.n, .int .i64 T.d, .int .i64 z6, .int .i64 z7, .int .i64 z8, .int .i64 z9] 73)).alloc (.cells #[.int .i64 n, .int .i64 d] 38)))
      generalize ((w.alloc (.cells #[.bool F.op, .int .i64 F.n, .int .i64 F.d, .bool T.op, .int .i64 T.n, .int .i64 T.d, .int .i64 z6, .int .i64 z7, .int .i64 z8, .int .i64 z9] 73)).alloc (.cells #[.int .i64 n, .int .i64 d] 38)) = V at *
      have zV := HVW.out.size
      have k0 : (V).cell? ⟨w.heap.size, 0, none⟩ = some (.bool F.op) := (BP.out.next (Below.refl _ _)).cell 0
      have k1 : (V).cell? ⟨w.heap.size, 1, none⟩ = some (.int .i64 F.n) := (BP.out.next (Below.refl _ _)).cell 1
      have k2 : (V).cell? ⟨w.heap.size, 2, none⟩ = some (.int .i64 F.d) := (BP.out.next (Below.refl _ _)).cell 2
      have k3 : (V).cell? ⟨w.heap.size, 3, none⟩ = some (.bool T.op) := (BP.out.next (Below.refl _ _)).cell 3
      have k4 : (V).cell? ⟨w.heap.size, 4, none⟩ = some (.int .i64 T.n) := (BP.out.next (Below.refl _ _)).cell 4
      have k5 : (V).cell? ⟨w.heap.size, 5, none⟩ = some (.int .i64 T.d) := (BP.out.next (Below.refl _ _)).cell 5
      have t0 : (V).cell? ⟨w.heap.size + 1, 0, none⟩ = some (.int .i64 n) := (BT.out.next (Below.refl _ _)).cell 0
      have t1 : (V).cell? ⟨w.heap.size + 1, 1, none⟩ = some (.int .i64 d) := (BT.out.next (Below.refl _ _)).cell 1
      rw [HFO.out] at k0
      go_wp2_with fail
      refine (ref1_Cmp n d F.n F.d _ hn ⟨by omega, hd2⟩ fn ⟨by omega, fd2⟩).mono ?_
      rintro e w5 ⟨rfl, hb5⟩
      have H5 := Lib.hid hb5
      clear k0 k1 k2 k3 k4 k5 t0 t1 hb5
      go_wp2_with fail
      go_ret
      exact ⟨ret_bool (by rw [HV.out, HFX.out]; rfl), HVW.out.trans (H5.out.mono zV)⟩
end Go.Proofs.Ytjcdkbalhleeeab

namespace Go.Proofs.Ytjcdkbalhleeeab
open Go.RowKit

theorem own_grown {w w' : World} {base n : Nat} {e : TypeId} {v : Value} {xs : List Value} (h : w.ownsRow base e 1 v n xs) {row : Option Nat} (hg : w.grownBy w' row) (hne : ∀ b, v.ownBlock = some b → some b ≠ row) : w'.ownsRow base e 1 v n xs :=
  own_same h fun b hb => hg.block b (h.lt b hb).2 (hne b hb)
def rnL (p : PG) (l : List Nat) (k i : Nat) : List Value := (List.range i).map fun j => Value.int .i64 (rnZ p l k j)
def rdL (p : PG) (l : List Nat) (i : Nat) : List Value := (List.range i).map fun j => Value.int .i64 (rdZ p l j)
theorem rnL_succ (p : PG) (l : List Nat) (k i : Nat) : rnL p l k (i + 1) = rnL p l k i ++ [.int .i64 (rnZ p l k i)] := by unfold rnL; rw [List.range_succ, List.map_append]; rfl
theorem rdL_succ (p : PG) (l : List Nat) (i : Nat) : rdL p l (i + 1) = rdL p l i ++ [.int .i64 (rdZ p l i)] := by unfold rdL; rw [List.range_succ, List.map_append]; rfl
/-- The numbers, of which the first i are as often as they are to be. -/
def rwL (p : PG) (l : List Nat) (k i : Nat) : List Int := (List.range p.rows.length).map fun j => if j < i then rnZ p l k j * ((allN p l p.rows.length : Int).tdiv (rdZ p l j)) else rnZ p l k j
theorem rwL_len (p : PG) (l : List Nat) (k i : Nat) : (rwL p l k i).length = p.rows.length := by simp [rwL]
theorem rwL_zero (p : PG) (l : List Nat) (k : Nat) : (rwL p l k 0).map (Value.int .i64) = rnL p l k p.rows.length := by simp [rwL, rnL]
theorem rwL_end (p : PG) (l : List Nat) (k : Nat) : rwL p l k p.rows.length = rowZ p l k := by
  unfold rwL rowZ
  apply List.map_congr_left
  intro j hj
  rw [if_pos (List.mem_range.1 hj)]
theorem rwL_at {p : PG} {l : List Nat} {k i : Nat} (hi : i < p.rows.length) : (rwL p l k i).getD i 0 = rnZ p l k i := by
  unfold rwL; rw [getD_map_range hi, if_neg (Nat.lt_irrefl _)]
theorem rwL_succ {p : PG} {l : List Nat} {k i : Nat} (_hi : i < p.rows.length) : rwL p l k (i + 1) = (rwL p l k i).set i (rnZ p l k i * ((allN p l p.rows.length : Int).tdiv (rdZ p l i))) := by
  apply List.ext_getElem
  · simp [rwL]
  · intro j h1 h2
    simp only [rwL, List.getElem_map, List.getElem_range, List.getElem_set]
    by_cases hj : i = j
    · subst hj; rw [if_pos (by omega), if_pos rfl]
    · rw [if_neg hj]
      by_cases hji : j < i
      · rw [if_pos (by omega), if_pos hji]
      · rw [if_neg (by omega), if_neg hji]
set_option maxRecDepth 100000 in
set_option maxHeartbeats 4000000 in
theorem solve_row (A : Option Addr) (c : Nat) (A2 : Option Addr) (c2 : Nat) (p : PG) (L : Option Addr) (l : List Int) (cl k : Nat) (w : World) (hp : Pg w A c A2 c2 p) (hr : Rd w L cl l) (h0 : lookE p l = 0) (hk : k < l.length) :
    Calls Try.prog 111 #[.agg #[.slice A p.costs.length c, .slice A2 p.rows.length c2], .slice L l.length cl, .int .i64 k] w fun e w' => ∃ O co, e = .returned (.slice O p.rows.length co) ∧ Rd w' O co (rowZ p (nats l) k) ∧ (∀ ad, O = some ad → w.heap.size ≤ ad.block) ∧ Below w.heap.size w w' := by
  have HP := Lib.hid hp
  have HL := Lib.hid hr
  have HN := Lib.hid (look_eq h0)
  have HL0 := Lib.hid h0
  obtain ⟨q1, q2, q3⟩ := look_parts h0
  have HB0 := Lib.hid (show Bs p (nats l) from ⟨q1, (right_nats q2).1, q3⟩)
  have h4 := (mayPB_iff.1 q1).2.2.2.1
  have h5 := (mayPB_iff.1 q1).2.1
  obtain ⟨⟨hl, hc, hsm, _⟩, ⟨hl2, hc2, hsm2, _⟩⟩ := hp
  obtain ⟨hll, hlc, hls, _⟩ := hr
  have hnl : (nats l).length = l.length := by simp [nats]
  have HNL := Lib.hid hnl
  clear q1 q2 q3 hnl
  go_enter Try.func111, Try.ntmps111
  go_upto_region 1 with fail
  have BP := Lib.hid (Blk.mk' w 25 #[.slice A p.costs.length c, .slice A2 p.rows.length c2])
  have HW := Lib.hid ((Below.refl w.heap.size w).alloc (Nat.le_refl _) (.cells #[.slice A p.costs.length c, .slice A2 p.rows.length c2] 25))
  generalize (w.alloc (.cells #[.slice A p.costs.length c, .slice A2 p.rows.length c2] 25)) = W at *
  have zW := HW.out.size
  have p0 : W.cell? ⟨w.heap.size, 0, none⟩ = some (.slice A p.costs.length c) := BP.out.cell 0
  have p1 : W.cell? ⟨w.heap.size, 1, none⟩ = some (.slice A2 p.rows.length c2) := BP.out.cell 1
  have hm1 : 1 ≤ p.rows.length := (mayPB_iff.1 HB0.out.hp).2.2.1
  go_wp2_with fail
  go_loopw [7, 8, 9, 19] (fun s7 s8 s9 s19 wx => ∃ i : Nat, i ≤ p.rows.length ∧ s19 = .int .i64 i ∧ s9 = .int .i64 (allN p (nats l) i) ∧ wx.ownsRow W.heap.size 2 1 s7 i (rnL p (nats l) k i) ∧ wx.ownsRow W.heap.size 2 1 s8 i (rdL p (nats l) i) ∧
    (∀ b, s7.ownBlock = some b → s8.ownBlock ≠ some b) ∧ Below W.heap.size W wx) (fun _ _ _ s19 _ => p.rows.length - (intOf s19).toNat)
  case atStart => exact ⟨0, by omega, rfl, rfl, World.ownsRow_nil _ _ _ _, World.ownsRow_nil _ _ _ _, fun b e => by simp [Value.ownBlock] at e, Below.refl _ _⟩
  case round =>
    obtain ⟨i, hi, rfl, rfl, hn, hd, hne, hbel⟩ := hrel
    rename World => U
    have HU := Lib.hid hbel
    have HB := Lib.hid (HW.out.trans (hbel.mono zW))
    have HNU := Lib.hid hn
    have HDE := Lib.hid hd
    have HNE := Lib.hid hne
    have u0 := (hbel.cell (World.block_lt_of_cell? _ _ p0)).trans p0
    have u1 := (hbel.cell (World.block_lt_of_cell? _ _ p1)).trans p1
    have zU := hbel.size
    clear hbel hn hd hne
    by_cases hlt : i < p.rows.length
    · have hi0 : (i : Int) < (p.rows.length : Int) := by omega
      have hCH := Lib.hid (fun (u : World) (hu : Below U.heap.size U u) => change_n A c A2 c2 p L l cl (p.costs.length + i) u ((HP.out.below HB.out).below hu) ((HL.out.below HB.out).below hu) HL0.out (by omega))
      go_wp2_with fail
      rw [show (p.costs.length : Int) + (i : Int) = ((p.costs.length + i : Nat) : Int) by omega]
      refine (hCH.out _ (Below.refl _ _)).mono ?_
      rintro e w1 ⟨O, co, rfl, hO, hb1⟩
      have H1 := Lib.hid (HU.out.trans (hb1.mono zU))
      have z1 := hb1.size
      have HNU1 := Lib.hid (own_below HNU.out hb1)
      have HDE1 := Lib.hid (own_below HDE.out hb1)
      obtain ⟨ao, rfl, hco⟩ := hO.getD_at (k := k) (by rw [chL_len, HNL.out]; exact hk)
      rw [chL_at (by rw [HNL.out]; exact hk), show chN p (nats l) (p.costs.length + i) k = rnZ p (nats l) k i from rfl] at hco
      rw [show (lookN (qOf p (p.costs.length + i)) (nats l)).xd = rdZ p (nats l) i from rfl]
      have hao := World.block_lt_of_cell? _ _ hco
      have hocap := hO.le
      rw [chL_len, HNL.out] at hocap
      have hoc := hO.cap
      have hk0 : (k : Int) < (l.length : Int) := by omega
      have HNS := Lib.hid (rnL_succ p (nats l) k i)
      have HDS := Lib.hid (rdL_succ p (nats l) i)
      have hrd := rd_pos HB0.out i
      have hal := all_le HB0.out i
      have hap := all_pos HB0.out i
      have hdl : (rdZ p (nats l) i).natAbs ≤ 497664 := by
        have := Nat.le_of_dvd (by have := HB0.out.hd; omega) (rd_dvd HB0.out i)
        have := den_bound HB0.out.hp HB0.out.hr.len
        omega
      have HAL := Lib.hid (show allN p (nats l) (i + 1) = Nat.lcm (allN p (nats l) i) (rdZ p (nats l) i).natAbs from rfl)
      obtain ⟨rn, hrn⟩ : ∃ rn, rnZ p (nats l) k i = rn := ⟨_, rfl⟩
      obtain ⟨d, hdd⟩ : ∃ d : Nat, rdZ p (nats l) i = d := ⟨(rdZ p (nats l) i).natAbs, by omega⟩
      obtain ⟨a, haa⟩ : ∃ a : Nat, allN p (nats l) i = a := ⟨_, rfl⟩
      rw [hrn] at hco HNS
      rw [hdd] at HDS hrd hdl HAL ⊢
      rw [haa] at hal hap HAL ⊢
      rw [Int.natAbs_natCast] at hdl HAL
      clear hrn hdd haa hO hb1 u0 u1
      go_wp2_with (first
        | (at_builtin; refine list_app1 rfl (.tmp 33) (.tmp 38) _ _ _ 8 und_i64s inf_i64 rfl rfl W.heap.size u7 i _ _ rfl (HNU1.out.alloc _) _ 1 rfl (cell_new1 _ _ _) rfl (by unfold maxLen; omega) (by omega) (by simp; omega) ?_; intro g cap w5 hown5 hg5 hat5 hlt5; have HO5 := Lib.hid hown5; have HD5 := Lib.hid (own_grown (HDE1.out.alloc _) hg5 (fun b e q => HNE.out b q.symm e)); have H5 := Lib.hid ((H1.out.alloc (by have := H1.out.size; omega) _).grown hg5 (by have := H1.out.size; simp; omega) (own_ge HNU.out (Nat.le_refl _))); have HAT5 := Lib.hid (show ∀ b, u8.ownBlock = some b → g ≠ b from fun b e q => by rcases hat5 with r | r; (exact HNE.out b (q ▸ r) e); (have := (HDE1.out.lt b e).2; simp at r; omega)); clear hown5 hg5 hat5)
        | (at_builtin; refine list_app1 rfl (.tmp 40) (.tmp 42) _ _ _ 8 und_i64s inf_i64 rfl rfl W.heap.size u8 i _ _ rfl (HD5.out.alloc _) _ 1 rfl (cell_new1 _ _ _) rfl (by unfold maxLen; omega) (by omega) (by have := H5.out.size; simp; omega) ?_; intro g6 cap6 w6 hown6 hg6 hat6 hlt6; have HO6 := Lib.hid hown6; have HN6 := Lib.hid (own_grown (HO5.out.alloc _) hg6 (fun b e q => HAT5.out b q.symm (by simpa [Value.ownBlock] using e))); have H6 := Lib.hid ((H5.out.alloc H5.out.size _).grown hg6 (by have := H5.out.size; simp; omega) (own_ge HDE.out (Nat.le_refl _))); have HNE6 := Lib.hid (show g ≠ g6 from fun q => by rcases hat6 with r | r; (exact HAT5.out g6 r q); (simp at r; omega)); clear hown6 hg6 hat6))
      have hd0 : 0 < d := by omega
      have z6 := H6.out.size
      go_loopw [9, 13] (fun s9 s13 wx => ∃ n : Nat, 1 ≤ n ∧ n ≤ d ∧ s13 = .int .i64 n ∧ s9 = .int .i64 a ∧ Hid (∀ q, 0 < q → q < n → ¬ d ∣ a * q) ∧ Below w6.heap.size w6 wx) (fun _ s13 _ => d + 1 - (intOf s13).toNat)
      case atStart => exact ⟨1, by omega, by omega, rfl, rfl, Lib.hid fun q h1 h2 => by omega, Below.refl _ _⟩
      case round =>
        obtain ⟨n, hn1, hn2, rfl, rfl, hno, hb7⟩ := hrel
        rename World => U7
        have H7 := Lib.hid hb7
        clear hb7
        have han : a * n ≤ 497664 * 497664 := Nat.mul_le_mul hal (by omega)
        have hcm : (a : Int) * (n : Int) = ((a * n : Nat) : Int) := by simp
        have hw1 : IntKind.i64.wrap ((a : Int) * (n : Int)) = (a : Int) * (n : Int) := IntWalk.i64_in _ (by rw [hcm]; omega)
        have hz : ¬ (d : Int) = 0 := by omega
        by_cases hdv : d ∣ a * n
        · have ht : ((a : Int) * (n : Int)).tmod (d : Int) = 0 := by
            rw [hcm, show ((a * n : Nat) : Int).tmod (d : Int) = ((a * n % d : Nat) : Int) from rfl, Nat.mod_eq_zero_of_dvd hdv]; rfl
          have HLC := Lib.hid (show (a * n : Nat) = allN p (nats l) (i + 1) by rw [HAL.out]; exact lcm_least hap (by omega) hdv (fun q h1 h2 => hno.out q h1 h2))
          have HCM := Lib.hid hcm
          clear hno hdv hcm han
          go_wp2_with fail
          go_roundw
          case rel =>
            refine ⟨i + 1, by omega, by go_num, by rw [HCM.out, HLC.out], by rw [HNS.out]; exact own_below HN6.out H7.out, by rw [HDS.out]; exact own_below HO6.out H7.out, fun b e q => ?_, H6.out.trans (H7.out.mono z6)⟩
            simp only [Value.ownBlock, Option.some.injEq] at e q
            exact HNE6.out (e.trans q.symm)
          case measure => simp [intOf]; omega
        · have hlt' : n < d := by
            rcases Nat.lt_or_ge n d with h | h
            · exact h
            · exact absurd (show d ∣ a * n by have : n = d := by omega
                                              rw [this]; exact Nat.dvd_mul_left _ _) hdv
          have HNO := Lib.hid (show ∀ q, 0 < q → q < n + 1 → ¬ d ∣ a * q from fun q h1 h2 => by
            by_cases e : q = n
            · subst e; exact hdv
            · exact hno.out q h1 (by omega))
          obtain ⟨tv, htv⟩ : ∃ tv, ((a : Int) * (n : Int)).tmod (d : Int) = tv := ⟨_, rfl⟩
          have ht0 : (tv == 0) = false := by
            have : ¬ tv = 0 := fun q => hdv (by
              rw [← htv, hcm, show ((a * n : Nat) : Int).tmod (d : Int) = ((a * n % d : Nat) : Int) from rfl] at q
              exact Nat.dvd_of_mod_eq_zero (by omega))
            simpa using this
          clear hno hdv hcm han
          go_wp2_with fail
          go_roundw
          case rel => exact ⟨n + 1, by omega, by omega, by go_num, rfl, HNO, H7.out⟩
          case measure => simp [intOf]; omega
    · obtain rfl : i = p.rows.length := by omega
      obtain ⟨g, cap, rfl⟩ := own_some HNU.out (by omega)
      obtain ⟨g6, cap6, rfl⟩ := own_some HDE.out (by omega)
      have HGG := Lib.hid (show g6 ≠ g from fun q => HNE.out g rfl (by rw [q]; rfl))
      have HN0 := Lib.hid (show U.ownsRow W.heap.size 2 1 (.slice (some ⟨g, 0, none⟩) p.rows.length cap) p.rows.length ((rwL p (nats l) k 0).map (Value.int .i64)) by rw [rwL_zero]; exact HNU.out)
      have lg := HNU.out.lt g rfl
      obtain ⟨hcap1, hcap2⟩ := own_caps HNU.out
      obtain ⟨hcap3, hcap4⟩ := own_caps HDE.out
      have hal := all_le HB0.out p.rows.length
      obtain ⟨a, haa⟩ : ∃ a : Nat, allN p (nats l) p.rows.length = a := ⟨_, rfl⟩
      have HAA := Lib.hid haa
      rw [haa] at hal ⊢
      clear haa u0 u1
      go_wp2_with fail
      go_loopw [58] (fun s58 wx => ∃ i : Nat, i ≤ p.rows.length ∧ s58 = .int .i64 i ∧ wx.ownsRow W.heap.size 2 1 (.slice (some ⟨g, 0, none⟩) p.rows.length cap) p.rows.length ((rwL p (nats l) k i).map (Value.int .i64)) ∧ wx.ownsRow W.heap.size 2 1 (.slice (some ⟨g6, 0, none⟩) p.rows.length cap6) p.rows.length (rdL p (nats l) p.rows.length) ∧ Below W.heap.size W wx) (fun s58 _ => p.rows.length - (intOf s58).toNat)
      case atStart => exact ⟨0, by omega, rfl, HN0.out, HDE.out, HU.out⟩
      case round =>
        obtain ⟨i, hi, rfl, hn, hd, hbel⟩ := hrel
        rename World => U5
        have HN5 := Lib.hid hn
        have HD5 := Lib.hid hd
        have H5 := Lib.hid hbel
        have lg5 := (hn.lt g rfl).2
        clear hn hd hbel
        by_cases hlt : i < p.rows.length
        · have hi0 : (i : Int) < (p.rows.length : Int) := by omega
          have c1 := own_cell' HN5.out i (.int .i64 (rnZ p (nats l) k i)) (by rw [map_at_int (by rw [rwL_len]; exact hlt), rwL_at hlt])
          have f1 := own_free' HN5.out i
          have e2 := own_cell' HD5.out i (.int .i64 (rdZ p (nats l) i)) (by simp [rdL, hlt])
          have hrd := rd_pos HB0.out i
          have hz : ¬ rdZ p (nats l) i = 0 := by omega
          have HST := Lib.hid (rwL_succ (p := p) (l := nats l) (k := k) hlt)
          rw [HAA.out] at HST
          have hrs := (smallB_getD (m := 497664) (by omega)).1 (row_small HB0.out (k := k) (by rw [HNL.out]; exact hk)) i
          rw [row_at k hlt, HAA.out] at hrs
          obtain ⟨hq1, hq2⟩ := tdiv_bound 497664 (a : Int) (rdZ p (nats l) i) (by omega) (by omega)
          obtain ⟨rn, hrn⟩ : ∃ rn, rnZ p (nats l) k i = rn := ⟨_, rfl⟩
          obtain ⟨rd, hrdd⟩ : ∃ rd, rdZ p (nats l) i = rd := ⟨_, rfl⟩
          rw [hrn] at c1 HST hrs
          rw [hrdd] at e2 hrd hz HST hrs hq1 hq2
          have hdv : (a : Int).tdiv rd = (a : Int) / rd := Int.tdiv_eq_ediv_of_nonneg (by omega)
          rw [hdv] at HST hrs hq1 hq2
          have hw1 : IntKind.i64.wrap ((a : Int) / rd) = (a : Int) / rd := IntWalk.i64_in _ (by omega)
          have hw2 : IntKind.i64.wrap (rn * ((a : Int) / rd)) = rn * ((a : Int) / rd) := IntWalk.i64_in _ (by omega)
          clear hdv
          clear hrn hrdd
          go_wp2_with fail
          go_still_tail 9, (by kernel_rfl)
          go_wp2_with fail
          go_roundw
          case rel =>
            refine ⟨i + 1, by omega, by go_num, by rw [HST.out, ← map_set_int]; exact (own_put HN5.out i _).drew, (own_far HD5.out _ (fun q => HGG.out (by simpa [Value.ownBlock] using q))).drew, (H5.out.setCell lg.1 _).drew⟩
          case measure => simp [intOf]; omega
        · obtain rfl : i = p.rows.length := by omega
          have hown := HN5.out
          rw [rwL_end] at hown
          have H5' := Lib.hid (HW.out.trans (H5.out.mono zW))
          go_wp2_with fail
          go_ret
          exact ⟨some ⟨g, 0, none⟩, cap, rfl, Rd.of_own (base := W.heap.size) (e := 2) (by rw [rowZ_len]; exact hown) (by rw [rowZ_len]; omega), fun ad e => (by cases e; exact Nat.le_trans zW lg.1), H5'.out⟩
end Go.Proofs.Ytjcdkbalhleeeab
