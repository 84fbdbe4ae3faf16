/-
  Contracts of functions and plain laws that later parts of the proof use. The conditions stand in each theorem.
-/
import Derived.Test.YtjcdkbalhleeeaaGreatDoorG14
import Derived.Test.YtjcdkbalhleeeaaGreatDoorG12
import Derived.WalkSpells
namespace Go.Proofs.YtjcdkbalhleeeaaGreatDoor
open Go.RowKit Go.Sort


/-- The choice of the first k, and one more. -/
theorem out_step (xs : List Int) (l : List Nat) (less : List Int) (k : Nat) : outZ xs l less (k + 1) = if 0 < less.getD k 0 ∧ nearB xs l less k (outZ xs l less k) = true then some k else outZ xs l less k := outZ_succ xs l less k
theorem out_lt {xs : List Int} {l : List Nat} {less : List Int} : ∀ {n q : Nat}, outZ xs l less n = some q → q < n
  | 0, q, h => by simp [outZ] at h
  | n + 1, q, h => by
    rw [outZ_succ] at h
    split at h
    · simp at h; omega
    · have := out_lt h; omega

set_option maxRecDepth 100000 in
set_option maxHeartbeats 4000000 in
/-- A corner that goes, whose walk goes on or ends. -/
theorem next_on (A : Option Addr) (c : Nat) (A2 : Option Addr) (c2 : Nat) (p : PG) (L : Option Addr) (l : List Int) (cl : Nat) (w : World) (hp : Pg w A c A2 c2 p) (hr : Rd w L cl l) (he : lookE p l = 0) (hx : nonneg (lookC p l).xs = true) :
    Calls Tryz.prog 52 #[.agg #[.slice A p.costs.length c, .slice A2 p.rows.length c2], .slice L l.length cl] w (RetNx w p l) := by
  have HN := Lib.hid (show nextE p l = 0 by unfold nextE; rw [if_pos he, if_pos hx])
  have HE := Lib.hid he
  have HX := Lib.hid hx
  have HLN := Lib.hid (lookN_eq he)
  have HNE := Lib.hid (look_eq he)
  obtain ⟨_, _, _, hco⟩ := look_corn he
  have HCO := Lib.hid hco
  have HR := Lib.hid hco.hr
  clear he hx hco
  have HP := Lib.hid hp
  have HL := Lib.hid hr
  obtain ⟨⟨hl, hc, hsm, _⟩, ⟨hl2, hc2, hsm2, _⟩⟩ := hp
  obtain ⟨hll, hlc, hls, _⟩ := hr
  go_enter Tryz.func52, Tryz.ntmps52
  go_wp2_with fail
  have BP := Lib.hid (Blk.mk' w 28 #[.slice A p.costs.length c, .slice A2 p.rows.length c2])
  have HVW := Lib.hid ((by (repeat (any_goals (first | exact Below.refl _ _ | refine below_drewN ?_ _ | refine Below.drew ?_ | refine Below.alloc ?_ ?_ _ | refine Below.setCell ?_ ?_ _))); all_goals (first | omega | (simp; done) | (simp; omega))) : Below w.heap.size w (w.alloc (.cells #[.slice A p.costs.length c, .slice A2 p.rows.length c2] 28)))
  generalize (w.alloc (.cells #[.slice A p.costs.length c, .slice A2 p.rows.length c2] 28)) = V at *
  have zV := HVW.out.size
  have lP := BP.out.lt
  refine (corner_Look _ _ _ _ _ _ _ _ _ (HP.out.below HVW.out) (HL.out.below HVW.out)).mono ?_
  rw [HE.out]
  obtain ⟨cc, hC⟩ : ∃ cc, lookC p l = cc := ⟨_, rfl⟩
  rw [hC]
  have HC := Lib.hid hC
  clear hC
  rintro e w1 ⟨X, cx, Y, cy, G, cg, rfl, hX, hY, hG, hb1⟩
  have HCn := Lib.hid (CnN.mk hX hY hG)
  have H1 := Lib.hid hb1
  have z01 := hb1.size
  clear hX hY hG hb1
  go_upto_region 2 with fail
  have BC := Lib.hid (Blk.mk' w1 64 #[.slice X cc.xs.length cx, .int .i64 cc.xd, .slice Y cc.ys.length cy, .int .i64 cc.yd, .slice G cc.gs.length cg, .int .i64 cc.gd])
  have HWL := (Below.refl w1.heap.size w1).alloc (Nat.le_refl _) (.cells #[.slice X cc.xs.length cx, .int .i64 cc.xd, .slice Y cc.ys.length cy, .int .i64 cc.yd, .slice G cc.gs.length cg, .int .i64 cc.gd] 64)
  have HV2 := Lib.hid (H1.out.trans (HWL.mono z01))
  have HCW := Lib.hid (HCn.out.below HWL)
  have HBW := Lib.hid (HVW.out.trans (HV2.out.mono zV))
  clear HWL
  generalize (w1.alloc (.cells #[.slice X cc.xs.length cx, .int .i64 cc.xd, .slice Y cc.ys.length cy, .int .i64 cc.yd, .slice G cc.gs.length cg, .int .i64 cc.gd] 64)) = W at *
  have hco := HCO.out
  have hx := HX.out
  have hln := HLN.out
  rw [HC.out] at hco hx hln
  have HCC := Lib.hid hco
  have hp := (mayPB_iff.1 hco.hp).2.2.1
  have hp4 := (mayPB_iff.1 hco.hp).2.2.2.1
  have hp1 := (mayPB_iff.1 hco.hp).2.1
  have hlen := hco.lx
  have hlm : l.length = p.rows.length := by have := hco.hr.len; simpa [nats] using this
  have hgl : 0 < cc.gs.length := by rw [hco.lg]; omega
  have hxl : cc.xs.length ≤ 8 := by rw [hlen]; omega
  obtain ⟨x0, xr, hxs⟩ : ∃ x0 xr, cc.xs = x0 :: xr := List.exists_cons_of_length_pos (by rw [hlen]; omega)
  have HMin := Lib.hid (fun u (hu : Rd u X cx cc.xs) => by
    rw [hxs] at hu
    have := slices_Min X x0 xr cx u hu
    rw [← hxs] at this
    exact this)
  have hlt : 0 ≤ minL x0 xr := by
    refine minL_nonneg.2 ?_
    rw [hxs] at hx
    simp only [nonneg, List.all_cons, Bool.and_eq_true, decide_eq_true_eq] at hx
    exact hx
  have HLM := Lib.hid hlm
  clear hxs hlen hx hp hlm
  generalize minL x0 xr = mv at *
  have k0 : (W).cell? ⟨w1.heap.size, 0, none⟩ = some (.slice X cc.xs.length cx) := (BC.out.next (Below.refl _ _)).cell 0
  have k1 : (W).cell? ⟨w1.heap.size, 1, none⟩ = some (.int .i64 cc.xd) := (BC.out.next (Below.refl _ _)).cell 1
  have k2 : (W).cell? ⟨w1.heap.size, 2, none⟩ = some (.slice Y cc.ys.length cy) := (BC.out.next (Below.refl _ _)).cell 2
  have k3 : (W).cell? ⟨w1.heap.size, 3, none⟩ = some (.int .i64 cc.yd) := (BC.out.next (Below.refl _ _)).cell 3
  have k4 : (W).cell? ⟨w1.heap.size, 4, none⟩ = some (.slice G cc.gs.length cg) := (BC.out.next (Below.refl _ _)).cell 4
  have k5 : (W).cell? ⟨w1.heap.size, 5, none⟩ = some (.int .i64 cc.gd) := (BC.out.next (Below.refl _ _)).cell 5
  go_wp2_with fail
  refine (HMin.out _ HCW.out.x).mono ?_
  rintro e w2 ⟨rfl, rfl⟩
  rename World => W
  have HIN := Lib.hid (fun u (hu : Rd u G cg cc.gs) => walk_In X Y G cx cy cg cc.xs.length cc.ys.length cc.xd cc.yd cc.gd cc.gs u hu hgl)
  have HGM := Lib.hid (show inI cc.gs = inI (lookN p (nats l)).gs by rw [hln])
  clear hgl hln hco
  go_wp2_with fail
  refine (HIN.out _ HCW.out.g).mono ?_
  rintro e w2 ⟨rfl, hb2⟩
  have H2 := Lib.hid hb2
  have z02 := hb2.size
  clear hb2 k0 k1 k2 k3 k4 k5
  cases hin : inZ (lookN p (nats l)).gs with
  | none =>
    have HK := Lib.hid (show nxtZ p (nats l) = none ∧ kindZ p (nats l) = 1 by unfold nxtZ kindZ; rw [hin]; exact ⟨rfl, rfl⟩)
    have e0 : inI cc.gs = -1 := by rw [HGM.out]; unfold inI; rw [hin]
    rw [e0]
    clear hin e0
    go_wp2_with fail
    refine bodyPost_ret (v := .tuple #[.slice none 0 0, .int .i64 1, .int .i64 0]) ?_ ?_ ?_
    · simp [results, Tryz.results52, go_sem]
    · rfl
    exact RetNx.fin HN.out HK.out.1 HK.out.2 (HBW.out.trans (H2.out.mono HBW.out.size))
  | some r =>
    have e0 : inI cc.gs = (r : Int) := by rw [HGM.out]; unfold inI; rw [hin]
    rw [e0]
    have HI := Lib.hid hin
    have HRN := Lib.hid (in_new (nextE_ok HN.out) hin)
    have hr8 : r < 1000000 := by have := HRN.out.2.1; omega
    clear hin e0
    have p0 : w2.cell? ⟨w.heap.size, 0, none⟩ = some (.slice A p.costs.length c) := ((BP.out.next HV2.out).next H2.out).cell 0
    have p1 : w2.cell? ⟨w.heap.size, 1, none⟩ = some (.slice A2 p.rows.length c2) := ((BP.out.next HV2.out).next H2.out).cell 1
    go_wp2_with fail
    have HB2 := Lib.hid (HBW.out.trans (H2.out.mono HBW.out.size))
    refine (walk_Change _ _ _ _ _ _ _ _ r _ (HP.out.below HB2.out) (HL.out.below HB2.out) HE.out hr8).mono ?_
    rintro e w3 ⟨O, co, rfl, hO, hb3⟩
    have HO := Lib.hid hO
    have H3 := Lib.hid hb3
    have z03 := hb3.size
    have HB3 := Lib.hid (HB2.out.trans (hb3.mono HB2.out.size))
    have HC3 := Lib.hid ((HCW.out.below H2.out).below hb3)
    clear hO hb3 p0 p1
    obtain ⟨ls, hls⟩ : ∃ ls, ls = l.map fun j => (lookC (qOf p r) l).xs.getD j.toNat 0 := ⟨_, rfl⟩
    rw [← hls] at HO
    have HLE := Lib.hid (show ls = lessZ p (nats l) r by
      have hq := lookN_eq (p := qOf p r) (qOf_E HE.out r)
      rw [hls]
      unfold lessZ
      rw [hq]
      unfold nats
      rw [List.map_map]
      rfl)
    have hll' : ls.length = l.length := by rw [hls, List.length_map]
    have HLL := Lib.hid hll'
    have HBX := Lib.hid ((smallB_getD (l := cc.xs) (m := 1073741824) (by omega)).1 (mayB_parts HCC.out.mx).2.2.1)
    have HBL := Lib.hid (show ∀ j, -1073741824 ≤ ls.getD j 0 ∧ ls.getD j 0 ≤ 1073741824 from fun j => by
      obtain ⟨_, _, _, hq⟩ := look_corn (qOf_E HE.out r)
      have hb := (smallB_getD (l := (lookC (qOf p r) l).xs) (m := 1073741824) (by omega)).1 (mayB_parts hq.mx).2.2.1
      by_cases hj : j < l.length
      · have e : ls.getD j 0 = (lookC (qOf p r) l).xs.getD l[j].toNat 0 := by rw [hls]; simp [List.getD, hj]
        rw [e]; exact hb _
      · have e : ls.getD j 0 = 0 := by rw [List.getD, List.getElem?_eq_none (by omega)]; rfl
        rw [e]; omega)
    clear hls hll'
    go_wp2_with fail
    go_loopw [12, 45] (fun o i wx => ∃ k : Nat, k ≤ l.length ∧ i = .int .i64 k ∧ o = .int .i64 (outI (outZ cc.xs (nats l) ls k)) ∧ Below w3.heap.size w3 wx) (fun _ i _ => l.length - (intOf i).toNat)
    case atStart => exact ⟨0, by omega, rfl, rfl, Below.refl _ _⟩
    case round =>
      obtain ⟨k, hk, rfl, rfl, hbel⟩ := hrel
      rename World => U
      have HBE := Lib.hid hbel
      have HBU := Lib.hid (HB3.out.trans (hbel.mono HB3.out.size))
      have HCU := Lib.hid (HC3.out.below hbel)
      have HOU := Lib.hid (HO.out.below hbel)
      have HLU := Lib.hid (HL.out.below HBU.out)
      have HBC := Lib.hid ((BC.out.next (H2.out.trans (H3.out.mono z02))).next hbel)
      have q0 : U.cell? ⟨w1.heap.size, 0, none⟩ = some (.slice X cc.xs.length cx) := HBC.out.cell 0
      clear hbel
      by_cases hlt : k < l.length
      · have HNX : ∀ {i : Nat}, i < l.length → (nats l).getD i 0 < cc.xs.length := fun {i} hi => by
          rw [HCC.out.lx]; exact HR.out.lt _ (mem_getD.2 ⟨i, by simpa [nats] using hi, rfl⟩)
        have hNX := HNX hlt
        obtain ⟨al, rfl, hcl⟩ := HLU.out.natAt HNE.out hlt
        obtain ⟨ax, rfl, hcx⟩ := HCU.out.x.getD_at hNX
        obtain ⟨ao, rfl, hco⟩ := HOU.out.getD_at (k := k) (by rw [HLL.out]; exact hlt)
        have hacl := World.block_lt_of_cell? _ _ hcl
        have hacx := World.block_lt_of_cell? _ _ hcx
        have haco := World.block_lt_of_cell? _ _ hco
        have HST := Lib.hid (out_step cc.xs (nats l) ls k)
        have hi0 : (k : Int) < (l.length : Int) := by omega
        have hi1 : (((nats l).getD k 0 : Nat) : Int) < (cc.xs.length : Int) := by omega
        by_cases hlv : 0 < ls.getD k 0
        · have hd : decide (0 < ls.getD k 0) = true := by simpa using hlv
          cases ho : outZ cc.xs (nats l) ls k with
          | none =>
            have HSK := Lib.hid (show outI (outZ cc.xs (nats l) ls (k + 1)) = k by rw [HST.out, ho, if_pos ⟨hlv, rfl⟩]; rfl)
            rw [show outI none = (-1 : Int) from rfl]
            clear ho hlv
            generalize ls.getD k 0 = lv at *
            generalize (nats l).getD k 0 = jk at *
            go_wp2_with fail
            go_quiet (fail)
            go_wp2_with fail
            go_roundw
            case rel => exact ⟨k + 1, by omega, by go_num, by rw [HSK.out], by first | exact HBE.out | exact below_drewN HBE.out _⟩
            case measure => simp [intOf]; omega
          | some q =>
            have hqk := out_lt ho
            have hql : q < l.length := by omega
            have hNQ := HNX hql
            obtain ⟨al', hal', hcl'⟩ := HLU.out.natAt HNE.out hql
            injection hal' with hal'
            subst hal'
            obtain ⟨ax', hax', hcx'⟩ := HCU.out.x.getD_at hNQ
            injection hax' with hax'
            subst hax'
            obtain ⟨ao', hao', hco'⟩ := HOU.out.getD_at (k := q) (by rw [HLL.out]; exact hql)
            injection hao' with hao'
            subst hao'
            have hacl' := World.block_lt_of_cell? _ _ hcl'
            have hacx' := World.block_lt_of_cell? _ _ hcx'
            have haco' := World.block_lt_of_cell? _ _ hco'
            have hi2 : (q : Int) < (l.length : Int) := by omega
            have hi3 : (((nats l).getD q 0 : Nat) : Int) < (cc.xs.length : Int) := by omega
            obtain ⟨m1, m2⟩ := mul_bound (cc.xs.getD ((nats l).getD k 0) 0) (ls.getD q 0) 1073741824 1073741824 (HBX.out _).1 (HBX.out _).2 (HBL.out _).1 (HBL.out _).2
            obtain ⟨m3, m4⟩ := mul_bound (cc.xs.getD ((nats l).getD q 0) 0) (ls.getD k 0) 1073741824 1073741824 (HBX.out _).1 (HBX.out _).2 (HBL.out _).1 (HBL.out _).2
            have w1' : IntKind.i64.wrap (cc.xs.getD ((nats l).getD k 0) 0 * ls.getD q 0) = cc.xs.getD ((nats l).getD k 0) 0 * ls.getD q 0 := IntWalk.i64_in _ (by omega)
            have w2' : IntKind.i64.wrap (cc.xs.getD ((nats l).getD q 0) 0 * ls.getD k 0) = cc.xs.getD ((nats l).getD q 0) 0 * ls.getD k 0 := IntWalk.i64_in _ (by omega)
            clear m1 m2 m3 m4
            by_cases hnr : cc.xs.getD ((nats l).getD k 0) 0 * ls.getD q 0 < cc.xs.getD ((nats l).getD q 0) 0 * ls.getD k 0
            · have hd2 : decide (cc.xs.getD ((nats l).getD k 0) 0 * ls.getD q 0 < cc.xs.getD ((nats l).getD q 0) 0 * ls.getD k 0) = true := by simpa using hnr
              have HSK := Lib.hid (show outI (outZ cc.xs (nats l) ls (k + 1)) = k by rw [HST.out, ho, if_pos ⟨hlv, hd2⟩]; rfl)
              rw [show outI (some q) = (q : Int) from rfl]
              clear ho hlv hnr
              generalize ls.getD k 0 = lv at *
              generalize ls.getD q 0 = lq at *
              generalize cc.xs.getD ((nats l).getD k 0) 0 = xv at *
              generalize cc.xs.getD ((nats l).getD q 0) 0 = xq at *
              generalize (nats l).getD k 0 = jk at *
              generalize (nats l).getD q 0 = jq at *
              go_wp2_with fail
              go_quiet (fail)
              go_wp2_with fail
              go_roundw
              case rel => exact ⟨k + 1, by omega, by go_num, by rw [HSK.out], by first | exact HBE.out | exact below_drewN HBE.out _⟩
              case measure => simp [intOf]; omega
            · have hd2 : decide (cc.xs.getD ((nats l).getD k 0) 0 * ls.getD q 0 < cc.xs.getD ((nats l).getD q 0) 0 * ls.getD k 0) = false := by simpa using hnr
              have HSK := Lib.hid (show outI (outZ cc.xs (nats l) ls (k + 1)) = q by rw [HST.out, ho, if_neg (fun w => by have q2 := hd2.symm.trans (show decide (_ < _) = true from w.2); cases q2)]; rfl)
              rw [show outI (some q) = (q : Int) from rfl]
              clear ho hlv hnr
              generalize ls.getD k 0 = lv at *
              generalize ls.getD q 0 = lq at *
              generalize cc.xs.getD ((nats l).getD k 0) 0 = xv at *
              generalize cc.xs.getD ((nats l).getD q 0) 0 = xq at *
              generalize (nats l).getD k 0 = jk at *
              generalize (nats l).getD q 0 = jq at *
              go_wp2_with fail
              go_quiet (fail)
              go_wp2_with fail
              go_roundw
              case rel => exact ⟨k + 1, by omega, by go_num, by rw [HSK.out], by first | exact HBE.out | exact below_drewN HBE.out _⟩
              case measure => simp [intOf]; omega
        · have hd : decide (0 < ls.getD k 0) = false := by simpa using hlv
          have HSK := Lib.hid (show outI (outZ cc.xs (nats l) ls (k + 1)) = outI (outZ cc.xs (nats l) ls k) by rw [HST.out, if_neg (fun w => hlv w.1)])
          clear hlv
          generalize outI (outZ cc.xs (nats l) ls k) = ov at *
          generalize ls.getD k 0 = lv at *
          generalize (nats l).getD k 0 = jk at *
          go_wp2_with fail
          go_quiet (fail)
          go_wp2_with fail
          go_roundw
          case rel => exact ⟨k + 1, by omega, by go_num, by rw [HSK.out], by first | exact HBE.out | exact below_drewN HBE.out _⟩
          case measure => simp [intOf]; omega
      · obtain rfl : k = l.length := by omega
        have HOZ := Lib.hid (show outZ (lookN p (nats l)).xs (nats l) (lessZ p (nats l) r) (nats l).length = outZ cc.xs (nats l) ls l.length by
          rw [HLN.out, HC.out, ← HLE.out, show (nats l).length = l.length by simp [nats]])
        cases ho : outZ cc.xs (nats l) ls l.length with
        | none =>
          have HK := Lib.hid (show nxtZ p (nats l) = none ∧ kindZ p (nats l) = 2 by unfold nxtZ kindZ; rw [HI.out]; simp only []; rw [HOZ.out, ho]; exact ⟨rfl, rfl⟩)
          rw [show outI none = (-1 : Int) from rfl]
          clear ho
          go_wp2_with fail
          refine bodyPost_ret (v := .tuple #[.slice none 0 0, .int .i64 2, .int .i64 0]) ?_ ?_ ?_
          · simp [results, Tryz.results52, go_sem]
          · rfl
          exact RetNx.fin HN.out HK.out.1 HK.out.2 HBU.out
        | some q =>
          have hql := out_lt ho
          have HK := Lib.hid (show nxtZ p (nats l) = some (insN ((nats l).eraseIdx q) r) by unfold nxtZ; rw [HI.out]; simp only []; rw [HOZ.out, ho])
          rw [show outI (some q) = (q : Int) from rfl]
          clear ho
          obtain ⟨bL, oL, rfl, hLc⟩ := HLU.out.plain (by omega)
          have zU := HBU.out.size
          obtain ⟨le, hle⟩ : ∃ le, le = l.eraseIdx q := ⟨_, rfl⟩
          have HLE2 := Lib.hid hle
          have hlel : le.length = l.length - 1 := by rw [hle, List.length_eraseIdx, if_pos hql]
          obtain ⟨n1, hn1⟩ : ∃ n1, l.length = n1 + 1 := ⟨l.length - 1, by omega⟩
          have HCL := Lib.hid (by
            have := slices_Clone bL oL l.length cl l U (Nat.le_refl _) (by omega) (fun j hj => hLc j hj)
            rw [hn1] at this
            exact this)
          clear hLc
          have HN1 := Lib.hid hn1
          have HLEL := Lib.hid (show le.length = n1 by omega)
          clear hle hlel
          have HDEL := Lib.hid (fun (g cap : Nat) (u : World) (h : u.ownsRow U.heap.size 3 1 (.slice (some ⟨g, 0, none⟩) (n1 + 1) cap) (n1 + 1) (l.map (Value.int .i64))) (hcap : n1 + 1 ≤ cap ∧ cap ≤ 9223372036854775807) => by
            have := slices_Delete g 0 cap q (q + 1) l u (own_holds h hn1) (by omega) hcap.2 (by omega) (by omega)
            rw [show l.length - (q + 1 - q) = n1 by omega, hn1] at this
            exact this)
          have hq1 : q ≤ n1 := by omega
          rw [hn1] at hls ⊢
          clear hn1 hql hk
          go_wp2_with fail
          refine HCL.out.mono ?_
          rintro e w5 ⟨v5, rfl, hown5, _, hb5⟩
          rw [show l.take (n1 + 1) = l from List.take_of_length_le (by rw [HN1.out]; exact Nat.le_refl _)] at hown5
          obtain ⟨g5, cap5, rfl⟩ := own_some hown5 (by omega)
          have hcap5 := own_caps hown5
          have HD5 := Lib.hid (HDEL.out g5 cap5 w5 hown5 hcap5)
          have HO5 := Lib.hid hown5
          have HB5 := Lib.hid hb5
          have z5 := hb5.size
          have lg5 := (hown5.lt g5 rfl)
          clear hown5 hb5
          go_wp2_with fail
          refine HD5.out.mono ?_
          rintro e w6 ⟨rfl, qq, rfl⟩
          obtain ⟨ts, hts⟩ : ∃ ts, ts = l.take q ++ l.drop (q + 1) ++ List.replicate (q + 1 - q) (0 : Int) := ⟨_, rfl⟩
          have htl : ts.length = n1 + 1 := by rw [hts]; have := HN1.out; simp; omega
          have htt : ts.take n1 = le := by
            have hl2 : (l.take q ++ l.drop (q + 1)).length = n1 := by have := HN1.out; simp; omega
            rw [hts, List.take_append_of_le_length (by omega), List.take_of_length_le (by omega), HLE2.out, List.eraseIdx_eq_take_drop_succ]
          rw [← hts]
          have hown6 := own_putRow (q := qq) (m := n1) HO5.out htl (by omega)
          rw [htt] at hown6
          have hb6 : Below U.heap.size w5 (putRow (Value.int .i64) (Sort.ahead w5 qq) g5 0 ts.toArray) := putRow_below lg5.1 z5
          have HO6 := Lib.hid hown6
          have HB6 := Lib.hid (HB5.out.trans hb6)
          clear hown6 hb6 hts htl htt
          generalize putRow (Value.int .i64) (Sort.ahead w5 qq) g5 0 ts.toArray = w6 at *
          have z6 := HB6.out.size
          go_wp2_with (at_builtin; refine list_app1 rfl (.tmp 96) (.tmp 98) _ _ _ 8 und_intS1 inf_intS1 rfl rfl U.heap.size (.slice (some ⟨g5, 0, none⟩) n1 cap5) n1 _ _ rfl (HO6.out.alloc _) _ 1 rfl (cell_new1 _ _ _) rfl (by unfold maxLen; omega) (by omega) (by simp; omega) ?_; intro g7 cap7 w7 hown7 hg7 hat7 hlt7; refine Hid.out ?_)
          refine Lib.hid ?_
          have hown7' : w7.ownsRow U.heap.size 3 1 (.slice (some ⟨g7, 0, none⟩) (n1 + 1) cap7) (n1 + 1) ((le ++ [(r : Int)]).map (Value.int .i64)) := by rw [List.map_append]; exact hown7
          have HB7 := Lib.hid ((HB6.out.alloc z6 _).grown hg7 (by simp; omega) (fun j e => by cases e; exact lg5.1))
          have hal : (le ++ [(r : Int)]).length = n1 + 1 := by rw [List.length_append, HLEL.out]; rfl
          have HS := Lib.hid (by
            have := slices_Sort g7 0 cap7 (le ++ [(r : Int)]) w7 (own_holds hown7' hal) hlt7 (by rw [hal]; omega)
            rw [hal] at this
            exact this)
          have HO7 := Lib.hid hown7'
          have HAL := Lib.hid hal
          clear hown7 hown7' hg7 hat7 hal
          go_wp2_with fail
          refine HS.out.mono ?_
          rintro e w8 ⟨rfl, q8, os8, rfl⟩
          have hin : ints ((nats l).eraseIdx q) = le := by rw [← ints_erase, ← HNE.out, HLE2.out]
          have hsrt : (le ++ [(r : Int)]).mergeSort (fun x y => decide (x ≤ y)) = ints (insN ((nats l).eraseIdx q) r) := by
            rw [← hin]
            exact sort_ins (HR.out.pw.sublist (List.eraseIdx_sublist _ _)) (fun h => HRN.out.1 (List.mem_of_mem_eraseIdx h))
          rw [hsrt]
          have hln : (insN ((nats l).eraseIdx q) r).length = n1 + 1 := by
            rw [length_insN, List.length_eraseIdx, if_pos (by rw [show (nats l).length = l.length by simp [nats], HN1.out]; omega), show (nats l).length = l.length by simp [nats], HN1.out]; rfl
          have hown8 := own_sorted (q := q8) (os := os8) (ts := ints (insN ((nats l).eraseIdx q) r)) HO7.out HAL.out (by rw [HAL.out]; unfold ints; rw [List.length_map]; exact hln)
          have hb8 : Below U.heap.size U (grow (putRow (Value.int .i64) (Sort.ahead w7 q8) g7 0 (ints (insN ((nats l).eraseIdx q) r)).toArray) os8) := HB7.out.grown (grownBy_sortedI _) HB7.out.size (fun j e => by cases e; exact (HO7.out.lt g7 rfl).1)
          have HO8 := Lib.hid hown8
          have HB8 := Lib.hid hb8
          have HLN8 := Lib.hid hln
          clear hown8 hb8 hln hsrt hin
          generalize grow (putRow (Value.int .i64) (Sort.ahead w7 q8) g7 0 (ints (insN ((nats l).eraseIdx q) r)).toArray) os8 = w8 at *
          go_wp2_with fail
          refine bodyPost_ret (v := .tuple #[.slice (some ⟨g7, 0, none⟩) (n1 + 1) cap7, .int .i64 0, .int .i64 0]) ?_ ?_ ?_
          · simp [results, Tryz.results52, go_sem]
          · rfl
          refine ⟨HBU.out.trans (HB8.out.mono zU), fun h => absurd HN.out h, fun _ => ⟨fun h => ?_, fun l' h => ?_⟩⟩
          · rw [HK.out] at h; cases h
          · rw [HK.out] at h
            injection h with h
            subst h
            exact ⟨g7, cap7, by rw [HLN8.out], by rw [HLN8.out]; exact own_weak HO8.out zU⟩
end Go.Proofs.YtjcdkbalhleeeaaGreatDoor

namespace Go.Proofs.YtjcdkbalhleeeaaGreatDoor
open Go.RowKit

theorem und_intss : Tryz.prog.underlying 70 = some (.slice 51) := by kernel_rfl
theorem inf_intS : (Tryz.prog.info? 51).map (fun i => (i.zero, i.size, i.bytes)) = some (some (.slice none 0 0), 1, 24) := by kernel_rfl

/-- A slice of slices reads as a list of lists. -/
structure Ls (w : World) (A : Option Addr) (c : Nat) (ls : List (List Int)) : Prop where
  le : ls.length ≤ c
  cap : c ≤ 9223372036854775807
  small : ls.length ≤ 100000
  cells : 0 < ls.length → ∃ ad, A = some ad ∧ ∀ j, j < ls.length → ∃ A' c', w.cell? (ad.add j) = some (.slice A' (ls.getD j []).length c') ∧ Rd w A' c' (ls.getD j [])
section
variable {w w' : World} {A : Option Addr} {c : Nat} {ls : List (List Int)}
theorem Ls.below (h : Ls w A c ls) (hb : Below w.heap.size w w') : Ls w' A c ls :=
  ⟨h.le, h.cap, h.small, fun h0 => by
    obtain ⟨ad, e, hc⟩ := h.cells h0
    exact ⟨ad, e, fun j hj => by
      obtain ⟨A', c', h1, h2⟩ := hc j hj
      exact ⟨A', c', (hb.cell (World.block_lt_of_cell? _ _ h1)).trans h1, h2.below hb⟩⟩⟩
theorem Ls.nil (w : World) : Ls w none 0 [] := ⟨by simp, by omega, by simp, fun h => by simp at h⟩
/-- One element of it. -/
theorem Ls.at_ (h : Ls w A c ls) {k : Nat} (hk : k < ls.length) : ∃ ad A' c', A = some ad ∧ w.cell? (ad.add k) = some (.slice A' (ls.getD k []).length c') ∧ Rd w A' c' (ls.getD k []) := by
  obtain ⟨ad, e, hc⟩ := h.cells (by omega)
  obtain ⟨A', c', h1, h2⟩ := hc k hk
  exact ⟨ad, A', c', e, h1, h2⟩
end

/-- A slice of slices that the call makes, of the first k. -/
structure LsB (w : World) (base : Nat) (v : Value) (k : Nat) (As : Nat → Option Addr) (cs : Nat → Nat) (f : Nat → List Int) : Prop where
  own : w.ownsRow base 51 1 v k ((List.range k).map fun i => Value.slice (As i) (f i).length (cs i))
  rd : ∀ i, i < k → Rd w (As i) (cs i) (f i)
  ne : ∀ i, i < k → ∀ ad, As i = some ad → v.ownBlock ≠ some ad.block
section
variable {w w' : World} {base k : Nat} {v : Value} {As : Nat → Option Addr} {cs : Nat → Nat} {f : Nat → List Int}
theorem LsB.nil (w : World) (base : Nat) (As : Nat → Option Addr) (cs : Nat → Nat) (f : Nat → List Int) : LsB w base (.slice none 0 0) 0 As cs f :=
  ⟨World.ownsRow_nil _ _ _ _, fun i hi => by omega, fun i hi => by omega⟩
theorem LsB.below (h : LsB w base v k As cs f) (hb : Below w.heap.size w w') : LsB w' base v k As cs f :=
  ⟨own_below h.own hb, fun i hi => (h.rd i hi).below hb, h.ne⟩
theorem Rd.grown' {A : Option Addr} {c : Nat} {l : List Int} {row : Option Nat} (h : Rd w A c l) (hg : w.grownBy w' row) (hr : ∀ ad, A = some ad → row ≠ some ad.block) : Rd w' A c l :=
  h.same fun ad e hlt => hg.block _ hlt fun q => hr ad e q.symm
/-- One more. -/
theorem LsB.push (h : LsB w base v k As cs f) {A : Option Addr} {c o cap : Nat} (hr : Rd w A c (f k)) (hn : ∀ ad, A = some ad → v.ownBlock ≠ some ad.block) (hlt : ∀ ad, A = some ad → ad.block < w.heap.size)
    (hlts : ∀ i, i < k → ∀ ad, As i = some ad → ad.block < w.heap.size)
    (hown : w'.ownsRow base 51 1 (.slice (some ⟨o, 0, none⟩) (k + 1) cap) (k + 1) (((List.range k).map fun i => Value.slice (As i) (f i).length (cs i)) ++ [.slice A (f k).length c]))
    (hg : w.grownBy w' v.ownBlock) (hat : v.ownBlock = some o ∨ o = w.heap.size) :
    LsB w' base (.slice (some ⟨o, 0, none⟩) (k + 1) cap) (k + 1) (fun i => if i = k then A else As i) (fun i => if i = k then c else cs i) f := by
  refine ⟨?_, fun i hi => ?_, fun i hi ad e => ?_⟩
  · have e1 : ((List.range (k + 1)).map fun i => Value.slice (if i = k then A else As i) (f i).length (if i = k then c else cs i)) = ((List.range k).map fun i => Value.slice (As i) (f i).length (cs i)) ++ [.slice A (f k).length c] := by
      rw [List.range_succ, List.map_append]
      congr 1
      · apply List.map_congr_left
        intro i hi
        have : i < k := by simpa using hi
        rw [if_neg (by omega), if_neg (by omega)]
      · simp
    show w'.ownsRow base 51 1 _ _ ((List.range (k + 1)).map fun i => Value.slice (if i = k then A else As i) (f i).length (if i = k then c else cs i))
    rw [e1]; exact hown
  · by_cases e : i = k
    · subst e; simp only [if_true]; exact hr.grown' hg hn
    · simp only [e, if_false]; exact (h.rd i (by omega)).grown' hg (h.ne i (by omega))
  · have key : ∀ ad : Addr, ad.block < w.heap.size → v.ownBlock ≠ some ad.block → (Value.slice (some ⟨o, 0, none⟩) (k + 1) cap).ownBlock ≠ some ad.block := by
      intro ad h1 h2 q
      have q' : o = ad.block := Option.some.inj q
      rcases hat with w | w
      · exact h2 (w.trans q)
      · omega
    by_cases e' : i = k
    · subst e'; simp only [if_true] at e; exact key ad (hlt ad e) (hn ad e)
    · simp only [e', if_false] at e; exact key ad (hlts i (by omega) ad e) (h.ne i (by omega) ad e)
theorem LsB.read {g cap : Nat} (h : LsB w base (.slice (some ⟨g, 0, none⟩) k cap) k As cs f) (hk : k ≤ 100000) : Ls w (some ⟨g, 0, none⟩) cap ((List.range k).map f) := by
  have hc := own_caps h.own
  refine ⟨by simpa using hc.1, hc.2, by simpa using hk, fun _ => ⟨_, rfl, fun j hj => ?_⟩⟩
  have hj' : j < k := by simpa using hj
  have e : ((List.range k).map f).getD j [] = f j := by simp [List.getD, hj']
  rw [e]
  refine ⟨As j, cs j, ?_, h.rd j hj'⟩
  have h1 := own_cell' h.own j (.slice (As j) (f j).length (cs j)) (by simp [hj'])
  have e1 : (⟨g, 0, none⟩ : Addr).add j = ⟨g, j, none⟩ := by unfold Addr.add; split <;> simp_all
  rw [e1]; exact h1
end
section
variable {ops : Array Oper} {rest : List Oper} {o : Oper} {a : Act} {w : World} {Q : Exit → Act → World → Prop}
set_option maxRecDepth 100000 in
/-- One more slice behind. -/
theorem list_appS (hgd : o.guard = none) (s x : Operand) (ho : o.op = .call { callee := .builtin .append, args := #[s, x], argTypes := #[70, 70] })
    (base : Nat) (v : Value) (n : Nat) (xs : List Value) (u : Value) (hs : a.eval s = v) (hown : w.ownsRow base 51 1 v n xs)
    (b c : Nat) (hx : a.eval x = .slice (some ⟨b, 0, none⟩) 1 c) (hb : w.cell? ⟨b, 0, none⟩ = some u) (hu : u.oneCell' = true) (hn : n ≤ 100000) (hbase : base ≤ w.heap.size)
    (h : ∀ g cap w', w'.ownsRow base 51 1 (.slice (some ⟨g, 0, none⟩) (n + 1) cap) (n + 1) (xs ++ [u]) → w.grownBy w' v.ownBlock → (v.ownBlock = some g ∨ g = w.heap.size) → g < w'.heap.size → wpList Tryz.prog ops Q rest (a.put o.dst (.slice (some ⟨g, 0, none⟩) (n + 1) cap)) w') :
    wpList Tryz.prog ops Q (o :: rest) a w :=
  list_app1 hgd s x 70 51 (.slice none 0 0) 24 und_intss inf_intS rfl ho base v n xs u hs hown b c hx hb hu (by unfold maxLen; omega) (by omega) hbase h
end
end Go.Proofs.YtjcdkbalhleeeaaGreatDoor

namespace Go.Proofs.YtjcdkbalhleeeaaGreatDoor
open Go.RowKit Go.Sort

theorem walk_Next (A : Option Addr) (c : Nat) (A2 : Option Addr) (c2 : Nat) (p : PG) (L : Option Addr) (l : List Int) (cl : Nat) (w : World) (hp : Pg w A c A2 c2 p) (hr : Rd w L cl l) :
    Calls Tryz.prog 52 #[.agg #[.slice A p.costs.length c, .slice A2 p.rows.length c2], .slice L l.length cl] w (RetNx w p l) := by
  by_cases he : lookE p l = 0
  · cases hx : nonneg (lookC p l).xs with
    | true => exact next_on A c A2 c2 p L l cl w hp hr he hx
    | false => exact next_off A c A2 c2 p L l cl w hp hr he hx
  · exact next_bad A c A2 c2 p L l cl w hp hr _ rfl he

/-- slices.Clone, of any slice of numbers. -/
theorem clone_any (L : Option Addr) (l : List Int) (cl : Nat) (w : World) (hr : Rd w L cl l) :
    Calls Tryz.prog 51 #[.slice L l.length cl] w fun e w' => ∃ O co, e = .returned (.slice O l.length co) ∧ Rd w' O co l ∧ (∀ ad, O = some ad → w.heap.size ≤ ad.block ∧ ad.block < w'.heap.size) ∧ Below w.heap.size w w' := by
  have hs := hr.small
  by_cases h0 : 0 < l.length
  · obtain ⟨b, off, rfl, hc⟩ := hr.plain h0
    refine (slices_Clone b off l.length cl l w (Nat.le_refl _) (by omega) (fun j hj => hc j hj)).mono ?_
    rintro e w' ⟨v', rfl, hown, _, hb⟩
    rw [List.take_length] at hown
    obtain ⟨g, cap, rfl⟩ := own_some hown (by omega)
    exact ⟨some ⟨g, 0, none⟩, cap, rfl, Rd.of_own hown (by omega), fun ad e => by cases e; exact hown.lt g rfl, hb⟩
  · obtain rfl : l = [] := List.eq_nil_of_length_eq_zero (by omega)
    cases L with
    | none =>
      refine (slices_Clone_nil _ _ w).mono ?_
      rintro e w' ⟨rfl, rfl⟩
      exact ⟨none, 0, rfl, Rd.nil _, fun ad e => (by cases e), Below.refl _ _⟩
    | some a =>
      refine (slices_Clone_zero a cl w).mono ?_
      rintro e w' ⟨v', rfl, hown, hn, hb⟩
      rcases hown.2 with ⟨h, _⟩ | ⟨g, cap, cur, rfl, hg, _⟩
      · exact absurd h hn
      · exact ⟨some ⟨g, 0, none⟩, cap, rfl, Rd.of_own (l := []) hown (by simp), fun ad e => by cases e; exact hown.lt g rfl, hb⟩

/-- A list of columns is handed back, and how it ends. -/
def RetWk (w : World) (p : PG) (l : List Int) (e : Ending) (w' : World) : Prop :=
  Below w.heap.size w w' ∧ (nextE p l ≠ 0 → e = .returned (.tuple #[.slice none 0 0, .int .i64 0, .int .i64 (nextE p l)])) ∧
  (nextE p l = 0 → ∃ k lk A c, EndAt p (nats l) k lk ∧ e = .returned (.tuple #[.slice A (k + 1) c, .int .i64 (kindZ p lk), .int .i64 0]) ∧ Ls w' A c (wkL p (nats l) (k + 1)))
def lenV : Value → Nat
  | .slice _ n _ => n
  | _ => 0
theorem LsB.len {w : World} {base k : Nat} {v : Value} {As : Nat → Option Addr} {cs : Nat → Nat} {f : Nat → List Int} (h : LsB w base v k As cs f) : lenV v = k := by
  rcases h.own.2 with ⟨rfl, rfl⟩ | ⟨g, cap, cur, rfl, _⟩ <;> rfl

set_option maxRecDepth 100000 in
set_option maxHeartbeats 2000000 in
theorem walk_bad (A : Option Addr) (c : Nat) (A2 : Option Addr) (c2 : Nat) (p : PG) (L : Option Addr) (l : List Int) (cl : Nat) (w : World) (hp : Pg w A c A2 c2 p) (hr : Rd w L cl l) (er : Int) (he : nextE p l = er) (h0 : er ≠ 0) :
    Calls Tryz.prog 24 #[.agg #[.slice A p.costs.length c, .slice A2 p.rows.length c2], .slice L l.length cl] w (RetWk w p l) := by
  have HE := Lib.hid he
  have H0 := Lib.hid h0
  have hz : (er != 0) = true := by simpa using h0
  have HP := Lib.hid hp
  have HL := Lib.hid hr
  obtain ⟨⟨hl, hc, hsm, _⟩, ⟨hl2, hc2, hsm2, _⟩⟩ := hp
  obtain ⟨hll, hlc, hls, _⟩ := hr
  clear he h0
  go_enter Tryz.func24, Tryz.ntmps24
  go_wp2_with fail
  have BP := Lib.hid (Blk.mk' w 28 #[.slice A p.costs.length c, .slice A2 p.rows.length c2])
  have HVW := Lib.hid ((by (repeat (any_goals (first | exact Below.refl _ _ | refine below_drewN ?_ _ | refine Below.drew ?_ | refine Below.alloc ?_ ?_ _ | refine Below.setCell ?_ ?_ _))); all_goals (first | omega | (simp; done) | (simp; omega))) : Below w.heap.size w (w.alloc (.cells #[.slice A p.costs.length c, .slice A2 p.rows.length c2] 28)))
  generalize (w.alloc (.cells #[.slice A p.costs.length c, .slice A2 p.rows.length c2] 28)) = V at *
  have zV := HVW.out.size
  refine (clone_any L l cl _ (HL.out.below HVW.out)).mono ?_
  rintro e w1 ⟨O, co, rfl, hO, _, hb1⟩
  have HO := Lib.hid hO
  have H1 := Lib.hid hb1
  obtain ⟨hol, hoc, _, _⟩ := hO
  clear hb1
  go_wp2_with fail
  go_loopw [7, 8] (fun s7 s8 wx => s7 = .slice none 0 0 ∧ s8 = .slice O l.length co ∧ Below w1.heap.size w1 wx) (fun _ _ _ => 0)
  case atStart => exact ⟨rfl, rfl, Below.refl _ _⟩
  case round =>
    obtain ⟨rfl, rfl, hbel⟩ := hrel
    rename World => U
    have HU := Lib.hid (H1.out.trans (hbel.mono H1.out.size))
    have HB := Lib.hid (HVW.out.trans (HU.out.mono zV))
    have p0 : U.cell? ⟨w.heap.size, 0, none⟩ = some (.slice A p.costs.length c) := (BP.out.next HU.out).cell 0
    have p1 : U.cell? ⟨w.heap.size, 1, none⟩ = some (.slice A2 p.rows.length c2) := (BP.out.next HU.out).cell 1
    have HNX := Lib.hid (walk_Next A c A2 c2 p O l co U (HP.out.below HB.out) (HO.out.below hbel))
    clear hbel
    go_wp2_with fail
    refine HNX.out.mono ?_
    rintro e w2 ⟨hb2, hr2, _⟩
    obtain rfl := hr2 (by rw [HE.out]; exact H0.out)
    rw [HE.out]
    have HB2 := Lib.hid (HB.out.trans (hb2.mono HB.out.size))
    clear hb2 hr2 p0 p1
    go_wp2_with fail
    refine bodyPost_ret (v := .tuple #[.slice none 0 0, .int .i64 0, .int .i64 er]) ?_ ?_ ?_
    · simp [results, Tryz.results24, go_sem]
    · rfl
    exact ⟨HB2.out, fun _ => by rw [HE.out], fun h => absurd (HE.out.symm.trans h) H0.out⟩

set_option maxRecDepth 100000 in
set_option maxHeartbeats 2000000 in
theorem walk_ok (A : Option Addr) (c : Nat) (A2 : Option Addr) (c2 : Nat) (p : PG) (L : Option Addr) (l : List Int) (cl : Nat) (w : World) (hp : Pg w A c A2 c2 p) (hr : Rd w L cl l) (he : nextE p l = 0) :
    Calls Tryz.prog 24 #[.agg #[.slice A p.costs.length c, .slice A2 p.rows.length c2], .slice L l.length cl] w (RetWk w p l) := by
  have HE := Lib.hid he
  have ho := nextE_ok he
  have HOK := Lib.hid ho
  have HNE := Lib.hid (look_eq (nextE_look he).1)
  have hlm : l.length ≤ 4 := by
    have := ho.hr.len
    have h4 := (mayPB_iff.1 ho.hp).2.2.2.1
    simp [nats] at this; omega
  have HP := Lib.hid hp
  have HL := Lib.hid hr
  obtain ⟨⟨hl, hc, hsm, _⟩, ⟨hl2, hc2, hsm2, _⟩⟩ := hp
  obtain ⟨hll, hlc, hls, _⟩ := hr
  clear he ho
  have q26 : ∀ (w : World) (a : Option Addr) (n c n' c' : Nat), (binOp .eql 51 (.slice a n c) (.slice none n' c')).run Tryz.prog w = .ok (.bool a.isNone) w := fun w a n c n' c' => Lib.run_eql_slice_nil w _ _ a n c n' c' und_intS1
  go_enter Tryz.func24, Tryz.ntmps24
  go_wp2_with fail
  have BP := Lib.hid (Blk.mk' w 28 #[.slice A p.costs.length c, .slice A2 p.rows.length c2])
  have HVW := Lib.hid ((by (repeat (any_goals (first | exact Below.refl _ _ | refine below_drewN ?_ _ | refine Below.drew ?_ | refine Below.alloc ?_ ?_ _ | refine Below.setCell ?_ ?_ _))); all_goals (first | omega | (simp; done) | (simp; omega))) : Below w.heap.size w (w.alloc (.cells #[.slice A p.costs.length c, .slice A2 p.rows.length c2] 28)))
  generalize (w.alloc (.cells #[.slice A p.costs.length c, .slice A2 p.rows.length c2] 28)) = V at *
  have zV := HVW.out.size
  have lP := BP.out.lt
  refine (clone_any L l cl _ (HL.out.below HVW.out)).mono ?_
  rintro e w1 ⟨O, co, rfl, hO, hOl, hb1⟩
  have HO := Lib.hid hO
  have HOL := Lib.hid hOl
  have H1 := Lib.hid hb1
  have z01 := hb1.size
  clear hb1 hO hOl
  go_wp2_with fail
  go_loopw [7, 8] (fun s7 s8 wx => ∃ (k : Nat) (lk : List Nat) (O' : Option Addr) (co' : Nat) (As : Nat → Option Addr) (cs : Nat → Nat), Hid (wk p (nats l) k = some lk) ∧ s8 = .slice O' lk.length co' ∧ Rd wx O' co' (ints lk) ∧
      LsB wx V.heap.size s7 k As cs (fun i => ints ((wk p (nats l) i).getD [])) ∧ (∀ ad, O' = some ad → s7.ownBlock ≠ some ad.block ∧ ad.block < wx.heap.size) ∧ (∀ i, i < k → ∀ ad, As i = some ad → ad.block < wx.heap.size) ∧ Below V.heap.size V wx) (fun s7 _ _ => 256 - lenV s7)
  case atStart =>
    exact ⟨0, nats l, O, co, fun _ => none, fun _ => 0, rfl, by simp [nats], by rw [show ints (nats l) = l from HNE.out.symm]; exact HO.out, LsB.nil _ _ _ _ _, fun ad e => ⟨by simp [Value.ownBlock], (HOL.out ad e).2⟩, fun i hi => by omega, H1.out⟩
  case round =>
    obtain ⟨k, lk, O', co', As, cs, hwk, rfl, hO', hLs, hap, hAs, hbel⟩ := hrel
    rename World => U
    have HWK := hwk
    have HRO := Lib.hid hO'
    have HLs := Lib.hid hLs
    have HAP := Lib.hid hap
    have HAS := Lib.hid hAs
    have HU := Lib.hid hbel
    have zU := hbel.size
    have hlen := LsB.len hLs
    have HB := Lib.hid (HVW.out.trans (HU.out.mono zV))
    have hokk := wk_ok HOK.out hwk.out
    have hk256 := wk_fewer HOK.out hwk.out
    have HOKK := Lib.hid hokk
    have HEK := Lib.hid (ok_nextE hokk)
    have p0 : U.cell? ⟨w.heap.size, 0, none⟩ = some (.slice A p.costs.length c) := (BP.out.next HU.out).cell 0
    have p1 : U.cell? ⟨w.heap.size, 1, none⟩ = some (.slice A2 p.rows.length c2) := (BP.out.next HU.out).cell 1
    have HNX := Lib.hid (show Calls Tryz.prog 52 #[.agg #[.slice A p.costs.length c, .slice A2 p.rows.length c2], .slice O' lk.length co'] U (RetNx U p (ints lk)) from by
      have := walk_Next A c A2 c2 p O' (ints lk) co' U (HP.out.below HB.out) hO'
      rwa [show (ints lk).length = lk.length by simp [ints]] at this)
    clear hwk hO' hLs hap hAs hbel hokk
    go_wp2_with fail
    refine HNX.out.mono ?_
    rintro e w2 ⟨hb2, _, hr2⟩
    obtain ⟨hr2, hr3⟩ := hr2 HEK.out
    rw [nats_ints] at hr2 hr3
    have H2 := Lib.hid hb2
    have z02 := hb2.size
    have HL2 := Lib.hid (HLs.out.below hb2)
    have HO2 := Lib.hid (HRO.out.below hb2)
    have HB2 := Lib.hid (HB.out.trans (hb2.mono HB.out.size))
    have HV2 := Lib.hid (HU.out.trans (hb2.mono zU))
    clear hb2 p0 p1
    have hfk : ints ((wk p (nats l) k).getD []) = ints lk := by rw [HWK.out]; rfl
    have HFK := Lib.hid hfk
    have HPU := Lib.hid (fun (o : Obj) (g cap : Nat) (w5 : World) (hown : w5.ownsRow V.heap.size 51 1 (.slice (some ⟨g, 0, none⟩) (k + 1) cap) (k + 1) (((List.range k).map fun i => Value.slice (As i) (ints ((wk p (nats l) i).getD [])).length (cs i)) ++ [.slice O' lk.length co']))
        (hg : (w2.alloc o).grownBy w5 u7.ownBlock) (hat : u7.ownBlock = some g ∨ g = (w2.alloc o).heap.size) =>
      (HL2.out.below ((Below.refl _ _).alloc (Nat.le_refl _) o)).push (A := O') (c := co') (o := g) (cap := cap) (by show Rd _ O' co' (ints ((wk p (nats l) k).getD [])); rw [hfk]; exact HO2.out.alloc o) (fun ad e => (HAP.out ad e).1)
        (fun ad e => by have := (HAP.out ad e).2; simp; omega) (fun i hi ad e => by have := HAS.out i hi ad e; simp; omega)
        (by show World.ownsRow _ _ _ _ _ _ (_ ++ [.slice O' (ints ((wk p (nats l) k).getD [])).length co']); rw [hfk, show (ints lk).length = lk.length by simp [ints]]; exact hown) hg hat)
    clear hfk
    cases hn : nxtZ p lk with
    | none =>
      obtain rfl := hr2 hn
      have HN := Lib.hid hn
      clear hr2 hr3 hn
      generalize hkd : kindZ p lk = kd
      have HKD := Lib.hid hkd
      clear hkd
      go_wp2_with (at_builtin; refine list_appS rfl (.tmp 24) (.tmp 26) rfl V.heap.size u7 k _ (.slice O' lk.length co') rfl (own_below HL2.out.own ((Below.refl _ _).alloc (Nat.le_refl _) _)) _ 1 rfl (cell_new1 _ _ _) rfl (by omega) (by simp; omega) ?_; intro g cap w5 hown5 hg5 hat5 hlt5; refine Hid.out ?_)
      refine Lib.hid ?_
      have HLP := Lib.hid (HPU.out _ g cap w5 hown5 hg5 hat5)
      have HB5 := Lib.hid ((HB2.out.alloc HB2.out.size _).grown hg5 (by have := HB2.out.size; simp; omega) (fun j e => by have := (HLs.out.own.lt j e).1; omega))
      clear hown5 hg5 hat5
      go_wp2_with fail
      refine bodyPost_ret (v := .tuple #[.slice (some ⟨g, 0, none⟩) (k + 1) cap, .int .i64 kd, .int .i64 0]) ?_ ?_ ?_
      · simp [results, Tryz.results24, go_sem]
      · rfl
      refine ⟨HB5.out, fun h => absurd HE.out h, fun _ => ⟨k, lk, some ⟨g, 0, none⟩, cap, ⟨HWK.out, HN.out⟩, by rw [HKD.out], ?_⟩⟩
      exact HLP.out.read (by omega)
    | some l' =>
      obtain ⟨g6, cap6, rfl, hown6⟩ := hr3 l' hn
      have HN := Lib.hid hn
      have HO6 := Lib.hid hown6
      have lg6 := hown6.lt g6 rfl
      have hcap6 := own_caps hown6
      clear hr2 hr3 hn hown6
      go_wp2_with (at_builtin; refine list_appS rfl (.tmp 24) (.tmp 26) rfl V.heap.size u7 k _ (.slice O' lk.length co') rfl (own_below HL2.out.own ((Below.refl _ _).alloc (Nat.le_refl _) _)) _ 1 rfl (cell_new1 _ _ _) rfl (by omega) (by simp; omega) ?_; intro g cap w5 hown5 hg5 hat5 hlt5; refine Hid.out ?_)
      refine Lib.hid ?_
      have HLP := Lib.hid (HPU.out _ g cap w5 hown5 hg5 hat5)
      have HB5 := Lib.hid ((HV2.out.alloc HV2.out.size _).grown hg5 (by have := HV2.out.size; simp; omega) (fun j e => (HLs.out.own.lt j e).1))
      have hvlt : ∀ j, u7.ownBlock = some j → j < U.heap.size := fun j e => (HLs.out.own.lt j e).2
      have HR5 := Lib.hid (show Rd w5 (some ⟨g6, 0, none⟩) cap6 (ints l') from by
        have hl : (ints l').length = l'.length := by simp [ints]
        have hok' := len_next HOKK.out HN.out
        have h4 := (mayPB_iff.1 hok'.hp).2.2.2.1
        have hll := hok'.hr.len
        have h1 : Rd w2 (some ⟨g6, 0, none⟩) cap6 (ints l') := Rd.of_own (base := U.heap.size) (e := 3) (by rw [hl]; exact HO6.out) (by rw [hl]; omega)
        exact (h1.alloc _).grown' hg5 (fun ad e => by cases e; intro q; have := hvlt _ q; simp at this; omega))
      have HG := Lib.hid (show g ≠ g6 ∧ g < w5.heap.size ∧ g6 < w5.heap.size ∧ ∀ i, i < k → ∀ ad, As i = some ad → ad.block < w5.heap.size from by
        have z5 := hg5.size
        simp only [World.size_alloc] at z5 hat5
        refine ⟨?_, hlt5, by omega, fun i hi ad e => by have := HAS.out i hi ad e; omega⟩
        rcases hat5 with q | q
        · have := hvlt _ q; omega
        · omega)
      have HO5 := Lib.hid (fun ad (e : O' = some ad) => show ad.block < w5.heap.size from by have := (HAP.out ad e).2; have := HG.out.2.2.1; omega)
      clear hown5 hg5 hat5
      go_wp2_with fail
      go_roundw
      case rel =>
        refine ⟨k + 1, l', some ⟨g6, 0, none⟩, cap6, _, _, Lib.hid (by rw [wk, HWK.out]; exact HN.out), rfl, HR5.out, HLP.out, fun ad e => ?_, fun i hi ad e => ?_, HB5.out⟩
        · cases e
          exact ⟨fun q => HG.out.1 (by injection q), HG.out.2.2.1⟩
        · by_cases hik : i = k
          · subst hik; simp only [if_true] at e; exact HO5.out ad e
          · simp only [hik, if_false] at e; exact HG.out.2.2.2 i (by omega) ad e
      case measure => rw [hlen]; simp [lenV]; omega
theorem walk_Walk (A : Option Addr) (c : Nat) (A2 : Option Addr) (c2 : Nat) (p : PG) (L : Option Addr) (l : List Int) (cl : Nat) (w : World) (hp : Pg w A c A2 c2 p) (hr : Rd w L cl l) :
    Calls Tryz.prog 24 #[.agg #[.slice A p.costs.length c, .slice A2 p.rows.length c2], .slice L l.length cl] w (RetWk w p l) := by
  by_cases he : nextE p l = 0
  · exact walk_ok A c A2 c2 p L l cl w hp hr he
  · exact walk_bad A c A2 c2 p L l cl w hp hr _ rfl he
theorem RetWk.any {w w' : World} {p : PG} {l : List Int} {e : Ending} (h : RetWk w p l e w') : ∃ A n c kd er, e = .returned (.tuple #[.slice A n c, .int .i64 kd, .int .i64 er]) ∧ Below w.heap.size w w' ∧ er = nextE p l ∧
    (er ≠ 0 → n = 0 ∧ kd = 0) ∧ (er = 0 → ∃ k lk, n = k + 1 ∧ EndAt p (nats l) k lk ∧ kd = kindZ p lk ∧ Ls w' A c (wkL p (nats l) (k + 1))) := by
  obtain ⟨hb, h1, h2⟩ := h
  by_cases he : nextE p l = 0
  · obtain ⟨k, lk, A, c, q1, q2, q3⟩ := h2 he
    exact ⟨A, k + 1, c, _, 0, q2, hb, he.symm, fun q => absurd rfl q, fun _ => ⟨k, lk, rfl, q1, rfl, q3⟩⟩
  · exact ⟨none, 0, 0, 0, nextE p l, h1 he, hb, rfl, fun _ => ⟨rfl, rfl⟩, fun q => absurd q he⟩
end Go.Proofs.YtjcdkbalhleeeaaGreatDoor
