/-
  Solve: solve.row computes what the plain words say.
-/
import Derived.Test.YtjcdkbalhleeeabSol3
namespace Go.Proofs.Ytjcdkbalhleeeab
open Go.RowKit

theorem own_grown {w w' : World} {base n : Nat} {e : TypeId} {v : Value} {xs : List Value} (h : w.ownsRow base e 1 v n xs) {row : Option Nat} (hg : w.grownBy w' row) (hne : ∀ b, v.ownBlock = some b → some b ≠ row) : w'.ownsRow base e 1 v n xs :=
  own_same h fun b hb => hg.block b (h.lt b hb).2 (hne b hb)
def rnL (p : PG) (l : List Nat) (k i : Nat) : List Value := (List.range i).map fun j => Value.int .i64 (rnZ p l k j)
def rdL (p : PG) (l : List Nat) (i : Nat) : List Value := (List.range i).map fun j => Value.int .i64 (rdZ p l j)
theorem rnL_succ (p : PG) (l : List Nat) (k i : Nat) : rnL p l k (i + 1) = rnL p l k i ++ [.int .i64 (rnZ p l k i)] := by unfold rnL; rw [List.range_succ, List.map_append]; rfl
theorem rdL_succ (p : PG) (l : List Nat) (i : Nat) : rdL p l (i + 1) = rdL p l i ++ [.int .i64 (rdZ p l i)] := by unfold rdL; rw [List.range_succ, List.map_append]; rfl
/-- The numbers, of which the first i are as often as they are to be. -/
def rwL (p : PG) (l : List Nat) (k i : Nat) : List Int := (List.range p.rows.length).map fun j => if j < i then rnZ p l k j * ((allN p l p.rows.length : Int).tdiv (rdZ p l j)) else rnZ p l k j
theorem rwL_len (p : PG) (l : List Nat) (k i : Nat) : (rwL p l k i).length = p.rows.length := by simp [rwL]
theorem rwL_zero (p : PG) (l : List Nat) (k : Nat) : (rwL p l k 0).map (Value.int .i64) = rnL p l k p.rows.length := by simp [rwL, rnL]
theorem rwL_end (p : PG) (l : List Nat) (k : Nat) : rwL p l k p.rows.length = rowZ p l k := by
  unfold rwL rowZ
  apply List.map_congr_left
  intro j hj
  rw [if_pos (List.mem_range.1 hj)]
theorem rwL_at {p : PG} {l : List Nat} {k i : Nat} (hi : i < p.rows.length) : (rwL p l k i).getD i 0 = rnZ p l k i := by
  unfold rwL; rw [getD_map_range hi, if_neg (Nat.lt_irrefl _)]
theorem rwL_succ {p : PG} {l : List Nat} {k i : Nat} (_hi : i < p.rows.length) : rwL p l k (i + 1) = (rwL p l k i).set i (rnZ p l k i * ((allN p l p.rows.length : Int).tdiv (rdZ p l i))) := by
  apply List.ext_getElem
  · simp [rwL]
  · intro j h1 h2
    simp only [rwL, List.getElem_map, List.getElem_range, List.getElem_set]
    by_cases hj : i = j
    · subst hj; rw [if_pos (by omega), if_pos rfl]
    · rw [if_neg hj]
      by_cases hji : j < i
      · rw [if_pos (by omega), if_pos hji]
      · rw [if_neg (by omega), if_neg hji]
set_option maxRecDepth 100000 in
set_option maxHeartbeats 4000000 in
theorem solve_row (A : Option Addr) (c : Nat) (A2 : Option Addr) (c2 : Nat) (p : PG) (L : Option Addr) (l : List Int) (cl k : Nat) (w : World) (hp : Pg w A c A2 c2 p) (hr : Rd w L cl l) (h0 : lookE p l = 0) (hk : k < l.length) :
    Calls Try.prog 111 #[.agg #[.slice A p.costs.length c, .slice A2 p.rows.length c2], .slice L l.length cl, .int .i64 k] w fun e w' => ∃ O co, e = .returned (.slice O p.rows.length co) ∧ Rd w' O co (rowZ p (nats l) k) ∧ (∀ ad, O = some ad → w.heap.size ≤ ad.block) ∧ Below w.heap.size w w' := by
  have HP := Lib.hid hp
  have HL := Lib.hid hr
  have HN := Lib.hid (look_eq h0)
  have HL0 := Lib.hid h0
  obtain ⟨q1, q2, q3⟩ := look_parts h0
  have HB0 := Lib.hid (show Bs p (nats l) from ⟨q1, (right_nats q2).1, q3⟩)
  have h4 := (mayPB_iff.1 q1).2.2.2.1
  have h5 := (mayPB_iff.1 q1).2.1
  obtain ⟨⟨hl, hc, hsm, _⟩, ⟨hl2, hc2, hsm2, _⟩⟩ := hp
  obtain ⟨hll, hlc, hls, _⟩ := hr
  have hnl : (nats l).length = l.length := by simp [nats]
  have HNL := Lib.hid hnl
  clear q1 q2 q3 hnl
  go_enter Try.func111, Try.ntmps111
  go_upto_region 1 with fail
  have BP := Lib.hid (Blk.mk' w 25 #[.slice A p.costs.length c, .slice A2 p.rows.length c2])
  have HW := Lib.hid ((Below.refl w.heap.size w).alloc (Nat.le_refl _) (.cells #[.slice A p.costs.length c, .slice A2 p.rows.length c2] 25))
  generalize (w.alloc (.cells #[.slice A p.costs.length c, .slice A2 p.rows.length c2] 25)) = W at *
  have zW := HW.out.size
  have p0 : W.cell? ⟨w.heap.size, 0, none⟩ = some (.slice A p.costs.length c) := BP.out.cell 0
  have p1 : W.cell? ⟨w.heap.size, 1, none⟩ = some (.slice A2 p.rows.length c2) := BP.out.cell 1
  have hm1 : 1 ≤ p.rows.length := (mayPB_iff.1 HB0.out.hp).2.2.1
  go_wp2_with fail
  go_loopw [7, 8, 9, 19] (fun s7 s8 s9 s19 wx => ∃ i : Nat, i ≤ p.rows.length ∧ s19 = .int .i64 i ∧ s9 = .int .i64 (allN p (nats l) i) ∧ wx.ownsRow W.heap.size 2 1 s7 i (rnL p (nats l) k i) ∧ wx.ownsRow W.heap.size 2 1 s8 i (rdL p (nats l) i) ∧
    (∀ b, s7.ownBlock = some b → s8.ownBlock ≠ some b) ∧ Below W.heap.size W wx) (fun _ _ _ s19 _ => p.rows.length - (intOf s19).toNat)
  case atStart => exact ⟨0, by omega, rfl, rfl, World.ownsRow_nil _ _ _ _, World.ownsRow_nil _ _ _ _, fun b e => by simp [Value.ownBlock] at e, Below.refl _ _⟩
  case round =>
    obtain ⟨i, hi, rfl, rfl, hn, hd, hne, hbel⟩ := hrel
    rename World => U
    have HU := Lib.hid hbel
    have HB := Lib.hid (HW.out.trans (hbel.mono zW))
    have HNU := Lib.hid hn
    have HDE := Lib.hid hd
    have HNE := Lib.hid hne
    have u0 := (hbel.cell (World.block_lt_of_cell? _ _ p0)).trans p0
    have u1 := (hbel.cell (World.block_lt_of_cell? _ _ p1)).trans p1
    have zU := hbel.size
    clear hbel hn hd hne
    by_cases hlt : i < p.rows.length
    · have hi0 : (i : Int) < (p.rows.length : Int) := by omega
      have hCH := Lib.hid (fun (u : World) (hu : Below U.heap.size U u) => change_n A c A2 c2 p L l cl (p.costs.length + i) u ((HP.out.below HB.out).below hu) ((HL.out.below HB.out).below hu) HL0.out (by omega))
      go_wp2_with fail
      rw [show (p.costs.length : Int) + (i : Int) = ((p.costs.length + i : Nat) : Int) by omega]
      refine (hCH.out _ (Below.refl _ _)).mono ?_
      rintro e w1 ⟨O, co, rfl, hO, hb1⟩
      have H1 := Lib.hid (HU.out.trans (hb1.mono zU))
      have z1 := hb1.size
      have HNU1 := Lib.hid (own_below HNU.out hb1)
      have HDE1 := Lib.hid (own_below HDE.out hb1)
      obtain ⟨ao, rfl, hco⟩ := hO.getD_at (k := k) (by rw [chL_len, HNL.out]; exact hk)
      rw [chL_at (by rw [HNL.out]; exact hk), show chN p (nats l) (p.costs.length + i) k = rnZ p (nats l) k i from rfl] at hco
      rw [show (lookN (qOf p (p.costs.length + i)) (nats l)).xd = rdZ p (nats l) i from rfl]
      have hao := World.block_lt_of_cell? _ _ hco
      have hocap := hO.le
      rw [chL_len, HNL.out] at hocap
      have hoc := hO.cap
      have hk0 : (k : Int) < (l.length : Int) := by omega
      have HNS := Lib.hid (rnL_succ p (nats l) k i)
      have HDS := Lib.hid (rdL_succ p (nats l) i)
      have hrd := rd_pos HB0.out i
      have hal := all_le HB0.out i
      have hap := all_pos HB0.out i
      have hdl : (rdZ p (nats l) i).natAbs ≤ 497664 := by
        have := Nat.le_of_dvd (by have := HB0.out.hd; omega) (rd_dvd HB0.out i)
        have := den_bound HB0.out.hp HB0.out.hr.len
        omega
      have HAL := Lib.hid (show allN p (nats l) (i + 1) = Nat.lcm (allN p (nats l) i) (rdZ p (nats l) i).natAbs from rfl)
      obtain ⟨rn, hrn⟩ : ∃ rn, rnZ p (nats l) k i = rn := ⟨_, rfl⟩
      obtain ⟨d, hdd⟩ : ∃ d : Nat, rdZ p (nats l) i = d := ⟨(rdZ p (nats l) i).natAbs, by omega⟩
      obtain ⟨a, haa⟩ : ∃ a : Nat, allN p (nats l) i = a := ⟨_, rfl⟩
      rw [hrn] at hco HNS
      rw [hdd] at HDS hrd hdl HAL ⊢
      rw [haa] at hal hap HAL ⊢
      rw [Int.natAbs_natCast] at hdl HAL
      clear hrn hdd haa hO hb1 u0 u1
      go_wp2_with (first
        | (at_builtin; refine list_app1 rfl (.tmp 33) (.tmp 38) _ _ _ 8 und_i64s inf_i64 rfl rfl W.heap.size u7 i _ _ rfl (HNU1.out.alloc _) _ 1 rfl (cell_new1 _ _ _) rfl (by unfold maxLen; omega) (by omega) (by simp; omega) ?_; intro g cap w5 hown5 hg5 hat5 hlt5; have HO5 := Lib.hid hown5; have HD5 := Lib.hid (own_grown (HDE1.out.alloc _) hg5 (fun b e q => HNE.out b q.symm e)); have H5 := Lib.hid ((H1.out.alloc (by have := H1.out.size; omega) _).grown hg5 (by have := H1.out.size; simp; omega) (own_ge HNU.out (Nat.le_refl _))); have HAT5 := Lib.hid (show ∀ b, u8.ownBlock = some b → g ≠ b from fun b e q => by rcases hat5 with r | r; (exact HNE.out b (q ▸ r) e); (have := (HDE1.out.lt b e).2; simp at r; omega)); clear hown5 hg5 hat5)
        | (at_builtin; refine list_app1 rfl (.tmp 40) (.tmp 42) _ _ _ 8 und_i64s inf_i64 rfl rfl W.heap.size u8 i _ _ rfl (HD5.out.alloc _) _ 1 rfl (cell_new1 _ _ _) rfl (by unfold maxLen; omega) (by omega) (by have := H5.out.size; simp; omega) ?_; intro g6 cap6 w6 hown6 hg6 hat6 hlt6; have HO6 := Lib.hid hown6; have HN6 := Lib.hid (own_grown (HO5.out.alloc _) hg6 (fun b e q => HAT5.out b q.symm (by simpa [Value.ownBlock] using e))); have H6 := Lib.hid ((H5.out.alloc H5.out.size _).grown hg6 (by have := H5.out.size; simp; omega) (own_ge HDE.out (Nat.le_refl _))); have HNE6 := Lib.hid (show g ≠ g6 from fun q => by rcases hat6 with r | r; (exact HAT5.out g6 r q); (simp at r; omega)); clear hown6 hg6 hat6))
      have hd0 : 0 < d := by omega
      have z6 := H6.out.size
      go_loopw [9, 13] (fun s9 s13 wx => ∃ n : Nat, 1 ≤ n ∧ n ≤ d ∧ s13 = .int .i64 n ∧ s9 = .int .i64 a ∧ Hid (∀ q, 0 < q → q < n → ¬ d ∣ a * q) ∧ Below w6.heap.size w6 wx) (fun _ s13 _ => d + 1 - (intOf s13).toNat)
      case atStart => exact ⟨1, by omega, by omega, rfl, rfl, Lib.hid fun q h1 h2 => by omega, Below.refl _ _⟩
      case round =>
        obtain ⟨n, hn1, hn2, rfl, rfl, hno, hb7⟩ := hrel
        rename World => U7
        have H7 := Lib.hid hb7
        clear hb7
        have han : a * n ≤ 497664 * 497664 := Nat.mul_le_mul hal (by omega)
        have hcm : (a : Int) * (n : Int) = ((a * n : Nat) : Int) := by simp
        have hw1 : IntKind.i64.wrap ((a : Int) * (n : Int)) = (a : Int) * (n : Int) := IntWalk.i64_in _ (by rw [hcm]; omega)
        have hz : ¬ (d : Int) = 0 := by omega
        by_cases hdv : d ∣ a * n
        · have ht : ((a : Int) * (n : Int)).tmod (d : Int) = 0 := by
            rw [hcm, show ((a * n : Nat) : Int).tmod (d : Int) = ((a * n % d : Nat) : Int) from rfl, Nat.mod_eq_zero_of_dvd hdv]; rfl
          have HLC := Lib.hid (show (a * n : Nat) = allN p (nats l) (i + 1) by rw [HAL.out]; exact lcm_least hap (by omega) hdv (fun q h1 h2 => hno.out q h1 h2))
          have HCM := Lib.hid hcm
          clear hno hdv hcm han
          go_wp2_with fail
          go_roundw
          case rel =>
            refine ⟨i + 1, by omega, by go_num, by rw [HCM.out, HLC.out], by rw [HNS.out]; exact own_below HN6.out H7.out, by rw [HDS.out]; exact own_below HO6.out H7.out, fun b e q => ?_, H6.out.trans (H7.out.mono z6)⟩
            simp only [Value.ownBlock, Option.some.injEq] at e q
            exact HNE6.out (e.trans q.symm)
          case measure => simp [intOf]; omega
        · have hlt' : n < d := by
            rcases Nat.lt_or_ge n d with h | h
            · exact h
            · exact absurd (show d ∣ a * n by have : n = d := by omega
                                              rw [this]; exact Nat.dvd_mul_left _ _) hdv
          have HNO := Lib.hid (show ∀ q, 0 < q → q < n + 1 → ¬ d ∣ a * q from fun q h1 h2 => by
            by_cases e : q = n
            · subst e; exact hdv
            · exact hno.out q h1 (by omega))
          obtain ⟨tv, htv⟩ : ∃ tv, ((a : Int) * (n : Int)).tmod (d : Int) = tv := ⟨_, rfl⟩
          have ht0 : (tv == 0) = false := by
            have : ¬ tv = 0 := fun q => hdv (by
              rw [← htv, hcm, show ((a * n : Nat) : Int).tmod (d : Int) = ((a * n % d : Nat) : Int) from rfl] at q
              exact Nat.dvd_of_mod_eq_zero (by omega))
            simpa using this
          clear hno hdv hcm han
          go_wp2_with fail
          go_roundw
          case rel => exact ⟨n + 1, by omega, by omega, by go_num, rfl, HNO, H7.out⟩
          case measure => simp [intOf]; omega
    · obtain rfl : i = p.rows.length := by omega
      obtain ⟨g, cap, rfl⟩ := own_some HNU.out (by omega)
      obtain ⟨g6, cap6, rfl⟩ := own_some HDE.out (by omega)
      have HGG := Lib.hid (show g6 ≠ g from fun q => HNE.out g rfl (by rw [q]; rfl))
      have HN0 := Lib.hid (show U.ownsRow W.heap.size 2 1 (.slice (some ⟨g, 0, none⟩) p.rows.length cap) p.rows.length ((rwL p (nats l) k 0).map (Value.int .i64)) by rw [rwL_zero]; exact HNU.out)
      have lg := HNU.out.lt g rfl
      obtain ⟨hcap1, hcap2⟩ := own_caps HNU.out
      obtain ⟨hcap3, hcap4⟩ := own_caps HDE.out
      have hal := all_le HB0.out p.rows.length
      obtain ⟨a, haa⟩ : ∃ a : Nat, allN p (nats l) p.rows.length = a := ⟨_, rfl⟩
      have HAA := Lib.hid haa
      rw [haa] at hal ⊢
      clear haa u0 u1
      go_wp2_with fail
      go_loopw [58] (fun s58 wx => ∃ i : Nat, i ≤ p.rows.length ∧ s58 = .int .i64 i ∧ wx.ownsRow W.heap.size 2 1 (.slice (some ⟨g, 0, none⟩) p.rows.length cap) p.rows.length ((rwL p (nats l) k i).map (Value.int .i64)) ∧ wx.ownsRow W.heap.size 2 1 (.slice (some ⟨g6, 0, none⟩) p.rows.length cap6) p.rows.length (rdL p (nats l) p.rows.length) ∧ Below W.heap.size W wx) (fun s58 _ => p.rows.length - (intOf s58).toNat)
      case atStart => exact ⟨0, by omega, rfl, HN0.out, HDE.out, HU.out⟩
      case round =>
        obtain ⟨i, hi, rfl, hn, hd, hbel⟩ := hrel
        rename World => U5
        have HN5 := Lib.hid hn
        have HD5 := Lib.hid hd
        have H5 := Lib.hid hbel
        have lg5 := (hn.lt g rfl).2
        clear hn hd hbel
        by_cases hlt : i < p.rows.length
        · have hi0 : (i : Int) < (p.rows.length : Int) := by omega
          have c1 := own_cell' HN5.out i (.int .i64 (rnZ p (nats l) k i)) (by rw [map_at_int (by rw [rwL_len]; exact hlt), rwL_at hlt])
          have f1 := own_free' HN5.out i
          have e2 := own_cell' HD5.out i (.int .i64 (rdZ p (nats l) i)) (by simp [rdL, hlt])
          have hrd := rd_pos HB0.out i
          have hz : ¬ rdZ p (nats l) i = 0 := by omega
          have HST := Lib.hid (rwL_succ (p := p) (l := nats l) (k := k) hlt)
          rw [HAA.out] at HST
          have hrs := (smallB_getD (m := 497664) (by omega)).1 (row_small HB0.out (k := k) (by rw [HNL.out]; exact hk)) i
          rw [row_at k hlt, HAA.out] at hrs
          obtain ⟨hq1, hq2⟩ := tdiv_bound 497664 (a : Int) (rdZ p (nats l) i) (by omega) (by omega)
          obtain ⟨rn, hrn⟩ : ∃ rn, rnZ p (nats l) k i = rn := ⟨_, rfl⟩
          obtain ⟨rd, hrdd⟩ : ∃ rd, rdZ p (nats l) i = rd := ⟨_, rfl⟩
          rw [hrn] at c1 HST hrs
          rw [hrdd] at e2 hrd hz HST hrs hq1 hq2
          have hdv : (a : Int).tdiv rd = (a : Int) / rd := Int.tdiv_eq_ediv_of_nonneg (by omega)
          rw [hdv] at HST hrs hq1 hq2
          have hw1 : IntKind.i64.wrap ((a : Int) / rd) = (a : Int) / rd := IntWalk.i64_in _ (by omega)
          have hw2 : IntKind.i64.wrap (rn * ((a : Int) / rd)) = rn * ((a : Int) / rd) := IntWalk.i64_in _ (by omega)
          clear hdv
          clear hrn hrdd
          go_wp2_with fail
          go_still_tail 9, (by kernel_rfl)
          go_wp2_with fail
          go_roundw
          case rel =>
            refine ⟨i + 1, by omega, by go_num, by rw [HST.out, ← map_set_int]; exact (own_put HN5.out i _).drew, (own_far HD5.out _ (fun q => HGG.out (by simpa [Value.ownBlock] using q))).drew, (H5.out.setCell lg.1 _).drew⟩
          case measure => simp [intOf]; omega
        · obtain rfl : i = p.rows.length := by omega
          have hown := HN5.out
          rw [rwL_end] at hown
          have H5' := Lib.hid (HW.out.trans (H5.out.mono zW))
          go_wp2_with fail
          go_ret
          exact ⟨some ⟨g, 0, none⟩, cap, rfl, Rd.of_own (base := W.heap.size) (e := 2) (by rw [rowZ_len]; exact hown) (by rw [rowZ_len]; omega), fun ad e => (by cases e; exact Nat.le_trans zW lg.1), H5'.out⟩
end Go.Proofs.Ytjcdkbalhleeeab
