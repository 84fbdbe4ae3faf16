/-
  Solve: solve.whole computes what the plain words say. Conditions: the numbers are within 2^30.
-/
import Derived.Test.YtjcdkbalhleeeabSol1
import Derived.Test.YtjcdkbalhleeeabFrac1
namespace Go.Proofs.Ytjcdkbalhleeeab
open Go.RowKit

theorem wholeG_max (l : List Int) : max ((comm 0 l : Nat) : Int) 1 = wholeG l := by
  unfold wholeG
  split <;> omega
/-- A point with whole numbers is handed back. -/
def RetWh (w : World) (l : List Int) (e : Ending) (w' : World) : Prop :=
  ∃ O co, e = .returned (.agg #[.slice O l.length co, .int .i64 1]) ∧ Rd w' O co l ∧ (∀ ad, O = some ad → w.heap.size ≤ ad.block) ∧ Below w.heap.size w w'
set_option maxRecDepth 100000 in
set_option maxHeartbeats 2000000 in
theorem solve_whole (A : Option Addr) (l : List Int) (c : Nat) (w : World) (hr : Rd w A c l) (hs : smallB 1073741824 l = true) (h8 : l.length ≤ 100) :
    Calls Try.prog 67 #[.slice A l.length c] w (RetWh w (wholeZ l)) := by
  have HR := Lib.hid hr
  have HS := Lib.hid hs
  obtain ⟨hl, hc, hsm, _⟩ := hr
  have HZL := Lib.hid (wholeZ_len l)
  clear hs
  go_enter Try.func67, Try.ntmps67
  go_wp2_with fail
  have BR := Lib.hid (Blk.mk' w 40 #[.slice none 0 0, .int .i64 0])
  have HW := Lib.hid ((Below.refl w.heap.size w).alloc (Nat.le_refl _) (.cells #[.slice none 0 0, .int .i64 0] 40))
  generalize (w.alloc (.cells #[.slice none 0 0, .int .i64 0] 40)) = W at *
  go_loopw [3, 11] (fun g i wx => ∃ k : Nat, k ≤ l.length ∧ i = .int .i64 k ∧ g = .int .i64 (comm 0 (l.take k)) ∧ Below W.heap.size W wx) (fun _ i _ => l.length - (intOf i).toNat)
  case atStart => exact ⟨0, by omega, rfl, rfl, Below.refl _ _⟩
  case round =>
    obtain ⟨k, hk, rfl, rfl, hbel⟩ := hrel
    rename World => U
    have HU := Lib.hid hbel
    have HB := Lib.hid (HW.out.trans (hbel.mono HW.out.size))
    clear hbel
    by_cases hlt : k < l.length
    · obtain ⟨ad, rfl, hcl⟩ := (HR.out.below HB.out).getD_at (k := k) hlt
      have hal := World.block_lt_of_cell? _ _ hcl
      have hi0 : (k : Int) < (l.length : Int) := by omega
      have hx := (smallB_getD (m := 1073741824) (by omega)).1 HS.out k
      have hcb : comm 0 (l.take k) ≤ 1073741824 := comm_bound _ _ _ (by omega) fun x hx => by have := smallB_mem HS.out (List.mem_of_mem_take hx); omega
      have HT := Lib.hid (comm_take 0 hlt)
      have HG0 := Lib.hid (show l[k] = l.getD k 0 by simp [List.getD, List.getElem?_eq_getElem hlt])
      obtain ⟨xv, hxv⟩ : ∃ xv, l.getD k 0 = xv := ⟨_, rfl⟩
      rw [hxv] at hcl hx
      have HXV := Lib.hid hxv
      clear hxv
      obtain ⟨g0, hg0⟩ : ∃ g0, comm 0 (l.take k) = g0 := ⟨_, rfl⟩
      rw [hg0] at hcb HT ⊢
      have HG1 := Lib.hid hg0
      clear hg0
      have hw1 : IntKind.i64.wrap (-xv) = -xv := IntWalk.i64_in _ (by omega)
      go_wp2_with fail
      rw [show max xv (-xv) = ((xv.natAbs : Nat) : Int) by omega]
      have hxa : xv.natAbs ≤ 1073741824 := by omega
      go_loopw [3, 5] (fun x y wx => ∃ a b : Nat, a ≤ 1073741824 ∧ b ≤ 1073741824 ∧ Hid (Nat.gcd a b = Nat.gcd g0 xv.natAbs) ∧ x = .int .i64 a ∧ y = .int .i64 b ∧ Below U.heap.size U wx) (fun _ y _ => (intOf y).toNat)
      case atStart => exact ⟨g0, xv.natAbs, hcb, hxa, Lib.hid rfl, rfl, rfl, Below.refl _ _⟩
      case round =>
        obtain ⟨a, b, ha, hb, hg, rfl, rfl, hbel⟩ := hrel
        rename World => U1
        have HU1 := Lib.hid hbel
        clear hbel
        by_cases h0 : b = 0
        · subst h0
          have HGG := Lib.hid (show a = Nat.gcd g0 xv.natAbs by rw [← hg.out]; simp)
          clear hg
          go_wp2_with fail
          go_roundw
          case rel => exact ⟨k + 1, by omega, by go_num, by rw [HT.out, HG0.out, HXV.out, ← HGG.out], HU.out.trans (HU1.out.mono HU.out.size)⟩
          case measure => simp [intOf]; omega
        · have hz' : ((b : Int) != 0) = true := by simp; omega
          have hm : a % b < b := Nat.mod_lt _ (by omega)
          go_wp2_with fail
          go_region
          all_goals
            go_wp2_with fail
            go_roundw
            case rel => exact ⟨b, a % b, hb, by omega, Lib.hid (by rw [← hg.out, Nat.gcd_comm a b, Nat.gcd_rec b a, Nat.gcd_comm]), rfl, by simp, HU1.out.drew⟩
            case measure => simp [intOf]; omega
    · obtain rfl : k = l.length := by omega
      rw [List.take_length]
      have hwg := wholeG_pos l
      have HMX := Lib.hid (wholeG_max l)
      have hgb : wholeG l ≤ 1073741824 := by
        have hcb : comm 0 l ≤ 1073741824 := comm_bound _ _ _ (by omega) fun x hx => by have := smallB_mem HS.out hx; omega
        unfold wholeG; split <;> omega
      go_wp2_with fail
      have BQ := Lib.hid (Blk.mk' U 40 #[.slice none 0 0, .int .i64 1])
      have BR2 := Lib.hid ((BR.out.next HU.out).alloc (.cells #[.slice none 0 0, .int .i64 1] 40))
      have lR := BR.out.lt
      have zU := HU.out.size
      have HV := Lib.hid ((Below.refl U.heap.size U).alloc (Nat.le_refl _) (.cells #[.slice none 0 0, .int .i64 1] 40))
      have lV : U.heap.size + 1 ≤ (U.alloc (.cells #[.slice none 0 0, .int .i64 1] 40)).heap.size := by simp
      generalize (U.alloc (.cells #[.slice none 0 0, .int .i64 1] 40)) = V at *
      obtain ⟨g0, hg0⟩ : ∃ g0 : Int, g0 = (comm 0 l : Nat) := ⟨_, rfl⟩
      rw [← hg0] at HMX ⊢
      clear hg0
      obtain ⟨zs, hzs⟩ : ∃ zs, wholeZ l = zs := ⟨_, rfl⟩
      have HZS := Lib.hid hzs
      rw [hzs] at HZL ⊢
      go_loopw [29] (fun i wx => ∃ (k : Nat) (v : Value), k ≤ l.length ∧ i = .int .i64 k ∧ Blk wx U.heap.size 40 #[v, .int .i64 1] ∧ Blk wx w.heap.size 40 #[.slice none 0 0, .int .i64 0] ∧ wx.ownsRow (U.heap.size + 1) 2 1 v k ((zs.take k).map (Value.int .i64)) ∧ Below U.heap.size U wx) (fun i _ => l.length - (intOf i).toNat)
      case atStart => exact ⟨0, _, by omega, rfl, BQ.out, BR2.out, World.ownsRow_nil _ _ _ _, HV.out⟩
      case round =>
        obtain ⟨k, v, hk, rfl, hq, hbr, hown, hbel⟩ := hrel
        rename World => U2
        have HQ := Lib.hid hq
        have HBR := Lib.hid hbr
        have HO := Lib.hid hown
        have HU2 := Lib.hid hbel
        have z2 := hbel.size
        have lq := hq.lt
        clear hq hbr hown hbel
        by_cases hlt : k < l.length
        · obtain ⟨ad, rfl, hcl⟩ := (((HR.out.below HW.out).below HU.out).below HU2.out).getD_at (k := k) hlt
          have hal := World.block_lt_of_cell? _ _ hcl
          have hi0 : (k : Int) < (l.length : Int) := by omega
          have hx := (smallB_getD (m := 1073741824) (by omega)).1 HS.out k
          have HTK := Lib.hid (show (zs.take (k + 1)).map (Value.int .i64) = (zs.take k).map (Value.int .i64) ++ [Value.int .i64 ((l.getD k 0).tdiv (wholeG l))] by
            have hk' : k < zs.length := by rw [HZL.out]; exact hlt
            rw [List.take_succ_eq_append_getElem hk', List.map_append]
            have : zs[k] = (l.getD k 0).tdiv (wholeG l) := by
              have : zs[k] = zs.getD k 0 := by simp [List.getD, List.getElem?_eq_getElem hk']
              rw [this, ← HZS.out]
              unfold wholeZ
              simp [List.getD, List.getElem?_map, List.getElem?_eq_getElem hlt]
            rw [this]; rfl)
          obtain ⟨xv, hxv⟩ : ∃ xv, l.getD k 0 = xv := ⟨_, rfl⟩
          rw [hxv] at hcl hx HTK
          clear hxv
          have hg1 : 0 < max g0 1 := by omega
          obtain ⟨hq3, hq4⟩ := tdiv_bound 4611686018427387904 xv (max g0 1) (by omega) (by omega)
          have hz : ¬ max g0 1 = 0 := by omega
          have hw2 : IntKind.i64.wrap (xv.tdiv (max g0 1)) = xv.tdiv (max g0 1) := IntWalk.i64_in _ (by omega)
          have hq0' : U2.cell? ⟨U.heap.size, 0, none⟩ = some v := HQ.out.cell 0
          have hqf' := HQ.out.frozen 0
          go_upto_region 13 with fail
          go_region_law (refine step_app1 rfl (.tmp 34) (.tmp 39) _ _ _ 8 und_i64s inf_i64 rfl rfl _ v k _ _ (by simp [Act.eval]) ((HO.out.drew).alloc _) _ 1 (by simp [Act.eval]) (cell_new1 _ _ _) rfl (by unfold maxLen; omega) (by omega) (by simp; omega) ?_; intro g cap w1 hown1 hg1 hat hlt1; have hB1 := ((HQ.out.drew).alloc _).grown hg1 (own_ne HO.out (by omega)); have hq0 : w1.cell? ⟨U.heap.size, 0, none⟩ = some v := hB1.cell 0; have hqf := hB1.frozen 0)
          all_goals
            have HB1 := Lib.hid hB1
            have HW1 := Lib.hid hown1
            have HG1 := Lib.hid (by assumption : World.grownBy _ w1 _)
            clear hB1 hown1 hq0 hqf
            go_wp2_with fail
            go_roundw
            case rel =>
              have hb2 : Below U.heap.size U w1 := (((HU2.out.drew).alloc (by have := HU2.out.size; simp; omega) _).grown HG1.out (by have := HU2.out.size; simp; omega) (own_ge HO.out (by omega)))
              refine ⟨k + 1, _, by omega, by go_num, HB1.out.set0 0 _, (((HBR.out.drew).alloc _).grown HG1.out (own_ne HO.out (by omega))).far _ (by simp; omega), ?_, hb2.setCell (by simp) _⟩
              rw [HTK.out, ← HMX.out]
              exact ownsRow_setCell_below HW1.out (by simp) _
            case measure => simp [intOf]; omega
        · obtain rfl : k = l.length := by omega
          have hown := HO.out
          rw [← HZL.out, List.take_length] at hown
          obtain ⟨A', c', rfl, hRd, hA'⟩ := Rd.of_ownv hown rfl (by rw [HZL.out]; omega)
          have HRD := Lib.hid hRd
          have HA := Lib.hid hA'
          rw [HZL.out] at HQ
          have hp0 : U2.cell? ⟨U.heap.size, 0, none⟩ = some (.slice A' l.length c') := HQ.out.cell 0
          have hp1 : U2.cell? ⟨U.heap.size, 1, none⟩ = some (.int .i64 1) := HQ.out.cell 1
          have hr0 : U2.cell? ⟨w.heap.size, 0, none⟩ = some (.slice none 0 0) := HBR.out.cell 0
          have hr1 : U2.cell? ⟨w.heap.size, 1, none⟩ = some (.int .i64 0) := HBR.out.cell 1
          have hrf0 := HBR.out.frozen 0
          have hrf1 := HBR.out.frozen 1
          clear hown hRd hA'
          go_wp2_with fail
          refine bodyPost_ret (v := .agg #[.slice A' l.length c', .int .i64 1]) (by simp [results, Try.results67, go_sem, hr0, hr1]) rfl ?_
          unfold RetWh
          rw [HZS.out, HZL.out]
          refine ⟨A', c', rfl, ((HRD.out).setCell_out _ _ (fun ad e => by have := HA.out ad e; simp; omega)).setCell_out _ _ (fun ad e => by have := HA.out ad e; simp; omega), fun ad e => by have := HA.out ad e; omega, ?_⟩
          exact ((HW.out.trans ((HU.out.trans (HU2.out.mono zU)).mono HW.out.size)).setCell (Nat.le_refl _) _).setCell (Nat.le_refl _) _
end Go.Proofs.Ytjcdkbalhleeeab
