/-
  Contracts of functions and plain laws that later parts of the proof use. The conditions stand in each theorem.
-/
import Derived.Test.YtjcdkbalhleeeaaGreatDoorG06
import Derived.Test.YtjcdkbalhleeeaaGreatDoorG12
import Derived.Test.YtjcdkbalhleeeaaGreatDoorG01
import Derived.Deep.DeepCutAuto
import Derived.StillTailTactics
namespace Go.Proofs.YtjcdkbalhleeeaaGreatDoor
open Go.RowKit
def rowsOf (O : Nat) (g : Nat → Nat) (m : Nat) (b : Nat) : Prop := b = O ∨ ∃ i, i < m ∧ b = g i
structure St (wr : World) (w : World) (O : Nat) (g : Nat → Nat) (m k : Nat) (A A' : Nat → Nat → Int) (g' c' : Nat → Nat) (tv : Int) (M : Nat → Nat → Int) : Prop where
 tv1 : tv = 1 ∨ tv = -1
 small : Small A' m
 ne : lst A' k ≠ 0
 sign : ∀ cs : List Nat, cs.length = m → tv * dt A' (List.range m) cs = dt A (List.range m) cs
 mat : Mat wr O g' c' m (m + 1) M
 sub : ∀ i, i < m → ∃ i', i' < m ∧ g' i = g i'
 turned : Turned (rowsOf O g m) w wr
def RetW (w : World) (O : Nat) (g : Nat → Nat) (m : Nat) (A : Nat → Nat → Int) (e : Ending) (w' : World) : Prop :=
 Turned (rowsOf O g m) w w' ∧ ((dtm A m = 0 ∧ e = .returned (.tuple #[.slice none 0 0, .int .i64 0])) ∨
  (dtm A m ≠ 0 ∧ ∃ S c, e = .returned (.tuple #[.slice S m c, .int .i64 (dtm A m)]) ∧ Rd w' S c ((List.range m).map fun k => dtp A m k m) ∧ ∀ ad, S = some ad → w.heap.size ≤ ad.block))
theorem ent_tdiv (A : Nat → Nat → Int) {k i : Nat} (j : Nat) (hk : k < 4) (hi : i < 4) (hne : i ≠ k) (hl : lst A k ≠ 0) :
    (ent A k i j * ent A k k k - ent A k i k * ent A k k j).tdiv (lst A k) = ent A (k + 1) i j := by
 rw [ent_step A j hk hi hne]; exact Int.mul_tdiv_cancel_left _ hl
set_option maxRecDepth 100000 in
set_option maxHeartbeats 4000000 in
theorem corner_whole (O c0 : Nat) (g c : Nat → Nat) (m : Nat) (A : Nat → Nat → Int) (w : World) (hM : Mat w O g c m (m + 1) A) (h1 : 1 ≤ m) (h4 : m ≤ 4) (hs : Small A m) (hc0 : m ≤ c0) (hc1 : c0 ≤ 9223372036854775807) :
    Calls Tryz.prog 49 #[.slice (some ⟨O, 0, none⟩) m c0] w (RetW w O g m A) := by
 have HM := h_ hM
 have HS := h_ hs
 clear hM hs
 go_enter Tryz.func49, Tryz.ntmps49
 go_wp2_with fail
 go_loopw [5, 6, 17] (fun l t i wr => ∃ (k : Nat) (A' : Nat → Nat → Int) (g' c' : Nat → Nat) (tv : Int), k ≤ m ∧ i = .int .i64 k ∧ l = .int .i64 (lst A' k) ∧ t = .int .i64 tv ∧ St wr w O g m k A A' g' c' tv (fun i j => ent A' k i j)) (fun _ _ i _ => m - (intOf i).toNat)
 case atStart => exact ⟨0, A, g, c, 1, by omega, rfl, rfl, rfl, ⟨Or.inl rfl, HS.out, by rw [lst_zero]; decide, fun cs _ => by omega, HM.out.congr fun i j _ _ => (ent_zero A i j).symm, fun i hi => ⟨i, hi, rfl⟩, Turned.refl _ _⟩⟩
 case round =>
  obtain ⟨k, A', g', c', tv, hk, rfl, rfl, rfl, hst⟩ := hrel
  have HST := h_ hst
  clear hst
  by_cases hlt : k < m
  ·go_wp2_with fail
   go_loop [8] (fun a => ∃ b : Nat, k ≤ b ∧ b ≤ m ∧ a = .int .i64 b ∧ ∀ i, k ≤ i → i < b → ent A' k i k = 0) (fun a => m - (intOf a).toNat)
   case atStart => exact ⟨k, by omega, by omega, rfl, fun i h1 h2 => by omega⟩
   case round =>
    obtain ⟨b, hb1, hb2, rfl, hz⟩ := hrel
    have HZ := h_ hz
    clear hz
    by_cases hbm : b < m
    ·have k0 := HST.out.mat.out b hbm
     have k1 := HST.out.mat.row b k hbm (by omega)
     have k2 := HST.out.mat.lt b hbm
     have k3 := HST.out.mat.olt
     obtain ⟨k4, k5⟩ := HST.out.mat.le b hbm
     by_cases hp : ent A' k b k = 0
     ·have HP := h_ hp
      have hp' : (ent A' k b k == 0) = true := by simpa using hp
      clear hp
      go_wp2_with fail
      go_round
      case rel => exact ⟨b + 1, by omega, by omega, by go_num, fun i h1 h2 => by
       by_cases e : i = b
       ·subst e; exact HP.out
       ·exact HZ.out i h1 (by omega)⟩
      case measure => simp [intOf]; omega
     ·have hp' : (ent A' k b k == 0) = false := by simpa using hp
      have HP := h_ hp
      clear hp
      have hbe : ((b : Int) == (m : Int)) = false := by simp; omega
      go_upto_if 41 with fail
      go_cut [6] (fun s6 wx => ∃ (A2 : Nat → Nat → Int) (g2 c2 : Nat → Nat) (tv2 : Int), s6 = .int .i64 tv2 ∧ ent A2 k k k ≠ 0 ∧ lst A2 k = lst A' k ∧ St wx w O g m k A A2 g2 c2 tv2 (fun i j => ent A2 k i j))
      case first =>
       by_cases hbk : b = k
       ·subst hbk
        have hbz : ((b : Int) != (b : Int)) = false := by simp
        go_wp2_with fail
        go_meet
        exact ⟨A', g', c', tv, rfl, HP.out, rfl, HST.out⟩
       ·have hbz : ((b : Int) != (k : Int)) = true := by simp; omega
        have q0 := HST.out.mat.out k hlt
        have q1 := HST.out.mat.ofree k hlt
        have q2 := HST.out.mat.ofree b hbm
        have hn1 : IntKind.i64.wrap (-tv) = -tv := IntWalk.i64_in _ (by have := HST.out.tv1; omega)
        have hb0 : (b : Int) < (m : Int) := by omega
        have hb5 : (k : Int) < (m : Int) := by omega
        go_wp2_with fail
        go_region
        go_wp2_with fail
        go_meet
        have hst := HST.out
        have hent : ∀ i j, i < m → ent (swA A' k b) k i j = ent A' k (sw k b i) j := fun i j hi => by
         by_cases hik : i < k
         ·rw [ent_swap_up A' hb1 hik]; unfold sw; rw [if_neg (by omega), if_neg (by omega)]
         ·rw [ent_swap A' hb1 (by omega)]
        refine ⟨swA A' k b, fun i => g' (sw k b i), fun i => c' (sw k b i), -tv, rfl, ?_, lst_swap A' hb1, ?_, hst.small.swA k b, ?_, ?_, ?_, ?_, ?_⟩
        ·rw [hent k k hlt]; have : sw k b k = b := by unfold sw; rw [if_pos rfl]
         rw [this]; exact HP.out
        ·rcases hst.tv1 with h | h <;> omega
        ·rw [lst_swap A' hb1]; exact hst.ne
        ·intro cs hcs
         rw [dt_swap A' h4 (show k < b by omega) hbm hcs, ← hst.sign cs hcs]; grind
        ·first
         | exact ((hst.mat.swap hlt hbm (fun e => hbk e.symm)).congr fun i j hi _ => (hent i j hi).symm)
         | exact ((hst.mat.swap hlt hbm (fun e => hbk e.symm)).congr fun i j hi _ => (hent i j hi).symm).drew
         | exact ((hst.mat.swap hlt hbm (fun e => hbk e.symm)).congr fun i j hi _ => (hent i j hi).symm).drewN _
        ·intro i hi; exact hst.sub _ (sw_lt hlt hbm hi)
        ·first
         | exact (hst.turned.setCell (Or.inl rfl) _).setCell (Or.inl rfl) _
         | exact ((hst.turned.setCell (Or.inl rfl) _).setCell (Or.inl rfl) _).drew
         | exact ((hst.turned.setCell (Or.inl rfl) _).setCell (Or.inl rfl) _).drewN _
      case rest =>
       obtain ⟨A2, g2, c2, tv2, rfl, hpiv, hlst, hst2⟩ := hcut
       have HPV := h_ hpiv
       have HST2 := h_ hst2
       have HLS := h_ hlst
       clear hpiv hst2 hlst
       go_wp2_with fail
       go_loopw [59] (fun i wr => ∃ q : Nat, q ≤ m ∧ i = .int .i64 q ∧ St wr w O g m k A A2 g2 c2 tv2 (fun i j => if i < q ∧ i ≠ k then ent A2 (k + 1) i j else ent A2 k i j)) (fun i _ => m - (intOf i).toNat)
       case atStart => exact ⟨0, by omega, rfl, HST2.out.tv1, HST2.out.small, HST2.out.ne, HST2.out.sign, HST2.out.mat.congr fun i j _ _ => by rw [if_neg (by omega)], HST2.out.sub, HST2.out.turned⟩
       case round =>
        obtain ⟨q, hq, rfl, hsq⟩ := hrel
        have HSQ := h_ hsq
        clear hsq
        by_cases hqm : q < m
        ·by_cases hqk : q = k
         ·have hqz : ((q : Int) == (k : Int)) = true := by simp; omega
          have HQK := h_ hqk
          clear hqk
          go_wp2_with fail
          go_roundw
          case rel => exact ⟨q + 1, by omega, by go_num, HSQ.out.tv1, HSQ.out.small, HSQ.out.ne, HSQ.out.sign, HSQ.out.mat.congr fun i j _ _ => by
           by_cases e : i < q ∧ i ≠ k
           ·rw [if_pos e, if_pos ⟨by omega, e.2⟩]
           ·have := HQK.out; rw [if_neg e, if_neg (by omega)], HSQ.out.sub, HSQ.out.turned⟩
          case measure => simp [intOf]; omega
         ·have hqz : ((q : Int) == (k : Int)) = false := by simp; omega
          have r0 := HSQ.out.mat.out q hqm
          have r1 := HSQ.out.mat.row q k hqm (by omega)
          rw [if_neg (by omega)] at r1
          obtain ⟨r2, r3⟩ := HSQ.out.mat.le q hqm
          have r4 := HSQ.out.mat.lt q hqm
          have r5 := HSQ.out.mat.olt
          have hq5 : (q : Int) < (m : Int) := by omega
          go_wp2_with fail
          rename World => wq
          go_loopw [77] (fun i wx => ∃ jj : Nat, jj ≤ m + 1 ∧ i = .int .i64 jj ∧ St wx w O g m k A A2 g2 c2 tv2 (fun i j => if (i < q ∧ i ≠ k) ∨ (i = q ∧ j < jj) then ent A2 (k + 1) i j else ent A2 k i j)) (fun i _ => m + 1 - (intOf i).toNat)
          case atStart => exact ⟨0, by omega, rfl, HSQ.out.tv1, HSQ.out.small, HSQ.out.ne, HSQ.out.sign, HSQ.out.mat.congr fun i j _ _ => by
           by_cases e : i < q ∧ i ≠ k
           ·rw [if_pos e, if_pos (Or.inl e)]
           ·rw [if_neg e, if_neg (by omega)], HSQ.out.sub, HSQ.out.turned⟩
          case round =>
           obtain ⟨jj, hj, rfl, hsj⟩ := hrel
           have HSJ := h_ hsj
           clear hsj r0 r1
           by_cases hjm : jj < m + 1
           ·have e0 := HSJ.out.mat.out q hqm
            have e1 := HSJ.out.mat.out k hlt
            have e2 := HSJ.out.mat.row q jj hqm hjm
            rw [if_neg (by omega)] at e2
            have e3 := HSJ.out.mat.row k k hlt (by omega)
            rw [if_neg (by omega)] at e3
            have e4 := HSJ.out.mat.row k jj hlt hjm
            rw [if_neg (by omega)] at e4
            have e5 := HSJ.out.mat.free q jj hqm hjm
            obtain ⟨e6, e7⟩ := HSJ.out.mat.le k hlt
            have e8 := HSJ.out.mat.lt q hqm
            have e9 := HSJ.out.mat.lt k hlt
            have b1 := ent_within jj HSJ.out.small h4 hk hqm
            have b2 := ent_within k HSJ.out.small h4 hk hlt
            have b3 := ent_within jj HSJ.out.small h4 hk hlt
            have b4 := ent_within k HSJ.out.small h4 hk hqm
            have HE := h_ (ent_tdiv A2 (k := k) (i := q) jj (by omega) (by omega) hqk HSJ.out.ne)
            rw [HLS.out] at HE
            have hd : lst A' k ≠ 0 := by rw [← HLS.out]; exact HSJ.out.ne
            have hd0 : (lst A' k == 0) = false := by simpa using hd
            have hk5 : (k : Int) < (m : Int) := by omega
            have hj5 : (jj : Int) < ((m : Int) + 1) := by omega
            have hk6 : (k : Int) < ((m : Int) + 1) := by omega
            have m1 := mul_bound (ent A2 k q jj) (ent A2 k k k) 16588800 16588800 b1.1 b1.2 b2.1 b2.2
            have m2 := mul_bound (ent A2 k q k) (ent A2 k k jj) 16588800 16588800 b4.1 b4.2 b3.1 b3.2
            generalize ent A2 k q jj = x at *
            generalize ent A2 k k k = pv at *
            generalize ent A2 k k jj = y at *
            generalize ent A2 k q k = f at *
            generalize lst A' k = d at *
            have hw1 : IntKind.i64.wrap (x * pv) = x * pv := IntWalk.i64_in _ (by omega)
            have hw2 : IntKind.i64.wrap (f * y) = f * y := IntWalk.i64_in _ (by omega)
            have hw3 : IntKind.i64.wrap (x * pv - f * y) = x * pv - f * y := IntWalk.i64_in _ (by omega)
            have ht := tdiv_bound 600000000000000 (x * pv - f * y) d (by omega) (by omega)
            have hw4 : IntKind.i64.wrap ((x * pv - f * y).tdiv d) = (x * pv - f * y).tdiv d := IntWalk.i64_in _ (by omega)
            clear m1 m2 ht b1 b2 b3 b4
            go_wp2_with fail
            go_still_tail 33, (by kernel_rfl)
            go_wp2_with fail
            go_roundw
            case rel =>
             have hst := HSJ.out
             refine ⟨jj + 1, by omega, by go_num, hst.tv1, hst.small, hst.ne, hst.sign, ?_, hst.sub, ?_⟩
             ·rw [HE.out]
              refine ((hst.mat.drew).put hqm hjm _).congr fun i j _ _ => ?_
              by_cases e1 : i = q ∧ j = jj
              ·obtain ⟨rfl, rfl⟩ := e1
               rw [if_pos ⟨rfl, rfl⟩, if_pos (Or.inr ⟨rfl, by omega⟩)]
              ·rw [if_neg e1]
               by_cases e2 : (i < q ∧ i ≠ k) ∨ (i = q ∧ j < jj)
               ·rw [if_pos e2, if_pos (by omega)]
               ·rw [if_neg e2, if_neg (by omega)]
             ·obtain ⟨i', hi', e⟩ := hst.sub q hqm
              exact hst.turned.drew.setCell (Or.inr ⟨i', hi', e⟩) _
            case measure => simp [intOf]; omega
           ·obtain rfl : jj = m + 1 := by omega
            go_wp2_with fail
            go_roundw
            case rel => exact ⟨q + 1, by omega, by go_num, HSJ.out.tv1, HSJ.out.small, HSJ.out.ne, HSJ.out.sign, HSJ.out.mat.congr fun i j _ hj' => by
             by_cases e : (i < q ∧ i ≠ k) ∨ (i = q ∧ j < m + 1)
             ·rw [if_pos e, if_pos (by omega)]
             ·rw [if_neg e, if_neg (by omega)], HSJ.out.sub, HSJ.out.turned⟩
            case measure => simp [intOf]; omega
        ·obtain rfl : q = m := by omega
         have r0 := HSQ.out.mat.out k hlt
         have r1 := HSQ.out.mat.row k k hlt (by omega)
         rw [if_neg (by omega), ← lst_ent] at r1
         obtain ⟨r2, r3⟩ := HSQ.out.mat.le k hlt
         have r4 := HSQ.out.mat.lt k hlt
         have r5 := HSQ.out.mat.olt
         go_wp2_with fail
         go_roundw
         case rel => exact ⟨k + 1, A2, g2, c2, tv2, by omega, by go_num, rfl, rfl, HSQ.out.tv1, HSQ.out.small, by rw [lst_ent]; exact HPV.out, HSQ.out.sign, HSQ.out.mat.congr fun i j hi _ => by
          by_cases e : i = k
          ·subst e; rw [if_neg (by omega), ent_pivot]
          ·rw [if_pos ⟨hi, e⟩], HSQ.out.sub, HSQ.out.turned⟩
         case measure => simp [intOf]; omega
    ·obtain rfl : b = m := by omega
     have HD := h_ (no_pivot A' h4 hlt HST.out.ne HZ.out)
     go_wp2_with fail
     go_ret2
     refine ⟨HST.out.turned, Or.inl ⟨?_, rfl⟩⟩
     have := HST.out.sign (List.range b) (by simp)
     rw [← show dtm A' b = dt A' (List.range b) (List.range b) from rfl, HD.out] at this
     unfold dtm; omega
  ·obtain rfl : k = m := by omega
   have hst := HST.out
   have hsg : ∀ q, q < k → tv * ent A' k q k = dtp A k q k := fun q hq => by
    rw [ent_dtp A' k hq]; exact hst.sign _ (by simp)
   have HSG := h_ hsg
   have HDM := h_ (show tv * lst A' k = dtm A k from hst.sign _ (by simp))
   have HNE := h_ (show dtm A k ≠ 0 by
    have := hst.sign (List.range k) (by simp)
    have hn : dt A' (List.range k) (List.range k) ≠ 0 := hst.ne
    unfold dtm
    rw [← this]
    rcases hst.tv1 with h | h <;> rw [h] <;> omega)
   have hdb := dtm_within HS.out h4
   have hw0 : IntKind.i64.wrap (tv * lst A' k) = dtm A k := by rw [HDM.out]; exact IntWalk.i64_in _ (by omega)
   have HW0 := h_ hw0
   clear hst hsg hw0 hdb
   go_wp2_with fail
   rename World => wq
   go_loopw [12, 124] (fun v i wx => ∃ q : Nat, q ≤ k ∧ i = .int .i64 q ∧ wx.ownsRow wq.heap.size 2 1 v q (((List.range q).map fun k' => dtp A k k' k).map (Value.int .i64)) ∧ Below wq.heap.size wq wx) (fun _ i _ => k - (intOf i).toNat)
   case atStart => exact ⟨0, by omega, rfl, World.ownsRow_nil _ _ _ _, Below.refl _ _⟩
   case round =>
    obtain ⟨q, hq, rfl, hown, hbel⟩ := hrel
    have HW := h_ hown
    have HL := h_ hbel
    have zL := hbel.size
    have hMq := HST.out.mat.below hbel
    clear hown hbel
    by_cases hqk : q < k
    ·have r0 := hMq.out q hqk
     have r1 := hMq.row q k hqk (by omega)
     obtain ⟨r2, r3⟩ := hMq.le q hqk
     have r4 := hMq.lt q hqk
     have r5 := hMq.olt
     have hb := dtp_within (i := q) k HS.out h4 hqk
     have hq5 : (q : Int) < (k : Int) := by omega
     have hk5 : (k : Int) < ((k : Int) + 1) := by omega
     have HM1 := h_ (HSG.out q hqk)
     clear hMq
     generalize ent A' k q k = x at *
     have HE := h_ (show ((List.range (q + 1)).map fun k' => dtp A k k' k).map (Value.int .i64) = ((List.range q).map fun k' => dtp A k k' k).map (Value.int .i64) ++ [Value.int .i64 (dtp A k q k)] by
      rw [List.range_succ]; simp)
     generalize dtp A k q k = z at *
     obtain ⟨hb1, hb2⟩ := hb
     have hxz : -9223372036854775808 ≤ tv * x ∧ tv * x ≤ 9223372036854775807 := by rw [HM1.out]; omega
     obtain ⟨hx1, hx2⟩ := hxz
     go_wp2_with (at_builtin; refine list_app1 rfl (.tmp 127) (.tmp 137) _ _ _ 8 und_i64s inf_i64 rfl rfl _ u12 q _ _ rfl (HW.out.alloc _) _ 1 rfl (cell_new1 _ _ _) rfl (by unfold maxLen; omega) (by omega) (by simp; omega) ?_; intro g3 cap w3 hown3 hg3 hat hlt3; have hz3 := hg3.size)
     have HW3 := h_ hown3
     have HG3 := h_ hg3
     clear hown3 hg3
     go_roundw
     case rel => exact ⟨q + 1, by omega, by go_num, by rw [HE.out]; first | exact HW3.out | (have := HW3.out; rw [HM1.out] at this; exact this), ((by (repeat (any_goals (first | exact qR _ _ | exact HL.out | refine below_drewN ?_ _ | refine qD ?_ | refine qA ?_ ?_ _ | refine qS ?_ ?_ _ | refine Below.trans ?_ (Below.mono HL.out ?_)))); all_goals (first | omega | (simp; done) | (simp; omega) | ((try have z0 := HL.out.size); (try simp at z0); (try simp); omega))) : Below wq.heap.size wq (World.alloc _ _)).grown HG3.out (by simp; omega) (own_ge HW.out (by omega))⟩
     case measure => simp [intOf]; omega
    ·obtain rfl : q = k := by omega
     obtain ⟨S', c', hv, hRd, hnw⟩ := Rd.of_ownv HW.out (by simp) (by simp; omega)
     subst hv
     have HRd := h_ hRd
     have HNW := h_ hnw
     clear hRd hnw
     have hw0 := HW0.out
     go_wp2_with fail
     go_ret2
     refine ⟨HST.out.turned.trans (Turned.of_below HL.out), Or.inr ⟨HNE.out, S', c', ?_, HRd.out, fun ad e => Nat.le_trans HST.out.turned.size (HNW.out ad e)⟩⟩
     simp
end Go.Proofs.YtjcdkbalhleeeaaGreatDoor
