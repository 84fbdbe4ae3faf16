/-
  Contracts of functions and plain laws that later parts of the proof use. The conditions stand in each theorem.
-/
import Derived.Test.YtjcdkbalhleeeaaGreatDoorG06
import Derived.Test.YtjcdkbalhleeeaaGreatDoorG13
import Derived.Test.YtjcdkbalhleeeaaGreatDoorG15
import Derived.Test.YtjcdkbalhleeeaaGreatDoorG12
import Derived.Test.YtjcdkbalhleeeaaGreatDoorG03
import Derived.Deep.DeepCutAuto
import Derived.Test.YtjcdkbalhleeeaaGreatDoorG01
import Derived.Test.YtjcdkbalhleeeaaGreatDoorG14
import Derived.Test.YtjcdkbalhleeeaaGreatDoorG11
import Derived.Test.YtjcdkbalhleeeaaGreatDoorG04
namespace Go.Proofs.YtjcdkbalhleeeaaGreatDoor
open Go.RowKit
def RetCoN (w : World) (c : CO) (er : Int) (e : Ending) (w' : World) : Prop :=
 ∃ X cx Y cy G cg, e = .returned (.tuple #[.agg #[.slice X c.xs.length cx, .int .i64 c.xd, .slice Y c.ys.length cy, .int .i64 c.yd, .slice G c.gs.length cg, .int .i64 c.gd], .int .i64 er]) ∧
  Rd w' X cx c.xs ∧ Rd w' Y cy c.ys ∧ Rd w' G cg c.gs ∧ Below w.heap.size w w' ∧ (∀ ad, X = some ad → w.heap.size ≤ ad.block) ∧ (∀ ad, Y = some ad → w.heap.size ≤ ad.block) ∧ (∀ ad, G = some ad → w.heap.size ≤ ad.block)
theorem RetCoN.co {w w' : World} {c : CO} {er : Int} {e : Ending} (h : RetCoN w c er e w') : RetCo w c er e w' := by
 obtain ⟨X, cx, Y, cy, G, cg, h1, h2, h3, h4, h5, _⟩ := h
 exact ⟨X, cx, Y, cy, G, cg, h1, h2, h3, h4, h5⟩
theorem RetCoN.none {w w' : World} (er : Int) (hb : Below w.heap.size w w') : RetCoN w ⟨[], 0, [], 0, [], 0⟩ er (.returned (.tuple #[.agg #[.slice none 0 0, .int .i64 0, .slice none 0 0, .int .i64 0, .slice none 0 0, .int .i64 0], .int .i64 er])) w' :=
 ⟨Option.none, 0, Option.none, 0, Option.none, 0, rfl, Rd.nil _, Rd.nil _, Rd.nil _, hb, fun ad e => (by cases e), fun ad e => (by cases e), fun ad e => (by cases e)⟩
set_option maxRecDepth 100000 in
set_option maxHeartbeats 4000000 in
theorem look_mainN (A : Option Addr) (c : Nat) (A2 : Option Addr) (c2 : Nat) (p : PG) (L : Option Addr) (l : List Int) (cl : Nat) (w : World) (hp : Pg w A c A2 c2 p) (hr : Rd w L cl l) (hm : mayPB p = true) (hri : rightA p l = true) :
    Calls Tryz.prog 20 #[.agg #[.slice A p.costs.length c, .slice A2 p.rows.length c2], .slice L l.length cl] w (RetCoN w (lookC p l) (lookE p l)) := by
 have HQ := h_ (right_nats hri).1
 have HE := h_ (right_nats hri).2
 have hz : ((p.rows.length : Int) != (p.rows.length : Int)) = false := by simp
 have h4 := (mayPB_iff.1 hm).2.2.2.1
 have h1 := (mayPB_iff.1 hm).2.2.1
 have h4' := (mayPB_iff.1 hm).2.1
 have h1' := (mayPB_iff.1 hm).1
 have HM := h_ hm
 have hn : l.length = p.rows.length := by simp [rightA] at hri; exact hri.1
 have HN := h_ hn
 have HRI := h_ (show ∀ w, Rd w L cl l → Calls Tryz.prog 46 #[.slice L p.rows.length cl, .int .i64 ((p.costs.length : Int) + (p.rows.length : Int))] w fun e w' => e = .returned (.bool true) ∧ w' = w from fun w h => by
  have := corner_rising L l cl (p.costs.length + p.rows.length) w h
  rw [show risingB (-1) (p.costs.length + p.rows.length) l = true by simp [rightA] at hri; exact hri.2, hn, Int.natCast_add] at this
  exact this)
 have hlm : p.rows.length ≤ cl := by have := hr.le; omega
 rw [hn]
 have HRA := h_ hri
 clear hn hri
 have HP := h_ hp
 have HL := h_ hr
 obtain ⟨⟨hl, hc, hsm, _⟩, ⟨hl2, hc2, hsm2, _⟩⟩ := hp
 obtain ⟨hll, hlc, hls, _⟩ := hr
 go_enter Tryz.func20, Tryz.ntmps20
 go_wp2_with fail
 go_quiet (fail)
 go_wp2_with fail
 refine (layout_May _ _ _ _ _ _ (by exact HP.out.below (by (repeat (any_goals (first | exact qR _ _ | refine below_drewN ?_ _ | refine qD ?_ | refine qA ?_ ?_ _ | refine qS ?_ ?_ _))); all_goals (first | omega | (simp; done) | (simp; omega))))).mono ?_
 rintro e w1 ⟨rfl, hb1⟩
 rw [hm]
 have Vr := h_ (show Blk w1 (w.heap.size + 1) 64 #[.slice none 0 0, .int .i64 0, .slice none 0 0, .int .i64 0, .slice none 0 0, .int .i64 0] from Blk.next ((Blk.new _ _ _ _ (by simp)).drewN _) hb1)
 have Vp := h_ (show Blk w1 w.heap.size 28 #[.slice A p.costs.length c, .slice A2 p.rows.length c2] from Blk.next (((Blk.mk' _ _ _).alloc _).drewN _) hb1)
 have HPw := h_ (HP.out.hop (by (repeat (any_goals (first | exact qR _ _ | refine below_drewN ?_ _ | refine qD ?_ | refine qA ?_ ?_ _ | refine qS ?_ ?_ _))); all_goals (first | omega | (simp; done) | (simp; omega))) hb1)
 have HLw := h_ (HL.out.hop (by (repeat (any_goals (first | exact qR _ _ | refine below_drewN ?_ _ | refine qD ?_ | refine qA ?_ ?_ _ | refine qS ?_ ?_ _))); all_goals (first | omega | (simp; done) | (simp; omega))) hb1)
 have HW1 := h_ (show Below w.heap.size w w1 from (by (repeat (any_goals (first | exact qR _ _ | exact hb1 | refine below_drewN ?_ _ | refine qD ?_ | refine qA ?_ ?_ _ | refine qS ?_ ?_ _ | refine Below.trans ?_ (Below.mono hb1 ?_)))); all_goals (first | omega | (simp; done) | (simp; omega) | ((try have z0 := hb1.size); (try simp at z0); (try simp); omega))))
 have z1 := hb1.size
 (try simp only [World.size_alloc, World.size_drew, World.size_setCell, size_drewN'] at z1)
 have lVr := Vr.out.lt
 clear hb1
 have k0 : w1.cell? ⟨w.heap.size + 1, 0, none⟩ = some (.slice none 0 0) := Vr.out.cell 0
 have k1 : w1.cell? ⟨w.heap.size + 1, 1, none⟩ = some (.int .i64 0) := Vr.out.cell 1
 have k2 : w1.cell? ⟨w.heap.size + 1, 2, none⟩ = some (.slice none 0 0) := Vr.out.cell 2
 have k3 : w1.cell? ⟨w.heap.size + 1, 3, none⟩ = some (.int .i64 0) := Vr.out.cell 3
 have k4 : w1.cell? ⟨w.heap.size + 1, 4, none⟩ = some (.slice none 0 0) := Vr.out.cell 4
 have k5 : w1.cell? ⟨w.heap.size + 1, 5, none⟩ = some (.int .i64 0) := Vr.out.cell 5
 have f0 := Vr.out.frozen 0
 have f1 := Vr.out.frozen 1
 have f2 := Vr.out.frozen 2
 have f3 := Vr.out.frozen 3
 have f4 := Vr.out.frozen 4
 have f5 := Vr.out.frozen 5
 go_wp2_with fail
 refine (HRI.out _ HLw.out).mono ?_
 rintro e w2 ⟨rfl, rfl⟩
 rename World => w1
 clear k0 k1 k2 k3 k4 k5 f0 f1 f2 f3 f4 f5 hll
 have p0 : w1.cell? ⟨w.heap.size, 0, none⟩ = some (.slice A p.costs.length c) := Vp.out.cell 0
 have p1 : w1.cell? ⟨w.heap.size, 1, none⟩ = some (.slice A2 p.rows.length c2) := Vp.out.cell 1
 go_wp2_with fail
 have SC := h_ (show ∀ w', Below w1.heap.size w1 w' → (w'.cell? ⟨w.heap.size, 0, none⟩ = some (.slice A p.costs.length c) ∧ w'.cell? ⟨w.heap.size, 1, none⟩ = some (.slice A2 p.rows.length c2)) from fun w' h => ⟨(Vp.out.next h).cell 0, (Vp.out.next h).cell 1⟩)
 go_loopw [8, 9, 56] (fun s8 s9 i wx => ∃ k : Nat, k ≤ p.rows.length ∧ i = .int .i64 k ∧ LookR w1.heap.size (p.rows.length + 1) w1 wx p (nats l) k s8 s9) (fun _ _ i _ => p.rows.length - (intOf i).toNat)
 case atStart => exact ⟨0, by omega, rfl, id, id, id, id, RowsM.nil _ _ _ _ _ _, RowsM.nil _ _ _ _ _ _, fun b h => by rcases h with h | ⟨i, hi, _⟩; cases h; omega, Nat.le_refl _, Below.refl _ _⟩
 case round =>
  obtain ⟨k, hk, rfl, gd, cd, ga, ca, hlk⟩ := hrel
  have HK := h_ hlk
  have zL := hlk.below.size
  have HPr := h_ (HPw.out.below hlk.below)
  have HLr := h_ (HLw.out.below hlk.below)
  obtain ⟨q0, q1⟩ := SC.out _ hlk.below
  clear hlk p0 p1
  rename World => U
  by_cases hlt : k < p.rows.length
  ·obtain ⟨ad, A', c', rfl, hc1, hc2', hrr⟩ := HPr.out.rows.at_ hlt
   have hadl := lc_ hc1
   have HRR := h_ (show matD p (nats l) k p.rows.length = p.rows[k].2 by
    unfold matD; rw [if_neg (by rw [HQ.out.len]; omega), getD_mosts]; simp [List.getD, List.getElem?_eq_getElem hlt])
   generalize p.rows[k].2 = r2 at *
   clear hrr
   go_wp2_with fail
   have hbU := ((by (repeat (any_goals (first | exact qR _ _ | refine below_drewN ?_ _ | refine qD ?_ | refine qA ?_ ?_ _ | refine qS ?_ ?_ _))); all_goals (first | omega | (simp; done) | (simp; omega))) : Below U.heap.size U ((U.alloc (.cells #[.slice A' p.rows[k].1.length c', .int .i64 r2] 91))))
   have VX := h_ (Blk.mk' U 91 #[.slice A' p.rows[k].1.length c', .int .i64 r2])
   have HBU := h_ hbU
   have zU := hbU.size
   have lVX := VX.out.lt
   clear hbU q0 q1 hc1 hc2'
   generalize (U.alloc (.cells #[.slice A' p.rows[k].1.length c', .int .i64 r2] 91)) = U1 at *
   go_loopw [12, 63] (fun v i wx => ∃ q : Nat, q ≤ p.rows.length ∧ i = .int .i64 q ∧ wx.ownsRow U1.heap.size 2 1 v q ((List.range q).map fun j => Value.int .i64 (matD p (nats l) k j)) ∧ Below U1.heap.size U1 wx) (fun _ i _ => p.rows.length - (intOf i).toNat)
   case atStart => exact ⟨0, by omega, rfl, own_nil_map _ _ _, Below.refl _ _⟩
   case round =>
    obtain ⟨q, hq, rfl, hown, hbel⟩ := hrel
    have HA := h_ hown
    have HB := h_ hbel
    have zV := hbel.size
    have HUV := h_ (HBU.out.trans (hbel.mono zU))
    have HWV := h_ (HK.out.below.trans (HUV.out.mono zL))
    obtain ⟨q0, q1⟩ := SC.out _ HWV.out
    clear hown hbel
    rename World => V
    by_cases hqm : q < p.rows.length
    ·obtain ⟨al, rfl, hcl⟩ := (HLw.out.below HWV.out).natAt HE.out (k := q) (by rw [HN.out]; exact hqm)
     have hacl := lc_ hcl
     have HM1 := h_ (matD_has (p := p) (q := nats l) (i := k) (j := q) (by rw [HQ.out.len]; exact hqm))
     have HJ := h_ (HQ.out.at_lt (k := q) (by rw [HQ.out.len]; exact hqm))
     generalize (nats l).getD q 0 = j at *
     go_wp2_with fail
     refine (corner_Has _ _ _ _ _ _ _ _ (HPw.out.below ((by (repeat (any_goals (first | exact qR _ _ | exact HWV.out | refine below_drewN ?_ _ | refine qD ?_ | refine qA ?_ ?_ _ | refine qS ?_ ?_ _ | refine Below.trans ?_ (Below.mono HWV.out ?_)))); all_goals (first | omega | (simp; done) | (simp; omega) | ((try have z0 := HWV.out.size); (try simp at z0); (try simp); omega))))) HM.out hlt (by have := HJ.out; omega)).mono ?_
     rintro e w2 ⟨rfl, hb2⟩
     have HA2 := h_ (own_below HA.out hb2)
     have HB2 := h_ hb2
     have z2 := hb2.size
     clear hb2 q0 q1 hcl
     go_wp2_with (at_builtin; refine list_app1 rfl (.tmp 67) (.tmp 72) _ _ _ 8 und_i64s inf_i64 rfl rfl _ u12 q _ _ rfl (HA2.out.alloc _) _ 1 rfl (cell_new1 _ _ _) rfl (by unfold maxLen; omega) (by omega) (by simp; omega) ?_; intro g3 cap3 w3 hown3 hg3 hat3 hlt3; have hz3 := hg3.size)
     have HA3 := h_ hown3
     have HG3 := h_ hg3
     clear hown3 hg3
     go_roundw
     case rel => exact ⟨q + 1, by omega, by go_num, by rw [← row_succ, HM1.out]; exact HA3.out, ((by (repeat (any_goals (first | exact qR _ _ | exact HB.out | exact HB2.out | refine below_drewN ?_ _ | refine qD ?_ | refine qA ?_ ?_ _ | refine qS ?_ ?_ _ | refine Below.trans ?_ (Below.mono HB.out ?_) | refine Below.trans ?_ (Below.mono HB2.out ?_)))); all_goals (first | omega | (simp; done) | (simp; omega) | ((try have z0 := HB.out.size); (try simp at z0); (try have z1 := HB2.out.size); (try simp at z1); (try simp); omega))) : Below U1.heap.size U1 (w2.alloc _)).grown HG3.out (by simp; omega) (own_ge HA.out (Nat.le_refl _))⟩
     case measure => simp [intOf]; omega
    ·obtain rfl : q = p.rows.length := by omega
     obtain ⟨al, rfl, hcl⟩ := HLw.out.natAt HE.out (k := k) (by rw [HN.out]; exact hlt)
     have hacl := lc_ hcl
     have HCL := h_ hcl
     have HJ := h_ (HQ.out.at_lt (k := k) (by rw [HQ.out.len]; exact hlt))
     obtain ⟨jk, hjk⟩ : ∃ j, j = (nats l).getD k 0 := ⟨_, rfl⟩
     rw [← hjk] at HJ HCL
     have HJK := h_ hjk
     have SK := h_ (show ∀ w', Below w1.heap.size w1 w' → (w'.cell? ⟨w.heap.size, 0, none⟩ = some (.slice A p.costs.length c) ∧ w'.cell? ⟨w.heap.size, 1, none⟩ = some (.slice (some ad) p.rows.length c2) ∧ w'.cell? (al.add k) = some (.int .i64 (jk : Int))) from
      fun w' h => ⟨(SC.out w' h).1, (SC.out w' h).2, (h.cell hacl).trans HCL.out⟩)
     clear hcl q0 q1 hjk
     go_wp2_with fail
     go_loopw [13, 76] (fun v i wx => ∃ s : Nat, s ≤ p.rows.length ∧ i = .int .i64 s ∧ wx.ownsRow V.heap.size 2 1 v s ((List.range s).map fun j => Value.int .i64 (matU p (nats l) k j)) ∧ Below V.heap.size V wx) (fun _ i _ => p.rows.length - (intOf i).toNat)
     case atStart => exact ⟨0, by omega, rfl, own_nil_map _ _ _, Below.refl _ _⟩
     case round =>
      obtain ⟨s, hs, rfl, hown, hbel⟩ := hrel
      have HC := h_ hown
      have HD := h_ hbel
      have zX := hbel.size
      have HWX := h_ (HWV.out.trans (hbel.mono (by have := HWV.out.size; omega)))
      clear hown hbel
      rename World => X
      have hi0 : (k : Int) < (p.rows.length : Int) := by omega
      have zVW := HWV.out.size
      by_cases hsm : s < p.rows.length
      ·have HM1 := h_ (show matU p (nats l) k s = hasZ p s jk by rw [matU_has (by rw [HQ.out.len]; exact hsm), HJK.out])
       go_wp2_with fail
       go_region_held3 (fun w' => (w'.cell? ⟨w.heap.size, 0, none⟩ = some (.slice A p.costs.length c) ∧ w'.cell? ⟨w.heap.size, 1, none⟩ = some (.slice (some ad) p.rows.length c2) ∧ w'.cell? (al.add k) = some (.int .i64 (jk : Int))))
        (first | (refine SK.out _ ?_; exact hbW3) | (refine SK.out _ ?_; exact (by (repeat (any_goals (first | exact qR _ _ | exact HWX.out | exact hb2 | refine below_drewN ?_ _ | refine qD ?_ | refine qA ?_ ?_ _ | refine qS ?_ ?_ _ | refine Below.trans ?_ (Below.mono HWX.out ?_) | refine Below.trans ?_ (Below.mono hb2 ?_)))); all_goals (first | omega | (simp; done) | (simp; omega) | ((try have z0 := HWX.out.size); (try simp at z0); (try have z1 := hb2.size); (try simp at z1); (try simp); omega)))) | (refine SK.out _ ?_; exact (by (repeat (any_goals (first | exact qR _ _ | exact HWX.out | refine below_drewN ?_ _ | refine qD ?_ | refine qA ?_ ?_ _ | refine qS ?_ ?_ _ | refine Below.trans ?_ (Below.mono HWX.out ?_)))); all_goals (first | omega | (simp; done) | (simp; omega) | ((try have z0 := HWX.out.size); (try simp at z0); (try simp); omega)))))
        (first
         | (go_at_call 47; refine (corner_Has _ _ _ _ _ _ _ _ (HPw.out.below (by exact HWX.out.drew)) HM.out hsm (by have := HJ.out; omega)).mono ?_; rintro e w2 ⟨rfl, hb2⟩)
         | (refine step_app1 (by rfl) (.tmp 79) (.tmp 87) _ _ _ 8 und_i64s inf_i64 rfl (by rfl) _ u13 s _ _ (by rfl) (by exact (own_below (w := X.drew) HC.out hb2).alloc _) _ 1 (by rfl) (by exact cell_new1 _ _ _) rfl (by unfold maxLen; omega) (by omega) (by have := hb2.size; simp at this ⊢; omega) ?_; intro g3 cap3 w3 hown3 hg3 hat3 hlt3; have hbw3 : Below V.heap.size V w3 := ((by (repeat (any_goals (first | exact qR _ _ | exact HD.out | exact hb2 | refine below_drewN ?_ _ | refine qD ?_ | refine qA ?_ ?_ _ | refine qS ?_ ?_ _ | refine Below.trans ?_ (Below.mono HD.out ?_) | refine Below.trans ?_ (Below.mono hb2 ?_)))); all_goals (first | omega | (simp; done) | (simp; omega) | ((try have z0 := HD.out.size); (try simp at z0); (try have z1 := hb2.size); (try simp at z1); (try simp); omega))) : Below V.heap.size V (w2.alloc _)).grown hg3 (by have := hb2.size; simp at this ⊢; omega) (own_ge HC.out (Nat.le_refl _)); have hbW3 : Below w1.heap.size w1 w3 := HWV.out.trans (hbw3.mono zVW)))
       have HC3 := h_ hown3
       have HB3 := h_ hbw3
       clear hown3 hbw3 hg3 hbW3
       go_wp2_with fail
       go_roundw
       case rel => exact ⟨s + 1, by omega, by go_num, by rw [← row_succ, HM1.out]; exact HC3.out, HB3.out⟩
       case measure => simp [intOf]; omega
      ·obtain rfl : s = p.rows.length := by omega
       have hUX := HUV.out.trans (HD.out.mono HUV.out.size)
       have HKX := h_ (HK.out.to hUX)
       have HUX := h_ hUX
       have HAX := h_ (own_below HA.out HD.out)
       have y0 : X.cell? ⟨U.heap.size, 0, none⟩ = some (.slice A' p.rows[k].1.length c') := (VX.out.next (HB.out.trans (HD.out.mono HB.out.size))).cell 0
       have y1 : X.cell? ⟨U.heap.size, 1, none⟩ = some (.int .i64 r2) := (VX.out.next (HB.out.trans (HD.out.mono HB.out.size))).cell 1
       have zUX := hUX.size
       have zWU := HK.out.below.size
       clear hUX
       go_wp2_with (first
        | (at_builtin; refine list_app1 rfl (.tmp 91) (.tmp 94) _ _ _ 8 und_i64s inf_i64 rfl rfl U1.heap.size u12 p.rows.length _ _ rfl (HAX.out.alloc _) _ 1 rfl (cell_new1 _ _ _) rfl (by unfold maxLen; omega) (by omega) (by have := HB.out.size; simp; omega) ?_; intro g3 cap3 w3 hown3 hg3 hat3 hlt3; have z3 := hg3.size; have hb3 : Below U.heap.size U w3 := ((by (repeat (any_goals (first | exact qR _ _ | exact HUX.out | refine below_drewN ?_ _ | refine qD ?_ | refine qA ?_ ?_ _ | refine qS ?_ ?_ _ | refine Below.trans ?_ (Below.mono HUX.out ?_)))); all_goals (first | omega | (simp; done) | (simp; omega) | ((try have z0 := HUX.out.size); (try simp at z0); (try simp); omega))) : Below U.heap.size U (X.alloc _)).grown hg3 (by simp; omega) (fun j e => by have := (HA.out.lt j e).1; omega); have HO3 := h_ hown3; have HG3 := h_ hg3; have HB3 := h_ hb3; clear hown3 hg3 hb3 y0 y1)
        | (at_builtin; refine list_app1 rfl (.tmp 90) (.tmp 96) _ _ _ 24 und_rows inf_ints rfl rfl w1.heap.size u8 k _ _ rfl ((HK.out.to HB3.out).down.own.alloc _) _ 1 rfl (cell_new1 _ _ _) rfl (by unfold maxLen; omega) (by omega) (by have := HB3.out.size; simp; omega) ?_; intro g4 cap4 w4 hown4 hg4 hat4 hlt4; have z4 := hg4.size; have HO4 := h_ hown4; have HG4 := h_ hg4; clear hown4 hg4))
       have HW4 := h_ (show Below w1.heap.size w1 w4 from (((HK.out.below.trans (HB3.out.mono zWU)).alloc (by have := HB3.out.size; omega) _).grown HG4.out (by have := HB3.out.size; simp; omega) fun j e => (HK.out.down.own.lt j e).1))
       have hvl := HC.out.lt
       have hal := HA.out.lt
       have hul := HK.out.down.own.lt
       have HC4 := h_ (show w4.ownsRow V.heap.size 2 1 u13 p.rows.length _ from own_same HC.out fun b e => by
        have h1 := hvl b e
        have z33 := z3
        simp at z33
        rw [HG4.out.block b (by simp; omega) (fun q => by have := hul b q.symm; omega), Below.heap_alloc w3 _ b (by omega), HG3.out.block b (by simp; omega) (fun q => by have := hal b q.symm; omega), Below.heap_alloc X _ b (by omega)])
       have HM2 := h_ (show matU p (nats l) k p.rows.length = costZ p jk by
        have := matU_cost (p := p) (q := nats l) (i := k)
        rw [HQ.out.len] at this; rw [this, HJK.out])
       have zU4 : U.heap.size ≤ w4.heap.size := by have := HB3.out.size; simp at z4; omega
       have zX4 : X.heap.size ≤ w4.heap.size := by simp at z3 z4; omega
       have HAC4 := h_ (show w4.ownsRow w1.heap.size 25 1 u9 k _ from own_same HK.out.across.own fun b e => by
        have hb := (HK.out.across.own.lt b e).2
        have := HB3.out.size
        rw [HG4.out.block b (by simp; omega) (fun q => HK.out.apart b (.inl q.symm) (.inl e)), Below.heap_alloc w3 _ b (by omega), HB3.out.block b hb])
       clear hvl hal hul
       go_region_held3 (fun w' => (w'.cell? ⟨w.heap.size, 0, none⟩ = some (.slice A p.costs.length c) ∧ w'.cell? ⟨w.heap.size, 1, none⟩ = some (.slice (some ad) p.rows.length c2) ∧ w'.cell? (al.add k) = some (.int .i64 (jk : Int))))
        (first | (refine SK.out _ ?_; exact hbW7) | (refine SK.out _ ?_; exact hbW6.alloc (by omega) _) | (refine SK.out _ ?_; exact hbW6) | (refine SK.out _ ?_; exact (by (repeat (any_goals (first | exact qR _ _ | exact HW4.out | exact hb5 | refine below_drewN ?_ _ | refine qD ?_ | refine qA ?_ ?_ _ | refine qS ?_ ?_ _ | refine Below.trans ?_ (Below.mono HW4.out ?_) | refine Below.trans ?_ (Below.mono hb5 ?_)))); all_goals (first | omega | (simp; done) | (simp; omega) | ((try have z0 := HW4.out.size); (try simp at z0); (try have z1 := hb5.size); (try simp at z1); (try simp); omega)))) | (refine SK.out _ ?_; exact (by (repeat (any_goals (first | exact qR _ _ | exact HW4.out | refine below_drewN ?_ _ | refine qD ?_ | refine qA ?_ ?_ _ | refine qS ?_ ?_ _ | refine Below.trans ?_ (Below.mono HW4.out ?_)))); all_goals (first | omega | (simp; done) | (simp; omega) | ((try have z0 := HW4.out.size); (try simp at z0); (try simp); omega)))))
        (first
         | (go_at_call 48; refine (corner_Cost _ _ _ _ _ _ _ (HPw.out.below (by exact HW4.out.drew))).mono ?_; rintro e w5 ⟨rfl, hb5⟩; have z5 : w4.heap.size ≤ w5.heap.size := hb5.size)
         | (refine step_app1 (by rfl) (.tmp 99) (.tmp 106) _ _ _ 8 und_i64s inf_i64 rfl (by rfl) _ u13 p.rows.length _ _ (by rfl) (by exact (own_below (w := w4.drew) HC4.out hb5).alloc _) _ 1 (by rfl) (by exact cell_new1 _ _ _) rfl (by unfold maxLen; omega) (by omega) (by simp; omega) ?_; intro g6 cap6 w6 hown6 hg6 hat6 hlt6; have z6 := hg6.size; simp at z6; have hb46 : Below U.heap.size w4 w6 := ((((Below.refl U.heap.size w4).drew).trans (hb5.mono (by exact zU4))).alloc (by omega) _).grown hg6 (by simp; omega) (fun j e => by have := (HC4.out.lt j e).1; omega); have hbW6 : Below w1.heap.size w1 w6 := HW4.out.trans (hb46.mono zWU))
         | (refine step_app1 (by rfl) (.tmp 98) (.tmp 108) _ _ _ 24 und_rows inf_ints rfl (by rfl) w1.heap.size u9 k _ _ (by rfl) (by exact (own_same HAC4.out (fun b e => hb46.block b (HK.out.across.own.lt b e).2)).alloc _) _ 1 (by rfl) (by exact cell_new1 _ _ _) rfl (by unfold maxLen; omega) (by omega) (by simp; omega) ?_; intro g7 cap7 w7 hown7 hg7 hat7 hlt7; have hbW7 : Below w1.heap.size w1 w7 := (hbW6.alloc (by omega) _).grown hg7 (by simp; omega) (fun j e => (HK.out.across.own.lt j e).1)))
       have HO6 := h_ hown6
       have HG6 := h_ hg6
       have HO7 := h_ hown7
       have HG7 := h_ hg7
       have HB5 := h_ (((Below.refl _ w4).drew).trans hb5)
       clear hown6 hg6 hown7 hg7 hb5 hb46 hbW6 hbW7
       go_wp2_with fail
       go_roundw
       case rel => exact ⟨k + 1, by omega, by go_num, look_round HK.out HUV.out HD.out zU zWU HA.out HC.out HG3.out hat3 (by rw [← row_succ, HRR.out]; exact HO3.out) HG4.out hat4 HO4.out HB5.out HG6.out hat6 (by rw [← row_succ, HM2.out]; exact HO6.out) HG7.out hat7 HO7.out⟩
       case measure => simp [intOf]; omega
  ·obtain rfl : k = p.rows.length := by omega
   obtain ⟨O8, c8, rfl⟩ := own_some HK.out.down.own (by omega)
   obtain ⟨O9, c9, rfl⟩ := own_some HK.out.across.own (by omega)
   have hcap8 := own_caps HK.out.down.own
   have hcap9 := own_caps HK.out.across.own
   go_wp2_with fail
   refine (corner_whole O8 c8 gd cd p.rows.length (matD p (nats l)) U HK.out.down.mat h1 h4 (HQ.out.len ▸ matD_small HM.out) (by omega) (by omega)).mono ?_
   rintro e w2 ⟨ht, hcase⟩
   have HW2 := h_ (show Below w1.heap.size w1 w2 from HK.out.below.trans (ht.below zL fun b hb => by
    rcases hb with rfl | ⟨i, hi, rfl⟩
    ·exact (HK.out.down.lt (.inl rfl)).1
    ·exact (HK.out.down.lt (.inr ⟨i, hi, rfl⟩)).1))
   have HA2 := h_ (show RowsM w2 w1.heap.size (.slice (some ⟨O9, 0, none⟩) p.rows.length c9) p.rows.length (p.rows.length + 1) ga ca (matU p (nats l)) from
    HK.out.across.same fun b hb => ht.block b (HK.out.across.lt hb).2 fun q => by
     rcases q with rfl | ⟨i, hi, rfl⟩
     ·exact HK.out.apart _ (.inl rfl) hb
     ·exact HK.out.apart _ (.inr ⟨i, hi, rfl⟩) hb)
   clear ht
   rcases hcase with ⟨hd0, rfl⟩ | ⟨hd0, S, cs, rfl, hS, hSn⟩
   ·have HD0 := h_ (show denZ p (nats l) = 0 from hd0)
    have y0 := (Vr.out.next HW2.out).cell 0
    have y1 := (Vr.out.next HW2.out).cell 1
    have y2 := (Vr.out.next HW2.out).cell 2
    have y3 := (Vr.out.next HW2.out).cell 3
    have y4 := (Vr.out.next HW2.out).cell 4
    have y5 := (Vr.out.next HW2.out).cell 5
    have g0 := (Vr.out.next HW2.out).frozen 0
    have g1 := (Vr.out.next HW2.out).frozen 1
    have g2 := (Vr.out.next HW2.out).frozen 2
    have g3 := (Vr.out.next HW2.out).frozen 3
    have g4 := (Vr.out.next HW2.out).frozen 4
    have g5 := (Vr.out.next HW2.out).frozen 5
    clear hd0 q0 q1
    simp only [List.getElem?_toArray, List.getElem?_cons_zero, List.getElem?_cons_succ] at y0 y1 y2 y3 y4 y5
    go_wp2_with fail
    refine bodyPost_ret (v := .tuple #[.agg #[.slice none 0 0, .int .i64 0, .slice none 0 0, .int .i64 0, .slice none 0 0, .int .i64 0], .int .i64 4]) ?_ ?_ ?_
    ·simp [results, Tryz.results20, go_sem, y0, y1, y2, y3, y4, y5]
    ·rfl
    ·have hE : lookE p l = 4 := by
       unfold lookE
       rw [if_neg (by rw [HM.out]; decide), if_neg (by rw [HRA.out]; decide), if_pos HD0.out]
     have hC : lookC p l = ⟨[], 0, [], 0, [], 0⟩ := by unfold lookC; rw [if_neg (by rw [hE]; decide)]
     rw [hE, hC]
     refine RetCoN.none 4 ?_
     exact ((((((HW1.out.trans (HW2.out.mono (by omega))).setCell (Nat.le_succ _) _).setCell (Nat.le_succ _) _).setCell (Nat.le_succ _) _).setCell (Nat.le_succ _) _).setCell (Nat.le_succ _) _).setCell (Nat.le_succ _) _
   ·have HD0 := h_ (show denZ p (nats l) ≠ 0 from hd0)
    have hdd : (dtm (matD p (nats l)) p.rows.length == 0) = false := by simpa using hd0
    have hdb := den_bound (p := p) (l := nats l) HM.out HQ.out.len
    have hfl := den_flip (p := p) (l := nats l) HQ.out.len h4
    have HDN := h_ (show dtm (matD p (nats l)) p.rows.length = denZ p (nats l) from rfl)
    rw [← HDN.out] at hdb hfl
    have HXL := h_ hS
    have HSN := h_ hSn
    clear hd0 hS hSn q0 q1
    generalize dtm (matD p (nats l)) p.rows.length = dn at *
    go_wp2_with fail
    refine (corner_whole O9 c9 ga ca p.rows.length (matU p (nats l)) w2 HA2.out.mat h1 h4 (HQ.out.len ▸ matU_small HM.out) (by omega) (by omega)).mono ?_
    rintro e w3 ⟨ht, hcase⟩
    rcases hcase with ⟨h0, _⟩ | ⟨_, Y, cy, rfl, hY, _⟩
    ·exfalso
     rw [hfl, HDN.out] at h0
     exact HD0.out h0
    rw [hfl]
    have HW3 := h_ (show Below w1.heap.size w1 w3 from HW2.out.trans (ht.below HW2.out.size fun b hb => by
     rcases hb with rfl | ⟨i, hi, rfl⟩
     ·exact (HK.out.across.lt (.inl rfl)).1
     ·exact (HK.out.across.lt (.inr ⟨i, hi, rfl⟩)).1))
    have HX3 := h_ (show Rd w3 S cs ((List.range p.rows.length).map fun k => xk p (nats l) k) from HXL.out.same fun ad e hlt => ht.block _ hlt fun q => by
     have h0 := HSN.out ad e
     rcases q with q | ⟨i, hi, q⟩
     ·have : O9 < U.heap.size := (HK.out.across.lt (.inl rfl)).2; omega
     ·have : ga i < U.heap.size := (HK.out.across.lt (.inr ⟨i, hi, rfl⟩)).2; omega)
    have HY3 := h_ (show Rd w3 Y cy ((List.range p.rows.length).map fun k => yk p (nats l) k) from hY)
    have hls : p.rows.length ≤ cs := by have := HXL.out.le; simpa using this
    have hly : p.rows.length ≤ cy := by have := hY.le; simpa using this
    have hcs := HXL.out.cap
    have hcy := hY.cap
    clear ht hY hfl
    go_upto_region 28 with fail
    go_cut [21, 22] (fun s21 s22 wx => ∃ g1 g2 : Nat, s21 = .slice (some ⟨g1, 0, none⟩) (p.costs.length + p.rows.length) (p.costs.length + p.rows.length) ∧ s22 = .slice (some ⟨g2, 0, none⟩) (p.costs.length + p.rows.length) (p.costs.length + p.rows.length) ∧
     wx.ownsRow w3.heap.size 2 1 (.slice (some ⟨g1, 0, none⟩) (p.costs.length + p.rows.length) (p.costs.length + p.rows.length)) (p.costs.length + p.rows.length) ((List.replicate (p.costs.length + p.rows.length) (0 : Int)).map (Value.int .i64)) ∧
     wx.ownsRow w3.heap.size 2 1 (.slice (some ⟨g2, 0, none⟩) (p.costs.length + p.rows.length) (p.costs.length + p.rows.length)) (p.costs.length + p.rows.length) ((List.replicate (p.costs.length + p.rows.length) (0 : Int)).map (Value.int .i64)) ∧ g1 ≠ g2 ∧ Below w3.heap.size w3 wx)
    case first =>
     have hmk := fun w => made_i64 w (p.costs.length + p.rows.length) ((p.costs.length : Int) + (p.rows.length : Int)) (by omega) (by omega)
     go_region
     all_goals go_wp2_with fail
     all_goals go_meet
     ·exact ⟨_, _, rfl, rfl, by first | exact (own_made _ _ _ _ rfl (Nat.le_refl _) (by omega)).alloc _ | exact ((own_made _ _ _ _ rfl (Nat.le_refl _) (by omega)).alloc _).drew, own_made _ _ _ _ (by simp) (by omega) (by omega), by omega, (by (repeat (any_goals (first | exact qR _ _ | refine below_drewN ?_ _ | refine qD ?_ | refine qA ?_ ?_ _ | refine qS ?_ ?_ _))); all_goals (first | omega | (simp; done) | (simp; omega)))⟩
     ·exact ⟨_, _, rfl, rfl, own_made _ _ _ _ (by simp) (by omega) (by omega), by first | exact (own_made _ _ _ _ rfl (Nat.le_refl _) (by omega)).alloc _ | exact ((own_made _ _ _ _ rfl (Nat.le_refl _) (by omega)).alloc _).drew, by omega, (by (repeat (any_goals (first | exact qR _ _ | refine below_drewN ?_ _ | refine qD ?_ | refine qA ?_ ?_ _ | refine qS ?_ ?_ _))); all_goals (first | omega | (simp; done) | (simp; omega)))⟩
    case rest =>
     obtain ⟨g1, g2, rfl, rfl, ho1, ho2, hne, hbz⟩ := hcut
     rename World => Z
     obtain ⟨N, hN⟩ : ∃ N, N = p.costs.length + p.rows.length := ⟨_, rfl⟩
     have HNN := h_ hN
     have hN8 : N ≤ 8 := by omega
     have hNc : (p.costs.length : Int) + (p.rows.length : Int) = N := by omega
     rw [putAll_none (nats l) (xk p (nats l)), ← hN] at ho1
     rw [gainL_zero p (nats l), ← hN] at ho2
     rw [← hN]
     have HO1 := h_ ho1
     have HO2 := h_ ho2
     have HBZ := h_ hbz
     clear ho1 ho2 hbz hN hNc
     go_wp2_with fail
     go_loopw [134] (fun i wx => ∃ k : Nat, k ≤ p.rows.length ∧ i = .int .i64 k ∧ wx.ownsRow w3.heap.size 2 1 (.slice (some ⟨g1, 0, none⟩) N N) N ((putAll (nats l) (xk p (nats l)) N k).map (Value.int .i64)) ∧
      wx.ownsRow w3.heap.size 2 1 (.slice (some ⟨g2, 0, none⟩) N N) N ((gainL p (nats l) N 0 0).map (Value.int .i64)) ∧ Below w3.heap.size w3 wx) (fun i _ => p.rows.length - (intOf i).toNat)
     case atStart => exact ⟨0, by omega, rfl, HO1.out, HO2.out, HBZ.out⟩
     case round =>
      obtain ⟨k, hk, rfl, ho1, ho2, hbel⟩ := hrel
      have HP1 := h_ ho1
      have HP2 := h_ ho2
      have HL1 := h_ hbel
      have zL1 := hbel.size
      rename World => Y1
      clear ho1 ho2 hbel
      by_cases hkm : k < p.rows.length
      ·have HWY := h_ (HW3.out.trans (HL1.out.mono HW3.out.size))
       obtain ⟨al, rfl, hcl⟩ := (HLw.out.below HWY.out).natAt HE.out (k := k) (by rw [HN.out]; exact hkm)
       obtain ⟨ax, rfl, hcx⟩ := (HX3.out.below HL1.out).getD_at (k := k) (by simpa using hkm)
       rw [getD_map_range hkm] at hcx
       have HJ := HQ.out.at_lt (k := k) (by rw [HQ.out.len]; exact hkm)
       have hsu := putAll_succ (nats l) (xk p (nats l)) N k
       obtain ⟨jk, hjk⟩ : ∃ j, j = (nats l).getD k 0 := ⟨_, rfl⟩
       rw [← hjk] at hcl HJ hsu
       have hjN : jk < N := by rw [HNN.out]; exact HJ
       have e1 := own_cell' HP1.out jk _ (map_at_int (by rw [length_putAll]; exact hjN))
       have f1 := own_free' HP1.out jk
       have hacl := lc_ hcl
       have haxl := lc_ hcx
       have HSU := h_ hsu
       have hi0 : (jk : Int) < (N : Int) := by omega
       have hi1 : (k : Int) < (p.rows.length : Int) := by omega
       generalize (putAll (nats l) (xk p (nats l)) N k).getD jk 0 = z0 at *
       generalize xk p (nats l) k = xv at *
       clear hsu hjk HJ
       go_wp2_with fail
       go_roundw
       case rel => exact ⟨k + 1, by omega, by go_num, by rw [HSU.out, ← map_set_int]; exact own_put HP1.out jk _, own_far HP2.out _ (fun e => hne (Option.some.inj e).symm), HL1.out.setCell (HP1.out.lt g1 rfl).1 _⟩
       case measure => simp [intOf]; omega
      ·obtain rfl : k = p.rows.length := by omega
       have HP1' := h_ (show Y1.ownsRow w3.heap.size 2 1 (.slice (some ⟨g1, 0, none⟩) N N) N ((xall p (nats l)).map (Value.int .i64)) from by
        have := HP1.out
        rw [show putAll (nats l) (xk p (nats l)) N p.rows.length = xall p (nats l) by rw [HNN.out]; rfl] at this
        exact this)
       clear HP1
       go_wp2_with fail
       go_loopw [149] (fun i wx => ∃ j : Nat, j ≤ N ∧ i = .int .i64 j ∧ wx.ownsRow w3.heap.size 2 1 (.slice (some ⟨g1, 0, none⟩) N N) N ((xall p (nats l)).map (Value.int .i64)) ∧
        wx.ownsRow w3.heap.size 2 1 (.slice (some ⟨g2, 0, none⟩) N N) N ((gainL p (nats l) N j 0).map (Value.int .i64)) ∧ Below w3.heap.size w3 wx) (fun i _ => N - (intOf i).toNat)
       case atStart => exact ⟨0, by omega, rfl, HP1'.out, HP2.out, HL1.out⟩
       case round =>
        obtain ⟨j, hj, rfl, ho1, ho2, hbel⟩ := hrel
        have HR1 := h_ ho1
        have HR2 := h_ ho2
        have HL2 := h_ hbel
        have zL2 := hbel.size
        have HW2' := h_ (HW3.out.trans (hbel.mono HW3.out.size))
        obtain ⟨q0, q1⟩ := SC.out _ HW2'.out
        rename World => Y2
        clear ho1 ho2 hbel
        by_cases hjN : j < N
        ·have HCO := h_ (show gk p (nats l) j 0 = costZ p j * dn by rw [gk_zero, HDN.out])
         have hcb := costZ_bound HM.out j
         obtain ⟨hm1, hm2⟩ := mul_bound (costZ p j) dn 400 497664 hcb.1 hcb.2 hdb.1 hdb.2
         have hw1 : IntKind.i64.wrap (costZ p j * dn) = costZ p j * dn := IntWalk.i64_in _ (by omega)
         have hi0 : (j : Int) < (N : Int) := by omega
         clear hm1 hm2 hcb
         go_wp2_with fail
         refine (corner_Cost _ _ _ _ _ _ _ (HPw.out.below HW2'.out)).mono ?_
         rintro e w5 ⟨rfl, hb5⟩
         generalize costZ p j = cj at *
         have HT1 := h_ (own_below HR1.out hb5)
         have HT2 := h_ (own_below HR2.out hb5)
         have HB5 := h_ (HL2.out.trans (hb5.mono zL2))
         have e1 := own_cell' HT2.out j _ (gainL_at hjN)
         have f1 := own_free' HT2.out j
         clear hb5 q0 q1
         go_wp2_with fail
         clear e1 f1 hw1
         have HT3 := h_ (own_far HT1.out (p := ⟨g2, j, none⟩) (.int .i64 (cj * dn)) (fun e => hne (Option.some.inj e)))
         have HT4 := h_ (show (w5.setCell ⟨g2, j, none⟩ (.int .i64 (cj * dn))).ownsRow w3.heap.size 2 1 (.slice (some ⟨g2, 0, none⟩) N N) N ((gainL p (nats l) N j (gk p (nats l) j 0)).map (Value.int .i64)) from by
          rw [HCO.out, ← gainL_set (u := 0), ← map_set_int]; exact own_put HT2.out j _)
         have HB6 := h_ (HB5.out.setCell (p := ⟨g2, j, none⟩) (HT2.out.lt g2 rfl).1 (.int .i64 (cj * dn)))
         clear HT1 HT2 HB5 HCO
         generalize (w5.setCell ⟨g2, j, none⟩ (.int .i64 (cj * dn))) = V6 at *
         go_loopw [161] (fun i wx => ∃ s : Nat, s ≤ p.rows.length ∧ i = .int .i64 s ∧ wx.ownsRow w3.heap.size 2 1 (.slice (some ⟨g1, 0, none⟩) N N) N ((xall p (nats l)).map (Value.int .i64)) ∧
          wx.ownsRow w3.heap.size 2 1 (.slice (some ⟨g2, 0, none⟩) N N) N ((gainL p (nats l) N j (gk p (nats l) j s)).map (Value.int .i64)) ∧ Below w3.heap.size w3 wx) (fun i _ => p.rows.length - (intOf i).toNat)
         case atStart => exact ⟨0, by omega, rfl, HT3.out, HT4.out, HB6.out⟩
         case round =>
          obtain ⟨s, hs, rfl, ho1, ho2, hbel⟩ := hrel
          have HS1 := h_ ho1
          have HS2 := h_ ho2
          have HL3 := h_ hbel
          have zL3 := hbel.size
          have HWX := h_ (HW3.out.trans (hbel.mono HW3.out.size))
          rename World => X
          clear ho1 ho2 hbel
          by_cases hsm : s < p.rows.length
          ·obtain ⟨ay, rfl, hcy'⟩ := (HY3.out.below HL3.out).getD_at (k := s) (by simpa using hsm)
           rw [getD_map_range hsm] at hcy'
           have hayl := lc_ hcy'
           have e1 := own_cell' HS2.out j _ (gainL_at hjN)
           have f1 := own_free' HS2.out j
           have hgl := (HS2.out.lt g2 rfl).2
           have s0 : ∀ u : Wk X, u.1.cell? ⟨w.heap.size, 0, none⟩ = some (.slice A p.costs.length c) := fun u => (SC.out _ (HWX.out.trans (u.2.mono HWX.out.size))).1
           have s1 : ∀ u : Wk X, u.1.cell? ⟨w.heap.size, 1, none⟩ = some (.slice A2 p.rows.length c2) := fun u => (SC.out _ (HWX.out.trans (u.2.mono HWX.out.size))).2
           have s2 : ∀ u : Wk X, u.1.cell? ⟨g2, j, none⟩ = some (.int .i64 (gk p (nats l) j s)) := fun u => (u.2.cell (p := ⟨g2, j, none⟩) hgl).trans e1
           have s3 : ∀ u : Wk X, u.1.frozen? ⟨g2, j, none⟩ = false := fun u => (u.2.frozen (p := ⟨g2, j, none⟩) hgl).trans f1
           have s4 : ∀ u : Wk X, u.1.cell? (ay.add s) = some (.int .i64 (yk p (nats l) s)) := fun u => (u.2.cell hayl).trans hcy'
           have HC := h_ (show ∀ u : Wk X, Calls Tryz.prog 47 #[.agg #[.slice A p.costs.length c, .slice A2 p.rows.length c2], .int .i64 s, .int .i64 j] u.1 fun e w' => e = .returned (.int .i64 (hasZ p s j)) ∧ Below u.1.heap.size u.1 w' from
            fun u => corner_Has _ _ _ _ _ s j u.1 (HPw.out.below (HWX.out.trans (u.2.mono HWX.out.size))) HM.out hsm (by omega))
           have HGS := h_ (gk_succ p (nats l) j s)
           have hb1 := yk_bound (p := p) (l := nats l) HM.out HQ.out.len hsm
           have hb2 := hasZ_bound HM.out s j
           have hb3 := gk_bound (p := p) (l := nats l) HM.out HQ.out.len j (n := s) (by omega)
           have hi0 : (j : Int) < (N : Int) := by omega
           have hi1 : (s : Int) < (p.rows.length : Int) := by omega
           generalize gk p (nats l) j s = gv at *
           generalize yk p (nats l) s = yv at *
           generalize hasZ p s j = hv at *
           obtain ⟨hm1, hm2⟩ := mul_bound yv hv 16588800 12 hb1.1 hb1.2 hb2.1 hb2.2
           have hw1 : IntKind.i64.wrap (yv * hv) = yv * hv := IntWalk.i64_in _ (by omega)
           have hw2 : IntKind.i64.wrap (gv - yv * hv) = gv - yv * hv := IntWalk.i64_in _ (by omega)
           clear hm1 hm2 hb1 hb2 hb3 e1 f1 hcy'
           go_wp2_with fail
           refine wk_tail 15 (by kernel_rfl) (by kernel_rfl) ?_
           simp only [List.take_succ_cons, List.take_zero, List.drop_succ_cons, List.drop_zero]
           repeat (go_big_quiet_step ((go_at_call 47; with_reducible exact wk_call (HC.out _))))
           refine wpQuiet_nil ?_
           rintro w7 ⟨u7, rfl⟩
           go_wp2_with fail
           go_roundw
           case rel => exact ⟨s + 1, by omega, by go_num, own_far (own_below HS1.out u7.2) _ (fun e => hne (Option.some.inj e)), by rw [HGS.out, ← gainL_set (u := gv), ← map_set_int]; exact own_put (own_below HS2.out u7.2) j _, (HL3.out.trans (u7.2.mono zL3)).setCell (HS2.out.lt g2 rfl).1 _⟩
           case measure => simp [intOf]; omega
          ·obtain rfl : s = p.rows.length := by omega
           go_wp2_with fail
           go_roundw
           case rel => exact ⟨j + 1, by omega, by go_num, HS1.out, by rw [← gainL_succ]; exact HS2.out, HL3.out⟩
           case measure => simp [intOf]; omega
        ·obtain rfl : j = N := by omega
         have hlx : (xall p (nats l)).length = j := by rw [HNN.out]; exact length_putAll _ _ _ _
         have hly' : (yall p (nats l)).length = p.rows.length := by simp [yall]
         have hlg : (gall p (nats l)).length = j := by rw [HNN.out]; simp [gall]
         have HF1 := h_ (show ∀ A c w, Rd w A c (xall p (nats l)) → Calls Tryz.prog 34 #[.slice A j c, .int .i64 dn] w (RetPt w (ptN (xall p (nats l)) dn) (ptD (xall p (nats l)) dn) (ptE (xall p (nats l)) dn)) from
          fun A c w h => by have := frac_Point A (xall p (nats l)) c dn w h; rw [hlx] at this; exact this)
         have HF2 := h_ (show ∀ A c w, Rd w A c (yall p (nats l)) → Calls Tryz.prog 34 #[.slice A p.rows.length c, .int .i64 dn] w (RetPt w (ptN (yall p (nats l)) dn) (ptD (yall p (nats l)) dn) (ptE (yall p (nats l)) dn)) from
          fun A c w h => by have := frac_Point A (yall p (nats l)) c dn w h; rw [hly'] at this; exact this)
         have HF3 := h_ (show ∀ A c w, Rd w A c (gall p (nats l)) → Calls Tryz.prog 34 #[.slice A j c, .int .i64 dn] w (RetPt w (ptN (gall p (nats l)) dn) (ptD (gall p (nats l)) dn) (ptE (gall p (nats l)) dn)) from
          fun A c w h => by have := frac_Point A (gall p (nats l)) c dn w h; rw [hlg] at this; exact this)
         have HX5 := h_ (show Rd Y2 (some ⟨g1, 0, none⟩) j (xall p (nats l)) from Rd.of_own (base := w3.heap.size) (e := 2) (by rw [hlx]; exact HR1.out) (by omega))
         have HG5 := h_ (show Rd Y2 (some ⟨g2, 0, none⟩) j (gall p (nats l)) from Rd.of_own (base := w3.heap.size) (e := 2) (by
          rw [hlg, ← gainL_end]
          have := HR2.out
          rw [HNN.out] at this ⊢
          exact this) (by omega))
         have HY5 := h_ (show Rd Y2 Y cy (yall p (nats l)) from HY3.out.below HL2.out)
         clear hlx hly' hlg q0 q1
         go_wp2_with fail
         refine (HF1.out _ _ _ (by exact HX5.out.alloc _)).mono ?_
         rintro e w4 ⟨X, cx, rfl, hX, hb4, hXn⟩
         have Bc := Blk.next (Blk.mk' Y2 64 #[.slice none 0 0, .int .i64 0, .slice none 0 0, .int .i64 0, .slice none 0 0, .int .i64 0]) hb4
         have b0 := Bc.cell 0
         have b1 := Bc.cell 1
         have b2 := Bc.frozen 0
         have b3 := Bc.frozen 1
         have HBc := h_ Bc
         have HB4 := h_ (show Below Y2.heap.size Y2 w4 from ((Below.refl _ _).alloc (Nat.le_refl _) _).trans (hb4.mono (by simp)))
         have HX6 := h_ hX
         have HXN := h_ hXn
         simp only [List.getElem?_toArray, List.getElem?_cons_zero, List.getElem?_cons_succ] at b0 b1
         clear Bc hX hXn hb4
         go_wp2_with fail
         clear b0 b1 b2 b3
         have zcb : w1.heap.size ≤ Y2.heap.size := HW2'.out.size
         have HC5 := h_ ((HBc.out.set0 0 (.slice X (ptN (xall p (nats l)) dn).length cx)).set0 1 (.int .i64 (ptD (xall p (nats l)) dn)))
         have HB5 := h_ ((HB4.out.setCell (p := ⟨Y2.heap.size, 0, none⟩) (Nat.le_refl _) (.slice X (ptN (xall p (nats l)) dn).length cx)).setCell (p := ⟨Y2.heap.size, 1, none⟩) (Nat.le_refl _) (.int .i64 (ptD (xall p (nats l)) dn)))
         have HX7 := h_ ((HX6.out.setCell_out ⟨Y2.heap.size, 0, none⟩ (.slice X (ptN (xall p (nats l)) dn).length cx) (fun ad e => by have := HXN.out ad e; simp at this ⊢; omega)).setCell_out ⟨Y2.heap.size, 1, none⟩ (.int .i64 (ptD (xall p (nats l)) dn)) (fun ad e => by have := HXN.out ad e; simp at this ⊢; omega))
         clear HBc HB4 HX6
         generalize ((w4.setCell ⟨Y2.heap.size, 0, none⟩ (.slice X (ptN (xall p (nats l)) dn).length cx)).setCell ⟨Y2.heap.size, 1, none⟩ (.int .i64 (ptD (xall p (nats l)) dn))) = W5 at *
         refine (HF2.out _ _ _ (by exact HY5.out.below HB5.out)).mono ?_
         rintro e w6 ⟨Yp, cyp, rfl, hYp, hb6, hYn⟩
         have z56 := HB5.out.size
         have HC6 := h_ (HC5.out.next hb6)
         have HB6 := h_ (HB5.out.trans (hb6.mono z56))
         have HX8 := h_ (HX7.out.below hb6)
         have HYP := h_ hYp
         have HYN := h_ hYn
         have lc5 := HC5.out.lt
         have b0 : w6.cell? ⟨Y2.heap.size, 2, none⟩ = some (.slice none 0 0) := HC6.out.cell 2
         have b1 : w6.cell? ⟨Y2.heap.size, 3, none⟩ = some (.int .i64 0) := HC6.out.cell 3
         have b2 := HC6.out.frozen 2
         have b3 := HC6.out.frozen 3
         clear hYp hYn hb6 HC5 HB5 HX7
         go_wp2_with fail
         clear b0 b1 b2 b3
         have HC7 := h_ ((HC6.out.set0 2 (.slice Yp (ptN (yall p (nats l)) dn).length cyp)).set0 3 (.int .i64 (ptD (yall p (nats l)) dn)))
         have HB7 := h_ ((HB6.out.setCell (p := ⟨Y2.heap.size, 2, none⟩) (Nat.le_refl _) (.slice Yp (ptN (yall p (nats l)) dn).length cyp)).setCell (p := ⟨Y2.heap.size, 3, none⟩) (Nat.le_refl _) (.int .i64 (ptD (yall p (nats l)) dn)))
         have HX9 := h_ ((HX8.out.setCell_out ⟨Y2.heap.size, 2, none⟩ (.slice Yp (ptN (yall p (nats l)) dn).length cyp) (fun ad e => by have := HXN.out ad e; simp at this ⊢; omega)).setCell_out ⟨Y2.heap.size, 3, none⟩ (.int .i64 (ptD (yall p (nats l)) dn)) (fun ad e => by have := HXN.out ad e; simp at this ⊢; omega))
         have HYQ := h_ ((HYP.out.setCell_out ⟨Y2.heap.size, 2, none⟩ (.slice Yp (ptN (yall p (nats l)) dn).length cyp) (fun ad e => by have := HYN.out ad e; simp at this ⊢; omega)).setCell_out ⟨Y2.heap.size, 3, none⟩ (.int .i64 (ptD (yall p (nats l)) dn)) (fun ad e => by have := HYN.out ad e; simp at this ⊢; omega))
         clear HC6 HB6 HX8 HYP
         generalize ((w6.setCell ⟨Y2.heap.size, 2, none⟩ (.slice Yp (ptN (yall p (nats l)) dn).length cyp)).setCell ⟨Y2.heap.size, 3, none⟩ (.int .i64 (ptD (yall p (nats l)) dn))) = W7 at *
         refine (HF3.out _ _ _ (by exact HG5.out.below HB7.out)).mono ?_
         rintro e w8 ⟨Gp, cgp, rfl, hGp, hb8, hGn⟩
         have z78 := HB7.out.size
         have HC8 := h_ (HC7.out.next hb8)
         have HB8 := h_ (HB7.out.trans (hb8.mono z78))
         have HX10 := h_ (HX9.out.below hb8)
         have HYR := h_ (HYQ.out.below hb8)
         have HGP := h_ hGp
         have HGN := h_ hGn
         have lc7 := HC7.out.lt
         have b0 : w8.cell? ⟨Y2.heap.size, 0, none⟩ = some (.slice X (ptN (xall p (nats l)) dn).length cx) := HC8.out.cell 0
         have b1 : w8.cell? ⟨Y2.heap.size, 1, none⟩ = some (.int .i64 (ptD (xall p (nats l)) dn)) := HC8.out.cell 1
         have b2 : w8.cell? ⟨Y2.heap.size, 2, none⟩ = some (.slice Yp (ptN (yall p (nats l)) dn).length cyp) := HC8.out.cell 2
         have b3 : w8.cell? ⟨Y2.heap.size, 3, none⟩ = some (.int .i64 (ptD (yall p (nats l)) dn)) := HC8.out.cell 3
         have b4 : w8.cell? ⟨Y2.heap.size, 4, none⟩ = some (.slice none 0 0) := HC8.out.cell 4
         have b5 : w8.cell? ⟨Y2.heap.size, 5, none⟩ = some (.int .i64 0) := HC8.out.cell 5
         have b6 := HC8.out.frozen 4
         have b7 := HC8.out.frozen 5
         have HR8 := h_ (Vr.out.next (HW2'.out.trans (HB8.out.mono zcb)))
         have y0 : w8.cell? ⟨w.heap.size + 1, 0, none⟩ = some (.slice none 0 0) := HR8.out.cell 0
         have y1 : w8.cell? ⟨w.heap.size + 1, 1, none⟩ = some (.int .i64 0) := HR8.out.cell 1
         have y2 : w8.cell? ⟨w.heap.size + 1, 2, none⟩ = some (.slice none 0 0) := HR8.out.cell 2
         have y3 : w8.cell? ⟨w.heap.size + 1, 3, none⟩ = some (.int .i64 0) := HR8.out.cell 3
         have y4 : w8.cell? ⟨w.heap.size + 1, 4, none⟩ = some (.slice none 0 0) := HR8.out.cell 4
         have y5 : w8.cell? ⟨w.heap.size + 1, 5, none⟩ = some (.int .i64 0) := HR8.out.cell 5
         have g0 := HR8.out.frozen 0
         have g1 := HR8.out.frozen 1
         have g2 := HR8.out.frozen 2
         have g3 := HR8.out.frozen 3
         have g4 := HR8.out.frozen 4
         have g5 := HR8.out.frozen 5
         have hrc : w.heap.size + 1 < Y2.heap.size := by omega
         have HWT := h_ (HW1.out.trans ((HW2'.out.trans (HB8.out.mono zcb)).mono (by omega)))
         clear hGp hGn hb8
         go_wp2_with fail
         refine bodyPost_ret (v := .tuple #[.agg #[.slice X (ptN (xall p (nats l)) dn).length cx, .int .i64 (ptD (xall p (nats l)) dn), .slice Yp (ptN (yall p (nats l)) dn).length cyp, .int .i64 (ptD (yall p (nats l)) dn), .slice Gp (ptN (gall p (nats l)) dn).length cgp, .int .i64 (ptD (gall p (nats l)) dn)], .int .i64 0]) ?_ ?_ ?_
         ·simp [results, Tryz.results20, go_sem, y0, y1, y2, y3, y4, y5]
         ·rfl
         ·have hE : lookE p l = 0 := by
            unfold lookE
            rw [if_neg (by rw [HM.out]; decide), if_neg (by rw [HRA.out]; decide), if_neg HD0.out]
          have hC : lookC p l = ⟨ptN (xall p (nats l)) dn, ptD (xall p (nats l)) dn, ptN (yall p (nats l)) dn, ptD (yall p (nats l)) dn, ptN (gall p (nats l)) dn, ptD (gall p (nats l)) dn⟩ := by unfold lookC; rw [if_pos hE, HDN.out]
          rw [hE, hC]
          have hfx := HXN.out
          have hfy := HYN.out
          have hfg := HGN.out
          simp only [World.size_alloc] at hfx
          refine ⟨X, cx, Yp, cyp, Gp, cgp, rfl, ?_, ?_, ?_, ?_, fun ad e => (by have := hfx ad e; omega), fun ad e => (by have := hfy ad e; omega), fun ad e => (by have := hfg ad e; omega)⟩
          ·iterate 8 refine Rd.setCell_out ?_ _ _ (fun ad e => by have := hfx ad e; simp only [ne_eq]; omega)
           exact HX10.out
          ·iterate 8 refine Rd.setCell_out ?_ _ _ (fun ad e => by have := hfy ad e; simp only [ne_eq]; omega)
           exact HYR.out
          ·iterate 8 refine Rd.setCell_out ?_ _ _ (fun ad e => by have := hfg ad e; simp only [ne_eq]; omega)
           exact HGP.out
          ·iterate 8 refine Below.setCell ?_ (by first | (simp; done) | (simp; omega)) _
           exact HWT.out
theorem look_main (A : Option Addr) (c : Nat) (A2 : Option Addr) (c2 : Nat) (p : PG) (L : Option Addr) (l : List Int) (cl : Nat) (w : World) (hp : Pg w A c A2 c2 p) (hr : Rd w L cl l) (hm : mayPB p = true) (hri : rightA p l = true) :
    Calls Tryz.prog 20 #[.agg #[.slice A p.costs.length c, .slice A2 p.rows.length c2], .slice L l.length cl] w (RetCo w (lookC p l) (lookE p l)) :=
 (look_mainN A c A2 c2 p L l cl w hp hr hm hri).mono fun _ _ h => h.co
theorem lookC_none {p : PG} {l : List Int} (h : lookE p l ≠ 0) : lookC p l = ⟨[], 0, [], 0, [], 0⟩ := by unfold lookC; rw [if_neg h]
theorem corner_Look (A : Option Addr) (c : Nat) (A2 : Option Addr) (c2 : Nat) (p : PG) (L : Option Addr) (l : List Int) (cl : Nat) (w : World) (hp : Pg w A c A2 c2 p) (hr : Rd w L cl l) :
    Calls Tryz.prog 20 #[.agg #[.slice A p.costs.length c, .slice A2 p.rows.length c2], .slice L l.length cl] w (RetCo w (lookC p l) (lookE p l)) := by
 cases hm : mayPB p with
 | false =>
  have hE : lookE p l = 2 := by unfold lookE; rw [if_pos hm]
  rw [lookC_none (by rw [hE]; decide), hE]
  exact look_form A c A2 c2 p L l cl w hp hr hm
 | true =>
  cases hri : rightA p l with
  | true => exact look_main A c A2 c2 p L l cl w hp hr hm hri
  | false =>
   have hE : lookE p l = 3 := by unfold lookE; rw [if_neg (by rw [hm]; decide), if_pos hri]
   rw [lookC_none (by rw [hE]; decide), hE]
   by_cases hn : l.length = p.rows.length
   ·exact look_rise A c A2 c2 p L l cl w hp hr hm hn (by simpa [rightA, hn] using hri)
   ·exact look_len A c A2 c2 p L l cl w hp hr hm hn
end Go.Proofs.YtjcdkbalhleeeaaGreatDoor

namespace Go.Proofs.YtjcdkbalhleeeaaGreatDoor
open Go.RowKit
section
variable {rest : List Oper} {o : Oper} {a : Act} {w : World} {Q : Exit → Act → World → Prop}
theorem step_callW {P : Program} {ops : Array Oper} {K : Act → World → Prop} {E' : Prop} (hg : o.guard = none) {f : FuncId} {args : Array Value} (hrun : (execOp a.eval o).run P w = .ok (.enter f args) w) {U : World} {v : Value}
    (hc : Calls P f args w fun e w' => e = .returned v ∧ ∃ u : Wk U, w' = u.1) (hK : ∀ u : Wk U, K (a.put o.dst v) u.1) : if Region.wanted o (yielded ops a.tmps) = true then Oper.wp P o a w K Q else E' := by
 rw [if_pos (by simp [Region.wanted, hg])]
 unfold Oper.wp
 rw [hrun, Oper.upon_enter]
 exact hc.mono (by rintro _ _ ⟨rfl, u, rfl⟩; exact hK u)
end
set_option maxRecDepth 100000 in
set_option maxHeartbeats 2000000 in
theorem walk_Change (A : Option Addr) (c : Nat) (A2 : Option Addr) (c2 : Nat) (p : PG) (L : Option Addr) (l : List Int) (cl r : Nat) (w : World) (hp : Pg w A c A2 c2 p) (hr : Rd w L cl l) (h0 : lookE p l = 0) (hj : r < 1000000) :
    Calls Tryz.prog 85 #[.agg #[.slice A p.costs.length c, .slice A2 p.rows.length c2], .slice L l.length cl, .int .i64 r] w fun e w' => ∃ O co, e = .returned (.tuple #[.slice O l.length co, .int .i64 (lookC (qOf p r) l).xd]) ∧
     Rd w' O co (l.map fun j => (lookC (qOf p r) l).xs.getD j.toNat 0) ∧ Below w.heap.size w w' := by
 have hE2 := qOf_E h0 r
 obtain ⟨_, _, _, hco⟩ := look_corn h0
 obtain ⟨_, _, _, hcd⟩ := look_corn hE2
 obtain ⟨dd, hC2⟩ : ∃ dd, lookC (qOf p r) l = dd := ⟨_, rfl⟩
 rw [hC2] at hcd ⊢
 have HM := h_ hco.hp
 have h4 := hco.rows4
 have h1 := (mayPB_iff.1 hco.hp).2.2.1
 have HRT := h_ hco.hr
 have HNE := h_ (show l = (nats l).map Int.ofNat from (right_nats (by
  unfold lookE at h0
  split at h0
  ·omega
  ·split at h0
   ·omega
   ·rename_i g; simpa using g)).2)
 have HE2 := h_ hE2
 have HC2 := h_ hC2
 have HCD := h_ hcd
 clear h0 hE2 hC2 hco hcd
 have HP := h_ hp
 have HL := h_ hr
 obtain ⟨⟨hl, hc, hsm, _⟩, ⟨hl2, hc2, hsm2, _⟩⟩ := hp
 obtain ⟨hll, hlc, hls, _⟩ := hr
 go_enter Tryz.func85, Tryz.ntmps85
 obtain ⟨ad, As, cs, rfl, hrs⟩ := HP.out.rows.all (by omega)
 have HRS := h_ hrs
 clear hrs
 go_wp2_with fail
 have BP := h_ (show Blk ((w.alloc (.cells #[.slice A p.costs.length c, .slice (some ad) p.rows.length c2] 28)).alloc (.cells #[.slice A p.costs.length c, .slice none 0 0] 28)) w.heap.size 28 #[.slice A p.costs.length c, .slice (some ad) p.rows.length c2] from Blk.alloc (Blk.mk' _ _ _) _)
 have BQ := h_ (show Blk ((w.alloc (.cells #[.slice A p.costs.length c, .slice (some ad) p.rows.length c2] 28)).alloc (.cells #[.slice A p.costs.length c, .slice none 0 0] 28)) (w.heap.size + 1) 28 #[.slice A p.costs.length c, .slice none 0 0] from by
  have := Blk.mk' (w.alloc (.cells #[.slice A p.costs.length c, .slice (some ad) p.rows.length c2] 28)) 28 #[.slice A p.costs.length c, .slice none 0 0]
  simpa using this)
 have HB := h_ ((by (repeat (any_goals (first | exact qR _ _ | refine below_drewN ?_ _ | refine qD ?_ | refine qA ?_ ?_ _ | refine qS ?_ ?_ _))); all_goals (first | omega | (simp; done) | (simp; omega))) : Below w.heap.size w ((w.alloc (.cells #[.slice A p.costs.length c, .slice (some ad) p.rows.length c2] 28)).alloc (.cells #[.slice A p.costs.length c, .slice none 0 0] 28)))
 have lW : ((w.alloc (.cells #[.slice A p.costs.length c, .slice (some ad) p.rows.length c2] 28)).alloc (.cells #[.slice A p.costs.length c, .slice none 0 0] 28)).heap.size = w.heap.size + 2 := by simp
 generalize ((w.alloc (.cells #[.slice A p.costs.length c, .slice (some ad) p.rows.length c2] 28)).alloc (.cells #[.slice A p.costs.length c, .slice none 0 0] 28)) = W at *
 go_loopw [22] (fun i wx => ∃ (k : Nat) (v : Value), k ≤ p.rows.length ∧ i = .int .i64 k ∧ Blk wx w.heap.size 28 #[.slice A p.costs.length c, .slice (some ad) p.rows.length c2] ∧ Blk wx (w.heap.size + 1) 28 #[.slice A p.costs.length c, v] ∧ wx.ownsRow (w.heap.size + 2) 91 2 v k (rowCells As cs p (colP p r) k) ∧ Below w.heap.size w wx) (fun i _ => p.rows.length - (intOf i).toNat)
 case atStart => exact ⟨0, _, by omega, rfl, BP.out, BQ.out, World.ownsRow_nil _ _ _ _, HB.out⟩
 case round =>
  obtain ⟨k, v, hk, rfl, hPP, hQ, hown, hbel⟩ := hrel
  have HPP := h_ hPP
  have HQ := h_ hQ
  have HO := h_ hown
  have HB := h_ hbel
  have zB := hbel.size
  have lQ := hQ.lt
  clear hPP hQ hown hbel
  rename World => U
  by_cases hlt : k < p.rows.length
  ·obtain ⟨r1, r2, r3⟩ := HRS.out k hlt
   have r1' := (HB.out.cell (lc_ r1)).trans r1
   have r2' := (HB.out.cell (lc_ r2)).trans r2
   have hral := lc_ r1'
   have HRC := h_ (show rowCells As cs p (colP p r) (k + 1) = rowCells As cs p (colP p r) k ++ [.slice (As k) (p.rows.getD k ([], 0)).1.length (cs k), .int .i64 (hasZ p k r)] by rw [rowCells, colP_at p r hlt])
   have HCL := h_ (fun u hu => corner_Has A c (some ad) c2 p k r u (HP.out.below (HB.out.trans hu)) HM.out hlt hj)
   generalize hasZ p k r = hv at *
   generalize (p.rows.getD k ([], 0)).1.length = rl at *
   generalize (p.rows.getD k ([], 0)).2 = rm at *
   generalize As k = Ak at *
   generalize cs k = ck at *
   have hi0 : (k : Int) < (p.rows.length : Int) := by omega
   clear r1 r2 r3
   go_upto_region 5 with fail
   have HU1 := h_ (Blk.mk' U 91 #[.slice Ak rl ck, .int .i64 rm])
   have HP1 := h_ (HPP.out.alloc (.cells #[.slice Ak rl ck, .int .i64 rm] 91))
   have HQ1 := h_ (HQ.out.alloc (.cells #[.slice Ak rl ck, .int .i64 rm] 91))
   have HO1 := h_ (HO.out.alloc (.cells #[.slice Ak rl ck, .int .i64 rm] 91))
   have HB1 := h_ (HB.out.alloc zB (.cells #[.slice Ak rl ck, .int .i64 rm] 91))
   have hz1 : (U.alloc (.cells #[.slice Ak rl ck, .int .i64 rm] 91)).heap.size = U.heap.size + 1 := by simp
   have HC := h_ (fun u hu => HCL.out u (((by (repeat (any_goals (first | exact qR _ _ | refine below_drewN ?_ _ | refine qD ?_ | refine qA ?_ ?_ _ | refine qS ?_ ?_ _))); all_goals (first | omega | (simp; done) | (simp; omega))) : Below w.heap.size U (U.alloc (.cells #[.slice Ak rl ck, .int .i64 rm] 91))).trans hu))
   generalize (U.alloc (.cells #[.slice Ak rl ck, .int .i64 rm] 91)) = U1 at *
   have HD := h_ (show Calls Tryz.prog 47 #[.agg #[.slice A p.costs.length c, .slice (some ad) p.rows.length c2], .int .i64 k, .int .i64 r] U1.drew (fun e w' => e = Ending.returned (.int .i64 hv) ∧ ∃ u : Wk U1, w' = u.1) from
    (HC.out U1.drew (Below.refl _ _).drew).mono fun e w' h => ⟨h.1, ⟨w', ((Below.refl U1.heap.size U1).drew).trans h.2⟩, rfl⟩)
   have t0 := HQ1.out.cell 1
   have t1 := HU1.out.cell 0
   have t2 := HP1.out.cell 0
   have t3 := HP1.out.cell 1
   simp at t0 t1 t2 t3
   have s0 : ∀ u : Wk U1, u.1.cell? ⟨w.heap.size + 1, 1, none⟩ = some v := fun u => (HQ1.out.next u.2).cell 1
   have s1 : ∀ u : Wk U1, u.1.cell? ⟨U.heap.size, 0, none⟩ = some (.slice Ak rl ck) := fun u => (HU1.out.next u.2).cell 0
   have sA : ∀ (u : Wk U1) (o : Obj), (u.1.alloc o).cell? ⟨w.heap.size + 1, 1, none⟩ = some v := fun u o => ((HQ1.out.next u.2).alloc o).cell 1
   have zz : w.heap.size + 2 ≤ U1.heap.size := by omega
   clear r1' r2'
   go_region_law (first
    | (refine step_callW (f := 47) rfl (by go_simp; done) HD.out ?_; intro u7; have zu7 := u7.2.size; have c7 := s0 u7; have d7 := s1 u7)
    | (refine step_appRow rfl (.tmp 28) (.tmp 36) rfl (w.heap.size + 2) v k _ (.slice Ak rl ck) (.int .i64 hv) (by simp [Act.eval]) (own_below (own_below HO1.out u7.2) ((Below.refl _ _).alloc (Nat.le_refl _) _)) _ 1 (by simp [Act.eval]) (news2 (Blk.mk' _ _ _)) rfl rfl (by omega) (by have := u7.2.size; simp; omega) ?_; intro g cap w5 hown5 hg5 hat5 hlt5; have hB5 := (((HQ1.out.next u7.2).alloc _).grown hg5 (fun q => by have := (HO1.out.lt _ q.symm).1; omega)); have hP5 := (((HP1.out.next u7.2).alloc _).grown hg5 (fun q => by have := (HO1.out.lt _ q.symm).1; omega)); have hq0 : w5.cell? ⟨w.heap.size + 1, 1, none⟩ = some v := hB5.cell 1; have hqf := hB5.frozen 1))
   all_goals try have HB7 := h_ (HB1.out.trans (u7.2.mono (by omega)))
   all_goals
    have HB5 := h_ hB5
    have HP5 := h_ hP5
    have HO5 := h_ hown5
    have HG5 := h_ hg5
    clear hB5 hP5 hown5 hg5 hq0 hqf
    go_wp2_with fail
    go_roundw
    case rel =>
     have hb6 : Below w.heap.size w w5 := (HB7.out.alloc (by have := HB7.out.size; exact this) _).grown HG5.out (by simp; have := HB7.out.size; omega) (fun j e => by have := (HO1.out.lt j e).1; omega)
     refine ⟨k + 1, _, by omega, by go_num, HP5.out.far _ (by simp), HB5.out.set0 1 _, ?_, hb6.setCell (by simp) _⟩
     rw [HRC.out]
     exact ownsRow_setCell_below HO5.out (by simp) _
    case measure => simp [intOf]; omega
  ·obtain rfl : k = p.rows.length := by omega
   have hv : ∃ g cap, v = .slice (some ⟨g, 0, none⟩) p.rows.length cap := by
    rcases HO.out.2 with ⟨_, q⟩ | ⟨g, cap, cur, q, _⟩
    ·omega
    ·exact ⟨g, cap, q⟩
   obtain ⟨gq, cq, rfl⟩ := hv
   have HRW := h_ (show Pg U A c (some ⟨gq, 0, none⟩) cq (mostsOf p (colP p r)) from ⟨(HP.out.below HB.out).costs, rows_read HO.out (by omega) fun i hi => ((HRS.out i hi).2.2).below HB.out⟩)
   have HLK := h_ (show ∀ u : World, Below U.heap.size U u → Calls Tryz.prog 20 #[.agg #[.slice A p.costs.length c, .slice (some ⟨gq, 0, none⟩) p.rows.length cq], .slice L l.length cl] u (RetCo u dd 0) from fun u hu => by
    have := corner_Look A c (some ⟨gq, 0, none⟩) cq (mostsOf p (colP p r)) L l cl u (HRW.out.below hu) ((HL.out.below HB.out).below hu)
    rw [← qOf_mosts, HE2.out, HC2.out, qOf_len] at this
    exact this)
   have e0 : U.cell? ⟨w.heap.size + 1, 0, none⟩ = some (.slice A p.costs.length c) := HQ.out.cell 0
   have e1 : U.cell? ⟨w.heap.size + 1, 1, none⟩ = some (.slice (some ⟨gq, 0, none⟩) p.rows.length cq) := HQ.out.cell 1
   go_wp2_with fail
   refine (HLK.out _ (Below.refl _ _)).mono ?_
   rintro e w3 ⟨X', cx', Y', cy', G', cg', rfl, hX', hY', hG', hb3⟩
   have HX' := h_ hX'
   have H3 := h_ (HB.out.trans (hb3.mono zB))
   have z03 := H3.out.size
   clear hX' hY' hG' hb3 e0 e1
   go_upto_region 7 with fail
   have BD := h_ (Blk.mk' w3 64 #[.slice X' dd.xs.length cx', .int .i64 dd.xd, .slice Y' dd.ys.length cy', .int .i64 dd.yd, .slice G' dd.gs.length cg', .int .i64 dd.gd])
   have HW4 := (Below.refl w3.heap.size w3).alloc (Nat.le_refl _) (.cells #[.slice X' dd.xs.length cx', .int .i64 dd.xd, .slice Y' dd.ys.length cy', .int .i64 dd.yd, .slice G' dd.gs.length cg', .int .i64 dd.gd] 64)
   have HX4 := h_ (HX'.out.below HW4)
   have HL4 := h_ ((HL.out.below H3.out).below HW4)
   have H4 := h_ (H3.out.trans (HW4.mono z03))
   have l4 : (w3.alloc (.cells #[.slice X' dd.xs.length cx', .int .i64 dd.xd, .slice Y' dd.ys.length cy', .int .i64 dd.yd, .slice G' dd.gs.length cg', .int .i64 dd.gd] 64)).heap.size = w3.heap.size + 1 := by simp
   clear HW4
   generalize (w3.alloc (.cells #[.slice X' dd.xs.length cx', .int .i64 dd.xd, .slice Y' dd.ys.length cy', .int .i64 dd.yd, .slice G' dd.gs.length cg', .int .i64 dd.gd] 64)) = w4 at *
   obtain ⟨ls, hls⟩ : ∃ ls, ls = l.map fun j => dd.xs.getD j.toNat 0 := ⟨_, rfl⟩
   have HLS := h_ hls
   have HLN := h_ (show ls.length = l.length by rw [hls, List.length_map])
   clear hls
   go_loopw [13, 48] (fun v i wx => ∃ k : Nat, k ≤ l.length ∧ i = .int .i64 k ∧ wx.ownsRow w4.heap.size 2 1 v k ((ls.take k).map (Value.int .i64)) ∧ Below w4.heap.size w4 wx) (fun _ i _ => l.length - (intOf i).toNat)
   case atStart => exact ⟨0, by omega, rfl, World.ownsRow_nil _ _ _ _, Below.refl _ _⟩
   case round =>
    obtain ⟨k, hk, rfl, hown, hbel⟩ := hrel
    rename World => U2
    have HO2 := h_ hown
    have HB2 := h_ hbel
    have zB2 := hbel.size
    have BD2 := h_ ((BD.out.at_ rfl).below HB2.out (by omega))
    clear hown hbel
    by_cases hlt : k < l.length
    ·obtain ⟨al, rfl, hcl⟩ := (HL4.out.below HB2.out).natAt HNE.out hlt
     have hjN : (nats l).getD k 0 < dd.xs.length := by rw [HCD.out.lx, qOf_len]; exact HRT.out.lt _ (mem_getD.2 ⟨k, by simpa [nats] using hlt, rfl⟩)
     obtain ⟨ax, rfl, hcx⟩ := (HX4.out.below HB2.out).getD_at hjN
     have HSC := h_ (show ls.take (k + 1) = ls.take k ++ [dd.xs.getD ((nats l).getD k 0) 0] by
      rw [List.take_succ_eq_append_getElem (by rw [HLN.out]; exact hlt)]
      congr 2
      simp only [HLS.out, List.getElem_map]
      congr 1
      simp [nats, List.getD, List.getElem?_eq_getElem hlt])
     have v0 : U2.cell? ⟨w3.heap.size, 0, none⟩ = some (.slice (some ax) dd.xs.length cx') := BD2.out.cell 0
     have hll' := lc_ hcl
     have hxl' := lc_ hcx
     have hi0 : (k : Int) < (l.length : Int) := by omega
     have hi1 : (((nats l).getD k 0 : Nat) : Int) < (dd.xs.length : Int) := by omega
     generalize (nats l).getD k 0 = jn at *
     generalize dd.xs.getD jn 0 = xv at *
     go_wp2_with (at_builtin; refine list_app1 rfl (.tmp 52) (.tmp 59) _ _ _ 8 und_i64s inf_i64 rfl rfl w4.heap.size u13 k _ _ rfl (HO2.out.alloc _) _ 1 rfl (cell_new1 _ _ _) rfl (by unfold maxLen; omega) (by omega) (by simp; omega) ?_; intro g cap w5 hown5 hg5 hat5 hlt5)
     have HO5 := h_ hown5
     have HG5 := h_ hg5
     clear hown5 hg5
     go_roundw
     case rel => exact ⟨k + 1, by omega, by go_num, by rw [HSC.out, List.map_append]; exact HO5.out, (HB2.out.alloc zB2 _).grown HG5.out (by simp; omega) (fun j e => (HO2.out.lt j e).1)⟩
     case measure => simp [intOf]; omega
    ·obtain rfl : k = l.length := by omega
     have hln : l.length = p.rows.length := by have := HRT.out.len; simpa [nats] using this
     have hv : ∃ g cap, u13 = .slice (some ⟨g, 0, none⟩) l.length cap := by
      rcases HO2.out.2 with ⟨_, q⟩ | ⟨g, cap, cur, q, _⟩
      ·omega
      ·exact ⟨g, cap, q⟩
     obtain ⟨go, co, rfl⟩ := hv
     have v1 : U2.cell? ⟨w3.heap.size, 1, none⟩ = some (.int .i64 dd.xd) := BD2.out.cell 1
     have HRE := h_ (show Rd U2 (some ⟨go, 0, none⟩) co ls from Rd.of_own (base := w4.heap.size) (e := 2) (by have := HO2.out; rw [List.take_of_length_le (by rw [HLN.out]; exact Nat.le_refl _)] at this; rw [HLN.out]; exact this) (by rw [HLN.out]; omega))
     go_wp2_with fail
     go_region
     all_goals
      go_wp2_with fail
      refine bodyPost_ret (v := .tuple #[.slice (some ⟨go, 0, none⟩) l.length co, .int .i64 dd.xd]) ?_ ?_ ?_
      ·simp [results, Tryz.results85, go_sem]
      ·rfl
      exact ⟨_, _, rfl, by rw [← HLS.out]; exact HRE.out.below (Below.refl _ _).drew, (H4.out.trans (HB2.out.mono (by omega))).drew⟩
end Go.Proofs.YtjcdkbalhleeeaaGreatDoor

namespace Go.Proofs.YtjcdkbalhleeeaaGreatDoor
open Go.RowKit
structure Cn (w : World) (X : Option Addr) (cx : Nat) (Y : Option Addr) (cy : Nat) (G : Option Addr) (cg : Nat) (c : CO) : Prop where
 x : Rd w X cx c.xs
 y : Rd w Y cy c.ys
 g : Rd w G cg c.gs
theorem Cn.below {w w' : World} {X : Option Addr} {cx : Nat} {Y : Option Addr} {cy : Nat} {G : Option Addr} {cg : Nat} {c : CO} (h : Cn w X cx Y cy G cg c) (hb : Below w.heap.size w w') : Cn w' X cx Y cy G cg c := ⟨h.x.below hb, h.y.below hb, h.g.below hb⟩
end Go.Proofs.YtjcdkbalhleeeaaGreatDoor

namespace Go.Proofs.YtjcdkbalhleeeaaGreatDoor
open Go.RowKit
def costsN (p : PG) (l : List Int) (b : List Int) : NW := ofZ (fN 1 (lookC p l).gs (lookC (costsOf p b) l).gd) (fN 1 (lookC (costsOf p b) l).gs (lookC p l).gd) (lookC p l).gs.length
def costsE (p : PG) (l : List Int) (b : List Int) : Int := if lookE p l ≠ 0 then lookE p l else if manyB b p.costs.length 400 = false then 1 else endsE (costsN p l b)
def costsF (p : PG) (l : List Int) (b : List Int) : EN := if lookE p l ≠ 0 then zeroE else if manyB b p.costs.length 400 = false then zeroE else endsF (costsN p l b)
def costsT (p : PG) (l : List Int) (b : List Int) : EN := if lookE p l ≠ 0 then zeroE else if manyB b p.costs.length 400 = false then zeroE else endsT (costsN p l b)
theorem manyB_iff {l : List Int} {n : Nat} {m : Int} : manyB l n m = true ↔ smallB m l = true ∧ l.length = n := by unfold manyB; simp only [Bool.and_eq_true, decide_eq_true_eq]
set_option maxRecDepth 100000 in
set_option maxHeartbeats 2000000 in
theorem span_Costs (A : Option Addr) (c : Nat) (A2 : Option Addr) (c2 : Nat) (p : PG) (L : Option Addr) (l : List Int) (cl : Nat) (B : Option Addr) (b : List Int) (cb : Nat) (w : World) (hp : Pg w A c A2 c2 p) (hr : Rd w L cl l) (hb : Rd w B cb b) :
    Calls Tryz.prog 96 #[.agg #[.slice A p.costs.length c, .slice A2 p.rows.length c2], .slice L l.length cl, .slice B b.length cb] w (RetEn w (costsF p l b) (costsT p l b) (costsE p l b)) := by
 by_cases h0 : lookE p l = 0
 ·by_cases hm : manyB b p.costs.length 400 = true
  ·rw [show costsE p l b = endsE (costsN p l b) by unfold costsE; rw [if_neg (by simp [h0]), if_neg (by simp [hm])], show costsF p l b = endsF (costsN p l b) by unfold costsF; rw [if_neg (by simp [h0]), if_neg (by simp [hm])],
     show costsT p l b = endsT (costsN p l b) by unfold costsT; rw [if_neg (by simp [h0]), if_neg (by simp [hm])]]
   obtain ⟨hms, hml⟩ := manyB_iff.1 hm
   have hE := h0
   have hE2 := costs_E hml hms h0
   obtain ⟨_, _, _, hco⟩ := look_corn h0
   obtain ⟨_, _, _, hcd⟩ := look_corn hE2
   obtain ⟨cc, hC⟩ : ∃ cc, lookC p l = cc := ⟨_, rfl⟩
   obtain ⟨dd, hC2⟩ : ∃ dd, lookC (costsOf p b) l = dd := ⟨_, rfl⟩
   rw [hC] at hco
   rw [hC2] at hcd
   rw [show costsN p l b = ofZ (fN 1 cc.gs dd.gd) (fN 1 dd.gs cc.gd) cc.gs.length by unfold costsN; rw [hC, hC2]]
   have HMB := h_ hm
   have HE2 := h_ hE2
   have HC2 := h_ hC2
   have hle : cc.gs.length = dd.gs.length := by rw [hco.lg, hcd.lg]; show _ = b.length + p.rows.length; omega
   have HOF := h_ (fun (G : Option Addr) (cg : Nat) (G' : Option Addr) (cg' : Nat) (w : World) (hx : Rd w G cg cc.gs) (hy : Rd w G' cg' dd.gs) =>
    span_of G cc.gs cg cc.gd G' dd.gs cg' dd.gd 1 w hx hy hle (mayB_parts hco.mg).2.2.1 (mayB_parts hcd.mg).2.2.1 ⟨(mayB_parts hco.mg).1, (mayB_parts hco.mg).2.1⟩ ⟨(mayB_parts hcd.mg).1, (mayB_parts hcd.mg).2.1⟩ (.inl rfl))
   clear h0 hm hE2 hC2 hco hcd hms hml hle
   have HP := h_ hp
   have HL := h_ hr
   have HD := h_ hb
   obtain ⟨⟨hl, hc, hsm, _⟩, ⟨hl2, hc2, hsm2, _⟩⟩ := hp
   obtain ⟨hll, hlc, hls, _⟩ := hr
   obtain ⟨hbl, hbc, hbs, _⟩ := hb
   go_enter Tryz.func96, Tryz.ntmps96
   go_wp2_with fail
   have BP := h_ (show Blk (((w.alloc (.cells #[.slice A p.costs.length c, .slice A2 p.rows.length c2] 28)).alloc (.cells #[.bool false, .int .i64 0, .int .i64 0] 77)).alloc (.cells #[.bool false, .int .i64 0, .int .i64 0] 77)) w.heap.size 28 #[.slice A p.costs.length c, .slice A2 p.rows.length c2] from ((Blk.mk' _ _ _).alloc _).alloc _)
   have BR := h_ (show Blk (((w.alloc (.cells #[.slice A p.costs.length c, .slice A2 p.rows.length c2] 28)).alloc (.cells #[.bool false, .int .i64 0, .int .i64 0] 77)).alloc (.cells #[.bool false, .int .i64 0, .int .i64 0] 77)) (w.heap.size + 1) 77 #[.bool false, .int .i64 0, .int .i64 0] from (Blk.new _ _ _ _ (by simp)).alloc _)
   have BQ := h_ (show Blk (((w.alloc (.cells #[.slice A p.costs.length c, .slice A2 p.rows.length c2] 28)).alloc (.cells #[.bool false, .int .i64 0, .int .i64 0] 77)).alloc (.cells #[.bool false, .int .i64 0, .int .i64 0] 77)) (w.heap.size + 1 + 1) 77 #[.bool false, .int .i64 0, .int .i64 0] from Blk.new _ _ _ _ (by simp))
   have HVW := h_ ((by (repeat (any_goals (first | exact qR _ _ | refine below_drewN ?_ _ | refine qD ?_ | refine qA ?_ ?_ _ | refine qS ?_ ?_ _))); all_goals (first | omega | (simp; done) | (simp; omega))) : Below w.heap.size w (((w.alloc (.cells #[.slice A p.costs.length c, .slice A2 p.rows.length c2] 28)).alloc (.cells #[.bool false, .int .i64 0, .int .i64 0] 77)).alloc (.cells #[.bool false, .int .i64 0, .int .i64 0] 77)))
   generalize (((w.alloc (.cells #[.slice A p.costs.length c, .slice A2 p.rows.length c2] 28)).alloc (.cells #[.bool false, .int .i64 0, .int .i64 0] 77)).alloc (.cells #[.bool false, .int .i64 0, .int .i64 0] 77)) = V at *
   have zV := HVW.out.size
   have zQ := BQ.out.lt
   refine (corner_Look _ _ _ _ _ _ _ _ _ (HP.out.below HVW.out) (HL.out.below HVW.out)).mono ?_
   rw [hE, hC]
   rintro e w1 ⟨X, cx, Y, cy, G, cg, rfl, hX, hY, hG, hb1⟩
   have HCn := h_ (Cn.mk hX hY hG)
   have H1 := h_ hb1
   have z01 := hb1.size
   have lq0 : w.heap.size < w1.heap.size := by omega
   have lq1 : w.heap.size + 1 < w1.heap.size := by omega
   have lq2 : w.heap.size + 1 + 1 < w1.heap.size := by omega
   clear hX hY hG hb1
   go_upto_region 2 with fail
   have BC := h_ (Blk.mk' w1 64 #[.slice X cc.xs.length cx, .int .i64 cc.xd, .slice Y cc.ys.length cy, .int .i64 cc.yd, .slice G cc.gs.length cg, .int .i64 cc.gd])
   have HWL := (Below.refl w1.heap.size w1).alloc (Nat.le_refl _) (.cells #[.slice X cc.xs.length cx, .int .i64 cc.xd, .slice Y cc.ys.length cy, .int .i64 cc.yd, .slice G cc.gs.length cg, .int .i64 cc.gd] 64)
   have HV2 := h_ (H1.out.trans (HWL.mono z01))
   have HCW := h_ (HCn.out.below HWL)
   have HBW := h_ (HVW.out.trans (HV2.out.mono zV))
   clear HWL
   generalize (w1.alloc (.cells #[.slice X cc.xs.length cx, .int .i64 cc.xd, .slice Y cc.ys.length cy, .int .i64 cc.yd, .slice G cc.gs.length cg, .int .i64 cc.gd] 64)) = W at *
   have z0 : (W).cell? ⟨w.heap.size + 1, 0, none⟩ = some (.bool false) := (BR.out.next HV2.out).cell 0
   have z1 : (W).cell? ⟨w.heap.size + 1, 1, none⟩ = some (.int .i64 0) := (BR.out.next HV2.out).cell 1
   have z2 : (W).cell? ⟨w.heap.size + 1, 2, none⟩ = some (.int .i64 0) := (BR.out.next HV2.out).cell 2
   have z3 : (W).cell? ⟨w.heap.size + 1 + 1, 0, none⟩ = some (.bool false) := (BQ.out.next HV2.out).cell 0
   have z4 : (W).cell? ⟨w.heap.size + 1 + 1, 1, none⟩ = some (.int .i64 0) := (BQ.out.next HV2.out).cell 1
   have z5 : (W).cell? ⟨w.heap.size + 1 + 1, 2, none⟩ = some (.int .i64 0) := (BQ.out.next HV2.out).cell 2
   have y0 := (BR.out.next HV2.out).frozen 0
   have y1 := (BR.out.next HV2.out).frozen 1
   have y2 := (BR.out.next HV2.out).frozen 2
   have y3 := (BQ.out.next HV2.out).frozen 0
   have y4 := (BQ.out.next HV2.out).frozen 1
   have y5 := (BQ.out.next HV2.out).frozen 2
   have p0 : W.cell? ⟨w.heap.size, 0, none⟩ = some (.slice A p.costs.length c) := (BP.out.next HV2.out).cell 0
   have p1 : W.cell? ⟨w.heap.size, 1, none⟩ = some (.slice A2 p.rows.length c2) := (BP.out.next HV2.out).cell 1
   go_wp2_with fail
   refine (span_small _ _ _ _ _ _ (by omega) (by omega) (HD.out.below HBW.out)).mono ?_
   rw [HMB.out]
   rintro e w2 ⟨rfl, rfl⟩
   rename World => W
   go_wp2_with fail
   clear p0 p1 z0 z1 z2 z3 z4 z5 y0 y1 y2 y3 y4 y5
   refine (corner_Look _ _ _ _ (costsOf p b) _ _ _ _ ⟨HD.out.below HBW.out, (HP.out.below HBW.out).rows⟩ (HL.out.below HBW.out)).mono ?_
   rw [HE2.out, HC2.out]
   rintro e w3 ⟨X', cx', Y', cy', G', cg', rfl, hX', hY', hG', hb3⟩
   have HG' := h_ hG'
   have H3 := h_ hb3
   have z03 := hb3.size
   clear hX' hY' hG' hb3
   go_upto_region 7 with fail
   have BD := h_ (Blk.mk' w3 64 #[.slice X' dd.xs.length cx', .int .i64 dd.xd, .slice Y' dd.ys.length cy', .int .i64 dd.yd, .slice G' dd.gs.length cg', .int .i64 dd.gd])
   have HWL := (Below.refl w3.heap.size w3).alloc (Nat.le_refl _) (.cells #[.slice X' dd.xs.length cx', .int .i64 dd.xd, .slice Y' dd.ys.length cy', .int .i64 dd.yd, .slice G' dd.gs.length cg', .int .i64 dd.gd] 64)
   have HV3 := h_ (H3.out.trans (HWL.mono z03))
   have HGW := h_ (HG'.out.below HWL)
   clear HWL
   generalize (w3.alloc (.cells #[.slice X' dd.xs.length cx', .int .i64 dd.xd, .slice Y' dd.ys.length cy', .int .i64 dd.yd, .slice G' dd.gs.length cg', .int .i64 dd.gd] 64)) = W3 at *
   have v4 : W3.cell? ⟨w1.heap.size, 4, none⟩ = some (.slice G cc.gs.length cg) := (BC.out.next HV3.out).cell 4
   have v5 : W3.cell? ⟨w1.heap.size, 5, none⟩ = some (.int .i64 cc.gd) := (BC.out.next HV3.out).cell 5
   have u4 : W3.cell? ⟨w3.heap.size, 4, none⟩ = some (.slice G' dd.gs.length cg') := BD.out.cell 4
   have u5 : W3.cell? ⟨w3.heap.size, 5, none⟩ = some (.int .i64 dd.gd) := BD.out.cell 5
   go_wp2_with fail
   refine (HOF.out _ _ _ _ _ (HCW.out.g.below HV3.out) HGW.out).mono ?_
   rintro e w4 ⟨rfl, hb4⟩
   have HB4 := h_ (HV2.out.trans ((HV3.out.trans (hb4.mono HV3.out.size)).mono HV2.out.size))
   have HBW := h_ (HVW.out.trans (HB4.out.mono zV))
   have z0 : (w4).cell? ⟨w.heap.size + 1, 0, none⟩ = some (.bool false) := (BR.out.next HB4.out).cell 0
   have z1 : (w4).cell? ⟨w.heap.size + 1, 1, none⟩ = some (.int .i64 0) := (BR.out.next HB4.out).cell 1
   have z2 : (w4).cell? ⟨w.heap.size + 1, 2, none⟩ = some (.int .i64 0) := (BR.out.next HB4.out).cell 2
   have z3 : (w4).cell? ⟨w.heap.size + 1 + 1, 0, none⟩ = some (.bool false) := (BQ.out.next HB4.out).cell 0
   have z4 : (w4).cell? ⟨w.heap.size + 1 + 1, 1, none⟩ = some (.int .i64 0) := (BQ.out.next HB4.out).cell 1
   have z5 : (w4).cell? ⟨w.heap.size + 1 + 1, 2, none⟩ = some (.int .i64 0) := (BQ.out.next HB4.out).cell 2
   have y0 := (BR.out.next HB4.out).frozen 0
   have y1 := (BR.out.next HB4.out).frozen 1
   have y2 := (BR.out.next HB4.out).frozen 2
   have y3 := (BQ.out.next HB4.out).frozen 0
   have y4 := (BQ.out.next HB4.out).frozen 1
   have y5 := (BQ.out.next HB4.out).frozen 2
   clear hb4 v4 v5 u4 u5
   generalize endsF (ofZ (fN 1 cc.gs dd.gd) (fN 1 dd.gs cc.gd) cc.gs.length) = ef at *
   generalize endsT (ofZ (fN 1 cc.gs dd.gd) (fN 1 dd.gs cc.gd) cc.gs.length) = et at *
   generalize endsE (ofZ (fN 1 cc.gs dd.gd) (fN 1 dd.gs cc.gd) cc.gs.length) = ee at *
   go_wp2_with fail
   refine bodyPost_ret (v := .tuple #[.agg #[.bool ef.op, .int .i64 ef.n, .int .i64 ef.d], .agg #[.bool et.op, .int .i64 et.n, .int .i64 et.d], .int .i64 ee]) ?_ ?_ ?_
   ·simp [results, Tryz.results96, go_sem, z0, z1, z2, z3, z4, z5]
   ·rfl
   ·refine ⟨rfl, ?_⟩
    iterate 6 refine Below.setCell ?_ (by first | (simp; done) | (simp; omega)) _
    exact HBW.out
  ·have hm : manyB b p.costs.length 400 = false := by simpa using hm
   rw [show costsE p l b = 1 by unfold costsE; rw [if_neg (by simp [h0]), if_pos hm], show costsF p l b = zeroE by unfold costsF; rw [if_neg (by simp [h0]), if_pos hm], show costsT p l b = zeroE by unfold costsT; rw [if_neg (by simp [h0]), if_pos hm]]
   have hE := h0
   obtain ⟨cc, hC⟩ : ∃ cc, lookC p l = cc := ⟨_, rfl⟩
   have HMB := h_ hm
   clear h0 hm
   have HP := h_ hp
   have HL := h_ hr
   have HD := h_ hb
   obtain ⟨⟨hl, hc, hsm, _⟩, ⟨hl2, hc2, hsm2, _⟩⟩ := hp
   obtain ⟨hll, hlc, hls, _⟩ := hr
   obtain ⟨hbl, hbc, hbs, _⟩ := hb
   go_enter Tryz.func96, Tryz.ntmps96
   go_wp2_with fail
   have BP := h_ (show Blk (((w.alloc (.cells #[.slice A p.costs.length c, .slice A2 p.rows.length c2] 28)).alloc (.cells #[.bool false, .int .i64 0, .int .i64 0] 77)).alloc (.cells #[.bool false, .int .i64 0, .int .i64 0] 77)) w.heap.size 28 #[.slice A p.costs.length c, .slice A2 p.rows.length c2] from ((Blk.mk' _ _ _).alloc _).alloc _)
   have BR := h_ (show Blk (((w.alloc (.cells #[.slice A p.costs.length c, .slice A2 p.rows.length c2] 28)).alloc (.cells #[.bool false, .int .i64 0, .int .i64 0] 77)).alloc (.cells #[.bool false, .int .i64 0, .int .i64 0] 77)) (w.heap.size + 1) 77 #[.bool false, .int .i64 0, .int .i64 0] from (Blk.new _ _ _ _ (by simp)).alloc _)
   have BQ := h_ (show Blk (((w.alloc (.cells #[.slice A p.costs.length c, .slice A2 p.rows.length c2] 28)).alloc (.cells #[.bool false, .int .i64 0, .int .i64 0] 77)).alloc (.cells #[.bool false, .int .i64 0, .int .i64 0] 77)) (w.heap.size + 1 + 1) 77 #[.bool false, .int .i64 0, .int .i64 0] from Blk.new _ _ _ _ (by simp))
   have HVW := h_ ((by (repeat (any_goals (first | exact qR _ _ | refine below_drewN ?_ _ | refine qD ?_ | refine qA ?_ ?_ _ | refine qS ?_ ?_ _))); all_goals (first | omega | (simp; done) | (simp; omega))) : Below w.heap.size w (((w.alloc (.cells #[.slice A p.costs.length c, .slice A2 p.rows.length c2] 28)).alloc (.cells #[.bool false, .int .i64 0, .int .i64 0] 77)).alloc (.cells #[.bool false, .int .i64 0, .int .i64 0] 77)))
   generalize (((w.alloc (.cells #[.slice A p.costs.length c, .slice A2 p.rows.length c2] 28)).alloc (.cells #[.bool false, .int .i64 0, .int .i64 0] 77)).alloc (.cells #[.bool false, .int .i64 0, .int .i64 0] 77)) = V at *
   have zV := HVW.out.size
   have zQ := BQ.out.lt
   refine (corner_Look _ _ _ _ _ _ _ _ _ (HP.out.below HVW.out) (HL.out.below HVW.out)).mono ?_
   rw [hE, hC]
   rintro e w1 ⟨X, cx, Y, cy, G, cg, rfl, hX, hY, hG, hb1⟩
   have HCn := h_ (Cn.mk hX hY hG)
   have H1 := h_ hb1
   have z01 := hb1.size
   have lq0 : w.heap.size < w1.heap.size := by omega
   have lq1 : w.heap.size + 1 < w1.heap.size := by omega
   have lq2 : w.heap.size + 1 + 1 < w1.heap.size := by omega
   clear hX hY hG hb1
   go_upto_region 2 with fail
   have BC := h_ (Blk.mk' w1 64 #[.slice X cc.xs.length cx, .int .i64 cc.xd, .slice Y cc.ys.length cy, .int .i64 cc.yd, .slice G cc.gs.length cg, .int .i64 cc.gd])
   have HWL := (Below.refl w1.heap.size w1).alloc (Nat.le_refl _) (.cells #[.slice X cc.xs.length cx, .int .i64 cc.xd, .slice Y cc.ys.length cy, .int .i64 cc.yd, .slice G cc.gs.length cg, .int .i64 cc.gd] 64)
   have HV2 := h_ (H1.out.trans (HWL.mono z01))
   have HCW := h_ (HCn.out.below HWL)
   have HBW := h_ (HVW.out.trans (HV2.out.mono zV))
   clear HWL
   generalize (w1.alloc (.cells #[.slice X cc.xs.length cx, .int .i64 cc.xd, .slice Y cc.ys.length cy, .int .i64 cc.yd, .slice G cc.gs.length cg, .int .i64 cc.gd] 64)) = W at *
   have z0 : (W).cell? ⟨w.heap.size + 1, 0, none⟩ = some (.bool false) := (BR.out.next HV2.out).cell 0
   have z1 : (W).cell? ⟨w.heap.size + 1, 1, none⟩ = some (.int .i64 0) := (BR.out.next HV2.out).cell 1
   have z2 : (W).cell? ⟨w.heap.size + 1, 2, none⟩ = some (.int .i64 0) := (BR.out.next HV2.out).cell 2
   have z3 : (W).cell? ⟨w.heap.size + 1 + 1, 0, none⟩ = some (.bool false) := (BQ.out.next HV2.out).cell 0
   have z4 : (W).cell? ⟨w.heap.size + 1 + 1, 1, none⟩ = some (.int .i64 0) := (BQ.out.next HV2.out).cell 1
   have z5 : (W).cell? ⟨w.heap.size + 1 + 1, 2, none⟩ = some (.int .i64 0) := (BQ.out.next HV2.out).cell 2
   have y0 := (BR.out.next HV2.out).frozen 0
   have y1 := (BR.out.next HV2.out).frozen 1
   have y2 := (BR.out.next HV2.out).frozen 2
   have y3 := (BQ.out.next HV2.out).frozen 0
   have y4 := (BQ.out.next HV2.out).frozen 1
   have y5 := (BQ.out.next HV2.out).frozen 2
   have p0 : W.cell? ⟨w.heap.size, 0, none⟩ = some (.slice A p.costs.length c) := (BP.out.next HV2.out).cell 0
   go_wp2_with fail
   refine (span_small _ _ _ _ _ _ (by omega) (by omega) (HD.out.below HBW.out)).mono ?_
   rw [HMB.out]
   rintro e w2 ⟨rfl, rfl⟩
   go_wp2_with fail
   refine bodyPost_ret (v := .tuple #[.agg #[.bool false, .int .i64 0, .int .i64 0], .agg #[.bool false, .int .i64 0, .int .i64 0], .int .i64 1]) ?_ ?_ ?_
   ·simp [results, Tryz.results96, go_sem, z0, z1, z2, z3, z4, z5]
   ·rfl
   ·refine ⟨rfl, ?_⟩
    iterate 6 refine Below.setCell ?_ (by first | (simp; done) | (simp; omega)) _
    exact HBW.out
 ·have hne : (lookE p l != 0) = true := by simpa using h0
  rw [show costsE p l b = lookE p l by unfold costsE; rw [if_pos h0], show costsF p l b = zeroE by unfold costsF; rw [if_pos h0], show costsT p l b = zeroE by unfold costsT; rw [if_pos h0]]
  obtain ⟨cc, hC⟩ : ∃ cc, lookC p l = cc := ⟨_, rfl⟩
  obtain ⟨ee, hE⟩ : ∃ ee, lookE p l = ee := ⟨_, rfl⟩
  rw [hE] at hne ⊢
  clear h0
  have HP := h_ hp
  have HL := h_ hr
  have HD := h_ hb
  obtain ⟨⟨hl, hc, hsm, _⟩, ⟨hl2, hc2, hsm2, _⟩⟩ := hp
  obtain ⟨hll, hlc, hls, _⟩ := hr
  obtain ⟨hbl, hbc, hbs, _⟩ := hb
  go_enter Tryz.func96, Tryz.ntmps96
  go_wp2_with fail
  have BP := h_ (show Blk (((w.alloc (.cells #[.slice A p.costs.length c, .slice A2 p.rows.length c2] 28)).alloc (.cells #[.bool false, .int .i64 0, .int .i64 0] 77)).alloc (.cells #[.bool false, .int .i64 0, .int .i64 0] 77)) w.heap.size 28 #[.slice A p.costs.length c, .slice A2 p.rows.length c2] from ((Blk.mk' _ _ _).alloc _).alloc _)
  have BR := h_ (show Blk (((w.alloc (.cells #[.slice A p.costs.length c, .slice A2 p.rows.length c2] 28)).alloc (.cells #[.bool false, .int .i64 0, .int .i64 0] 77)).alloc (.cells #[.bool false, .int .i64 0, .int .i64 0] 77)) (w.heap.size + 1) 77 #[.bool false, .int .i64 0, .int .i64 0] from (Blk.new _ _ _ _ (by simp)).alloc _)
  have BQ := h_ (show Blk (((w.alloc (.cells #[.slice A p.costs.length c, .slice A2 p.rows.length c2] 28)).alloc (.cells #[.bool false, .int .i64 0, .int .i64 0] 77)).alloc (.cells #[.bool false, .int .i64 0, .int .i64 0] 77)) (w.heap.size + 1 + 1) 77 #[.bool false, .int .i64 0, .int .i64 0] from Blk.new _ _ _ _ (by simp))
  have HVW := h_ ((by (repeat (any_goals (first | exact qR _ _ | refine below_drewN ?_ _ | refine qD ?_ | refine qA ?_ ?_ _ | refine qS ?_ ?_ _))); all_goals (first | omega | (simp; done) | (simp; omega))) : Below w.heap.size w (((w.alloc (.cells #[.slice A p.costs.length c, .slice A2 p.rows.length c2] 28)).alloc (.cells #[.bool false, .int .i64 0, .int .i64 0] 77)).alloc (.cells #[.bool false, .int .i64 0, .int .i64 0] 77)))
  generalize (((w.alloc (.cells #[.slice A p.costs.length c, .slice A2 p.rows.length c2] 28)).alloc (.cells #[.bool false, .int .i64 0, .int .i64 0] 77)).alloc (.cells #[.bool false, .int .i64 0, .int .i64 0] 77)) = V at *
  have zV := HVW.out.size
  have zQ := BQ.out.lt
  refine (corner_Look _ _ _ _ _ _ _ _ _ (HP.out.below HVW.out) (HL.out.below HVW.out)).mono ?_
  rw [hE, hC]
  rintro e w1 ⟨X, cx, Y, cy, G, cg, rfl, hX, hY, hG, hb1⟩
  have HCn := h_ (Cn.mk hX hY hG)
  have H1 := h_ hb1
  have z01 := hb1.size
  have lq0 : w.heap.size < w1.heap.size := by omega
  have lq1 : w.heap.size + 1 < w1.heap.size := by omega
  have lq2 : w.heap.size + 1 + 1 < w1.heap.size := by omega
  clear hX hY hG hb1
  go_upto_region 2 with fail
  have BC := h_ (Blk.mk' w1 64 #[.slice X cc.xs.length cx, .int .i64 cc.xd, .slice Y cc.ys.length cy, .int .i64 cc.yd, .slice G cc.gs.length cg, .int .i64 cc.gd])
  have HWL := (Below.refl w1.heap.size w1).alloc (Nat.le_refl _) (.cells #[.slice X cc.xs.length cx, .int .i64 cc.xd, .slice Y cc.ys.length cy, .int .i64 cc.yd, .slice G cc.gs.length cg, .int .i64 cc.gd] 64)
  have HV2 := h_ (H1.out.trans (HWL.mono z01))
  have HCW := h_ (HCn.out.below HWL)
  have HBW := h_ (HVW.out.trans (HV2.out.mono zV))
  clear HWL
  generalize (w1.alloc (.cells #[.slice X cc.xs.length cx, .int .i64 cc.xd, .slice Y cc.ys.length cy, .int .i64 cc.yd, .slice G cc.gs.length cg, .int .i64 cc.gd] 64)) = W at *
  have z0 : (W).cell? ⟨w.heap.size + 1, 0, none⟩ = some (.bool false) := (BR.out.next HV2.out).cell 0
  have z1 : (W).cell? ⟨w.heap.size + 1, 1, none⟩ = some (.int .i64 0) := (BR.out.next HV2.out).cell 1
  have z2 : (W).cell? ⟨w.heap.size + 1, 2, none⟩ = some (.int .i64 0) := (BR.out.next HV2.out).cell 2
  have z3 : (W).cell? ⟨w.heap.size + 1 + 1, 0, none⟩ = some (.bool false) := (BQ.out.next HV2.out).cell 0
  have z4 : (W).cell? ⟨w.heap.size + 1 + 1, 1, none⟩ = some (.int .i64 0) := (BQ.out.next HV2.out).cell 1
  have z5 : (W).cell? ⟨w.heap.size + 1 + 1, 2, none⟩ = some (.int .i64 0) := (BQ.out.next HV2.out).cell 2
  have y0 := (BR.out.next HV2.out).frozen 0
  have y1 := (BR.out.next HV2.out).frozen 1
  have y2 := (BR.out.next HV2.out).frozen 2
  have y3 := (BQ.out.next HV2.out).frozen 0
  have y4 := (BQ.out.next HV2.out).frozen 1
  have y5 := (BQ.out.next HV2.out).frozen 2
  go_wp2_with fail
  refine bodyPost_ret (v := .tuple #[.agg #[.bool false, .int .i64 0, .int .i64 0], .agg #[.bool false, .int .i64 0, .int .i64 0], .int .i64 ee]) ?_ ?_ ?_
  ·simp [results, Tryz.results96, go_sem, z0, z1, z2, z3, z4, z5]
  ·rfl
  ·refine ⟨rfl, ?_⟩
   iterate 6 refine Below.setCell ?_ (by first | (simp; done) | (simp; omega)) _
   exact HBW.out
end Go.Proofs.YtjcdkbalhleeeaaGreatDoor

namespace Go.Proofs.YtjcdkbalhleeeaaGreatDoor
open Go.RowKit
def RetE1 (w : World) (a : EN) (e : Ending) (w' : World) : Prop := e = .returned (.agg #[.bool a.op, .int .i64 a.n, .int .i64 a.d]) ∧ Below w.heap.size w w'
theorem und_lem (ao : Bool) (an ad : Int) (co : Bool) (cn cd : Int) (w : World) :
    Calls Tryz.prog 98 #[.agg #[.bool ao, .int .i64 an, .int .i64 ad], .agg #[.bool co, .int .i64 cn, .int .i64 cd]] w (RetE1 w (undP ⟨ao, an, ad⟩ ⟨co, cn, cd⟩)) := by
 obtain ⟨q, hq⟩ : ∃ q, lessB cn cd an ad = q := ⟨_, rfl⟩
 have HLS := h_ (fun w1 => by have := frac_Less cn cd an ad w1; rw [hq] at this; exact this)
 have hu : undP ⟨ao, an, ad⟩ ⟨co, cn, cd⟩ = if co || (!ao && q) then ⟨co, cn, cd⟩ else ⟨ao, an, ad⟩ := by simp [undP, hq]
 obtain ⟨R, hR⟩ : ∃ R, undP ⟨ao, an, ad⟩ ⟨co, cn, cd⟩ = R := ⟨_, rfl⟩
 rw [hR] at hu ⊢
 have HU := h_ hu
 clear hu hq hR
 go_enter Tryz.func98, Tryz.ntmps98
 go_upto_region 1 with fail
 have B0 := h_ (show Blk (((w.alloc (.cells #[.bool ao, .int .i64 an, .int .i64 ad] 77)).alloc (.cells #[.bool co, .int .i64 cn, .int .i64 cd] 77)).alloc (.cells #[.bool false, .int .i64 0, .int .i64 0] 77)) w.heap.size 77 #[.bool ao, .int .i64 an, .int .i64 ad] from ((Blk.mk' _ _ _).alloc _).alloc _)
 have B1 := h_ (show Blk (((w.alloc (.cells #[.bool ao, .int .i64 an, .int .i64 ad] 77)).alloc (.cells #[.bool co, .int .i64 cn, .int .i64 cd] 77)).alloc (.cells #[.bool false, .int .i64 0, .int .i64 0] 77)) (w.heap.size + 1) 77 #[.bool co, .int .i64 cn, .int .i64 cd] from (Blk.new (w.alloc (.cells #[.bool ao, .int .i64 an, .int .i64 ad] 77)) 77 _ _ (by simp)).alloc _)
 have B2 := h_ (show Blk (((w.alloc (.cells #[.bool ao, .int .i64 an, .int .i64 ad] 77)).alloc (.cells #[.bool co, .int .i64 cn, .int .i64 cd] 77)).alloc (.cells #[.bool false, .int .i64 0, .int .i64 0] 77)) (w.heap.size + 2) 77 #[.bool false, .int .i64 0, .int .i64 0] from Blk.new ((w.alloc (.cells #[.bool ao, .int .i64 an, .int .i64 ad] 77)).alloc (.cells #[.bool co, .int .i64 cn, .int .i64 cd] 77)) 77 _ _ (by simp))
 have HB := h_ ((by (repeat (any_goals (first | exact qR _ _ | refine below_drewN ?_ _ | refine qD ?_ | refine qA ?_ ?_ _ | refine qS ?_ ?_ _))); all_goals (first | omega | (simp; done) | (simp; omega))) : Below w.heap.size w (((w.alloc (.cells #[.bool ao, .int .i64 an, .int .i64 ad] 77)).alloc (.cells #[.bool co, .int .i64 cn, .int .i64 cd] 77)).alloc (.cells #[.bool false, .int .i64 0, .int .i64 0] 77)))
 generalize (((w.alloc (.cells #[.bool ao, .int .i64 an, .int .i64 ad] 77)).alloc (.cells #[.bool co, .int .i64 cn, .int .i64 cd] 77)).alloc (.cells #[.bool false, .int .i64 0, .int .i64 0] 77)) = V at *
 have a0 : V.cell? ⟨w.heap.size, 0, none⟩ = some (.bool ao) := (B0.out).cell 0
 have a1 : V.cell? ⟨w.heap.size, 1, none⟩ = some (.int .i64 an) := (B0.out).cell 1
 have a2 : V.cell? ⟨w.heap.size, 2, none⟩ = some (.int .i64 ad) := (B0.out).cell 2
 have c0 : V.cell? ⟨w.heap.size + 1, 0, none⟩ = some (.bool co) := (B1.out).cell 0
 have c1 : V.cell? ⟨w.heap.size + 1, 1, none⟩ = some (.int .i64 cn) := (B1.out).cell 1
 have c2 : V.cell? ⟨w.heap.size + 1, 2, none⟩ = some (.int .i64 cd) := (B1.out).cell 2
 have r0 : V.cell? ⟨w.heap.size + 2, 0, none⟩ = some (.bool false) := (B2.out).cell 0
 have r1 : V.cell? ⟨w.heap.size + 2, 1, none⟩ = some (.int .i64 0) := (B2.out).cell 1
 have r2 : V.cell? ⟨w.heap.size + 2, 2, none⟩ = some (.int .i64 0) := (B2.out).cell 2
 have f0 := (B2.out).frozen 0
 have f1 := (B2.out).frozen 1
 have f2 := (B2.out).frozen 2
 cases co
 ·cases ao
  ·go_wp2_with fail
   refine (HLS.out _).mono ?_
   rintro e w1 ⟨rfl, hb1⟩
   have HB1 := h_ (HB.out.trans (hb1.mono HB.out.size))
   have D0 := h_ (B0.out.next hb1)
   have D1 := h_ (B1.out.next hb1)
   have D2 := h_ (B2.out.next hb1)
   clear hb1 a0 a1 a2 c0 c1 c2 r0 r1 r2 f0 f1 f2
   have a0 : w1.cell? ⟨w.heap.size, 0, none⟩ = some (.bool false) := (D0.out).cell 0
   have a1 : w1.cell? ⟨w.heap.size, 1, none⟩ = some (.int .i64 an) := (D0.out).cell 1
   have a2 : w1.cell? ⟨w.heap.size, 2, none⟩ = some (.int .i64 ad) := (D0.out).cell 2
   have c0 : w1.cell? ⟨w.heap.size + 1, 0, none⟩ = some (.bool false) := (D1.out).cell 0
   have c1 : w1.cell? ⟨w.heap.size + 1, 1, none⟩ = some (.int .i64 cn) := (D1.out).cell 1
   have c2 : w1.cell? ⟨w.heap.size + 1, 2, none⟩ = some (.int .i64 cd) := (D1.out).cell 2
   have r0 : w1.cell? ⟨w.heap.size + 2, 0, none⟩ = some (.bool false) := (D2.out).cell 0
   have r1 : w1.cell? ⟨w.heap.size + 2, 1, none⟩ = some (.int .i64 0) := (D2.out).cell 1
   have r2 : w1.cell? ⟨w.heap.size + 2, 2, none⟩ = some (.int .i64 0) := (D2.out).cell 2
   have f0 := (D2.out).frozen 0
   have f1 := (D2.out).frozen 1
   have f2 := (D2.out).frozen 2
   cases q
   ·go_wp2_with fail
    refine bodyPost_ret (v := .agg #[.bool false, .int .i64 an, .int .i64 ad]) ?_ ?_ ?_
    ·simp [results, Tryz.results98, go_sem, a0, a1, a2, c0, c1, c2, r0, r1, r2]
    ·rfl
    exact ⟨by rw [HU.out]; rfl, (by (repeat (any_goals (first | exact qR _ _ | exact HB1.out | refine below_drewN ?_ _ | refine qD ?_ | refine qA ?_ ?_ _ | refine qS ?_ ?_ _ | refine Below.trans ?_ (Below.mono HB1.out ?_)))); all_goals (first | omega | (simp; done) | (simp; omega) | ((try have z0 := HB1.out.size); (try simp at z0); (try simp); omega)))⟩
   ·go_wp2_with fail
    refine bodyPost_ret (v := .agg #[.bool false, .int .i64 cn, .int .i64 cd]) ?_ ?_ ?_
    ·simp [results, Tryz.results98, go_sem, a0, a1, a2, c0, c1, c2, r0, r1, r2]
    ·rfl
    exact ⟨by rw [HU.out]; rfl, (by (repeat (any_goals (first | exact qR _ _ | exact HB1.out | refine below_drewN ?_ _ | refine qD ?_ | refine qA ?_ ?_ _ | refine qS ?_ ?_ _ | refine Below.trans ?_ (Below.mono HB1.out ?_)))); all_goals (first | omega | (simp; done) | (simp; omega) | ((try have z0 := HB1.out.size); (try simp at z0); (try simp); omega)))⟩
  ·go_wp2_with fail
   refine bodyPost_ret (v := .agg #[.bool true, .int .i64 an, .int .i64 ad]) ?_ ?_ ?_
   ·simp [results, Tryz.results98, go_sem, a0, a1, a2, c0, c1, c2, r0, r1, r2]
   ·rfl
   exact ⟨by rw [HU.out]; rfl, (by (repeat (any_goals (first | exact qR _ _ | exact HB.out | refine below_drewN ?_ _ | refine qD ?_ | refine qA ?_ ?_ _ | refine qS ?_ ?_ _ | refine Below.trans ?_ (Below.mono HB.out ?_)))); all_goals (first | omega | (simp; done) | (simp; omega) | ((try have z0 := HB.out.size); (try simp at z0); (try simp); omega)))⟩
 ·go_wp2_with fail
  refine bodyPost_ret (v := .agg #[.bool true, .int .i64 cn, .int .i64 cd]) ?_ ?_ ?_
  ·simp [results, Tryz.results98, go_sem, a0, a1, a2, c0, c1, c2, r0, r1, r2]
  ·rfl
  exact ⟨by rw [HU.out]; rfl, (by (repeat (any_goals (first | exact qR _ _ | exact HB.out | refine below_drewN ?_ _ | refine qD ?_ | refine qA ?_ ?_ _ | refine qS ?_ ?_ _ | refine Below.trans ?_ (Below.mono HB.out ?_)))); all_goals (first | omega | (simp; done) | (simp; omega) | ((try have z0 := HB.out.size); (try simp at z0); (try simp); omega)))⟩
theorem ovr_lem (ao : Bool) (an ad : Int) (co : Bool) (cn cd : Int) (w : World) :
    Calls Tryz.prog 99 #[.agg #[.bool ao, .int .i64 an, .int .i64 ad], .agg #[.bool co, .int .i64 cn, .int .i64 cd]] w (RetE1 w (ovrP ⟨ao, an, ad⟩ ⟨co, cn, cd⟩)) := by
 obtain ⟨q, hq⟩ : ∃ q, lessB an ad cn cd = q := ⟨_, rfl⟩
 have HLS := h_ (fun w1 => by have := frac_Less an ad cn cd w1; rw [hq] at this; exact this)
 have hu : ovrP ⟨ao, an, ad⟩ ⟨co, cn, cd⟩ = if co || (!ao && q) then ⟨co, cn, cd⟩ else ⟨ao, an, ad⟩ := by simp [ovrP, hq]
 obtain ⟨R, hR⟩ : ∃ R, ovrP ⟨ao, an, ad⟩ ⟨co, cn, cd⟩ = R := ⟨_, rfl⟩
 rw [hR] at hu ⊢
 have HU := h_ hu
 clear hu hq hR
 go_enter Tryz.func99, Tryz.ntmps99
 go_upto_region 1 with fail
 have B0 := h_ (show Blk (((w.alloc (.cells #[.bool ao, .int .i64 an, .int .i64 ad] 77)).alloc (.cells #[.bool co, .int .i64 cn, .int .i64 cd] 77)).alloc (.cells #[.bool false, .int .i64 0, .int .i64 0] 77)) w.heap.size 77 #[.bool ao, .int .i64 an, .int .i64 ad] from ((Blk.mk' _ _ _).alloc _).alloc _)
 have B1 := h_ (show Blk (((w.alloc (.cells #[.bool ao, .int .i64 an, .int .i64 ad] 77)).alloc (.cells #[.bool co, .int .i64 cn, .int .i64 cd] 77)).alloc (.cells #[.bool false, .int .i64 0, .int .i64 0] 77)) (w.heap.size + 1) 77 #[.bool co, .int .i64 cn, .int .i64 cd] from (Blk.new (w.alloc (.cells #[.bool ao, .int .i64 an, .int .i64 ad] 77)) 77 _ _ (by simp)).alloc _)
 have B2 := h_ (show Blk (((w.alloc (.cells #[.bool ao, .int .i64 an, .int .i64 ad] 77)).alloc (.cells #[.bool co, .int .i64 cn, .int .i64 cd] 77)).alloc (.cells #[.bool false, .int .i64 0, .int .i64 0] 77)) (w.heap.size + 2) 77 #[.bool false, .int .i64 0, .int .i64 0] from Blk.new ((w.alloc (.cells #[.bool ao, .int .i64 an, .int .i64 ad] 77)).alloc (.cells #[.bool co, .int .i64 cn, .int .i64 cd] 77)) 77 _ _ (by simp))
 have HB := h_ ((by (repeat (any_goals (first | exact qR _ _ | refine below_drewN ?_ _ | refine qD ?_ | refine qA ?_ ?_ _ | refine qS ?_ ?_ _))); all_goals (first | omega | (simp; done) | (simp; omega))) : Below w.heap.size w (((w.alloc (.cells #[.bool ao, .int .i64 an, .int .i64 ad] 77)).alloc (.cells #[.bool co, .int .i64 cn, .int .i64 cd] 77)).alloc (.cells #[.bool false, .int .i64 0, .int .i64 0] 77)))
 generalize (((w.alloc (.cells #[.bool ao, .int .i64 an, .int .i64 ad] 77)).alloc (.cells #[.bool co, .int .i64 cn, .int .i64 cd] 77)).alloc (.cells #[.bool false, .int .i64 0, .int .i64 0] 77)) = V at *
 have a0 : V.cell? ⟨w.heap.size, 0, none⟩ = some (.bool ao) := (B0.out).cell 0
 have a1 : V.cell? ⟨w.heap.size, 1, none⟩ = some (.int .i64 an) := (B0.out).cell 1
 have a2 : V.cell? ⟨w.heap.size, 2, none⟩ = some (.int .i64 ad) := (B0.out).cell 2
 have c0 : V.cell? ⟨w.heap.size + 1, 0, none⟩ = some (.bool co) := (B1.out).cell 0
 have c1 : V.cell? ⟨w.heap.size + 1, 1, none⟩ = some (.int .i64 cn) := (B1.out).cell 1
 have c2 : V.cell? ⟨w.heap.size + 1, 2, none⟩ = some (.int .i64 cd) := (B1.out).cell 2
 have r0 : V.cell? ⟨w.heap.size + 2, 0, none⟩ = some (.bool false) := (B2.out).cell 0
 have r1 : V.cell? ⟨w.heap.size + 2, 1, none⟩ = some (.int .i64 0) := (B2.out).cell 1
 have r2 : V.cell? ⟨w.heap.size + 2, 2, none⟩ = some (.int .i64 0) := (B2.out).cell 2
 have f0 := (B2.out).frozen 0
 have f1 := (B2.out).frozen 1
 have f2 := (B2.out).frozen 2
 cases co
 ·cases ao
  ·go_wp2_with fail
   refine (HLS.out _).mono ?_
   rintro e w1 ⟨rfl, hb1⟩
   have HB1 := h_ (HB.out.trans (hb1.mono HB.out.size))
   have D0 := h_ (B0.out.next hb1)
   have D1 := h_ (B1.out.next hb1)
   have D2 := h_ (B2.out.next hb1)
   clear hb1 a0 a1 a2 c0 c1 c2 r0 r1 r2 f0 f1 f2
   have a0 : w1.cell? ⟨w.heap.size, 0, none⟩ = some (.bool false) := (D0.out).cell 0
   have a1 : w1.cell? ⟨w.heap.size, 1, none⟩ = some (.int .i64 an) := (D0.out).cell 1
   have a2 : w1.cell? ⟨w.heap.size, 2, none⟩ = some (.int .i64 ad) := (D0.out).cell 2
   have c0 : w1.cell? ⟨w.heap.size + 1, 0, none⟩ = some (.bool false) := (D1.out).cell 0
   have c1 : w1.cell? ⟨w.heap.size + 1, 1, none⟩ = some (.int .i64 cn) := (D1.out).cell 1
   have c2 : w1.cell? ⟨w.heap.size + 1, 2, none⟩ = some (.int .i64 cd) := (D1.out).cell 2
   have r0 : w1.cell? ⟨w.heap.size + 2, 0, none⟩ = some (.bool false) := (D2.out).cell 0
   have r1 : w1.cell? ⟨w.heap.size + 2, 1, none⟩ = some (.int .i64 0) := (D2.out).cell 1
   have r2 : w1.cell? ⟨w.heap.size + 2, 2, none⟩ = some (.int .i64 0) := (D2.out).cell 2
   have f0 := (D2.out).frozen 0
   have f1 := (D2.out).frozen 1
   have f2 := (D2.out).frozen 2
   cases q
   ·go_wp2_with fail
    refine bodyPost_ret (v := .agg #[.bool false, .int .i64 an, .int .i64 ad]) ?_ ?_ ?_
    ·simp [results, Tryz.results99, go_sem, a0, a1, a2, c0, c1, c2, r0, r1, r2]
    ·rfl
    exact ⟨by rw [HU.out]; rfl, (by (repeat (any_goals (first | exact qR _ _ | exact HB1.out | refine below_drewN ?_ _ | refine qD ?_ | refine qA ?_ ?_ _ | refine qS ?_ ?_ _ | refine Below.trans ?_ (Below.mono HB1.out ?_)))); all_goals (first | omega | (simp; done) | (simp; omega) | ((try have z0 := HB1.out.size); (try simp at z0); (try simp); omega)))⟩
   ·go_wp2_with fail
    refine bodyPost_ret (v := .agg #[.bool false, .int .i64 cn, .int .i64 cd]) ?_ ?_ ?_
    ·simp [results, Tryz.results99, go_sem, a0, a1, a2, c0, c1, c2, r0, r1, r2]
    ·rfl
    exact ⟨by rw [HU.out]; rfl, (by (repeat (any_goals (first | exact qR _ _ | exact HB1.out | refine below_drewN ?_ _ | refine qD ?_ | refine qA ?_ ?_ _ | refine qS ?_ ?_ _ | refine Below.trans ?_ (Below.mono HB1.out ?_)))); all_goals (first | omega | (simp; done) | (simp; omega) | ((try have z0 := HB1.out.size); (try simp at z0); (try simp); omega)))⟩
  ·go_wp2_with fail
   refine bodyPost_ret (v := .agg #[.bool true, .int .i64 an, .int .i64 ad]) ?_ ?_ ?_
   ·simp [results, Tryz.results99, go_sem, a0, a1, a2, c0, c1, c2, r0, r1, r2]
   ·rfl
   exact ⟨by rw [HU.out]; rfl, (by (repeat (any_goals (first | exact qR _ _ | exact HB.out | refine below_drewN ?_ _ | refine qD ?_ | refine qA ?_ ?_ _ | refine qS ?_ ?_ _ | refine Below.trans ?_ (Below.mono HB.out ?_)))); all_goals (first | omega | (simp; done) | (simp; omega) | ((try have z0 := HB.out.size); (try simp at z0); (try simp); omega)))⟩
 ·go_wp2_with fail
  refine bodyPost_ret (v := .agg #[.bool true, .int .i64 cn, .int .i64 cd]) ?_ ?_ ?_
  ·simp [results, Tryz.results99, go_sem, a0, a1, a2, c0, c1, c2, r0, r1, r2]
  ·rfl
  exact ⟨by rw [HU.out]; rfl, (by (repeat (any_goals (first | exact qR _ _ | exact HB.out | refine below_drewN ?_ _ | refine qD ?_ | refine qA ?_ ?_ _ | refine qS ?_ ?_ _ | refine Below.trans ?_ (Below.mono HB.out ?_)))); all_goals (first | omega | (simp; done) | (simp; omega) | ((try have z0 := HB.out.size); (try simp at z0); (try simp); omega)))⟩
end Go.Proofs.YtjcdkbalhleeeaaGreatDoor
