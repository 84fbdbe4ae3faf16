/-
  Contracts of functions and plain laws that later parts of the proof use. The conditions stand in each theorem.
-/
import Derived.Test.YtjcdkbalhleeeaaGreatDoorG06
import Derived.Test.YtjcdkbalhleeeaaGreatDoorG08
import Derived.Test.YtjcdkbalhleeeaaGreatDoorG03
import Derived.Test.YtjcdkbalhleeeaaGreatDoorG17
import Derived.Test.YtjcdkbalhleeeaaGreatDoorG30
import Derived.Laws.BitsLemmas
import Derived.TacticsInMore
import Derived.LoopIn
import Derived.OwnWalkIn
import Derived.Shelf.RegionOpen
import Derived.Test.YtjcdkbalhleeeaaGreatDoorG11
import Derived.Test.YtjcdkbalhleeeaaGreatDoorG13
import Derived.Test.YtjcdkbalhleeeaaGreatDoorG12
import Derived.Test.YtjcdkbalhleeeaaGreatDoorG04
import Derived.BigQuiet
namespace Go.Proofs.YtjcdkbalhleeeaaGreatDoor
open Go.RowKit
theorem i64_and1 (n : Nat) (h : n < 4611686018427387904) : bits .and .i64 (n : Int) 1 = ((n % 2 : Nat) : Int) := by
 have := (bits_nat .i64 62 (by decide) (fun n h0 h1 => IntWalk.i64_in _ (by omega)) n 1 (by omega) (by omega)).1
 rw [show ((1 : Nat) : Int) = 1 from rfl] at this
 rw [this, Nat.and_one_is_mod]
theorem bit_and (s q : Nat) (hs : s < 4611686018427387904) : bits .and .i64 ((s : Int) / 2 ^ q) 1 = if s.testBit q = true then 1 else 0 := by
 have e : (s : Int) / 2 ^ q = ((s / 2 ^ q : Nat) : Int) := by simp
 have h1 : s / 2 ^ q ≤ s := Nat.div_le_self _ _
 rw [e, i64_and1 _ (by omega), Nat.testBit_eq_decide_div_mod_eq]
 by_cases h : s / 2 ^ q % 2 = 1
 ·rw [if_pos (by simpa using h), h]; rfl
 ·rw [if_neg (by simpa using h), show s / 2 ^ q % 2 = 0 by omega]; rfl
def CornE (B : Nat) (p : PG) (k : Nat) (args : Array Value) (W : World) : Prop :=
 ∃ L cl X cx Y cy G cg, args = #[.slice L ((cornersZ p).getD k []).length cl, .agg #[.slice X (lookN p ((cornersZ p).getD k [])).xs.length cx, .int .i64 (lookN p ((cornersZ p).getD k [])).xd, .slice Y (lookN p ((cornersZ p).getD k [])).ys.length cy, .int .i64 (lookN p ((cornersZ p).getD k [])).yd, .slice G (lookN p ((cornersZ p).getD k [])).gs.length cg, .int .i64 (lookN p ((cornersZ p).getD k [])).gd]] ∧
  Rd W L cl (ints ((cornersZ p).getD k [])) ∧ CnN W X cx Y cy G cg (lookN p ((cornersZ p).getD k [])) ∧ ∀ ad, L = some ad → B ≤ ad.block
structure BoxC (S : Nat → Prop) (w0 : World) (b1 b2 b3 : Nat) (A : Option Addr) (c : Nat) (A2 : Option Addr) (c2 : Nat) (p : PG) : Prop where
 s1 : S b1
 s2 : S b2
 s3 : S b3
 k1 : w0.cell? ⟨b1, 0, none⟩ = some (.int .i64 p.costs.length)
 k2 : w0.cell? ⟨b2, 0, none⟩ = some (.int .i64 p.rows.length)
 k3 : w0.cell? ⟨b3, 0, none⟩ = some (.slice A p.costs.length c)
 k4 : w0.cell? ⟨b3, 1, none⟩ = some (.slice A2 p.rows.length c2)
 pg : ∀ w, KS S w0 w → Pg w A c A2 c2 p
attribute [local go_sem] Oper.semAt_some
set_option maxRecDepth 100000 in
set_option maxHeartbeats 4000000 in
theorem corners_iter (S : Nat → Prop) (w0 : World) (b1 b2 b3 : Nat) (A : Option Addr) (c : Nat) (A2 : Option Addr) (c2 : Nat) (p : PG) (hp : BoxC S w0 b1 b2 b3 A c A2 c2 p) (hm : mayPB p = true) :
    IterC Tryz.prog 95 #[.pointer (some ⟨b1, 0, none⟩), .pointer (some ⟨b2, 0, none⟩), .pointer (some ⟨b3, 0, none⟩)] S (cornersZ p).length (CornE w0.heap.size p) w0 := by
 intro l J Jx W hW hJ hJx hY h0
 have hm' := mayPB_iff.1 hm
 obtain ⟨m1, m2, m3, m4, _⟩ := hm'
 have HY := h_ hY
 have HJ := h_ hJ
 have HJX := h_ hJx
 have HP := h_ hp
 have HW := h_ hW
 have HM := h_ hm
 have H0 := h_ h0
 have p1 : W.cell? ⟨b1, 0, none⟩ = some (.int .i64 p.costs.length) := hW.cell hp.s1 hp.k1
 have p2 : W.cell? ⟨b2, 0, none⟩ = some (.int .i64 p.rows.length) := hW.cell hp.s2 hp.k2
 obtain ⟨N, hN⟩ : ∃ N, p.costs.length + p.rows.length = N := ⟨_, rfl⟩
 have hw1 : IntKind.i64.wrap ((p.costs.length : Int) + (p.rows.length : Int)) = (N : Int) := by rw [← hN, IntWalk.i64_in _ (by omega)]; omega
 have hN8 : N ≤ 8 := by omega
 have hM := Nat.pow_le_pow_right (n := 2) (by omega) hN8
 have hM0 := Nat.pow_pos (n := N) (show 0 < 2 by omega)
 obtain ⟨M, hMM⟩ : ∃ M : Nat, M = 2 ^ N := ⟨_, rfl⟩
 have HMM := h_ hMM
 have hw2 : IntKind.i64.wrap ((2 : Int) ^ N) = (M : Int) := by
  have e : ((2 : Int) ^ N) = (M : Int) := by rw [hMM]; simp
  rw [e, IntWalk.i64_in _ (by omega)]
 rw [← hMM] at hM hM0
 replace hM : M ≤ 256 := hM
 have HNN := h_ hN
 clear hY hJ hJx hp hW hm h0 hMM hN
 refine (callsIn_wide (n := 0)).1 (callsIn_of_wp Tryz.func95 rfl trivial ?_ rfl)
 simp only [Tryz.ntmps95, List.size_toArray, List.length_cons, List.length_nil, Nat.reduceAdd, Nat.reduceSub, Array.replicate_succ, Array.replicate_zero, List.push_toArray, List.append_toArray, List.nil_append, List.cons_append]
 gi_wp2_with fail
 gi_loopw [14] (fun i wx => ∃ s : Nat, i = .int .i64 s ∧ s ≤ M ∧ KS S W wx ∧ J (cornK p s).length wx) (fun i _ => M - (intOf i).toNat)
 case atStart => exact ⟨0, rfl, by omega, KS.refl _ _, H0.out⟩
 case round =>
  obtain ⟨s, rfl, hs, hks, hJs⟩ := hrel
  rename World => U
  have HK := h_ hks
  have HJS := h_ hJs
  have q1 : U.cell? ⟨b1, 0, none⟩ = some (.int .i64 p.costs.length) := hks.cell HP.out.s1 p1
  have q2 : U.cell? ⟨b2, 0, none⟩ = some (.int .i64 p.rows.length) := hks.cell HP.out.s2 p2
  clear hks hJs
  by_cases hlt : s < M
  ·have hi0 : (s : Int) < (M : Int) := by omega
   gi_wp2_with fail
   refine wpIn_wide.2 ?_
   go_loopw [6, 20] (fun v j wx => ∃ q : Nat, q ≤ N ∧ j = .int .i64 q ∧ wx.ownsRow U.heap.size 3 1 v (bitsN q s).length ((ints (bitsN q s)).map (Value.int .i64)) ∧ Below U.heap.size U wx) (fun _ j _ => N - (intOf j).toNat)
   case atStart => exact ⟨0, by omega, rfl, World.ownsRow_nil _ _ _ _, Below.refl _ _⟩
   case round =>
    obtain ⟨q, hq, rfl, hown, hbel⟩ := hrel
    rename World => U1
    have HO := h_ hown
    have HB := h_ hbel
    clear hown hbel
    by_cases hqn : q < N
    ·have hi1 : (q : Int) < (N : Int) := by omega
     have hbl := bits_len_le q s
     have HSUC := h_ (bits_succ q s)
     have HBA := h_ (bit_and s q (by omega))
     by_cases htb : s.testBit q = true
     ·have hb1 : bits .and .i64 ((s : Int) / 2 ^ q) 1 = 1 := by rw [HBA.out, if_pos htb]
      have HS1 := h_ (show bitsN (q + 1) s = bitsN q s ++ [q] by rw [HSUC.out, if_pos htb])
      clear htb
      go_wp2_with (at_builtin; refine list_app1 rfl (.tmp 28) (.tmp 30) _ _ _ 8 und_intS1 inf_intS1 rfl rfl U.heap.size _ _ _ _ rfl (HO.out.alloc _) _ 1 rfl (cell_new1 _ _ _) rfl (by unfold maxLen; omega) (by omega) (by have := HB.out.size; simp; omega) ?_; intro g1 cap1 w1 hown1 hg1 hat1 hlt1)
      have HB1 := h_ ((HB.out.alloc HB.out.size _).grown hg1 (by have := HB.out.size; simp; omega) (fun j e => (HO.out.lt j e).1))
      have HO1 := h_ hown1
      clear hown1 hg1 hat1
      go_roundw
      case rel => exact ⟨q + 1, by omega, by go_num, by rw [HS1.out, intsN_app, List.map_append, List.length_append]; exact HO1.out, HB1.out⟩
      case measure => simp [intOf]; omega
     ·have hb1 : bits .and .i64 ((s : Int) / 2 ^ q) 1 = 0 := by rw [HBA.out, if_neg htb]
      have HS1 := h_ (show bitsN (q + 1) s = bitsN q s by rw [HSUC.out, if_neg htb, List.append_nil])
      clear htb
      go_wp2_with fail
      go_roundw
      case rel => exact ⟨q + 1, by omega, by go_num, by rw [HS1.out]; exact HO.out, HB.out⟩
      case measure => simp [intOf]; omega
    ·obtain rfl : q = N := by omega
     have hbl := bits_len_le q s
     have hil : (ints (bitsN q s)).length = (bitsN q s).length := intsN_len _
     obtain ⟨O, co, rfl, hR, hOL⟩ := Rd.of_ownv (l := ints (bitsN q s)) HO.out hil.symm (by rw [hil]; omega)
     rw [hil]
     have HR := h_ hR
     have HOL := h_ (fun ad (e : O = some ad) => show w0.heap.size ≤ ad.block from by have := hOL ad e; have := HW.out.size; have := HK.out.size; omega)
     clear hOL
     have zB := HB.out.size
     have q2' : U1.cell? ⟨b2, 0, none⟩ = some (.int .i64 p.rows.length) := (HB.out.cell (lc_ q2)).trans q2
     have HK1 := h_ (HK.out.next HB.out)
     have HJ1 := h_ (HJ.out _ _ _ HJS.out HB.out)
     have q3 : U1.cell? ⟨b3, 0, none⟩ = some (.slice A p.costs.length c) := (HW.out.trans HK1.out).cell HP.out.s3 HP.out.k3
     have q4 : U1.cell? ⟨b3, 1, none⟩ = some (.slice A2 p.rows.length c2) := (HW.out.trans HK1.out).cell HP.out.s3 HP.out.k4
     clear hR hil
     have HLK := h_ (corner_Look A c A2 c2 p O (ints (bitsN q s)) co U1 (HP.out.pg _ (HW.out.trans HK1.out)) HR.out)
     rw [intsN_len] at HLK
     have HAT := h_ (fun h => cornK_at (p := p) (s := s) (by rw [HNN.out, ← HMM.out]; exact hlt) h)
     have HSC := h_ (cornK_succ p s)
     have hOK : okC p (bitsN q s) = (decide ((bitsN q s).length = p.rows.length) && decide (lookE p (ints (bitsN q s)) = 0)) := rfl
     have HOKC := h_ hOK
     obtain ⟨lb, hlb⟩ : ∃ lb, bitsN q s = lb := ⟨_, rfl⟩
     have HLB := h_ hlb
     rw [HNN.out, hlb] at HAT HSC
     rw [hlb] at HR HLK HOKC hbl HO ⊢
     clear hOK hlb HO
     obtain ⟨ce, hce⟩ : ∃ ce, lookE p (ints lb) = ce := ⟨_, rfl⟩
     rw [hce] at HLK HOKC
     have HCE := h_ hce
     clear hce
     go_wp2_with fail
     gi_wp2_with fail
     refine ⟨trivial, rfl, ?_⟩
     refine (callsIn_wide.2 HLK.out).mono ?_
     rintro e w2 ⟨X, cx, Y, cy, G, cg, rfl, hX, hY, hG, hb2⟩
     have HCn := h_ (CnN.mk hX hY hG)
     have H2 := h_ hb2
     have r2 := (hb2.cell (lc_ q2')).trans q2'
     have lb2 := lc_ r2
     clear hX hY hG hb2 q2' q3 q4 q1 q2 p1 p2
     have HVL := (Below.refl w2.heap.size w2).alloc (Nat.le_refl _) (.cells #[.slice X (lookC p (ints lb)).xs.length cx, .int .i64 (lookC p (ints lb)).xd, .slice Y (lookC p (ints lb)).ys.length cy, .int .i64 (lookC p (ints lb)).yd, .slice G (lookC p (ints lb)).gs.length cg, .int .i64 (lookC p (ints lb)).gd] 64)
     have HK2 := h_ (HK1.out.next H2.out |>.next HVL)
     have HJ2 := h_ (HJ.out _ _ _ (HJ.out _ _ _ HJ1.out H2.out) HVL)
     have HE := h_ (show okC p lb = true → CornE w0.heap.size p (cornK p s).length #[.slice O lb.length co, .agg #[.slice X (lookC p (ints lb)).xs.length cx, .int .i64 (lookC p (ints lb)).xd, .slice Y (lookC p (ints lb)).ys.length cy, .int .i64 (lookC p (ints lb)).yd, .slice G (lookC p (ints lb)).gs.length cg, .int .i64 (lookC p (ints lb)).gd]] (w2.alloc (.cells #[.slice X (lookC p (ints lb)).xs.length cx, .int .i64 (lookC p (ints lb)).xd, .slice Y (lookC p (ints lb)).ys.length cy, .int .i64 (lookC p (ints lb)).yd, .slice G (lookC p (ints lb)).gs.length cg, .int .i64 (lookC p (ints lb)).gd] 64)) from fun h => by
      unfold CornE
      rw [(HAT.out h).2]
      exact ⟨O, co, X, cx, Y, cy, G, cg, rfl, (HR.out.below H2.out).below HVL, HCn.out.below HVL, HOL.out⟩)
     clear HVL
     by_cases hlen : lb.length = p.rows.length
     ·have hlz : (lb.length : Int) = (p.rows.length : Int) := by omega
      by_cases hc0 : ce = 0
      ·have HTR := h_ (show okC p lb = true by rw [HOKC.out]; simp [hlen, hc0])
       subst hc0
       obtain ⟨fn, tmps, assign, body, hy, hR⟩ := HY.out _ _ _ (HAT.out HTR.out).1 HJ2.out (HW.out.trans HK2.out) (HE.out HTR.out)
       rw [hlen] at hy
       gi_wp2_with fail
       refine ⟨rfl, ?_⟩
       refine hR.mono ?_
       rintro e W3 (⟨rfl, hJ3, hk3⟩ | ⟨rfl, hJx3⟩)
       ·have HJ3 := h_ hJ3
        have HK3 := h_ (HK2.out.trans hk3)
        clear hJ3 hk3
        gi_wp2_with fail
        go_roundw
        case rel => exact ⟨s + 1, by go_num, by omega, HK3.out, by rw [HSC.out, if_pos HTR.out, List.length_append]; exact HJ3.out⟩
        case measure => simp [intOf]; omega
       ·have HJX3 := h_ hJx3
        clear hJx3
        gi_wp2_with fail
        refine bodyPost_ret (results_none rfl _ _ _) rfl ?_
        exact ⟨⟨_, rfl⟩, .inr ⟨_, (HAT.out HTR.out).1, HJX3.out⟩⟩
      ·have HFA := h_ (show okC p lb = false by rw [HOKC.out]; simp [hlen, hc0])
       have hcz : (ce == 0) = false := by simpa using hc0
       gi_wp2_with fail
       refine ⟨fun _ h => (by cases h), ?_⟩
       gi_wp2_with fail
       go_roundw
       case rel => exact ⟨s + 1, by go_num, by omega, HK2.out, by rw [HSC.out, if_neg (by rw [HFA.out]; simp), List.append_nil]; exact HJ2.out⟩
       case measure => simp [intOf]; omega
     ·have HFA := h_ (show okC p lb = false by rw [HOKC.out]; simp [hlen])
      have hlz : ¬ (lb.length : Int) = (p.rows.length : Int) := by omega
      have hlz' : ((lb.length : Int) == (p.rows.length : Int)) = false := by simp; omega
      gi_wp2_with fail
      refine ⟨fun _ h => (by cases h), ?_⟩
      gi_wp2_with fail
      go_roundw
      case rel => exact ⟨s + 1, by go_num, by omega, HK2.out, by rw [HSC.out, if_neg (by rw [HFA.out]; simp), List.append_nil]; exact HJ2.out⟩
      case measure => simp [intOf]; omega
  ·obtain rfl : s = M := by omega
   gi_wp2_with fail
   go_end0
   exact ⟨⟨_, rfl⟩, .inl (by rw [← cornK_all, HNN.out, ← HMM.out]; exact HJS.out)⟩
end Go.Proofs.YtjcdkbalhleeeaaGreatDoor

set_option maxRecDepth 100000
namespace Go.Proofs.YtjcdkbalhleeeaaGreatDoor
open Go.RowKit
section
variable {B : Nat} {W W' : World}
theorem Blk.kw {g : Nat} {t : TypeId} {cs : Array Value} (h : Blk W g t cs) (k : KW B W W') : Blk W' g t cs := k.same _ _ h (.inr rfl)
theorem Rd.kw {A : Option Addr} {c : Nat} {l : List Int} (h : Rd W A c l) (k : KW B W W') : Rd W' A c l :=
 ⟨h.le, h.cap, h.small, fun hl => by
  obtain ⟨ad, e, hc⟩ := h.cells hl
  exact ⟨ad, e, fun j u hu => k.cell (hc j u hu)⟩⟩
theorem CnN.kw {X Y G : Option Addr} {cx cy cg : Nat} {c : CO} (h : CnN W X cx Y cy G cg c) (k : KW B W W') : CnN W' X cx Y cy G cg c := ⟨h.x.kw k, h.y.kw k, h.g.kw k⟩
end
theorem solve_Goes (X Y G : Option Addr) (cx ny cy ng cg : Nat) (xs : List Int) (xd yd gd : Int) (w : World) (hx : Rd w X cx xs) :
    Calls Tryz.prog 56 #[.agg #[.slice X xs.length cx, .int .i64 xd, .slice Y ny cy, .int .i64 yd, .slice G ng cg, .int .i64 gd]] w fun e w' => e = .returned (.bool (nonneg xs)) ∧ Below w.heap.size w w' := by
 have HX := h_ hx
 obtain ⟨hl, hc, hs, _⟩ := hx
 go_enter Tryz.func56, Tryz.ntmps56
 go_wp2_with fail
 have BC := h_ (Blk.mk' w 64 #[.slice X xs.length cx, .int .i64 xd, .slice Y ny cy, .int .i64 yd, .slice G ng cg, .int .i64 gd])
 have HB := h_ ((Below.refl w.heap.size w).alloc (Nat.le_refl _) (.cells #[.slice X xs.length cx, .int .i64 xd, .slice Y ny cy, .int .i64 yd, .slice G ng cg, .int .i64 gd] 64))
 generalize (w.alloc (.cells #[.slice X xs.length cx, .int .i64 xd, .slice Y ny cy, .int .i64 yd, .slice G ng cg, .int .i64 gd] 64)) = W at *
 go_loopw [9] (fun i wx => wx = W ∧ ∃ k : Nat, k ≤ xs.length ∧ i = .int .i64 k ∧ Hid (∀ j, j < k → 0 ≤ xs.getD j 0)) (fun i _ => xs.length - (intOf i).toNat)
 case atStart => exact ⟨rfl, 0, by omega, rfl, h_ fun j hj => by omega⟩
 case round =>
  obtain ⟨rfl, k, hk, rfl, hall⟩ := hrel
  rename World => W
  by_cases hlt : k < xs.length
  ·obtain ⟨ax, rfl, hcx⟩ := (HX.out.below HB.out).getD_at (k := k) hlt
   have hax := lc_ hcx
   have hi0 : (k : Int) < (xs.length : Int) := by omega
   by_cases hneg : xs.getD k 0 < 0
   ·have HF := h_ (show nonneg xs = false by
      rw [Bool.eq_false_iff]
      intro h
      have := nonneg_at h k
      omega)
    obtain ⟨xv, hxv⟩ : ∃ xv, xs.getD k 0 = xv := ⟨_, rfl⟩
    rw [hxv] at hcx hneg
    clear hxv hall
    go_wp2_with fail
    go_ret
    exact ⟨by rw [HF.out]; rfl, HB.out⟩
   ·have HA := h_ (show ∀ j, j < k + 1 → 0 ≤ xs.getD j 0 from fun j hj => by
      by_cases e : j = k
      ·subst e; omega
      ·exact hall.out j (by omega))
    obtain ⟨xv, hxv⟩ : ∃ xv, xs.getD k 0 = xv := ⟨_, rfl⟩
    rw [hxv] at hcx hneg
    clear hxv hall
    go_wp2_with fail
    go_roundw
    case rel => exact ⟨trivial, k + 1, by omega, by go_num, HA⟩
    case measure => simp [intOf]; omega
  ·obtain rfl : k = xs.length := by omega
   have HT := h_ (show nonneg xs = true from nonneg_of fun j => by
    by_cases hj : j < xs.length
    ·exact hall.out j hj
    ·rw [List.getD, List.getElem?_eq_none (by omega)]; simp)
   clear hall
   go_wp2_with fail
   go_ret
   exact ⟨by rw [HT.out]; rfl, HB.out⟩
def RetC (w : World) (A : Option Addr) (c : Nat) (A2 : Option Addr) (c2 : Nat) (p : PG) (e : Ending) (w' : World) : Prop :=
 ∃ b1 b2 b3, e = .returned (.func (.func 95) #[] #[.pointer (some ⟨b1, 0, none⟩), .pointer (some ⟨b2, 0, none⟩), .pointer (some ⟨b3, 0, none⟩)]) ∧
  w.heap.size ≤ b1 ∧ w.heap.size ≤ b2 ∧ w.heap.size ≤ b3 ∧ w'.cell? ⟨b1, 0, none⟩ = some (.int .i64 p.costs.length) ∧ w'.cell? ⟨b2, 0, none⟩ = some (.int .i64 p.rows.length) ∧
  w'.cell? ⟨b3, 0, none⟩ = some (.slice A p.costs.length c) ∧ w'.cell? ⟨b3, 1, none⟩ = some (.slice A2 p.rows.length c2) ∧ Below w.heap.size w w'
theorem two_boxes (V : World) (x y : Value) (t : TypeId) : ((V.alloc (.cells #[x] t)).alloc (.cells #[y] t)).drew.cell? ⟨V.heap.size, 0, none⟩ = some x ∧ ((V.alloc (.cells #[x] t)).alloc (.cells #[y] t)).drew.cell? ⟨V.heap.size + 1, 0, none⟩ = some y ∧
    (∀ q v, V.cell? q = some v → ((V.alloc (.cells #[x] t)).alloc (.cells #[y] t)).drew.cell? q = some v) ∧ Below V.heap.size V ((V.alloc (.cells #[x] t)).alloc (.cells #[y] t)).drew := by
 have hb : Below V.heap.size V ((V.alloc (.cells #[x] t)).alloc (.cells #[y] t)).drew := (((Below.refl _ V).alloc (Nat.le_refl _) _).alloc (by simp) _).drew
 refine ⟨((Blk.mk' V t #[x]).alloc _).cell 0, ?_, fun q v hq => (hb.cell (lc_ hq)).trans hq, hb⟩
 have := Blk.mk' (V.alloc (.cells #[x] t)) t #[y]
 rw [World.size_alloc] at this
 exact this.cell 0
theorem solve_Corners (A : Option Addr) (c : Nat) (A2 : Option Addr) (c2 : Nat) (p : PG) (w : World) :
    Calls Tryz.prog 55 #[.agg #[.slice A p.costs.length c, .slice A2 p.rows.length c2]] w (RetC w A c A2 c2 p) := by
 unfold RetC
 generalize p.costs.length = n
 generalize p.rows.length = m
 go_enter Tryz.func55, Tryz.ntmps55
 go_upto_region 1 with fail
 have BP := h_ (Blk.mk' w 28 #[.slice A n c, .slice A2 m c2])
 have HB := h_ ((Below.refl w.heap.size w).alloc (Nat.le_refl _) (.cells #[.slice A n c, .slice A2 m c2] 28))
 have lV : (w.alloc (.cells #[.slice A n c, .slice A2 m c2] 28)).heap.size = w.heap.size + 1 := by simp
 have lw : w.heap.size < (w.alloc (.cells #[.slice A n c, .slice A2 m c2] 28)).heap.size := by omega
 have LV := h_ lV
 clear lV
 generalize (w.alloc (.cells #[.slice A n c, .slice A2 m c2] 28)) = V at *
 have p0 : V.cell? ⟨w.heap.size, 0, none⟩ = some (.slice A n c) := BP.out.cell 0
 have p1 : V.cell? ⟨w.heap.size, 1, none⟩ = some (.slice A2 m c2) := BP.out.cell 1
 go_region
 all_goals go_wp2_with fail
 all_goals go_ret
 ·obtain ⟨k1, k2, k3, k4⟩ := two_boxes V (.int .i64 n) (.int .i64 m) 3
  exact ⟨_, _, _, rfl, by omega, by omega, Nat.le_refl _, k1, k2, k3 _ _ p0, k3 _ _ p1, HB.out.trans (k4.mono (by omega))⟩
 ·obtain ⟨k1, k2, k3, k4⟩ := two_boxes V (.int .i64 m) (.int .i64 n) 3
  exact ⟨_, _, _, rfl, by omega, by omega, Nat.le_refl _, k2, k1, k3 _ _ p0, k3 _ _ p1, HB.out.trans (k4.mono (by omega))⟩
def RetBg (w : World) (p : PG) (e : Ending) (w' : World) : Prop :=
 Below w.heap.size w w' ∧ (begZ p = none → e = .returned (.slice none 0 0)) ∧ ∀ l, begZ p = some l → ∃ L cl, e = .returned (.slice L l.length cl) ∧ Rd w' L cl (ints l)
theorem beg_at {p : PG} {k : Nat} (hk : k < (cornersZ p).length) (hg : nonneg (lookN p ((cornersZ p).getD k [])).xs = true) (hn : ∀ i, i < k → nonneg (lookN p ((cornersZ p).getD i [])).xs = false) : begZ p = some ((cornersZ p).getD k []) := by
 unfold begZ
 have e : (cornersZ p).getD k [] = (cornersZ p)[k] := by simp [List.getD, List.getElem?_eq_getElem hk]
 rw [List.find?_eq_some_iff_getElem]
 refine ⟨hg, k, hk, e.symm, fun j hj => ?_⟩
 have := hn j hj
 rw [List.getD, List.getElem?_eq_getElem (by omega), Option.getD_some] at this
 simp [this]
theorem beg_no {p : PG} (hn : ∀ i, i < (cornersZ p).length → nonneg (lookN p ((cornersZ p).getD i [])).xs = false) : begZ p = none := by
 unfold begZ
 rw [List.find?_eq_none]
 intro x hx
 obtain ⟨j, hj, rfl⟩ := List.mem_iff_getElem.1 hx
 have := hn j hj
 rw [List.getD, List.getElem?_eq_getElem hj, Option.getD_some] at this
 simp [this]
attribute [local go_sem] Oper.semAt_some
set_option maxHeartbeats 2000000 in
theorem solve_begin (A : Option Addr) (c : Nat) (A2 : Option Addr) (c2 : Nat) (p : PG) (w : World) (hp : Pg w A c A2 c2 p) (hm : mayPB p = true) :
    Calls Tryz.prog 32 #[.agg #[.slice A p.costs.length c, .slice A2 p.rows.length c2]] w (RetBg w p) := by
 have HP := h_ hp
 have HM := h_ hm
 clear hp hm
 refine calls_of_marks Tryz.func32 rfl ?_
 simp only [Tryz.ntmps32, List.size_toArray, List.length_cons, List.length_nil, Nat.reduceAdd, Nat.reduceSub, Array.replicate_succ, Array.replicate_zero, List.push_toArray, List.append_toArray, List.nil_append, List.cons_append]
 go_wp2_with fail
 refine (solve_Corners A c A2 c2 p _).mono ?_
 rintro e w1 ⟨b1, b2, b3, rfl, l1, l2, l3, k1, k2, k3, k4, hb1⟩
 go_wp2_with fail
 have BR := h_ (show Blk w1 (w.heap.size + 1) 51 #[.slice none 0 0] from Blk.next (by
  have := Blk.mk' (w.alloc (.cells #[.slice A p.costs.length c, .slice A2 p.rows.length c2] 28)) 51 #[.slice none 0 0]
  simpa using this) hb1)
 have HB1 := h_ (show Below w.heap.size w w1 from (((Below.refl w.heap.size w).alloc (Nat.le_refl _) _).alloc (by simp) _).trans (hb1.mono (by simp; omega)))
 have z1 := hb1.size
 simp only [World.size_alloc] at z1 l1 l2 l3
 have q1 := lc_ k1
 have q2 := lc_ k2
 have q3 := lc_ k3
 simp only at q1 q2 q3
 obtain ⟨S, hS⟩ : ∃ S : Nat → Prop, S = fun i => i < w.heap.size ∨ i = b1 ∨ i = b2 ∨ i = b3 := ⟨_, rfl⟩
 have HS := h_ hS
 have hbox : BoxC S w1 b1 b2 b3 A c A2 c2 p := by
  subst hS
  exact ⟨.inr (.inl rfl), .inr (.inr (.inl rfl)), .inr (.inr (.inr rfl)), k1, k2, k3, k4, fun W h => HP.out.below (HB1.out.trans (h.below (fun i hi => .inl hi) HB1.out.size))⟩
 have hSn : ∀ i, S i → i < w1.heap.size := by
  subst hS
  rintro i (h | rfl | rfl | rfl) <;> omega
 have hSr : ¬ S (w.heap.size + 1) := by
  subst hS
  rintro (h | h | h | h) <;> omega
 have HSB := h_ (show ∀ W, KS S w1 W → Below w.heap.size w W from fun W h => by
  subst hS
  exact HB1.out.trans (h.below (fun i hi => .inl hi) HB1.out.size))
 have HIT := h_ (corners_iter S w1 b1 b2 b3 A c A2 c2 p hbox HM.out)
 clear hb1 k1 k2 k3 k4 hbox hS
 refine wp_iter (gf := 95) (lb := #[.pointer (some ⟨b1, 0, none⟩), .pointer (some ⟨b2, 0, none⟩), .pointer (some ⟨b3, 0, none⟩)]) rfl (enters_of Tryz.func95 (by kernel_rfl) rfl) HIT.out (KS.refl _ _) hSn
  (fun k args W h => by obtain ⟨_, _, _, _, _, _, _, _, rfl, _⟩ := h; rfl)
  (fun k W => (∀ i, i < k → nonneg (lookN p ((cornersZ p).getD i [])).xs = false) ∧ Blk W (w.heap.size + 1) 51 #[.slice none 0 0])
  (fun cd k W => cd = .ret ∧ nonneg (lookN p ((cornersZ p).getD k [])).xs = true ∧ (∀ i, i < k → nonneg (lookN p ((cornersZ p).getD i [])).xs = false) ∧ ∃ L cl, Blk W (w.heap.size + 1) 51 #[.slice L ((cornersZ p).getD k []).length cl] ∧ Rd W L cl (ints ((cornersZ p).getD k [])))
  (fun k X Y h kw => ⟨h.1, h.2.kw kw⟩)
  (fun cd k X Y h kw => by obtain ⟨h1, h2, h3, L, cl, h4, h5⟩ := h; exact ⟨h1, h2, h3, L, cl, h4.kw kw, h5.kw kw⟩)
  ⟨fun i hi => by omega, BR.out⟩ ?round ?done ?stop
 case round =>
  rintro l k args W hl hk ⟨hno, hbr⟩ hks ⟨L, cl, X, cx, Y, cy, G, cg, rfl, hL, hC, hLB⟩ hlt
  have HNO := h_ hno
  have HBR := h_ hbr
  have HKS := h_ hks
  have HL := h_ hL
  have HC := h_ hC
  have HLO := h_ hLB
  obtain ⟨lb, hlb⟩ : ∃ lb, (cornersZ p).getD k [] = lb := ⟨_, rfl⟩
  have HLB := h_ hlb
  rw [hlb] at HL HC ⊢
  clear hno hbr hks hL hC hlb hLB
  gi_wp2
  refine ⟨(KeepsOthers.alloc _ _).from _, (KS.refl _ _).alloc _, fun Wb hkw hks2 => ?_⟩
  have BC := h_ (show Blk Wb W.heap.size 64 #[.slice X (lookN p lb).xs.length cx, .int .i64 (lookN p lb).xd, .slice Y (lookN p lb).ys.length cy, .int .i64 (lookN p lb).yd, .slice G (lookN p lb).gs.length cg, .int .i64 (lookN p lb).gd] from (Blk.mk' _ _ _).kw hkw)
  have kwa : KW w1.heap.size W (W.alloc (.cells #[.slice X (lookN p lb).xs.length cx, .int .i64 (lookN p lb).xd, .slice Y (lookN p lb).ys.length cy, .int .i64 (lookN p lb).yd, .slice G (lookN p lb).gs.length cg, .int .i64 (lookN p lb).gd] 64)) := .of_below ((Below.refl _ W).alloc (Nat.le_refl _) _)
  have HL2 := h_ (HL.out.kw (kwa.trans hkw))
  have HC2 := h_ (HC.out.kw (kwa.trans hkw))
  have HBR2 := h_ (HBR.out.kw (kwa.trans hkw))
  clear kwa hkw hks2
  generalize W.heap.size = bc at *
  have e0 := BC.out.cell 0
  have e1 := BC.out.cell 1
  have e2 := BC.out.cell 2
  have e3 := BC.out.cell 3
  have e4 := BC.out.cell 4
  have e5 := BC.out.cell 5
  simp at e0 e1 e2 e3 e4 e5
  have r0 : Wb.cell? ⟨w.heap.size + 1, 0, none⟩ = some (.slice none 0 0) := HBR2.out.cell 0
  have r1 := HBR2.out.frozen 0
  have HGO := h_ (solve_Goes X Y G cx (lookN p lb).ys.length cy (lookN p lb).gs.length cg (lookN p lb).xs (lookN p lb).xd (lookN p lb).yd (lookN p lb).gd Wb HC2.out.x)
  cases hg : nonneg (lookN p lb).xs with
  | false =>
   rw [hg] at HGO
   have HG := h_ hg
   clear hg
   gi_wp2_with fail
   refine ⟨trivial, rfl, ?_⟩
   refine (CallsIn.inRound l (callsIn_wide.2 HGO.out)).mono ?_
   rintro e w3 ⟨rfl, hb3⟩
   gi_wp2_with fail
   refine ⟨(KeepsFrom.of_below hb3 _), .of_below hb3, fun i hi => ?_, HBR2.out.next hb3⟩
   by_cases e : i = k
   ·subst e; rw [HLB.out]; exact HG.out
   ·exact HNO.out i (by omega)
  | true =>
   rw [hg] at HGO
   have HG := h_ hg
   clear hg
   gi_wp2_with fail
   refine ⟨trivial, rfl, ?_⟩
   refine (CallsIn.inRound l (callsIn_wide.2 HGO.out)).mono ?_
   rintro e w3 ⟨rfl, hb3⟩
   have r0' : w3.cell? ⟨w.heap.size + 1, 0, none⟩ = some (.slice none 0 0) := (HBR2.out.next hb3).cell 0
   have r1' := (HBR2.out.next hb3).frozen 0
   gi_wp2_with fail
   refine ⟨(KeepsFrom.of_below hb3 _).trans ((KeepsOthers.setCell _ _ _).from _), (KS.of_below hb3).setCell _ _ hSr, rfl, by rw [HLB.out]; exact HG.out, HNO.out, L, cl, ?_, ?_⟩
   ·rw [HLB.out]; exact (HBR2.out.next hb3).set0 0 _
   ·rw [HLB.out]; exact (HL2.out.below hb3).setCell_out _ _ (fun ad e q => by have := HLO.out ad e; simp at q; omega)
 case done =>
  rintro D W hD ⟨hno, hbr⟩ hks hK
  have HK := h_ hK
  have HBR := h_ hbr
  have HKS := h_ hks
  have HNO := h_ (beg_no hno)
  have r0 : W.cell? ⟨w.heap.size + 1, 0, none⟩ = some (.slice none 0 0) := hbr.cell 0
  have r1 := hbr.frozen 0
  clear hno hbr hks hK
  go_wp2_with fail
  have hK' := (KeepsOthers.setCell W ⟨w.heap.size + 1, 0, none⟩ (.slice none 0 0)).same D _ HK.out rfl
  have hkw := KW.putObj (B := 0) (.deferred none) (Nat.zero_le _) hK' rfl
  have hc5 := ((HBR.out.set0 0 (.slice none 0 0)).kw hkw).cell 0
  simp at hc5
  refine ⟨by simp, .inl ⟨_, _, rfl, run_takeDeferred hK', .slice none 0 0, ?_, HSB.out _ ((HKS.out.setCell _ _ hSr).putObj _ fun h => by have := hSn _ h; omega), fun _ => rfl, fun l h => by rw [HNO.out] at h; cases h⟩⟩
  simp [results, Tryz.results32, go_sem, hc5]
 case stop =>
  rintro D cd k W hD hk ⟨rfl, hg, hno, L, cl, hbr, hL⟩ hks hK
  have HK := h_ hK
  have HBR := h_ hbr
  have HKS := h_ hks
  have HL := h_ hL
  have HBG := h_ (beg_at hk hg hno)
  clear hg hno hbr hks hK hL
  obtain ⟨lb, hlb⟩ : ∃ lb, (cornersZ p).getD k [] = lb := ⟨_, rfl⟩
  rw [hlb] at HBG HL HBR
  clear hlb
  go_wp2_with fail
  have hkw := KW.putObj (B := 0) (.deferred none) (Nat.zero_le _) HK.out rfl
  have hc5 := (HBR.out.kw hkw).cell 0
  simp at hc5
  refine ⟨by simp, .inl ⟨_, _, rfl, run_takeDeferred HK.out, .slice L lb.length cl, ?_, ?_⟩⟩
  ·simp [results, Tryz.results32, go_sem, hc5]
  ·refine ⟨HSB.out _ (HKS.out.putObj _ fun h => by have := hSn _ h; omega), fun h => ?_, fun l h => ?_⟩
   ·rw [HBG.out] at h; cases h
   ·rw [HBG.out] at h
    injection h with h
    subst h
    exact ⟨L, cl, rfl, HL.out.kw hkw⟩
end Go.Proofs.YtjcdkbalhleeeaaGreatDoor

namespace Go.Proofs.YtjcdkbalhleeeaaGreatDoor
open Go.RowKit
theorem wholeG_max (l : List Int) : max ((comm 0 l : Nat) : Int) 1 = wholeG l := by
 unfold wholeG
 split <;> omega
def RetWh (w : World) (l : List Int) (e : Ending) (w' : World) : Prop :=
 ∃ O co, e = .returned (.agg #[.slice O l.length co, .int .i64 1]) ∧ Rd w' O co l ∧ (∀ ad, O = some ad → w.heap.size ≤ ad.block) ∧ Below w.heap.size w w'
set_option maxRecDepth 100000 in
set_option maxHeartbeats 2000000 in
theorem solve_whole (A : Option Addr) (l : List Int) (c : Nat) (w : World) (hr : Rd w A c l) (hs : smallB 1073741824 l = true) (h8 : l.length ≤ 100) :
    Calls Tryz.prog 37 #[.slice A l.length c] w (RetWh w (wholeZ l)) := by
 have HR := h_ hr
 have HS := h_ hs
 obtain ⟨hl, hc, hsm, _⟩ := hr
 have HZL := h_ (wholeZ_len l)
 clear hs
 go_enter Tryz.func37, Tryz.ntmps37
 go_wp2_with fail
 have BR := h_ (Blk.mk' w 53 #[.slice none 0 0, .int .i64 0])
 have HW := h_ ((Below.refl w.heap.size w).alloc (Nat.le_refl _) (.cells #[.slice none 0 0, .int .i64 0] 53))
 generalize (w.alloc (.cells #[.slice none 0 0, .int .i64 0] 53)) = W at *
 go_loopw [3, 11] (fun g i wx => ∃ k : Nat, k ≤ l.length ∧ i = .int .i64 k ∧ g = .int .i64 (comm 0 (l.take k)) ∧ Below W.heap.size W wx) (fun _ i _ => l.length - (intOf i).toNat)
 case atStart => exact ⟨0, by omega, rfl, rfl, Below.refl _ _⟩
 case round =>
  obtain ⟨k, hk, rfl, rfl, hbel⟩ := hrel
  rename World => U
  have HU := h_ hbel
  have HB := h_ (HW.out.trans (hbel.mono HW.out.size))
  clear hbel
  by_cases hlt : k < l.length
  ·obtain ⟨ad, rfl, hcl⟩ := (HR.out.below HB.out).getD_at (k := k) hlt
   have hal := lc_ hcl
   have hi0 : (k : Int) < (l.length : Int) := by omega
   have hx := (smallB_getD (m := 1073741824) (by omega)).1 HS.out k
   have hcb : comm 0 (l.take k) ≤ 1073741824 := comm_bound _ _ _ (by omega) fun x hx => by have := smallB_mem HS.out (List.mem_of_mem_take hx); omega
   have HT := h_ (comm_take 0 hlt)
   have HG0 := h_ (show l[k] = l.getD k 0 by simp [List.getD, List.getElem?_eq_getElem hlt])
   obtain ⟨xv, hxv⟩ : ∃ xv, l.getD k 0 = xv := ⟨_, rfl⟩
   rw [hxv] at hcl hx
   have HXV := h_ hxv
   clear hxv
   obtain ⟨g0, hg0⟩ : ∃ g0, comm 0 (l.take k) = g0 := ⟨_, rfl⟩
   rw [hg0] at hcb HT ⊢
   have HG1 := h_ hg0
   clear hg0
   have hw1 : IntKind.i64.wrap (-xv) = -xv := IntWalk.i64_in _ (by omega)
   go_wp2_with fail
   rw [show max xv (-xv) = ((xv.natAbs : Nat) : Int) by omega]
   have hxa : xv.natAbs ≤ 1073741824 := by omega
   go_loopw [3, 5] (fun x y wx => ∃ a b : Nat, a ≤ 1073741824 ∧ b ≤ 1073741824 ∧ Hid (Nat.gcd a b = Nat.gcd g0 xv.natAbs) ∧ x = .int .i64 a ∧ y = .int .i64 b ∧ Below U.heap.size U wx) (fun _ y _ => (intOf y).toNat)
   case atStart => exact ⟨g0, xv.natAbs, hcb, hxa, h_ rfl, rfl, rfl, Below.refl _ _⟩
   case round =>
    obtain ⟨a, b, ha, hb, hg, rfl, rfl, hbel⟩ := hrel
    rename World => U1
    have HU1 := h_ hbel
    clear hbel
    by_cases h0 : b = 0
    ·subst h0
     have HGG := h_ (show a = Nat.gcd g0 xv.natAbs by rw [← hg.out]; simp)
     clear hg
     go_wp2_with fail
     go_roundw
     case rel => exact ⟨k + 1, by omega, by go_num, by rw [HT.out, HG0.out, HXV.out, ← HGG.out], HU.out.trans (HU1.out.mono HU.out.size)⟩
     case measure => simp [intOf]; omega
    ·have hz' : ((b : Int) != 0) = true := by simp; omega
     have hm : a % b < b := Nat.mod_lt _ (by omega)
     go_wp2_with fail
     go_region
     all_goals
      go_wp2_with fail
      go_roundw
      case rel => exact ⟨b, a % b, hb, by omega, h_ (by rw [← hg.out, Nat.gcd_comm a b, Nat.gcd_rec b a, Nat.gcd_comm]), rfl, by simp, HU1.out.drew⟩
      case measure => simp [intOf]; omega
  ·obtain rfl : k = l.length := by omega
   rw [List.take_length]
   have hwg := wholeG_pos l
   have HMX := h_ (wholeG_max l)
   have hgb : wholeG l ≤ 1073741824 := by
    have hcb : comm 0 l ≤ 1073741824 := comm_bound _ _ _ (by omega) fun x hx => by have := smallB_mem HS.out hx; omega
    unfold wholeG; split <;> omega
   go_wp2_with fail
   have BQ := h_ (Blk.mk' U 53 #[.slice none 0 0, .int .i64 1])
   have BR2 := h_ ((BR.out.next HU.out).alloc (.cells #[.slice none 0 0, .int .i64 1] 53))
   have lR := BR.out.lt
   have zU := HU.out.size
   have HV := h_ ((Below.refl U.heap.size U).alloc (Nat.le_refl _) (.cells #[.slice none 0 0, .int .i64 1] 53))
   have lV : U.heap.size + 1 ≤ (U.alloc (.cells #[.slice none 0 0, .int .i64 1] 53)).heap.size := by simp
   generalize (U.alloc (.cells #[.slice none 0 0, .int .i64 1] 53)) = V at *
   obtain ⟨g0, hg0⟩ : ∃ g0 : Int, g0 = (comm 0 l : Nat) := ⟨_, rfl⟩
   rw [← hg0] at HMX ⊢
   clear hg0
   obtain ⟨zs, hzs⟩ : ∃ zs, wholeZ l = zs := ⟨_, rfl⟩
   have HZS := h_ hzs
   rw [hzs] at HZL ⊢
   go_loopw [29] (fun i wx => ∃ (k : Nat) (v : Value), k ≤ l.length ∧ i = .int .i64 k ∧ Blk wx U.heap.size 53 #[v, .int .i64 1] ∧ Blk wx w.heap.size 53 #[.slice none 0 0, .int .i64 0] ∧ wx.ownsRow (U.heap.size + 1) 2 1 v k ((zs.take k).map (Value.int .i64)) ∧ Below U.heap.size U wx) (fun i _ => l.length - (intOf i).toNat)
   case atStart => exact ⟨0, _, by omega, rfl, BQ.out, BR2.out, World.ownsRow_nil _ _ _ _, HV.out⟩
   case round =>
    obtain ⟨k, v, hk, rfl, hq, hbr, hown, hbel⟩ := hrel
    rename World => U2
    have HQ := h_ hq
    have HBR := h_ hbr
    have HO := h_ hown
    have HU2 := h_ hbel
    have z2 := hbel.size
    have lq := hq.lt
    clear hq hbr hown hbel
    by_cases hlt : k < l.length
    ·obtain ⟨ad, rfl, hcl⟩ := (((HR.out.below HW.out).below HU.out).below HU2.out).getD_at (k := k) hlt
     have hal := lc_ hcl
     have hi0 : (k : Int) < (l.length : Int) := by omega
     have hx := (smallB_getD (m := 1073741824) (by omega)).1 HS.out k
     have HTK := h_ (show (zs.take (k + 1)).map (Value.int .i64) = (zs.take k).map (Value.int .i64) ++ [Value.int .i64 ((l.getD k 0).tdiv (wholeG l))] by
      have hk' : k < zs.length := by rw [HZL.out]; exact hlt
      rw [List.take_succ_eq_append_getElem hk', List.map_append]
      have : zs[k] = (l.getD k 0).tdiv (wholeG l) := by
       have : zs[k] = zs.getD k 0 := by simp [List.getD, List.getElem?_eq_getElem hk']
       rw [this, ← HZS.out]
       unfold wholeZ
       simp [List.getD, List.getElem?_map, List.getElem?_eq_getElem hlt]
      rw [this]; rfl)
     obtain ⟨xv, hxv⟩ : ∃ xv, l.getD k 0 = xv := ⟨_, rfl⟩
     rw [hxv] at hcl hx HTK
     clear hxv
     have hg1 : 0 < max g0 1 := by omega
     obtain ⟨hq3, hq4⟩ := tdiv_bound 4611686018427387904 xv (max g0 1) (by omega) (by omega)
     have hz : ¬ max g0 1 = 0 := by omega
     have hw2 : IntKind.i64.wrap (xv.tdiv (max g0 1)) = xv.tdiv (max g0 1) := IntWalk.i64_in _ (by omega)
     have hq0' : U2.cell? ⟨U.heap.size, 0, none⟩ = some v := HQ.out.cell 0
     have hqf' := HQ.out.frozen 0
     go_upto_region 13 with fail
     go_region_law (refine step_app1 rfl (.tmp 34) (.tmp 39) _ _ _ 8 und_i64s inf_i64 rfl rfl _ v k _ _ (by simp [Act.eval]) ((HO.out.drew).alloc _) _ 1 (by simp [Act.eval]) (cell_new1 _ _ _) rfl (by unfold maxLen; omega) (by omega) (by simp; omega) ?_; intro g cap w1 hown1 hg1 hat hlt1; have hB1 := ((HQ.out.drew).alloc _).grown hg1 (own_ne HO.out (by omega)); have hq0 : w1.cell? ⟨U.heap.size, 0, none⟩ = some v := hB1.cell 0; have hqf := hB1.frozen 0)
     all_goals
      have HB1 := h_ hB1
      have HW1 := h_ hown1
      have HG1 := h_ (by assumption : World.grownBy _ w1 _)
      clear hB1 hown1 hq0 hqf
      go_wp2_with fail
      go_roundw
      case rel =>
       have hb2 : Below U.heap.size U w1 := (((HU2.out.drew).alloc (by have := HU2.out.size; simp; omega) _).grown HG1.out (by have := HU2.out.size; simp; omega) (own_ge HO.out (by omega)))
       refine ⟨k + 1, _, by omega, by go_num, HB1.out.set0 0 _, (((HBR.out.drew).alloc _).grown HG1.out (own_ne HO.out (by omega))).far _ (by simp; omega), ?_, hb2.setCell (by simp) _⟩
       rw [HTK.out, ← HMX.out]
       exact ownsRow_setCell_below HW1.out (by simp) _
      case measure => simp [intOf]; omega
    ·obtain rfl : k = l.length := by omega
     have hown := HO.out
     rw [← HZL.out, List.take_length] at hown
     obtain ⟨A', c', rfl, hRd, hA'⟩ := Rd.of_ownv hown rfl (by rw [HZL.out]; omega)
     have HRD := h_ hRd
     have HA := h_ hA'
     rw [HZL.out] at HQ
     have hp0 : U2.cell? ⟨U.heap.size, 0, none⟩ = some (.slice A' l.length c') := HQ.out.cell 0
     have hp1 : U2.cell? ⟨U.heap.size, 1, none⟩ = some (.int .i64 1) := HQ.out.cell 1
     have hr0 : U2.cell? ⟨w.heap.size, 0, none⟩ = some (.slice none 0 0) := HBR.out.cell 0
     have hr1 : U2.cell? ⟨w.heap.size, 1, none⟩ = some (.int .i64 0) := HBR.out.cell 1
     have hrf0 := HBR.out.frozen 0
     have hrf1 := HBR.out.frozen 1
     clear hown hRd hA'
     go_wp2_with fail
     refine bodyPost_ret (v := .agg #[.slice A' l.length c', .int .i64 1]) (by simp [results, Tryz.results37, go_sem, hr0, hr1]) rfl ?_
     unfold RetWh
     rw [HZS.out, HZL.out]
     refine ⟨A', c', rfl, ((HRD.out).setCell_out _ _ (fun ad e => by have := HA.out ad e; simp; omega)).setCell_out _ _ (fun ad e => by have := HA.out ad e; simp; omega), fun ad e => by have := HA.out ad e; omega, ?_⟩
     exact ((HW.out.trans ((HU.out.trans (HU2.out.mono zU)).mono HW.out.size)).setCell (Nat.le_refl _) _).setCell (Nat.le_refl _) _
end Go.Proofs.YtjcdkbalhleeeaaGreatDoor

set_option maxRecDepth 100000
namespace Go.Proofs.YtjcdkbalhleeeaaGreatDoor
open Go.RowKit
def chN (p : PG) (l : List Nat) (r k : Nat) : Int := (lookN (qOf p r) l).xs.getD (l.getD k 0) 0
def chL (p : PG) (l : List Nat) (r : Nat) : List Int := (List.range l.length).map (chN p l r)
theorem chL_len (p : PG) (l : List Nat) (r : Nat) : (chL p l r).length = l.length := by simp [chL]
theorem chL_at {p : PG} {l : List Nat} {r k : Nat} (hk : k < l.length) : (chL p l r).getD k 0 = chN p l r k := by
 unfold chL; simp [List.getD, hk]
theorem change_n (A : Option Addr) (c : Nat) (A2 : Option Addr) (c2 : Nat) (p : PG) (L : Option Addr) (l : List Int) (cl r : Nat) (w : World) (hp : Pg w A c A2 c2 p) (hr : Rd w L cl l) (h0 : lookE p l = 0) (hj : r < 1000000) :
    Calls Tryz.prog 85 #[.agg #[.slice A p.costs.length c, .slice A2 p.rows.length c2], .slice L l.length cl, .int .i64 r] w fun e w' => ∃ O co, e = .returned (.tuple #[.slice O l.length co, .int .i64 (lookN (qOf p r) (nats l)).xd]) ∧
     Rd w' O co (chL p (nats l) r) ∧ Below w.heap.size w w' := by
 refine (walk_Change A c A2 c2 p L l cl r w hp hr h0 hj).mono ?_
 rintro e w' ⟨O, co, rfl, hO, hb⟩
 have hq : lookN (qOf p r) (nats l) = lookC (qOf p r) l := lookN_eq (qOf_E h0 r)
 refine ⟨O, co, by rw [hq], ?_, hb⟩
 have : (l.map fun j => (lookC (qOf p r) l).xs.getD j.toNat 0) = chL p (nats l) r := by
  unfold chL chN
  rw [hq]
  apply List.ext_getElem
  ·simp [nats]
  ·intro i h1 h2
   simp only [List.length_map] at h1
   simp [nats, List.getD, h1]
 rwa [this] at hO
theorem chN_small {p : PG} {l : List Nat} (hb : Bs p l) {r k : Nat} : -1073741824 ≤ chN p l r k ∧ chN p l r k ≤ 1073741824 := by
 obtain ⟨a1, a2, a3, hq⟩ := corn_of (qOf_may hb.hp r) (qOf_right hb.hr r) (by rw [qOf_den hb.hr.len]; exact hb.hd)
 exact (smallB_getD (m := 1073741824) (by omega)).1 (mayB_parts hq.mx).2.2.1 _
theorem walk_Variables (A : Option Addr) (c : Nat) (A2 : Option Addr) (c2 : Nat) (p : PG) (X Y G : Option Addr) (cx ny cy ng cg : Nat) (xs : List Int) (xd yd gd : Int) (w : World) (hp : Pg w A c A2 c2 p) (hx : Rd w X cx xs) (h0 : 0 < xs.length) (hn : p.costs.length ≤ xs.length) :
    Calls Tryz.prog 35 #[.agg #[.slice A p.costs.length c, .slice A2 p.rows.length c2], .agg #[.slice X xs.length cx, .int .i64 xd, .slice Y ny cy, .int .i64 yd, .slice G ng cg, .int .i64 gd]] w fun e w' =>
     e = .returned (.slice X p.costs.length cx) ∧ Below w.heap.size w w' := by
 obtain ⟨ax, rfl, _⟩ := hx.getD_at (k := 0) h0
 obtain ⟨hl, hc, hs, _⟩ := hx
 obtain ⟨⟨hl1, hc1, hsm, _⟩, ⟨hl2, hc2, hsm2, _⟩⟩ := hp
 have hcx : p.costs.length ≤ cx := by omega
 go_enter Tryz.func35, Tryz.ntmps35
 go_wp2_with fail
 go_ret
 exact ⟨rfl, (by (repeat (any_goals (first | exact qR _ _ | refine below_drewN ?_ _ | refine qD ?_ | refine qA ?_ ?_ _ | refine qS ?_ ?_ _))); all_goals (first | omega | (simp; done) | (simp; omega)))⟩
def stB (p : PG) (l : List Nat) (k : Nat) : Bool := (List.range (p.costs.length + p.rows.length)).all fun j => decide (0 ≤ chN p l j k)
set_option maxHeartbeats 1000000 in
theorem solve_stuck (A : Option Addr) (c : Nat) (A2 : Option Addr) (c2 : Nat) (p : PG) (L : Option Addr) (l : List Int) (cl k : Nat) (w : World) (hp : Pg w A c A2 c2 p) (hr : Rd w L cl l) (h0 : lookE p l = 0) (hk : k < l.length) :
    Calls Tryz.prog 77 #[.agg #[.slice A p.costs.length c, .slice A2 p.rows.length c2], .slice L l.length cl, .int .i64 k] w fun e w' => e = .returned (.bool (stB p (nats l) k)) ∧ Below w.heap.size w w' := by
 have HP := h_ hp
 have HL := h_ hr
 have HN := h_ (look_eq h0)
 have HL0 := h_ h0
 obtain ⟨q1, q2, q3⟩ := look_parts h0
 have HB0 := h_ (show Bs p (nats l) from ⟨q1, (right_nats q2).1, q3⟩)
 have h4 := (mayPB_iff.1 q1).2.2.2.1
 have h5 := (mayPB_iff.1 q1).2.1
 obtain ⟨⟨hl, hc, hsm, _⟩, ⟨hl2, hc2, hsm2, _⟩⟩ := hp
 obtain ⟨hll, hlc, hls, _⟩ := hr
 have hnl : (nats l).length = l.length := by simp [nats]
 have HNL := h_ hnl
 clear q1 q2 q3 hnl
 go_enter Tryz.func77, Tryz.ntmps77
 go_upto_region 1 with fail
 have BP := h_ (Blk.mk' w 28 #[.slice A p.costs.length c, .slice A2 p.rows.length c2])
 have HW := h_ ((Below.refl w.heap.size w).alloc (Nat.le_refl _) (.cells #[.slice A p.costs.length c, .slice A2 p.rows.length c2] 28))
 generalize (w.alloc (.cells #[.slice A p.costs.length c, .slice A2 p.rows.length c2] 28)) = W at *
 have zW := HW.out.size
 have p0 : W.cell? ⟨w.heap.size, 0, none⟩ = some (.slice A p.costs.length c) := BP.out.cell 0
 have p1 : W.cell? ⟨w.heap.size, 1, none⟩ = some (.slice A2 p.rows.length c2) := BP.out.cell 1
 have hc0 : (0 : Int) ≤ (p.costs.length : Int) := by omega
 go_wp2_with fail
 go_loopw [17] (fun i wx => ∃ j : Nat, j ≤ p.costs.length + p.rows.length ∧ i = .int .i64 j ∧ Hid (∀ q, q < j → 0 ≤ chN p (nats l) q k) ∧ Below W.heap.size W wx) (fun i _ => p.costs.length + p.rows.length - (intOf i).toNat)
 case atStart => exact ⟨0, by omega, rfl, h_ fun q hq => by omega, Below.refl _ _⟩
 case round =>
  obtain ⟨j, hj, rfl, hall, hbel⟩ := hrel
  rename World => U
  have HU := h_ hbel
  have HB := h_ (HW.out.trans (hbel.mono zW))
  have u0 := (hbel.cell (lc_ p0)).trans p0
  have u1 := (hbel.cell (lc_ p1)).trans p1
  clear hbel
  by_cases hlt : j < p.costs.length + p.rows.length
  ·have hi0 : (j : Int) < (p.costs.length : Int) + (p.rows.length : Int) := by omega
   go_wp2_with fail
   refine (change_n A c A2 c2 p L l cl j U (HP.out.below HB.out) (HL.out.below HB.out) HL0.out (by omega)).mono ?_
   rintro e w1 ⟨O, co, rfl, hO, hb1⟩
   have H1 := h_ (HU.out.trans (hb1.mono HU.out.size))
   obtain ⟨ao, rfl, hco⟩ := hO.getD_at (k := k) (by rw [chL_len, HNL.out]; exact hk)
   rw [chL_at (by rw [HNL.out]; exact hk)] at hco
   have hao := lc_ hco
   have hocap := hO.le
   rw [chL_len, HNL.out] at hocap
   have hoc := hO.cap
   have hk0 : (k : Int) < (l.length : Int) := by omega
   clear hb1 hO u0 u1
   by_cases hneg : chN p (nats l) j k < 0
   ·have HF := h_ (show stB p (nats l) k = false by
      rw [Bool.eq_false_iff]
      intro h
      unfold stB at h
      rw [List.all_eq_true] at h
      have := h j (List.mem_range.2 hlt)
      simp at this; omega)
    obtain ⟨xv, hxv⟩ : ∃ xv, chN p (nats l) j k = xv := ⟨_, rfl⟩
    rw [hxv] at hco hneg
    clear hxv hall
    go_wp2_with fail
    go_ret
    exact ⟨by rw [HF.out]; rfl, HW.out.trans (H1.out.mono zW)⟩
   ·have HA := h_ (show ∀ q, q < j + 1 → 0 ≤ chN p (nats l) q k from fun q hq => by
      by_cases e : q = j
      ·subst e; omega
      ·exact hall.out q (by omega))
    obtain ⟨xv, hxv⟩ : ∃ xv, chN p (nats l) j k = xv := ⟨_, rfl⟩
    rw [hxv] at hco hneg
    clear hxv hall
    go_wp2_with fail
    go_roundw
    case rel => exact ⟨j + 1, by omega, by go_num, HA, H1.out⟩
    case measure => simp [intOf]; omega
  ·obtain rfl : j = p.costs.length + p.rows.length := by omega
   have HT := h_ (show stB p (nats l) k = true by
    unfold stB
    rw [List.all_eq_true]
    intro q hq
    simpa using hall.out q (List.mem_range.1 hq))
   have hi1 : ¬ (((p.costs.length + p.rows.length : Nat) : Int) < (p.costs.length : Int) + (p.rows.length : Int)) := by omega
   clear hall
   go_wp2_with fail
   go_ret
   exact ⟨by rw [HT.out]; rfl, HB.out⟩
def rayT (p : PG) (l : List Nat) (r i : Nat) : List Int := (List.range (p.costs.length + p.rows.length)).map fun j => if j = r then (lookN (qOf p r) l).xd else if j ∈ l.take i then -((lookN (qOf p r) l).xs.getD j 0) else 0
theorem rayT_len (p : PG) (l : List Nat) (r i : Nat) : (rayT p l r i).length = p.costs.length + p.rows.length := by simp [rayT]
theorem rayT_zero (p : PG) (l : List Nat) (r : Nat) : rayT p l r 0 = (List.replicate (p.costs.length + p.rows.length) (0 : Int)).set r (lookN (qOf p r) l).xd := by
 apply List.ext_getElem
 ·simp [rayT]
 ·intro j h1 h2
  simp [rayT, List.getElem_set, eq_comm]
theorem rayT_succ {p : PG} {l : List Nat} {r i : Nat} (hi : i < l.length) (hrl : r ∉ l) : rayT p l r (i + 1) = (rayT p l r i).set (l.getD i 0) (-(chN p l r i)) := by
 have hg : l.getD i 0 = l[i] := by simp [List.getD, List.getElem?_eq_getElem hi]
 unfold chN
 rw [hg]
 apply List.ext_getElem
 ·simp [rayT]
 ·intro j h1 h2
  simp only [rayT, List.getElem_map, List.getElem_range, List.getElem_set]
  have hmem : j ∈ l.take (i + 1) ↔ j ∈ l.take i ∨ j = l[i] := by rw [List.take_succ_eq_append_getElem hi, List.mem_append, List.mem_singleton]
  by_cases hj : j = r
  ·subst hj
   have : l[i] ≠ j := fun q => hrl (q ▸ List.getElem_mem hi)
   rw [if_pos rfl, if_neg this, if_pos rfl]
  ·by_cases hji : l[i] = j
   ·rw [if_neg hj, if_pos (hmem.2 (.inr hji.symm)), if_pos hji, hji]
   ·rw [if_neg hj, if_neg hji, if_neg hj]
    by_cases h : j ∈ l.take i
    ·rw [if_pos (hmem.2 (.inl h)), if_pos h]
    ·rw [if_neg (fun q => (hmem.1 q).elim h fun q => hji q.symm), if_neg h]
theorem rayT_end {p : PG} {l : List Nat} {r : Nat} (hb : Bs p l) : rayT p l r l.length = rayZ p l r := by
 obtain ⟨a1, a2, a3, hq⟩ := corn_of (qOf_may hb.hp r) (qOf_right hb.hr r) (by rw [qOf_den hb.hr.len]; exact hb.hd)
 unfold rayT rayZ
 rw [List.take_length]
 apply List.map_congr_left
 intro j _
 by_cases hj : j = r
 ·simp [hj]
 ·simp only [hj, if_false]
  split
  ·rfl
  ·rename_i hjl
   have h1 := hq.x j
   rw [xall_off (qOf_right hb.hr r) hjl] at h1
   have := Int.mul_eq_zero.1 h1.symm
   have hx : (lookN (qOf p r) l).xs.getD j 0 = 0 := by
    rcases this with q | q
    ·exact absurd q hq.nx
    ·exact q
   rw [hx]; rfl
set_option maxHeartbeats 1000000 in
theorem walk_Ray (A : Option Addr) (c : Nat) (A2 : Option Addr) (c2 : Nat) (p : PG) (L : Option Addr) (l : List Int) (cl r : Nat) (w : World) (hp : Pg w A c A2 c2 p) (hr : Rd w L cl l) (h0 : lookE p l = 0) (hrl : r ∉ nats l) (hrN : r < p.costs.length + p.rows.length) :
    Calls Tryz.prog 38 #[.agg #[.slice A p.costs.length c, .slice A2 p.rows.length c2], .slice L l.length cl, .int .i64 r] w fun e w' => ∃ O co, e = .returned (.slice O (p.costs.length + p.rows.length) co) ∧ Rd w' O co (rayZ p (nats l) r) ∧ (∀ ad, O = some ad → w.heap.size ≤ ad.block) ∧ Below w.heap.size w w' := by
 have HP := h_ hp
 have HL := h_ hr
 have HN := h_ (look_eq h0)
 have HL0 := h_ h0
 obtain ⟨q1, q2, q3⟩ := look_parts h0
 have HB0 := h_ (show Bs p (nats l) from ⟨q1, (right_nats q2).1, q3⟩)
 have h4 := (mayPB_iff.1 q1).2.2.2.1
 have h5 := (mayPB_iff.1 q1).2.1
 obtain ⟨⟨hl, hc, hsm, _⟩, ⟨hl2, hc2, hsm2, _⟩⟩ := hp
 obtain ⟨hll, hlc, hls, _⟩ := hr
 have hnl : (nats l).length = l.length := by simp [nats]
 have HNL := h_ hnl
 clear q1 q2 q3 hnl
 go_enter Tryz.func38, Tryz.ntmps38
 go_upto_region 1 with fail
 have BP := h_ (Blk.mk' w 28 #[.slice A p.costs.length c, .slice A2 p.rows.length c2])
 have HW := h_ ((Below.refl w.heap.size w).alloc (Nat.le_refl _) (.cells #[.slice A p.costs.length c, .slice A2 p.rows.length c2] 28))
 generalize (w.alloc (.cells #[.slice A p.costs.length c, .slice A2 p.rows.length c2] 28)) = W at *
 have zW := HW.out.size
 have p0 : W.cell? ⟨w.heap.size, 0, none⟩ = some (.slice A p.costs.length c) := BP.out.cell 0
 have p1 : W.cell? ⟨w.heap.size, 1, none⟩ = some (.slice A2 p.rows.length c2) := BP.out.cell 1
 go_wp2_with fail
 refine (change_n A c A2 c2 p L l cl r W (HP.out.below HW.out) (HL.out.below HW.out) HL0.out (by omega)).mono ?_
 rintro e w1 ⟨O, co, rfl, hO, hb1⟩
 have HO := h_ hO
 have H1 := h_ hb1
 have z1 := hb1.size
 have u0 := (hb1.cell (lc_ p0)).trans p0
 have u1 := (hb1.cell (lc_ p1)).trans p1
 have HRT := h_ (rayT_zero p (nats l) r)
 have HRE := h_ (rayT_end (r := r) HB0.out)
 obtain ⟨xd, hxd⟩ : ∃ xd, (lookN (qOf p r) (nats l)).xd = xd := ⟨_, rfl⟩
 rw [hxd] at HRT ⊢
 clear hxd hO hb1 p0 p1
 obtain ⟨N, hN⟩ : ∃ N, p.costs.length + p.rows.length = N := ⟨_, rfl⟩
 have HNN := h_ hN
 have hNc : (p.costs.length : Int) + (p.rows.length : Int) = N := by omega
 have hmk := fun w => made_i64 w N ((p.costs.length : Int) + (p.rows.length : Int)) (by omega) (by omega)
 rw [hNc] at hmk
 have hwN : IntKind.i64.wrap (N : Int) = N := IntWalk.i64_in _ (by omega)
 rw [hN] at HRT
 go_upto_region 3 with fail
 have HM := h_ (own_made w1 W.heap.size N w1.heap.size rfl z1 (by omega))
 have HB1 := h_ (H1.out.alloc z1 (.cells (Array.replicate N (Value.int .i64 0)) 2))
 have lG : w1.heap.size < (w1.alloc (.cells (Array.replicate N (Value.int .i64 0)) 2)).heap.size := by simp
 have HO1 := h_ (HO.out.alloc (.cells (Array.replicate N (Value.int .i64 0)) 2))
 generalize hG : w1.heap.size = g at *
 generalize (w1.alloc (.cells (Array.replicate N (Value.int .i64 0)) 2)) = V at *
 have e1 := own_cell' HM.out r (.int .i64 0) (by simp [hN ▸ hrN])
 have f1 := own_free' HM.out r
 have hrc : (r : Int) < (N : Int) := by omega
 clear u0 u1 hmk
 go_wp2_with fail
 have HM2 := h_ (show (V.setCell ⟨g, r, none⟩ (.int .i64 xd)).ownsRow W.heap.size 2 1 (.slice (some ⟨g, 0, none⟩) N N) N ((rayT p (nats l) r 0).map (Value.int .i64)) from by rw [HRT.out, ← map_set_int]; exact own_put HM.out r _)
 have hrv : r < N := by rw [← hN]; exact hrN
 have HOV := h_ (fun ad (e : O = some ad) (h : 0 < l.length) => (show ad.block ≠ g from by
  have := HO.out.blk_lt (by rw [chL_len, HNL.out]; exact h) ad e; omega))
 go_loopw [33] (fun i wx => ∃ k : Nat, k ≤ l.length ∧ i = .int .i64 k ∧ wx.ownsRow W.heap.size 2 1 (.slice (some ⟨g, 0, none⟩) N N) N ((rayT p (nats l) r k).map (Value.int .i64)) ∧ (0 < l.length → Rd wx O co (chL p (nats l) r)) ∧ Below W.heap.size W wx) (fun i _ => l.length - (intOf i).toNat)
 case atStart => exact ⟨0, by omega, rfl, HM2.out, fun h => HO1.out.setCell_out _ _ (fun ad e => HOV.out ad e h), HB1.out.setCell z1 _⟩
 case round =>
  obtain ⟨k, hk, rfl, hown, hro, hbel⟩ := hrel
  rename World => U
  have HU := h_ hbel
  have HB := h_ (HW.out.trans (hbel.mono zW))
  have HK := h_ hown
  have lg := (hown.lt g rfl).2
  clear hown hbel
  by_cases hlt : k < l.length
  ·have hro := hro (by omega)
   have HRO := h_ hro
   obtain ⟨al, rfl, hcl⟩ := (HL.out.below HB.out).natAt HN.out hlt
   obtain ⟨ao, rfl, hco⟩ := hro.getD_at (k := k) (by rw [chL_len, HNL.out]; exact hlt)
   rw [chL_at (by rw [HNL.out]; exact hlt)] at hco
   have hal := lc_ hcl
   have hao := lc_ hco
   have hocap := hro.le
   rw [chL_len, HNL.out] at hocap
   have hoc := hro.cap
   have hi0 : (k : Int) < (l.length : Int) := by omega
   have hin : k < (nats l).length := by rw [HNL.out]; exact hlt
   have hjN : (nats l).getD k 0 < N := by rw [← hN]; exact HB0.out.hr.lt _ (mem_getD.2 ⟨k, hin, rfl⟩)
   have HS := h_ (rayT_succ (p := p) hin hrl)
   obtain ⟨hs1, hs2⟩ := chN_small HB0.out (r := r) (k := k)
   obtain ⟨cv, hcv⟩ : ∃ cv, chN p (nats l) r k = cv := ⟨_, rfl⟩
   rw [hcv] at hco HS hs1 hs2
   obtain ⟨jn, hjn⟩ : ∃ jn, (nats l).getD k 0 = jn := ⟨_, rfl⟩
   rw [hjn] at hcl hjN HS
   have e2 := own_cell' HK.out jn _ (map_at_int (by rw [rayT_len, hN]; exact hjN))
   have f2 := own_free' HK.out jn
   have hj0 : (jn : Int) < (N : Int) := by omega
   have hwc : IntKind.i64.wrap (-cv) = -cv := IntWalk.i64_in _ (by omega)
   generalize (rayT p (nats l) r k).getD jn 0 = z0 at *
   clear hro hcv hjn hin e1 f1
   go_wp2_with fail
   go_roundw
   case rel => exact ⟨k + 1, by omega, by go_num, by rw [HS.out, ← map_set_int]; exact own_put HK.out jn _, fun h => HRO.out.setCell_out _ _ (fun ad e => HOV.out ad e h), HU.out.setCell z1 _⟩
   case measure => simp [intOf]; omega
  ·obtain rfl : k = l.length := by omega
   have hown := HK.out
   rw [← HNL.out, HRE.out] at hown
   clear hro e1 f1
   go_wp2_with fail
   go_ret
   exact ⟨some ⟨g, 0, none⟩, N, by rw [hN]; rfl, Rd.of_own (base := W.heap.size) (e := 2) (by rw [ray_len, hN]; exact hown) (by rw [ray_len]; omega), fun ad e => (by cases e; exact Nat.le_trans zW z1), HB.out⟩
end Go.Proofs.YtjcdkbalhleeeaaGreatDoor

namespace Go.Proofs.YtjcdkbalhleeeaaGreatDoor
open Go.RowKit
theorem own_grown {w w' : World} {base n : Nat} {e : TypeId} {v : Value} {xs : List Value} (h : w.ownsRow base e 1 v n xs) {row : Option Nat} (hg : w.grownBy w' row) (hne : ∀ b, v.ownBlock = some b → some b ≠ row) : w'.ownsRow base e 1 v n xs :=
 own_same h fun b hb => hg.block b (h.lt b hb).2 (hne b hb)
def rnL (p : PG) (l : List Nat) (k i : Nat) : List Value := (List.range i).map fun j => Value.int .i64 (rnZ p l k j)
def rdL (p : PG) (l : List Nat) (i : Nat) : List Value := (List.range i).map fun j => Value.int .i64 (rdZ p l j)
theorem rnL_succ (p : PG) (l : List Nat) (k i : Nat) : rnL p l k (i + 1) = rnL p l k i ++ [.int .i64 (rnZ p l k i)] := by unfold rnL; rw [List.range_succ, List.map_append]; rfl
theorem rdL_succ (p : PG) (l : List Nat) (i : Nat) : rdL p l (i + 1) = rdL p l i ++ [.int .i64 (rdZ p l i)] := by unfold rdL; rw [List.range_succ, List.map_append]; rfl
def rwL (p : PG) (l : List Nat) (k i : Nat) : List Int := (List.range p.rows.length).map fun j => if j < i then rnZ p l k j * ((allN p l p.rows.length : Int).tdiv (rdZ p l j)) else rnZ p l k j
theorem rwL_len (p : PG) (l : List Nat) (k i : Nat) : (rwL p l k i).length = p.rows.length := by simp [rwL]
theorem rwL_zero (p : PG) (l : List Nat) (k : Nat) : (rwL p l k 0).map (Value.int .i64) = rnL p l k p.rows.length := by simp [rwL, rnL]
theorem rwL_end (p : PG) (l : List Nat) (k : Nat) : rwL p l k p.rows.length = rowZ p l k := by
 unfold rwL rowZ
 apply List.map_congr_left
 intro j hj
 rw [if_pos (List.mem_range.1 hj)]
theorem rwL_at {p : PG} {l : List Nat} {k i : Nat} (hi : i < p.rows.length) : (rwL p l k i).getD i 0 = rnZ p l k i := by
 unfold rwL; rw [getD_map_range hi, if_neg (Nat.lt_irrefl _)]
theorem rwL_succ {p : PG} {l : List Nat} {k i : Nat} (_hi : i < p.rows.length) : rwL p l k (i + 1) = (rwL p l k i).set i (rnZ p l k i * ((allN p l p.rows.length : Int).tdiv (rdZ p l i))) := by
 apply List.ext_getElem
 ·simp [rwL]
 ·intro j h1 h2
  simp only [rwL, List.getElem_map, List.getElem_range, List.getElem_set]
  by_cases hj : i = j
  ·subst hj; rw [if_pos (by omega), if_pos rfl]
  ·rw [if_neg hj]
   by_cases hji : j < i
   ·rw [if_pos (by omega), if_pos hji]
   ·rw [if_neg (by omega), if_neg hji]
set_option maxRecDepth 100000 in
set_option maxHeartbeats 4000000 in
theorem solve_row (A : Option Addr) (c : Nat) (A2 : Option Addr) (c2 : Nat) (p : PG) (L : Option Addr) (l : List Int) (cl k : Nat) (w : World) (hp : Pg w A c A2 c2 p) (hr : Rd w L cl l) (h0 : lookE p l = 0) (hk : k < l.length) :
    Calls Tryz.prog 78 #[.agg #[.slice A p.costs.length c, .slice A2 p.rows.length c2], .slice L l.length cl, .int .i64 k] w fun e w' => ∃ O co, e = .returned (.slice O p.rows.length co) ∧ Rd w' O co (rowZ p (nats l) k) ∧ (∀ ad, O = some ad → w.heap.size ≤ ad.block) ∧ Below w.heap.size w w' := by
 have HP := h_ hp
 have HL := h_ hr
 have HN := h_ (look_eq h0)
 have HL0 := h_ h0
 obtain ⟨q1, q2, q3⟩ := look_parts h0
 have HB0 := h_ (show Bs p (nats l) from ⟨q1, (right_nats q2).1, q3⟩)
 have h4 := (mayPB_iff.1 q1).2.2.2.1
 have h5 := (mayPB_iff.1 q1).2.1
 obtain ⟨⟨hl, hc, hsm, _⟩, ⟨hl2, hc2, hsm2, _⟩⟩ := hp
 obtain ⟨hll, hlc, hls, _⟩ := hr
 have hnl : (nats l).length = l.length := by simp [nats]
 have HNL := h_ hnl
 clear q1 q2 q3 hnl
 go_enter Tryz.func78, Tryz.ntmps78
 go_upto_region 1 with fail
 have BP := h_ (Blk.mk' w 28 #[.slice A p.costs.length c, .slice A2 p.rows.length c2])
 have HW := h_ ((Below.refl w.heap.size w).alloc (Nat.le_refl _) (.cells #[.slice A p.costs.length c, .slice A2 p.rows.length c2] 28))
 generalize (w.alloc (.cells #[.slice A p.costs.length c, .slice A2 p.rows.length c2] 28)) = W at *
 have zW := HW.out.size
 have p0 : W.cell? ⟨w.heap.size, 0, none⟩ = some (.slice A p.costs.length c) := BP.out.cell 0
 have p1 : W.cell? ⟨w.heap.size, 1, none⟩ = some (.slice A2 p.rows.length c2) := BP.out.cell 1
 have hm1 : 1 ≤ p.rows.length := (mayPB_iff.1 HB0.out.hp).2.2.1
 go_wp2_with fail
 go_loopw [7, 8, 9, 19] (fun s7 s8 s9 s19 wx => ∃ i : Nat, i ≤ p.rows.length ∧ s19 = .int .i64 i ∧ s9 = .int .i64 (allN p (nats l) i) ∧ wx.ownsRow W.heap.size 2 1 s7 i (rnL p (nats l) k i) ∧ wx.ownsRow W.heap.size 2 1 s8 i (rdL p (nats l) i) ∧
  (∀ b, s7.ownBlock = some b → s8.ownBlock ≠ some b) ∧ Below W.heap.size W wx) (fun _ _ _ s19 _ => p.rows.length - (intOf s19).toNat)
 case atStart => exact ⟨0, by omega, rfl, rfl, World.ownsRow_nil _ _ _ _, World.ownsRow_nil _ _ _ _, fun b e => by simp [Value.ownBlock] at e, Below.refl _ _⟩
 case round =>
  obtain ⟨i, hi, rfl, rfl, hn, hd, hne, hbel⟩ := hrel
  rename World => U
  have HU := h_ hbel
  have HB := h_ (HW.out.trans (hbel.mono zW))
  have HNU := h_ hn
  have HDE := h_ hd
  have HNE := h_ hne
  have u0 := (hbel.cell (lc_ p0)).trans p0
  have u1 := (hbel.cell (lc_ p1)).trans p1
  have zU := hbel.size
  clear hbel hn hd hne
  by_cases hlt : i < p.rows.length
  ·have hi0 : (i : Int) < (p.rows.length : Int) := by omega
   have hCH := h_ (fun (u : World) (hu : Below U.heap.size U u) => change_n A c A2 c2 p L l cl (p.costs.length + i) u ((HP.out.below HB.out).below hu) ((HL.out.below HB.out).below hu) HL0.out (by omega))
   go_wp2_with fail
   rw [show (p.costs.length : Int) + (i : Int) = ((p.costs.length + i : Nat) : Int) by omega]
   refine (hCH.out _ (Below.refl _ _)).mono ?_
   rintro e w1 ⟨O, co, rfl, hO, hb1⟩
   have H1 := h_ (HU.out.trans (hb1.mono zU))
   have z1 := hb1.size
   have HNU1 := h_ (own_below HNU.out hb1)
   have HDE1 := h_ (own_below HDE.out hb1)
   obtain ⟨ao, rfl, hco⟩ := hO.getD_at (k := k) (by rw [chL_len, HNL.out]; exact hk)
   rw [chL_at (by rw [HNL.out]; exact hk), show chN p (nats l) (p.costs.length + i) k = rnZ p (nats l) k i from rfl] at hco
   rw [show (lookN (qOf p (p.costs.length + i)) (nats l)).xd = rdZ p (nats l) i from rfl]
   have hao := lc_ hco
   have hocap := hO.le
   rw [chL_len, HNL.out] at hocap
   have hoc := hO.cap
   have hk0 : (k : Int) < (l.length : Int) := by omega
   have HNS := h_ (rnL_succ p (nats l) k i)
   have HDS := h_ (rdL_succ p (nats l) i)
   have hrd := rd_pos HB0.out i
   have hal := all_le HB0.out i
   have hap := all_pos HB0.out i
   have hdl : (rdZ p (nats l) i).natAbs ≤ 497664 := by
    have := Nat.le_of_dvd (by have := HB0.out.hd; omega) (rd_dvd HB0.out i)
    have := den_bound HB0.out.hp HB0.out.hr.len
    omega
   have HAL := h_ (show allN p (nats l) (i + 1) = Nat.lcm (allN p (nats l) i) (rdZ p (nats l) i).natAbs from rfl)
   obtain ⟨rn, hrn⟩ : ∃ rn, rnZ p (nats l) k i = rn := ⟨_, rfl⟩
   obtain ⟨d, hdd⟩ : ∃ d : Nat, rdZ p (nats l) i = d := ⟨(rdZ p (nats l) i).natAbs, by omega⟩
   obtain ⟨a, haa⟩ : ∃ a : Nat, allN p (nats l) i = a := ⟨_, rfl⟩
   rw [hrn] at hco HNS
   rw [hdd] at HDS hrd hdl HAL ⊢
   rw [haa] at hal hap HAL ⊢
   rw [Int.natAbs_natCast] at hdl HAL
   clear hrn hdd haa hO hb1 u0 u1
   go_wp2_with (first
    | (at_builtin; refine list_app1 rfl (.tmp 33) (.tmp 38) _ _ _ 8 und_i64s inf_i64 rfl rfl W.heap.size u7 i _ _ rfl (HNU1.out.alloc _) _ 1 rfl (cell_new1 _ _ _) rfl (by unfold maxLen; omega) (by omega) (by simp; omega) ?_; intro g cap w5 hown5 hg5 hat5 hlt5; have HO5 := h_ hown5; have HD5 := h_ (own_grown (HDE1.out.alloc _) hg5 (fun b e q => HNE.out b q.symm e)); have H5 := h_ ((H1.out.alloc (by have := H1.out.size; omega) _).grown hg5 (by have := H1.out.size; simp; omega) (own_ge HNU.out (Nat.le_refl _))); have HAT5 := h_ (show ∀ b, u8.ownBlock = some b → g ≠ b from fun b e q => by rcases hat5 with r | r; (exact HNE.out b (q ▸ r) e); (have := (HDE1.out.lt b e).2; simp at r; omega)); clear hown5 hg5 hat5)
    | (at_builtin; refine list_app1 rfl (.tmp 40) (.tmp 42) _ _ _ 8 und_i64s inf_i64 rfl rfl W.heap.size u8 i _ _ rfl (HD5.out.alloc _) _ 1 rfl (cell_new1 _ _ _) rfl (by unfold maxLen; omega) (by omega) (by have := H5.out.size; simp; omega) ?_; intro g6 cap6 w6 hown6 hg6 hat6 hlt6; have HO6 := h_ hown6; have HN6 := h_ (own_grown (HO5.out.alloc _) hg6 (fun b e q => HAT5.out b q.symm (by simpa [Value.ownBlock] using e))); have H6 := h_ ((H5.out.alloc H5.out.size _).grown hg6 (by have := H5.out.size; simp; omega) (own_ge HDE.out (Nat.le_refl _))); have HNE6 := h_ (show g ≠ g6 from fun q => by rcases hat6 with r | r; (exact HAT5.out g6 r q); (simp at r; omega)); clear hown6 hg6 hat6))
   have hd0 : 0 < d := by omega
   have z6 := H6.out.size
   go_loopw [9, 13] (fun s9 s13 wx => ∃ n : Nat, 1 ≤ n ∧ n ≤ d ∧ s13 = .int .i64 n ∧ s9 = .int .i64 a ∧ Hid (∀ q, 0 < q → q < n → ¬ d ∣ a * q) ∧ Below w6.heap.size w6 wx) (fun _ s13 _ => d + 1 - (intOf s13).toNat)
   case atStart => exact ⟨1, by omega, by omega, rfl, rfl, h_ fun q h1 h2 => by omega, Below.refl _ _⟩
   case round =>
    obtain ⟨n, hn1, hn2, rfl, rfl, hno, hb7⟩ := hrel
    rename World => U7
    have H7 := h_ hb7
    clear hb7
    have han : a * n ≤ 497664 * 497664 := Nat.mul_le_mul hal (by omega)
    have hcm : (a : Int) * (n : Int) = ((a * n : Nat) : Int) := by simp
    have hw1 : IntKind.i64.wrap ((a : Int) * (n : Int)) = (a : Int) * (n : Int) := IntWalk.i64_in _ (by rw [hcm]; omega)
    have hz : ¬ (d : Int) = 0 := by omega
    by_cases hdv : d ∣ a * n
    ·have ht : ((a : Int) * (n : Int)).tmod (d : Int) = 0 := by
       rw [hcm, show ((a * n : Nat) : Int).tmod (d : Int) = ((a * n % d : Nat) : Int) from rfl, Nat.mod_eq_zero_of_dvd hdv]; rfl
     have HLC := h_ (show (a * n : Nat) = allN p (nats l) (i + 1) by rw [HAL.out]; exact lcm_least hap (by omega) hdv (fun q h1 h2 => hno.out q h1 h2))
     have HCM := h_ hcm
     clear hno hdv hcm han
     go_wp2_with fail
     go_roundw
     case rel =>
      refine ⟨i + 1, by omega, by go_num, by rw [HCM.out, HLC.out], by rw [HNS.out]; exact own_below HN6.out H7.out, by rw [HDS.out]; exact own_below HO6.out H7.out, fun b e q => ?_, H6.out.trans (H7.out.mono z6)⟩
      simp only [Value.ownBlock, Option.some.injEq] at e q
      exact HNE6.out (e.trans q.symm)
     case measure => simp [intOf]; omega
    ·have hlt' : n < d := by
       rcases Nat.lt_or_ge n d with h | h
       ·exact h
       ·exact absurd (show d ∣ a * n by have : n = d := by omega
                                        rw [this]; exact Nat.dvd_mul_left _ _) hdv
     have HNO := h_ (show ∀ q, 0 < q → q < n + 1 → ¬ d ∣ a * q from fun q h1 h2 => by
      by_cases e : q = n
      ·subst e; exact hdv
      ·exact hno.out q h1 (by omega))
     obtain ⟨tv, htv⟩ : ∃ tv, ((a : Int) * (n : Int)).tmod (d : Int) = tv := ⟨_, rfl⟩
     have ht0 : (tv == 0) = false := by
      have : ¬ tv = 0 := fun q => hdv (by
       rw [← htv, hcm, show ((a * n : Nat) : Int).tmod (d : Int) = ((a * n % d : Nat) : Int) from rfl] at q
       exact Nat.dvd_of_mod_eq_zero (by omega))
      simpa using this
     clear hno hdv hcm han
     go_wp2_with fail
     go_roundw
     case rel => exact ⟨n + 1, by omega, by omega, by go_num, rfl, HNO, H7.out⟩
     case measure => simp [intOf]; omega
  ·obtain rfl : i = p.rows.length := by omega
   obtain ⟨g, cap, rfl⟩ := own_some HNU.out (by omega)
   obtain ⟨g6, cap6, rfl⟩ := own_some HDE.out (by omega)
   have HGG := h_ (show g6 ≠ g from fun q => HNE.out g rfl (by rw [q]; rfl))
   have HN0 := h_ (show U.ownsRow W.heap.size 2 1 (.slice (some ⟨g, 0, none⟩) p.rows.length cap) p.rows.length ((rwL p (nats l) k 0).map (Value.int .i64)) by rw [rwL_zero]; exact HNU.out)
   have lg := HNU.out.lt g rfl
   obtain ⟨hcap1, hcap2⟩ := own_caps HNU.out
   obtain ⟨hcap3, hcap4⟩ := own_caps HDE.out
   have hal := all_le HB0.out p.rows.length
   obtain ⟨a, haa⟩ : ∃ a : Nat, allN p (nats l) p.rows.length = a := ⟨_, rfl⟩
   have HAA := h_ haa
   rw [haa] at hal ⊢
   clear haa u0 u1
   go_wp2_with fail
   go_loopw [58] (fun s58 wx => ∃ i : Nat, i ≤ p.rows.length ∧ s58 = .int .i64 i ∧ wx.ownsRow W.heap.size 2 1 (.slice (some ⟨g, 0, none⟩) p.rows.length cap) p.rows.length ((rwL p (nats l) k i).map (Value.int .i64)) ∧ wx.ownsRow W.heap.size 2 1 (.slice (some ⟨g6, 0, none⟩) p.rows.length cap6) p.rows.length (rdL p (nats l) p.rows.length) ∧ Below W.heap.size W wx) (fun s58 _ => p.rows.length - (intOf s58).toNat)
   case atStart => exact ⟨0, by omega, rfl, HN0.out, HDE.out, HU.out⟩
   case round =>
    obtain ⟨i, hi, rfl, hn, hd, hbel⟩ := hrel
    rename World => U5
    have HN5 := h_ hn
    have HD5 := h_ hd
    have H5 := h_ hbel
    have lg5 := (hn.lt g rfl).2
    clear hn hd hbel
    by_cases hlt : i < p.rows.length
    ·have hi0 : (i : Int) < (p.rows.length : Int) := by omega
     have c1 := own_cell' HN5.out i (.int .i64 (rnZ p (nats l) k i)) (by rw [map_at_int (by rw [rwL_len]; exact hlt), rwL_at hlt])
     have f1 := own_free' HN5.out i
     have e2 := own_cell' HD5.out i (.int .i64 (rdZ p (nats l) i)) (by simp [rdL, hlt])
     have hrd := rd_pos HB0.out i
     have hz : ¬ rdZ p (nats l) i = 0 := by omega
     have HST := h_ (rwL_succ (p := p) (l := nats l) (k := k) hlt)
     rw [HAA.out] at HST
     have hrs := (smallB_getD (m := 497664) (by omega)).1 (row_small HB0.out (k := k) (by rw [HNL.out]; exact hk)) i
     rw [row_at k hlt, HAA.out] at hrs
     obtain ⟨hq1, hq2⟩ := tdiv_bound 497664 (a : Int) (rdZ p (nats l) i) (by omega) (by omega)
     obtain ⟨rn, hrn⟩ : ∃ rn, rnZ p (nats l) k i = rn := ⟨_, rfl⟩
     obtain ⟨rd, hrdd⟩ : ∃ rd, rdZ p (nats l) i = rd := ⟨_, rfl⟩
     rw [hrn] at c1 HST hrs
     rw [hrdd] at e2 hrd hz HST hrs hq1 hq2
     have hdv : (a : Int).tdiv rd = (a : Int) / rd := Int.tdiv_eq_ediv_of_nonneg (by omega)
     rw [hdv] at HST hrs hq1 hq2
     have hw1 : IntKind.i64.wrap ((a : Int) / rd) = (a : Int) / rd := IntWalk.i64_in _ (by omega)
     have hw2 : IntKind.i64.wrap (rn * ((a : Int) / rd)) = rn * ((a : Int) / rd) := IntWalk.i64_in _ (by omega)
     clear hdv
     clear hrn hrdd
     go_wp2_with fail
     go_still_tail 9, (by kernel_rfl)
     go_wp2_with fail
     go_roundw
     case rel =>
      refine ⟨i + 1, by omega, by go_num, by rw [HST.out, ← map_set_int]; exact (own_put HN5.out i _).drew, (own_far HD5.out _ (fun q => HGG.out (by simpa [Value.ownBlock] using q))).drew, (H5.out.setCell lg.1 _).drew⟩
     case measure => simp [intOf]; omega
    ·obtain rfl : i = p.rows.length := by omega
     have hown := HN5.out
     rw [rwL_end] at hown
     have H5' := h_ (HW.out.trans (H5.out.mono zW))
     go_wp2_with fail
     go_ret
     exact ⟨some ⟨g, 0, none⟩, cap, rfl, Rd.of_own (base := W.heap.size) (e := 2) (by rw [rowZ_len]; exact hown) (by rw [rowZ_len]; omega), fun ad e => (by cases e; exact Nat.le_trans zW lg.1), H5'.out⟩
end Go.Proofs.YtjcdkbalhleeeaaGreatDoor

namespace Go.Proofs.YtjcdkbalhleeeaaGreatDoor
open Go.RowKit
def ansN (p : PG) : AN := match stZ p with
 | some x => notA p x
 | none => ⟨0, [], 0, [], 0, [], 0, 0, 0⟩
def anV (X : Option Addr) (cx : Nat) (Y : Option Addr) (cy : Nat) (R : Option Addr) (cr : Nat) (a : AN) : Value :=
 .agg #[.int .i64 a.kind, .slice X a.xs.length cx, .int .i64 a.xd, .slice Y a.ys.length cy, .int .i64 a.yd, .slice R a.rs.length cr, .int .i64 a.rd, .int .i64 a.wn, .int .i64 a.wd]
def RetNo (w : World) (p : PG) (e : Ending) (w' : World) : Prop :=
 Below w.heap.size w w' ∧ ∃ Y cy, e = .returned (anV none 0 Y cy none 0 (ansN p)) ∧ Rd w' Y cy (ansN p).ys ∧ ∀ ad, Y = some ad → w.heap.size ≤ ad.block
theorem stk_no {p : PG} {l : List Nat} (h : ∀ k, k < l.length → stuckZ p l k = false) : stkZ p l = none := by
 unfold stkZ
 rw [List.find?_eq_none]
 intro k hk
 rw [h k (List.mem_range.1 hk)]; simp
theorem stk_at {p : PG} {l : List Nat} {k : Nat} (hk : k < l.length) (hs : stuckZ p l k = true) (hn : ∀ i, i < k → stuckZ p l i = false) : stkZ p l = some k := by
 unfold stkZ
 rw [List.find?_eq_some_iff_getElem]
 refine ⟨hs, k, by simpa using hk, by simp, fun j hj => ?_⟩
 simp only [List.getElem_range]
 rw [hn j hj]; rfl
theorem findSome_at {α β : Type} {f : α → Option β} : ∀ {l : List α} {k : Nat} {x : α} {y : β}, l[k]? = some x → f x = some y → (∀ i z, i < k → l[i]? = some z → f z = none) → l.findSome? f = some y
 | a :: l, 0, x, y, h, hy, _ => by simp at h; subst h; rw [List.findSome?_cons, hy]
 | a :: l, k + 1, x, y, h, hy, hn => by
  have h0 := hn 0 a (by omega) rfl
  rw [List.findSome?_cons, h0]
  exact findSome_at (k := k) (by simpa using h) hy fun i z hi hz => hn (i + 1) z (by omega) (by simpa using hz)
theorem st_at {p : PG} {k j : Nat} (hk : k < (cornersZ p).length) (hj : stkZ p ((cornersZ p).getD k []) = some j) (hn : ∀ i, i < k → stkZ p ((cornersZ p).getD i []) = none) : stZ p = some ((cornersZ p).getD k [], j) := by
 have e : (cornersZ p)[k]? = some ((cornersZ p).getD k []) := by simp [List.getD, List.getElem?_eq_getElem hk]
 unfold stZ
 refine findSome_at (k := k) e (by rw [hj]; rfl) fun i z hi hz => ?_
 have := hn i hi
 rw [List.getD, hz, Option.getD_some] at this
 rw [this]; rfl
theorem st_no {p : PG} (hn : ∀ i, i < (cornersZ p).length → stkZ p ((cornersZ p).getD i []) = none) : stZ p = none := by
 unfold stZ
 rw [List.findSome?_eq_none_iff]
 intro x hx
 obtain ⟨j, hj, rfl⟩ := List.mem_iff_getElem.1 hx
 have := hn j hj
 rw [List.getD, List.getElem?_eq_getElem hj, Option.getD_some] at this
 rw [this]; rfl
theorem stuckZ_st {p : PG} {l : List Nat} {k : Nat} : stuckZ p l k = (decide ((lookN p l).xs.getD (l.getD k 0) 0 < 0) && stB p l k) := rfl
attribute [local go_sem] Oper.semAt_some
set_option maxRecDepth 100000 in
set_option maxHeartbeats 4000000 in
theorem solve_nothing (A : Option Addr) (c : Nat) (A2 : Option Addr) (c2 : Nat) (p : PG) (w : World) (hp : Pg w A c A2 c2 p) (hm : mayPB p = true) :
    Calls Tryz.prog 33 #[.agg #[.slice A p.costs.length c, .slice A2 p.rows.length c2]] w (RetNo w p) := by
 have HP := h_ hp
 have HM := h_ hm
 clear hp hm
 refine calls_of_marks Tryz.func33 rfl ?_
 simp only [Tryz.ntmps33, List.size_toArray, List.length_cons, List.length_nil, Nat.reduceAdd, Nat.reduceSub, Array.replicate_succ, Array.replicate_zero, List.push_toArray, List.append_toArray, List.nil_append, List.cons_append]
 go_wp2_with fail
 refine (solve_Corners A c A2 c2 p _).mono ?_
 rintro e w1 ⟨b1, b2, b3, rfl, l1, l2, l3, k1, k2, k3, k4, hb1⟩
 go_wp2_with fail
 have BR := h_ (show Blk w1 (w.heap.size + 1) 57 #[.int .i64 0, .slice none 0 0, .int .i64 0, .slice none 0 0, .int .i64 0, .slice none 0 0, .int .i64 0, .int .i64 0, .int .i64 0] from Blk.next (by
  have := Blk.mk' (w.alloc (.cells #[.slice A p.costs.length c, .slice A2 p.rows.length c2] 28)) 57 #[.int .i64 0, .slice none 0 0, .int .i64 0, .slice none 0 0, .int .i64 0, .slice none 0 0, .int .i64 0, .int .i64 0, .int .i64 0]
  simpa using this) hb1)
 have BP := h_ (show Blk w1 w.heap.size 28 #[.slice A p.costs.length c, .slice A2 p.rows.length c2] from Blk.next ((Blk.mk' _ _ _).alloc _) hb1)
 have HB1 := h_ (show Below w.heap.size w w1 from (((Below.refl w.heap.size w).alloc (Nat.le_refl _) _).alloc (by simp) _).trans (hb1.mono (by simp; omega)))
 have z1 := hb1.size
 simp only [World.size_alloc] at z1 l1 l2 l3
 have q1 := lc_ k1
 have q2 := lc_ k2
 have q3 := lc_ k3
 simp only at q1 q2 q3
 obtain ⟨S, hS⟩ : ∃ S : Nat → Prop, S = fun i => i < w.heap.size + 1 ∨ i = b1 ∨ i = b2 ∨ i = b3 := ⟨_, rfl⟩
 have HS := h_ hS
 have hbox : BoxC S w1 b1 b2 b3 A c A2 c2 p := by
  subst hS
  exact ⟨.inr (.inl rfl), .inr (.inr (.inl rfl)), .inr (.inr (.inr rfl)), k1, k2, k3, k4, fun W h => HP.out.below (HB1.out.trans (h.below (fun i hi => .inl (by omega)) HB1.out.size))⟩
 have hSn : ∀ i, S i → i < w1.heap.size := by
  subst hS
  rintro i (h | rfl | rfl | rfl) <;> omega
 have hSr : ¬ S (w.heap.size + 1) := by
  subst hS
  rintro (h | h | h | h) <;> omega
 have HSB := h_ (show ∀ W, KS S w1 W → Below w.heap.size w W from fun W h => by
  subst hS
  exact HB1.out.trans (h.below (fun i hi => .inl (by omega)) HB1.out.size))
 have HSP := h_ (show ∀ W, KS S w1 W → W.cell? ⟨w.heap.size, 0, none⟩ = some (.slice A p.costs.length c) ∧ W.cell? ⟨w.heap.size, 1, none⟩ = some (.slice A2 p.rows.length c2) from fun W h => by
  subst hS
  exact ⟨h.cell (.inl (by omega)) (BP.out.cell 0), h.cell (.inl (by omega)) (BP.out.cell 1)⟩)
 have HIT := h_ (corners_iter S w1 b1 b2 b3 A c A2 c2 p hbox HM.out)
 clear hb1 k1 k2 k3 k4 hbox hS
 refine wp_iter (gf := 95) (lb := #[.pointer (some ⟨b1, 0, none⟩), .pointer (some ⟨b2, 0, none⟩), .pointer (some ⟨b3, 0, none⟩)]) rfl (enters_of Tryz.func95 (by kernel_rfl) rfl) HIT.out (KS.refl _ _) hSn
  (fun k args W h => by obtain ⟨_, _, _, _, _, _, _, _, rfl, _⟩ := h; rfl)
  (fun k W => (∀ i, i < k → stkZ p ((cornersZ p).getD i []) = none) ∧ Blk W (w.heap.size + 1) 57 #[.int .i64 0, .slice none 0 0, .int .i64 0, .slice none 0 0, .int .i64 0, .slice none 0 0, .int .i64 0, .int .i64 0, .int .i64 0])
  (fun cd k W => cd = .ret ∧ ∃ j, stkZ p ((cornersZ p).getD k []) = some j ∧ (∀ i, i < k → stkZ p ((cornersZ p).getD i []) = none) ∧ ∃ Y cy, Blk W (w.heap.size + 1) 57 #[.int .i64 3, .slice none 0 0, .int .i64 0, .slice Y (wholeZ (rowZ p ((cornersZ p).getD k []) j)).length cy, .int .i64 1, .slice none 0 0, .int .i64 0, .int .i64 0, .int .i64 0] ∧ Rd W Y cy (wholeZ (rowZ p ((cornersZ p).getD k []) j)) ∧ ∀ ad, Y = some ad → w.heap.size ≤ ad.block)
  (fun k X Y h kw => ⟨h.1, h.2.kw kw⟩)
  (fun cd k X Y h kw => by obtain ⟨h1, j, h2, h3, L, cl, h4, h5, h6⟩ := h; exact ⟨h1, j, h2, h3, L, cl, h4.kw kw, h5.kw kw, h6⟩)
  ⟨fun i hi => by omega, BR.out⟩ ?round ?done ?stop
 case round =>
  rintro l k args W hl hk ⟨hno, hbr⟩ hks ⟨L, cl, X, cx, Y, cy, G, cg, rfl, hL, hC, hLB⟩ hlt
  have HNO := h_ hno
  have HBR := h_ hbr
  have HKS := h_ hks
  have HL := h_ hL
  have HC := h_ hC
  have hBs : Bs p ((cornersZ p).getD k []) := mem_corners.1 (by rw [List.getD, List.getElem?_eq_getElem hk]; exact List.getElem_mem hk)
  have HBS := h_ hBs
  obtain ⟨lb, hlb⟩ : ∃ lb, (cornersZ p).getD k [] = lb := ⟨_, rfl⟩
  have HLB := h_ hlb
  rw [hlb] at HL HC HBS ⊢
  clear hno hbr hks hL hC hlb hLB hBs
  gi_wp2
  refine ⟨(KeepsOthers.alloc _ _).from _, (KS.refl _ _).alloc _, fun Wb hkw hks2 => ?_⟩
  have BC := h_ (show Blk Wb W.heap.size 64 #[.slice X (lookN p lb).xs.length cx, .int .i64 (lookN p lb).xd, .slice Y (lookN p lb).ys.length cy, .int .i64 (lookN p lb).yd, .slice G (lookN p lb).gs.length cg, .int .i64 (lookN p lb).gd] from (Blk.mk' _ _ _).kw hkw)
  have kwa : KW w1.heap.size W (W.alloc (.cells #[.slice X (lookN p lb).xs.length cx, .int .i64 (lookN p lb).xd, .slice Y (lookN p lb).ys.length cy, .int .i64 (lookN p lb).yd, .slice G (lookN p lb).gs.length cg, .int .i64 (lookN p lb).gd] 64)) := .of_below ((Below.refl _ W).alloc (Nat.le_refl _) _)
  have HL2 := h_ (HL.out.kw (kwa.trans hkw))
  have HC2 := h_ (HC.out.kw (kwa.trans hkw))
  have HBR2 := h_ (HBR.out.kw (kwa.trans hkw))
  have HKS2 := h_ ((HKS.out.alloc (.cells #[.slice X (lookN p lb).xs.length cx, .int .i64 (lookN p lb).xd, .slice Y (lookN p lb).ys.length cy, .int .i64 (lookN p lb).yd, .slice G (lookN p lb).gs.length cg, .int .i64 (lookN p lb).gd] 64)).trans hks2)
  clear kwa hkw hks2
  generalize W.heap.size = bc at *
  obtain ⟨gx, gy, gg, hcn⟩ := corn_of HBS.out.hp HBS.out.hr HBS.out.hd
  have HCN := h_ hcn
  have hlen4 : lb.length ≤ 4 := by have := HBS.out.hr.len; have := HBS.out.rows4; omega
  clear hcn
  gi_wp2_with fail
  gi_loopw [13] (fun i wx => ∃ q : Nat, q ≤ lb.length ∧ i = .int .i64 q ∧ Hid (∀ i, i < q → stuckZ p lb i = false) ∧ Below Wb.heap.size Wb wx) (fun i _ => lb.length - (intOf i).toNat)
  case atStart => exact ⟨0, by omega, rfl, h_ fun i hi => by omega, Below.refl _ _⟩
  case round =>
   obtain ⟨q, hq, rfl, hst, hbel⟩ := hrel
   rename World => U
   have HU := h_ hbel
   have HKU := h_ (HKS2.out.next hbel)
   have HST := h_ hst
   have e0 := (BC.out.next hbel).cell 0
   simp at e0
   obtain ⟨p0, p1⟩ := HSP.out _ HKU.out
   have HPU := h_ (HP.out.below (HSB.out _ HKU.out))
   have HLU := h_ (HL2.out.below hbel)
   have HXU := h_ (HC2.out.x.below hbel)
   clear hst hbel
   by_cases hqlt : q < lb.length
   ·have hil : (ints lb).length = lb.length := intsN_len _
    have HIL := h_ hil
    obtain ⟨al, rfl, hcl⟩ := HLU.out.natAt (by rw [nats_ints]; rfl) (show q < (ints lb).length by rw [hil]; exact hqlt)
    rw [nats_ints] at hcl
    have hjN : lb.getD q 0 < (lookN p lb).xs.length := by rw [HCN.out.lx]; exact HBS.out.hr.lt _ (mem_getD.2 ⟨q, hqlt, rfl⟩)
    obtain ⟨ax, rfl, hcx⟩ := HXU.out.getD_at hjN
    have hal := lc_ hcl
    have hax := lc_ hcx
    have hi0 : (q : Int) < (lb.length : Int) := by omega
    have hi1 : ((lb.getD q 0 : Nat) : Int) < ((lookN p lb).xs.length : Int) := by omega
    have hlc := HLU.out.le
    rw [hil] at hlc
    have hlc2 := HLU.out.cap
    have hxc := HXU.out.le
    have hxc2 := HXU.out.cap
    have HLK := h_ (show lookE p (ints lb) = 0 from look_ints HBS.out.hp HBS.out.hr HBS.out.hd)
    have HSK := h_ (show Calls Tryz.prog 77 #[.agg #[.slice A p.costs.length c, .slice A2 p.rows.length c2], .slice (some al) lb.length cl, .int .i64 q] U fun e w' => e = .returned (.bool (stB p lb q)) ∧ Below U.heap.size U w' from by
     have := solve_stuck A c A2 c2 p (some al) (ints lb) cl q U HPU.out HLU.out HLK.out (by rw [hil]; exact hqlt)
     rwa [hil, nats_ints] at this)
    have HDEF := h_ (stuckZ_st (p := p) (l := lb) (k := q))
    have HSTN := h_ (show stuckZ p lb q = false → ∀ i, i < q + 1 → stuckZ p lb i = false from fun h i hi => by
     by_cases e : i = q
     ·subst e; exact h
     ·exact HST.out i (by omega))
    obtain ⟨xv, hxv⟩ : ∃ xv, (lookN p lb).xs.getD (lb.getD q 0) 0 = xv := ⟨_, rfl⟩
    rw [hxv] at hcx HDEF
    obtain ⟨jn, hjn⟩ : ∃ jn, lb.getD q 0 = jn := ⟨_, rfl⟩
    rw [hjn] at hcx hcl hi1 hjN
    obtain ⟨xn, hxn⟩ : ∃ xn, (lookN p lb).xs.length = xn := ⟨_, rfl⟩
    rw [hxn] at e0 hi1 hjN hxc
    clear hxv hjn hil hxn
    by_cases hneg : xv < 0
    ·cases hs : stB p lb q with
     | false =>
      rw [hs] at HSK
      have HF := h_ (HSTN.out (by rw [HDEF.out, hs]; simp))
      clear hs
      gi_wp2_with fail
      refine ⟨trivial, rfl, ?_⟩
      refine (CallsIn.inRound l (callsIn_wide.2 HSK.out)).mono ?_
      rintro e w3 ⟨rfl, hb3⟩
      have HB3 := h_ (HU.out.trans (hb3.mono HU.out.size))
      clear hb3
      gi_wp2_with fail
      go_roundw
      case rel => exact ⟨q + 1, by omega, by go_num, HF, HB3.out⟩
      case measure => simp [intOf]; omega
     | true =>
      rw [hs] at HSK
      have HTRUE := h_ (show stkZ p lb = some q from stk_at hqlt (by rw [HDEF.out, hs]; simpa using hneg) HST.out)
      clear hs
      gi_wp2_with fail
      refine ⟨trivial, rfl, ?_⟩
      refine (CallsIn.inRound l (callsIn_wide.2 HSK.out)).mono ?_
      rintro e w3 ⟨rfl, hb3⟩
      have HB3 := h_ (HU.out.trans (hb3.mono HU.out.size))
      have HK3 := h_ (HKU.out.next hb3)
      have HRW := h_ (show Calls Tryz.prog 78 #[.agg #[.slice A p.costs.length c, .slice A2 p.rows.length c2], .slice (some al) lb.length cl, .int .i64 q] w3 fun e w' => ∃ O co, e = .returned (.slice O p.rows.length co) ∧ Rd w' O co (rowZ p lb q) ∧ (∀ ad, O = some ad → w3.heap.size ≤ ad.block) ∧ Below w3.heap.size w3 w' from by
       have := solve_row A c A2 c2 p (some al) (ints lb) cl q w3 (HPU.out.below hb3) (HLU.out.below hb3) HLK.out (by rw [HIL.out]; exact hqlt)
       rwa [HIL.out, nats_ints] at this)
      have p0' := (hb3.cell (lc_ p0)).trans p0
      have p1' := (hb3.cell (lc_ p1)).trans p1
      clear hb3 hcl hcx e0 p0 p1
      gi_wp2_with fail
      refine ⟨trivial, rfl, ?_⟩
      refine (CallsIn.inRound l (callsIn_wide.2 HRW.out)).mono ?_
      rintro e w4 ⟨O, co, rfl, hO, hOn, hb4⟩
      have HB4 := h_ (HB3.out.trans (hb4.mono HB3.out.size))
      have hrl := rowZ_len p lb q
      have h4r : p.rows.length ≤ 4 := HBS.out.rows4
      have hrs : smallB 1073741824 (rowZ p lb q) = true := smallB_iff.2 fun n hn => by have := smallB_mem (row_small HBS.out hqlt) hn; omega
      have HWH := h_ (show Calls Tryz.prog 37 #[.slice O p.rows.length co] w4 (RetWh w4 (wholeZ (rowZ p lb q))) from by
       have := solve_whole O (rowZ p lb q) co w4 hO hrs (by rw [hrl]; omega)
       rwa [hrl] at this)
      clear hO hOn hb4 hrl hrs p0' p1'
      gi_wp2_with fail
      refine ⟨trivial, rfl, ?_⟩
      refine (CallsIn.inRound l (callsIn_wide.2 HWH.out)).mono ?_
      rintro e w5 ⟨O5, co5, rfl, hO5, hOn5, hb5⟩
      have HB5 := h_ (HB4.out.trans (hb5.mono HB4.out.size))
      have HO5 := h_ hO5
      have HON := h_ hOn5
      have HBR5 := h_ (HBR2.out.next HB5.out)
      have r0 : w5.cell? ⟨w.heap.size + 1, 0, none⟩ = some (.int .i64 0) := HBR5.out.cell 0
      have r1 : w5.cell? ⟨w.heap.size + 1, 1, none⟩ = some (.slice none 0 0) := HBR5.out.cell 1
      have r2 : w5.cell? ⟨w.heap.size + 1, 2, none⟩ = some (.int .i64 0) := HBR5.out.cell 2
      have r3 : w5.cell? ⟨w.heap.size + 1, 3, none⟩ = some (.slice none 0 0) := HBR5.out.cell 3
      have r4 : w5.cell? ⟨w.heap.size + 1, 4, none⟩ = some (.int .i64 0) := HBR5.out.cell 4
      have r5 : w5.cell? ⟨w.heap.size + 1, 5, none⟩ = some (.slice none 0 0) := HBR5.out.cell 5
      have r6 : w5.cell? ⟨w.heap.size + 1, 6, none⟩ = some (.int .i64 0) := HBR5.out.cell 6
      have r7 : w5.cell? ⟨w.heap.size + 1, 7, none⟩ = some (.int .i64 0) := HBR5.out.cell 7
      have r8 : w5.cell? ⟨w.heap.size + 1, 8, none⟩ = some (.int .i64 0) := HBR5.out.cell 8
      have f0 := HBR5.out.frozen 0
      have f1 := HBR5.out.frozen 1
      have f2 := HBR5.out.frozen 2
      have f3 := HBR5.out.frozen 3
      have f4 := HBR5.out.frozen 4
      have f5 := HBR5.out.frozen 5
      have f6 := HBR5.out.frozen 6
      have f7 := HBR5.out.frozen 7
      have f8 := HBR5.out.frozen 8
      clear hO5 hOn5 hb5
      gi_wp2_with fail
      refine ⟨?_, ?_, rfl, q, by rw [HLB.out]; exact HTRUE.out, HNO.out, O5, co5, ?_, ?_, fun ad e => by have := HON.out ad e; have := HB4.out.size; have := HKS2.out.size; omega⟩
      ·iterate 9 refine KeepsFrom.trans ?_ ((KeepsOthers.setCell _ _ _).from _)
       exact KeepsFrom.of_below HB5.out _
      ·iterate 9 refine KS.setCell _ _ ?_ hSr
       exact .of_below HB5.out
      ·rw [HLB.out]
       exact ((((((((HBR5.out.set0 0 _).set0 1 _).set0 2 _).set0 3 _).set0 4 _).set0 5 _).set0 6 _).set0 7 _).set0 8 _
      ·rw [HLB.out]
       iterate 9 refine Rd.setCell_out ?_ _ _ (fun ad e h => by have := HON.out ad e; have := HB4.out.size; have := HKS2.out.size; simp at h; omega)
       exact HO5.out
    ·have HF := h_ (HSTN.out (by rw [HDEF.out]; simp [hneg]))
     gi_wp2_with fail
     refine ⟨trivial, ?_⟩
     gi_wp2_with fail
     go_roundw
     case rel => exact ⟨q + 1, by omega, by go_num, HF, HU.out⟩
     case measure => simp [intOf]; omega
   ·obtain rfl : q = lb.length := by omega
    have HNN := h_ (stk_no HST.out)
    gi_wp2_with fail
    refine ⟨(KeepsFrom.of_below HU.out _), .of_below HU.out, fun i hi => ?_, HBR2.out.next HU.out⟩
    by_cases e : i = k
    ·subst e; rw [HLB.out]; exact HNN.out
    ·exact HNO.out i (by omega)
 case done =>
  rintro D W hD ⟨hno, hbr⟩ hks hK
  have HK := h_ hK
  have HBR := h_ hbr
  have HKS := h_ hks
  have HNO := h_ (st_no hno)
  have r0 : W.cell? ⟨w.heap.size + 1, 0, none⟩ = some (.int .i64 0) := HBR.out.cell 0
  have r1 : W.cell? ⟨w.heap.size + 1, 1, none⟩ = some (.slice none 0 0) := HBR.out.cell 1
  have r2 : W.cell? ⟨w.heap.size + 1, 2, none⟩ = some (.int .i64 0) := HBR.out.cell 2
  have r3 : W.cell? ⟨w.heap.size + 1, 3, none⟩ = some (.slice none 0 0) := HBR.out.cell 3
  have r4 : W.cell? ⟨w.heap.size + 1, 4, none⟩ = some (.int .i64 0) := HBR.out.cell 4
  have r5 : W.cell? ⟨w.heap.size + 1, 5, none⟩ = some (.slice none 0 0) := HBR.out.cell 5
  have r6 : W.cell? ⟨w.heap.size + 1, 6, none⟩ = some (.int .i64 0) := HBR.out.cell 6
  have r7 : W.cell? ⟨w.heap.size + 1, 7, none⟩ = some (.int .i64 0) := HBR.out.cell 7
  have r8 : W.cell? ⟨w.heap.size + 1, 8, none⟩ = some (.int .i64 0) := HBR.out.cell 8
  have f0 := HBR.out.frozen 0
  have f1 := HBR.out.frozen 1
  have f2 := HBR.out.frozen 2
  have f3 := HBR.out.frozen 3
  have f4 := HBR.out.frozen 4
  have f5 := HBR.out.frozen 5
  have f6 := HBR.out.frozen 6
  have f7 := HBR.out.frozen 7
  have f8 := HBR.out.frozen 8
  clear hno hbr hks hK
  go_wp2_with fail
  have hko : KeepsOthers W (((((((((W.setCell ⟨w.heap.size + 1, 0, none⟩ (.int .i64 0)).setCell ⟨w.heap.size + 1, 1, none⟩ (.slice none 0 0)).setCell ⟨w.heap.size + 1, 2, none⟩ (.int .i64 0)).setCell ⟨w.heap.size + 1, 3, none⟩ (.slice none 0 0)).setCell ⟨w.heap.size + 1, 4, none⟩ (.int .i64 0)).setCell ⟨w.heap.size + 1, 5, none⟩ (.slice none 0 0)).setCell ⟨w.heap.size + 1, 6, none⟩ (.int .i64 0)).setCell ⟨w.heap.size + 1, 7, none⟩ (.int .i64 0)).setCell ⟨w.heap.size + 1, 8, none⟩ (.int .i64 0)) := by
   iterate 9 refine KeepsOthers.trans ?_ (KeepsOthers.setCell _ _ _)
   exact KeepsOthers.refl _
  have hks9 : KS S w1 (((((((((W.setCell ⟨w.heap.size + 1, 0, none⟩ (.int .i64 0)).setCell ⟨w.heap.size + 1, 1, none⟩ (.slice none 0 0)).setCell ⟨w.heap.size + 1, 2, none⟩ (.int .i64 0)).setCell ⟨w.heap.size + 1, 3, none⟩ (.slice none 0 0)).setCell ⟨w.heap.size + 1, 4, none⟩ (.int .i64 0)).setCell ⟨w.heap.size + 1, 5, none⟩ (.slice none 0 0)).setCell ⟨w.heap.size + 1, 6, none⟩ (.int .i64 0)).setCell ⟨w.heap.size + 1, 7, none⟩ (.int .i64 0)).setCell ⟨w.heap.size + 1, 8, none⟩ (.int .i64 0)) := by
   iterate 9 refine KS.setCell _ _ ?_ hSr
   exact HKS.out
  have hb9 : Blk (((((((((W.setCell ⟨w.heap.size + 1, 0, none⟩ (.int .i64 0)).setCell ⟨w.heap.size + 1, 1, none⟩ (.slice none 0 0)).setCell ⟨w.heap.size + 1, 2, none⟩ (.int .i64 0)).setCell ⟨w.heap.size + 1, 3, none⟩ (.slice none 0 0)).setCell ⟨w.heap.size + 1, 4, none⟩ (.int .i64 0)).setCell ⟨w.heap.size + 1, 5, none⟩ (.slice none 0 0)).setCell ⟨w.heap.size + 1, 6, none⟩ (.int .i64 0)).setCell ⟨w.heap.size + 1, 7, none⟩ (.int .i64 0)).setCell ⟨w.heap.size + 1, 8, none⟩ (.int .i64 0)) (w.heap.size + 1) 57 #[.int .i64 0, .slice none 0 0, .int .i64 0, .slice none 0 0, .int .i64 0, .slice none 0 0, .int .i64 0, .int .i64 0, .int .i64 0] :=
   ((((((((HBR.out.set0 0 _).set0 1 _).set0 2 _).set0 3 _).set0 4 _).set0 5 _).set0 6 _).set0 7 _).set0 8 _
  have hK' := hko.same D _ HK.out rfl
  have hkw := KW.putObj (B := 0) (.deferred none) (Nat.zero_le _) hK' rfl
  have HB9 := hb9.kw hkw
  have e0 := HB9.cell 0
  have e1 := HB9.cell 1
  have e2 := HB9.cell 2
  have e3 := HB9.cell 3
  have e4 := HB9.cell 4
  have e5 := HB9.cell 5
  have e6 := HB9.cell 6
  have e7 := HB9.cell 7
  have e8 := HB9.cell 8
  simp at e0 e1 e2 e3 e4 e5 e6 e7 e8
  refine ⟨by simp, .inl ⟨_, _, rfl, run_takeDeferred hK', anV none 0 none 0 none 0 ⟨0, [], 0, [], 0, [], 0, 0, 0⟩, ?_, ?_⟩⟩
  ·simp [results, Tryz.results33, go_sem, anV, e0, e1, e2, e3, e4, e5, e6, e7, e8]
  ·refine ⟨HSB.out _ (hks9.putObj _ fun h => by have := hSn _ h; omega), none, 0, ?_, ?_⟩
   ·unfold ansN; rw [HNO.out]
   ·unfold ansN; rw [HNO.out]; exact ⟨Rd.nil _, fun ad e => by cases e⟩
 case stop =>
  rintro D cd k W hD hk ⟨rfl, j, hg, hno, L, cl, hbr, hL, hLN⟩ hks hK
  have HK := h_ hK
  have HBR := h_ hbr
  have HKS := h_ hks
  have HL := h_ hL
  have HST := h_ (st_at hk hg hno)
  clear hg hno hbr hks hK hL
  obtain ⟨lb, hlb⟩ : ∃ lb, (cornersZ p).getD k [] = lb := ⟨_, rfl⟩
  rw [hlb] at HST HL HBR
  clear hlb
  go_wp2_with fail
  have hkw := KW.putObj (B := 0) (.deferred none) (Nat.zero_le _) HK.out rfl
  have HB9 := HBR.out.kw hkw
  have e0 := HB9.cell 0
  have e1 := HB9.cell 1
  have e2 := HB9.cell 2
  have e3 := HB9.cell 3
  have e4 := HB9.cell 4
  have e5 := HB9.cell 5
  have e6 := HB9.cell 6
  have e7 := HB9.cell 7
  have e8 := HB9.cell 8
  simp at e0 e1 e2 e3 e4 e5 e6 e7 e8
  refine ⟨by simp, .inl ⟨_, _, rfl, run_takeDeferred HK.out, anV none 0 L cl none 0 (notA p (lb, j)), ?_, ?_⟩⟩
  ·simp [results, Tryz.results33, go_sem, anV, notA, e0, e1, e2, e3, e4, e5, e6, e7, e8]
  ·refine ⟨HSB.out _ (HKS.out.putObj _ fun h => by have := hSn _ h; omega), L, cl, ?_, ?_⟩
   ·unfold ansN; rw [HST.out]
   ·unfold ansN; rw [HST.out]; exact ⟨HL.out.kw hkw, hLN⟩
end Go.Proofs.YtjcdkbalhleeeaaGreatDoor

namespace Go.Proofs.YtjcdkbalhleeeaaGreatDoor
open Go.RowKit
theorem cost_spW {p : PG} {b : List Int} {l : List Nat} (hb : By p b) (h : Bs p l) (h0 : lookE p (ints l) = 0) : costsE p (ints l) b = endsE (spW p b l) ∧ costsF p (ints l) b = endsF (spW p b l) ∧ costsT p (ints l) b = endsT (spW p b l) := by
 have hm : manyB b p.costs.length 400 = true := manyB_iff.2 ⟨hb.small, hb.len⟩
 have e : costsN p (ints l) b = spW p b l := rfl
 refine ⟨?_, ?_, ?_⟩
 ·unfold costsE; rw [if_neg (by simp [h0]), if_neg (by simp [hm]), e]
 ·unfold costsF; rw [if_neg (by simp [h0]), if_neg (by simp [hm]), e]
 ·unfold costsT; rw [if_neg (by simp [h0]), if_neg (by simp [hm]), e]
set_option maxRecDepth 100000 in
theorem walk_Value (A : Option Addr) (c : Nat) (A2 : Option Addr) (c2 : Nat) (p : PG) (X Y G : Option Addr) (cx ny cy ng cg : Nat) (xs : List Int) (xd yd gd : Int) (w : World) (hp : Pg w A c A2 c2 p) (hm : mayPB p = true) (hx : Rd w X cx xs) (h0 : 0 < xs.length) (hn : p.costs.length ≤ xs.length) (hs : smallB 497664 (xs.take p.costs.length) = true) :
    Calls Tryz.prog 97 #[.agg #[.slice A p.costs.length c, .slice A2 p.rows.length c2], .agg #[.slice X xs.length cx, .int .i64 xd, .slice Y ny cy, .int .i64 yd, .slice G ng cg, .int .i64 gd]] w fun e w' =>
     e = .returned (.int .i64 (dot p.costs (xs.take p.costs.length))) ∧ Below w.heap.size w w' := by
 obtain ⟨m1, m2, m3, m4, m5, m6⟩ := mayPB_iff.1 hm
 have HV := h_ (fun u (hu : Below w.heap.size w u) => walk_Variables A c A2 c2 p X Y G cx ny cy ng cg xs xd yd gd u (hp.below hu) (hx.below hu) h0 hn)
 have hlt : (xs.take p.costs.length).length = p.costs.length := by rw [List.length_take]; omega
 have hxt : Rd w X cx (xs.take p.costs.length) := by
  refine ⟨by rw [hlt]; have := hx.le; omega, hx.cap, by rw [hlt]; have := hx.small; omega, fun hl => ?_⟩
  obtain ⟨ad, e, hc⟩ := hx.cells (by simpa using h0)
  refine ⟨ad, e, fun j u hu => hc j u ?_⟩
  rw [List.getElem?_map, List.getElem?_take] at hu
  rw [List.getElem?_map]
  split at hu
  ·exact hu
  ·simp at hu
 have HD := h_ (fun u (hu : Below w.heap.size w u) => show Calls Tryz.prog 84 #[.slice A p.costs.length c, .slice X p.costs.length cx] u (fun e w' => e = .returned (.int .i64 (dot p.costs (xs.take p.costs.length))) ∧ ∃ n, w' = u.drewN n) from by
  have := layout_Dot A p.costs c X (xs.take p.costs.length) cx 400 497664 u (hp.costs.below hu) (hxt.below hu) (by omega) (by omega) (by omega) m5 hs (by omega)
  rwa [hlt] at this)
 obtain ⟨⟨hl, hc, hsm, _⟩, ⟨hl2, hc2, hsm2, _⟩⟩ := hp
 obtain ⟨hlx, hcx, hsx, _⟩ := hx
 obtain ⟨dv, hdv⟩ : ∃ dv, dot p.costs (xs.take p.costs.length) = dv := ⟨_, rfl⟩
 rw [hdv] at HD ⊢
 clear hdv hm m3 m5 m6 hs hxt hlt
 go_enter Tryz.func97, Tryz.ntmps97
 go_upto_region 1 with fail
 obtain ⟨V1, hV1⟩ : ∃ V1, w.alloc (.cells #[.slice A p.costs.length c, .slice A2 p.rows.length c2] 28) = V1 := ⟨_, rfl⟩
 have b0 : Blk V1 w.heap.size 28 _ := hV1 ▸ Blk.mk' w _ _
 have z1 : V1.heap.size = w.heap.size + 1 := by rw [← hV1]; simp
 have k1 : Below w.heap.size w V1 := by rw [← hV1]; exact (Below.refl _ w).alloc (Nat.le_refl _) _
 rw [hV1]
 clear hV1
 obtain ⟨V, hV⟩ : ∃ V, V1.alloc (.cells #[.slice X xs.length cx, .int .i64 xd, .slice Y ny cy, .int .i64 yd, .slice G ng cg, .int .i64 gd] 64) = V := ⟨_, rfl⟩
 have B0 := h_ (show Blk V w.heap.size 28 _ from hV ▸ b0.alloc _)
 have B1 := h_ (show Blk V (w.heap.size + 1) 64 _ from by rw [← z1]; exact hV ▸ Blk.mk' V1 _ _)
 have HB := h_ (show Below w.heap.size w V by rw [← hV]; exact k1.alloc (by omega) _)
 rw [hV]
 clear hV b0 z1 k1
 clear V1
 have s0 : ∀ u : Wk V, u.1.cell? ⟨w.heap.size, 0, none⟩ = some (.slice A p.costs.length c) := fun u => (B0.out.next u.2).cell 0
 have s1 : ∀ u : Wk V, u.1.cell? ⟨w.heap.size, 1, none⟩ = some (.slice A2 p.rows.length c2) := fun u => (B0.out.next u.2).cell 1
 have c0 : ∀ u : Wk V, u.1.cell? ⟨w.heap.size + 1, 0, none⟩ = some (.slice X xs.length cx) := fun u => (B1.out.next u.2).cell 0
 have c1 : ∀ u : Wk V, u.1.cell? ⟨w.heap.size + 1, 1, none⟩ = some (.int .i64 xd) := fun u => (B1.out.next u.2).cell 1
 have c3 : ∀ u : Wk V, u.1.cell? ⟨w.heap.size + 1, 2, none⟩ = some (.slice Y ny cy) := fun u => (B1.out.next u.2).cell 2
 have c4 : ∀ u : Wk V, u.1.cell? ⟨w.heap.size + 1, 3, none⟩ = some (.int .i64 yd) := fun u => (B1.out.next u.2).cell 3
 have c5 : ∀ u : Wk V, u.1.cell? ⟨w.heap.size + 1, 4, none⟩ = some (.slice G ng cg) := fun u => (B1.out.next u.2).cell 4
 have c6 : ∀ u : Wk V, u.1.cell? ⟨w.heap.size + 1, 5, none⟩ = some (.int .i64 gd) := fun u => (B1.out.next u.2).cell 5
 have HV2 := h_ (fun u : Wk V => HV.out u.1 (HB.out.trans (u.2.mono HB.out.size)))
 have HD2 := h_ (fun u : Wk V => HD.out u.1 (HB.out.trans (u.2.mono HB.out.size)))
 clear HV HD
 refine wk_region (by kernel_rfl) (by kernel_rfl) ?_
 repeat (go_big_quiet_step (first | (go_at_call 35; exact wk_call (HV2.out _)) | (go_at_call 84; exact wk_quiet (HD2.out _))))
 refine wpQuiet_nil ?_
 rintro w2 ⟨u2, rfl⟩
 have HF := h_ (HB.out.trans (u2.2.mono HB.out.size))
 go_wp2_with fail
 go_ret
 exact ⟨rfl, HF.out⟩
end Go.Proofs.YtjcdkbalhleeeaaGreatDoor
