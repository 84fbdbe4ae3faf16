/-
  Contracts of functions and plain laws that later parts of the proof use. The conditions stand in each theorem.
-/
import Derived.Test.YtjcdkbalhleeeaaGreatDoorG09
import Derived.Test.YtjcdkbalhleeeaaGreatDoorG05
import Derived.Test.YtjcdkbalhleeeaaGreatDoorG13
import Derived.Test.YtjcdkbalhleeeaaGreatDoorG14
import Derived.Laws.BitsLemmas
import Derived.TacticsInMore
import Derived.LoopIn
import Derived.OwnWalkIn
import Derived.Shelf.RegionOpen
import Derived.Test.YtjcdkbalhleeeaaGreatDoorG10
import Derived.Test.YtjcdkbalhleeeaaGreatDoorG12
import Derived.Test.YtjcdkbalhleeeaaGreatDoorG11
namespace Go.Proofs.YtjcdkbalhleeeaaGreatDoor
open Go.RowKit

theorem i64_and1 (n : Nat) (h : n < 4611686018427387904) : bits .and .i64 (n : Int) 1 = ((n % 2 : Nat) : Int) := by
  have := (bits_nat .i64 62 (by decide) (fun n h0 h1 => IntWalk.i64_in _ (by omega)) n 1 (by omega) (by omega)).1
  rw [show ((1 : Nat) : Int) = 1 from rfl] at this
  rw [this, Nat.and_one_is_mod]
theorem bit_and (s q : Nat) (hs : s < 4611686018427387904) : bits .and .i64 ((s : Int) / 2 ^ q) 1 = if s.testBit q = true then 1 else 0 := by
  have e : (s : Int) / 2 ^ q = ((s / 2 ^ q : Nat) : Int) := by simp
  have h1 : s / 2 ^ q ≤ s := Nat.div_le_self _ _
  rw [e, i64_and1 _ (by omega), Nat.testBit_eq_decide_div_mod_eq]
  by_cases h : s / 2 ^ q % 2 = 1
  · rw [if_pos (by simpa using h), h]; rfl
  · rw [if_neg (by simpa using h), show s / 2 ^ q % 2 = 0 by omega]; rfl
/-- What the k-th round is handed. -/
def CornE (B : Nat) (p : PG) (k : Nat) (args : Array Value) (W : World) : Prop :=
  ∃ L cl X cx Y cy G cg, args = #[.slice L ((cornersZ p).getD k []).length cl, .agg #[.slice X (lookN p ((cornersZ p).getD k [])).xs.length cx, .int .i64 (lookN p ((cornersZ p).getD k [])).xd, .slice Y (lookN p ((cornersZ p).getD k [])).ys.length cy, .int .i64 (lookN p ((cornersZ p).getD k [])).yd, .slice G (lookN p ((cornersZ p).getD k [])).gs.length cg, .int .i64 (lookN p ((cornersZ p).getD k [])).gd]] ∧
    Rd W L cl (ints ((cornersZ p).getD k [])) ∧ CnN W X cx Y cy G cg (lookN p ((cornersZ p).getD k [])) ∧ ∀ ad, L = some ad → B ≤ ad.block

/-- The blocks of the iterator's boxes, and what lies below n₀. -/
structure BoxC (S : Nat → Prop) (w0 : World) (b1 b2 b3 : Nat) (A : Option Addr) (c : Nat) (A2 : Option Addr) (c2 : Nat) (p : PG) : Prop where
  s1 : S b1
  s2 : S b2
  s3 : S b3
  k1 : w0.cell? ⟨b1, 0, none⟩ = some (.int .i64 p.costs.length)
  k2 : w0.cell? ⟨b2, 0, none⟩ = some (.int .i64 p.rows.length)
  k3 : w0.cell? ⟨b3, 0, none⟩ = some (.slice A p.costs.length c)
  k4 : w0.cell? ⟨b3, 1, none⟩ = some (.slice A2 p.rows.length c2)
  pg : ∀ w, KS S w0 w → Pg w A c A2 c2 p
attribute [local go_sem] Oper.semAt_some
set_option maxRecDepth 100000 in
set_option maxHeartbeats 4000000 in
theorem corners_iter (S : Nat → Prop) (w0 : World) (b1 b2 b3 : Nat) (A : Option Addr) (c : Nat) (A2 : Option Addr) (c2 : Nat) (p : PG) (hp : BoxC S w0 b1 b2 b3 A c A2 c2 p) (hm : mayPB p = true) :
    IterC Tryz.prog 95 #[.pointer (some ⟨b1, 0, none⟩), .pointer (some ⟨b2, 0, none⟩), .pointer (some ⟨b3, 0, none⟩)] S (cornersZ p).length (CornE w0.heap.size p) w0 := by
  intro l J Jx W hW hJ hJx hY h0
  have hm' := mayPB_iff.1 hm
  obtain ⟨m1, m2, m3, m4, _⟩ := hm'
  have HY := Lib.hid hY
  have HJ := Lib.hid hJ
  have HJX := Lib.hid hJx
  have HP := Lib.hid hp
  have HW := Lib.hid hW
  have HM := Lib.hid hm
  have H0 := Lib.hid h0
  have p1 : W.cell? ⟨b1, 0, none⟩ = some (.int .i64 p.costs.length) := hW.cell hp.s1 hp.k1
  have p2 : W.cell? ⟨b2, 0, none⟩ = some (.int .i64 p.rows.length) := hW.cell hp.s2 hp.k2
  obtain ⟨N, hN⟩ : ∃ N, p.costs.length + p.rows.length = N := ⟨_, rfl⟩
  have hw1 : IntKind.i64.wrap ((p.costs.length : Int) + (p.rows.length : Int)) = (N : Int) := by rw [← hN, IntWalk.i64_in _ (by omega)]; omega
  have hN8 : N ≤ 8 := by omega
  have hM := Nat.pow_le_pow_right (n := 2) (by omega) hN8
  have hM0 := Nat.pow_pos (n := N) (show 0 < 2 by omega)
  obtain ⟨M, hMM⟩ : ∃ M : Nat, M = 2 ^ N := ⟨_, rfl⟩
  have HMM := Lib.hid hMM
  have hw2 : IntKind.i64.wrap ((2 : Int) ^ N) = (M : Int) := by
    have e : ((2 : Int) ^ N) = (M : Int) := by rw [hMM]; simp
    rw [e, IntWalk.i64_in _ (by omega)]
  rw [← hMM] at hM hM0
  replace hM : M ≤ 256 := hM
  have HNN := Lib.hid hN
  clear hY hJ hJx hp hW hm h0 hMM hN
  refine (callsIn_wide (n := 0)).1 (callsIn_of_wp Tryz.func95 rfl trivial ?_ rfl)
  simp only [Tryz.ntmps95, List.size_toArray, List.length_cons, List.length_nil, Nat.reduceAdd, Nat.reduceSub, Array.replicate_succ, Array.replicate_zero, List.push_toArray, List.append_toArray, List.nil_append, List.cons_append]
  gi_wp2_with fail
  gi_loopw [14] (fun i wx => ∃ s : Nat, i = .int .i64 s ∧ s ≤ M ∧ KS S W wx ∧ J (cornK p s).length wx) (fun i _ => M - (intOf i).toNat)
  case atStart => exact ⟨0, rfl, by omega, KS.refl _ _, H0.out⟩
  case round =>
    obtain ⟨s, rfl, hs, hks, hJs⟩ := hrel
    rename World => U
    have HK := Lib.hid hks
    have HJS := Lib.hid hJs
    have q1 : U.cell? ⟨b1, 0, none⟩ = some (.int .i64 p.costs.length) := hks.cell HP.out.s1 p1
    have q2 : U.cell? ⟨b2, 0, none⟩ = some (.int .i64 p.rows.length) := hks.cell HP.out.s2 p2
    clear hks hJs
    by_cases hlt : s < M
    · have hi0 : (s : Int) < (M : Int) := by omega
      gi_wp2_with fail
      refine wpIn_wide.2 ?_
      go_loopw [6, 20] (fun v j wx => ∃ q : Nat, q ≤ N ∧ j = .int .i64 q ∧ wx.ownsRow U.heap.size 3 1 v (bitsN q s).length ((ints (bitsN q s)).map (Value.int .i64)) ∧ Below U.heap.size U wx) (fun _ j _ => N - (intOf j).toNat)
      case atStart => exact ⟨0, by omega, rfl, World.ownsRow_nil _ _ _ _, Below.refl _ _⟩
      case round =>
        obtain ⟨q, hq, rfl, hown, hbel⟩ := hrel
        rename World => U1
        have HO := Lib.hid hown
        have HB := Lib.hid hbel
        clear hown hbel
        by_cases hqn : q < N
        · have hi1 : (q : Int) < (N : Int) := by omega
          have hbl := bits_len_le q s
          have HSUC := Lib.hid (bits_succ q s)
          have HBA := Lib.hid (bit_and s q (by omega))
          by_cases htb : s.testBit q = true
          · have hb1 : bits .and .i64 ((s : Int) / 2 ^ q) 1 = 1 := by rw [HBA.out, if_pos htb]
            have HS1 := Lib.hid (show bitsN (q + 1) s = bitsN q s ++ [q] by rw [HSUC.out, if_pos htb])
            clear htb
            go_wp2_with (at_builtin; refine list_app1 rfl (.tmp 28) (.tmp 30) _ _ _ 8 und_intS1 inf_intS1 rfl rfl U.heap.size _ _ _ _ rfl (HO.out.alloc _) _ 1 rfl (cell_new1 _ _ _) rfl (by unfold maxLen; omega) (by omega) (by have := HB.out.size; simp; omega) ?_; intro g1 cap1 w1 hown1 hg1 hat1 hlt1)
            have HB1 := Lib.hid ((HB.out.alloc HB.out.size _).grown hg1 (by have := HB.out.size; simp; omega) (fun j e => (HO.out.lt j e).1))
            have HO1 := Lib.hid hown1
            clear hown1 hg1 hat1
            go_roundw
            case rel => exact ⟨q + 1, by omega, by go_num, by rw [HS1.out, intsN_app, List.map_append, List.length_append]; exact HO1.out, HB1.out⟩
            case measure => simp [intOf]; omega
          · have hb1 : bits .and .i64 ((s : Int) / 2 ^ q) 1 = 0 := by rw [HBA.out, if_neg htb]
            have HS1 := Lib.hid (show bitsN (q + 1) s = bitsN q s by rw [HSUC.out, if_neg htb, List.append_nil])
            clear htb
            go_wp2_with fail
            go_roundw
            case rel => exact ⟨q + 1, by omega, by go_num, by rw [HS1.out]; exact HO.out, HB.out⟩
            case measure => simp [intOf]; omega
        · obtain rfl : q = N := by omega
          have hbl := bits_len_le q s
          have hil : (ints (bitsN q s)).length = (bitsN q s).length := intsN_len _
          obtain ⟨O, co, rfl, hR, hOL⟩ := Rd.of_ownv (l := ints (bitsN q s)) HO.out hil.symm (by rw [hil]; omega)
          rw [hil]
          have HR := Lib.hid hR
          have HOL := Lib.hid (fun ad (e : O = some ad) => show w0.heap.size ≤ ad.block from by have := hOL ad e; have := HW.out.size; have := HK.out.size; omega)
          clear hOL
          have zB := HB.out.size
          have q2' : U1.cell? ⟨b2, 0, none⟩ = some (.int .i64 p.rows.length) := (HB.out.cell (World.block_lt_of_cell? _ _ q2)).trans q2
          have HK1 := Lib.hid (HK.out.next HB.out)
          have HJ1 := Lib.hid (HJ.out _ _ _ HJS.out HB.out)
          have q3 : U1.cell? ⟨b3, 0, none⟩ = some (.slice A p.costs.length c) := (HW.out.trans HK1.out).cell HP.out.s3 HP.out.k3
          have q4 : U1.cell? ⟨b3, 1, none⟩ = some (.slice A2 p.rows.length c2) := (HW.out.trans HK1.out).cell HP.out.s3 HP.out.k4
          clear hR hil
          have HLK := Lib.hid (corner_Look A c A2 c2 p O (ints (bitsN q s)) co U1 (HP.out.pg _ (HW.out.trans HK1.out)) HR.out)
          rw [intsN_len] at HLK
          have HAT := Lib.hid (fun h => cornK_at (p := p) (s := s) (by rw [HNN.out, ← HMM.out]; exact hlt) h)
          have HSC := Lib.hid (cornK_succ p s)
          have hOK : okC p (bitsN q s) = (decide ((bitsN q s).length = p.rows.length) && decide (lookE p (ints (bitsN q s)) = 0)) := rfl
          have HOKC := Lib.hid hOK
          obtain ⟨lb, hlb⟩ : ∃ lb, bitsN q s = lb := ⟨_, rfl⟩
          have HLB := Lib.hid hlb
          rw [HNN.out, hlb] at HAT HSC
          rw [hlb] at HR HLK HOKC hbl HO ⊢
          clear hOK hlb HO
          obtain ⟨ce, hce⟩ : ∃ ce, lookE p (ints lb) = ce := ⟨_, rfl⟩
          rw [hce] at HLK HOKC
          have HCE := Lib.hid hce
          clear hce
          go_wp2_with fail
          gi_wp2_with fail
          refine ⟨trivial, rfl, ?_⟩
          refine (callsIn_wide.2 HLK.out).mono ?_
          rintro e w2 ⟨X, cx, Y, cy, G, cg, rfl, hX, hY, hG, hb2⟩
          have HCn := Lib.hid (CnN.mk hX hY hG)
          have H2 := Lib.hid hb2
          have r2 := (hb2.cell (World.block_lt_of_cell? _ _ q2')).trans q2'
          have lb2 := World.block_lt_of_cell? _ _ r2
          clear hX hY hG hb2 q2' q3 q4 q1 q2 p1 p2
          have HVL := (Below.refl w2.heap.size w2).alloc (Nat.le_refl _) (.cells #[.slice X (lookC p (ints lb)).xs.length cx, .int .i64 (lookC p (ints lb)).xd, .slice Y (lookC p (ints lb)).ys.length cy, .int .i64 (lookC p (ints lb)).yd, .slice G (lookC p (ints lb)).gs.length cg, .int .i64 (lookC p (ints lb)).gd] 64)
          have HK2 := Lib.hid (HK1.out.next H2.out |>.next HVL)
          have HJ2 := Lib.hid (HJ.out _ _ _ (HJ.out _ _ _ HJ1.out H2.out) HVL)
          have HE := Lib.hid (show okC p lb = true → CornE w0.heap.size p (cornK p s).length #[.slice O lb.length co, .agg #[.slice X (lookC p (ints lb)).xs.length cx, .int .i64 (lookC p (ints lb)).xd, .slice Y (lookC p (ints lb)).ys.length cy, .int .i64 (lookC p (ints lb)).yd, .slice G (lookC p (ints lb)).gs.length cg, .int .i64 (lookC p (ints lb)).gd]] (w2.alloc (.cells #[.slice X (lookC p (ints lb)).xs.length cx, .int .i64 (lookC p (ints lb)).xd, .slice Y (lookC p (ints lb)).ys.length cy, .int .i64 (lookC p (ints lb)).yd, .slice G (lookC p (ints lb)).gs.length cg, .int .i64 (lookC p (ints lb)).gd] 64)) from fun h => by
            unfold CornE
            rw [(HAT.out h).2]
            exact ⟨O, co, X, cx, Y, cy, G, cg, rfl, (HR.out.below H2.out).below HVL, HCn.out.below HVL, HOL.out⟩)
          clear HVL
          by_cases hlen : lb.length = p.rows.length
          · have hlz : (lb.length : Int) = (p.rows.length : Int) := by omega
            by_cases hc0 : ce = 0
            · have HTR := Lib.hid (show okC p lb = true by rw [HOKC.out]; simp [hlen, hc0])
              subst hc0
              obtain ⟨fn, tmps, assign, body, hy, hR⟩ := HY.out _ _ _ (HAT.out HTR.out).1 HJ2.out (HW.out.trans HK2.out) (HE.out HTR.out)
              rw [hlen] at hy
              gi_wp2_with fail
              refine ⟨rfl, ?_⟩
              refine hR.mono ?_
              rintro e W3 (⟨rfl, hJ3, hk3⟩ | ⟨rfl, hJx3⟩)
              · have HJ3 := Lib.hid hJ3
                have HK3 := Lib.hid (HK2.out.trans hk3)
                clear hJ3 hk3
                gi_wp2_with fail
                go_roundw
                case rel => exact ⟨s + 1, by go_num, by omega, HK3.out, by rw [HSC.out, if_pos HTR.out, List.length_append]; exact HJ3.out⟩
                case measure => simp [intOf]; omega
              · have HJX3 := Lib.hid hJx3
                clear hJx3
                gi_wp2_with fail
                refine bodyPost_ret (results_none rfl _ _ _) rfl ?_
                exact ⟨⟨_, rfl⟩, .inr ⟨_, (HAT.out HTR.out).1, HJX3.out⟩⟩
            · have HFA := Lib.hid (show okC p lb = false by rw [HOKC.out]; simp [hlen, hc0])
              have hcz : (ce == 0) = false := by simpa using hc0
              gi_wp2_with fail
              refine ⟨fun _ h => (by cases h), ?_⟩
              gi_wp2_with fail
              go_roundw
              case rel => exact ⟨s + 1, by go_num, by omega, HK2.out, by rw [HSC.out, if_neg (by rw [HFA.out]; simp), List.append_nil]; exact HJ2.out⟩
              case measure => simp [intOf]; omega
          · have HFA := Lib.hid (show okC p lb = false by rw [HOKC.out]; simp [hlen])
            have hlz : ¬ (lb.length : Int) = (p.rows.length : Int) := by omega
            have hlz' : ((lb.length : Int) == (p.rows.length : Int)) = false := by simp; omega
            gi_wp2_with fail
            refine ⟨fun _ h => (by cases h), ?_⟩
            gi_wp2_with fail
            go_roundw
            case rel => exact ⟨s + 1, by go_num, by omega, HK2.out, by rw [HSC.out, if_neg (by rw [HFA.out]; simp), List.append_nil]; exact HJ2.out⟩
            case measure => simp [intOf]; omega
    · obtain rfl : s = M := by omega
      gi_wp2_with fail
      go_end0
      exact ⟨⟨_, rfl⟩, .inl (by rw [← cornK_all, HNN.out, ← HMM.out]; exact HJS.out)⟩
end Go.Proofs.YtjcdkbalhleeeaaGreatDoor

namespace Go.Proofs.YtjcdkbalhleeeaaGreatDoor
open Go.RowKit

section
variable {B : Nat} {W W' : World}
theorem Blk.kw {g : Nat} {t : TypeId} {cs : Array Value} (h : Blk W g t cs) (k : KW B W W') : Blk W' g t cs := k.same _ _ h (.inr rfl)
theorem Rd.kw {A : Option Addr} {c : Nat} {l : List Int} (h : Rd W A c l) (k : KW B W W') : Rd W' A c l :=
  ⟨h.le, h.cap, h.small, fun hl => by
    obtain ⟨ad, e, hc⟩ := h.cells hl
    exact ⟨ad, e, fun j u hu => k.cell (hc j u hu)⟩⟩
theorem CnN.kw {X Y G : Option Addr} {cx cy cg : Nat} {c : CO} (h : CnN W X cx Y cy G cg c) (k : KW B W W') : CnN W' X cx Y cy G cg c := ⟨h.x.kw k, h.y.kw k, h.g.kw k⟩
end

set_option maxRecDepth 100000 in
/-- Are all columns 0 or above? -/
theorem solve_Goes (X Y G : Option Addr) (cx ny cy ng cg : Nat) (xs : List Int) (xd yd gd : Int) (w : World) (hx : Rd w X cx xs) :
    Calls Tryz.prog 56 #[.agg #[.slice X xs.length cx, .int .i64 xd, .slice Y ny cy, .int .i64 yd, .slice G ng cg, .int .i64 gd]] w fun e w' => e = .returned (.bool (nonneg xs)) ∧ Below w.heap.size w w' := by
  have HX := Lib.hid hx
  obtain ⟨hl, hc, hs, _⟩ := hx
  go_enter Tryz.func56, Tryz.ntmps56
  go_wp2_with fail
  have BC := Lib.hid (Blk.mk' w 64 #[.slice X xs.length cx, .int .i64 xd, .slice Y ny cy, .int .i64 yd, .slice G ng cg, .int .i64 gd])
  have HB := Lib.hid ((Below.refl w.heap.size w).alloc (Nat.le_refl _) (.cells #[.slice X xs.length cx, .int .i64 xd, .slice Y ny cy, .int .i64 yd, .slice G ng cg, .int .i64 gd] 64))
  generalize (w.alloc (.cells #[.slice X xs.length cx, .int .i64 xd, .slice Y ny cy, .int .i64 yd, .slice G ng cg, .int .i64 gd] 64)) = W at *
  go_loopw [9] (fun i wx => wx = W ∧ ∃ k : Nat, k ≤ xs.length ∧ i = .int .i64 k ∧ Hid (∀ j, j < k → 0 ≤ xs.getD j 0)) (fun i _ => xs.length - (intOf i).toNat)
  case atStart => exact ⟨rfl, 0, by omega, rfl, Lib.hid fun j hj => by omega⟩
  case round =>
    obtain ⟨rfl, k, hk, rfl, hall⟩ := hrel
    rename World => W
    by_cases hlt : k < xs.length
    · obtain ⟨ax, rfl, hcx⟩ := (HX.out.below HB.out).getD_at (k := k) hlt
      have hax := World.block_lt_of_cell? _ _ hcx
      have hi0 : (k : Int) < (xs.length : Int) := by omega
      by_cases hneg : xs.getD k 0 < 0
      · have HF := Lib.hid (show nonneg xs = false by
          rw [Bool.eq_false_iff]
          intro h
          have := nonneg_at h k
          omega)
        obtain ⟨xv, hxv⟩ : ∃ xv, xs.getD k 0 = xv := ⟨_, rfl⟩
        rw [hxv] at hcx hneg
        clear hxv hall
        go_wp2_with fail
        go_ret
        exact ⟨by rw [HF.out]; rfl, HB.out⟩
      · have HA := Lib.hid (show ∀ j, j < k + 1 → 0 ≤ xs.getD j 0 from fun j hj => by
          by_cases e : j = k
          · subst e; omega
          · exact hall.out j (by omega))
        obtain ⟨xv, hxv⟩ : ∃ xv, xs.getD k 0 = xv := ⟨_, rfl⟩
        rw [hxv] at hcx hneg
        clear hxv hall
        go_wp2_with fail
        go_roundw
        case rel => exact ⟨trivial, k + 1, by omega, by go_num, HA⟩
        case measure => simp [intOf]; omega
    · obtain rfl : k = xs.length := by omega
      have HT := Lib.hid (show nonneg xs = true from nonneg_of fun j => by
        by_cases hj : j < xs.length
        · exact hall.out j hj
        · rw [List.getD, List.getElem?_eq_none (by omega)]; simp)
      clear hall
      go_wp2_with fail
      go_ret
      exact ⟨by rw [HT.out]; rfl, HB.out⟩

/-- The iterator's value is handed back. -/
def RetC (w : World) (A : Option Addr) (c : Nat) (A2 : Option Addr) (c2 : Nat) (p : PG) (e : Ending) (w' : World) : Prop :=
  ∃ b1 b2 b3, e = .returned (.func (.func 95) #[] #[.pointer (some ⟨b1, 0, none⟩), .pointer (some ⟨b2, 0, none⟩), .pointer (some ⟨b3, 0, none⟩)]) ∧
    w.heap.size ≤ b1 ∧ w.heap.size ≤ b2 ∧ w.heap.size ≤ b3 ∧ w'.cell? ⟨b1, 0, none⟩ = some (.int .i64 p.costs.length) ∧ w'.cell? ⟨b2, 0, none⟩ = some (.int .i64 p.rows.length) ∧
    w'.cell? ⟨b3, 0, none⟩ = some (.slice A p.costs.length c) ∧ w'.cell? ⟨b3, 1, none⟩ = some (.slice A2 p.rows.length c2) ∧ Below w.heap.size w w'
theorem two_boxes (V : World) (x y : Value) (t : TypeId) : ((V.alloc (.cells #[x] t)).alloc (.cells #[y] t)).drew.cell? ⟨V.heap.size, 0, none⟩ = some x ∧ ((V.alloc (.cells #[x] t)).alloc (.cells #[y] t)).drew.cell? ⟨V.heap.size + 1, 0, none⟩ = some y ∧
    (∀ q v, V.cell? q = some v → ((V.alloc (.cells #[x] t)).alloc (.cells #[y] t)).drew.cell? q = some v) ∧ Below V.heap.size V ((V.alloc (.cells #[x] t)).alloc (.cells #[y] t)).drew := by
  have hb : Below V.heap.size V ((V.alloc (.cells #[x] t)).alloc (.cells #[y] t)).drew := (((Below.refl _ V).alloc (Nat.le_refl _) _).alloc (by simp) _).drew
  refine ⟨((Blk.mk' V t #[x]).alloc _).cell 0, ?_, fun q v hq => (hb.cell (World.block_lt_of_cell? _ _ hq)).trans hq, hb⟩
  have := Blk.mk' (V.alloc (.cells #[x] t)) t #[y]
  rw [World.size_alloc] at this
  exact this.cell 0
set_option maxRecDepth 100000 in
theorem solve_Corners (A : Option Addr) (c : Nat) (A2 : Option Addr) (c2 : Nat) (p : PG) (w : World) :
    Calls Tryz.prog 55 #[.agg #[.slice A p.costs.length c, .slice A2 p.rows.length c2]] w (RetC w A c A2 c2 p) := by
  unfold RetC
  generalize p.costs.length = n
  generalize p.rows.length = m
  go_enter Tryz.func55, Tryz.ntmps55
  go_upto_region 1 with fail
  have BP := Lib.hid (Blk.mk' w 28 #[.slice A n c, .slice A2 m c2])
  have HB := Lib.hid ((Below.refl w.heap.size w).alloc (Nat.le_refl _) (.cells #[.slice A n c, .slice A2 m c2] 28))
  have lV : (w.alloc (.cells #[.slice A n c, .slice A2 m c2] 28)).heap.size = w.heap.size + 1 := by simp
  have lw : w.heap.size < (w.alloc (.cells #[.slice A n c, .slice A2 m c2] 28)).heap.size := by omega
  have LV := Lib.hid lV
  clear lV
  generalize (w.alloc (.cells #[.slice A n c, .slice A2 m c2] 28)) = V at *
  have p0 : V.cell? ⟨w.heap.size, 0, none⟩ = some (.slice A n c) := BP.out.cell 0
  have p1 : V.cell? ⟨w.heap.size, 1, none⟩ = some (.slice A2 m c2) := BP.out.cell 1
  go_region
  all_goals go_wp2_with fail
  all_goals go_ret
  · obtain ⟨k1, k2, k3, k4⟩ := two_boxes V (.int .i64 n) (.int .i64 m) 3
    exact ⟨_, _, _, rfl, by omega, by omega, Nat.le_refl _, k1, k2, k3 _ _ p0, k3 _ _ p1, HB.out.trans (k4.mono (by omega))⟩
  · obtain ⟨k1, k2, k3, k4⟩ := two_boxes V (.int .i64 m) (.int .i64 n) 3
    exact ⟨_, _, _, rfl, by omega, by omega, Nat.le_refl _, k2, k1, k3 _ _ p0, k3 _ _ p1, HB.out.trans (k4.mono (by omega))⟩

/-- A corner's columns are handed back, or none. -/
def RetBg (w : World) (p : PG) (e : Ending) (w' : World) : Prop :=
  Below w.heap.size w w' ∧ (begZ p = none → e = .returned (.slice none 0 0)) ∧ ∀ l, begZ p = some l → ∃ L cl, e = .returned (.slice L l.length cl) ∧ Rd w' L cl (ints l)
theorem beg_at {p : PG} {k : Nat} (hk : k < (cornersZ p).length) (hg : nonneg (lookN p ((cornersZ p).getD k [])).xs = true) (hn : ∀ i, i < k → nonneg (lookN p ((cornersZ p).getD i [])).xs = false) : begZ p = some ((cornersZ p).getD k []) := by
  unfold begZ
  have e : (cornersZ p).getD k [] = (cornersZ p)[k] := by simp [List.getD, List.getElem?_eq_getElem hk]
  rw [List.find?_eq_some_iff_getElem]
  refine ⟨hg, k, hk, e.symm, fun j hj => ?_⟩
  have := hn j hj
  rw [List.getD, List.getElem?_eq_getElem (by omega), Option.getD_some] at this
  simp [this]
theorem beg_no {p : PG} (hn : ∀ i, i < (cornersZ p).length → nonneg (lookN p ((cornersZ p).getD i [])).xs = false) : begZ p = none := by
  unfold begZ
  rw [List.find?_eq_none]
  intro x hx
  obtain ⟨j, hj, rfl⟩ := List.mem_iff_getElem.1 hx
  have := hn j hj
  rw [List.getD, List.getElem?_eq_getElem hj, Option.getD_some] at this
  simp [this]
attribute [local go_sem] Oper.semAt_some
set_option maxRecDepth 100000 in
set_option maxHeartbeats 2000000 in
theorem solve_begin (A : Option Addr) (c : Nat) (A2 : Option Addr) (c2 : Nat) (p : PG) (w : World) (hp : Pg w A c A2 c2 p) (hm : mayPB p = true) :
    Calls Tryz.prog 32 #[.agg #[.slice A p.costs.length c, .slice A2 p.rows.length c2]] w (RetBg w p) := by
  have HP := Lib.hid hp
  have HM := Lib.hid hm
  clear hp hm
  refine calls_of_marks Tryz.func32 rfl ?_
  simp only [Tryz.ntmps32, List.size_toArray, List.length_cons, List.length_nil, Nat.reduceAdd, Nat.reduceSub, Array.replicate_succ, Array.replicate_zero, List.push_toArray, List.append_toArray, List.nil_append, List.cons_append]
  go_wp2_with fail
  refine (solve_Corners A c A2 c2 p _).mono ?_
  rintro e w1 ⟨b1, b2, b3, rfl, l1, l2, l3, k1, k2, k3, k4, hb1⟩
  go_wp2_with fail
  have BR := Lib.hid (show Blk w1 (w.heap.size + 1) 51 #[.slice none 0 0] from Blk.next (by
    have := Blk.mk' (w.alloc (.cells #[.slice A p.costs.length c, .slice A2 p.rows.length c2] 28)) 51 #[.slice none 0 0]
    simpa using this) hb1)
  have HB1 := Lib.hid (show Below w.heap.size w w1 from (((Below.refl w.heap.size w).alloc (Nat.le_refl _) _).alloc (by simp) _).trans (hb1.mono (by simp; omega)))
  have z1 := hb1.size
  simp only [World.size_alloc] at z1 l1 l2 l3
  have q1 := World.block_lt_of_cell? _ _ k1
  have q2 := World.block_lt_of_cell? _ _ k2
  have q3 := World.block_lt_of_cell? _ _ k3
  simp only at q1 q2 q3
  obtain ⟨S, hS⟩ : ∃ S : Nat → Prop, S = fun i => i < w.heap.size ∨ i = b1 ∨ i = b2 ∨ i = b3 := ⟨_, rfl⟩
  have HS := Lib.hid hS
  have hbox : BoxC S w1 b1 b2 b3 A c A2 c2 p := by
    subst hS
    exact ⟨.inr (.inl rfl), .inr (.inr (.inl rfl)), .inr (.inr (.inr rfl)), k1, k2, k3, k4, fun W h => HP.out.below (HB1.out.trans (h.below (fun i hi => .inl hi) HB1.out.size))⟩
  have hSn : ∀ i, S i → i < w1.heap.size := by
    subst hS
    rintro i (h | rfl | rfl | rfl) <;> omega
  have hSr : ¬ S (w.heap.size + 1) := by
    subst hS
    rintro (h | h | h | h) <;> omega
  have HSB := Lib.hid (show ∀ W, KS S w1 W → Below w.heap.size w W from fun W h => by
    subst hS
    exact HB1.out.trans (h.below (fun i hi => .inl hi) HB1.out.size))
  have HIT := Lib.hid (corners_iter S w1 b1 b2 b3 A c A2 c2 p hbox HM.out)
  clear hb1 k1 k2 k3 k4 hbox hS
  refine wp_iter (gf := 95) (lb := #[.pointer (some ⟨b1, 0, none⟩), .pointer (some ⟨b2, 0, none⟩), .pointer (some ⟨b3, 0, none⟩)]) rfl (enters_of Tryz.func95 (by kernel_rfl) rfl) HIT.out (KS.refl _ _) hSn
    (fun k args W h => by obtain ⟨_, _, _, _, _, _, _, _, rfl, _⟩ := h; rfl)
    (fun k W => (∀ i, i < k → nonneg (lookN p ((cornersZ p).getD i [])).xs = false) ∧ Blk W (w.heap.size + 1) 51 #[.slice none 0 0])
    (fun cd k W => cd = .ret ∧ nonneg (lookN p ((cornersZ p).getD k [])).xs = true ∧ (∀ i, i < k → nonneg (lookN p ((cornersZ p).getD i [])).xs = false) ∧ ∃ L cl, Blk W (w.heap.size + 1) 51 #[.slice L ((cornersZ p).getD k []).length cl] ∧ Rd W L cl (ints ((cornersZ p).getD k [])))
    (fun k X Y h kw => ⟨h.1, h.2.kw kw⟩)
    (fun cd k X Y h kw => by obtain ⟨h1, h2, h3, L, cl, h4, h5⟩ := h; exact ⟨h1, h2, h3, L, cl, h4.kw kw, h5.kw kw⟩)
    ⟨fun i hi => by omega, BR.out⟩ ?round ?done ?stop
  case round =>
    rintro l k args W hl hk ⟨hno, hbr⟩ hks ⟨L, cl, X, cx, Y, cy, G, cg, rfl, hL, hC, hLB⟩ hlt
    have HNO := Lib.hid hno
    have HBR := Lib.hid hbr
    have HKS := Lib.hid hks
    have HL := Lib.hid hL
    have HC := Lib.hid hC
    have HLO := Lib.hid hLB
    obtain ⟨lb, hlb⟩ : ∃ lb, (cornersZ p).getD k [] = lb := ⟨_, rfl⟩
    have HLB := Lib.hid hlb
    rw [hlb] at HL HC ⊢
    clear hno hbr hks hL hC hlb hLB
    gi_wp2
    refine ⟨(KeepsOthers.alloc _ _).from _, (KS.refl _ _).alloc _, fun Wb hkw hks2 => ?_⟩
    have BC := Lib.hid (show Blk Wb W.heap.size 64 #[.slice X (lookN p lb).xs.length cx, .int .i64 (lookN p lb).xd, .slice Y (lookN p lb).ys.length cy, .int .i64 (lookN p lb).yd, .slice G (lookN p lb).gs.length cg, .int .i64 (lookN p lb).gd] from (Blk.mk' _ _ _).kw hkw)
    have kwa : KW w1.heap.size W (W.alloc (.cells #[.slice X (lookN p lb).xs.length cx, .int .i64 (lookN p lb).xd, .slice Y (lookN p lb).ys.length cy, .int .i64 (lookN p lb).yd, .slice G (lookN p lb).gs.length cg, .int .i64 (lookN p lb).gd] 64)) := .of_below ((Below.refl _ W).alloc (Nat.le_refl _) _)
    have HL2 := Lib.hid (HL.out.kw (kwa.trans hkw))
    have HC2 := Lib.hid (HC.out.kw (kwa.trans hkw))
    have HBR2 := Lib.hid (HBR.out.kw (kwa.trans hkw))
    clear kwa hkw hks2
    generalize W.heap.size = bc at *
    have e0 := BC.out.cell 0
    have e1 := BC.out.cell 1
    have e2 := BC.out.cell 2
    have e3 := BC.out.cell 3
    have e4 := BC.out.cell 4
    have e5 := BC.out.cell 5
    simp at e0 e1 e2 e3 e4 e5
    have r0 : Wb.cell? ⟨w.heap.size + 1, 0, none⟩ = some (.slice none 0 0) := HBR2.out.cell 0
    have r1 := HBR2.out.frozen 0
    have HGO := Lib.hid (solve_Goes X Y G cx (lookN p lb).ys.length cy (lookN p lb).gs.length cg (lookN p lb).xs (lookN p lb).xd (lookN p lb).yd (lookN p lb).gd Wb HC2.out.x)
    cases hg : nonneg (lookN p lb).xs with
    | false =>
      rw [hg] at HGO
      have HG := Lib.hid hg
      clear hg
      gi_wp2_with fail
      refine ⟨trivial, rfl, ?_⟩
      refine (CallsIn.inRound l (callsIn_wide.2 HGO.out)).mono ?_
      rintro e w3 ⟨rfl, hb3⟩
      gi_wp2_with fail
      refine ⟨(KeepsFrom.of_below hb3 _), .of_below hb3, fun i hi => ?_, HBR2.out.next hb3⟩
      by_cases e : i = k
      · subst e; rw [HLB.out]; exact HG.out
      · exact HNO.out i (by omega)
    | true =>
      rw [hg] at HGO
      have HG := Lib.hid hg
      clear hg
      gi_wp2_with fail
      refine ⟨trivial, rfl, ?_⟩
      refine (CallsIn.inRound l (callsIn_wide.2 HGO.out)).mono ?_
      rintro e w3 ⟨rfl, hb3⟩
      have r0' : w3.cell? ⟨w.heap.size + 1, 0, none⟩ = some (.slice none 0 0) := (HBR2.out.next hb3).cell 0
      have r1' := (HBR2.out.next hb3).frozen 0
      gi_wp2_with fail
      refine ⟨(KeepsFrom.of_below hb3 _).trans ((KeepsOthers.setCell _ _ _).from _), (KS.of_below hb3).setCell _ _ hSr, rfl, by rw [HLB.out]; exact HG.out, HNO.out, L, cl, ?_, ?_⟩
      · rw [HLB.out]; exact (HBR2.out.next hb3).set0 0 _
      · rw [HLB.out]; exact (HL2.out.below hb3).setCell_out _ _ (fun ad e q => by have := HLO.out ad e; simp at q; omega)
  case done =>
    rintro D W hD ⟨hno, hbr⟩ hks hK
    have HK := Lib.hid hK
    have HBR := Lib.hid hbr
    have HKS := Lib.hid hks
    have HNO := Lib.hid (beg_no hno)
    have r0 : W.cell? ⟨w.heap.size + 1, 0, none⟩ = some (.slice none 0 0) := hbr.cell 0
    have r1 := hbr.frozen 0
    clear hno hbr hks hK
    go_wp2_with fail
    have hK' := (KeepsOthers.setCell W ⟨w.heap.size + 1, 0, none⟩ (.slice none 0 0)).same D _ HK.out rfl
    have hkw := KW.putObj (B := 0) (.deferred none) (Nat.zero_le _) hK' rfl
    have hc5 := ((HBR.out.set0 0 (.slice none 0 0)).kw hkw).cell 0
    simp at hc5
    refine ⟨by simp, .inl ⟨_, _, rfl, run_takeDeferred hK', .slice none 0 0, ?_, HSB.out _ ((HKS.out.setCell _ _ hSr).putObj _ fun h => by have := hSn _ h; omega), fun _ => rfl, fun l h => by rw [HNO.out] at h; cases h⟩⟩
    simp [results, Tryz.results32, go_sem, hc5]
  case stop =>
    rintro D cd k W hD hk ⟨rfl, hg, hno, L, cl, hbr, hL⟩ hks hK
    have HK := Lib.hid hK
    have HBR := Lib.hid hbr
    have HKS := Lib.hid hks
    have HL := Lib.hid hL
    have HBG := Lib.hid (beg_at hk hg hno)
    clear hg hno hbr hks hK hL
    obtain ⟨lb, hlb⟩ : ∃ lb, (cornersZ p).getD k [] = lb := ⟨_, rfl⟩
    rw [hlb] at HBG HL HBR
    clear hlb
    go_wp2_with fail
    have hkw := KW.putObj (B := 0) (.deferred none) (Nat.zero_le _) HK.out rfl
    have hc5 := (HBR.out.kw hkw).cell 0
    simp at hc5
    refine ⟨by simp, .inl ⟨_, _, rfl, run_takeDeferred HK.out, .slice L lb.length cl, ?_, ?_⟩⟩
    · simp [results, Tryz.results32, go_sem, hc5]
    · refine ⟨HSB.out _ (HKS.out.putObj _ fun h => by have := hSn _ h; omega), fun h => ?_, fun l h => ?_⟩
      · rw [HBG.out] at h; cases h
      · rw [HBG.out] at h
        injection h with h
        subst h
        exact ⟨L, cl, rfl, HL.out.kw hkw⟩
end Go.Proofs.YtjcdkbalhleeeaaGreatDoor

namespace Go.Proofs.YtjcdkbalhleeeaaGreatDoor
open Go.RowKit

theorem wholeG_max (l : List Int) : max ((comm 0 l : Nat) : Int) 1 = wholeG l := by
  unfold wholeG
  split <;> omega
/-- A point with whole numbers is handed back. -/
def RetWh (w : World) (l : List Int) (e : Ending) (w' : World) : Prop :=
  ∃ O co, e = .returned (.agg #[.slice O l.length co, .int .i64 1]) ∧ Rd w' O co l ∧ (∀ ad, O = some ad → w.heap.size ≤ ad.block) ∧ Below w.heap.size w w'
set_option maxRecDepth 100000 in
set_option maxHeartbeats 2000000 in
theorem solve_whole (A : Option Addr) (l : List Int) (c : Nat) (w : World) (hr : Rd w A c l) (hs : smallB 1073741824 l = true) (h8 : l.length ≤ 100) :
    Calls Tryz.prog 37 #[.slice A l.length c] w (RetWh w (wholeZ l)) := by
  have HR := Lib.hid hr
  have HS := Lib.hid hs
  obtain ⟨hl, hc, hsm, _⟩ := hr
  have HZL := Lib.hid (wholeZ_len l)
  clear hs
  go_enter Tryz.func37, Tryz.ntmps37
  go_wp2_with fail
  have BR := Lib.hid (Blk.mk' w 53 #[.slice none 0 0, .int .i64 0])
  have HW := Lib.hid ((Below.refl w.heap.size w).alloc (Nat.le_refl _) (.cells #[.slice none 0 0, .int .i64 0] 53))
  generalize (w.alloc (.cells #[.slice none 0 0, .int .i64 0] 53)) = W at *
  go_loopw [3, 11] (fun g i wx => ∃ k : Nat, k ≤ l.length ∧ i = .int .i64 k ∧ g = .int .i64 (comm 0 (l.take k)) ∧ Below W.heap.size W wx) (fun _ i _ => l.length - (intOf i).toNat)
  case atStart => exact ⟨0, by omega, rfl, rfl, Below.refl _ _⟩
  case round =>
    obtain ⟨k, hk, rfl, rfl, hbel⟩ := hrel
    rename World => U
    have HU := Lib.hid hbel
    have HB := Lib.hid (HW.out.trans (hbel.mono HW.out.size))
    clear hbel
    by_cases hlt : k < l.length
    · obtain ⟨ad, rfl, hcl⟩ := (HR.out.below HB.out).getD_at (k := k) hlt
      have hal := World.block_lt_of_cell? _ _ hcl
      have hi0 : (k : Int) < (l.length : Int) := by omega
      have hx := (smallB_getD (m := 1073741824) (by omega)).1 HS.out k
      have hcb : comm 0 (l.take k) ≤ 1073741824 := comm_bound _ _ _ (by omega) fun x hx => by have := smallB_mem HS.out (List.mem_of_mem_take hx); omega
      have HT := Lib.hid (comm_take 0 hlt)
      have HG0 := Lib.hid (show l[k] = l.getD k 0 by simp [List.getD, List.getElem?_eq_getElem hlt])
      obtain ⟨xv, hxv⟩ : ∃ xv, l.getD k 0 = xv := ⟨_, rfl⟩
      rw [hxv] at hcl hx
      have HXV := Lib.hid hxv
      clear hxv
      obtain ⟨g0, hg0⟩ : ∃ g0, comm 0 (l.take k) = g0 := ⟨_, rfl⟩
      rw [hg0] at hcb HT ⊢
      have HG1 := Lib.hid hg0
      clear hg0
      have hw1 : IntKind.i64.wrap (-xv) = -xv := IntWalk.i64_in _ (by omega)
      go_wp2_with fail
      rw [show max xv (-xv) = ((xv.natAbs : Nat) : Int) by omega]
      have hxa : xv.natAbs ≤ 1073741824 := by omega
      go_loopw [3, 5] (fun x y wx => ∃ a b : Nat, a ≤ 1073741824 ∧ b ≤ 1073741824 ∧ Hid (Nat.gcd a b = Nat.gcd g0 xv.natAbs) ∧ x = .int .i64 a ∧ y = .int .i64 b ∧ Below U.heap.size U wx) (fun _ y _ => (intOf y).toNat)
      case atStart => exact ⟨g0, xv.natAbs, hcb, hxa, Lib.hid rfl, rfl, rfl, Below.refl _ _⟩
      case round =>
        obtain ⟨a, b, ha, hb, hg, rfl, rfl, hbel⟩ := hrel
        rename World => U1
        have HU1 := Lib.hid hbel
        clear hbel
        by_cases h0 : b = 0
        · subst h0
          have HGG := Lib.hid (show a = Nat.gcd g0 xv.natAbs by rw [← hg.out]; simp)
          clear hg
          go_wp2_with fail
          go_roundw
          case rel => exact ⟨k + 1, by omega, by go_num, by rw [HT.out, HG0.out, HXV.out, ← HGG.out], HU.out.trans (HU1.out.mono HU.out.size)⟩
          case measure => simp [intOf]; omega
        · have hz' : ((b : Int) != 0) = true := by simp; omega
          have hm : a % b < b := Nat.mod_lt _ (by omega)
          go_wp2_with fail
          go_region
          all_goals
            go_wp2_with fail
            go_roundw
            case rel => exact ⟨b, a % b, hb, by omega, Lib.hid (by rw [← hg.out, Nat.gcd_comm a b, Nat.gcd_rec b a, Nat.gcd_comm]), rfl, by simp, HU1.out.drew⟩
            case measure => simp [intOf]; omega
    · obtain rfl : k = l.length := by omega
      rw [List.take_length]
      have hwg := wholeG_pos l
      have HMX := Lib.hid (wholeG_max l)
      have hgb : wholeG l ≤ 1073741824 := by
        have hcb : comm 0 l ≤ 1073741824 := comm_bound _ _ _ (by omega) fun x hx => by have := smallB_mem HS.out hx; omega
        unfold wholeG; split <;> omega
      go_wp2_with fail
      have BQ := Lib.hid (Blk.mk' U 53 #[.slice none 0 0, .int .i64 1])
      have BR2 := Lib.hid ((BR.out.next HU.out).alloc (.cells #[.slice none 0 0, .int .i64 1] 53))
      have lR := BR.out.lt
      have zU := HU.out.size
      have HV := Lib.hid ((Below.refl U.heap.size U).alloc (Nat.le_refl _) (.cells #[.slice none 0 0, .int .i64 1] 53))
      have lV : U.heap.size + 1 ≤ (U.alloc (.cells #[.slice none 0 0, .int .i64 1] 53)).heap.size := by simp
      generalize (U.alloc (.cells #[.slice none 0 0, .int .i64 1] 53)) = V at *
      obtain ⟨g0, hg0⟩ : ∃ g0 : Int, g0 = (comm 0 l : Nat) := ⟨_, rfl⟩
      rw [← hg0] at HMX ⊢
      clear hg0
      obtain ⟨zs, hzs⟩ : ∃ zs, wholeZ l = zs := ⟨_, rfl⟩
      have HZS := Lib.hid hzs
      rw [hzs] at HZL ⊢
      go_loopw [29] (fun i wx => ∃ (k : Nat) (v : Value), k ≤ l.length ∧ i = .int .i64 k ∧ Blk wx U.heap.size 53 #[v, .int .i64 1] ∧ Blk wx w.heap.size 53 #[.slice none 0 0, .int .i64 0] ∧ wx.ownsRow (U.heap.size + 1) 2 1 v k ((zs.take k).map (Value.int .i64)) ∧ Below U.heap.size U wx) (fun i _ => l.length - (intOf i).toNat)
      case atStart => exact ⟨0, _, by omega, rfl, BQ.out, BR2.out, World.ownsRow_nil _ _ _ _, HV.out⟩
      case round =>
        obtain ⟨k, v, hk, rfl, hq, hbr, hown, hbel⟩ := hrel
        rename World => U2
        have HQ := Lib.hid hq
        have HBR := Lib.hid hbr
        have HO := Lib.hid hown
        have HU2 := Lib.hid hbel
        have z2 := hbel.size
        have lq := hq.lt
        clear hq hbr hown hbel
        by_cases hlt : k < l.length
        · obtain ⟨ad, rfl, hcl⟩ := (((HR.out.below HW.out).below HU.out).below HU2.out).getD_at (k := k) hlt
          have hal := World.block_lt_of_cell? _ _ hcl
          have hi0 : (k : Int) < (l.length : Int) := by omega
          have hx := (smallB_getD (m := 1073741824) (by omega)).1 HS.out k
          have HTK := Lib.hid (show (zs.take (k + 1)).map (Value.int .i64) = (zs.take k).map (Value.int .i64) ++ [Value.int .i64 ((l.getD k 0).tdiv (wholeG l))] by
            have hk' : k < zs.length := by rw [HZL.out]; exact hlt
            rw [List.take_succ_eq_append_getElem hk', List.map_append]
            have : zs[k] = (l.getD k 0).tdiv (wholeG l) := by
              have : zs[k] = zs.getD k 0 := by simp [List.getD, List.getElem?_eq_getElem hk']
              rw [this, ← HZS.out]
              unfold wholeZ
              simp [List.getD, List.getElem?_map, List.getElem?_eq_getElem hlt]
            rw [this]; rfl)
          obtain ⟨xv, hxv⟩ : ∃ xv, l.getD k 0 = xv := ⟨_, rfl⟩
          rw [hxv] at hcl hx HTK
          clear hxv
          have hg1 : 0 < max g0 1 := by omega
          obtain ⟨hq3, hq4⟩ := tdiv_bound 4611686018427387904 xv (max g0 1) (by omega) (by omega)
          have hz : ¬ max g0 1 = 0 := by omega
          have hw2 : IntKind.i64.wrap (xv.tdiv (max g0 1)) = xv.tdiv (max g0 1) := IntWalk.i64_in _ (by omega)
          have hq0' : U2.cell? ⟨U.heap.size, 0, none⟩ = some v := HQ.out.cell 0
          have hqf' := HQ.out.frozen 0
          go_upto_region 13 with fail
          go_region_law (refine step_app1 rfl (.tmp 34) (.tmp 39) _ _ _ 8 und_i64s inf_i64 rfl rfl _ v k _ _ (by simp [Act.eval]) ((HO.out.drew).alloc _) _ 1 (by simp [Act.eval]) (cell_new1 _ _ _) rfl (by unfold maxLen; omega) (by omega) (by simp; omega) ?_; intro g cap w1 hown1 hg1 hat hlt1; have hB1 := ((HQ.out.drew).alloc _).grown hg1 (own_ne HO.out (by omega)); have hq0 : w1.cell? ⟨U.heap.size, 0, none⟩ = some v := hB1.cell 0; have hqf := hB1.frozen 0)
          all_goals
            have HB1 := Lib.hid hB1
            have HW1 := Lib.hid hown1
            have HG1 := Lib.hid (by assumption : World.grownBy _ w1 _)
            clear hB1 hown1 hq0 hqf
            go_wp2_with fail
            go_roundw
            case rel =>
              have hb2 : Below U.heap.size U w1 := (((HU2.out.drew).alloc (by have := HU2.out.size; simp; omega) _).grown HG1.out (by have := HU2.out.size; simp; omega) (own_ge HO.out (by omega)))
              refine ⟨k + 1, _, by omega, by go_num, HB1.out.set0 0 _, (((HBR.out.drew).alloc _).grown HG1.out (own_ne HO.out (by omega))).far _ (by simp; omega), ?_, hb2.setCell (by simp) _⟩
              rw [HTK.out, ← HMX.out]
              exact ownsRow_setCell_below HW1.out (by simp) _
            case measure => simp [intOf]; omega
        · obtain rfl : k = l.length := by omega
          have hown := HO.out
          rw [← HZL.out, List.take_length] at hown
          obtain ⟨A', c', rfl, hRd, hA'⟩ := Rd.of_ownv hown rfl (by rw [HZL.out]; omega)
          have HRD := Lib.hid hRd
          have HA := Lib.hid hA'
          rw [HZL.out] at HQ
          have hp0 : U2.cell? ⟨U.heap.size, 0, none⟩ = some (.slice A' l.length c') := HQ.out.cell 0
          have hp1 : U2.cell? ⟨U.heap.size, 1, none⟩ = some (.int .i64 1) := HQ.out.cell 1
          have hr0 : U2.cell? ⟨w.heap.size, 0, none⟩ = some (.slice none 0 0) := HBR.out.cell 0
          have hr1 : U2.cell? ⟨w.heap.size, 1, none⟩ = some (.int .i64 0) := HBR.out.cell 1
          have hrf0 := HBR.out.frozen 0
          have hrf1 := HBR.out.frozen 1
          clear hown hRd hA'
          go_wp2_with fail
          refine bodyPost_ret (v := .agg #[.slice A' l.length c', .int .i64 1]) (by simp [results, Tryz.results37, go_sem, hr0, hr1]) rfl ?_
          unfold RetWh
          rw [HZS.out, HZL.out]
          refine ⟨A', c', rfl, ((HRD.out).setCell_out _ _ (fun ad e => by have := HA.out ad e; simp; omega)).setCell_out _ _ (fun ad e => by have := HA.out ad e; simp; omega), fun ad e => by have := HA.out ad e; omega, ?_⟩
          exact ((HW.out.trans ((HU.out.trans (HU2.out.mono zU)).mono HW.out.size)).setCell (Nat.le_refl _) _).setCell (Nat.le_refl _) _
end Go.Proofs.YtjcdkbalhleeeaaGreatDoor

namespace Go.Proofs.YtjcdkbalhleeeaaGreatDoor
open Go.RowKit

/-- Two numbers side by side do not lie in a corner's box. -/
theorem Rd.not_box {w : World} {b : Nat} {X Y1 Y2 Y3 : Option Addr} {cx n1 n2 n3 c1 c2 c3 : Nat} {z1 z2 z3 : Int} {xs : List Int} {t : TypeId} (h : Rd w X cx xs) (h2 : 2 ≤ xs.length)
    (hb : Blk w b t #[.slice Y1 n1 c1, .int .i64 z1, .slice Y2 n2 c2, .int .i64 z2, .slice Y3 n3 c3, .int .i64 z3]) : ∀ ad, X = some ad → ad.block ≠ b := by
  intro ad e q
  obtain ⟨ad', e', hc⟩ := h.cells (by simp; omega)
  rw [e] at e'
  injection e' with e'
  subst e'
  have h0 := hc 0 (.int .i64 xs[0]) (by simp)
  have h1 := hc 1 (.int .i64 xs[1]) (by simp)
  obtain ⟨b', off, sp⟩ := ad
  have q : b' = b := q
  subst q
  have e0 : (⟨b', off, sp⟩ : Addr).add 0 = ⟨b', off, sp⟩ := rfl
  have e1 : (⟨b', off, sp⟩ : Addr).add 1 = ⟨b', off + 1, none⟩ := rfl
  have hb' : w.heap[b']? = some (.cells #[.slice Y1 n1 c1, .int .i64 z1, .slice Y2 n2 c2, .int .i64 z2, .slice Y3 n3 c3, .int .i64 z3] t (0, 0)) := hb
  rw [e0] at h0
  rw [e1] at h1
  simp only [World.cell?, hb'] at h0 h1
  have hs : sp.isSome = false := by
    cases sp with
    | none => rfl
    | some s => simp at h0
  simp only [hs] at h0
  simp at h0 h1
  rcases (show off = 0 ∨ off = 1 ∨ off = 2 ∨ off = 3 ∨ off = 4 ∨ off = 5 ∨ 6 ≤ off by omega) with rfl | rfl | rfl | rfl | rfl | rfl | ho
  · simp at h0
  · simp at h1
  · simp at h0
  · simp at h1
  · simp at h0
  · simp at h1
  · rw [List.getElem?_eq_none (by simpa using ho)] at h0; cases h0
theorem Rd.blk_lt {w : World} {A : Option Addr} {c : Nat} {l : List Int} (h : Rd w A c l) (h0 : 0 < l.length) : ∀ ad, A = some ad → ad.block < w.heap.size := by
  intro ad e
  obtain ⟨ad', e', hc⟩ := h.at_ h0
  rw [e] at e'
  injection e' with e'
  subst e'
  exact World.block_lt_of_cell? _ _ hc
theorem Rd.takeW {w : World} {A : Option Addr} {c : Nat} {l : List Int} (h : Rd w A c l) (n : Nat) (hn : n ≤ l.length) : Rd w A c (l.take n) ∧ (l.take n).length = n := by
  have hl : (l.take n).length = n := by rw [List.length_take]; omega
  refine ⟨⟨by rw [hl]; have := h.le; omega, h.cap, by rw [hl]; have := h.small; omega, fun h0 => ?_⟩, hl⟩
  simp only [List.length_map] at h0
  obtain ⟨ad, e, hc⟩ := h.cells (by simp; omega)
  refine ⟨ad, e, fun j u hu => hc j u ?_⟩
  rw [List.map_take, List.getElem?_take] at hu
  split at hu
  · exact hu
  · simp at hu
end Go.Proofs.YtjcdkbalhleeeaaGreatDoor
