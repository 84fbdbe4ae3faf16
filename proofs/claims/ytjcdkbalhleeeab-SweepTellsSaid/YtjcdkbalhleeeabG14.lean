/-
  Contracts of functions and plain laws that later parts of the proof use. The conditions stand in each theorem.
-/
import Derived.Test.YtjcdkbalhleeeabG09
import Derived.Test.YtjcdkbalhleeeabG05
import Derived.Test.YtjcdkbalhleeeabG13
import Derived.Laws.BitsLemmas
import Derived.TacticsInMore
import Derived.LoopIn
import Derived.OwnWalkIn
import Derived.Shelf.RegionOpen
import Derived.Test.YtjcdkbalhleeeabG11
import Derived.Test.YtjcdkbalhleeeabG06
import Derived.Test.YtjcdkbalhleeeabG02
import Derived.Test.YtjcdkbalhleeeabG03
import Derived.Test.YtjcdkbalhleeeabG08
namespace Go.Proofs.Ytjcdkbalhleeeab
open Go.RowKit

theorem i64_and1 (n : Nat) (h : n < 4611686018427387904) : bits .and .i64 (n : Int) 1 = ((n % 2 : Nat) : Int) := by
  have := (bits_nat .i64 62 (by decide) (fun n h0 h1 => IntWalk.i64_in _ (by omega)) n 1 (by omega) (by omega)).1
  rw [show ((1 : Nat) : Int) = 1 from rfl] at this
  rw [this, Nat.and_one_is_mod]
theorem bit_and (s q : Nat) (hs : s < 4611686018427387904) : bits .and .i64 ((s : Int) / 2 ^ q) 1 = if s.testBit q = true then 1 else 0 := by
  have e : (s : Int) / 2 ^ q = ((s / 2 ^ q : Nat) : Int) := by simp
  have h1 : s / 2 ^ q ≤ s := Nat.div_le_self _ _
  rw [e, i64_and1 _ (by omega), Nat.testBit_eq_decide_div_mod_eq]
  by_cases h : s / 2 ^ q % 2 = 1
  · rw [if_pos (by simpa using h), h]; rfl
  · rw [if_neg (by simpa using h), show s / 2 ^ q % 2 = 0 by omega]; rfl
/-- What the k-th round is handed. -/
def CornE (B : Nat) (p : PG) (k : Nat) (args : Array Value) (W : World) : Prop :=
  ∃ L cl X cx Y cy G cg, args = #[.slice L ((cornersZ p).getD k []).length cl, .agg #[.slice X (lookN p ((cornersZ p).getD k [])).xs.length cx, .int .i64 (lookN p ((cornersZ p).getD k [])).xd, .slice Y (lookN p ((cornersZ p).getD k [])).ys.length cy, .int .i64 (lookN p ((cornersZ p).getD k [])).yd, .slice G (lookN p ((cornersZ p).getD k [])).gs.length cg, .int .i64 (lookN p ((cornersZ p).getD k [])).gd]] ∧
    Rd W L cl (ints ((cornersZ p).getD k [])) ∧ CnN W X cx Y cy G cg (lookN p ((cornersZ p).getD k [])) ∧ ∀ ad, L = some ad → B ≤ ad.block

/-- The blocks of the iterator's boxes, and what lies below n₀. -/
structure BoxC (S : Nat → Prop) (w0 : World) (b1 b2 b3 : Nat) (A : Option Addr) (c : Nat) (A2 : Option Addr) (c2 : Nat) (p : PG) : Prop where
  s1 : S b1
  s2 : S b2
  s3 : S b3
  k1 : w0.cell? ⟨b1, 0, none⟩ = some (.int .i64 p.costs.length)
  k2 : w0.cell? ⟨b2, 0, none⟩ = some (.int .i64 p.rows.length)
  k3 : w0.cell? ⟨b3, 0, none⟩ = some (.slice A p.costs.length c)
  k4 : w0.cell? ⟨b3, 1, none⟩ = some (.slice A2 p.rows.length c2)
  pg : ∀ w, KS S w0 w → Pg w A c A2 c2 p
attribute [local go_sem] Oper.semAt_some
set_option maxRecDepth 100000 in
set_option maxHeartbeats 4000000 in
theorem corners_iter (S : Nat → Prop) (w0 : World) (b1 b2 b3 : Nat) (A : Option Addr) (c : Nat) (A2 : Option Addr) (c2 : Nat) (p : PG) (hp : BoxC S w0 b1 b2 b3 A c A2 c2 p) (hm : mayPB p = true) :
    IterC Try.prog 98 #[.pointer (some ⟨b1, 0, none⟩), .pointer (some ⟨b2, 0, none⟩), .pointer (some ⟨b3, 0, none⟩)] S (cornersZ p).length (CornE w0.heap.size p) w0 := by
  intro l J Jx W hW hJ hJx hY h0
  have hm' := mayPB_iff.1 hm
  obtain ⟨m1, m2, m3, m4, _⟩ := hm'
  have HY := Lib.hid hY
  have HJ := Lib.hid hJ
  have HJX := Lib.hid hJx
  have HP := Lib.hid hp
  have HW := Lib.hid hW
  have HM := Lib.hid hm
  have H0 := Lib.hid h0
  have p1 : W.cell? ⟨b1, 0, none⟩ = some (.int .i64 p.costs.length) := hW.cell hp.s1 hp.k1
  have p2 : W.cell? ⟨b2, 0, none⟩ = some (.int .i64 p.rows.length) := hW.cell hp.s2 hp.k2
  obtain ⟨N, hN⟩ : ∃ N, p.costs.length + p.rows.length = N := ⟨_, rfl⟩
  have hw1 : IntKind.i64.wrap ((p.costs.length : Int) + (p.rows.length : Int)) = (N : Int) := by rw [← hN, IntWalk.i64_in _ (by omega)]; omega
  have hN8 : N ≤ 8 := by omega
  have hM := Nat.pow_le_pow_right (n := 2) (by omega) hN8
  have hM0 := Nat.pow_pos (n := N) (show 0 < 2 by omega)
  obtain ⟨M, hMM⟩ : ∃ M : Nat, M = 2 ^ N := ⟨_, rfl⟩
  have HMM := Lib.hid hMM
  have hw2 : IntKind.i64.wrap ((2 : Int) ^ N) = (M : Int) := by
    have e : ((2 : Int) ^ N) = (M : Int) := by rw [hMM]; simp
    rw [e, IntWalk.i64_in _ (by omega)]
  rw [← hMM] at hM hM0
  replace hM : M ≤ 256 := hM
  have HNN := Lib.hid hN
  clear hY hJ hJx hp hW hm h0 hMM hN
  refine (callsIn_wide (n := 0)).1 (callsIn_of_wp Try.func98 rfl trivial ?_ rfl)
  simp only [Try.ntmps98, List.size_toArray, List.length_cons, List.length_nil, Nat.reduceAdd, Nat.reduceSub, Array.replicate_succ, Array.replicate_zero, List.push_toArray, List.append_toArray, List.nil_append, List.cons_append]
  gi_wp2_with fail
  gi_loopw [14] (fun i wx => ∃ s : Nat, i = .int .i64 s ∧ s ≤ M ∧ KS S W wx ∧ J (cornK p s).length wx) (fun i _ => M - (intOf i).toNat)
  case atStart => exact ⟨0, rfl, by omega, KS.refl _ _, H0.out⟩
  case round =>
    obtain ⟨s, rfl, hs, hks, hJs⟩ := hrel
    rename World => U
    have HK := Lib.hid hks
    have HJS := Lib.hid hJs
    have q1 : U.cell? ⟨b1, 0, none⟩ = some (.int .i64 p.costs.length) := hks.cell HP.out.s1 p1
    have q2 : U.cell? ⟨b2, 0, none⟩ = some (.int .i64 p.rows.length) := hks.cell HP.out.s2 p2
    clear hks hJs
    by_cases hlt : s < M
    · have hi0 : (s : Int) < (M : Int) := by omega
      gi_wp2_with fail
      refine wpIn_wide.2 ?_
      go_loopw [6, 20] (fun v j wx => ∃ q : Nat, q ≤ N ∧ j = .int .i64 q ∧ wx.ownsRow U.heap.size 3 1 v (bitsN q s).length ((ints (bitsN q s)).map (Value.int .i64)) ∧ Below U.heap.size U wx) (fun _ j _ => N - (intOf j).toNat)
      case atStart => exact ⟨0, by omega, rfl, World.ownsRow_nil _ _ _ _, Below.refl _ _⟩
      case round =>
        obtain ⟨q, hq, rfl, hown, hbel⟩ := hrel
        rename World => U1
        have HO := Lib.hid hown
        have HB := Lib.hid hbel
        clear hown hbel
        by_cases hqn : q < N
        · have hi1 : (q : Int) < (N : Int) := by omega
          have hbl := bits_len_le q s
          have HSUC := Lib.hid (bits_succ q s)
          have HBA := Lib.hid (bit_and s q (by omega))
          by_cases htb : s.testBit q = true
          · have hb1 : bits .and .i64 ((s : Int) / 2 ^ q) 1 = 1 := by rw [HBA.out, if_pos htb]
            have HS1 := Lib.hid (show bitsN (q + 1) s = bitsN q s ++ [q] by rw [HSUC.out, if_pos htb])
            clear htb
            go_wp2_with (at_builtin; refine list_app1 rfl (.tmp 28) (.tmp 30) _ _ _ 8 und_intS1 inf_intS1 rfl rfl U.heap.size _ _ _ _ rfl (HO.out.alloc _) _ 1 rfl (cell_new1 _ _ _) rfl (by unfold maxLen; omega) (by omega) (by have := HB.out.size; simp; omega) ?_; intro g1 cap1 w1 hown1 hg1 hat1 hlt1)
            have HB1 := Lib.hid ((HB.out.alloc HB.out.size _).grown hg1 (by have := HB.out.size; simp; omega) (fun j e => (HO.out.lt j e).1))
            have HO1 := Lib.hid hown1
            clear hown1 hg1 hat1
            go_roundw
            case rel => exact ⟨q + 1, by omega, by go_num, by rw [HS1.out, intsN_app, List.map_append, List.length_append]; exact HO1.out, HB1.out⟩
            case measure => simp [intOf]; omega
          · have hb1 : bits .and .i64 ((s : Int) / 2 ^ q) 1 = 0 := by rw [HBA.out, if_neg htb]
            have HS1 := Lib.hid (show bitsN (q + 1) s = bitsN q s by rw [HSUC.out, if_neg htb, List.append_nil])
            clear htb
            go_wp2_with fail
            go_roundw
            case rel => exact ⟨q + 1, by omega, by go_num, by rw [HS1.out]; exact HO.out, HB.out⟩
            case measure => simp [intOf]; omega
        · obtain rfl : q = N := by omega
          have hbl := bits_len_le q s
          have hil : (ints (bitsN q s)).length = (bitsN q s).length := intsN_len _
          obtain ⟨O, co, rfl, hR, hOL⟩ := Rd.of_ownv (l := ints (bitsN q s)) HO.out hil.symm (by rw [hil]; omega)
          rw [hil]
          have HR := Lib.hid hR
          have HOL := Lib.hid (fun ad (e : O = some ad) => show w0.heap.size ≤ ad.block from by have := hOL ad e; have := HW.out.size; have := HK.out.size; omega)
          clear hOL
          have zB := HB.out.size
          have q2' : U1.cell? ⟨b2, 0, none⟩ = some (.int .i64 p.rows.length) := (HB.out.cell (World.block_lt_of_cell? _ _ q2)).trans q2
          have HK1 := Lib.hid (HK.out.next HB.out)
          have HJ1 := Lib.hid (HJ.out _ _ _ HJS.out HB.out)
          have q3 : U1.cell? ⟨b3, 0, none⟩ = some (.slice A p.costs.length c) := (HW.out.trans HK1.out).cell HP.out.s3 HP.out.k3
          have q4 : U1.cell? ⟨b3, 1, none⟩ = some (.slice A2 p.rows.length c2) := (HW.out.trans HK1.out).cell HP.out.s3 HP.out.k4
          clear hR hil
          have HLK := Lib.hid (corner_Look A c A2 c2 p O (ints (bitsN q s)) co U1 (HP.out.pg _ (HW.out.trans HK1.out)) HR.out)
          rw [intsN_len] at HLK
          have HAT := Lib.hid (fun h => cornK_at (p := p) (s := s) (by rw [HNN.out, ← HMM.out]; exact hlt) h)
          have HSC := Lib.hid (cornK_succ p s)
          have hOK : okC p (bitsN q s) = (decide ((bitsN q s).length = p.rows.length) && decide (lookE p (ints (bitsN q s)) = 0)) := rfl
          have HOKC := Lib.hid hOK
          obtain ⟨lb, hlb⟩ : ∃ lb, bitsN q s = lb := ⟨_, rfl⟩
          have HLB := Lib.hid hlb
          rw [HNN.out, hlb] at HAT HSC
          rw [hlb] at HR HLK HOKC hbl HO ⊢
          clear hOK hlb HO
          obtain ⟨ce, hce⟩ : ∃ ce, lookE p (ints lb) = ce := ⟨_, rfl⟩
          rw [hce] at HLK HOKC
          have HCE := Lib.hid hce
          clear hce
          go_wp2_with fail
          gi_wp2_with fail
          refine ⟨trivial, rfl, ?_⟩
          refine (callsIn_wide.2 HLK.out).mono ?_
          rintro e w2 ⟨X, cx, Y, cy, G, cg, rfl, hX, hY, hG, hb2⟩
          have HCn := Lib.hid (CnN.mk hX hY hG)
          have H2 := Lib.hid hb2
          have r2 := (hb2.cell (World.block_lt_of_cell? _ _ q2')).trans q2'
          have lb2 := World.block_lt_of_cell? _ _ r2
          clear hX hY hG hb2 q2' q3 q4 q1 q2 p1 p2
          have HVL := (Below.refl w2.heap.size w2).alloc (Nat.le_refl _) (.cells #[.slice X (lookC p (ints lb)).xs.length cx, .int .i64 (lookC p (ints lb)).xd, .slice Y (lookC p (ints lb)).ys.length cy, .int .i64 (lookC p (ints lb)).yd, .slice G (lookC p (ints lb)).gs.length cg, .int .i64 (lookC p (ints lb)).gd] 42)
          have HK2 := Lib.hid (HK1.out.next H2.out |>.next HVL)
          have HJ2 := Lib.hid (HJ.out _ _ _ (HJ.out _ _ _ HJ1.out H2.out) HVL)
          have HE := Lib.hid (show okC p lb = true → CornE w0.heap.size p (cornK p s).length #[.slice O lb.length co, .agg #[.slice X (lookC p (ints lb)).xs.length cx, .int .i64 (lookC p (ints lb)).xd, .slice Y (lookC p (ints lb)).ys.length cy, .int .i64 (lookC p (ints lb)).yd, .slice G (lookC p (ints lb)).gs.length cg, .int .i64 (lookC p (ints lb)).gd]] (w2.alloc (.cells #[.slice X (lookC p (ints lb)).xs.length cx, .int .i64 (lookC p (ints lb)).xd, .slice Y (lookC p (ints lb)).ys.length cy, .int .i64 (lookC p (ints lb)).yd, .slice G (lookC p (ints lb)).gs.length cg, .int .i64 (lookC p (ints lb)).gd] 42)) from fun h => by
            unfold CornE
            rw [(HAT.out h).2]
            exact ⟨O, co, X, cx, Y, cy, G, cg, rfl, (HR.out.below H2.out).below HVL, HCn.out.below HVL, HOL.out⟩)
          clear HVL
          by_cases hlen : lb.length = p.rows.length
          · have hlz : (lb.length : Int) = (p.rows.length : Int) := by omega
            by_cases hc0 : ce = 0
            · have HTR := Lib.hid (show okC p lb = true by rw [HOKC.out]; simp [hlen, hc0])
              subst hc0
              obtain ⟨fn, tmps, assign, body, hy, hR⟩ := HY.out _ _ _ (HAT.out HTR.out).1 HJ2.out (HW.out.trans HK2.out) (HE.out HTR.out)
              rw [hlen] at hy
              gi_wp2_with fail
              refine ⟨rfl, ?_⟩
              refine hR.mono ?_
              rintro e W3 (⟨rfl, hJ3, hk3⟩ | ⟨rfl, hJx3⟩)
              · have HJ3 := Lib.hid hJ3
                have HK3 := Lib.hid (HK2.out.trans hk3)
                clear hJ3 hk3
                gi_wp2_with fail
                go_roundw
                case rel => exact ⟨s + 1, by go_num, by omega, HK3.out, by rw [HSC.out, if_pos HTR.out, List.length_append]; exact HJ3.out⟩
                case measure => simp [intOf]; omega
              · have HJX3 := Lib.hid hJx3
                clear hJx3
                gi_wp2_with fail
                refine bodyPost_ret (results_none rfl _ _ _) rfl ?_
                exact ⟨⟨_, rfl⟩, .inr ⟨_, (HAT.out HTR.out).1, HJX3.out⟩⟩
            · have HFA := Lib.hid (show okC p lb = false by rw [HOKC.out]; simp [hlen, hc0])
              have hcz : (ce == 0) = false := by simpa using hc0
              gi_wp2_with fail
              refine ⟨fun _ h => (by cases h), ?_⟩
              gi_wp2_with fail
              go_roundw
              case rel => exact ⟨s + 1, by go_num, by omega, HK2.out, by rw [HSC.out, if_neg (by rw [HFA.out]; simp), List.append_nil]; exact HJ2.out⟩
              case measure => simp [intOf]; omega
          · have HFA := Lib.hid (show okC p lb = false by rw [HOKC.out]; simp [hlen])
            have hlz : ¬ (lb.length : Int) = (p.rows.length : Int) := by omega
            have hlz' : ((lb.length : Int) == (p.rows.length : Int)) = false := by simp; omega
            gi_wp2_with fail
            refine ⟨fun _ h => (by cases h), ?_⟩
            gi_wp2_with fail
            go_roundw
            case rel => exact ⟨s + 1, by go_num, by omega, HK2.out, by rw [HSC.out, if_neg (by rw [HFA.out]; simp), List.append_nil]; exact HJ2.out⟩
            case measure => simp [intOf]; omega
    · obtain rfl : s = M := by omega
      gi_wp2_with fail
      go_end0
      exact ⟨⟨_, rfl⟩, .inl (by rw [← cornK_all, HNN.out, ← HMM.out]; exact HJS.out)⟩
end Go.Proofs.Ytjcdkbalhleeeab

namespace Go.Proofs.Ytjcdkbalhleeeab
open Go.RowKit

section
variable {B : Nat} {W W' : World}
theorem Blk.kw {g : Nat} {t : TypeId} {cs : Array Value} (h : Blk W g t cs) (k : KW B W W') : Blk W' g t cs := k.same _ _ h (.inr rfl)
theorem Rd.kw {A : Option Addr} {c : Nat} {l : List Int} (h : Rd W A c l) (k : KW B W W') : Rd W' A c l :=
  ⟨h.le, h.cap, h.small, fun hl => by
    obtain ⟨ad, e, hc⟩ := h.cells hl
    exact ⟨ad, e, fun j u hu => k.cell (hc j u hu)⟩⟩
theorem CnN.kw {X Y G : Option Addr} {cx cy cg : Nat} {c : CO} (h : CnN W X cx Y cy G cg c) (k : KW B W W') : CnN W' X cx Y cy G cg c := ⟨h.x.kw k, h.y.kw k, h.g.kw k⟩
end

set_option maxRecDepth 100000 in
/-- Are all columns 0 or above? -/
theorem solve_Goes (X Y G : Option Addr) (cx ny cy ng cg : Nat) (xs : List Int) (xd yd gd : Int) (w : World) (hx : Rd w X cx xs) :
    Calls Try.prog 52 #[.agg #[.slice X xs.length cx, .int .i64 xd, .slice Y ny cy, .int .i64 yd, .slice G ng cg, .int .i64 gd]] w fun e w' => e = .returned (.bool (nonneg xs)) ∧ Below w.heap.size w w' := by
  have HX := Lib.hid hx
  obtain ⟨hl, hc, hs, _⟩ := hx
  go_enter Try.func52, Try.ntmps52
  go_wp2_with fail
  have BC := Lib.hid (Blk.mk' w 42 #[.slice X xs.length cx, .int .i64 xd, .slice Y ny cy, .int .i64 yd, .slice G ng cg, .int .i64 gd])
  have HB := Lib.hid ((Below.refl w.heap.size w).alloc (Nat.le_refl _) (.cells #[.slice X xs.length cx, .int .i64 xd, .slice Y ny cy, .int .i64 yd, .slice G ng cg, .int .i64 gd] 42))
  generalize (w.alloc (.cells #[.slice X xs.length cx, .int .i64 xd, .slice Y ny cy, .int .i64 yd, .slice G ng cg, .int .i64 gd] 42)) = W at *
  go_loopw [9] (fun i wx => wx = W ∧ ∃ k : Nat, k ≤ xs.length ∧ i = .int .i64 k ∧ Hid (∀ j, j < k → 0 ≤ xs.getD j 0)) (fun i _ => xs.length - (intOf i).toNat)
  case atStart => exact ⟨rfl, 0, by omega, rfl, Lib.hid fun j hj => by omega⟩
  case round =>
    obtain ⟨rfl, k, hk, rfl, hall⟩ := hrel
    rename World => W
    by_cases hlt : k < xs.length
    · obtain ⟨ax, rfl, hcx⟩ := (HX.out.below HB.out).getD_at (k := k) hlt
      have hax := World.block_lt_of_cell? _ _ hcx
      have hi0 : (k : Int) < (xs.length : Int) := by omega
      by_cases hneg : xs.getD k 0 < 0
      · have HF := Lib.hid (show nonneg xs = false by
          rw [Bool.eq_false_iff]
          intro h
          have := nonneg_at h k
          omega)
        obtain ⟨xv, hxv⟩ : ∃ xv, xs.getD k 0 = xv := ⟨_, rfl⟩
        rw [hxv] at hcx hneg
        clear hxv hall
        go_wp2_with fail
        go_ret
        exact ⟨by rw [HF.out]; rfl, HB.out⟩
      · have HA := Lib.hid (show ∀ j, j < k + 1 → 0 ≤ xs.getD j 0 from fun j hj => by
          by_cases e : j = k
          · subst e; omega
          · exact hall.out j (by omega))
        obtain ⟨xv, hxv⟩ : ∃ xv, xs.getD k 0 = xv := ⟨_, rfl⟩
        rw [hxv] at hcx hneg
        clear hxv hall
        go_wp2_with fail
        go_roundw
        case rel => exact ⟨trivial, k + 1, by omega, by go_num, HA⟩
        case measure => simp [intOf]; omega
    · obtain rfl : k = xs.length := by omega
      have HT := Lib.hid (show nonneg xs = true from nonneg_of fun j => by
        by_cases hj : j < xs.length
        · exact hall.out j hj
        · rw [List.getD, List.getElem?_eq_none (by omega)]; simp)
      clear hall
      go_wp2_with fail
      go_ret
      exact ⟨by rw [HT.out]; rfl, HB.out⟩

/-- The iterator's value is handed back. -/
def RetC (w : World) (A : Option Addr) (c : Nat) (A2 : Option Addr) (c2 : Nat) (p : PG) (e : Ending) (w' : World) : Prop :=
  ∃ b1 b2 b3, e = .returned (.func (.func 98) #[] #[.pointer (some ⟨b1, 0, none⟩), .pointer (some ⟨b2, 0, none⟩), .pointer (some ⟨b3, 0, none⟩)]) ∧
    w.heap.size ≤ b1 ∧ w.heap.size ≤ b2 ∧ w.heap.size ≤ b3 ∧ w'.cell? ⟨b1, 0, none⟩ = some (.int .i64 p.costs.length) ∧ w'.cell? ⟨b2, 0, none⟩ = some (.int .i64 p.rows.length) ∧
    w'.cell? ⟨b3, 0, none⟩ = some (.slice A p.costs.length c) ∧ w'.cell? ⟨b3, 1, none⟩ = some (.slice A2 p.rows.length c2) ∧ Below w.heap.size w w'
theorem two_boxes (V : World) (x y : Value) (t : TypeId) : ((V.alloc (.cells #[x] t)).alloc (.cells #[y] t)).drew.cell? ⟨V.heap.size, 0, none⟩ = some x ∧ ((V.alloc (.cells #[x] t)).alloc (.cells #[y] t)).drew.cell? ⟨V.heap.size + 1, 0, none⟩ = some y ∧
    (∀ q v, V.cell? q = some v → ((V.alloc (.cells #[x] t)).alloc (.cells #[y] t)).drew.cell? q = some v) ∧ Below V.heap.size V ((V.alloc (.cells #[x] t)).alloc (.cells #[y] t)).drew := by
  have hb : Below V.heap.size V ((V.alloc (.cells #[x] t)).alloc (.cells #[y] t)).drew := (((Below.refl _ V).alloc (Nat.le_refl _) _).alloc (by simp) _).drew
  refine ⟨((Blk.mk' V t #[x]).alloc _).cell 0, ?_, fun q v hq => (hb.cell (World.block_lt_of_cell? _ _ hq)).trans hq, hb⟩
  have := Blk.mk' (V.alloc (.cells #[x] t)) t #[y]
  rw [World.size_alloc] at this
  exact this.cell 0
set_option maxRecDepth 100000 in
theorem solve_Corners (A : Option Addr) (c : Nat) (A2 : Option Addr) (c2 : Nat) (p : PG) (w : World) :
    Calls Try.prog 51 #[.agg #[.slice A p.costs.length c, .slice A2 p.rows.length c2]] w (RetC w A c A2 c2 p) := by
  unfold RetC
  generalize p.costs.length = n
  generalize p.rows.length = m
  go_enter Try.func51, Try.ntmps51
  go_upto_region 1 with fail
  have BP := Lib.hid (Blk.mk' w 25 #[.slice A n c, .slice A2 m c2])
  have HB := Lib.hid ((Below.refl w.heap.size w).alloc (Nat.le_refl _) (.cells #[.slice A n c, .slice A2 m c2] 25))
  have lV : (w.alloc (.cells #[.slice A n c, .slice A2 m c2] 25)).heap.size = w.heap.size + 1 := by simp
  have lw : w.heap.size < (w.alloc (.cells #[.slice A n c, .slice A2 m c2] 25)).heap.size := by omega
  have LV := Lib.hid lV
  clear lV
  generalize (w.alloc (.cells #[.slice A n c, .slice A2 m c2] 25)) = V at *
  have p0 : V.cell? ⟨w.heap.size, 0, none⟩ = some (.slice A n c) := BP.out.cell 0
  have p1 : V.cell? ⟨w.heap.size, 1, none⟩ = some (.slice A2 m c2) := BP.out.cell 1
  go_region
  all_goals go_wp2_with fail
  all_goals go_ret
  · obtain ⟨k1, k2, k3, k4⟩ := two_boxes V (.int .i64 n) (.int .i64 m) 3
    exact ⟨_, _, _, rfl, by omega, by omega, Nat.le_refl _, k1, k2, k3 _ _ p0, k3 _ _ p1, HB.out.trans (k4.mono (by omega))⟩
  · obtain ⟨k1, k2, k3, k4⟩ := two_boxes V (.int .i64 m) (.int .i64 n) 3
    exact ⟨_, _, _, rfl, by omega, by omega, Nat.le_refl _, k2, k1, k3 _ _ p0, k3 _ _ p1, HB.out.trans (k4.mono (by omega))⟩

attribute [local go_sem] Oper.semAt_some
end Go.Proofs.Ytjcdkbalhleeeab

namespace Go.Proofs.Ytjcdkbalhleeeab
open Go.RowKit

/-- Two numbers side by side do not lie in a corner's box. -/
theorem Rd.not_box {w : World} {b : Nat} {X Y1 Y2 Y3 : Option Addr} {cx n1 n2 n3 c1 c2 c3 : Nat} {z1 z2 z3 : Int} {xs : List Int} {t : TypeId} (h : Rd w X cx xs) (h2 : 2 ≤ xs.length)
    (hb : Blk w b t #[.slice Y1 n1 c1, .int .i64 z1, .slice Y2 n2 c2, .int .i64 z2, .slice Y3 n3 c3, .int .i64 z3]) : ∀ ad, X = some ad → ad.block ≠ b := by
  intro ad e q
  obtain ⟨ad', e', hc⟩ := h.cells (by simp; omega)
  rw [e] at e'
  injection e' with e'
  subst e'
  have h0 := hc 0 (.int .i64 xs[0]) (by simp)
  have h1 := hc 1 (.int .i64 xs[1]) (by simp)
  obtain ⟨b', off, sp⟩ := ad
  have q : b' = b := q
  subst q
  have e0 : (⟨b', off, sp⟩ : Addr).add 0 = ⟨b', off, sp⟩ := rfl
  have e1 : (⟨b', off, sp⟩ : Addr).add 1 = ⟨b', off + 1, none⟩ := rfl
  have hb' : w.heap[b']? = some (.cells #[.slice Y1 n1 c1, .int .i64 z1, .slice Y2 n2 c2, .int .i64 z2, .slice Y3 n3 c3, .int .i64 z3] t (0, 0)) := hb
  rw [e0] at h0
  rw [e1] at h1
  simp only [World.cell?, hb'] at h0 h1
  have hs : sp.isSome = false := by
    cases sp with
    | none => rfl
    | some s => simp at h0
  simp only [hs] at h0
  simp at h0 h1
  rcases (show off = 0 ∨ off = 1 ∨ off = 2 ∨ off = 3 ∨ off = 4 ∨ off = 5 ∨ 6 ≤ off by omega) with rfl | rfl | rfl | rfl | rfl | rfl | ho
  · simp at h0
  · simp at h1
  · simp at h0
  · simp at h1
  · simp at h0
  · simp at h1
  · rw [List.getElem?_eq_none (by simpa using ho)] at h0; cases h0
theorem Rd.blk_lt {w : World} {A : Option Addr} {c : Nat} {l : List Int} (h : Rd w A c l) (h0 : 0 < l.length) : ∀ ad, A = some ad → ad.block < w.heap.size := by
  intro ad e
  obtain ⟨ad', e', hc⟩ := h.at_ h0
  rw [e] at e'
  injection e' with e'
  subst e'
  exact World.block_lt_of_cell? _ _ hc
end Go.Proofs.Ytjcdkbalhleeeab

namespace Go.Proofs.Ytjcdkbalhleeeab
open Go.RowKit

set_option maxRecDepth 100000 in
theorem walk_Variables (A : Option Addr) (c : Nat) (A2 : Option Addr) (c2 : Nat) (p : PG) (X Y G : Option Addr) (cx ny cy ng cg : Nat) (xs : List Int) (xd yd gd : Int) (w : World) (hp : Pg w A c A2 c2 p) (hx : Rd w X cx xs) (h0 : 0 < xs.length) (hn : p.costs.length ≤ xs.length) :
    Calls Try.prog 66 #[.agg #[.slice A p.costs.length c, .slice A2 p.rows.length c2], .agg #[.slice X xs.length cx, .int .i64 xd, .slice Y ny cy, .int .i64 yd, .slice G ng cg, .int .i64 gd]] w fun e w' =>
      e = .returned (.slice X p.costs.length cx) ∧ Below w.heap.size w w' := by
  obtain ⟨ax, rfl, _⟩ := hx.getD_at (k := 0) h0
  obtain ⟨hl, hc, hs, _⟩ := hx
  obtain ⟨⟨hl1, hc1, hsm, _⟩, ⟨hl2, hc2, hsm2, _⟩⟩ := hp
  have hcx : p.costs.length ≤ cx := by omega
  go_enter Try.func66, Try.ntmps66
  go_wp2_with fail
  go_ret
  exact ⟨rfl, (by (repeat (any_goals (first | exact Below.refl _ _ | refine below_drewN ?_ _ | refine Below.drew ?_ | refine Below.alloc ?_ ?_ _ | refine Below.setCell ?_ ?_ _))); all_goals (first | omega | (simp; done) | (simp; omega)))⟩

end Go.Proofs.Ytjcdkbalhleeeab

namespace Go.Proofs.Ytjcdkbalhleeeab
open Go.RowKit

/-- Are numbers so many, within a limit? -/
def manyB (l : List Int) (many : Nat) (m : Int) : Bool := smallB m l && decide (l.length = many)
theorem span_small (m : Int) (A : Option Addr) (l : List Int) (c many : Nat) (w : World) (hm : 0 ≤ m) (hm' : m ≤ 4611686018427387904) (hr : Rd w A c l) :
    Calls Try.prog 134 #[.slice A l.length c, .int .i64 many, .int .i64 m] w fun e w' => e = .returned (.bool (manyB l many m)) ∧ w' = w := by
  have HR := Lib.hid hr
  obtain ⟨hl, hc, hsm, _⟩ := hr
  have HV := Lib.hid (show manyB l many m = (smallB m l && decide (l.length = many)) from rfl)
  go_enter Try.func134, Try.ntmps134
  go_wp2_with fail
  go_loop [11] (fun i => ∃ k : Nat, k ≤ l.length ∧ smallB m (l.take k) = true ∧ i = .int .i64 k) (fun i => l.length - (intOf i).toNat)
  case atStart => exact ⟨0, by omega, by simp [smallB], rfl⟩
  case round =>
    obtain ⟨k, hk, hs, rfl⟩ := hrel
    have HS := Lib.hid hs
    clear hs
    by_cases hlt : k < l.length
    · obtain ⟨ad, rfl, hc1⟩ := HR.out.at_ hlt
      have HT := Lib.hid (smallB_take (m := m) hlt)
      have HF := Lib.hid (smallB_false (m := m) hlt)
      by_cases h1 : l[k] < -m
      · go_wp2_with fail
        go_ret
        exact ⟨ret_bool (by rw [HV.out, HF.out (by simp; omega)]; rfl), rfl⟩
      · by_cases h2 : m < l[k]
        · go_wp2_with fail
          go_ret
          exact ⟨ret_bool (by rw [HV.out, HF.out (by simp; omega)]; rfl), rfl⟩
        · go_wp2_with fail
          go_round
          case rel => exact ⟨k + 1, by omega, by rw [HT.out, HS.out]; simp; omega, by go_num⟩
          case measure => simp [intOf]; omega
    · obtain rfl : k = l.length := by omega
      have HX := Lib.hid (show smallB m l = true by have := HS.out; rwa [List.take_length] at this)
      by_cases h0 : l.length = many
      · have hz : ((l.length : Int) == (many : Int)) = true := by simp; omega
        have H0 := Lib.hid h0
        clear h0
        go_wp2_with fail
        go_ret
        exact ⟨ret_bool (by rw [HV.out, HX.out, H0.out]; simp), rfl⟩
      · have hz : ((l.length : Int) == (many : Int)) = false := by simp; omega
        have H0 := Lib.hid h0
        clear h0
        go_wp2_with fail
        go_ret
        exact ⟨ret_bool (by rw [HV.out, HX.out, decide_eq_false H0.out]; rfl), rfl⟩
theorem ref7_Small (m : Int) (A : Option Addr) (l : List Int) (c many : Nat) (w : World) (hm : 0 ≤ m) (hm' : m ≤ 4611686018427387904) (hr : Rd w A c l) :
    Calls Try.prog 58 #[.slice A l.length c, .int .i64 many, .int .i64 m] w fun e w' => e = .returned (.bool (manyB l many m)) ∧ w' = w := by
  have HR := Lib.hid hr
  obtain ⟨hl, hc, hsm, _⟩ := hr
  have HV := Lib.hid (show manyB l many m = (smallB m l && decide (l.length = many)) from rfl)
  by_cases h0 : l.length = many
  · have hz : ((l.length : Int) != (many : Int)) = false := by simp; omega
    have H0 := Lib.hid (show decide (l.length = many) = true from decide_eq_true h0)
    clear h0
    have hw0 : IntKind.i64.wrap (0 - m) = 0 - m := IntWalk.i64_in _ (by omega)
    go_enter Try.func58, Try.ntmps58
    go_wp2_with fail
    go_loop [7] (fun i => ∃ k : Nat, k ≤ l.length ∧ smallB m (l.take k) = true ∧ i = .int .i64 k) (fun i => l.length - (intOf i).toNat)
    case atStart => exact ⟨0, by omega, by simp [smallB], rfl⟩
    case round =>
      obtain ⟨k, hk, hs, rfl⟩ := hrel
      have HS := Lib.hid hs
      clear hs
      by_cases hlt : k < l.length
      · obtain ⟨ad, rfl, hc1⟩ := HR.out.at_ hlt
        have HT := Lib.hid (smallB_take (m := m) hlt)
        have HF := Lib.hid (smallB_false (m := m) hlt)
        have hi0 : (k : Int) < (l.length : Int) := by omega
        by_cases h1 : l[k] < 0 - m
        · go_wp2_with fail
          go_ret
          exact ⟨ret_bool (by rw [HV.out, HF.out (by simp; omega)]; rfl), rfl⟩
        · by_cases h2 : m < l[k]
          · go_wp2_with fail
            go_ret
            exact ⟨ret_bool (by rw [HV.out, HF.out (by simp; omega)]; rfl), rfl⟩
          · go_wp2_with fail
            go_round
            case rel => exact ⟨k + 1, by omega, by rw [HT.out, HS.out]; simp; omega, by go_num⟩
            case measure => simp [intOf]; omega
      · obtain rfl : k = l.length := by omega
        have HX := Lib.hid (show smallB m l = true by have := HS.out; rwa [List.take_length] at this)
        go_wp2_with fail
        go_ret
        exact ⟨ret_bool (by rw [HV.out, HX.out, H0.out]; rfl), rfl⟩
  · have hz : ((l.length : Int) != (many : Int)) = true := by simp; omega
    have H0 := Lib.hid (show decide (l.length = many) = false from decide_eq_false h0)
    clear h0
    go_enter Try.func58, Try.ntmps58
    go_wp2_with fail
    go_ret
    exact ⟨ret_bool (by rw [HV.out, H0.out]; simp), rfl⟩

theorem Rd.getDk {w : World} {A : Option Addr} {c : Nat} {l : List Int} (h : Rd w A c l) {k : Nat} (hk : k < l.length) : ∃ ad, A = some ad ∧ w.cell? (ad.add k) = some (.int .i64 (l.getD k 0)) := by
  obtain ⟨ad, e, hc⟩ := h.at_ hk
  exact ⟨ad, e, by rw [hc]; simp [List.getD, List.getElem?_eq_getElem hk]⟩
theorem smallB_atD {l : List Int} (h : smallB 1073741824 l = true) (j : Nat) : -1073741824 ≤ l.getD j 0 ∧ l.getD j 0 ≤ 1073741824 := by
  by_cases hj : j < l.length
  · have := smallB_at h hj; simpa [List.getD, List.getElem?_eq_getElem hj] using this
  · simp [List.getD, List.getElem?_eq_none (Nat.le_of_not_lt hj)]
theorem Blk.turned {w w' : World} {g : Nat} {t : TypeId} {cs : Array Value} {S : Nat → Prop} (h : Blk w g t cs) (ht : Turned S w w') (hg : ¬ S g) : Blk w' g t cs := (ht.block g h.lt hg).trans h
/-- The numbers by which a span is narrowed. -/
def fN (sg : Int) (xs : List Int) (yd : Int) (j : Nat) : Int := sg * xs.getD j 0 * yd
set_option maxRecDepth 100000 in
set_option maxHeartbeats 2000000 in
theorem span_of (X : Option Addr) (xs : List Int) (cx : Nat) (xd : Int) (Y : Option Addr) (ys : List Int) (cy : Nat) (yd sg : Int) (w : World) (hx : Rd w X cx xs) (hy : Rd w Y cy ys) (hlen : xs.length = ys.length)
    (sx : smallB 1073741824 xs = true) (sy : smallB 1073741824 ys = true) (dx : 1 ≤ xd ∧ xd ≤ 1073741824) (dy : 1 ≤ yd ∧ yd ≤ 1073741824) (hs : sg = 1 ∨ sg = -1) :
    Calls Try.prog 135 #[.agg #[.slice X xs.length cx, .int .i64 xd], .agg #[.slice Y ys.length cy, .int .i64 yd], .int .i64 sg] w
      (RetEn w (endsF (ofZ (fN sg xs yd) (fN sg ys xd) xs.length)) (endsT (ofZ (fN sg xs yd) (fN sg ys xd) xs.length)) (endsE (ofZ (fN sg xs yd) (fN sg ys xd) xs.length))) := by
  have HX := Lib.hid hx
  have HY := Lib.hid hy
  obtain ⟨lx, cxm, sxm, _⟩ := hx
  obtain ⟨ly, cym, sym, _⟩ := hy
  obtain ⟨dx1, dx2⟩ := dx
  obtain ⟨dy1, dy2⟩ := dy
  have HSX := Lib.hid sx
  have HSY := Lib.hid sy
  have HLE := Lib.hid hlen
  rw [← hlen]
  rw [← hlen] at ly
  clear sx sy hlen sym
  go_enter Try.func135, Try.ntmps135
  go_wp2_with fail
  have BA := Lib.hid (show Blk (((((w.alloc (.cells #[.slice X xs.length cx, .int .i64 xd] 40)).alloc (.cells #[.slice Y xs.length cy, .int .i64 yd] 40)).alloc (.cells #[.bool false, .int .i64 0, .int .i64 0] 71)).alloc (.cells #[.bool false, .int .i64 0, .int .i64 0] 71)).alloc (.cells #[.bool true, .int .i64 0, .int .i64 0, .bool true, .int .i64 0, .int .i64 0, .bool false] 184)) w.heap.size 40 #[.slice X xs.length cx, .int .i64 xd] from ((((Blk.mk' _ _ _).alloc _).alloc _).alloc _).alloc _)
  have BB := Lib.hid (show Blk (((((w.alloc (.cells #[.slice X xs.length cx, .int .i64 xd] 40)).alloc (.cells #[.slice Y xs.length cy, .int .i64 yd] 40)).alloc (.cells #[.bool false, .int .i64 0, .int .i64 0] 71)).alloc (.cells #[.bool false, .int .i64 0, .int .i64 0] 71)).alloc (.cells #[.bool true, .int .i64 0, .int .i64 0, .bool true, .int .i64 0, .int .i64 0, .bool false] 184)) (w.heap.size + 1) 40 #[.slice Y xs.length cy, .int .i64 yd] from (((Blk.new _ _ _ _ (by simp)).alloc _).alloc _).alloc _)
  have BR := Lib.hid (show Blk (((((w.alloc (.cells #[.slice X xs.length cx, .int .i64 xd] 40)).alloc (.cells #[.slice Y xs.length cy, .int .i64 yd] 40)).alloc (.cells #[.bool false, .int .i64 0, .int .i64 0] 71)).alloc (.cells #[.bool false, .int .i64 0, .int .i64 0] 71)).alloc (.cells #[.bool true, .int .i64 0, .int .i64 0, .bool true, .int .i64 0, .int .i64 0, .bool false] 184)) (w.heap.size + 1 + 1) 71 #[.bool false, .int .i64 0, .int .i64 0] from ((Blk.new _ _ _ _ (by simp)).alloc _).alloc _)
  have BQ := Lib.hid (show Blk (((((w.alloc (.cells #[.slice X xs.length cx, .int .i64 xd] 40)).alloc (.cells #[.slice Y xs.length cy, .int .i64 yd] 40)).alloc (.cells #[.bool false, .int .i64 0, .int .i64 0] 71)).alloc (.cells #[.bool false, .int .i64 0, .int .i64 0] 71)).alloc (.cells #[.bool true, .int .i64 0, .int .i64 0, .bool true, .int .i64 0, .int .i64 0, .bool false] 184)) (w.heap.size + 1 + 1 + 1) 71 #[.bool false, .int .i64 0, .int .i64 0] from (Blk.new _ _ _ _ (by simp)).alloc _)
  have BS := Lib.hid (show Blk (((((w.alloc (.cells #[.slice X xs.length cx, .int .i64 xd] 40)).alloc (.cells #[.slice Y xs.length cy, .int .i64 yd] 40)).alloc (.cells #[.bool false, .int .i64 0, .int .i64 0] 71)).alloc (.cells #[.bool false, .int .i64 0, .int .i64 0] 71)).alloc (.cells #[.bool true, .int .i64 0, .int .i64 0, .bool true, .int .i64 0, .int .i64 0, .bool false] 184)) (w.heap.size + 1 + 1 + 1 + 1) 184 (nwA (ofZ (fN sg xs yd) (fN sg ys xd) 0)) from Blk.new _ _ _ _ (by simp))
  have HVW := Lib.hid ((by (repeat (any_goals (first | exact Below.refl _ _ | refine below_drewN ?_ _ | refine Below.drew ?_ | refine Below.alloc ?_ ?_ _ | refine Below.setCell ?_ ?_ _))); all_goals (first | omega | (simp; done) | (simp; omega))) : Below w.heap.size w (((((w.alloc (.cells #[.slice X xs.length cx, .int .i64 xd] 40)).alloc (.cells #[.slice Y xs.length cy, .int .i64 yd] 40)).alloc (.cells #[.bool false, .int .i64 0, .int .i64 0] 71)).alloc (.cells #[.bool false, .int .i64 0, .int .i64 0] 71)).alloc (.cells #[.bool true, .int .i64 0, .int .i64 0, .bool true, .int .i64 0, .int .i64 0, .bool false] 184)))
  generalize (((((w.alloc (.cells #[.slice X xs.length cx, .int .i64 xd] 40)).alloc (.cells #[.slice Y xs.length cy, .int .i64 yd] 40)).alloc (.cells #[.bool false, .int .i64 0, .int .i64 0] 71)).alloc (.cells #[.bool false, .int .i64 0, .int .i64 0] 71)).alloc (.cells #[.bool true, .int .i64 0, .int .i64 0, .bool true, .int .i64 0, .int .i64 0, .bool false] 184)) = V at *
  have zV := HVW.out.size
  have zS := BS.out.lt
  go_loopw [19] (fun i wx => ∃ k : Nat, k ≤ xs.length ∧ i = .int .i64 k ∧ Blk wx (w.heap.size + 1 + 1 + 1 + 1) 184 (nwA (ofZ (fN sg xs yd) (fN sg ys xd) k)) ∧ Turned (· = w.heap.size + 1 + 1 + 1 + 1) V wx) (fun i _ => xs.length - (intOf i).toNat)
  case atStart => exact ⟨0, by omega, rfl, BS.out, Turned.refl _ _⟩
  case round =>
    obtain ⟨k, hk, rfl, hS, hT⟩ := hrel
    have HS := Lib.hid hS
    have HT := Lib.hid hT
    have HBW := Lib.hid (show Below w.heap.size w _ from HVW.out.trans (hT.below zV fun k e => by omega))
    have BA2 := Lib.hid (BA.out.turned hT (by omega))
    have BB2 := Lib.hid (BB.out.turned hT (by omega))
    have zX := hT.size
    have lS := hS.lt
    clear hS hT
    rename World => U
    by_cases hlt : k < xs.length
    · obtain ⟨ax, rfl, hcx⟩ := (HX.out.below HBW.out).getDk hlt
      obtain ⟨ay, rfl, hcy⟩ := (HY.out.below HBW.out).getDk (k := k) (by rw [← HLE.out]; exact hlt)
      have hayl := World.block_lt_of_cell? _ _ hcy
      have hb1 := smallB_atD HSX.out k
      have hb2 := smallB_atD HSY.out k
      have HF := Lib.hid (show fN sg xs yd k = sg * xs.getD k 0 * yd from rfl)
      have HG := Lib.hid (show fN sg ys xd k = sg * ys.getD k 0 * xd from rfl)
      have HOF := Lib.hid (ofZ_succ (fN sg xs yd) (fN sg ys xd) k)
      generalize xs.getD k 0 = xv at *
      generalize ys.getD k 0 = yv at *
      have hsx : -1073741824 ≤ sg * xv ∧ sg * xv ≤ 1073741824 := by rcases hs with e | e <;> rw [e] <;> omega
      have hsy : -1073741824 ≤ sg * yv ∧ sg * yv ≤ 1073741824 := by rcases hs with e | e <;> rw [e] <;> omega
      obtain ⟨hm1, hm2⟩ := mul_bound (sg * xv) yd 1073741824 1073741824 hsx.1 hsx.2 (by omega) dy2
      obtain ⟨hm3, hm4⟩ := mul_bound (sg * yv) xd 1073741824 1073741824 hsy.1 hsy.2 (by omega) dx2
      have hw1 : IntKind.i64.wrap (sg * xv) = sg * xv := IntWalk.i64_in _ (by omega)
      have hw2 : IntKind.i64.wrap (sg * xv * yd) = sg * xv * yd := IntWalk.i64_in _ (by omega)
      have hw3 : IntKind.i64.wrap (sg * yv) = sg * yv := IntWalk.i64_in _ (by omega)
      have hw4 : IntKind.i64.wrap (sg * yv * xd) = sg * yv * xd := IntWalk.i64_in _ (by omega)
      have HM := Lib.hid (show -4611686018427387904 ≤ sg * xv * yd ∧ sg * xv * yd ≤ 4611686018427387904 by omega)
      have s0 : ∀ u : Wk U, u.1.cell? ⟨w.heap.size, 1, none⟩ = some (.int .i64 xd) := fun u => (BA2.out.next u.2).cell 1
      have s1 : ∀ u : Wk U, u.1.cell? ⟨w.heap.size + 1, 0, none⟩ = some (.slice (some ay) xs.length cy) := fun u => (BB2.out.next u.2).cell 0
      have s2 : ∀ u : Wk U, u.1.cell? ⟨w.heap.size + 1, 1, none⟩ = some (.int .i64 yd) := fun u => (BB2.out.next u.2).cell 1
      have s3 : ∀ u : Wk U, u.1.cell? (ay.add k) = some (.int .i64 yv) := fun u => (u.2.cell hayl).trans hcy
      have hi0 : (k : Int) < (xs.length : Int) := by omega
      clear hb1 hb2 hsx hsy hm1 hm2 hm3 hm4 hcy
      go_wp2_with fail
      refine wk_tail 17 (by kernel_rfl) (by kernel_rfl) ?_
      simp only [List.take_succ_cons, List.take_zero, List.drop_succ_cons, List.drop_zero]
      repeat (go_big_quiet_step (fail))
      refine wpQuiet_nil ?_
      rintro w7 ⟨u7, rfl⟩
      go_wp2_with fail
      refine (span_below _ _ _ _ _ (HS.out.next u7.2) HM.out).mono ?_
      rintro e w8 ⟨rfl, hB8, hT8⟩
      have HB8 := Lib.hid hB8
      have HT8 := Lib.hid (HT.out.trans ((Turned.of_below u7.2).trans hT8))
      clear hB8 hT8
      go_wp2_with fail
      go_roundw
      case rel => exact ⟨k + 1, by omega, by go_num, by rw [HOF.out, HF.out, HG.out]; exact HB8.out, HT8.out⟩
      case measure => simp [intOf]; omega
    · obtain rfl : k = xs.length := by omega
      have BR2 := Lib.hid (BR.out.turned HT.out (by omega))
      have BQ2 := Lib.hid (BQ.out.turned HT.out (by omega))
      go_wp2_with fail
      refine (span_ends _ _ _ HS.out).mono ?_
      rintro e w8 ⟨rfl, hb8⟩
      have z0 : w8.cell? ⟨w.heap.size + 1 + 1, 0, none⟩ = some (.bool false) := (BR2.out.next hb8).cell 0
      have z1 : w8.cell? ⟨w.heap.size + 1 + 1, 1, none⟩ = some (.int .i64 0) := (BR2.out.next hb8).cell 1
      have z2 : w8.cell? ⟨w.heap.size + 1 + 1, 2, none⟩ = some (.int .i64 0) := (BR2.out.next hb8).cell 2
      have z3 : w8.cell? ⟨w.heap.size + 1 + 1 + 1, 0, none⟩ = some (.bool false) := (BQ2.out.next hb8).cell 0
      have z4 : w8.cell? ⟨w.heap.size + 1 + 1 + 1, 1, none⟩ = some (.int .i64 0) := (BQ2.out.next hb8).cell 1
      have z5 : w8.cell? ⟨w.heap.size + 1 + 1 + 1, 2, none⟩ = some (.int .i64 0) := (BQ2.out.next hb8).cell 2
      have y0 := (BR2.out.next hb8).frozen 0
      have y1 := (BR2.out.next hb8).frozen 1
      have y2 := (BR2.out.next hb8).frozen 2
      have y3 := (BQ2.out.next hb8).frozen 0
      have y4 := (BQ2.out.next hb8).frozen 1
      have y5 := (BQ2.out.next hb8).frozen 2
      have HB8 := Lib.hid (HBW.out.trans (hb8.mono HBW.out.size))
      clear hb8
      generalize endsF (ofZ (fN sg xs yd) (fN sg ys xd) xs.length) = ef at *
      generalize endsT (ofZ (fN sg xs yd) (fN sg ys xd) xs.length) = et at *
      generalize endsE (ofZ (fN sg xs yd) (fN sg ys xd) xs.length) = ee at *
      go_wp2_with fail
      refine bodyPost_ret (v := .tuple #[.agg #[.bool ef.op, .int .i64 ef.n, .int .i64 ef.d], .agg #[.bool et.op, .int .i64 et.n, .int .i64 et.d], .int .i64 ee]) ?_ ?_ ?_
      · simp [results, Try.results135, go_sem, z0, z1, z2, z3, z4, z5]
      · rfl
      · refine ⟨rfl, ?_⟩
        iterate 6 refine Below.setCell ?_ (by first | (simp; done) | (simp; omega)) _
        exact HB8.out
end Go.Proofs.Ytjcdkbalhleeeab
