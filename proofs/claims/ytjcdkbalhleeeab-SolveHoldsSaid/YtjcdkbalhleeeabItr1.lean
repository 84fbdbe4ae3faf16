/-
  Solve: the iterator over all corners hands each corner in its turn: its columns, and what they come to. Conditions: the program may be, and lies with its two sizes in boxes that the rounds keep.
-/
import Derived.Test.YtjcdkbalhleeeabPlainA
import Derived.Test.YtjcdkbalhleeeabLook2
import Derived.Test.YtjcdkbalhleeeabNxt2
import Derived.Laws.BitsLemmas
import Derived.TacticsInMore
import Derived.LoopIn
import Derived.OwnWalkIn
import Derived.Shelf.RegionOpen
namespace Go.Proofs.Ytjcdkbalhleeeab
open Go.RowKit

theorem i64_and1 (n : Nat) (h : n < 4611686018427387904) : bits .and .i64 (n : Int) 1 = ((n % 2 : Nat) : Int) := by
  have := (bits_nat .i64 62 (by decide) (fun n h0 h1 => IntWalk.i64_in _ (by omega)) n 1 (by omega) (by omega)).1
  rw [show ((1 : Nat) : Int) = 1 from rfl] at this
  rw [this, Nat.and_one_is_mod]
theorem bit_and (s q : Nat) (hs : s < 4611686018427387904) : bits .and .i64 ((s : Int) / 2 ^ q) 1 = if s.testBit q = true then 1 else 0 := by
  have e : (s : Int) / 2 ^ q = ((s / 2 ^ q : Nat) : Int) := by simp
  have h1 : s / 2 ^ q ≤ s := Nat.div_le_self _ _
  rw [e, i64_and1 _ (by omega), Nat.testBit_eq_decide_div_mod_eq]
  by_cases h : s / 2 ^ q % 2 = 1
  · rw [if_pos (by simpa using h), h]; rfl
  · rw [if_neg (by simpa using h), show s / 2 ^ q % 2 = 0 by omega]; rfl
/-- What the k-th round is handed. -/
def CornE (B : Nat) (p : PG) (k : Nat) (args : Array Value) (W : World) : Prop :=
  ∃ L cl X cx Y cy G cg, args = #[.slice L ((cornersZ p).getD k []).length cl, .agg #[.slice X (lookN p ((cornersZ p).getD k [])).xs.length cx, .int .i64 (lookN p ((cornersZ p).getD k [])).xd, .slice Y (lookN p ((cornersZ p).getD k [])).ys.length cy, .int .i64 (lookN p ((cornersZ p).getD k [])).yd, .slice G (lookN p ((cornersZ p).getD k [])).gs.length cg, .int .i64 (lookN p ((cornersZ p).getD k [])).gd]] ∧
    Rd W L cl (ints ((cornersZ p).getD k [])) ∧ CnN W X cx Y cy G cg (lookN p ((cornersZ p).getD k [])) ∧ ∀ ad, L = some ad → B ≤ ad.block

/-- The blocks of the iterator's boxes, and what lies below n₀. -/
structure BoxC (S : Nat → Prop) (w0 : World) (b1 b2 b3 : Nat) (A : Option Addr) (c : Nat) (A2 : Option Addr) (c2 : Nat) (p : PG) : Prop where
  s1 : S b1
  s2 : S b2
  s3 : S b3
  k1 : w0.cell? ⟨b1, 0, none⟩ = some (.int .i64 p.costs.length)
  k2 : w0.cell? ⟨b2, 0, none⟩ = some (.int .i64 p.rows.length)
  k3 : w0.cell? ⟨b3, 0, none⟩ = some (.slice A p.costs.length c)
  k4 : w0.cell? ⟨b3, 1, none⟩ = some (.slice A2 p.rows.length c2)
  pg : ∀ w, KS S w0 w → Pg w A c A2 c2 p
attribute [local go_sem] Oper.semAt_some
set_option maxRecDepth 100000 in
set_option maxHeartbeats 4000000 in
theorem corners_iter (S : Nat → Prop) (w0 : World) (b1 b2 b3 : Nat) (A : Option Addr) (c : Nat) (A2 : Option Addr) (c2 : Nat) (p : PG) (hp : BoxC S w0 b1 b2 b3 A c A2 c2 p) (hm : mayPB p = true) :
    IterC Try.prog 98 #[.pointer (some ⟨b1, 0, none⟩), .pointer (some ⟨b2, 0, none⟩), .pointer (some ⟨b3, 0, none⟩)] S (cornersZ p).length (CornE w0.heap.size p) w0 := by
  intro l J Jx W hW hJ hJx hY h0
  have hm' := mayPB_iff.1 hm
  obtain ⟨m1, m2, m3, m4, _⟩ := hm'
  have HY := Lib.hid hY
  have HJ := Lib.hid hJ
  have HJX := Lib.hid hJx
  have HP := Lib.hid hp
  have HW := Lib.hid hW
  have HM := Lib.hid hm
  have H0 := Lib.hid h0
  have p1 : W.cell? ⟨b1, 0, none⟩ = some (.int .i64 p.costs.length) := hW.cell hp.s1 hp.k1
  have p2 : W.cell? ⟨b2, 0, none⟩ = some (.int .i64 p.rows.length) := hW.cell hp.s2 hp.k2
  obtain ⟨N, hN⟩ : ∃ N, p.costs.length + p.rows.length = N := ⟨_, rfl⟩
  have hw1 : IntKind.i64.wrap ((p.costs.length : Int) + (p.rows.length : Int)) = (N : Int) := by rw [← hN, IntWalk.i64_in _ (by omega)]; omega
  have hN8 : N ≤ 8 := by omega
  have hM := Nat.pow_le_pow_right (n := 2) (by omega) hN8
  have hM0 := Nat.pow_pos (n := N) (show 0 < 2 by omega)
  obtain ⟨M, hMM⟩ : ∃ M : Nat, M = 2 ^ N := ⟨_, rfl⟩
  have HMM := Lib.hid hMM
  have hw2 : IntKind.i64.wrap ((2 : Int) ^ N) = (M : Int) := by
    have e : ((2 : Int) ^ N) = (M : Int) := by rw [hMM]; simp
    rw [e, IntWalk.i64_in _ (by omega)]
  rw [← hMM] at hM hM0
  replace hM : M ≤ 256 := hM
  have HNN := Lib.hid hN
  clear hY hJ hJx hp hW hm h0 hMM hN
  refine (callsIn_wide (n := 0)).1 (callsIn_of_wp Try.func98 rfl trivial ?_ rfl)
  simp only [Try.ntmps98, List.size_toArray, List.length_cons, List.length_nil, Nat.reduceAdd, Nat.reduceSub, Array.replicate_succ, Array.replicate_zero, List.push_toArray, List.append_toArray, List.nil_append, List.cons_append]
  gi_wp2_with fail
  gi_loopw [14] (fun i wx => ∃ s : Nat, i = .int .i64 s ∧ s ≤ M ∧ KS S W wx ∧ J (cornK p s).length wx) (fun i _ => M - (intOf i).toNat)
  case atStart => exact ⟨0, rfl, by omega, KS.refl _ _, H0.out⟩
  case round =>
    obtain ⟨s, rfl, hs, hks, hJs⟩ := hrel
    rename World => U
    have HK := Lib.hid hks
    have HJS := Lib.hid hJs
    have q1 : U.cell? ⟨b1, 0, none⟩ = some (.int .i64 p.costs.length) := hks.cell HP.out.s1 p1
    have q2 : U.cell? ⟨b2, 0, none⟩ = some (.int .i64 p.rows.length) := hks.cell HP.out.s2 p2
    clear hks hJs
    by_cases hlt : s < M
    · have hi0 : (s : Int) < (M : Int) := by omega
      gi_wp2_with fail
      refine wpIn_wide.2 ?_
      go_loopw [6, 20] (fun v j wx => ∃ q : Nat, q ≤ N ∧ j = .int .i64 q ∧ wx.ownsRow U.heap.size 3 1 v (bitsN q s).length ((ints (bitsN q s)).map (Value.int .i64)) ∧ Below U.heap.size U wx) (fun _ j _ => N - (intOf j).toNat)
      case atStart => exact ⟨0, by omega, rfl, World.ownsRow_nil _ _ _ _, Below.refl _ _⟩
      case round =>
        obtain ⟨q, hq, rfl, hown, hbel⟩ := hrel
        rename World => U1
        have HO := Lib.hid hown
        have HB := Lib.hid hbel
        clear hown hbel
        by_cases hqn : q < N
        · have hi1 : (q : Int) < (N : Int) := by omega
          have hbl := bits_len_le q s
          have HSUC := Lib.hid (bits_succ q s)
          have HBA := Lib.hid (bit_and s q (by omega))
          by_cases htb : s.testBit q = true
          · have hb1 : bits .and .i64 ((s : Int) / 2 ^ q) 1 = 1 := by rw [HBA.out, if_pos htb]
            have HS1 := Lib.hid (show bitsN (q + 1) s = bitsN q s ++ [q] by rw [HSUC.out, if_pos htb])
            clear htb
            go_wp2_with (at_builtin; refine list_app1 rfl (.tmp 28) (.tmp 30) _ _ _ 8 und_intS1 inf_intS1 rfl rfl U.heap.size _ _ _ _ rfl (HO.out.alloc _) _ 1 rfl (cell_new1 _ _ _) rfl (by unfold maxLen; omega) (by omega) (by have := HB.out.size; simp; omega) ?_; intro g1 cap1 w1 hown1 hg1 hat1 hlt1)
            have HB1 := Lib.hid ((HB.out.alloc HB.out.size _).grown hg1 (by have := HB.out.size; simp; omega) (fun j e => (HO.out.lt j e).1))
            have HO1 := Lib.hid hown1
            clear hown1 hg1 hat1
            go_roundw
            case rel => exact ⟨q + 1, by omega, by go_num, by rw [HS1.out, intsN_app, List.map_append, List.length_append]; exact HO1.out, HB1.out⟩
            case measure => simp [intOf]; omega
          · have hb1 : bits .and .i64 ((s : Int) / 2 ^ q) 1 = 0 := by rw [HBA.out, if_neg htb]
            have HS1 := Lib.hid (show bitsN (q + 1) s = bitsN q s by rw [HSUC.out, if_neg htb, List.append_nil])
            clear htb
            go_wp2_with fail
            go_roundw
            case rel => exact ⟨q + 1, by omega, by go_num, by rw [HS1.out]; exact HO.out, HB.out⟩
            case measure => simp [intOf]; omega
        · obtain rfl : q = N := by omega
          have hbl := bits_len_le q s
          have hil : (ints (bitsN q s)).length = (bitsN q s).length := intsN_len _
          obtain ⟨O, co, rfl, hR, hOL⟩ := Rd.of_ownv (l := ints (bitsN q s)) HO.out hil.symm (by rw [hil]; omega)
          rw [hil]
          have HR := Lib.hid hR
          have HOL := Lib.hid (fun ad (e : O = some ad) => show w0.heap.size ≤ ad.block from by have := hOL ad e; have := HW.out.size; have := HK.out.size; omega)
          clear hOL
          have zB := HB.out.size
          have q2' : U1.cell? ⟨b2, 0, none⟩ = some (.int .i64 p.rows.length) := (HB.out.cell (World.block_lt_of_cell? _ _ q2)).trans q2
          have HK1 := Lib.hid (HK.out.next HB.out)
          have HJ1 := Lib.hid (HJ.out _ _ _ HJS.out HB.out)
          have q3 : U1.cell? ⟨b3, 0, none⟩ = some (.slice A p.costs.length c) := (HW.out.trans HK1.out).cell HP.out.s3 HP.out.k3
          have q4 : U1.cell? ⟨b3, 1, none⟩ = some (.slice A2 p.rows.length c2) := (HW.out.trans HK1.out).cell HP.out.s3 HP.out.k4
          clear hR hil
          have HLK := Lib.hid (corner_Look A c A2 c2 p O (ints (bitsN q s)) co U1 (HP.out.pg _ (HW.out.trans HK1.out)) HR.out)
          rw [intsN_len] at HLK
          have HAT := Lib.hid (fun h => cornK_at (p := p) (s := s) (by rw [HNN.out, ← HMM.out]; exact hlt) h)
          have HSC := Lib.hid (cornK_succ p s)
          have hOK : okC p (bitsN q s) = (decide ((bitsN q s).length = p.rows.length) && decide (lookE p (ints (bitsN q s)) = 0)) := rfl
          have HOKC := Lib.hid hOK
          obtain ⟨lb, hlb⟩ : ∃ lb, bitsN q s = lb := ⟨_, rfl⟩
          have HLB := Lib.hid hlb
          rw [HNN.out, hlb] at HAT HSC
          rw [hlb] at HR HLK HOKC hbl HO ⊢
          clear hOK hlb HO
          obtain ⟨ce, hce⟩ : ∃ ce, lookE p (ints lb) = ce := ⟨_, rfl⟩
          rw [hce] at HLK HOKC
          have HCE := Lib.hid hce
          clear hce
          go_wp2_with fail
          gi_wp2_with fail
          refine ⟨trivial, rfl, ?_⟩
          refine (callsIn_wide.2 HLK.out).mono ?_
          rintro e w2 ⟨X, cx, Y, cy, G, cg, rfl, hX, hY, hG, hb2⟩
          have HCn := Lib.hid (CnN.mk hX hY hG)
          have H2 := Lib.hid hb2
          have r2 := (hb2.cell (World.block_lt_of_cell? _ _ q2')).trans q2'
          have lb2 := World.block_lt_of_cell? _ _ r2
          clear hX hY hG hb2 q2' q3 q4 q1 q2 p1 p2
          have HVL := (Below.refl w2.heap.size w2).alloc (Nat.le_refl _) (.cells #[.slice X (lookC p (ints lb)).xs.length cx, .int .i64 (lookC p (ints lb)).xd, .slice Y (lookC p (ints lb)).ys.length cy, .int .i64 (lookC p (ints lb)).yd, .slice G (lookC p (ints lb)).gs.length cg, .int .i64 (lookC p (ints lb)).gd] 42)
          have HK2 := Lib.hid (HK1.out.next H2.out |>.next HVL)
          have HJ2 := Lib.hid (HJ.out _ _ _ (HJ.out _ _ _ HJ1.out H2.out) HVL)
          have HE := Lib.hid (show okC p lb = true → CornE w0.heap.size p (cornK p s).length #[.slice O lb.length co, .agg #[.slice X (lookC p (ints lb)).xs.length cx, .int .i64 (lookC p (ints lb)).xd, .slice Y (lookC p (ints lb)).ys.length cy, .int .i64 (lookC p (ints lb)).yd, .slice G (lookC p (ints lb)).gs.length cg, .int .i64 (lookC p (ints lb)).gd]] (w2.alloc (.cells #[.slice X (lookC p (ints lb)).xs.length cx, .int .i64 (lookC p (ints lb)).xd, .slice Y (lookC p (ints lb)).ys.length cy, .int .i64 (lookC p (ints lb)).yd, .slice G (lookC p (ints lb)).gs.length cg, .int .i64 (lookC p (ints lb)).gd] 42)) from fun h => by
            unfold CornE
            rw [(HAT.out h).2]
            exact ⟨O, co, X, cx, Y, cy, G, cg, rfl, (HR.out.below H2.out).below HVL, HCn.out.below HVL, HOL.out⟩)
          clear HVL
          by_cases hlen : lb.length = p.rows.length
          · have hlz : (lb.length : Int) = (p.rows.length : Int) := by omega
            by_cases hc0 : ce = 0
            · have HTR := Lib.hid (show okC p lb = true by rw [HOKC.out]; simp [hlen, hc0])
              subst hc0
              obtain ⟨fn, tmps, assign, body, hy, hR⟩ := HY.out _ _ _ (HAT.out HTR.out).1 HJ2.out (HW.out.trans HK2.out) (HE.out HTR.out)
              rw [hlen] at hy
              gi_wp2_with fail
              refine ⟨rfl, ?_⟩
              refine hR.mono ?_
              rintro e W3 (⟨rfl, hJ3, hk3⟩ | ⟨rfl, hJx3⟩)
              · have HJ3 := Lib.hid hJ3
                have HK3 := Lib.hid (HK2.out.trans hk3)
                clear hJ3 hk3
                gi_wp2_with fail
                go_roundw
                case rel => exact ⟨s + 1, by go_num, by omega, HK3.out, by rw [HSC.out, if_pos HTR.out, List.length_append]; exact HJ3.out⟩
                case measure => simp [intOf]; omega
              · have HJX3 := Lib.hid hJx3
                clear hJx3
                gi_wp2_with fail
                refine bodyPost_ret (results_none rfl _ _ _) rfl ?_
                exact ⟨⟨_, rfl⟩, .inr ⟨_, (HAT.out HTR.out).1, HJX3.out⟩⟩
            · have HFA := Lib.hid (show okC p lb = false by rw [HOKC.out]; simp [hlen, hc0])
              have hcz : (ce == 0) = false := by simpa using hc0
              gi_wp2_with fail
              refine ⟨fun _ h => (by cases h), ?_⟩
              gi_wp2_with fail
              go_roundw
              case rel => exact ⟨s + 1, by go_num, by omega, HK2.out, by rw [HSC.out, if_neg (by rw [HFA.out]; simp), List.append_nil]; exact HJ2.out⟩
              case measure => simp [intOf]; omega
          · have HFA := Lib.hid (show okC p lb = false by rw [HOKC.out]; simp [hlen])
            have hlz : ¬ (lb.length : Int) = (p.rows.length : Int) := by omega
            have hlz' : ((lb.length : Int) == (p.rows.length : Int)) = false := by simp; omega
            gi_wp2_with fail
            refine ⟨fun _ h => (by cases h), ?_⟩
            gi_wp2_with fail
            go_roundw
            case rel => exact ⟨s + 1, by go_num, by omega, HK2.out, by rw [HSC.out, if_neg (by rw [HFA.out]; simp), List.append_nil]; exact HJ2.out⟩
            case measure => simp [intOf]; omega
    · obtain rfl : s = M := by omega
      gi_wp2_with fail
      go_end0
      exact ⟨⟨_, rfl⟩, .inl (by rw [← cornK_all, HNN.out, ← HMM.out]; exact HJS.out)⟩
end Go.Proofs.Ytjcdkbalhleeeab
