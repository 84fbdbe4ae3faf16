/-
  Contracts of functions and plain laws that later parts of the proof use. The conditions stand in each theorem.
-/
import Derived.Test.YtjcdkbalhleeeabG22
import Derived.Test.YtjcdkbalhleeeabG14
import Derived.WalkSpells
import Derived.Test.YtjcdkbalhleeeabG13
import Derived.Test.YtjcdkbalhleeeabG03
import Derived.Test.YtjcdkbalhleeeabG10
import Derived.Test.YtjcdkbalhleeeabG16
import Derived.Test.YtjcdkbalhleeeabG06
import Derived.Test.YtjcdkbalhleeeabG02
import Derived.Test.YtjcdkbalhleeeabG07
import Derived.Test.YtjcdkbalhleeeabG01
import Derived.Test.YtjcdkbalhleeeabG21
namespace Go.Proofs.Ytjcdkbalhleeeab
open Go.RowKit Go.Sort

/-- All columns that are right are handed back. -/
def RetAl (w : World) (p : PG) (e : Ending) (w' : World) : Prop :=
  Below w.heap.size w w' ∧ ∃ A c, e = .returned (.slice A (allA p).length c) ∧ Ls w' A c ((List.range (allA p).length).map fun i => ints ((allA p).getD i []))
theorem range_ints_succ (i : Nat) : (ints (List.range (i + 1))).map (Value.int .i64) = (ints (List.range i)).map (Value.int .i64) ++ [.int .i64 (i : Int)] := by
  rw [List.range_succ]; simp [ints]
set_option maxRecDepth 100000 in
set_option maxHeartbeats 4000000 in
theorem ref3_All (A : Option Addr) (c : Nat) (A2 : Option Addr) (c2 : Nat) (p : PG) (w : World) (hp : Pg w A c A2 c2 p) (hm : mayPB p = true) :
    Calls Try.prog 59 #[.agg #[.slice A p.costs.length c, .slice A2 p.rows.length c2]] w (RetAl w p) := by
  have HP := Lib.hid hp
  have HM := Lib.hid hm
  obtain ⟨m1, m2, m3, m4, _⟩ := mayPB_iff.1 hm
  obtain ⟨hal, _, _⟩ := all_parts hm
  have hap := all_pos' hm
  obtain ⟨⟨hl, hc, hsm, _⟩, ⟨hl2, hc2, hsm2, _⟩⟩ := hp
  clear hm
  go_enter Try.func59, Try.ntmps59
  go_upto_region 3 with fail
  have BP := Lib.hid (Blk.mk' w 25 #[.slice A p.costs.length c, .slice A2 p.rows.length c2])
  have HW := Lib.hid ((Below.refl w.heap.size w).alloc (Nat.le_refl _) (.cells #[.slice A p.costs.length c, .slice A2 p.rows.length c2] 25))
  generalize (w.alloc (.cells #[.slice A p.costs.length c, .slice A2 p.rows.length c2] 25)) = W at *
  have zW := HW.out.size
  have lP := BP.out.lt
  go_wp2_with fail
  go_loopw [4, 5] (fun s4 s5 wx => ∃ i : Nat, i ≤ p.rows.length ∧ s5 = .int .i64 i ∧ wx.ownsRow W.heap.size 3 1 s4 i ((ints (List.range i)).map (Value.int .i64)) ∧ Below W.heap.size W wx) (fun _ s5 _ => p.rows.length - (intOf s5).toNat)
  case atStart => exact ⟨0, by omega, rfl, World.ownsRow_nil _ _ _ _, Below.refl _ _⟩
  case round =>
    obtain ⟨i, hi, rfl, hown, hbel⟩ := hrel
    rename World => U
    have HO := Lib.hid hown
    have HU := Lib.hid hbel
    have zU := hbel.size
    have q1 : U.cell? ⟨w.heap.size, 1, none⟩ = some (.slice A2 p.rows.length c2) := (BP.out.next hbel).cell 1
    clear hown hbel
    by_cases hlt : i < p.rows.length
    · have hi0 : (i : Int) < (p.rows.length : Int) := by omega
      have HRS := Lib.hid (range_ints_succ i)
      go_wp2_with (at_builtin; refine list_app1 rfl (.tmp 13) (.tmp 15) _ _ _ 8 und_intS1 inf_intS1 rfl rfl W.heap.size u4 i _ _ rfl (HO.out.alloc _) _ 1 rfl (cell_new1 _ _ _) rfl (by unfold maxLen; omega) (by omega) (by simp; omega) ?_; intro g cap w5 hown5 hg5 hat5 hlt5; have HO5 := Lib.hid hown5; have H5 := Lib.hid ((HU.out.alloc zU _).grown hg5 (by simp; omega) (own_ge HO.out (Nat.le_refl _))); clear hown5 hg5 hat5)
      go_roundw
      case rel => exact ⟨i + 1, by omega, by go_num, by rw [HRS.out]; exact HO5.out, H5.out⟩
      case measure => simp [intOf]; omega
    · obtain rfl : i = p.rows.length := by omega
      have hrl : (ints (List.range p.rows.length)).length = p.rows.length := by simp [ints]
      obtain ⟨O, co, rfl, hR, hOL⟩ := Rd.of_ownv (l := ints (List.range p.rows.length)) HO.out hrl.symm (by rw [hrl]; omega)
      rw [hrl]
      have HR := Lib.hid hR
      have HOB := Lib.hid (fun ad (e : O = some ad) => (show ad.block < U.heap.size from hR.blk_lt (by rw [hrl]; omega) ad e))
      clear hR hOL
      go_wp2_with fail
      go_loopw [3, 4] (fun s3 s4 wx => ∃ (k : Nat) (lk : List Nat) (O' : Option Addr) (co' : Nat) (As : Nat → Option Addr) (cs : Nat → Nat), k ≤ (allA p).length ∧ s4 = .slice O' lk.length co' ∧ Hid (k < (allA p).length → lk = (allA p).getD k []) ∧ Hid (k = (allA p).length → lk = []) ∧ Rd wx O' co' (ints lk) ∧
          LsB wx U.heap.size s3 k As cs (fun i => ints ((allA p).getD i [])) ∧ (∀ ad, O' = some ad → s3.ownBlock ≠ some ad.block ∧ ad.block < wx.heap.size) ∧ (∀ i, i < k → ∀ ad, As i = some ad → ad.block < wx.heap.size) ∧ Below U.heap.size U wx) (fun s3 _ _ => (allA p).length - lenV s3)
      case atStart =>
        exact ⟨0, List.range p.rows.length, O, co, fun _ => none, fun _ => 0, by omega, by simp, Lib.hid fun _ => all_zero.symm, Lib.hid fun h => by omega, HR.out, LsB.nil _ _ _ _ _, fun ad e => ⟨by simp [Value.ownBlock], HOB.out ad e⟩, fun i hi => by omega, Below.refl _ _⟩
      case round =>
        obtain ⟨k, lk, O', co', As, cs, hk, rfl, hk1, hk2, hO', hLs, hap', hAs, hbel⟩ := hrel
        rename World => V
        have HRO := Lib.hid hO'
        have HLs := Lib.hid hLs
        have HAP := Lib.hid hap'
        have HAS := Lib.hid hAs
        have HV := Lib.hid hbel
        have zV := hbel.size
        have hlen := LsB.len hLs
        have HB := Lib.hid (HW.out.trans ((HU.out.trans (hbel.mono zU)).mono zW))
        by_cases hkl : k < (allA p).length
        · obtain rfl := hk1.out hkl
          have hrt := all_right HM.out hkl
          have hll := hrt.len
          have HRT := Lib.hid hrt
          have HNX := Lib.hid (all_next HM.out hkl)
          obtain ⟨lk, hlk⟩ : ∃ lk, (allA p).getD k [] = lk := ⟨_, rfl⟩
          have HLK := Lib.hid hlk
          rw [hlk] at HRO HRT HNX hll ⊢
          have hl1 : 1 ≤ lk.length := by omega
          have hl4 : lk.length ≤ 4 := by omega
          clear hll
          have p0 : V.cell? ⟨w.heap.size, 0, none⟩ = some (.slice A p.costs.length c) := (BP.out.next (HU.out.trans (HV.out.mono zU))).cell 0
          have p1 : V.cell? ⟨w.heap.size, 1, none⟩ = some (.slice A2 p.rows.length c2) := (BP.out.next (HU.out.trans (HV.out.mono zU))).cell 1
          have h0 : (0 : Int) < (lk.length : Int) := by omega
          have HPU := Lib.hid (fun (o : Obj) (g cap : Nat) (w5 : World) (hown : w5.ownsRow U.heap.size 26 1 (.slice (some ⟨g, 0, none⟩) (k + 1) cap) (k + 1) (((List.range k).map fun i => Value.slice (As i) (ints ((allA p).getD i [])).length (cs i)) ++ [.slice O' lk.length co']))
              (hg : (V.alloc o).grownBy w5 u3.ownBlock) (hat : u3.ownBlock = some g ∨ g = (V.alloc o).heap.size) =>
            (HLs.out.below ((Below.refl _ _).alloc (Nat.le_refl _) o)).push (A := O') (c := co') (o := g) (cap := cap) (by show Rd _ O' co' (ints ((allA p).getD k [])); rw [HLK.out]; exact HRO.out.alloc o) (fun ad e => (HAP.out ad e).1)
              (fun ad e => by have := (HAP.out ad e).2; simp; omega) (fun i hi ad e => by have := HAS.out i hi ad e; simp; omega)
              (by show World.ownsRow _ _ _ _ _ _ (_ ++ [.slice O' (ints ((allA p).getD k [])).length co']); rw [HLK.out, show (ints lk).length = lk.length by simp [ints]]; exact hown) hg hat)
          clear hk1 hk2 hO' hLs hap' hAs hbel hlk hrt
          go_wp2_with (at_builtin; refine list_appS rfl (.tmp 20) (.tmp 22) rfl U.heap.size u3 k _ (.slice O' lk.length co') rfl (own_below HLs.out.own ((Below.refl _ _).alloc (Nat.le_refl _) _)) _ 1 rfl (cell_new1 _ _ _) rfl (by omega) (by simp; omega) ?_; intro g cap w5 hown5 hg5 hat5 hlt5; refine Hid.out ?_)
          refine Lib.hid ?_
          have HLP := Lib.hid (HPU.out _ g cap w5 hown5 hg5 hat5)
          have HB5 := Lib.hid ((HV.out.alloc zV _).grown hg5 (by simp; omega) (fun j e => (HLs.out.own.lt j e).1))
          have HR5 := Lib.hid ((HRO.out.alloc _).grown' hg5 (fun ad e => (HAP.out ad e).1))
          have HG := Lib.hid (show g < w5.heap.size ∧ (∀ ad, O' = some ad → ad.block < w5.heap.size) ∧ ∀ i, i < k → ∀ ad, As i = some ad → ad.block < w5.heap.size from by
            have z5 := hg5.size
            simp only [World.size_alloc] at z5 hat5
            exact ⟨hlt5, fun ad e => by have := (HAP.out ad e).2; omega, fun i hi ad e => by have := HAS.out i hi ad e; omega⟩)
          have q0 : w5.cell? ⟨w.heap.size, 0, none⟩ = some (.slice A p.costs.length c) := (BP.out.next (HU.out.trans (HB5.out.mono zU))).cell 0
          have q1' : w5.cell? ⟨w.heap.size, 1, none⟩ = some (.slice A2 p.rows.length c2) := (BP.out.next (HU.out.trans (HB5.out.mono zU))).cell 1
          clear hown5 hg5 hat5 p0 p1 q1
          obtain ⟨N, hN⟩ : ∃ N, p.costs.length + p.rows.length = N := ⟨_, rfl⟩
          have HNX2 := Lib.hid (show Calls Try.prog 104 #[.slice O' lk.length co', .int .i64 N] w5 (RetNn w5 N lk) from
            ref3_next O' lk co' N w5 HR5.out hl1 hl4 (fun j => by
              by_cases hj : j < lk.length
              · have := HRT.out.lt _ (mem_getD.2 ⟨j, hj, rfl⟩); omega
              · rw [List.getD, List.getElem?_eq_none (by omega)]; simp) (by omega))
          have hsum : (p.costs.length : Int) + (p.rows.length : Int) = N := by omega
          rw [hN] at HNX
          clear hN
          go_wp2_with fail
          refine HNX2.out.mono ?_
          rintro e w6 ⟨hb6, hn1, hn2⟩
          have H6 := Lib.hid hb6
          have z56 := hb6.size
          have HLP6 := Lib.hid (HLP.out.below hb6)
          have HB6 := Lib.hid (HB5.out.trans (hb6.mono HB5.out.size))
          clear hb6 q0 q1'
          by_cases hk1 : k + 1 < (allA p).length
          · have hx := HNX.out
            rw [if_pos hk1] at hx
            obtain ⟨ln, hln⟩ : ∃ ln, (allA p).getD (k + 1) [] = ln := ⟨_, rfl⟩
            have HLN := Lib.hid hln
            rw [hln] at hx
            clear hln
            obtain ⟨g6, cap6, rfl, hR6, hg6, hlt6⟩ := hn2 _ hx
            have HR6 := Lib.hid hR6
            clear hn1 hn2 hx hR6
            go_wp2_with fail
            go_roundw
            case rel =>
              refine ⟨k + 1, ln, _, _, _, _, by omega, rfl, Lib.hid fun _ => HLN.out.symm, Lib.hid fun h => by omega, HR6.out, HLP6.out, fun ad e => ?_, fun i hi ad e => ?_, HB6.out⟩
              · cases e
                exact ⟨fun q => by have h2 := HG.out.1; injection q with q; simp only at q; omega, hlt6⟩
              · by_cases hik : i = k
                · subst hik; simp only [if_true] at e; have := HG.out.2.1 ad e; omega
                · simp only [hik, if_false] at e; have := HG.out.2.2 i (by omega) ad e; omega
            case measure => rw [hlen]; simp [lenV]; omega
          · have hx := HNX.out
            rw [if_neg hk1] at hx
            obtain rfl := hn1 hx
            clear hn1 hn2 hx
            go_wp2_with fail
            go_roundw
            case rel =>
              refine ⟨k + 1, [], none, 0, _, _, by omega, rfl, Lib.hid fun h => by omega, Lib.hid fun _ => rfl, Rd.nil _, HLP6.out, fun ad e => (by cases e), fun i hi ad e => ?_, HB6.out⟩
              · by_cases hik : i = k
                · subst hik; simp only [if_true] at e; have := HG.out.2.1 ad e; omega
                · simp only [hik, if_false] at e; have := HG.out.2.2 i (by omega) ad e; omega
            case measure => rw [hlen]; simp [lenV]; omega
        · have hkk : k = (allA p).length := by omega
          have HKK := Lib.hid hkk
          obtain rfl := hk2.out hkk
          obtain ⟨g, cap, rfl⟩ := own_some HLs.out.own (by omega)
          have HRD := Lib.hid (HLs.out.read (by omega))
          subst hkk
          clear hk1 hk2 hO' hLs hap' hAs hbel
          go_wp2_with fail
          go_ret
          exact ⟨HB.out, _, _, rfl, HRD.out⟩
end Go.Proofs.Ytjcdkbalhleeeab

namespace Go.Proofs.Ytjcdkbalhleeeab
open Go.RowKit

/-- Behind the statement, where there is no corner. -/
def CutN (W : World) (s : Value) (wx : World) : Prop := s = .bool false ∧ Below W.heap.size W wx
end Go.Proofs.Ytjcdkbalhleeeab

namespace Go.Proofs.Ytjcdkbalhleeeab
open Go.RowKit

/-- Are all numbers 0 or below? -/
def nonpos (l : List Int) : Bool := l.all fun n => decide (n ≤ 0)

theorem ref3_Above (A : Option Addr) (l : List Int) (c : Nat) (d : Int) (w : World) (hr : Rd w A c l) :
    Calls Try.prog 14 #[.agg #[.slice A l.length c, .int .i64 d]] w fun e w' => e = .returned (.bool (nonneg l)) ∧ Below w.heap.size w w' := by
  have HR := Lib.hid hr
  obtain ⟨hl, hc, hsm, _⟩ := hr
  go_enter Try.func14, Try.ntmps14
  go_wp2_with fail
  go_loop [3] (fun i => ∃ k : Nat, k ≤ l.length ∧ i = .int .i64 k ∧ nonneg (l.take k) = true) (fun i => l.length - (intOf i).toNat)
  case atStart => exact ⟨0, by omega, rfl, rfl⟩
  case round =>
    obtain ⟨k, hk, rfl, hall⟩ := hrel
    have HA := Lib.hid hall
    clear hall
    by_cases hlt : k < l.length
    · obtain ⟨ad, rfl, hc1⟩ := HR.out.at_ hlt
      have hadl := World.block_lt_of_cell? _ _ hc1
      have hi0 : (k : Int) < (l.length : Int) := by omega
      by_cases hn : l[k] < 0
      · go_wp2_with fail
        go_ret
        exact ⟨ret_bool (by unfold nonneg; rw [all_false hlt (by simp; omega)]), (by (repeat (any_goals (first | exact Below.refl _ _ | refine below_drewN ?_ _ | refine Below.drew ?_ | refine Below.alloc ?_ ?_ _ | refine Below.setCell ?_ ?_ _))); all_goals (first | omega | (simp; done) | (simp; omega)))⟩
      · go_wp2_with fail
        go_round
        case rel => exact ⟨k + 1, by omega, by go_num, by have := HA.out; unfold nonneg at this ⊢; rw [all_take hlt, this]; simp; omega⟩
        case measure => simp [intOf]; omega
    · obtain rfl : k = l.length := by omega
      go_wp2_with fail
      go_ret
      exact ⟨ret_bool (by have := HA.out; rw [List.take_length] at this; rw [this]), (by (repeat (any_goals (first | exact Below.refl _ _ | refine below_drewN ?_ _ | refine Below.drew ?_ | refine Below.alloc ?_ ?_ _ | refine Below.setCell ?_ ?_ _))); all_goals (first | omega | (simp; done) | (simp; omega)))⟩
theorem ref3_Below (A : Option Addr) (l : List Int) (c : Nat) (d : Int) (w : World) (hr : Rd w A c l) :
    Calls Try.prog 74 #[.agg #[.slice A l.length c, .int .i64 d]] w fun e w' => e = .returned (.bool (nonpos l)) ∧ Below w.heap.size w w' := by
  have HR := Lib.hid hr
  obtain ⟨hl, hc, hsm, _⟩ := hr
  go_enter Try.func74, Try.ntmps74
  go_wp2_with fail
  go_loop [3] (fun i => ∃ k : Nat, k ≤ l.length ∧ i = .int .i64 k ∧ nonpos (l.take k) = true) (fun i => l.length - (intOf i).toNat)
  case atStart => exact ⟨0, by omega, rfl, rfl⟩
  case round =>
    obtain ⟨k, hk, rfl, hall⟩ := hrel
    have HA := Lib.hid hall
    clear hall
    by_cases hlt : k < l.length
    · obtain ⟨ad, rfl, hc1⟩ := HR.out.at_ hlt
      have hadl := World.block_lt_of_cell? _ _ hc1
      have hi0 : (k : Int) < (l.length : Int) := by omega
      by_cases hn : l[k] > 0
      · go_wp2_with fail
        go_ret
        exact ⟨ret_bool (by unfold nonpos; rw [all_false hlt (by simp; omega)]), (by (repeat (any_goals (first | exact Below.refl _ _ | refine below_drewN ?_ _ | refine Below.drew ?_ | refine Below.alloc ?_ ?_ _ | refine Below.setCell ?_ ?_ _))); all_goals (first | omega | (simp; done) | (simp; omega)))⟩
      · go_wp2_with fail
        go_round
        case rel => exact ⟨k + 1, by omega, by go_num, by have := HA.out; unfold nonpos at this ⊢; rw [all_take hlt, this]; simp; omega⟩
        case measure => simp [intOf]; omega
    · obtain rfl : k = l.length := by omega
      go_wp2_with fail
      go_ret
      exact ⟨ret_bool (by have := HA.out; rw [List.take_length] at this; rw [this]), (by (repeat (any_goals (first | exact Below.refl _ _ | refine below_drewN ?_ _ | refine Below.drew ?_ | refine Below.alloc ?_ ?_ _ | refine Below.setCell ?_ ?_ _))); all_goals (first | omega | (simp; done) | (simp; omega)))⟩

end Go.Proofs.Ytjcdkbalhleeeab

namespace Go.Proofs.Ytjcdkbalhleeeab
open Go.RowKit

/-- A corner and a truth are handed back: the columns and the gains read. -/
theorem step_callCk {P : Program} {ops : Array Oper} {K : Act → World → Prop} {E' : Prop} {o : Oper} {a : Act} {w : World} {Q : Exit → Act → World → Prop} (hg : o.guard = none) {f : FuncId} {args : Array Value} {c : CO} {b : Bool}
    (hrun : (execOp a.eval o).run P w = .ok (.enter f args) w) (hc : Calls P f args w (RetCb w c b))
    (hK : ∀ X cx Y cy G cg w', Rd w' X cx c.xs → Rd w' G cg c.gs → Below w.heap.size w w' → K (a.put o.dst (.tuple #[.agg #[.slice X c.xs.length cx, .int .i64 c.xd, .slice Y c.ys.length cy, .int .i64 c.yd, .slice G c.gs.length cg, .int .i64 c.gd], .bool b])) w') :
    if Region.wanted o (yielded ops a.tmps) = true then Oper.wp P o a w K Q else E' := by
  rw [if_pos (by simp [Region.wanted, hg])]
  unfold Oper.wp
  rw [hrun, Oper.upon_enter]
  exact hc.mono (by rintro _ _ ⟨X, cx, Y, cy, G, cg, rfl, hX, _, hG, hb⟩; exact hK X cx Y cy G cg _ hX hG hb)
def CutK (W : World) (c : CO) (v2 : Value) (s t : Value) (wx : World) : Prop :=
  ∃ b X cx Y cy G cg, s = .pointer (some ⟨b, 0, none⟩) ∧ t = v2 ∧ W.heap.size ≤ b ∧
    Blk wx b 42 #[.slice X c.xs.length cx, .int .i64 c.xd, .slice Y c.ys.length cy, .int .i64 c.yd, .slice G c.gs.length cg, .int .i64 c.gd] ∧ Rd wx X cx c.xs ∧ Rd wx G cg c.gs ∧ Below W.heap.size W wx
theorem cutK {W w5 : World} {b : Nat} {c : CO} {v2 : Value} {X Y G : Option Addr} {cx cy cg : Nat} {z0 z1 z2 z3 z4 z5 : Value} (hb : W.heap.size ≤ b) (hblk : Blk w5 b 42 #[z0, z1, z2, z3, z4, z5])
    (hX : Rd w5 X cx c.xs) (hne : ∀ ad, X = some ad → ad.block ≠ b) (hG : Rd w5 G cg c.gs) (hne' : ∀ ad, G = some ad → ad.block ≠ b) (hbel : Below W.heap.size W w5) :
    CutK W c v2 (.pointer (some ⟨b, 0, none⟩)) v2 ((((((w5.setCell ⟨b, 0, none⟩ (.slice X c.xs.length cx)).setCell ⟨b, 1, none⟩ (.int .i64 c.xd)).setCell ⟨b, 2, none⟩ (.slice Y c.ys.length cy)).setCell ⟨b, 3, none⟩ (.int .i64 c.yd)).setCell ⟨b, 4, none⟩ (.slice G c.gs.length cg)).setCell ⟨b, 5, none⟩ (.int .i64 c.gd)) :=
  ⟨b, X, cx, Y, cy, G, cg, rfl, rfl, hb, (((((hblk.set0 0 _).set0 1 _).set0 2 _).set0 3 _).set0 4 _).set0 5 _,
    (((((hX.setCell_out _ _ (fun ad e => hne ad e)).setCell_out _ _ (fun ad e => hne ad e)).setCell_out _ _ (fun ad e => hne ad e)).setCell_out _ _ (fun ad e => hne ad e)).setCell_out _ _ (fun ad e => hne ad e)).setCell_out _ _ (fun ad e => hne ad e),
    (((((hG.setCell_out _ _ (fun ad e => hne' ad e)).setCell_out _ _ (fun ad e => hne' ad e)).setCell_out _ _ (fun ad e => hne' ad e)).setCell_out _ _ (fun ad e => hne' ad e)).setCell_out _ _ (fun ad e => hne' ad e)).setCell_out _ _ (fun ad e => hne' ad e),
    (((((hbel.setCell hb _).setCell hb _).setCell hb _).setCell hb _).setCell hb _).setCell hb _⟩
theorem cutK_after {W w5 : World} {c : CO} {v2 : Value} {X Y G : Option Addr} {cx cy cg : Nat} (hX : Rd w5 X cx c.xs) (hG : Rd w5 G cg c.gs) (hbel : Below W.heap.size W w5) :
    CutK W c v2 (.pointer (some ⟨w5.heap.size, 0, none⟩)) v2 (w5.alloc (.cells #[.slice X c.xs.length cx, .int .i64 c.xd, .slice Y c.ys.length cy, .int .i64 c.yd, .slice G c.gs.length cg, .int .i64 c.gd] 42)) :=
  ⟨w5.heap.size, X, cx, Y, cy, G, cg, rfl, rfl, hbel.size, Blk.mk' _ _ _, hX.alloc _, hG.alloc _, hbel.alloc hbel.size _⟩
def anyG (p : PG) (k : Nat) : Bool := (List.range k).any fun i => goesC p ((allA p).getD i [])
theorem anyG_succ (p : PG) (k : Nat) : anyG p (k + 1) = (anyG p k || goesC p ((allA p).getD k [])) := by unfold anyG; rw [List.range_succ, List.any_append]; simp
theorem any_getD {f : List Nat → Bool} (l : List (List Nat)) : l.any f = (List.range l.length).any fun i => f (l.getD i []) := by
  rw [Bool.eq_iff_iff, List.any_eq_true, List.any_eq_true]
  constructor
  · rintro ⟨x, hx, hf⟩
    obtain ⟨j, hj, rfl⟩ := List.mem_iff_getElem.1 hx
    exact ⟨j, List.mem_range.2 hj, by simpa [List.getD, List.getElem?_eq_getElem hj] using hf⟩
  · rintro ⟨j, hj, hf⟩
    have hj := List.mem_range.1 hj
    exact ⟨l[j], List.getElem_mem hj, by simpa [List.getD, List.getElem?_eq_getElem hj] using hf⟩
theorem kindD_best {p : PG} {k : Nat} (hk : k < (allA p).length) (hb : bestB' p ((allA p).getD k []) = true) : kindD p = 1 := by
  unfold kindD
  rw [if_pos]
  rw [any_getD, List.any_eq_true]
  exact ⟨k, List.mem_range.2 hk, hb⟩
theorem kindD_end {p : PG} (hb : ∀ i, i < (allA p).length → bestB' p ((allA p).getD i []) = false) : kindD p = if anyG p (allA p).length = true then 2 else 3 := by
  unfold kindD anyG
  rw [if_neg, any_getD (f := goesC p)]
  rw [any_getD, List.any_eq_true]
  rintro ⟨i, hi, h⟩
  rw [hb i (List.mem_range.1 hi)] at h; cases h
set_option maxRecDepth 100000 in
set_option maxHeartbeats 20000000 in
theorem ref3_Kind (A : Option Addr) (c : Nat) (A2 : Option Addr) (c2 : Nat) (p : PG) (w : World) (hp : Pg w A c A2 c2 p) (hm : mayPB p = true) :
    Calls Try.prog 25 #[.agg #[.slice A p.costs.length c, .slice A2 p.rows.length c2]] w fun e w' => e = .returned (.int .i64 (kindD p)) ∧ Below w.heap.size w w' := by
  have HP := Lib.hid hp
  have HM := Lib.hid hm
  obtain ⟨m1, m2, m3, m4, _⟩ := mayPB_iff.1 hm
  obtain ⟨hal, _, _⟩ := all_parts hm
  have hap := all_pos' hm
  obtain ⟨⟨hl, hc, hsm, _⟩, ⟨hl2, hc2, hsm2, _⟩⟩ := hp
  clear hm
  go_enter Try.func25, Try.ntmps25
  go_upto_region 1 with fail
  have BP := Lib.hid (Blk.mk' w 25 #[.slice A p.costs.length c, .slice A2 p.rows.length c2])
  have HW := Lib.hid ((Below.refl w.heap.size w).alloc (Nat.le_refl _) (.cells #[.slice A p.costs.length c, .slice A2 p.rows.length c2] 25))
  generalize (w.alloc (.cells #[.slice A p.costs.length c, .slice A2 p.rows.length c2] 25)) = W at *
  have zW := HW.out.size
  have lP := BP.out.lt
  have p0 : W.cell? ⟨w.heap.size, 0, none⟩ = some (.slice A p.costs.length c) := BP.out.cell 0
  have p1 : W.cell? ⟨w.heap.size, 1, none⟩ = some (.slice A2 p.rows.length c2) := BP.out.cell 1
  go_wp2_with fail
  refine (ref3_All A c A2 c2 p W (HP.out.below HW.out) HM.out).mono ?_
  rintro e w1 ⟨hb1, A1, c1, rfl, hls⟩
  have HLS := Lib.hid hls
  have H1 := Lib.hid hb1
  have z1 := hb1.size
  have hlen : ((List.range (allA p).length).map fun i => ints ((allA p).getD i [])).length = (allA p).length := by simp
  have HLEN := Lib.hid hlen
  obtain ⟨ad1, _, _, rfl, _, _⟩ := hls.at_ (k := 0) (by rw [hlen]; exact hap)
  have hac := hls.le
  rw [hlen] at hac
  have hacc := hls.cap
  obtain ⟨na, hna⟩ : ∃ na, (allA p).length = na := ⟨_, rfl⟩
  have HNA := Lib.hid hna
  rw [hna] at hac hal hap ⊢
  clear hls hb1 hlen hna p0 p1
  go_wp2_with fail
  go_loopw [4, 5] (fun s4 s5 wx => ∃ i : Nat, i ≤ na ∧ s5 = .int .i64 i ∧ s4 = .bool (anyG p i) ∧ Hid (∀ j, j < i → bestB' p ((allA p).getD j []) = false) ∧ Below w1.heap.size w1 wx) (fun _ s5 _ => na - (intOf s5).toNat)
  case atStart => exact ⟨0, by omega, rfl, rfl, Lib.hid fun j hj => by omega, Below.refl _ _⟩
  case round =>
    obtain ⟨i, hi, rfl, rfl, hno, hbel⟩ := hrel
    rename World => U
    have HU := Lib.hid hbel
    have HB := Lib.hid (HW.out.trans ((H1.out.trans (hbel.mono z1)).mono zW))
    have p0 : U.cell? ⟨w.heap.size, 0, none⟩ = some (.slice A p.costs.length c) := (BP.out.next (H1.out.trans (hbel.mono z1))).cell 0
    have p1 : U.cell? ⟨w.heap.size, 1, none⟩ = some (.slice A2 p.rows.length c2) := (BP.out.next (H1.out.trans (hbel.mono z1))).cell 1
    have HLU := Lib.hid (HLS.out.below hbel)
    have zU := hbel.size
    clear hbel
    by_cases hlt : i < na
    · obtain ⟨_, A5, c5, e5, hcell, hRd⟩ := HLU.out.at_ (k := i) (by rw [HLEN.out, HNA.out]; exact hlt)
      injection e5 with e5
      subst e5
      have hgi : ((List.range (allA p).length).map fun i => ints ((allA p).getD i [])).getD i [] = ints ((allA p).getD i []) := by simp only [List.getD]; rw [List.getElem?_map, List.getElem?_range (by rw [HNA.out]; exact hlt)]; rfl
      rw [hgi] at hcell hRd
      rw [intsN_len] at hcell
      have HRT := Lib.hid (all_right HM.out (show i < (allA p).length by rw [HNA.out]; exact hlt))
      have HSUC := Lib.hid (anyG_succ p i)
      have hal1 := World.block_lt_of_cell? _ _ hcell
      have hi0 : (i : Int) < (na : Int) := by omega
      have a00 : ∀ o, (U.alloc o).cell? ⟨w.heap.size, 0, none⟩ = some (.slice A p.costs.length c) := fun o => (((Below.refl U.heap.size U).alloc (Nat.le_refl _) o).cell (World.block_lt_of_cell? _ _ p0)).trans p0
      have a01 : ∀ o, (U.alloc o).cell? ⟨w.heap.size, 1, none⟩ = some (.slice A2 p.rows.length c2) := fun o => (((Below.refl U.heap.size U).alloc (Nat.le_refl _) o).cell (World.block_lt_of_cell? _ _ p1)).trans p1
      have a02 : ∀ o, (U.alloc o).cell? (ad1.add i) = some (.slice A5 ((allA p).getD i []).length c5) := fun o => (((Below.refl U.heap.size U).alloc (Nat.le_refl _) o).cell hal1).trans hcell
      have HBST := Lib.hid (show bestB' p ((allA p).getD i []) = false → ∀ j, j < i + 1 → bestB' p ((allA p).getD j []) = false from fun h j hj => by
        by_cases e : j = i
        · subst e; exact h
        · exact hno.out j (by omega))
      have HBE := Lib.hid (fun h => kindD_best (p := p) (show i < (allA p).length by rw [HNA.out]; exact hlt) h)
      obtain ⟨lk, hlk⟩ : ∃ lk, (allA p).getD i [] = lk := ⟨_, rfl⟩
      rw [hlk] at hcell hRd HRT HSUC a02 HBST HBE
      have HLKE := Lib.hid hlk
      obtain ⟨ag, hag⟩ : ∃ ag, anyG p i = ag := ⟨_, rfl⟩
      rw [hag] at HSUC ⊢
      have HLK := Lib.hid (fun (u : World) (hu : Below U.heap.size U u) => show Calls Try.prog 36 #[.agg #[.slice A p.costs.length c, .slice A2 p.rows.length c2], .slice A5 lk.length c5] u (RetCb u (lookN p lk) (decide (lookE p (ints lk) = 0))) from by
        have := ref3_Look A c A2 c2 p A5 (ints lk) c5 u ((HP.out.below HB.out).below hu) (hRd.below hu) HM.out (right_ints HRT.out)
        rwa [intsN_len] at this)
      have hgc : goesC p lk = (decide (lookE p (ints lk) = 0) && nonneg (lookN p lk).xs) := rfl
      have hbc : bestB' p lk = (decide (lookE p (ints lk) = 0) && (nonneg (lookN p lk).xs && nonpos (lookN p lk).gs)) := rfl
      have HGC := Lib.hid hgc
      have HBC := Lib.hid hbc
      clear hno hgi hlk hag hRd hgc hbc
      cases hok : decide (lookE p (ints lk) = 0) with
      | false =>
        rw [hok] at HLK HGC HBC
        have HF := Lib.hid (HBST.out (by rw [HBC.out]; rfl))
        have HA := Lib.hid (show anyG p (i + 1) = ag by rw [HSUC.out, HGC.out]; simp)
        obtain ⟨dd, hdd⟩ : ∃ dd, lookN p lk = dd := ⟨_, rfl⟩
        rw [hdd] at HLK
        clear hok hdd HSUC HGC HBC HBST HBE
        go_upto_region 6 with fail
        go_cut [7] (fun s7 wx => CutN U s7 wx)
        case first =>
          clear HP HM BP HW H1 HLS HLEN HNA HB HLU HU HRT HLKE HF HA
          go_region_law (refine step_callCk (f := 36) rfl (by go_simp; done) (HLK.out _ (by first | exact (Below.refl _ _).drew | exact (Below.refl _ _).drew.alloc (Nat.le_refl _) _)) ?_; intro X5 cx5 Y5 cy5 G5 cg5 w5 hX5 hG5 hb5; try (have Bq : Blk w5 (U).heap.size 42 #[.slice none 0 0, .int .i64 0, .slice none 0 0, .int .i64 0, .slice none 0 0, .int .i64 0] := (by first | exact Blk.next (Blk.mk' _ _ _) hb5 | exact Blk.next ((Blk.mk' _ _ _).drew) hb5); have e0 : (w5).cell? ⟨(U).heap.size, 0, none⟩ = some (Value.slice none 0 0) := Bq.cell 0; have f0 : (w5).frozen? ⟨(U).heap.size, 0, none⟩ = false := Bq.frozen 0; have e1 : (w5).cell? ⟨(U).heap.size, 1, none⟩ = some (Value.int .i64 0) := Bq.cell 1; have f1 : (w5).frozen? ⟨(U).heap.size, 1, none⟩ = false := Bq.frozen 1; have e2 : (w5).cell? ⟨(U).heap.size, 2, none⟩ = some (Value.slice none 0 0) := Bq.cell 2; have f2 : (w5).frozen? ⟨(U).heap.size, 2, none⟩ = false := Bq.frozen 2; have e3 : (w5).cell? ⟨(U).heap.size, 3, none⟩ = some (Value.int .i64 0) := Bq.cell 3; have f3 : (w5).frozen? ⟨(U).heap.size, 3, none⟩ = false := Bq.frozen 3; have e4 : (w5).cell? ⟨(U).heap.size, 4, none⟩ = some (Value.slice none 0 0) := Bq.cell 4; have f4 : (w5).frozen? ⟨(U).heap.size, 4, none⟩ = false := Bq.frozen 4; have e5 : (w5).cell? ⟨(U).heap.size, 5, none⟩ = some (Value.int .i64 0) := Bq.cell 5; have f5 : (w5).frozen? ⟨(U).heap.size, 5, none⟩ = false := Bq.frozen 5))
          all_goals go_wp2_with fail
          all_goals go_meet
          all_goals first
            | (have hq := Bq
               have h5 : Below U.heap.size U w5 := Below.trans (B := U.heap.size) ((Below.refl _ _).drew.alloc (Nat.le_refl _) _) (hb5.mono (by simp))
               exact ⟨rfl, (((((h5.setCell (Nat.le_refl _) _).setCell (Nat.le_refl _) _).setCell (Nat.le_refl _) _).setCell (Nat.le_refl _) _).setCell (Nat.le_refl _) _).setCell (Nat.le_refl _) _⟩)
            | (have h5 : Below U.heap.size U w5 := Below.trans (B := U.heap.size) (Below.refl _ _).drew hb5
               exact ⟨rfl, h5.alloc h5.size _⟩)
        case rest =>
          obtain ⟨rfl, hbel⟩ := hcut
          rename World => U2
          have HU2 := Lib.hid (HU.out.trans (hbel.mono zU))
          clear hbel a00 a01 a02 p0 p1 hcell hal1
          go_wp2_with fail
          go_roundw
          case rel => exact ⟨i + 1, by omega, by go_num, by rw [HA.out], HF, HU2.out⟩
          case measure => simp [intOf]; omega
      | true =>
        have hl0 : lookE p (ints lk) = 0 := by simpa using hok
        rw [hok] at HLK HGC HBC
        obtain ⟨_, _, _, hcd⟩ := look_corn hl0
        have hcd2 : (lookC p (ints lk)) = lookN p lk := rfl
        rw [hcd2] at hcd
        obtain ⟨dd, hdd⟩ : ∃ dd, lookN p lk = dd := ⟨_, rfl⟩
        rw [hdd] at HLK HGC HBC hcd
        have HX2 := Lib.hid (show 2 ≤ dd.xs.length by rw [hcd.lx]; omega)
        have HG2 := Lib.hid (show 2 ≤ dd.gs.length by rw [hcd.lg]; omega)
        clear hok hdd hcd hcd2 hl0
        go_upto_region 6 with fail
        go_cut [6, 7] (fun s6 s7 wx => CutK U dd (.bool true) s6 s7 wx)
        case first =>
          clear HP HM BP HW H1 HLS HLEN HNA HB HLU HU HRT HLKE HSUC HGC HBC HBST HBE
          go_region_law (refine step_callCk (f := 36) rfl (by go_simp; done) (HLK.out _ (by first | exact (Below.refl _ _).drew | exact (Below.refl _ _).drew.alloc (Nat.le_refl _) _)) ?_; intro X5 cx5 Y5 cy5 G5 cg5 w5 hX5 hG5 hb5; try (have Bq : Blk w5 (U).heap.size 42 #[.slice none 0 0, .int .i64 0, .slice none 0 0, .int .i64 0, .slice none 0 0, .int .i64 0] := (by first | exact Blk.next (Blk.mk' _ _ _) hb5 | exact Blk.next ((Blk.mk' _ _ _).drew) hb5); have e0 : (w5).cell? ⟨(U).heap.size, 0, none⟩ = some (Value.slice none 0 0) := Bq.cell 0; have f0 : (w5).frozen? ⟨(U).heap.size, 0, none⟩ = false := Bq.frozen 0; have e1 : (w5).cell? ⟨(U).heap.size, 1, none⟩ = some (Value.int .i64 0) := Bq.cell 1; have f1 : (w5).frozen? ⟨(U).heap.size, 1, none⟩ = false := Bq.frozen 1; have e2 : (w5).cell? ⟨(U).heap.size, 2, none⟩ = some (Value.slice none 0 0) := Bq.cell 2; have f2 : (w5).frozen? ⟨(U).heap.size, 2, none⟩ = false := Bq.frozen 2; have e3 : (w5).cell? ⟨(U).heap.size, 3, none⟩ = some (Value.int .i64 0) := Bq.cell 3; have f3 : (w5).frozen? ⟨(U).heap.size, 3, none⟩ = false := Bq.frozen 3; have e4 : (w5).cell? ⟨(U).heap.size, 4, none⟩ = some (Value.slice none 0 0) := Bq.cell 4; have f4 : (w5).frozen? ⟨(U).heap.size, 4, none⟩ = false := Bq.frozen 4; have e5 : (w5).cell? ⟨(U).heap.size, 5, none⟩ = some (Value.int .i64 0) := Bq.cell 5; have f5 : (w5).frozen? ⟨(U).heap.size, 5, none⟩ = false := Bq.frozen 5))
          all_goals go_wp2_with fail
          all_goals go_meet
          all_goals first
            | (have hq := Bq; exact cutK (Nat.le_refl _) hq hX5 (hX5.not_box HX2.out Bq) hG5 (hG5.not_box HG2.out Bq) (Below.trans (B := U.heap.size) (by first | exact (Below.refl _ _).drew.alloc (Nat.le_refl _) _) (hb5.mono (by simp))))
            | exact cutK_after hX5 hG5 (Below.trans (B := U.heap.size) (Below.refl _ _).drew hb5)
        case rest =>
          obtain ⟨bq, X5, cx5, Y5, cy5, G5, cg5, rfl, rfl, hbq, hBq, hXq, hGq, hbel⟩ := hcut
          rename World => U2
          have HBQ := Lib.hid hBq
          have HXQ := Lib.hid hXq
          have HGQ := Lib.hid hGq
          have HU2 := Lib.hid (HU.out.trans (hbel.mono zU))
          have HB2 := Lib.hid (HB.out.trans (hbel.mono HB.out.size))
          have zU2 := HU2.out.size
          have t0 : U2.cell? ⟨bq, 0, none⟩ = some (.slice X5 dd.xs.length cx5) := hBq.cell 0
          have t1 : U2.cell? ⟨bq, 1, none⟩ = some (.int .i64 dd.xd) := hBq.cell 1
          clear hbel hBq hXq hGq a00 a01 a02 p0 p1 hcell hal1
          cases hnn : nonneg dd.xs with
          | false =>
            rw [hnn] at HGC HBC
            have HF := Lib.hid (HBST.out (by rw [HBC.out]; rfl))
            have HA := Lib.hid (show anyG p (i + 1) = ag by rw [HSUC.out, HGC.out]; simp)
            have HNN := Lib.hid hnn
            clear hnn HSUC HGC HBC HBST HBE
            go_wp2_with (go_at_call 14; refine (ref3_Above _ _ _ _ _ HXQ.out).mono ?_; rintro e w6 ⟨rfl, hb6⟩; rw [HNN.out]; have HU6 := Lib.hid (HU2.out.trans (hb6.mono zU2)); clear hb6 t0 t1)
            go_roundw
            case rel => exact ⟨i + 1, by omega, by go_num, by rw [HA.out], HF, HU6.out⟩
            case measure => simp [intOf]; omega
          | true =>
            rw [hnn] at HGC HBC
            have HA := Lib.hid (show anyG p (i + 1) = true by rw [HSUC.out, HGC.out]; simp)
            have HNN := Lib.hid hnn
            clear hnn
            go_upto_region 9 with (go_at_call 14; refine (ref3_Above _ _ _ _ _ HXQ.out).mono ?_; rintro e w6 ⟨rfl, hb6⟩; rw [HNN.out]; have HU6 := Lib.hid (HU2.out.trans (hb6.mono zU2)); have HB6 := Lib.hid (HB2.out.trans (hb6.mono HB2.out.size)); have HG6 := Lib.hid (HGQ.out.below hb6); have HBQ6 := Lib.hid (HBQ.out.next hb6); clear hb6 t0 t1)
            have t4 : w6.cell? ⟨bq, 4, none⟩ = some (.slice G5 dd.gs.length cg5) := HBQ6.out.cell 4
            have t5 : w6.cell? ⟨bq, 5, none⟩ = some (.int .i64 dd.gd) := HBQ6.out.cell 5
            have z6 := HU6.out.size
            have z6' := HB6.out.size
            cases hnp : nonpos dd.gs with
            | false =>
              rw [hnp] at HBC
              have HF := Lib.hid (HBST.out (by rw [HBC.out]; rfl))
              have HNP := Lib.hid hnp
              clear hnp HSUC HGC HBC HBST HBE
              go_wp2_with (go_at_call 74; refine (ref3_Below _ _ _ _ _ HG6.out).mono ?_; rintro e w7 ⟨rfl, hb7⟩; rw [HNP.out]; have HU7 := Lib.hid (HU6.out.trans (hb7.mono z6)); clear hb7 t4 t5)
              go_roundw
              case rel => exact ⟨i + 1, by omega, by go_num, by rw [HA.out], HF, HU7.out⟩
              case measure => simp [intOf]; omega
            | true =>
              rw [hnp] at HBC
              have HKD := Lib.hid (HBE.out (by rw [HBC.out]; rfl))
              have HNP := Lib.hid hnp
              clear hnp HSUC HGC HBC HBST HBE
              go_wp2_with (go_at_call 74; refine (ref3_Below _ _ _ _ _ HG6.out).mono ?_; rintro e w7 ⟨rfl, hb7⟩; rw [HNP.out]; have HB7 := Lib.hid (HB6.out.trans (hb7.mono z6')); clear hb7 t4 t5)
              go_ret
              exact ⟨by rw [HKD.out]; rfl, HB7.out⟩
    · obtain rfl : i = na := by omega
      have HKE := Lib.hid (kindD_end (p := p) (by rw [HNA.out]; exact hno.out))
      rw [HNA.out] at HKE
      clear hno
      cases hg : anyG p i with
      | false =>
        rw [hg] at HKE
        clear hg
        go_wp2_with fail
        go_ret
        exact ⟨by rw [HKE.out]; rfl, HB.out⟩
      | true =>
        rw [hg] at HKE
        clear hg
        go_wp2_with fail
        go_ret
        exact ⟨by rw [HKE.out]; rfl, HB.out⟩
end Go.Proofs.Ytjcdkbalhleeeab

namespace Go.Proofs.Ytjcdkbalhleeeab
open Go.RowKit

theorem goes_kind {p : PG} (hm : mayPB p = true) : ((cornersZ p).any fun l => nonneg (lookN p l).xs) = !decide (kindD p = 3) := by
  have hk := kindD_is hm
  have h1 : ((cornersZ p).any fun l => nonneg (lookN p l).xs) = true ↔ ∃ l, OKb p l := by
    rw [List.any_eq_true]
    constructor
    · rintro ⟨l, hl, hx⟩
      have := mem_corners.1 hl
      exact ⟨l, this.hp, this.hr, this.hd, hx⟩
    · rintro ⟨l, hl⟩
      exact ⟨l, mem_corners.2 hl.bs, hl.hx⟩
  by_cases h3 : kindD p = 3
  · have h0 : ((cornersZ p).any fun l => nonneg (lookN p l).xs) = false := Bool.eq_false_iff.2 fun h => by
      obtain ⟨l, hl⟩ := h1.1 h
      rcases hk with ⟨q, _⟩ | ⟨q, _⟩ | ⟨_, q⟩
      · omega
      · omega
      · exact q l hl
    rw [h0, decide_eq_true h3]
    rfl
  · rw [decide_eq_false h3]
    refine h1.2 ?_
    rcases hk with ⟨_, l, q⟩ | ⟨_, q, _⟩ | ⟨q, _⟩
    · exact ⟨l, q.1⟩
    · exact q
    · exact absurd q h3
theorem wrong_is (p : PG) (b : List Int) : swpE p b = if mayPB p = false then 2 else if manyB b p.costs.length 400 = false then 1 else if kindD p = 3 then 4 else 0 := by
  unfold swpE
  cases hm : mayPB p with
  | false => rfl
  | true =>
    rw [goes_kind hm]
    simp only [Bool.true_eq_false, if_false]
    by_cases h3 : kindD p = 3 <;> simp [h3]
set_option maxRecDepth 100000 in
set_option maxHeartbeats 2000000 in
theorem ref8_Wrong (A : Option Addr) (c : Nat) (A2 : Option Addr) (c2 : Nat) (p : PG) (B : Option Addr) (b : List Int) (cb : Nat) (w : World) (hp : Pg w A c A2 c2 p) (hb : Rd w B cb b) :
    Calls Try.prog 19 #[.agg #[.slice A p.costs.length c, .slice A2 p.rows.length c2], .slice B b.length cb] w fun e w' => e = .returned (.int .i64 (swpE p b)) ∧ Below w.heap.size w w' := by
  have HP := Lib.hid hp
  have HBY := Lib.hid hb
  have HWR := Lib.hid (wrong_is p b)
  clear hp hb
  go_enter Try.func19, Try.ntmps19
  go_upto_region 1 with fail
  have BP := Lib.hid (Blk.mk' w 25 #[.slice A p.costs.length c, .slice A2 p.rows.length c2])
  have HB := Lib.hid ((Below.refl w.heap.size w).alloc (Nat.le_refl _) (.cells #[.slice A p.costs.length c, .slice A2 p.rows.length c2] 25))
  generalize (w.alloc (.cells #[.slice A p.costs.length c, .slice A2 p.rows.length c2] 25)) = V at *
  have zV := HB.out.size
  have p0 : V.cell? ⟨w.heap.size, 0, none⟩ = some (.slice A p.costs.length c) := BP.out.cell 0
  have p1 : V.cell? ⟨w.heap.size, 1, none⟩ = some (.slice A2 p.rows.length c2) := BP.out.cell 1
  go_wp2_with fail
  refine (ref2_May A c A2 c2 p V (HP.out.below HB.out)).mono ?_
  rintro e w1 ⟨rfl, hb1⟩
  have HB1 := Lib.hid (HB.out.trans (hb1.mono zV))
  have BP1 := Lib.hid (BP.out.next hb1)
  have z1 := HB1.out.size
  clear hb1 p0 p1
  have p0 : w1.cell? ⟨w.heap.size, 0, none⟩ = some (.slice A p.costs.length c) := BP1.out.cell 0
  have p1 : w1.cell? ⟨w.heap.size, 1, none⟩ = some (.slice A2 p.rows.length c2) := BP1.out.cell 1
  cases hm : mayPB p with
  | false =>
    have HE := Lib.hid (show swpE p b = 2 by rw [HWR.out, if_pos hm])
    clear hm
    go_wp2_with fail
    go_ret
    exact ⟨by rw [HE.out]; rfl, HB1.out⟩
  | true =>
    have HM := Lib.hid hm
    clear hm
    have HSM := Lib.hid (ref7_Small 400 B b cb p.costs.length w1 (by omega) (by omega) (HBY.out.below HB1.out))
    cases hs : manyB b p.costs.length 400 with
    | false =>
      rw [hs] at HSM
      have HE := Lib.hid (show swpE p b = 1 by rw [HWR.out, if_neg (by rw [HM.out]; decide), if_pos hs])
      clear hs
      go_wp2_with fail
      refine HSM.out.mono ?_
      rintro e w2 ⟨rfl, rfl⟩
      go_wp2_with fail
      go_ret
      exact ⟨by rw [HE.out]; rfl, HB1.out⟩
    | true =>
      rw [hs] at HSM
      have HE0 := Lib.hid (show swpE p b = if kindD p = 3 then 4 else 0 by rw [HWR.out, if_neg (by rw [HM.out]; decide), if_neg (by rw [hs]; decide)])
      clear hs
      go_wp2_with fail
      refine HSM.out.mono ?_
      rintro e w2 ⟨rfl, rfl⟩
      go_wp2_with fail
      refine (ref3_Kind A c A2 c2 p w2 (HP.out.below HB1.out) HM.out).mono ?_
      rintro e w3 ⟨rfl, hb3⟩
      have HB3 := Lib.hid (HB1.out.trans (hb3.mono z1))
      obtain ⟨kd, hkd⟩ : ∃ kd, kindD p = kd := ⟨_, rfl⟩
      rw [hkd] at HE0 ⊢
      clear hb3 hkd p0 p1
      by_cases h3 : kd = 3
      · subst h3
        go_wp2_with fail
        go_ret
        exact ⟨by rw [HE0.out]; rfl, HB3.out⟩
      · have HE := Lib.hid (show swpE p b = 0 by rw [HE0.out, if_neg h3])
        have h3b : (kd == 3) = false := by simpa using h3
        clear h3
        go_wp2_with fail
        go_ret
        exact ⟨by rw [HE.out]; rfl, HB3.out⟩
end Go.Proofs.Ytjcdkbalhleeeab
