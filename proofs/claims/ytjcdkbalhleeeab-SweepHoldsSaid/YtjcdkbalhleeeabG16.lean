/-
  Contracts of functions and plain laws that later parts of the proof use. The conditions stand in each theorem.
-/
import Derived.Test.YtjcdkbalhleeeabG15
import Derived.Test.YtjcdkbalhleeeabG08
import Derived.Test.YtjcdkbalhleeeabG13
import Derived.Test.YtjcdkbalhleeeabG07
import Derived.Shelf.Sort.Plain
import Derived.Shelf.Slices.In.SortNone
import Derived.Ground.Names2Prog
import Derived.Ground.NamesProg
import Derived.Shelf.Slices.Clone
import Derived.Shelf.Slices.Delete
import Derived.Test.YtjcdkbalhleeeabG04
import Derived.Test.YtjcdkbalhleeeabG12
import Derived.Sort.OwnSortedInts
import Derived.Test.YtjcdkbalhleeeabG11
import Derived.Test.YtjcdkbalhleeeabG06
import Derived.Laws.BitsLemmas
import Derived.TacticsInMore
import Derived.LoopIn
import Derived.OwnWalkIn
import Derived.Shelf.RegionOpen
namespace Go.Proofs.Ytjcdkbalhleeeab
open Go.RowKit

section
variable {rest : List Oper} {o : Oper} {a : Act} {w : World} {Q : Exit → Act → World → Prop}
theorem step_callW {P : Program} {ops : Array Oper} {K : Act → World → Prop} {E' : Prop} (hg : o.guard = none) {f : FuncId} {args : Array Value} (hrun : (execOp a.eval o).run P w = .ok (.enter f args) w) {U : World} {v : Value}
    (hc : Calls P f args w fun e w' => e = .returned v ∧ ∃ u : Wk U, w' = u.1) (hK : ∀ u : Wk U, K (a.put o.dst v) u.1) : if Region.wanted o (yielded ops a.tmps) = true then Oper.wp P o a w K Q else E' := by
  rw [if_pos (by simp [Region.wanted, hg])]
  unfold Oper.wp
  rw [hrun, Oper.upon_enter]
  exact hc.mono (by rintro _ _ ⟨rfl, u, rfl⟩; exact hK u)
end

set_option maxRecDepth 100000 in
set_option maxHeartbeats 2000000 in
theorem walk_Change (A : Option Addr) (c : Nat) (A2 : Option Addr) (c2 : Nat) (p : PG) (L : Option Addr) (l : List Int) (cl r : Nat) (w : World) (hp : Pg w A c A2 c2 p) (hr : Rd w L cl l) (h0 : lookE p l = 0) (hj : r < 1000000) :
    Calls Try.prog 40 #[.agg #[.slice A p.costs.length c, .slice A2 p.rows.length c2], .slice L l.length cl, .int .i64 r] w fun e w' => ∃ O co, e = .returned (.tuple #[.slice O l.length co, .int .i64 (lookC (qOf p r) l).xd]) ∧
      Rd w' O co (l.map fun j => (lookC (qOf p r) l).xs.getD j.toNat 0) ∧ Below w.heap.size w w' := by
  have hE2 := qOf_E h0 r
  obtain ⟨_, _, _, hco⟩ := look_corn h0
  obtain ⟨_, _, _, hcd⟩ := look_corn hE2
  obtain ⟨dd, hC2⟩ : ∃ dd, lookC (qOf p r) l = dd := ⟨_, rfl⟩
  rw [hC2] at hcd ⊢
  have HM := Lib.hid hco.hp
  have h4 := hco.rows4
  have h1 := (mayPB_iff.1 hco.hp).2.2.1
  have HRT := Lib.hid hco.hr
  have HNE := Lib.hid (show l = (nats l).map Int.ofNat from (right_nats (by
    unfold lookE at h0
    split at h0
    · omega
    · split at h0
      · omega
      · rename_i g; simpa using g)).2)
  have HE2 := Lib.hid hE2
  have HC2 := Lib.hid hC2
  have HCD := Lib.hid hcd
  clear h0 hE2 hC2 hco hcd
  have HP := Lib.hid hp
  have HL := Lib.hid hr
  obtain ⟨⟨hl, hc, hsm, _⟩, ⟨hl2, hc2, hsm2, _⟩⟩ := hp
  obtain ⟨hll, hlc, hls, _⟩ := hr
  go_enter Try.func40, Try.ntmps40
  obtain ⟨ad, As, cs, rfl, hrs⟩ := HP.out.rows.all (by omega)
  have HRS := Lib.hid hrs
  clear hrs
  go_wp2_with fail
  have BP := Lib.hid (show Blk ((w.alloc (.cells #[.slice A p.costs.length c, .slice (some ad) p.rows.length c2] 25)).alloc (.cells #[.slice A p.costs.length c, .slice none 0 0] 25)) w.heap.size 25 #[.slice A p.costs.length c, .slice (some ad) p.rows.length c2] from Blk.alloc (Blk.mk' _ _ _) _)
  have BQ := Lib.hid (show Blk ((w.alloc (.cells #[.slice A p.costs.length c, .slice (some ad) p.rows.length c2] 25)).alloc (.cells #[.slice A p.costs.length c, .slice none 0 0] 25)) (w.heap.size + 1) 25 #[.slice A p.costs.length c, .slice none 0 0] from by
    have := Blk.mk' (w.alloc (.cells #[.slice A p.costs.length c, .slice (some ad) p.rows.length c2] 25)) 25 #[.slice A p.costs.length c, .slice none 0 0]
    simpa using this)
  have HB := Lib.hid ((by (repeat (any_goals (first | exact Below.refl _ _ | refine below_drewN ?_ _ | refine Below.drew ?_ | refine Below.alloc ?_ ?_ _ | refine Below.setCell ?_ ?_ _))); all_goals (first | omega | (simp; done) | (simp; omega))) : Below w.heap.size w ((w.alloc (.cells #[.slice A p.costs.length c, .slice (some ad) p.rows.length c2] 25)).alloc (.cells #[.slice A p.costs.length c, .slice none 0 0] 25)))
  have lW : ((w.alloc (.cells #[.slice A p.costs.length c, .slice (some ad) p.rows.length c2] 25)).alloc (.cells #[.slice A p.costs.length c, .slice none 0 0] 25)).heap.size = w.heap.size + 2 := by simp
  generalize ((w.alloc (.cells #[.slice A p.costs.length c, .slice (some ad) p.rows.length c2] 25)).alloc (.cells #[.slice A p.costs.length c, .slice none 0 0] 25)) = W at *
  go_loopw [22] (fun i wx => ∃ (k : Nat) (v : Value), k ≤ p.rows.length ∧ i = .int .i64 k ∧ Blk wx w.heap.size 25 #[.slice A p.costs.length c, .slice (some ad) p.rows.length c2] ∧ Blk wx (w.heap.size + 1) 25 #[.slice A p.costs.length c, v] ∧ wx.ownsRow (w.heap.size + 2) 36 2 v k (rowCells As cs p (colP p r) k) ∧ Below w.heap.size w wx) (fun i _ => p.rows.length - (intOf i).toNat)
  case atStart => exact ⟨0, _, by omega, rfl, BP.out, BQ.out, World.ownsRow_nil _ _ _ _, HB.out⟩
  case round =>
    obtain ⟨k, v, hk, rfl, hPP, hQ, hown, hbel⟩ := hrel
    have HPP := Lib.hid hPP
    have HQ := Lib.hid hQ
    have HO := Lib.hid hown
    have HB := Lib.hid hbel
    have zB := hbel.size
    have lQ := hQ.lt
    clear hPP hQ hown hbel
    rename World => U
    by_cases hlt : k < p.rows.length
    · obtain ⟨r1, r2, r3⟩ := HRS.out k hlt
      have r1' := (HB.out.cell (World.block_lt_of_cell? _ _ r1)).trans r1
      have r2' := (HB.out.cell (World.block_lt_of_cell? _ _ r2)).trans r2
      have hral := World.block_lt_of_cell? _ _ r1'
      have HRC := Lib.hid (show rowCells As cs p (colP p r) (k + 1) = rowCells As cs p (colP p r) k ++ [.slice (As k) (p.rows.getD k ([], 0)).1.length (cs k), .int .i64 (hasZ p k r)] by rw [rowCells, colP_at p r hlt])
      have HCL := Lib.hid (fun u hu => corner_Has A c (some ad) c2 p k r u (HP.out.below (HB.out.trans hu)) HM.out hlt hj)
      generalize hasZ p k r = hv at *
      generalize (p.rows.getD k ([], 0)).1.length = rl at *
      generalize (p.rows.getD k ([], 0)).2 = rm at *
      generalize As k = Ak at *
      generalize cs k = ck at *
      have hi0 : (k : Int) < (p.rows.length : Int) := by omega
      clear r1 r2 r3
      go_upto_region 5 with fail
      have HU1 := Lib.hid (Blk.mk' U 36 #[.slice Ak rl ck, .int .i64 rm])
      have HP1 := Lib.hid (HPP.out.alloc (.cells #[.slice Ak rl ck, .int .i64 rm] 36))
      have HQ1 := Lib.hid (HQ.out.alloc (.cells #[.slice Ak rl ck, .int .i64 rm] 36))
      have HO1 := Lib.hid (HO.out.alloc (.cells #[.slice Ak rl ck, .int .i64 rm] 36))
      have HB1 := Lib.hid (HB.out.alloc zB (.cells #[.slice Ak rl ck, .int .i64 rm] 36))
      have hz1 : (U.alloc (.cells #[.slice Ak rl ck, .int .i64 rm] 36)).heap.size = U.heap.size + 1 := by simp
      have HC := Lib.hid (fun u hu => HCL.out u (((by (repeat (any_goals (first | exact Below.refl _ _ | refine below_drewN ?_ _ | refine Below.drew ?_ | refine Below.alloc ?_ ?_ _ | refine Below.setCell ?_ ?_ _))); all_goals (first | omega | (simp; done) | (simp; omega))) : Below w.heap.size U (U.alloc (.cells #[.slice Ak rl ck, .int .i64 rm] 36))).trans hu))
      generalize (U.alloc (.cells #[.slice Ak rl ck, .int .i64 rm] 36)) = U1 at *
      have HD := Lib.hid (show Calls Try.prog 44 #[.agg #[.slice A p.costs.length c, .slice (some ad) p.rows.length c2], .int .i64 k, .int .i64 r] U1.drew (fun e w' => e = Ending.returned (.int .i64 hv) ∧ ∃ u : Wk U1, w' = u.1) from
        (HC.out U1.drew (Below.refl _ _).drew).mono fun e w' h => ⟨h.1, ⟨w', ((Below.refl U1.heap.size U1).drew).trans h.2⟩, rfl⟩)
      have t0 := HQ1.out.cell 1
      have t1 := HU1.out.cell 0
      have t2 := HP1.out.cell 0
      have t3 := HP1.out.cell 1
      simp at t0 t1 t2 t3
      have s0 : ∀ u : Wk U1, u.1.cell? ⟨w.heap.size + 1, 1, none⟩ = some v := fun u => (HQ1.out.next u.2).cell 1
      have s1 : ∀ u : Wk U1, u.1.cell? ⟨U.heap.size, 0, none⟩ = some (.slice Ak rl ck) := fun u => (HU1.out.next u.2).cell 0
      have sA : ∀ (u : Wk U1) (o : Obj), (u.1.alloc o).cell? ⟨w.heap.size + 1, 1, none⟩ = some v := fun u o => ((HQ1.out.next u.2).alloc o).cell 1
      have zz : w.heap.size + 2 ≤ U1.heap.size := by omega
      clear r1' r2'
      go_region_law (first
        | (refine step_callW (f := 44) rfl (by go_simp; done) HD.out ?_; intro u7; have zu7 := u7.2.size; have c7 := s0 u7; have d7 := s1 u7)
        | (refine step_appRow rfl (.tmp 28) (.tmp 36) rfl (w.heap.size + 2) v k _ (.slice Ak rl ck) (.int .i64 hv) (by simp [Act.eval]) (own_below (own_below HO1.out u7.2) ((Below.refl _ _).alloc (Nat.le_refl _) _)) _ 1 (by simp [Act.eval]) (news2 (Blk.mk' _ _ _)) rfl rfl (by omega) (by have := u7.2.size; simp; omega) ?_; intro g cap w5 hown5 hg5 hat5 hlt5; have hB5 := (((HQ1.out.next u7.2).alloc _).grown hg5 (fun q => by have := (HO1.out.lt _ q.symm).1; omega)); have hP5 := (((HP1.out.next u7.2).alloc _).grown hg5 (fun q => by have := (HO1.out.lt _ q.symm).1; omega)); have hq0 : w5.cell? ⟨w.heap.size + 1, 1, none⟩ = some v := hB5.cell 1; have hqf := hB5.frozen 1))
      all_goals try have HB7 := Lib.hid (HB1.out.trans (u7.2.mono (by omega)))
      all_goals
        have HB5 := Lib.hid hB5
        have HP5 := Lib.hid hP5
        have HO5 := Lib.hid hown5
        have HG5 := Lib.hid hg5
        clear hB5 hP5 hown5 hg5 hq0 hqf
        go_wp2_with fail
        go_roundw
        case rel =>
          have hb6 : Below w.heap.size w w5 := (HB7.out.alloc (by have := HB7.out.size; exact this) _).grown HG5.out (by simp; have := HB7.out.size; omega) (fun j e => by have := (HO1.out.lt j e).1; omega)
          refine ⟨k + 1, _, by omega, by go_num, HP5.out.far _ (by simp), HB5.out.set0 1 _, ?_, hb6.setCell (by simp) _⟩
          rw [HRC.out]
          exact ownsRow_setCell_below HO5.out (by simp) _
        case measure => simp [intOf]; omega
    · obtain rfl : k = p.rows.length := by omega
      have hv : ∃ g cap, v = .slice (some ⟨g, 0, none⟩) p.rows.length cap := by
        rcases HO.out.2 with ⟨_, q⟩ | ⟨g, cap, cur, q, _⟩
        · omega
        · exact ⟨g, cap, q⟩
      obtain ⟨gq, cq, rfl⟩ := hv
      have HRW := Lib.hid (show Pg U A c (some ⟨gq, 0, none⟩) cq (mostsOf p (colP p r)) from ⟨(HP.out.below HB.out).costs, rows_read HO.out (by omega) fun i hi => ((HRS.out i hi).2.2).below HB.out⟩)
      have HLK := Lib.hid (show ∀ u : World, Below U.heap.size U u → Calls Try.prog 13 #[.agg #[.slice A p.costs.length c, .slice (some ⟨gq, 0, none⟩) p.rows.length cq], .slice L l.length cl] u (RetCo u dd 0) from fun u hu => by
        have := corner_Look A c (some ⟨gq, 0, none⟩) cq (mostsOf p (colP p r)) L l cl u (HRW.out.below hu) ((HL.out.below HB.out).below hu)
        rw [← qOf_mosts, HE2.out, HC2.out, qOf_len] at this
        exact this)
      have e0 : U.cell? ⟨w.heap.size + 1, 0, none⟩ = some (.slice A p.costs.length c) := HQ.out.cell 0
      have e1 : U.cell? ⟨w.heap.size + 1, 1, none⟩ = some (.slice (some ⟨gq, 0, none⟩) p.rows.length cq) := HQ.out.cell 1
      go_wp2_with fail
      refine (HLK.out _ (Below.refl _ _)).mono ?_
      rintro e w3 ⟨X', cx', Y', cy', G', cg', rfl, hX', hY', hG', hb3⟩
      have HX' := Lib.hid hX'
      have H3 := Lib.hid (HB.out.trans (hb3.mono zB))
      have z03 := H3.out.size
      clear hX' hY' hG' hb3 e0 e1
      go_upto_region 7 with fail
      have BD := Lib.hid (Blk.mk' w3 42 #[.slice X' dd.xs.length cx', .int .i64 dd.xd, .slice Y' dd.ys.length cy', .int .i64 dd.yd, .slice G' dd.gs.length cg', .int .i64 dd.gd])
      have HW4 := (Below.refl w3.heap.size w3).alloc (Nat.le_refl _) (.cells #[.slice X' dd.xs.length cx', .int .i64 dd.xd, .slice Y' dd.ys.length cy', .int .i64 dd.yd, .slice G' dd.gs.length cg', .int .i64 dd.gd] 42)
      have HX4 := Lib.hid (HX'.out.below HW4)
      have HL4 := Lib.hid ((HL.out.below H3.out).below HW4)
      have H4 := Lib.hid (H3.out.trans (HW4.mono z03))
      have l4 : (w3.alloc (.cells #[.slice X' dd.xs.length cx', .int .i64 dd.xd, .slice Y' dd.ys.length cy', .int .i64 dd.yd, .slice G' dd.gs.length cg', .int .i64 dd.gd] 42)).heap.size = w3.heap.size + 1 := by simp
      clear HW4
      generalize (w3.alloc (.cells #[.slice X' dd.xs.length cx', .int .i64 dd.xd, .slice Y' dd.ys.length cy', .int .i64 dd.yd, .slice G' dd.gs.length cg', .int .i64 dd.gd] 42)) = w4 at *
      obtain ⟨ls, hls⟩ : ∃ ls, ls = l.map fun j => dd.xs.getD j.toNat 0 := ⟨_, rfl⟩
      have HLS := Lib.hid hls
      have HLN := Lib.hid (show ls.length = l.length by rw [hls, List.length_map])
      clear hls
      go_loopw [13, 48] (fun v i wx => ∃ k : Nat, k ≤ l.length ∧ i = .int .i64 k ∧ wx.ownsRow w4.heap.size 2 1 v k ((ls.take k).map (Value.int .i64)) ∧ Below w4.heap.size w4 wx) (fun _ i _ => l.length - (intOf i).toNat)
      case atStart => exact ⟨0, by omega, rfl, World.ownsRow_nil _ _ _ _, Below.refl _ _⟩
      case round =>
        obtain ⟨k, hk, rfl, hown, hbel⟩ := hrel
        rename World => U2
        have HO2 := Lib.hid hown
        have HB2 := Lib.hid hbel
        have zB2 := hbel.size
        have BD2 := Lib.hid ((BD.out.at_ rfl).below HB2.out (by omega))
        clear hown hbel
        by_cases hlt : k < l.length
        · obtain ⟨al, rfl, hcl⟩ := (HL4.out.below HB2.out).natAt HNE.out hlt
          have hjN : (nats l).getD k 0 < dd.xs.length := by rw [HCD.out.lx, qOf_len]; exact HRT.out.lt _ (mem_getD.2 ⟨k, by simpa [nats] using hlt, rfl⟩)
          obtain ⟨ax, rfl, hcx⟩ := (HX4.out.below HB2.out).getD_at hjN
          have HSC := Lib.hid (show ls.take (k + 1) = ls.take k ++ [dd.xs.getD ((nats l).getD k 0) 0] by
            rw [List.take_succ_eq_append_getElem (by rw [HLN.out]; exact hlt)]
            congr 2
            simp only [HLS.out, List.getElem_map]
            congr 1
            simp [nats, List.getD, List.getElem?_eq_getElem hlt])
          have v0 : U2.cell? ⟨w3.heap.size, 0, none⟩ = some (.slice (some ax) dd.xs.length cx') := BD2.out.cell 0
          have hll' := World.block_lt_of_cell? _ _ hcl
          have hxl' := World.block_lt_of_cell? _ _ hcx
          have hi0 : (k : Int) < (l.length : Int) := by omega
          have hi1 : (((nats l).getD k 0 : Nat) : Int) < (dd.xs.length : Int) := by omega
          generalize (nats l).getD k 0 = jn at *
          generalize dd.xs.getD jn 0 = xv at *
          go_wp2_with (at_builtin; refine list_app1 rfl (.tmp 52) (.tmp 59) _ _ _ 8 und_i64s inf_i64 rfl rfl w4.heap.size u13 k _ _ rfl (HO2.out.alloc _) _ 1 rfl (cell_new1 _ _ _) rfl (by unfold maxLen; omega) (by omega) (by simp; omega) ?_; intro g cap w5 hown5 hg5 hat5 hlt5)
          have HO5 := Lib.hid hown5
          have HG5 := Lib.hid hg5
          clear hown5 hg5
          go_roundw
          case rel => exact ⟨k + 1, by omega, by go_num, by rw [HSC.out, List.map_append]; exact HO5.out, (HB2.out.alloc zB2 _).grown HG5.out (by simp; omega) (fun j e => (HO2.out.lt j e).1)⟩
          case measure => simp [intOf]; omega
        · obtain rfl : k = l.length := by omega
          have hln : l.length = p.rows.length := by have := HRT.out.len; simpa [nats] using this
          have hv : ∃ g cap, u13 = .slice (some ⟨g, 0, none⟩) l.length cap := by
            rcases HO2.out.2 with ⟨_, q⟩ | ⟨g, cap, cur, q, _⟩
            · omega
            · exact ⟨g, cap, q⟩
          obtain ⟨go, co, rfl⟩ := hv
          have v1 : U2.cell? ⟨w3.heap.size, 1, none⟩ = some (.int .i64 dd.xd) := BD2.out.cell 1
          have HRE := Lib.hid (show Rd U2 (some ⟨go, 0, none⟩) co ls from Rd.of_own (base := w4.heap.size) (e := 2) (by have := HO2.out; rw [List.take_of_length_le (by rw [HLN.out]; exact Nat.le_refl _)] at this; rw [HLN.out]; exact this) (by rw [HLN.out]; omega))
          go_wp2_with fail
          go_region
          all_goals
            go_wp2_with fail
            refine bodyPost_ret (v := .tuple #[.slice (some ⟨go, 0, none⟩) l.length co, .int .i64 dd.xd]) ?_ ?_ ?_
            · simp [results, Try.results40, go_sem]
            · rfl
            exact ⟨_, _, rfl, by rw [← HLS.out]; exact HRE.out.below (Below.refl _ _).drew, (H4.out.trans (HB2.out.mono (by omega))).drew⟩
end Go.Proofs.Ytjcdkbalhleeeab

namespace Go.Proofs
open Go.Shelf
def Try.lays189_ren : Go.Shelf.Ren := ⟨fun | 189 => 42 | 125 => 94 | 257 => 93 | 128 => 131 | 129 => 132 | 294 => 122 | 295 => 123 | 296 => 124 | 297 => 125 | 298 => 126 | 299 => 127 | 216 => 128 | 300 => 129 | 301 => 130 | 328 => 146 | 329 => 147 | 330 => 148 | 331 => 149 | 332 => 150 | 215 => 151 | 343 => 157 | n => n, fun | 28 => 26 | 3 => 3 | 46 => 135 | 0 => 0 | 51 => 164 | 53 => 166 | 4 => 4 | 183 => 156 | 182 => 155 | 131 => 161 | 5 => 5 | 9 => 9 | 218 => 175 | 222 => 179 | 228 => 189 | 229 => 190 | n => n, fun | n => n⟩
theorem Try.lays189 : Lays.n189 Try.prog Try.lays189_ren := {
  mixed := by kernel_rfl
  f125 := Try.func94.trans (congrArg some (by kernel_rfl))
  f128 := Try.func131.trans (congrArg some (by kernel_rfl))
  f129 := Try.func132.trans (congrArg some (by kernel_rfl))
  f189 := Try.func42.trans (congrArg some (by kernel_rfl))
  f215 := Try.func151.trans (congrArg some (by kernel_rfl))
  f216 := Try.func128.trans (congrArg some (by kernel_rfl))
  f257 := Try.func93.trans (congrArg some (by kernel_rfl))
  f294 := Try.func122.trans (congrArg some (by kernel_rfl))
  f295 := Try.func123.trans (congrArg some (by kernel_rfl))
  f296 := Try.func124.trans (congrArg some (by kernel_rfl))
  f297 := Try.func125.trans (congrArg some (by kernel_rfl))
  f298 := Try.func126.trans (congrArg some (by kernel_rfl))
  f299 := Try.func127.trans (congrArg some (by kernel_rfl))
  f300 := Try.func129.trans (congrArg some (by kernel_rfl))
  f301 := Try.func130.trans (congrArg some (by kernel_rfl))
  f328 := Try.func146.trans (congrArg some (by kernel_rfl))
  f329 := Try.func147.trans (congrArg some (by kernel_rfl))
  f330 := Try.func148.trans (congrArg some (by kernel_rfl))
  f331 := Try.func149.trans (congrArg some (by kernel_rfl))
  f332 := Try.func150.trans (congrArg some (by kernel_rfl))
  f343 := Try.func157.trans (congrArg some (by kernel_rfl))
  t0 := Try.underlying0
  a0 := Try.isAgg0
  z0 := Try.sizeOf0
  v0 := Try.zeroValue0
  t3 := Try.underlying3
  a3 := Try.isAgg3
  z3 := Try.sizeOf3
  v3 := Try.zeroValue3
  t4 := Try.underlying4
  a4 := Try.isAgg4
  z4 := Try.sizeOf4
  v4 := Try.zeroValue4
  t5 := Try.underlying5
  a5 := Try.isAgg5
  z5 := Try.sizeOf5
  v5 := Try.zeroValue5
  t9 := Try.underlying9
  a9 := Try.isAgg9
  z9 := Try.sizeOf9
  v9 := Try.zeroValue9
  t28 := Try.underlying26
  a28 := Try.isAgg26
  z28 := Try.sizeOf26
  v28 := Try.zeroValue26
  t46 := Try.underlying135
  a46 := Try.isAgg135
  z46 := Try.sizeOf135
  v46 := Try.zeroValue135
  t51 := Try.underlying164
  a51 := Try.isAgg164
  z51 := Try.sizeOf164
  v51 := Try.zeroValue164
  t53 := Try.underlying166
  a53 := Try.isAgg166
  z53 := Try.sizeOf166
  v53 := Try.zeroValue166
  t131 := Try.underlying161
  a131 := Try.isAgg161
  z131 := Try.sizeOf161
  v131 := Try.zeroValue161
  t182 := Try.underlying155
  a182 := Try.isAgg155
  z182 := Try.sizeOf155
  v182 := Try.zeroValue155
  t183 := Try.underlying156
  a183 := Try.isAgg156
  z183 := Try.sizeOf156
  v183 := Try.zeroValue156
  t218 := Try.underlying175
  a218 := Try.isAgg175
  z218 := Try.sizeOf175
  v218 := Try.zeroValue175
  t222 := Try.underlying179
  a222 := Try.isAgg179
  z222 := Try.sizeOf179
  v222 := Try.zeroValue179
  t228 := Try.underlying189
  a228 := Try.isAgg189
  z228 := Try.sizeOf189
  v228 := Try.zeroValue189
  t229 := Try.underlying190
  a229 := Try.isAgg190
  z229 := Try.sizeOf190
  v229 := Try.zeroValue190
  }
def Try.lays2_15_ren : Go.Shelf.Ren := ⟨fun | 15 => 33 | n => n, fun | 22 => 26 | 3 => 3 | 4 => 4 | n => n, fun | n => n⟩
theorem Try.lays2_15 : Lays2.n15 Try.prog Try.lays2_15_ren := {
  mixed := by kernel_rfl
  f15 := Try.func33.trans (congrArg some (by kernel_rfl))
  t3 := Try.underlying3
  a3 := Try.isAgg3
  z3 := Try.sizeOf3
  v3 := Try.zeroValue3
  t4 := Try.underlying4
  a4 := Try.isAgg4
  z4 := Try.sizeOf4
  v4 := Try.zeroValue4
  t22 := Try.underlying26
  a22 := Try.isAgg26
  z22 := Try.sizeOf26
  v22 := Try.zeroValue26
  i3 := by kernel_rfl
  }
def Try.lays2_23_ren : Go.Shelf.Ren := ⟨fun | 23 => 41 | n => n, fun | 22 => 26 | 3 => 3 | 4 => 4 | 0 => 0 | n => n, fun | n => n⟩
theorem Try.lays2_23 : Lays2.n23 Try.prog Try.lays2_23_ren := {
  mixed := by kernel_rfl
  f23 := Try.func41.trans (congrArg some (by kernel_rfl))
  t0 := Try.underlying0
  a0 := Try.isAgg0
  z0 := Try.sizeOf0
  v0 := Try.zeroValue0
  t3 := Try.underlying3
  a3 := Try.isAgg3
  z3 := Try.sizeOf3
  v3 := Try.zeroValue3
  t4 := Try.underlying4
  a4 := Try.isAgg4
  z4 := Try.sizeOf4
  v4 := Try.zeroValue4
  t22 := Try.underlying26
  a22 := Try.isAgg26
  z22 := Try.sizeOf26
  v22 := Try.zeroValue26
  i3 := by kernel_rfl
  }
end Go.Proofs
namespace Go.Proofs.Ytjcdkbalhleeeab
open Go.Proofs Go.Shelf Go.RowKit Go.Sort Go.Lib

theorem slices_Sort (blk off cap : Nat) (zs : List Int) (w : World) (hH : Holds (Value.int .i64) w blk off zs.toArray) (hblk : blk < w.heap.size) (hsz : zs.length < 4611686018427387904) :
    Calls Try.prog 42 #[.slice (some ⟨blk, off, none⟩) zs.length cap] w fun e w' =>
      e = .returned (.tuple #[]) ∧ ∃ n os, w' = grow (putRow (Value.int .i64) (Sort.ahead w n) blk off (zs.mergeSort fun x y => decide (x ≤ y)).toArray) os := Any.slices_Sort_int Try.lays189 blk off cap zs w hH hblk hsz
theorem slices_Clone (b off n c : Nat) (zs : List Int) (w : World) (hz : n ≤ zs.length) (hbig : n * 8 ≤ 140737488355328) (hc : ∀ j, j < zs.length → w.cell? ⟨b, off + j, none⟩ = some (.int .i64 (zs.getD j 0))) :
    Calls Try.prog 33 #[.slice (some ⟨b, off, none⟩) n c] w fun e w' => ∃ v', e = .returned v' ∧ w'.ownsRow w.heap.size 3 1 v' n ((zs.take n).map (Value.int .i64)) ∧ v' ≠ .slice none 0 0 ∧ Below w.heap.size w w' := Any.slices_Clone_int Try.lays2_15 b off n c zs w hz hbig hc
theorem slices_Clone_nil (n c : Nat) (w : World) :
    Calls Try.prog 33 #[.slice none n c] w fun e w' => e = .returned (.slice none 0 0) ∧ w' = w := Any.slices_Clone_int_nil Try.lays2_15 n c w
theorem slices_Clone_zero (a : Addr) (c : Nat) (w : World) :
    Calls Try.prog 33 #[.slice (some a) 0 c] w fun e w' => ∃ v', e = .returned v' ∧ w'.ownsRow w.heap.size 3 1 v' 0 [] ∧ v' ≠ .slice none 0 0 ∧ Below w.heap.size w w' := Any.slices_Clone_int_zero Try.lays2_15 a c w
theorem slices_Delete (blk off cap i j : Nat) (zs : List Int) (w : World) (hH : Holds (Value.int .i64) w blk off zs.toArray) (hcap : zs.length ≤ cap) (hm : cap ≤ 9223372036854775807) (hij : i ≤ j) (hj : j ≤ zs.length) :
    Calls Try.prog 41 #[.slice (some ⟨blk, off, none⟩) zs.length cap, .int .i64 i, .int .i64 j] w fun e w' => e = .returned (.slice (some ⟨blk, off, none⟩) (zs.length - (j - i)) cap) ∧ ∃ q, w' = putRow (Value.int .i64) (Sort.ahead w q) blk off (zs.take i ++ zs.drop j ++ List.replicate (j - i) 0).toArray := Any.slices_Delete_int Try.lays2_23 blk off cap i j zs w hH hcap hm hij hj
end Go.Proofs.Ytjcdkbalhleeeab

namespace Go.Proofs.Ytjcdkbalhleeeab
open Go.RowKit Go.Sort

/-- What walk.Next hands back. -/
def RetNx (w : World) (p : PG) (l : List Int) (e : Ending) (w' : World) : Prop :=
  Below w.heap.size w w' ∧ (nextE p l ≠ 0 → e = .returned (.tuple #[.slice none 0 0, .int .i64 0, .int .i64 (nextE p l)])) ∧
  (nextE p l = 0 → (nxtZ p (nats l) = none → e = .returned (.tuple #[.slice none 0 0, .int .i64 (kindZ p (nats l)), .int .i64 0])) ∧
    ∀ l', nxtZ p (nats l) = some l' → ∃ g cap, e = .returned (.tuple #[.slice (some ⟨g, 0, none⟩) l'.length cap, .int .i64 0, .int .i64 0]) ∧
      w'.ownsRow w.heap.size 3 1 (.slice (some ⟨g, 0, none⟩) l'.length cap) l'.length ((ints l').map (Value.int .i64)))
theorem RetNx.bad {w w' : World} {p : PG} {l : List Int} {er : Int} (h : nextE p l = er) (h0 : er ≠ 0) (hb : Below w.heap.size w w') : RetNx w p l (.returned (.tuple #[.slice none 0 0, .int .i64 0, .int .i64 er])) w' :=
  ⟨hb, fun _ => by rw [h], fun q => absurd (h.symm.trans q) h0⟩
theorem RetNx.fin {w w' : World} {p : PG} {l : List Int} {k : Int} (h : nextE p l = 0) (hn : nxtZ p (nats l) = none) (hk : kindZ p (nats l) = k) (hb : Below w.heap.size w w') : RetNx w p l (.returned (.tuple #[.slice none 0 0, .int .i64 k, .int .i64 0])) w' :=
  ⟨hb, fun q => absurd h q, fun _ => ⟨fun _ => by rw [hk], fun l' q => by rw [hn] at q; cases q⟩⟩

/-- Behind a row of the library's in place, the same block owns as many as are kept. -/
theorem own_putRow {w : World} {base g cap n m q : Nat} {e : TypeId} {ss : List Int} {xs : List Value} (h : w.ownsRow base e 1 (.slice (some ⟨g, 0, none⟩) n cap) n xs) (hn : ss.length = n) (hm : m ≤ n) :
    (putRow (Value.int .i64) (Sort.ahead w q) g 0 ss.toArray).ownsRow base e 1 (.slice (some ⟨g, 0, none⟩) m cap) m ((ss.take m).map (Value.int .i64)) := by
  rcases h.2 with ⟨e, _⟩ | ⟨g', cap', cur, e, hb, hg, h1, h2, h3, h4⟩
  · injection e with e1; cases e1
  · injection e with e1 e2 e3
    injection e1 with e1; injection e1 with e1
    subst e1 e3
    have := ownsRow_sortedI (n := q) (os := #[]) (ss := ss) (ts := ss) rfl hb hg (by omega) h2 h3
    rw [grow_empty] at this
    refine ⟨by simp; omega, .inr ⟨g, cap, putCells (Value.int .i64) 0 ss.toArray cur, rfl, hb, ?_, by omega, h2, by simp [putCells, h3], ?_⟩⟩
    · have := heap_sortedI (n := q) (os := #[]) ss.toArray hg
      rwa [grow_empty] at this
    · have hts := take_putCellsI cur ss (by omega)
      rw [Nat.mul_one, List.map_take, ← hts, List.take_take]
      congr 1; omega
theorem own_holds {w : World} {base g cap n : Nat} {e : TypeId} {ss : List Int} (h : w.ownsRow base e 1 (.slice (some ⟨g, 0, none⟩) n cap) n (ss.map (Value.int .i64))) (hn : ss.length = n) : Holds (Value.int .i64) w g 0 ss.toArray := by
  rcases h.2 with ⟨e, _⟩ | ⟨g', cap', cur, e, hb, hg, h1, h2, h3, h4⟩
  · injection e with e1; cases e1
  · injection e with e1 e2 e3
    injection e1 with e1; injection e1 with e1
    subst e1 e3
    exact holds_of_blockI hg (by rw [Nat.mul_one] at h4; rw [hn]; exact h4)
theorem putRow_below {w : World} {B g q : Nat} {ss : List Int} (hg : B ≤ g) (hB : B ≤ w.heap.size) : Below B w (putRow (Value.int .i64) (Sort.ahead w q) g 0 ss.toArray) := by
  have := grownBy_sortedI (w := w) (g := g) (n := q) (os := #[]) ss.toArray
  rw [grow_empty] at this
  exact (Below.refl B w).grown this hB (fun j e => by cases e; exact hg)

/-- Behind a sort in place the same block owns the sorted row. -/
theorem own_sorted {w : World} {base g cap n q : Nat} {e : TypeId} {ss ts : List Int} {os : Array Obj} {xs : List Value} (h : w.ownsRow base e 1 (.slice (some ⟨g, 0, none⟩) n cap) n xs) (hn : ss.length = n) (ht : ts.length = ss.length) :
    (grow (putRow (Value.int .i64) (Sort.ahead w q) g 0 ts.toArray) os).ownsRow base e 1 (.slice (some ⟨g, 0, none⟩) n cap) n (ts.map (Value.int .i64)) := by
  rcases h.2 with ⟨e, _⟩ | ⟨g', cap', cur, e, hb, hg, h1, h2, h3, h4⟩
  · injection e with e1; cases e1
  · injection e with e1 e2 e3
    injection e1 with e1; injection e1 with e1
    subst e1 e3 hn
    exact ownsRow_sortedI (ss := ss) (ts := ts) ht hb hg h1 h2 h3
theorem und_intS1 : Try.prog.underlying 26 = some (.slice 3) := by kernel_rfl
theorem inf_intS1 : (Try.prog.info? 3).map (fun i => (i.zero, i.size, i.bytes)) = some (some (.int .i64 0), 1, 8) := by kernel_rfl
/-- The place of the column that goes out, as a number. -/
def outI (o : Option Nat) : Int := match o with
  | some k => k
  | none => -1


set_option maxRecDepth 100000 in
set_option maxHeartbeats 2000000 in
/-- Columns that do not come to a corner. -/
theorem next_bad (A : Option Addr) (c : Nat) (A2 : Option Addr) (c2 : Nat) (p : PG) (L : Option Addr) (l : List Int) (cl : Nat) (w : World) (hp : Pg w A c A2 c2 p) (hr : Rd w L cl l) (er : Int) (he : lookE p l = er) (h0 : er ≠ 0) :
    Calls Try.prog 11 #[.agg #[.slice A p.costs.length c, .slice A2 p.rows.length c2], .slice L l.length cl] w (RetNx w p l) := by
  have HN := Lib.hid (show nextE p l = er by unfold nextE; rw [if_neg (by rw [he]; exact h0), he])
  have HE := Lib.hid he
  have H0 := Lib.hid h0
  have hz : (er != 0) = true := by simpa using h0
  clear he h0
  have HP := Lib.hid hp
  have HL := Lib.hid hr
  obtain ⟨⟨hl, hc, hsm, _⟩, ⟨hl2, hc2, hsm2, _⟩⟩ := hp
  obtain ⟨hll, hlc, hls, _⟩ := hr
  go_enter Try.func11, Try.ntmps11
  go_wp2_with fail
  have BP := Lib.hid (Blk.mk' w 25 #[.slice A p.costs.length c, .slice A2 p.rows.length c2])
  have HVW := Lib.hid ((by (repeat (any_goals (first | exact Below.refl _ _ | refine below_drewN ?_ _ | refine Below.drew ?_ | refine Below.alloc ?_ ?_ _ | refine Below.setCell ?_ ?_ _))); all_goals (first | omega | (simp; done) | (simp; omega))) : Below w.heap.size w (w.alloc (.cells #[.slice A p.costs.length c, .slice A2 p.rows.length c2] 25)))
  generalize (w.alloc (.cells #[.slice A p.costs.length c, .slice A2 p.rows.length c2] 25)) = V at *
  have zV := HVW.out.size
  have lP := BP.out.lt
  refine (corner_Look _ _ _ _ _ _ _ _ _ (HP.out.below HVW.out) (HL.out.below HVW.out)).mono ?_
  rw [HE.out]
  obtain ⟨cc, hC⟩ : ∃ cc, lookC p l = cc := ⟨_, rfl⟩
  rw [hC]
  have HC := Lib.hid hC
  clear hC
  rintro e w1 ⟨X, cx, Y, cy, G, cg, rfl, hX, hY, hG, hb1⟩
  have HCn := Lib.hid (CnN.mk hX hY hG)
  have H1 := Lib.hid hb1
  have z01 := hb1.size
  clear hX hY hG hb1
  go_upto_region 2 with fail
  have BC := Lib.hid (Blk.mk' w1 42 #[.slice X cc.xs.length cx, .int .i64 cc.xd, .slice Y cc.ys.length cy, .int .i64 cc.yd, .slice G cc.gs.length cg, .int .i64 cc.gd])
  have HWL := (Below.refl w1.heap.size w1).alloc (Nat.le_refl _) (.cells #[.slice X cc.xs.length cx, .int .i64 cc.xd, .slice Y cc.ys.length cy, .int .i64 cc.yd, .slice G cc.gs.length cg, .int .i64 cc.gd] 42)
  have HV2 := Lib.hid (H1.out.trans (HWL.mono z01))
  have HCW := Lib.hid (HCn.out.below HWL)
  have HBW := Lib.hid (HVW.out.trans (HV2.out.mono zV))
  clear HWL
  generalize (w1.alloc (.cells #[.slice X cc.xs.length cx, .int .i64 cc.xd, .slice Y cc.ys.length cy, .int .i64 cc.yd, .slice G cc.gs.length cg, .int .i64 cc.gd] 42)) = W at *
  go_wp2_with fail
  refine bodyPost_ret (v := .tuple #[.slice none 0 0, .int .i64 0, .int .i64 er]) ?_ ?_ ?_
  · simp [results, Try.results11, go_sem]
  · rfl
  exact RetNx.bad HN.out H0.out HBW.out

set_option maxRecDepth 100000 in
set_option maxHeartbeats 2000000 in
/-- A corner that does not go. -/
theorem next_off (A : Option Addr) (c : Nat) (A2 : Option Addr) (c2 : Nat) (p : PG) (L : Option Addr) (l : List Int) (cl : Nat) (w : World) (hp : Pg w A c A2 c2 p) (hr : Rd w L cl l) (he : lookE p l = 0) (hx : nonneg (lookC p l).xs = false) :
    Calls Try.prog 11 #[.agg #[.slice A p.costs.length c, .slice A2 p.rows.length c2], .slice L l.length cl] w (RetNx w p l) := by
  have HN := Lib.hid (show nextE p l = 3 by unfold nextE; rw [if_pos he, if_neg (by rw [hx]; simp)])
  have HE := Lib.hid he
  have HX := Lib.hid hx
  obtain ⟨_, _, _, hco⟩ := look_corn he
  have HCO := Lib.hid hco
  clear he hx hco
  have HP := Lib.hid hp
  have HL := Lib.hid hr
  obtain ⟨⟨hl, hc, hsm, _⟩, ⟨hl2, hc2, hsm2, _⟩⟩ := hp
  obtain ⟨hll, hlc, hls, _⟩ := hr
  go_enter Try.func11, Try.ntmps11
  go_wp2_with fail
  have BP := Lib.hid (Blk.mk' w 25 #[.slice A p.costs.length c, .slice A2 p.rows.length c2])
  have HVW := Lib.hid ((by (repeat (any_goals (first | exact Below.refl _ _ | refine below_drewN ?_ _ | refine Below.drew ?_ | refine Below.alloc ?_ ?_ _ | refine Below.setCell ?_ ?_ _))); all_goals (first | omega | (simp; done) | (simp; omega))) : Below w.heap.size w (w.alloc (.cells #[.slice A p.costs.length c, .slice A2 p.rows.length c2] 25)))
  generalize (w.alloc (.cells #[.slice A p.costs.length c, .slice A2 p.rows.length c2] 25)) = V at *
  have zV := HVW.out.size
  have lP := BP.out.lt
  refine (corner_Look _ _ _ _ _ _ _ _ _ (HP.out.below HVW.out) (HL.out.below HVW.out)).mono ?_
  rw [HE.out]
  obtain ⟨cc, hC⟩ : ∃ cc, lookC p l = cc := ⟨_, rfl⟩
  rw [hC]
  have HC := Lib.hid hC
  clear hC
  rintro e w1 ⟨X, cx, Y, cy, G, cg, rfl, hX, hY, hG, hb1⟩
  have HCn := Lib.hid (CnN.mk hX hY hG)
  have H1 := Lib.hid hb1
  have z01 := hb1.size
  clear hX hY hG hb1
  go_upto_region 2 with fail
  have BC := Lib.hid (Blk.mk' w1 42 #[.slice X cc.xs.length cx, .int .i64 cc.xd, .slice Y cc.ys.length cy, .int .i64 cc.yd, .slice G cc.gs.length cg, .int .i64 cc.gd])
  have HWL := (Below.refl w1.heap.size w1).alloc (Nat.le_refl _) (.cells #[.slice X cc.xs.length cx, .int .i64 cc.xd, .slice Y cc.ys.length cy, .int .i64 cc.yd, .slice G cc.gs.length cg, .int .i64 cc.gd] 42)
  have HV2 := Lib.hid (H1.out.trans (HWL.mono z01))
  have HCW := Lib.hid (HCn.out.below HWL)
  have HBW := Lib.hid (HVW.out.trans (HV2.out.mono zV))
  clear HWL
  generalize (w1.alloc (.cells #[.slice X cc.xs.length cx, .int .i64 cc.xd, .slice Y cc.ys.length cy, .int .i64 cc.yd, .slice G cc.gs.length cg, .int .i64 cc.gd] 42)) = W at *
  have hco := HCO.out
  have hx := HX.out
  rw [HC.out] at hco hx
  have hp := (mayPB_iff.1 hco.hp).2.2.1
  have hlen := hco.lx
  obtain ⟨x0, xr, hxs⟩ : ∃ x0 xr, cc.xs = x0 :: xr := List.exists_cons_of_length_pos (by rw [hlen]; omega)
  have HMin := Lib.hid (fun u (hu : Rd u X cx cc.xs) => by
    rw [hxs] at hu
    have := slices_Min X x0 xr cx u hu
    rw [← hxs] at this
    exact this)
  have hlt : minL x0 xr < 0 := by
    apply Classical.byContradiction
    intro q
    have := minL_nonneg.1 (show 0 ≤ minL x0 xr by omega)
    rw [hxs] at hx
    simp [nonneg] at hx
    have h2 := this.2
    unfold nonneg at h2
    rw [List.all_eq_true] at h2
    obtain ⟨y, hy, hy2⟩ := hx this.1
    have := h2 y hy
    simp at this
    omega
  clear hxs hlen hp hx hco
  generalize minL x0 xr = mv at *
  have k0 : (W).cell? ⟨w1.heap.size, 0, none⟩ = some (.slice X cc.xs.length cx) := (BC.out.next (Below.refl _ _)).cell 0
  have k1 : (W).cell? ⟨w1.heap.size, 1, none⟩ = some (.int .i64 cc.xd) := (BC.out.next (Below.refl _ _)).cell 1
  have k2 : (W).cell? ⟨w1.heap.size, 2, none⟩ = some (.slice Y cc.ys.length cy) := (BC.out.next (Below.refl _ _)).cell 2
  have k3 : (W).cell? ⟨w1.heap.size, 3, none⟩ = some (.int .i64 cc.yd) := (BC.out.next (Below.refl _ _)).cell 3
  have k4 : (W).cell? ⟨w1.heap.size, 4, none⟩ = some (.slice G cc.gs.length cg) := (BC.out.next (Below.refl _ _)).cell 4
  have k5 : (W).cell? ⟨w1.heap.size, 5, none⟩ = some (.int .i64 cc.gd) := (BC.out.next (Below.refl _ _)).cell 5
  go_wp2_with fail
  refine (HMin.out _ HCW.out.x).mono ?_
  rintro e w2 ⟨rfl, rfl⟩
  go_wp2_with fail
  refine bodyPost_ret (v := .tuple #[.slice none 0 0, .int .i64 0, .int .i64 3]) ?_ ?_ ?_
  · simp [results, Try.results11, go_sem]
  · rfl
  exact RetNx.bad HN.out (by omega) HBW.out
end Go.Proofs.Ytjcdkbalhleeeab

namespace Go.Proofs.Ytjcdkbalhleeeab
open Go.RowKit

theorem i64_and1 (n : Nat) (h : n < 4611686018427387904) : bits .and .i64 (n : Int) 1 = ((n % 2 : Nat) : Int) := by
  have := (bits_nat .i64 62 (by decide) (fun n h0 h1 => IntWalk.i64_in _ (by omega)) n 1 (by omega) (by omega)).1
  rw [show ((1 : Nat) : Int) = 1 from rfl] at this
  rw [this, Nat.and_one_is_mod]
theorem bit_and (s q : Nat) (hs : s < 4611686018427387904) : bits .and .i64 ((s : Int) / 2 ^ q) 1 = if s.testBit q = true then 1 else 0 := by
  have e : (s : Int) / 2 ^ q = ((s / 2 ^ q : Nat) : Int) := by simp
  have h1 : s / 2 ^ q ≤ s := Nat.div_le_self _ _
  rw [e, i64_and1 _ (by omega), Nat.testBit_eq_decide_div_mod_eq]
  by_cases h : s / 2 ^ q % 2 = 1
  · rw [if_pos (by simpa using h), h]; rfl
  · rw [if_neg (by simpa using h), show s / 2 ^ q % 2 = 0 by omega]; rfl
/-- What the k-th round is handed. -/
def CornE (B : Nat) (p : PG) (k : Nat) (args : Array Value) (W : World) : Prop :=
  ∃ L cl X cx Y cy G cg, args = #[.slice L ((cornersZ p).getD k []).length cl, .agg #[.slice X (lookN p ((cornersZ p).getD k [])).xs.length cx, .int .i64 (lookN p ((cornersZ p).getD k [])).xd, .slice Y (lookN p ((cornersZ p).getD k [])).ys.length cy, .int .i64 (lookN p ((cornersZ p).getD k [])).yd, .slice G (lookN p ((cornersZ p).getD k [])).gs.length cg, .int .i64 (lookN p ((cornersZ p).getD k [])).gd]] ∧
    Rd W L cl (ints ((cornersZ p).getD k [])) ∧ CnN W X cx Y cy G cg (lookN p ((cornersZ p).getD k [])) ∧ ∀ ad, L = some ad → B ≤ ad.block

/-- The blocks of the iterator's boxes, and what lies below n₀. -/
structure BoxC (S : Nat → Prop) (w0 : World) (b1 b2 b3 : Nat) (A : Option Addr) (c : Nat) (A2 : Option Addr) (c2 : Nat) (p : PG) : Prop where
  s1 : S b1
  s2 : S b2
  s3 : S b3
  k1 : w0.cell? ⟨b1, 0, none⟩ = some (.int .i64 p.costs.length)
  k2 : w0.cell? ⟨b2, 0, none⟩ = some (.int .i64 p.rows.length)
  k3 : w0.cell? ⟨b3, 0, none⟩ = some (.slice A p.costs.length c)
  k4 : w0.cell? ⟨b3, 1, none⟩ = some (.slice A2 p.rows.length c2)
  pg : ∀ w, KS S w0 w → Pg w A c A2 c2 p
attribute [local go_sem] Oper.semAt_some
set_option maxRecDepth 100000 in
set_option maxHeartbeats 4000000 in
theorem corners_iter (S : Nat → Prop) (w0 : World) (b1 b2 b3 : Nat) (A : Option Addr) (c : Nat) (A2 : Option Addr) (c2 : Nat) (p : PG) (hp : BoxC S w0 b1 b2 b3 A c A2 c2 p) (hm : mayPB p = true) :
    IterC Try.prog 98 #[.pointer (some ⟨b1, 0, none⟩), .pointer (some ⟨b2, 0, none⟩), .pointer (some ⟨b3, 0, none⟩)] S (cornersZ p).length (CornE w0.heap.size p) w0 := by
  intro l J Jx W hW hJ hJx hY h0
  have hm' := mayPB_iff.1 hm
  obtain ⟨m1, m2, m3, m4, _⟩ := hm'
  have HY := Lib.hid hY
  have HJ := Lib.hid hJ
  have HJX := Lib.hid hJx
  have HP := Lib.hid hp
  have HW := Lib.hid hW
  have HM := Lib.hid hm
  have H0 := Lib.hid h0
  have p1 : W.cell? ⟨b1, 0, none⟩ = some (.int .i64 p.costs.length) := hW.cell hp.s1 hp.k1
  have p2 : W.cell? ⟨b2, 0, none⟩ = some (.int .i64 p.rows.length) := hW.cell hp.s2 hp.k2
  obtain ⟨N, hN⟩ : ∃ N, p.costs.length + p.rows.length = N := ⟨_, rfl⟩
  have hw1 : IntKind.i64.wrap ((p.costs.length : Int) + (p.rows.length : Int)) = (N : Int) := by rw [← hN, IntWalk.i64_in _ (by omega)]; omega
  have hN8 : N ≤ 8 := by omega
  have hM := Nat.pow_le_pow_right (n := 2) (by omega) hN8
  have hM0 := Nat.pow_pos (n := N) (show 0 < 2 by omega)
  obtain ⟨M, hMM⟩ : ∃ M : Nat, M = 2 ^ N := ⟨_, rfl⟩
  have HMM := Lib.hid hMM
  have hw2 : IntKind.i64.wrap ((2 : Int) ^ N) = (M : Int) := by
    have e : ((2 : Int) ^ N) = (M : Int) := by rw [hMM]; simp
    rw [e, IntWalk.i64_in _ (by omega)]
  rw [← hMM] at hM hM0
  replace hM : M ≤ 256 := hM
  have HNN := Lib.hid hN
  clear hY hJ hJx hp hW hm h0 hMM hN
  refine (callsIn_wide (n := 0)).1 (callsIn_of_wp Try.func98 rfl trivial ?_ rfl)
  simp only [Try.ntmps98, List.size_toArray, List.length_cons, List.length_nil, Nat.reduceAdd, Nat.reduceSub, Array.replicate_succ, Array.replicate_zero, List.push_toArray, List.append_toArray, List.nil_append, List.cons_append]
  gi_wp2_with fail
  gi_loopw [14] (fun i wx => ∃ s : Nat, i = .int .i64 s ∧ s ≤ M ∧ KS S W wx ∧ J (cornK p s).length wx) (fun i _ => M - (intOf i).toNat)
  case atStart => exact ⟨0, rfl, by omega, KS.refl _ _, H0.out⟩
  case round =>
    obtain ⟨s, rfl, hs, hks, hJs⟩ := hrel
    rename World => U
    have HK := Lib.hid hks
    have HJS := Lib.hid hJs
    have q1 : U.cell? ⟨b1, 0, none⟩ = some (.int .i64 p.costs.length) := hks.cell HP.out.s1 p1
    have q2 : U.cell? ⟨b2, 0, none⟩ = some (.int .i64 p.rows.length) := hks.cell HP.out.s2 p2
    clear hks hJs
    by_cases hlt : s < M
    · have hi0 : (s : Int) < (M : Int) := by omega
      gi_wp2_with fail
      refine wpIn_wide.2 ?_
      go_loopw [6, 20] (fun v j wx => ∃ q : Nat, q ≤ N ∧ j = .int .i64 q ∧ wx.ownsRow U.heap.size 3 1 v (bitsN q s).length ((ints (bitsN q s)).map (Value.int .i64)) ∧ Below U.heap.size U wx) (fun _ j _ => N - (intOf j).toNat)
      case atStart => exact ⟨0, by omega, rfl, World.ownsRow_nil _ _ _ _, Below.refl _ _⟩
      case round =>
        obtain ⟨q, hq, rfl, hown, hbel⟩ := hrel
        rename World => U1
        have HO := Lib.hid hown
        have HB := Lib.hid hbel
        clear hown hbel
        by_cases hqn : q < N
        · have hi1 : (q : Int) < (N : Int) := by omega
          have hbl := bits_len_le q s
          have HSUC := Lib.hid (bits_succ q s)
          have HBA := Lib.hid (bit_and s q (by omega))
          by_cases htb : s.testBit q = true
          · have hb1 : bits .and .i64 ((s : Int) / 2 ^ q) 1 = 1 := by rw [HBA.out, if_pos htb]
            have HS1 := Lib.hid (show bitsN (q + 1) s = bitsN q s ++ [q] by rw [HSUC.out, if_pos htb])
            clear htb
            go_wp2_with (at_builtin; refine list_app1 rfl (.tmp 28) (.tmp 30) _ _ _ 8 und_intS1 inf_intS1 rfl rfl U.heap.size _ _ _ _ rfl (HO.out.alloc _) _ 1 rfl (cell_new1 _ _ _) rfl (by unfold maxLen; omega) (by omega) (by have := HB.out.size; simp; omega) ?_; intro g1 cap1 w1 hown1 hg1 hat1 hlt1)
            have HB1 := Lib.hid ((HB.out.alloc HB.out.size _).grown hg1 (by have := HB.out.size; simp; omega) (fun j e => (HO.out.lt j e).1))
            have HO1 := Lib.hid hown1
            clear hown1 hg1 hat1
            go_roundw
            case rel => exact ⟨q + 1, by omega, by go_num, by rw [HS1.out, intsN_app, List.map_append, List.length_append]; exact HO1.out, HB1.out⟩
            case measure => simp [intOf]; omega
          · have hb1 : bits .and .i64 ((s : Int) / 2 ^ q) 1 = 0 := by rw [HBA.out, if_neg htb]
            have HS1 := Lib.hid (show bitsN (q + 1) s = bitsN q s by rw [HSUC.out, if_neg htb, List.append_nil])
            clear htb
            go_wp2_with fail
            go_roundw
            case rel => exact ⟨q + 1, by omega, by go_num, by rw [HS1.out]; exact HO.out, HB.out⟩
            case measure => simp [intOf]; omega
        · obtain rfl : q = N := by omega
          have hbl := bits_len_le q s
          have hil : (ints (bitsN q s)).length = (bitsN q s).length := intsN_len _
          obtain ⟨O, co, rfl, hR, hOL⟩ := Rd.of_ownv (l := ints (bitsN q s)) HO.out hil.symm (by rw [hil]; omega)
          rw [hil]
          have HR := Lib.hid hR
          have HOL := Lib.hid (fun ad (e : O = some ad) => show w0.heap.size ≤ ad.block from by have := hOL ad e; have := HW.out.size; have := HK.out.size; omega)
          clear hOL
          have zB := HB.out.size
          have q2' : U1.cell? ⟨b2, 0, none⟩ = some (.int .i64 p.rows.length) := (HB.out.cell (World.block_lt_of_cell? _ _ q2)).trans q2
          have HK1 := Lib.hid (HK.out.next HB.out)
          have HJ1 := Lib.hid (HJ.out _ _ _ HJS.out HB.out)
          have q3 : U1.cell? ⟨b3, 0, none⟩ = some (.slice A p.costs.length c) := (HW.out.trans HK1.out).cell HP.out.s3 HP.out.k3
          have q4 : U1.cell? ⟨b3, 1, none⟩ = some (.slice A2 p.rows.length c2) := (HW.out.trans HK1.out).cell HP.out.s3 HP.out.k4
          clear hR hil
          have HLK := Lib.hid (corner_Look A c A2 c2 p O (ints (bitsN q s)) co U1 (HP.out.pg _ (HW.out.trans HK1.out)) HR.out)
          rw [intsN_len] at HLK
          have HAT := Lib.hid (fun h => cornK_at (p := p) (s := s) (by rw [HNN.out, ← HMM.out]; exact hlt) h)
          have HSC := Lib.hid (cornK_succ p s)
          have hOK : okC p (bitsN q s) = (decide ((bitsN q s).length = p.rows.length) && decide (lookE p (ints (bitsN q s)) = 0)) := rfl
          have HOKC := Lib.hid hOK
          obtain ⟨lb, hlb⟩ : ∃ lb, bitsN q s = lb := ⟨_, rfl⟩
          have HLB := Lib.hid hlb
          rw [HNN.out, hlb] at HAT HSC
          rw [hlb] at HR HLK HOKC hbl HO ⊢
          clear hOK hlb HO
          obtain ⟨ce, hce⟩ : ∃ ce, lookE p (ints lb) = ce := ⟨_, rfl⟩
          rw [hce] at HLK HOKC
          have HCE := Lib.hid hce
          clear hce
          go_wp2_with fail
          gi_wp2_with fail
          refine ⟨trivial, rfl, ?_⟩
          refine (callsIn_wide.2 HLK.out).mono ?_
          rintro e w2 ⟨X, cx, Y, cy, G, cg, rfl, hX, hY, hG, hb2⟩
          have HCn := Lib.hid (CnN.mk hX hY hG)
          have H2 := Lib.hid hb2
          have r2 := (hb2.cell (World.block_lt_of_cell? _ _ q2')).trans q2'
          have lb2 := World.block_lt_of_cell? _ _ r2
          clear hX hY hG hb2 q2' q3 q4 q1 q2 p1 p2
          have HVL := (Below.refl w2.heap.size w2).alloc (Nat.le_refl _) (.cells #[.slice X (lookC p (ints lb)).xs.length cx, .int .i64 (lookC p (ints lb)).xd, .slice Y (lookC p (ints lb)).ys.length cy, .int .i64 (lookC p (ints lb)).yd, .slice G (lookC p (ints lb)).gs.length cg, .int .i64 (lookC p (ints lb)).gd] 42)
          have HK2 := Lib.hid (HK1.out.next H2.out |>.next HVL)
          have HJ2 := Lib.hid (HJ.out _ _ _ (HJ.out _ _ _ HJ1.out H2.out) HVL)
          have HE := Lib.hid (show okC p lb = true → CornE w0.heap.size p (cornK p s).length #[.slice O lb.length co, .agg #[.slice X (lookC p (ints lb)).xs.length cx, .int .i64 (lookC p (ints lb)).xd, .slice Y (lookC p (ints lb)).ys.length cy, .int .i64 (lookC p (ints lb)).yd, .slice G (lookC p (ints lb)).gs.length cg, .int .i64 (lookC p (ints lb)).gd]] (w2.alloc (.cells #[.slice X (lookC p (ints lb)).xs.length cx, .int .i64 (lookC p (ints lb)).xd, .slice Y (lookC p (ints lb)).ys.length cy, .int .i64 (lookC p (ints lb)).yd, .slice G (lookC p (ints lb)).gs.length cg, .int .i64 (lookC p (ints lb)).gd] 42)) from fun h => by
            unfold CornE
            rw [(HAT.out h).2]
            exact ⟨O, co, X, cx, Y, cy, G, cg, rfl, (HR.out.below H2.out).below HVL, HCn.out.below HVL, HOL.out⟩)
          clear HVL
          by_cases hlen : lb.length = p.rows.length
          · have hlz : (lb.length : Int) = (p.rows.length : Int) := by omega
            by_cases hc0 : ce = 0
            · have HTR := Lib.hid (show okC p lb = true by rw [HOKC.out]; simp [hlen, hc0])
              subst hc0
              obtain ⟨fn, tmps, assign, body, hy, hR⟩ := HY.out _ _ _ (HAT.out HTR.out).1 HJ2.out (HW.out.trans HK2.out) (HE.out HTR.out)
              rw [hlen] at hy
              gi_wp2_with fail
              refine ⟨rfl, ?_⟩
              refine hR.mono ?_
              rintro e W3 (⟨rfl, hJ3, hk3⟩ | ⟨rfl, hJx3⟩)
              · have HJ3 := Lib.hid hJ3
                have HK3 := Lib.hid (HK2.out.trans hk3)
                clear hJ3 hk3
                gi_wp2_with fail
                go_roundw
                case rel => exact ⟨s + 1, by go_num, by omega, HK3.out, by rw [HSC.out, if_pos HTR.out, List.length_append]; exact HJ3.out⟩
                case measure => simp [intOf]; omega
              · have HJX3 := Lib.hid hJx3
                clear hJx3
                gi_wp2_with fail
                refine bodyPost_ret (results_none rfl _ _ _) rfl ?_
                exact ⟨⟨_, rfl⟩, .inr ⟨_, (HAT.out HTR.out).1, HJX3.out⟩⟩
            · have HFA := Lib.hid (show okC p lb = false by rw [HOKC.out]; simp [hlen, hc0])
              have hcz : (ce == 0) = false := by simpa using hc0
              gi_wp2_with fail
              refine ⟨fun _ h => (by cases h), ?_⟩
              gi_wp2_with fail
              go_roundw
              case rel => exact ⟨s + 1, by go_num, by omega, HK2.out, by rw [HSC.out, if_neg (by rw [HFA.out]; simp), List.append_nil]; exact HJ2.out⟩
              case measure => simp [intOf]; omega
          · have HFA := Lib.hid (show okC p lb = false by rw [HOKC.out]; simp [hlen])
            have hlz : ¬ (lb.length : Int) = (p.rows.length : Int) := by omega
            have hlz' : ((lb.length : Int) == (p.rows.length : Int)) = false := by simp; omega
            gi_wp2_with fail
            refine ⟨fun _ h => (by cases h), ?_⟩
            gi_wp2_with fail
            go_roundw
            case rel => exact ⟨s + 1, by go_num, by omega, HK2.out, by rw [HSC.out, if_neg (by rw [HFA.out]; simp), List.append_nil]; exact HJ2.out⟩
            case measure => simp [intOf]; omega
    · obtain rfl : s = M := by omega
      gi_wp2_with fail
      go_end0
      exact ⟨⟨_, rfl⟩, .inl (by rw [← cornK_all, HNN.out, ← HMM.out]; exact HJS.out)⟩
end Go.Proofs.Ytjcdkbalhleeeab
