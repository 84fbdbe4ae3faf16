/-
  Walk: walk.Change computes what the plain words say.
-/
import Derived.Test.YtjcdkbalhleeeabLook2
import Derived.Test.YtjcdkbalhleeeabRowA
import Derived.Test.YtjcdkbalhleeeabJAppN
import Derived.Test.YtjcdkbalhleeeabPlainB
namespace Go.Proofs.Ytjcdkbalhleeeab
open Go.RowKit

section
variable {rest : List Oper} {o : Oper} {a : Act} {w : World} {Q : Exit → Act → World → Prop}
theorem list_appRow {ops : Array Oper} (hgd : o.guard = none) (s x : Operand)
    (ho : o.op = .call { callee := .builtin .append, args := #[s, x], argTypes := #[23, 23] })
    (base : Nat) (v : Value) (n : Nat) (xs : List Value) (u1 u2 : Value) (hs : a.eval s = v) (hown : w.ownsRow base 36 2 v n xs)
    (b c : Nat) (hx : a.eval x = .slice (some ⟨b, 0, none⟩) 1 c) (hb : ∀ (j : Nat) (x : Value), [u1, u2][j]? = some x → w.cell? ((⟨b, 0, none⟩ : Addr).add j) = some x) (h1 : u1.oneCell' = true) (h2 : u2.oneCell' = true)
    (hn : n ≤ 100) (hbase : base ≤ w.heap.size)
    (h : ∀ g cap w', w'.ownsRow base 36 2 (.slice (some ⟨g, 0, none⟩) (n + 1) cap) (n + 1) (xs ++ [u1, u2]) → w.grownBy w' v.ownBlock → (v.ownBlock = some g ∨ g = w.heap.size) → g < w'.heap.size → wpList Try.prog ops Q rest (a.put o.dst (.slice (some ⟨g, 0, none⟩) (n + 1) cap)) w') :
    wpList Try.prog ops Q (o :: rest) a w := by
  obtain ⟨i, hi, hz0, hz1, hz2⟩ := info_parts inf_rowT
  exact wpList_append_lies w hgd s x 23 ho base 36 i _ 2 32 und_rowsT hi hz0 hz1 hz2 rfl (by omega) v n xs hs hown _ 1 c [u1, u2] hx rfl hb (by simp [h1, h2]) (by omega) (by unfold maxLen; omega) (by omega) hbase _ rfl h
theorem step_callW {P : Program} {ops : Array Oper} {K : Act → World → Prop} {E' : Prop} (hg : o.guard = none) {f : FuncId} {args : Array Value} (hrun : (execOp a.eval o).run P w = .ok (.enter f args) w) {U : World} {v : Value}
    (hc : Calls P f args w fun e w' => e = .returned v ∧ ∃ u : Wk U, w' = u.1) (hK : ∀ u : Wk U, K (a.put o.dst v) u.1) : if Region.wanted o (yielded ops a.tmps) = true then Oper.wp P o a w K Q else E' := by
  rw [if_pos (by simp [Region.wanted, hg])]
  unfold Oper.wp
  rw [hrun, Oper.upon_enter]
  exact hc.mono (by rintro _ _ ⟨rfl, u, rfl⟩; exact hK u)
end

set_option maxRecDepth 100000 in
set_option maxHeartbeats 2000000 in
theorem walk_Change (A : Option Addr) (c : Nat) (A2 : Option Addr) (c2 : Nat) (p : PG) (L : Option Addr) (l : List Int) (cl r : Nat) (w : World) (hp : Pg w A c A2 c2 p) (hr : Rd w L cl l) (h0 : lookE p l = 0) (hj : r < 1000000) :
    Calls Try.prog 40 #[.agg #[.slice A p.costs.length c, .slice A2 p.rows.length c2], .slice L l.length cl, .int .i64 r] w fun e w' => ∃ O co, e = .returned (.tuple #[.slice O l.length co, .int .i64 (lookC (qOf p r) l).xd]) ∧
      Rd w' O co (l.map fun j => (lookC (qOf p r) l).xs.getD j.toNat 0) ∧ Below w.heap.size w w' := by
  have hE2 := qOf_E h0 r
  obtain ⟨_, _, _, hco⟩ := look_corn h0
  obtain ⟨_, _, _, hcd⟩ := look_corn hE2
  obtain ⟨dd, hC2⟩ : ∃ dd, lookC (qOf p r) l = dd := ⟨_, rfl⟩
  rw [hC2] at hcd ⊢
  have HM := Lib.hid hco.hp
  have h4 := hco.rows4
  have h1 := (mayPB_iff.1 hco.hp).2.2.1
  have HRT := Lib.hid hco.hr
  have HNE := Lib.hid (show l = (nats l).map Int.ofNat from (right_nats (by
    unfold lookE at h0
    split at h0
    · omega
    · split at h0
      · omega
      · rename_i g; simpa using g)).2)
  have HE2 := Lib.hid hE2
  have HC2 := Lib.hid hC2
  have HCD := Lib.hid hcd
  clear h0 hE2 hC2 hco hcd
  have HP := Lib.hid hp
  have HL := Lib.hid hr
  obtain ⟨⟨hl, hc, hsm, _⟩, ⟨hl2, hc2, hsm2, _⟩⟩ := hp
  obtain ⟨hll, hlc, hls, _⟩ := hr
  go_enter Try.func40, Try.ntmps40
  obtain ⟨ad, As, cs, rfl, hrs⟩ := HP.out.rows.all (by omega)
  have HRS := Lib.hid hrs
  clear hrs
  go_wp2_with fail
  have BP := Lib.hid (show Blk ((w.alloc (.cells #[.slice A p.costs.length c, .slice (some ad) p.rows.length c2] 25)).alloc (.cells #[.slice A p.costs.length c, .slice none 0 0] 25)) w.heap.size 25 #[.slice A p.costs.length c, .slice (some ad) p.rows.length c2] from Blk.alloc (Blk.mk' _ _ _) _)
  have BQ := Lib.hid (show Blk ((w.alloc (.cells #[.slice A p.costs.length c, .slice (some ad) p.rows.length c2] 25)).alloc (.cells #[.slice A p.costs.length c, .slice none 0 0] 25)) (w.heap.size + 1) 25 #[.slice A p.costs.length c, .slice none 0 0] from by
    have := Blk.mk' (w.alloc (.cells #[.slice A p.costs.length c, .slice (some ad) p.rows.length c2] 25)) 25 #[.slice A p.costs.length c, .slice none 0 0]
    simpa using this)
  have HB := Lib.hid ((by (repeat (any_goals (first | exact Below.refl _ _ | refine below_drewN ?_ _ | refine Below.drew ?_ | refine Below.alloc ?_ ?_ _ | refine Below.setCell ?_ ?_ _))); all_goals (first | omega | (simp; done) | (simp; omega))) : Below w.heap.size w ((w.alloc (.cells #[.slice A p.costs.length c, .slice (some ad) p.rows.length c2] 25)).alloc (.cells #[.slice A p.costs.length c, .slice none 0 0] 25)))
  have lW : ((w.alloc (.cells #[.slice A p.costs.length c, .slice (some ad) p.rows.length c2] 25)).alloc (.cells #[.slice A p.costs.length c, .slice none 0 0] 25)).heap.size = w.heap.size + 2 := by simp
  generalize ((w.alloc (.cells #[.slice A p.costs.length c, .slice (some ad) p.rows.length c2] 25)).alloc (.cells #[.slice A p.costs.length c, .slice none 0 0] 25)) = W at *
  go_loopw [22] (fun i wx => ∃ (k : Nat) (v : Value), k ≤ p.rows.length ∧ i = .int .i64 k ∧ Blk wx w.heap.size 25 #[.slice A p.costs.length c, .slice (some ad) p.rows.length c2] ∧ Blk wx (w.heap.size + 1) 25 #[.slice A p.costs.length c, v] ∧ wx.ownsRow (w.heap.size + 2) 36 2 v k (rowCells As cs p (colP p r) k) ∧ Below w.heap.size w wx) (fun i _ => p.rows.length - (intOf i).toNat)
  case atStart => exact ⟨0, _, by omega, rfl, BP.out, BQ.out, World.ownsRow_nil _ _ _ _, HB.out⟩
  case round =>
    obtain ⟨k, v, hk, rfl, hPP, hQ, hown, hbel⟩ := hrel
    have HPP := Lib.hid hPP
    have HQ := Lib.hid hQ
    have HO := Lib.hid hown
    have HB := Lib.hid hbel
    have zB := hbel.size
    have lQ := hQ.lt
    clear hPP hQ hown hbel
    rename World => U
    by_cases hlt : k < p.rows.length
    · obtain ⟨r1, r2, r3⟩ := HRS.out k hlt
      have r1' := (HB.out.cell (World.block_lt_of_cell? _ _ r1)).trans r1
      have r2' := (HB.out.cell (World.block_lt_of_cell? _ _ r2)).trans r2
      have hral := World.block_lt_of_cell? _ _ r1'
      have HRC := Lib.hid (show rowCells As cs p (colP p r) (k + 1) = rowCells As cs p (colP p r) k ++ [.slice (As k) (p.rows.getD k ([], 0)).1.length (cs k), .int .i64 (hasZ p k r)] by rw [rowCells, colP_at p r hlt])
      have HCL := Lib.hid (fun u hu => corner_Has A c (some ad) c2 p k r u (HP.out.below (HB.out.trans hu)) HM.out hlt hj)
      generalize hasZ p k r = hv at *
      generalize (p.rows.getD k ([], 0)).1.length = rl at *
      generalize (p.rows.getD k ([], 0)).2 = rm at *
      generalize As k = Ak at *
      generalize cs k = ck at *
      have hi0 : (k : Int) < (p.rows.length : Int) := by omega
      clear r1 r2 r3
      go_upto_region 5 with fail
      have HU1 := Lib.hid (Blk.mk' U 36 #[.slice Ak rl ck, .int .i64 rm])
      have HP1 := Lib.hid (HPP.out.alloc (.cells #[.slice Ak rl ck, .int .i64 rm] 36))
      have HQ1 := Lib.hid (HQ.out.alloc (.cells #[.slice Ak rl ck, .int .i64 rm] 36))
      have HO1 := Lib.hid (HO.out.alloc (.cells #[.slice Ak rl ck, .int .i64 rm] 36))
      have HB1 := Lib.hid (HB.out.alloc zB (.cells #[.slice Ak rl ck, .int .i64 rm] 36))
      have hz1 : (U.alloc (.cells #[.slice Ak rl ck, .int .i64 rm] 36)).heap.size = U.heap.size + 1 := by simp
      have HC := Lib.hid (fun u hu => HCL.out u (((by (repeat (any_goals (first | exact Below.refl _ _ | refine below_drewN ?_ _ | refine Below.drew ?_ | refine Below.alloc ?_ ?_ _ | refine Below.setCell ?_ ?_ _))); all_goals (first | omega | (simp; done) | (simp; omega))) : Below w.heap.size U (U.alloc (.cells #[.slice Ak rl ck, .int .i64 rm] 36))).trans hu))
      generalize (U.alloc (.cells #[.slice Ak rl ck, .int .i64 rm] 36)) = U1 at *
      have HD := Lib.hid (show Calls Try.prog 44 #[.agg #[.slice A p.costs.length c, .slice (some ad) p.rows.length c2], .int .i64 k, .int .i64 r] U1.drew (fun e w' => e = Ending.returned (.int .i64 hv) ∧ ∃ u : Wk U1, w' = u.1) from
        (HC.out U1.drew (Below.refl _ _).drew).mono fun e w' h => ⟨h.1, ⟨w', ((Below.refl U1.heap.size U1).drew).trans h.2⟩, rfl⟩)
      have t0 := HQ1.out.cell 1
      have t1 := HU1.out.cell 0
      have t2 := HP1.out.cell 0
      have t3 := HP1.out.cell 1
      simp at t0 t1 t2 t3
      have s0 : ∀ u : Wk U1, u.1.cell? ⟨w.heap.size + 1, 1, none⟩ = some v := fun u => (HQ1.out.next u.2).cell 1
      have s1 : ∀ u : Wk U1, u.1.cell? ⟨U.heap.size, 0, none⟩ = some (.slice Ak rl ck) := fun u => (HU1.out.next u.2).cell 0
      have sA : ∀ (u : Wk U1) (o : Obj), (u.1.alloc o).cell? ⟨w.heap.size + 1, 1, none⟩ = some v := fun u o => ((HQ1.out.next u.2).alloc o).cell 1
      have zz : w.heap.size + 2 ≤ U1.heap.size := by omega
      clear r1' r2'
      go_region_law (first
        | (refine step_callW (f := 44) rfl (by go_simp; done) HD.out ?_; intro u7; have zu7 := u7.2.size; have c7 := s0 u7; have d7 := s1 u7)
        | (refine step_appRow rfl (.tmp 28) (.tmp 36) rfl (w.heap.size + 2) v k _ (.slice Ak rl ck) (.int .i64 hv) (by simp [Act.eval]) (own_below (own_below HO1.out u7.2) ((Below.refl _ _).alloc (Nat.le_refl _) _)) _ 1 (by simp [Act.eval]) (news2 (Blk.mk' _ _ _)) rfl rfl (by omega) (by have := u7.2.size; simp; omega) ?_; intro g cap w5 hown5 hg5 hat5 hlt5; have hB5 := (((HQ1.out.next u7.2).alloc _).grown hg5 (fun q => by have := (HO1.out.lt _ q.symm).1; omega)); have hP5 := (((HP1.out.next u7.2).alloc _).grown hg5 (fun q => by have := (HO1.out.lt _ q.symm).1; omega)); have hq0 : w5.cell? ⟨w.heap.size + 1, 1, none⟩ = some v := hB5.cell 1; have hqf := hB5.frozen 1))
      all_goals try have HB7 := Lib.hid (HB1.out.trans (u7.2.mono (by omega)))
      all_goals
        have HB5 := Lib.hid hB5
        have HP5 := Lib.hid hP5
        have HO5 := Lib.hid hown5
        have HG5 := Lib.hid hg5
        clear hB5 hP5 hown5 hg5 hq0 hqf
        go_wp2_with fail
        go_roundw
        case rel =>
          have hb6 : Below w.heap.size w w5 := (HB7.out.alloc (by have := HB7.out.size; exact this) _).grown HG5.out (by simp; have := HB7.out.size; omega) (fun j e => by have := (HO1.out.lt j e).1; omega)
          refine ⟨k + 1, _, by omega, by go_num, HP5.out.far _ (by simp), HB5.out.set0 1 _, ?_, hb6.setCell (by simp) _⟩
          rw [HRC.out]
          exact ownsRow_setCell_below HO5.out (by simp) _
        case measure => simp [intOf]; omega
    · obtain rfl : k = p.rows.length := by omega
      have hv : ∃ g cap, v = .slice (some ⟨g, 0, none⟩) p.rows.length cap := by
        rcases HO.out.2 with ⟨_, q⟩ | ⟨g, cap, cur, q, _⟩
        · omega
        · exact ⟨g, cap, q⟩
      obtain ⟨gq, cq, rfl⟩ := hv
      have HRW := Lib.hid (show Pg U A c (some ⟨gq, 0, none⟩) cq (mostsOf p (colP p r)) from ⟨(HP.out.below HB.out).costs, rows_read HO.out (by omega) fun i hi => ((HRS.out i hi).2.2).below HB.out⟩)
      have HLK := Lib.hid (show ∀ u : World, Below U.heap.size U u → Calls Try.prog 13 #[.agg #[.slice A p.costs.length c, .slice (some ⟨gq, 0, none⟩) p.rows.length cq], .slice L l.length cl] u (RetCo u dd 0) from fun u hu => by
        have := corner_Look A c (some ⟨gq, 0, none⟩) cq (mostsOf p (colP p r)) L l cl u (HRW.out.below hu) ((HL.out.below HB.out).below hu)
        rw [← qOf_mosts, HE2.out, HC2.out, qOf_len] at this
        exact this)
      have e0 : U.cell? ⟨w.heap.size + 1, 0, none⟩ = some (.slice A p.costs.length c) := HQ.out.cell 0
      have e1 : U.cell? ⟨w.heap.size + 1, 1, none⟩ = some (.slice (some ⟨gq, 0, none⟩) p.rows.length cq) := HQ.out.cell 1
      go_wp2_with fail
      refine (HLK.out _ (Below.refl _ _)).mono ?_
      rintro e w3 ⟨X', cx', Y', cy', G', cg', rfl, hX', hY', hG', hb3⟩
      have HX' := Lib.hid hX'
      have H3 := Lib.hid (HB.out.trans (hb3.mono zB))
      have z03 := H3.out.size
      clear hX' hY' hG' hb3 e0 e1
      go_upto_region 7 with fail
      have BD := Lib.hid (Blk.mk' w3 42 #[.slice X' dd.xs.length cx', .int .i64 dd.xd, .slice Y' dd.ys.length cy', .int .i64 dd.yd, .slice G' dd.gs.length cg', .int .i64 dd.gd])
      have HW4 := (Below.refl w3.heap.size w3).alloc (Nat.le_refl _) (.cells #[.slice X' dd.xs.length cx', .int .i64 dd.xd, .slice Y' dd.ys.length cy', .int .i64 dd.yd, .slice G' dd.gs.length cg', .int .i64 dd.gd] 42)
      have HX4 := Lib.hid (HX'.out.below HW4)
      have HL4 := Lib.hid ((HL.out.below H3.out).below HW4)
      have H4 := Lib.hid (H3.out.trans (HW4.mono z03))
      have l4 : (w3.alloc (.cells #[.slice X' dd.xs.length cx', .int .i64 dd.xd, .slice Y' dd.ys.length cy', .int .i64 dd.yd, .slice G' dd.gs.length cg', .int .i64 dd.gd] 42)).heap.size = w3.heap.size + 1 := by simp
      clear HW4
      generalize (w3.alloc (.cells #[.slice X' dd.xs.length cx', .int .i64 dd.xd, .slice Y' dd.ys.length cy', .int .i64 dd.yd, .slice G' dd.gs.length cg', .int .i64 dd.gd] 42)) = w4 at *
      obtain ⟨ls, hls⟩ : ∃ ls, ls = l.map fun j => dd.xs.getD j.toNat 0 := ⟨_, rfl⟩
      have HLS := Lib.hid hls
      have HLN := Lib.hid (show ls.length = l.length by rw [hls, List.length_map])
      clear hls
      go_loopw [13, 48] (fun v i wx => ∃ k : Nat, k ≤ l.length ∧ i = .int .i64 k ∧ wx.ownsRow w4.heap.size 2 1 v k ((ls.take k).map (Value.int .i64)) ∧ Below w4.heap.size w4 wx) (fun _ i _ => l.length - (intOf i).toNat)
      case atStart => exact ⟨0, by omega, rfl, World.ownsRow_nil _ _ _ _, Below.refl _ _⟩
      case round =>
        obtain ⟨k, hk, rfl, hown, hbel⟩ := hrel
        rename World => U2
        have HO2 := Lib.hid hown
        have HB2 := Lib.hid hbel
        have zB2 := hbel.size
        have BD2 := Lib.hid ((BD.out.at_ rfl).below HB2.out (by omega))
        clear hown hbel
        by_cases hlt : k < l.length
        · obtain ⟨al, rfl, hcl⟩ := (HL4.out.below HB2.out).natAt HNE.out hlt
          have hjN : (nats l).getD k 0 < dd.xs.length := by rw [HCD.out.lx, qOf_len]; exact HRT.out.lt _ (mem_getD.2 ⟨k, by simpa [nats] using hlt, rfl⟩)
          obtain ⟨ax, rfl, hcx⟩ := (HX4.out.below HB2.out).getD_at hjN
          have HSC := Lib.hid (show ls.take (k + 1) = ls.take k ++ [dd.xs.getD ((nats l).getD k 0) 0] by
            rw [List.take_succ_eq_append_getElem (by rw [HLN.out]; exact hlt)]
            congr 2
            simp only [HLS.out, List.getElem_map]
            congr 1
            simp [nats, List.getD, List.getElem?_eq_getElem hlt])
          have v0 : U2.cell? ⟨w3.heap.size, 0, none⟩ = some (.slice (some ax) dd.xs.length cx') := BD2.out.cell 0
          have hll' := World.block_lt_of_cell? _ _ hcl
          have hxl' := World.block_lt_of_cell? _ _ hcx
          have hi0 : (k : Int) < (l.length : Int) := by omega
          have hi1 : (((nats l).getD k 0 : Nat) : Int) < (dd.xs.length : Int) := by omega
          generalize (nats l).getD k 0 = jn at *
          generalize dd.xs.getD jn 0 = xv at *
          go_wp2_with (at_builtin; refine list_app1 rfl (.tmp 52) (.tmp 59) _ _ _ 8 und_i64s inf_i64 rfl rfl w4.heap.size u13 k _ _ rfl (HO2.out.alloc _) _ 1 rfl (cell_new1 _ _ _) rfl (by unfold maxLen; omega) (by omega) (by simp; omega) ?_; intro g cap w5 hown5 hg5 hat5 hlt5)
          have HO5 := Lib.hid hown5
          have HG5 := Lib.hid hg5
          clear hown5 hg5
          go_roundw
          case rel => exact ⟨k + 1, by omega, by go_num, by rw [HSC.out, List.map_append]; exact HO5.out, (HB2.out.alloc zB2 _).grown HG5.out (by simp; omega) (fun j e => (HO2.out.lt j e).1)⟩
          case measure => simp [intOf]; omega
        · obtain rfl : k = l.length := by omega
          have hln : l.length = p.rows.length := by have := HRT.out.len; simpa [nats] using this
          have hv : ∃ g cap, u13 = .slice (some ⟨g, 0, none⟩) l.length cap := by
            rcases HO2.out.2 with ⟨_, q⟩ | ⟨g, cap, cur, q, _⟩
            · omega
            · exact ⟨g, cap, q⟩
          obtain ⟨go, co, rfl⟩ := hv
          have v1 : U2.cell? ⟨w3.heap.size, 1, none⟩ = some (.int .i64 dd.xd) := BD2.out.cell 1
          have HRE := Lib.hid (show Rd U2 (some ⟨go, 0, none⟩) co ls from Rd.of_own (base := w4.heap.size) (e := 2) (by have := HO2.out; rw [List.take_of_length_le (by rw [HLN.out]; exact Nat.le_refl _)] at this; rw [HLN.out]; exact this) (by rw [HLN.out]; omega))
          go_wp2_with fail
          go_region
          all_goals
            go_wp2_with fail
            refine bodyPost_ret (v := .tuple #[.slice (some ⟨go, 0, none⟩) l.length co, .int .i64 dd.xd]) ?_ ?_ ?_
            · simp [results, Try.results40, go_sem]
            · rfl
            exact ⟨_, _, rfl, by rw [← HLS.out]; exact HRE.out.below (Below.refl _ _).drew, (H4.out.trans (HB2.out.mono (by omega))).drew⟩
end Go.Proofs.Ytjcdkbalhleeeab
