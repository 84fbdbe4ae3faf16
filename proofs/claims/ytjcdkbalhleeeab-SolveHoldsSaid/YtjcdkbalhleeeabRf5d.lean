/-
  Walk: the document's Next computes what the plain words say.
-/
import Derived.Test.YtjcdkbalhleeeabRf5c
import Derived.Test.YtjcdkbalhleeeabPlainA
import Derived.Test.YtjcdkbalhleeeabNxt3
namespace Go.Proofs.Ytjcdkbalhleeeab
open Go.RowKit

/-- What the document's Next hands back. -/
def RetN5 (w : World) (p : PG) (l : List Nat) (e : Ending) (w' : World) : Prop :=
  Below w.heap.size w w' ∧ (nxtZ p l = none → e = .returned (.tuple #[.slice none 0 0, .int .i64 (kindZ p l)])) ∧
  ∀ l', nxtZ p l = some l' → ∃ O co, e = .returned (.tuple #[.slice O l'.length co, .int .i64 0]) ∧ Rd w' O co (ints l') ∧ ∀ ad, O = some ad → w.heap.size ≤ ad.block ∧ ad.block < w'.heap.size
theorem step_callCl {P : Program} {ops : Array Oper} {K : Act → World → Prop} {E' : Prop} {o : Oper} {a : Act} {w : World} {Q : Exit → Act → World → Prop} (hg : o.guard = none) {f : FuncId} {args : Array Value} {q : List Nat}
    (hrun : (execOp a.eval o).run P w = .ok (.enter f args) w) (hc : Calls P f args w (RetCl w q))
    (hK : ∀ O co w', Rd w' O co (ints q) → Below w.heap.size w w' → K (a.put o.dst (.slice O q.length co)) w') :
    if Region.wanted o (yielded ops a.tmps) = true then Oper.wp P o a w K Q else E' := by
  rw [if_pos (by simp [Region.wanted, hg])]
  unfold Oper.wp
  rw [hrun, Oper.upon_enter]
  exact hc.mono (by rintro _ _ ⟨O, co, rfl, hO, _, hb⟩; exact hK O co _ hO hb)
theorem inZ_is {gs : List Int} {r : Nat} (h1 : r < gs.length) (h2 : 0 < gs.getD r 0) (h3 : ∀ i, i < r → gs.getD i 0 ≤ 0) : inZ gs = some r := by
  unfold inZ
  rw [List.findIdx?_eq_some_iff_getElem]
  refine ⟨h1, ?_, fun j hj => ?_⟩
  · simpa [List.getD, List.getElem?_eq_getElem h1] using h2
  · have := h3 j hj
    have hj' : j < gs.length := by omega
    simp only [List.getD, List.getElem?_eq_getElem hj', Option.getD_some] at this
    simp; omega
/-- Behind the statement, where there is no corner. -/
def CutN (W : World) (s : Value) (wx : World) : Prop := s = .bool false ∧ Below W.heap.size W wx
theorem RetCb.cv {w w' : World} {c : CO} {b : Bool} {e : Ending} (h : RetCb w c b e w') : RetCv w c (.bool b) e w' := h

set_option maxRecDepth 100000 in
set_option maxHeartbeats 40000000 in
theorem ref5_Next (A : Option Addr) (c : Nat) (A2 : Option Addr) (c2 : Nat) (p : PG) (L : Option Addr) (l : List Int) (cl : Nat) (X Y G : Option Addr) (cx cy cg : Nat) (w : World) (hp : Pg w A c A2 c2 p) (hr : Rd w L cl l) (h0 : lookE p l = 0) (hx0 : nonneg (lookC p l).xs = true)
    (hG : Rd w G cg (lookC p l).gs) :
    Calls Try.prog 37 #[.agg #[.slice A p.costs.length c, .slice A2 p.rows.length c2], .slice L l.length cl, .agg #[.slice X (lookC p l).xs.length cx, .int .i64 (lookC p l).xd, .slice Y (lookC p l).ys.length cy, .int .i64 (lookC p l).yd, .slice G (lookC p l).gs.length cg, .int .i64 (lookC p l).gd]] w (RetN5 w p (nats l)) := by
  have hok : OKb p (nats l) := by
    obtain ⟨q1, q2, q3⟩ := look_parts h0
    exact ⟨q1, (right_nats q2).1, q3, by rw [lookN_eq h0]; exact hx0⟩
  have HOK := Lib.hid hok
  have HL0 := Lib.hid h0
  clear hok hx0
  have HN := Lib.hid (look_eq h0)
  have HLN := Lib.hid (lookN_eq h0)
  obtain ⟨_, _, _, hco⟩ := look_corn h0
  have HCO := Lib.hid hco
  have HP := Lib.hid hp
  have HL := Lib.hid hr
  have HG := Lib.hid hG
  obtain ⟨⟨hl, hc, hsm, _⟩, ⟨hl2, hc2, hsm2, _⟩⟩ := hp
  obtain ⟨hll, hlc, hls, _⟩ := hr
  obtain ⟨hgl, hgc, hgs, _⟩ := hG
  clear hco
  have HGM := Lib.hid (show inZ (lookC p l).gs = inZ (lookN p (nats l)).gs by rw [HLN.out])
  have hg1 : 0 < (lookC p l).gs.length := by rw [HCO.out.lg]; have := mayPB_iff.1 HCO.out.hp; omega
  go_enter Try.func37, Try.ntmps37
  go_wp2_with fail
  have BP := Lib.hid (show Blk ((w.alloc (.cells #[.slice A p.costs.length c, .slice A2 p.rows.length c2] 25)).alloc (.cells #[.slice X (lookC p l).xs.length cx, .int .i64 (lookC p l).xd, .slice Y (lookC p l).ys.length cy, .int .i64 (lookC p l).yd, .slice G (lookC p l).gs.length cg, .int .i64 (lookC p l).gd] 42)) w.heap.size 25 #[.slice A p.costs.length c, .slice A2 p.rows.length c2] from Blk.alloc (Blk.mk' _ _ _) _)
  have BC := Lib.hid (show Blk ((w.alloc (.cells #[.slice A p.costs.length c, .slice A2 p.rows.length c2] 25)).alloc (.cells #[.slice X (lookC p l).xs.length cx, .int .i64 (lookC p l).xd, .slice Y (lookC p l).ys.length cy, .int .i64 (lookC p l).yd, .slice G (lookC p l).gs.length cg, .int .i64 (lookC p l).gd] 42)) (w.heap.size + 1) 42 #[.slice X (lookC p l).xs.length cx, .int .i64 (lookC p l).xd, .slice Y (lookC p l).ys.length cy, .int .i64 (lookC p l).yd, .slice G (lookC p l).gs.length cg, .int .i64 (lookC p l).gd] from by
    have := Blk.mk' (w.alloc (.cells #[.slice A p.costs.length c, .slice A2 p.rows.length c2] 25)) 42 #[.slice X (lookC p l).xs.length cx, .int .i64 (lookC p l).xd, .slice Y (lookC p l).ys.length cy, .int .i64 (lookC p l).yd, .slice G (lookC p l).gs.length cg, .int .i64 (lookC p l).gd]
    simpa using this)
  have HBW := Lib.hid ((by (repeat (any_goals (first | exact Below.refl _ _ | refine below_drewN ?_ _ | refine Below.drew ?_ | refine Below.alloc ?_ ?_ _ | refine Below.setCell ?_ ?_ _))); all_goals (first | omega | (simp; done) | (simp; omega))) : Below w.heap.size w ((w.alloc (.cells #[.slice A p.costs.length c, .slice A2 p.rows.length c2] 25)).alloc (.cells #[.slice X (lookC p l).xs.length cx, .int .i64 (lookC p l).xd, .slice Y (lookC p l).ys.length cy, .int .i64 (lookC p l).yd, .slice G (lookC p l).gs.length cg, .int .i64 (lookC p l).gd] 42)))
  generalize ((w.alloc (.cells #[.slice A p.costs.length c, .slice A2 p.rows.length c2] 25)).alloc (.cells #[.slice X (lookC p l).xs.length cx, .int .i64 (lookC p l).xd, .slice Y (lookC p l).ys.length cy, .int .i64 (lookC p l).yd, .slice G (lookC p l).gs.length cg, .int .i64 (lookC p l).gd] 42)) = W at *
  have q4 : W.cell? ⟨w.heap.size + 1, 4, none⟩ = some (.slice G (lookC p l).gs.length cg) := BC.out.cell 4
  obtain ⟨ag, rfl, _⟩ := HG.out.getD_at (k := 0) hg1
  have HGW := Lib.hid (HG.out.below HBW.out)
  have lgm : (lookC p l).gs.length < 9223372036854775807 := by omega
  go_loopw [8, 9] (fun s8 s9 wx => wx = W ∧ ∃ j : Nat, j ≤ (lookC p l).gs.length ∧ s9 = .int .i64 j ∧ ((s8 = .int .i64 (-1) ∧ Hid (∀ i, i < j → (lookC p l).gs.getD i 0 ≤ 0)) ∨ (∃ r : Nat, s8 = .int .i64 r ∧ r < j ∧ Hid (0 < (lookC p l).gs.getD r 0 ∧ ∀ i, i < r → (lookC p l).gs.getD i 0 ≤ 0)))) (fun _ s9 _ => (lookC p l).gs.length - (intOf s9).toNat)
  case atStart => exact ⟨rfl, 0, by omega, rfl, .inl ⟨rfl, Lib.hid fun i hi => by omega⟩⟩
  case round =>
    obtain ⟨rfl, j, hj, rfl, hcase⟩ := hrel
    rename World => W
    rcases hcase with ⟨rfl, hno⟩ | ⟨r, rfl, hrj, hyes⟩
    · by_cases hlt : j < (lookC p l).gs.length
      · obtain ⟨ag', e', hcg⟩ := HGW.out.getD_at (k := j) hlt
        injection e' with e'
        subst e'
        have hag := World.block_lt_of_cell? _ _ hcg
        have hi0 : (j : Int) < ((lookC p l).gs.length : Int) := by omega
        by_cases hpos : 0 < (lookC p l).gs.getD j 0
        · have HPOS := Lib.hid (show 0 < (lookC p l).gs.getD j 0 ∧ ∀ i, i < j → (lookC p l).gs.getD i 0 ≤ 0 from ⟨hpos, hno.out⟩)
          obtain ⟨gv, hgv⟩ : ∃ gv, (lookC p l).gs.getD j 0 = gv := ⟨_, rfl⟩
          rw [hgv] at hcg hpos
          clear hgv hno
          go_wp2_with fail
          go_roundw
          case rel => exact ⟨trivial, j + 1, by omega, by go_num, .inr ⟨j, rfl, by omega, HPOS⟩⟩
          case measure => simp [intOf]; omega
        · have HNO := Lib.hid (show ∀ i, i < j + 1 → (lookC p l).gs.getD i 0 ≤ 0 from fun i hi => by
            by_cases e : i = j
            · subst e; omega
            · exact hno.out i (by omega))
          obtain ⟨gv, hgv⟩ : ∃ gv, (lookC p l).gs.getD j 0 = gv := ⟨_, rfl⟩
          rw [hgv] at hcg hpos
          clear hgv hno
          go_wp2_with fail
          go_roundw
          case rel => exact ⟨trivial, j + 1, by omega, by go_num, .inl ⟨rfl, HNO⟩⟩
          case measure => simp [intOf]; omega
      · obtain rfl : j = (lookC p l).gs.length := by omega
        have HIN := Lib.hid (show inZ (lookN p (nats l)).gs = none by
          rw [← HGM.out]
          cases hin : inZ (lookC p l).gs with
          | none => rfl
          | some r =>
            obtain ⟨i1, i2, _⟩ := inZ_some hin
            have := hno.out r i1
            omega)
        have HK := Lib.hid (show nxtZ p (nats l) = none ∧ kindZ p (nats l) = 1 by unfold nxtZ kindZ; rw [HIN.out]; exact ⟨rfl, rfl⟩)
        clear hno
        go_wp2_with fail
        refine bodyPost_ret (v := .tuple #[.slice none 0 0, .int .i64 1]) ?_ ?_ ?_
        · simp [results, Try.results37, go_sem]
        · rfl
        exact ⟨HBW.out, fun _ => by rw [HK.out.2], fun l' q => by rw [HK.out.1] at q; cases q⟩
    · have HIN := Lib.hid (show inZ (lookN p (nats l)).gs = some r by
        rw [← HGM.out]
        exact inZ_is (by omega) hyes.out.1 hyes.out.2)
      have HRN := Lib.hid (in_new HOK.out HIN.out)
      have hr8 : r < 1000000 := by
        have h1 := HRN.out.2.1
        have h2 := mayPB_iff.1 HCO.out.hp
        omega
      clear hyes
      go_upto_region 3 with fail
      go_cut [25] from 16 to 35 (fun s25 wx => s25 = .bool false ∧ wx = W)
      case first =>
        by_cases hlt : j < (lookC p l).gs.length
        · have hi0 : (j : Int) < ((lookC p l).gs.length : Int) := by omega
          go_wp2_with fail
          go_meet
          exact ⟨rfl, rfl⟩
        · obtain rfl : j = (lookC p l).gs.length := by omega
          go_wp2_with fail
          go_meet
          exact ⟨rfl, rfl⟩
      case rest =>
      obtain ⟨rfl, rfl⟩ := hcut
      rename World => W
      go_wp2_with fail
      have BF := Lib.hid (Blk.mk' W 38 #[.int .i64 0, .int .i64 0])
      have HV := Lib.hid ((Below.refl W.heap.size W).alloc (Nat.le_refl _) (.cells #[.int .i64 0, .int .i64 0] 38))
      generalize (W.alloc (.cells #[.int .i64 0, .int .i64 0] 38)) = V at *
      have zW := HBW.out.size
      have hnl : (nats l).length = l.length := by simp [nats]
      have HNL := Lib.hid hnl
      clear hnl
      go_loopw [10, 12] (fun s10 s12 wx => ∃ (i : Nat) (bn bd : Int), i ≤ l.length ∧ s12 = .int .i64 i ∧ s10 = .int .i64 (outI (outR p (nats l) r i)) ∧ Blk wx W.heap.size 38 #[.int .i64 bn, .int .i64 bd] ∧
        Hid (∀ q, outR p (nats l) r i = some q → bn = colN (lookN p (insN ((nats l).eraseIdx q) r)) r ∧ bd = colD (lookN p (insN ((nats l).eraseIdx q) r)) r) ∧ Below W.heap.size W wx) (fun _ s12 _ => l.length - (intOf s12).toNat)
      case atStart => exact ⟨0, 0, 0, by omega, rfl, rfl, BF.out, Lib.hid fun q e => by simp [outR] at e, HV.out⟩
      case round =>
        obtain ⟨i, bn, bd, hi, rfl, rfl, hbk, hbest, hbel⟩ := hrel
        rename World => U
        have HF := Lib.hid hbk
        have HU := Lib.hid hbel
        have zU := hbel.size
        have HBU := Lib.hid (HBW.out.trans (hbel.mono zW))
        have p0 : U.cell? ⟨w.heap.size, 0, none⟩ = some (.slice A p.costs.length c) := (BP.out.next hbel).cell 0
        have p1 : U.cell? ⟨w.heap.size, 1, none⟩ = some (.slice A2 p.rows.length c2) := (BP.out.next hbel).cell 1
        have HSAME := Lib.hid (out_same HOK.out HRN.out.1 HRN.out.2.1 (n := i) (by rw [HNL.out]; exact hi))
        clear hbk hbel
        by_cases hlt : i < l.length
        · obtain ⟨al, rfl, hcl⟩ := (HL.out.below HBU.out).natAt HN.out hlt
          have hal := World.block_lt_of_cell? _ _ hcl
          have hi0 : (i : Int) < (l.length : Int) := by omega
          have hin : i < (nats l).length := by rw [HNL.out]; exact hlt
          have hlm : l.length = p.rows.length := by have := HCO.out.hr.len; rw [HNL.out] at this; exact this
          have hp4 := mayPB_iff.1 HCO.out.hp
          have hoN : (nats l).getD i 0 < p.costs.length + p.rows.length := HCO.out.hr.lt _ (mem_getD.2 ⟨i, hin, rfl⟩)
          have HTR := Lib.hid (outR_succ p (nats l) r i)
          have HRX := Lib.hid (right_next HCO.out.hr hin HRN.out.1 HRN.out.2.1)
          have HSW := Lib.hid (show ∀ u : World, Below U.heap.size U u → Calls Try.prog 88 #[.slice (some al) l.length cl, .int .i64 ((nats l).getD i 0 : Nat), .int .i64 r] u (RetCl u (insN ((nats l).eraseIdx i) r)) from fun u hu => by
            have := ref5_Swap (some al) l cl ((nats l).getD i 0) r u ((HL.out.below HBU.out).below hu) HN.out (by omega) (by omega) hr8
            rw [swap_ins HCO.out.hr hin HRN.out.1] at this
            exact this)
          have HFL := Lib.hid (show ∀ u : World, Below U.heap.size U u → Calls Try.prog 89 #[.agg #[.slice A p.costs.length c, .slice A2 p.rows.length c2], .slice (some al) l.length cl, .int .i64 r, .int .i64 i] u fun e w' => e = .returned (.bool (decide (0 < (lookC (qOf p r) l).xs.getD ((nats l).getD i 0) 0))) ∧ Below u.heap.size u w' from fun u hu =>
            ref5_falls A c A2 c2 p (some al) l cl r i u ((HP.out.below HBU.out).below hu) ((HL.out.below HBU.out).below hu) HL0.out hr8 hlt)
          have HQL := Lib.hid (show lookN (qOf p r) (nats l) = lookC (qOf p r) l from lookN_eq (qOf_E HL0.out r))
          obtain ⟨q', hq'⟩ : ∃ q', insN ((nats l).eraseIdx i) r = q' := ⟨_, rfl⟩
          have HQ' := Lib.hid hq'
          rw [hq'] at HSW HRX
          clear hq' hp4
          obtain ⟨jn, hjn⟩ : ∃ jn, (nats l).getD i 0 = jn := ⟨_, rfl⟩
          have HJN := Lib.hid hjn
          rw [hjn] at hcl HSW
          clear hjn hoN hin hlm
          have a00 : ∀ o, (U.alloc o).cell? ⟨w.heap.size, 0, none⟩ = some (.slice A p.costs.length c) := fun o => (((Below.refl U.heap.size U).alloc (Nat.le_refl _) o).cell (World.block_lt_of_cell? _ _ p0)).trans p0
          have a01 : ∀ o, (U.alloc o).cell? ⟨w.heap.size, 1, none⟩ = some (.slice A2 p.rows.length c2) := fun o => (((Below.refl U.heap.size U).alloc (Nat.le_refl _) o).cell (World.block_lt_of_cell? _ _ p1)).trans p1
          have a02 : ∀ o, (U.alloc o).cell? (al.add i) = some (.int .i64 jn) := fun o => (((Below.refl U.heap.size U).alloc (Nat.le_refl _) o).cell hal).trans hcl
          cases hok : decide (lookE p (ints q') = 0) with
          | false =>
            have HLK := Lib.hid (show ∀ (u : World) (O : Option Addr) (co : Nat), Rd u O co (ints q') → Below U.heap.size U u → Calls Try.prog 36 #[.agg #[.slice A p.costs.length c, .slice A2 p.rows.length c2], .slice O q'.length co] u (RetCv u ⟨[], 0, [], 0, [], 0⟩ (.bool false)) from fun u O co ho hu => by
              have := ref3_Look A c A2 c2 p O (ints q') co u ((HP.out.below HBU.out).below hu) ho HCO.out.hp (right_ints HRX.out)
              rw [hok, ints_len, lookC_none (by simpa using hok)] at this
              exact this)
            have HSK := Lib.hid (show outR p (nats l) r (i + 1) = outR p (nats l) r i by
              rw [HTR.out, if_neg]
              unfold tryZ
              rw [HQ'.out]
              have : ¬ denZ p q' ≠ 0 := fun q => by
                have := look_ints HCO.out.hp HRX.out q
                rw [this] at hok; simp at hok
              simp [this])
            clear hok
            go_upto_region 14 with fail
            go_cut [14] (fun s14 wx => CutN U s14 wx)
            case first =>
              clear h0 HOK HL0 HN HLN HCO HP hl hc hsm hl2 hc2 hsm2 hls HGM hg1 HG lgm hrj HIN HRN hr8 BP HBW BC q4 HGW BF HV zW HNL hi hbest HF HU zU HBU HSAME HL HTR HFL HQL HRX HQ' HJN HSK hlt hll hlc hgl hgc hgs hj
              go_region_law
                (first
                  | (refine step_callCl (f := 88) rfl (by go_simp; done) (HSW.out _ (by first | exact (Below.refl _ _).drew | exact (Below.refl _ _).drew.alloc (Nat.le_refl _) _)) ?_; intro O4 co4 w4 hO4 hb4; have hB4 : Below U.heap.size U w4 := Below.trans (B := U.heap.size) (by first | exact (Below.refl _ _).drew | exact (Below.refl _ _).drew.alloc (Nat.le_refl _) _) (hb4.mono (by simp)); have p04 := (hB4.cell (World.block_lt_of_cell? _ _ p0)).trans p0; have p14 := (hB4.cell (World.block_lt_of_cell? _ _ p1)).trans p1; have a04 : ∀ o, (w4.alloc o).cell? ⟨w.heap.size, 0, none⟩ = some (.slice A p.costs.length c) := fun o => (((Below.refl w4.heap.size w4).alloc (Nat.le_refl _) o).cell (World.block_lt_of_cell? _ _ p04)).trans p04; have a14 : ∀ o, (w4.alloc o).cell? ⟨w.heap.size, 1, none⟩ = some (.slice A2 p.rows.length c2) := fun o => (((Below.refl w4.heap.size w4).alloc (Nat.le_refl _) o).cell (World.block_lt_of_cell? _ _ p14)).trans p14; try (have Bq4 : Blk w4 U.heap.size 42 #[.slice none 0 0, .int .i64 0, .slice none 0 0, .int .i64 0, .slice none 0 0, .int .i64 0] := (by first | exact Blk.next (Blk.mk' _ _ _) hb4 | exact Blk.next ((Blk.mk' _ _ _).drew) hb4)))
                  | (refine step_callCv (f := 36) (args := #[.agg #[.slice A p.costs.length c, .slice A2 p.rows.length c2], .slice O4 q'.length co4]) rfl (by go_simp; done) (HLK.out _ _ _ (by first | exact hO4 | exact hO4.alloc _) (by first | exact hB4 | exact hB4.alloc hB4.size _)) ?_; intro X5 cx5 Y5 cy5 G5 cg5 w5 hX5 hb5; have hB5 : Below U.heap.size U w5 := Below.trans (B := U.heap.size) (by first | exact hB4 | exact hB4.alloc hB4.size _) (hb5.mono (by first | exact hB4.size | (simp; have := hB4.size; omega))); first | (have Bq : Blk w5 U.heap.size 42 #[.slice none 0 0, .int .i64 0, .slice none 0 0, .int .i64 0, .slice none 0 0, .int .i64 0] := Blk.next Bq4 hb5; have e0 : (w5).cell? ⟨U.heap.size, 0, none⟩ = some (Value.slice none 0 0) := Bq.cell 0; have f0 : (w5).frozen? ⟨U.heap.size, 0, none⟩ = false := Bq.frozen 0; have e1 : (w5).cell? ⟨U.heap.size, 1, none⟩ = some (Value.int .i64 0) := Bq.cell 1; have f1 : (w5).frozen? ⟨U.heap.size, 1, none⟩ = false := Bq.frozen 1; have e2 : (w5).cell? ⟨U.heap.size, 2, none⟩ = some (Value.slice none 0 0) := Bq.cell 2; have f2 : (w5).frozen? ⟨U.heap.size, 2, none⟩ = false := Bq.frozen 2; have e3 : (w5).cell? ⟨U.heap.size, 3, none⟩ = some (Value.int .i64 0) := Bq.cell 3; have f3 : (w5).frozen? ⟨U.heap.size, 3, none⟩ = false := Bq.frozen 3; have e4 : (w5).cell? ⟨U.heap.size, 4, none⟩ = some (Value.slice none 0 0) := Bq.cell 4; have f4 : (w5).frozen? ⟨U.heap.size, 4, none⟩ = false := Bq.frozen 4; have e5 : (w5).cell? ⟨U.heap.size, 5, none⟩ = some (Value.int .i64 0) := Bq.cell 5; have f5 : (w5).frozen? ⟨U.heap.size, 5, none⟩ = false := Bq.frozen 5) | (have Bq : Blk w5 w4.heap.size 42 #[.slice none 0 0, .int .i64 0, .slice none 0 0, .int .i64 0, .slice none 0 0, .int .i64 0] := Blk.next (Blk.mk' _ _ _) hb5; have e0 : (w5).cell? ⟨w4.heap.size, 0, none⟩ = some (Value.slice none 0 0) := Bq.cell 0; have f0 : (w5).frozen? ⟨w4.heap.size, 0, none⟩ = false := Bq.frozen 0; have e1 : (w5).cell? ⟨w4.heap.size, 1, none⟩ = some (Value.int .i64 0) := Bq.cell 1; have f1 : (w5).frozen? ⟨w4.heap.size, 1, none⟩ = false := Bq.frozen 1; have e2 : (w5).cell? ⟨w4.heap.size, 2, none⟩ = some (Value.slice none 0 0) := Bq.cell 2; have f2 : (w5).frozen? ⟨w4.heap.size, 2, none⟩ = false := Bq.frozen 2; have e3 : (w5).cell? ⟨w4.heap.size, 3, none⟩ = some (Value.int .i64 0) := Bq.cell 3; have f3 : (w5).frozen? ⟨w4.heap.size, 3, none⟩ = false := Bq.frozen 3; have e4 : (w5).cell? ⟨w4.heap.size, 4, none⟩ = some (Value.slice none 0 0) := Bq.cell 4; have f4 : (w5).frozen? ⟨w4.heap.size, 4, none⟩ = false := Bq.frozen 4; have e5 : (w5).cell? ⟨w4.heap.size, 5, none⟩ = some (Value.int .i64 0) := Bq.cell 5; have f5 : (w5).frozen? ⟨w4.heap.size, 5, none⟩ = false := Bq.frozen 5) | skip))
              all_goals go_wp2_with fail
              all_goals go_meet
              all_goals refine ⟨rfl, ?_⟩
              all_goals first
                | (have hq := Bq
                   iterate 6 refine Below.setCell ?_ (by first | exact Nat.le_refl _ | exact hB4.size) _
                   exact hB5)
                | exact hB5.alloc hB5.size _
            case rest =>
              obtain ⟨rfl, hbel⟩ := hcut
              rename World => U2
              have HU2 := Lib.hid (HU.out.trans (hbel.mono zU))
              have HF2 := Lib.hid (HF.out.next hbel)
              clear hbel
              go_wp2_with fail
              go_roundw
              case rel => exact ⟨i + 1, bn, bd, by omega, by go_num, by rw [HSK.out], HF2.out, by rw [HSK.out]; exact hbest, HU2.out⟩
              case measure => simp [intOf]; omega
          | true =>
            have hE' : lookE p (ints q') = 0 := by simpa using hok
            obtain ⟨dd, hdd⟩ : ∃ dd, lookC p (ints q') = dd := ⟨_, rfl⟩
            have HDD := Lib.hid hdd
            obtain ⟨_, _, _, hcd⟩ := look_corn hE'
            rw [hdd] at hcd
            have HX2 := Lib.hid (show 2 ≤ dd.xs.length by rw [hcd.lx]; have := mayPB_iff.1 hcd.hp; omega)
            have HRD := Lib.hid (show r < dd.xs.length by rw [hcd.lx]; exact HRN.out.2.1)
            have HLK := Lib.hid (show ∀ (u : World) (O : Option Addr) (co : Nat), Rd u O co (ints q') → Below U.heap.size U u → Calls Try.prog 36 #[.agg #[.slice A p.costs.length c, .slice A2 p.rows.length c2], .slice O q'.length co] u (RetCv u dd (.bool true)) from fun u O co ho hu => by
              have := ref3_Look A c A2 c2 p O (ints q') co u ((HP.out.below HBU.out).below hu) ho HCO.out.hp (right_ints HRX.out)
              rw [hok, ints_len, hdd] at this
              exact this)
            have HDN := Lib.hid (show denZ p q' ≠ 0 from by have := (look_parts hE').2.2; rwa [nats_ints] at this)
            have HCD := Lib.hid (show colN (lookN p q') r = frN (dd.xs.getD r 0) dd.xd ∧ colD (lookN p q') r = ptD [dd.xs.getD r 0] dd.xd by unfold colN colD lookN; rw [hdd]; exact ⟨rfl, rfl⟩)
            clear hE' hdd hcd hok
            go_upto_region 14 with fail
            go_cut [13, 14] (fun s13 s14 wx => CutC U dd (.bool true) s13 s14 wx)
            case first =>
              clear h0 HOK HL0 HN HLN HCO HP hl hc hsm hl2 hc2 hsm2 hls HGM hg1 HG lgm hrj HIN HRN hr8 BP HBW BC q4 HGW BF HV zW HNL hi hbest HF HU zU HBU HSAME HL HTR HFL HQL HRX HQ' HJN hlt hll hlc hgl hgc hgs hj HRD HDN HCD HDD
              go_region_law
                (first
                  | (refine step_callCl (f := 88) rfl (by go_simp; done) (HSW.out _ (by first | exact (Below.refl _ _).drew | exact (Below.refl _ _).drew.alloc (Nat.le_refl _) _)) ?_; intro O4 co4 w4 hO4 hb4; have hB4 : Below U.heap.size U w4 := Below.trans (B := U.heap.size) (by first | exact (Below.refl _ _).drew | exact (Below.refl _ _).drew.alloc (Nat.le_refl _) _) (hb4.mono (by simp)); have p04 := (hB4.cell (World.block_lt_of_cell? _ _ p0)).trans p0; have p14 := (hB4.cell (World.block_lt_of_cell? _ _ p1)).trans p1; have a04 : ∀ o, (w4.alloc o).cell? ⟨w.heap.size, 0, none⟩ = some (.slice A p.costs.length c) := fun o => (((Below.refl w4.heap.size w4).alloc (Nat.le_refl _) o).cell (World.block_lt_of_cell? _ _ p04)).trans p04; have a14 : ∀ o, (w4.alloc o).cell? ⟨w.heap.size, 1, none⟩ = some (.slice A2 p.rows.length c2) := fun o => (((Below.refl w4.heap.size w4).alloc (Nat.le_refl _) o).cell (World.block_lt_of_cell? _ _ p14)).trans p14; try (have Bq4 : Blk w4 U.heap.size 42 #[.slice none 0 0, .int .i64 0, .slice none 0 0, .int .i64 0, .slice none 0 0, .int .i64 0] := (by first | exact Blk.next (Blk.mk' _ _ _) hb4 | exact Blk.next ((Blk.mk' _ _ _).drew) hb4)))
                  | (refine step_callCv (f := 36) (args := #[.agg #[.slice A p.costs.length c, .slice A2 p.rows.length c2], .slice O4 q'.length co4]) rfl (by go_simp; done) (HLK.out _ _ _ (by first | exact hO4 | exact hO4.alloc _) (by first | exact hB4 | exact hB4.alloc hB4.size _)) ?_; intro X5 cx5 Y5 cy5 G5 cg5 w5 hX5 hb5; have hB5 : Below U.heap.size U w5 := Below.trans (B := U.heap.size) (by first | exact hB4 | exact hB4.alloc hB4.size _) (hb5.mono (by first | exact hB4.size | (simp; have := hB4.size; omega))); first | (have Bq : Blk w5 U.heap.size 42 #[.slice none 0 0, .int .i64 0, .slice none 0 0, .int .i64 0, .slice none 0 0, .int .i64 0] := Blk.next Bq4 hb5; have e0 : (w5).cell? ⟨U.heap.size, 0, none⟩ = some (Value.slice none 0 0) := Bq.cell 0; have f0 : (w5).frozen? ⟨U.heap.size, 0, none⟩ = false := Bq.frozen 0; have e1 : (w5).cell? ⟨U.heap.size, 1, none⟩ = some (Value.int .i64 0) := Bq.cell 1; have f1 : (w5).frozen? ⟨U.heap.size, 1, none⟩ = false := Bq.frozen 1; have e2 : (w5).cell? ⟨U.heap.size, 2, none⟩ = some (Value.slice none 0 0) := Bq.cell 2; have f2 : (w5).frozen? ⟨U.heap.size, 2, none⟩ = false := Bq.frozen 2; have e3 : (w5).cell? ⟨U.heap.size, 3, none⟩ = some (Value.int .i64 0) := Bq.cell 3; have f3 : (w5).frozen? ⟨U.heap.size, 3, none⟩ = false := Bq.frozen 3; have e4 : (w5).cell? ⟨U.heap.size, 4, none⟩ = some (Value.slice none 0 0) := Bq.cell 4; have f4 : (w5).frozen? ⟨U.heap.size, 4, none⟩ = false := Bq.frozen 4; have e5 : (w5).cell? ⟨U.heap.size, 5, none⟩ = some (Value.int .i64 0) := Bq.cell 5; have f5 : (w5).frozen? ⟨U.heap.size, 5, none⟩ = false := Bq.frozen 5) | (have Bq : Blk w5 w4.heap.size 42 #[.slice none 0 0, .int .i64 0, .slice none 0 0, .int .i64 0, .slice none 0 0, .int .i64 0] := Blk.next (Blk.mk' _ _ _) hb5; have e0 : (w5).cell? ⟨w4.heap.size, 0, none⟩ = some (Value.slice none 0 0) := Bq.cell 0; have f0 : (w5).frozen? ⟨w4.heap.size, 0, none⟩ = false := Bq.frozen 0; have e1 : (w5).cell? ⟨w4.heap.size, 1, none⟩ = some (Value.int .i64 0) := Bq.cell 1; have f1 : (w5).frozen? ⟨w4.heap.size, 1, none⟩ = false := Bq.frozen 1; have e2 : (w5).cell? ⟨w4.heap.size, 2, none⟩ = some (Value.slice none 0 0) := Bq.cell 2; have f2 : (w5).frozen? ⟨w4.heap.size, 2, none⟩ = false := Bq.frozen 2; have e3 : (w5).cell? ⟨w4.heap.size, 3, none⟩ = some (Value.int .i64 0) := Bq.cell 3; have f3 : (w5).frozen? ⟨w4.heap.size, 3, none⟩ = false := Bq.frozen 3; have e4 : (w5).cell? ⟨w4.heap.size, 4, none⟩ = some (Value.slice none 0 0) := Bq.cell 4; have f4 : (w5).frozen? ⟨w4.heap.size, 4, none⟩ = false := Bq.frozen 4; have e5 : (w5).cell? ⟨w4.heap.size, 5, none⟩ = some (Value.int .i64 0) := Bq.cell 5; have f5 : (w5).frozen? ⟨w4.heap.size, 5, none⟩ = false := Bq.frozen 5) | skip))
              all_goals go_wp2_with fail
              all_goals go_meet
              all_goals first
                | (have hq := Bq; exact cutC (by first | exact Nat.le_refl _ | exact hB4.size) hq hX5 (hX5.not_box HX2.out Bq) hB5)
                | exact cutC_after hX5 HX2.out hB5
            case rest =>
              obtain ⟨bq, X5, cx5, Y5, cy5, G5, cg5, rfl, rfl, hbq, hBq, hXq, hbel⟩ := hcut
              rename World => U2
              have HBQ := Lib.hid hBq
              have HXQ := Lib.hid hXq
              have HU2 := Lib.hid (HU.out.trans (hbel.mono zU))
              have HBU2 := Lib.hid hbel
              have zU2 := hbel.size
              have HF2 := Lib.hid (HF.out.next hbel)
              have HBW2 := Lib.hid (HBU.out.trans (hbel.mono HBU.out.size))
              have t0 : U2.cell? ⟨w.heap.size, 0, none⟩ = some (.slice A p.costs.length c) := (hbel.cell (World.block_lt_of_cell? _ _ p0)).trans p0
              have t1 : U2.cell? ⟨w.heap.size, 1, none⟩ = some (.slice A2 p.rows.length c2) := (hbel.cell (World.block_lt_of_cell? _ _ p1)).trans p1
              clear hBq hXq hbel p0 p1 a00 a01 a02 hcl hal
              obtain ⟨fv, hfv⟩ : ∃ fv, (lookC (qOf p r) l).xs.getD ((nats l).getD i 0) 0 = fv := ⟨_, rfl⟩
              rw [hfv] at HFL
              have HFV := Lib.hid (show (lookN (qOf p r) (nats l)).xs.getD ((nats l).getD i 0) 0 = fv by rw [HQL.out]; exact hfv)
              clear hfv
              by_cases hpos : 0 < fv
              · have hd : decide (0 < fv) = true := by simpa using hpos
                have HTRY := Lib.hid (show ∀ o, tryZ p (nats l) r i o = (match o with
                    | none => true
                    | some q => decide (cmpZ (frN (dd.xs.getD r 0) dd.xd) (ptD [dd.xs.getD r 0] dd.xd) (colN (lookN p (insN ((nats l).eraseIdx q) r)) r) (colD (lookN p (insN ((nats l).eraseIdx q) r)) r) < 0)) from fun o => by
                  unfold tryZ
                  rw [HFV.out, HQ'.out, HCD.out.1, HCD.out.2]
                  simp only [hd, decide_eq_true HDN.out, Bool.true_and]
                  cases o <;> rfl)
                rw [hd] at HFL
                clear hpos hd
                have HSML := Lib.hid (fr_small (dd.xs.getD r 0) dd.xd)
                have HSB := Lib.hid (show ∀ q, outR p (nats l) r i = some q → (-1073741824 ≤ bn ∧ bn ≤ 1073741824) ∧ (-1073741824 ≤ bd ∧ bd ≤ 1073741824) from fun q e => by
                  obtain ⟨e1, e2⟩ := hbest.out q e
                  rw [e1, e2]; exact fr_small _ _)
                have HCN := Lib.hid (show colN (lookN p (insN ((nats l).eraseIdx i) r)) r = frN (dd.xs.getD r 0) dd.xd ∧ colD (lookN p (insN ((nats l).eraseIdx i) r)) r = ptD [dd.xs.getD r 0] dd.xd by rw [HQ'.out]; exact HCD.out)
                obtain ⟨tn, htn⟩ : ∃ tn, frN (dd.xs.getD r 0) dd.xd = tn := ⟨_, rfl⟩
                obtain ⟨td, htd⟩ : ∃ td, ptD [dd.xs.getD r 0] dd.xd = td := ⟨_, rfl⟩
                have HTN := Lib.hid htn
                have HTD := Lib.hid htd
                rw [htn, htd] at HTRY HSML HCN
                clear htn htd
                obtain ⟨oo, hoo⟩ : ∃ oo, outR p (nats l) r i = oo := ⟨_, rfl⟩
                rw [hoo] at hbest HSB HTR ⊢
                rw [HTRY.out] at HTR
                clear HTRY
                rcases oo with _ | q
                · have HSK := Lib.hid (show outR p (nats l) r (i + 1) = some i by rw [HTR.out]; rfl)
                  rw [show outI none = -1 from rfl]
                  clear hoo HTR
                  go_upto_region 17 with (first
                    | (go_at_call 89; refine (HFL.out _ HBU2.out).mono ?_; rintro e w6 ⟨rfl, hb6⟩; have HB6 := Lib.hid hb6; have g0 := (HBQ.out.next hb6).cell 0; have g1 := (HBQ.out.next hb6).cell 1; have g2 := (HBQ.out.next hb6).cell 2; have g3 := (HBQ.out.next hb6).cell 3; have g4 := (HBQ.out.next hb6).cell 4; have g5 := (HBQ.out.next hb6).cell 5; have HX6 := Lib.hid (HXQ.out.below hb6); clear hb6)
                    | (go_at_call 90; refine (ref5_column _ _ _ _ _ _ _ _ _ _ _ _ _ _ HX6.out HRD.out).mono ?_; rintro e w7 ⟨rfl, hb7⟩; rw [HTN.out, HTD.out]; have HB7 := Lib.hid (HB6.out.trans (hb7.mono HB6.out.size)); clear hb7; have HF7 := Lib.hid (HF2.out.next HB7.out)))
                  have H15 := Lib.hid (Blk.mk' w7 38 #[.int .i64 tn, .int .i64 td])
                  have HF8 := Lib.hid (HF7.out.alloc (.cells #[.int .i64 tn, .int .i64 td] 38))
                  have HB8 := Lib.hid (HB7.out.alloc HB7.out.size (.cells #[.int .i64 tn, .int .i64 td] 38))
                  have z7 := HB7.out.size
                  generalize hb15 : w7.heap.size = b15 at *
                  generalize (w7.alloc (.cells #[.int .i64 tn, .int .i64 td] 38)) = w8 at *
                  obtain ⟨x0, x1, x2, x3⟩ := HF8.out.two
                  obtain ⟨y0, y1, y2, y3⟩ := H15.out.two
                  clear g0 g1 g2 g3 g4 g5
                  go_wp2_with fail
                  go_roundw
                  case rel => exact ⟨i + 1, tn, td, by omega, by go_num, by rw [HSK.out]; rfl, (HF8.out.set0 0 _).set0 1 _, Lib.hid (fun q e => by rw [HSK.out] at e; cases e; exact ⟨HCN.out.1.symm, HCN.out.2.symm⟩), ((HU2.out.trans (HB8.out.mono HU2.out.size)).setCell (Nat.le_refl _) _).setCell (Nat.le_refl _) _⟩
                  case measure => simp [intOf]; omega
                · rw [show outI (some q) = (q : Int) from rfl]
                  have hq : cmpZ tn td bn bd = tn * bd - bn * td := rfl
                  have hbq' := hbest.out q rfl
                  have hsb := HSB.out q rfl
                  by_cases hlt2 : tn * bd - bn * td < 0
                  · have HSK := Lib.hid (show outR p (nats l) r (i + 1) = some i by rw [HTR.out, if_pos]; show decide (cmpZ tn td _ _ < 0) = true; rw [← hbq'.1, ← hbq'.2, hq]; simpa using hlt2)
                    clear hoo HTR hq hbq' hbest HSB
                    have HCMP := Lib.hid (fun u => ref1_Cmp tn td bn bd u HSML.out.1 HSML.out.2 hsb.1 hsb.2)
                    clear hsb
                    go_upto_region 17 with (first
                      | (go_at_call 89; refine (HFL.out _ HBU2.out).mono ?_; rintro e w6 ⟨rfl, hb6⟩; have HB6 := Lib.hid hb6; have g0 := (HBQ.out.next hb6).cell 0; have g1 := (HBQ.out.next hb6).cell 1; have g2 := (HBQ.out.next hb6).cell 2; have g3 := (HBQ.out.next hb6).cell 3; have g4 := (HBQ.out.next hb6).cell 4; have g5 := (HBQ.out.next hb6).cell 5; have HX6 := Lib.hid (HXQ.out.below hb6); clear hb6)
                      | (go_at_call 90; refine (ref5_column _ _ _ _ _ _ _ _ _ _ _ _ _ _ HX6.out HRD.out).mono ?_; rintro e w7 ⟨rfl, hb7⟩; rw [HTN.out, HTD.out]; have HB7 := Lib.hid (HB6.out.trans (hb7.mono HB6.out.size)); clear hb7; have HF7 := Lib.hid (HF2.out.next HB7.out)))
                    have H15 := Lib.hid (Blk.mk' w7 38 #[.int .i64 tn, .int .i64 td])
                    have HF8 := Lib.hid (HF7.out.alloc (.cells #[.int .i64 tn, .int .i64 td] 38))
                    have HB8 := Lib.hid (HB7.out.alloc HB7.out.size (.cells #[.int .i64 tn, .int .i64 td] 38))
                    have z7 := HB7.out.size
                    generalize hb15 : w7.heap.size = b15 at *
                    generalize (w7.alloc (.cells #[.int .i64 tn, .int .i64 td] 38)) = w8 at *
                    obtain ⟨x0, x1, x2, x3⟩ := HF8.out.two
                    obtain ⟨y0, y1, y2, y3⟩ := H15.out.two
                    clear g0 g1 g2 g3 g4 g5
                    obtain ⟨cv, hcv⟩ : ∃ cv, tn * bd - bn * td = cv := ⟨_, rfl⟩
                    rw [hcv] at hlt2 HCMP
                    clear hcv
                    go_wp2_with (go_at_call 17; refine (HCMP.out _).mono ?_; rintro e w9 ⟨rfl, hb9⟩; have HB9 := Lib.hid hb9; clear hb9 x0 x1 x2 x3 y0 y1 y2 y3; obtain ⟨x0, x1, x2, x3⟩ := (HF8.out.next HB9.out).two; obtain ⟨y0, y1, y2, y3⟩ := (H15.out.next HB9.out).two)
                    go_roundw
                    case rel => exact ⟨i + 1, tn, td, by omega, by go_num, by rw [HSK.out]; rfl, ((HF8.out.next HB9.out).set0 0 _).set0 1 _, Lib.hid (fun q e => by rw [HSK.out] at e; cases e; exact ⟨HCN.out.1.symm, HCN.out.2.symm⟩), (((HU2.out.trans (HB8.out.mono HU2.out.size)).trans (HB9.out.mono (HU2.out.trans (HB8.out.mono HU2.out.size)).size)).setCell (Nat.le_refl _) _).setCell (Nat.le_refl _) _⟩
                    case measure => simp [intOf]; omega
                  · have HSK := Lib.hid (show outR p (nats l) r (i + 1) = some q by rw [HTR.out, if_neg]; show ¬ decide (cmpZ tn td _ _ < 0) = true; rw [← hbq'.1, ← hbq'.2, hq]; simpa using hlt2)
                    clear hoo HTR hq hbq' HSB
                    have HCMP := Lib.hid (fun u => ref1_Cmp tn td bn bd u HSML.out.1 HSML.out.2 hsb.1 hsb.2)
                    clear hsb
                    go_upto_region 17 with (first
                      | (go_at_call 89; refine (HFL.out _ HBU2.out).mono ?_; rintro e w6 ⟨rfl, hb6⟩; have HB6 := Lib.hid hb6; have g0 := (HBQ.out.next hb6).cell 0; have g1 := (HBQ.out.next hb6).cell 1; have g2 := (HBQ.out.next hb6).cell 2; have g3 := (HBQ.out.next hb6).cell 3; have g4 := (HBQ.out.next hb6).cell 4; have g5 := (HBQ.out.next hb6).cell 5; have HX6 := Lib.hid (HXQ.out.below hb6); clear hb6)
                      | (go_at_call 90; refine (ref5_column _ _ _ _ _ _ _ _ _ _ _ _ _ _ HX6.out HRD.out).mono ?_; rintro e w7 ⟨rfl, hb7⟩; rw [HTN.out, HTD.out]; have HB7 := Lib.hid (HB6.out.trans (hb7.mono HB6.out.size)); clear hb7; have HF7 := Lib.hid (HF2.out.next HB7.out)))
                    have H15 := Lib.hid (Blk.mk' w7 38 #[.int .i64 tn, .int .i64 td])
                    have HF8 := Lib.hid (HF7.out.alloc (.cells #[.int .i64 tn, .int .i64 td] 38))
                    have HB8 := Lib.hid (HB7.out.alloc HB7.out.size (.cells #[.int .i64 tn, .int .i64 td] 38))
                    have z7 := HB7.out.size
                    generalize hb15 : w7.heap.size = b15 at *
                    generalize (w7.alloc (.cells #[.int .i64 tn, .int .i64 td] 38)) = w8 at *
                    obtain ⟨x0, x1, x2, x3⟩ := HF8.out.two
                    obtain ⟨y0, y1, y2, y3⟩ := H15.out.two
                    clear g0 g1 g2 g3 g4 g5
                    obtain ⟨cv, hcv⟩ : ∃ cv, tn * bd - bn * td = cv := ⟨_, rfl⟩
                    rw [hcv] at hlt2 HCMP
                    clear hcv
                    go_wp2_with (go_at_call 17; refine (HCMP.out _).mono ?_; rintro e w9 ⟨rfl, hb9⟩; have HB9 := Lib.hid hb9; clear hb9 x0 x1 x2 x3 y0 y1 y2 y3)
                    go_roundw
                    case rel => exact ⟨i + 1, bn, bd, by omega, by go_num, by rw [HSK.out]; rfl, (HF8.out.next HB9.out), Lib.hid (fun q' e => by rw [HSK.out] at e; exact hbest.out q' e), ((HU2.out.trans (HB8.out.mono HU2.out.size)).trans (HB9.out.mono (HU2.out.trans (HB8.out.mono HU2.out.size)).size))⟩
                    case measure => simp [intOf]; omega
              · have HSK := Lib.hid (show outR p (nats l) r (i + 1) = outR p (nats l) r i by
                  rw [HTR.out, if_neg]
                  unfold tryZ
                  rw [HFV.out]
                  simp [hpos])
                have hd : decide (0 < fv) = false := by simpa using hpos
                rw [hd] at HFL
                clear hpos hd
                go_wp2_with (go_at_call 89; refine (HFL.out _ HBU2.out).mono ?_; rintro e w6 ⟨rfl, hb6⟩; have HB6 := Lib.hid hb6; clear hb6)
                go_roundw
                case rel => exact ⟨i + 1, bn, bd, by omega, by go_num, by rw [HSK.out], HF2.out.next HB6.out, by rw [HSK.out]; exact hbest, HU2.out.trans (HB6.out.mono HU2.out.size)⟩
                case measure => simp [intOf]; omega
        · obtain rfl : i = l.length := by omega
          have hso := HSAME.out.1
          rcases hoo : outR p (nats l) r l.length with _ | q
          · have HK := Lib.hid (show nxtZ p (nats l) = none ∧ kindZ p (nats l) = 2 by unfold nxtZ kindZ; rw [HIN.out]; simp only; rw [HNL.out, ← hso, hoo]; exact ⟨rfl, rfl⟩)
            rw [show outI none = -1 from rfl]
            clear hso hoo hbest
            go_wp2_with fail
            refine bodyPost_ret (v := .tuple #[.slice none 0 0, .int .i64 2]) ?_ ?_ ?_
            · simp [results, Try.results37, go_sem]
            · rfl
            exact ⟨HBU.out, fun _ => by rw [HK.out.2], fun l' q => by rw [HK.out.1] at q; cases q⟩
          · have HK := Lib.hid (show nxtZ p (nats l) = some (insN ((nats l).eraseIdx q) r) ∧ kindZ p (nats l) = 0 by unfold nxtZ kindZ; rw [HIN.out]; simp only; rw [HNL.out, ← hso, hoo]; exact ⟨rfl, rfl⟩)
            have hql : q < l.length := (HSAME.out.2 q hoo).1
            rw [show outI (some q) = (q : Int) from rfl]
            obtain ⟨al, rfl, hcl⟩ := (HL.out.below HBU.out).natAt HN.out hql
            have hal := World.block_lt_of_cell? _ _ hcl
            have hi0 : (q : Int) < (l.length : Int) := by omega
            have hin : q < (nats l).length := by rw [HNL.out]; exact hql
            have hoN : (nats l).getD q 0 < p.costs.length + p.rows.length := HCO.out.hr.lt _ (mem_getD.2 ⟨q, hin, rfl⟩)
            have hp4 := mayPB_iff.1 HCO.out.hp
            have hlm : l.length = p.rows.length := by have := HCO.out.hr.len; rw [HNL.out] at this; exact this
            have HSW := Lib.hid (show Calls Try.prog 88 #[.slice (some al) l.length cl, .int .i64 ((nats l).getD q 0 : Nat), .int .i64 r] U (RetCl U (insN ((nats l).eraseIdx q) r)) from by
              have := ref5_Swap (some al) l cl ((nats l).getD q 0) r U (HL.out.below HBU.out) HN.out (by omega) (by omega) hr8
              rw [swap_ins HCO.out.hr hin HRN.out.1] at this
              exact this)
            obtain ⟨jn, hjn⟩ : ∃ jn, (nats l).getD q 0 = jn := ⟨_, rfl⟩
            rw [hjn] at hcl HSW
            clear hjn hoN hin hp4 hlm hso hoo hbest
            go_wp2_with (go_at_call 88; refine HSW.out.mono ?_; rintro e w4 ⟨O, co, rfl, hO, hnew, hb4⟩; have HO := Lib.hid hO; have HB4 := Lib.hid hb4; have HNEW := Lib.hid hnew; clear hO hb4 hnew)
            refine bodyPost_ret (v := .tuple #[.slice O (insN ((nats l).eraseIdx q) r).length co, .int .i64 0]) ?_ ?_ ?_
            · simp [results, Try.results37, go_sem]
            · rfl
            exact ⟨HBU.out.trans (HB4.out.mono HBU.out.size), fun e => (by rw [HK.out.1] at e; cases e), fun l' e => by
              rw [HK.out.1] at e; cases e
              exact ⟨O, co, rfl, HO.out, fun ad ha => ⟨by have := (HNEW.out ad ha).1; have := HBU.out.size; omega, (HNEW.out ad ha).2⟩⟩⟩
end Go.Proofs.Ytjcdkbalhleeeab
