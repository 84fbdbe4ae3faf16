/-
  Contracts of functions and plain laws that later parts of the proof use. The conditions stand in each theorem.
-/
import Derived.Test.YtjcdkbalhleeeabG24
import Derived.Test.YtjcdkbalhleeeabG25
import Derived.Test.YtjcdkbalhleeeabG23
import Derived.Test.YtjcdkbalhleeeabG27
namespace Go.Proofs.Ytjcdkbalhleeeab
open Go.RowKit

theorem step_callV {P : Program} {ops : Array Oper} {K : Act → World → Prop} {E' : Prop} {o : Oper} {a : Act} {w : World} {Q : Exit → Act → World → Prop} (hg : o.guard = none) {f : FuncId} {args : Array Value} {v : Value}
    (hrun : (execOp a.eval o).run P w = .ok (.enter f args) w) (hc : Calls P f args w fun e w' => e = .returned v ∧ Below w.heap.size w w')
    (hK : ∀ w', Below w.heap.size w w' → K (a.put o.dst v) w') :
    if Region.wanted o (yielded ops a.tmps) = true then Oper.wp P o a w K Q else E' := by
  rw [if_pos (by simp [Region.wanted, hg])]
  unfold Oper.wp
  rw [hrun, Oper.upon_enter]
  exact hc.mono (by rintro _ _ ⟨rfl, hb⟩; exact hK _ hb)
/-- Behind the statement that asks for the span. -/
def CutS (W : World) (s : NW) (v2 : Value) (a t : Value) (wx : World) : Prop :=
  ∃ b, a = .pointer (some ⟨b, 0, none⟩) ∧ t = v2 ∧ W.heap.size ≤ b ∧ Blk wx b 112 #[.bool s.fr.op, .int .i64 s.fr.n, .int .i64 s.fr.d, .bool s.to.op, .int .i64 s.to.n, .int .i64 s.to.d, .bool s.no] ∧ Below W.heap.size W wx
theorem cutS {W w5 : World} {b : Nat} {s : NW} {v2 : Value} {z0 z1 z2 z3 z4 z5 z6 : Value} (hb : W.heap.size ≤ b) (hblk : Blk w5 b 112 #[z0, z1, z2, z3, z4, z5, z6]) (hbel : Below W.heap.size W w5) :
    CutS W s v2 (.pointer (some ⟨b, 0, none⟩)) v2 (((((((w5.setCell ⟨b, 0, none⟩ (.bool s.fr.op)).setCell ⟨b, 1, none⟩ (.int .i64 s.fr.n)).setCell ⟨b, 2, none⟩ (.int .i64 s.fr.d)).setCell ⟨b, 3, none⟩ (.bool s.to.op)).setCell ⟨b, 4, none⟩ (.int .i64 s.to.n)).setCell ⟨b, 5, none⟩ (.int .i64 s.to.d)).setCell ⟨b, 6, none⟩ (.bool s.no)) :=
  ⟨b, rfl, rfl, hb, by
    have h := ((((((hblk.set0 0 (.bool s.fr.op)).set0 1 (.int .i64 s.fr.n)).set0 2 (.int .i64 s.fr.d)).set0 3 (.bool s.to.op)).set0 4 (.int .i64 s.to.n)).set0 5 (.int .i64 s.to.d)).set0 6 (.bool s.no)
    simp only [List.setIfInBounds_toArray, List.set_cons_zero, List.set_cons_succ] at h
    exact h, by
    have h0 := hbel.setCell (p := ⟨b, 0, none⟩) hb (.bool s.fr.op)
    have h1 := h0.setCell (p := ⟨b, 1, none⟩) hb (.int .i64 s.fr.n)
    have h2 := h1.setCell (p := ⟨b, 2, none⟩) hb (.int .i64 s.fr.d)
    have h3 := h2.setCell (p := ⟨b, 3, none⟩) hb (.bool s.to.op)
    have h4 := h3.setCell (p := ⟨b, 4, none⟩) hb (.int .i64 s.to.n)
    have h5 := h4.setCell (p := ⟨b, 5, none⟩) hb (.int .i64 s.to.d)
    exact h5.setCell (p := ⟨b, 6, none⟩) hb (.bool s.no)⟩
theorem cutS_after {W w5 : World} {s : NW} {v2 : Value} (hbel : Below W.heap.size W w5) :
    CutS W s v2 (.pointer (some ⟨w5.heap.size, 0, none⟩)) v2 (w5.alloc (.cells #[.bool s.fr.op, .int .i64 s.fr.n, .int .i64 s.fr.d, .bool s.to.op, .int .i64 s.to.n, .int .i64 s.to.d, .bool s.no] 112)) :=
  ⟨w5.heap.size, rfl, rfl, hbel.size, Blk.mk' _ _ _, hbel.alloc hbel.size _⟩
theorem own_none {w : World} {base : Nat} {A : Option Addr} {n c : Nat} {L : List PC} (h : PcOwn w base (.slice A n c) L) : A = none → n = 0 ∧ c = 0 := fun e => by
  rcases h.2 with ⟨e', _⟩ | ⟨g, cap, cur, e', _⟩
  · injection e' with q1 q2 q3
    exact ⟨q2, q3⟩
  · injection e' with q1 q2 q3
    rw [e] at q1
    cases q1
theorem own_lies {w : World} {base : Nat} {A : Option Addr} {n c : Nat} {L : List PC} (h : PcOwn w base (.slice A n c) L) (j : Nat) : ∀ ad, A = some ad → ∀ (q : Nat) (u : Value), (pcsC (L.take j))[q]? = some u → w.cell? (ad.add q) = some u := fun ad e => by
  rcases h.2 with ⟨e', _⟩ | ⟨g, cap, cur, e', _⟩
  · injection e' with q1 q2 q3
    rw [e] at q1
    cases q1
  · injection e' with q1 q2 q3
    rw [q1] at h e
    injection e with e
    subst e
    exact take_lies h j
theorem best_one {P : List PC} {y : PC} (h : 0 < P.length) (e : P[0] = y) : bestP (P.take 1) = [y] := by
  cases P with
  | nil => exact absurd h (Nat.lt_irrefl _)
  | cons z t => subst e; rfl
attribute [local go_sem] Oper.semAt_some
set_option maxRecDepth 100000 in
set_option maxHeartbeats 20000000 in
theorem ref8_Sweep (A : Option Addr) (c : Nat) (A2 : Option Addr) (c2 : Nat) (p : PG) (B : Option Addr) (b : List Int) (cb : Nat) (w : World) (hp : Pg w A c A2 c2 p) (hb : Rd w B cb b) (hm : mayPB p = true) (hby : By p b) :
    Calls Try.prog 21 #[.agg #[.slice A p.costs.length c, .slice A2 p.rows.length c2], .slice B b.length cb] w (RetP w (ansP (grpF lowR highR p b (allA p)))) := by
  have HP := Lib.hid hp
  have HBY := Lib.hid hb
  have HM := Lib.hid hm
  have HG := Lib.hid hby
  obtain ⟨m1, m2, m3, m4, m5, _⟩ := mayPB_iff.1 hm
  have HM5 := Lib.hid m5
  obtain ⟨hal, _, _⟩ := all_parts hm
  have hal0 := Lib.hid hal
  have hap := all_pos' hm
  clear hp hb hm hby m5
  go_enter Try.func21, Try.ntmps21
  go_upto_region 1 with fail
  have BP := Lib.hid (Blk.mk' w 25 #[.slice A p.costs.length c, .slice A2 p.rows.length c2])
  have HW := Lib.hid ((Below.refl w.heap.size w).alloc (Nat.le_refl _) (.cells #[.slice A p.costs.length c, .slice A2 p.rows.length c2] 25))
  generalize (w.alloc (.cells #[.slice A p.costs.length c, .slice A2 p.rows.length c2] 25)) = W at *
  have zW := HW.out.size
  have lP := BP.out.lt
  have p0 : W.cell? ⟨w.heap.size, 0, none⟩ = some (.slice A p.costs.length c) := BP.out.cell 0
  have p1 : W.cell? ⟨w.heap.size, 1, none⟩ = some (.slice A2 p.rows.length c2) := BP.out.cell 1
  go_wp2_with fail
  refine (ref3_All A c A2 c2 p W (HP.out.below HW.out) HM.out).mono ?_
  rintro e w1 ⟨hb1, A1, c1, rfl, hls⟩
  have HLS := Lib.hid hls
  have H1 := Lib.hid hb1
  have z1 := hb1.size
  have hlen : ((List.range (allA p).length).map fun i => ints ((allA p).getD i [])).length = (allA p).length := by simp
  have HLEN := Lib.hid hlen
  obtain ⟨ad1, _, _, rfl, _, _⟩ := hls.at_ (k := 0) (by rw [hlen]; exact hap)
  have hac := hls.le
  rw [hlen] at hac
  have hacc := hls.cap
  obtain ⟨na, hna⟩ : ∃ na, (allA p).length = na := ⟨_, rfl⟩
  have HNA := Lib.hid hna
  have HDA := Lib.hid (docK_all (p := p) (b := b))
  rw [hna] at hac hal hap HDA ⊢
  clear hls hb1 hlen hna
  have P1 := Lib.hid (BP.out.next H1.out)
  clear p0 p1
  have p0 : w1.cell? ⟨w.heap.size, 0, none⟩ = some (.slice A p.costs.length c) := P1.out.cell 0
  have HB1 := Lib.hid (HW.out.trans (H1.out.mono zW))
  go_wp2_with fail
  go_loopw [5, 8] (fun s5 s8 wx => ∃ i : Nat, i ≤ na ∧ s8 = .int .i64 i ∧ PcOwn wx w1.heap.size s5 (docK p b i) ∧ Below w1.heap.size w1 wx) (fun _ s8 _ => na - (intOf s8).toNat)
  case atStart => exact ⟨0, by omega, rfl, PcOwn.nil _ _, Below.refl _ _⟩
  case round =>
    obtain ⟨i, hi, rfl, hpo, hbel⟩ := hrel
    rename World => U
    have HPO := Lib.hid hpo
    have HU := Lib.hid hbel
    have HB := Lib.hid (HB1.out.trans (hbel.mono (by omega)))
    clear p0
    have PU := Lib.hid (P1.out.next hbel)
    have p0 : U.cell? ⟨w.heap.size, 0, none⟩ = some (.slice A p.costs.length c) := PU.out.cell 0
    have p1 : U.cell? ⟨w.heap.size, 1, none⟩ = some (.slice A2 p.rows.length c2) := PU.out.cell 1
    have HLU := Lib.hid (HLS.out.below hbel)
    have zU := hbel.size
    clear hbel hpo
    by_cases hlt : i < na
    · obtain ⟨_, A5, c5, e5, hcell, hRd⟩ := HLU.out.at_ (k := i) (by rw [HLEN.out, HNA.out]; exact hlt)
      injection e5 with e5
      subst e5
      have hgi : ((List.range (allA p).length).map fun i => ints ((allA p).getD i [])).getD i [] = ints ((allA p).getD i []) := by simp only [List.getD]; rw [List.getElem?_map, List.getElem?_range (by rw [HNA.out]; exact hlt)]; rfl
      rw [hgi] at hcell hRd
      rw [intsN_len] at hcell
      have HRT := Lib.hid (all_right HM.out (show i < (allA p).length by rw [HNA.out]; exact hlt))
      have HSUC := Lib.hid (docK_succ (b := b) (show i < (allA p).length by rw [HNA.out]; exact hlt))
      have hal1 := World.block_lt_of_cell? _ _ hcell
      have hi0 : (i : Int) < (na : Int) := by omega
      have a00 : ∀ o, (U.alloc o).cell? ⟨w.heap.size, 0, none⟩ = some (.slice A p.costs.length c) := fun o => (((Below.refl U.heap.size U).alloc (Nat.le_refl _) o).cell (World.block_lt_of_cell? _ _ p0)).trans p0
      have a01 : ∀ o, (U.alloc o).cell? ⟨w.heap.size, 1, none⟩ = some (.slice A2 p.rows.length c2) := fun o => (((Below.refl U.heap.size U).alloc (Nat.le_refl _) o).cell (World.block_lt_of_cell? _ _ p1)).trans p1
      have a02 : ∀ o, (U.alloc o).cell? (ad1.add i) = some (.slice A5 ((allA p).getD i []).length c5) := fun o => (((Below.refl U.heap.size U).alloc (Nat.le_refl _) o).cell hal1).trans hcell
      obtain ⟨lk, hlk⟩ : ∃ lk, (allA p).getD i [] = lk := ⟨_, rfl⟩
      rw [hlk] at hcell hRd HRT HSUC a02
      have HRD := Lib.hid hRd
      have HLK := Lib.hid (fun (u : World) (hu : Below U.heap.size U u) => show Calls Try.prog 36 #[.agg #[.slice A p.costs.length c, .slice A2 p.rows.length c2], .slice A5 lk.length c5] u (RetCb u (lookN p lk) (decide (lookE p (ints lk) = 0))) from by
        have := ref3_Look A c A2 c2 p A5 (ints lk) c5 u ((HP.out.below HB.out).below hu) (hRd.below hu) HM.out (right_ints HRT.out)
        rwa [intsN_len] at this)
      have hgb : goodB p b lk = (decide (lookE p (ints lk) = 0) && nonneg (lookN p lk).xs && decide (endsE (spW p b lk) = 0)) := rfl
      have HGB := Lib.hid hgb
      clear hgi hlk hRd hgb
      cases hok : decide (lookE p (ints lk) = 0) with
      | false =>
        rw [hok] at HLK HGB
        have HS := Lib.hid (show docK p b (i + 1) = docK p b i by rw [HSUC.out, HGB.out]; simp)
        obtain ⟨dd, hdd⟩ : ∃ dd, lookN p lk = dd := ⟨_, rfl⟩
        rw [hdd] at HLK
        clear hok hdd HSUC HGB
        go_upto_region 7 with fail
        go_cut [10] (fun s10 wx => CutN8 U s10 wx)
        case first =>
          clear HP HM BP HW H1 HLS HLEN HNA HB HLU HU HRT HS HPO HBY HG HM5 HDA P1 PU HB1 HRD
          go_region_law (refine step_callC8 (f := 36) rfl (by go_simp; done) (HLK.out _ (by first | exact (Below.refl _ _).drew | exact (Below.refl _ _).drew.alloc (Nat.le_refl _) _)) ?_; intro X5 cx5 Y5 cy5 G5 cg5 w5 hX5 hG5 hb5; try (have Bq : Blk w5 (U).heap.size 42 #[.slice none 0 0, .int .i64 0, .slice none 0 0, .int .i64 0, .slice none 0 0, .int .i64 0] := (by first | exact Blk.next (Blk.mk' _ _ _) hb5 | exact Blk.next ((Blk.mk' _ _ _).drew) hb5); have e0 : (w5).cell? ⟨(U).heap.size, 0, none⟩ = some (Value.slice none 0 0) := Bq.cell 0; have f0 : (w5).frozen? ⟨(U).heap.size, 0, none⟩ = false := Bq.frozen 0; have e1 : (w5).cell? ⟨(U).heap.size, 1, none⟩ = some (Value.int .i64 0) := Bq.cell 1; have f1 : (w5).frozen? ⟨(U).heap.size, 1, none⟩ = false := Bq.frozen 1; have e2 : (w5).cell? ⟨(U).heap.size, 2, none⟩ = some (Value.slice none 0 0) := Bq.cell 2; have f2 : (w5).frozen? ⟨(U).heap.size, 2, none⟩ = false := Bq.frozen 2; have e3 : (w5).cell? ⟨(U).heap.size, 3, none⟩ = some (Value.int .i64 0) := Bq.cell 3; have f3 : (w5).frozen? ⟨(U).heap.size, 3, none⟩ = false := Bq.frozen 3; have e4 : (w5).cell? ⟨(U).heap.size, 4, none⟩ = some (Value.slice none 0 0) := Bq.cell 4; have f4 : (w5).frozen? ⟨(U).heap.size, 4, none⟩ = false := Bq.frozen 4; have e5 : (w5).cell? ⟨(U).heap.size, 5, none⟩ = some (Value.int .i64 0) := Bq.cell 5; have f5 : (w5).frozen? ⟨(U).heap.size, 5, none⟩ = false := Bq.frozen 5))
          all_goals go_wp2_with fail
          all_goals go_meet
          all_goals first
            | (have hq := Bq
               have h5 : Below U.heap.size U w5 := Below.trans (B := U.heap.size) ((Below.refl _ _).drew.alloc (Nat.le_refl _) _) (hb5.mono (by simp))
               exact ⟨rfl, (((((h5.setCell (Nat.le_refl _) _).setCell (Nat.le_refl _) _).setCell (Nat.le_refl _) _).setCell (Nat.le_refl _) _).setCell (Nat.le_refl _) _).setCell (Nat.le_refl _) _⟩)
            | (have h5 : Below U.heap.size U w5 := Below.trans (B := U.heap.size) (Below.refl _ _).drew hb5
               exact ⟨rfl, h5.alloc h5.size _⟩)
        case rest =>
          obtain ⟨rfl, hbel⟩ := hcut
          rename World => U2
          have HU2 := Lib.hid (HU.out.trans (hbel.mono zU))
          have HPO2 := Lib.hid (HPO.out.below hbel)
          clear hbel a00 a01 a02 p0 p1 hcell hal1
          go_wp2_with fail
          go_roundw
          case rel => exact ⟨i + 1, by omega, by go_num, by rw [HS.out]; exact HPO2.out, HU2.out⟩
          case measure => simp [intOf]; omega
      | true =>
        have hl0 : lookE p (ints lk) = 0 := by simpa using hok
        have hbs : Bs p lk := by
          have q := look_parts hl0
          rw [nats_ints] at q
          exact ⟨q.1, HRT.out, q.2.2⟩
        have HL0 := Lib.hid hl0
        have HBS := Lib.hid hbs
        rw [hok] at HLK HGB
        obtain ⟨_, _, _, hcd⟩ := look_corn hl0
        have hcd2 : (lookC p (ints lk)) = lookN p lk := rfl
        rw [hcd2] at hcd
        have hsv := var_small hcd
        unfold varL at hsv
        have HSM := Lib.hid (some_spW HG.out hbs)
        obtain ⟨dd, hdd⟩ : ∃ dd, lookN p lk = dd := ⟨_, rfl⟩
        have HPZ := Lib.hid (show pcZ p b lk = ⟨endsF (spW p b lk), endsT (spW p b lk), frN (dot p.costs (dd.xs.take p.costs.length)) dd.xd, ptD [dot p.costs (dd.xs.take p.costs.length)] dd.xd, frN (dot b (dd.xs.take p.costs.length)) dd.xd, ptD [dot b (dd.xs.take p.costs.length)] dd.xd⟩ by subst hdd; rfl)
        rw [hdd] at HLK HGB hcd hsv
        have HSV := Lib.hid hsv
        have HLX := Lib.hid (show dd.xs.length = p.costs.length + p.rows.length from hcd.lx)
        have HX2 := Lib.hid (show 2 ≤ dd.xs.length by rw [hcd.lx]; omega)
        have HG2 := Lib.hid (show 2 ≤ dd.gs.length by rw [hcd.lg]; omega)
        clear hok hdd hcd hcd2 hl0 hbs hsv
        go_upto_region 7 with fail
        go_cut [9, 10] (fun s9 s10 wx => CutK8 U dd (.bool true) s9 s10 wx)
        case first =>
          clear HP HM BP HW H1 HLS HLEN HNA HB HLU HU HRT HSUC HGB HPO HBY HG HM5 HDA P1 PU HB1 HRD HSM HPZ HSV HLX HL0 HBS
          go_region_law (refine step_callC8 (f := 36) rfl (by go_simp; done) (HLK.out _ (by first | exact (Below.refl _ _).drew | exact (Below.refl _ _).drew.alloc (Nat.le_refl _) _)) ?_; intro X5 cx5 Y5 cy5 G5 cg5 w5 hX5 hG5 hb5; try (have Bq : Blk w5 (U).heap.size 42 #[.slice none 0 0, .int .i64 0, .slice none 0 0, .int .i64 0, .slice none 0 0, .int .i64 0] := (by first | exact Blk.next (Blk.mk' _ _ _) hb5 | exact Blk.next ((Blk.mk' _ _ _).drew) hb5); have e0 : (w5).cell? ⟨(U).heap.size, 0, none⟩ = some (Value.slice none 0 0) := Bq.cell 0; have f0 : (w5).frozen? ⟨(U).heap.size, 0, none⟩ = false := Bq.frozen 0; have e1 : (w5).cell? ⟨(U).heap.size, 1, none⟩ = some (Value.int .i64 0) := Bq.cell 1; have f1 : (w5).frozen? ⟨(U).heap.size, 1, none⟩ = false := Bq.frozen 1; have e2 : (w5).cell? ⟨(U).heap.size, 2, none⟩ = some (Value.slice none 0 0) := Bq.cell 2; have f2 : (w5).frozen? ⟨(U).heap.size, 2, none⟩ = false := Bq.frozen 2; have e3 : (w5).cell? ⟨(U).heap.size, 3, none⟩ = some (Value.int .i64 0) := Bq.cell 3; have f3 : (w5).frozen? ⟨(U).heap.size, 3, none⟩ = false := Bq.frozen 3; have e4 : (w5).cell? ⟨(U).heap.size, 4, none⟩ = some (Value.slice none 0 0) := Bq.cell 4; have f4 : (w5).frozen? ⟨(U).heap.size, 4, none⟩ = false := Bq.frozen 4; have e5 : (w5).cell? ⟨(U).heap.size, 5, none⟩ = some (Value.int .i64 0) := Bq.cell 5; have f5 : (w5).frozen? ⟨(U).heap.size, 5, none⟩ = false := Bq.frozen 5))
          all_goals go_wp2_with fail
          all_goals go_meet
          all_goals first
            | (have hq := Bq; exact cutK8 (Nat.le_refl _) hq hX5 (hX5.not_box HX2.out Bq) hG5 (hG5.not_box HG2.out Bq) (Below.trans (B := U.heap.size) (by first | exact (Below.refl _ _).drew.alloc (Nat.le_refl _) _) (hb5.mono (by simp))))
            | exact cutK8_after hX5 hG5 (Below.trans (B := U.heap.size) (Below.refl _ _).drew hb5)
        case rest =>
          obtain ⟨bq, X5, cx5, Y5, cy5, G5, cg5, rfl, rfl, hbq, hBq, hXq, hGq, hbel⟩ := hcut
          rename World => U2
          have HBQ := Lib.hid hBq
          have HXQ := Lib.hid hXq
          have HU2 := Lib.hid (HU.out.trans (hbel.mono zU))
          have HB2 := Lib.hid (HB.out.trans (hbel.mono HB.out.size))
          have HPO2 := Lib.hid (HPO.out.below hbel)
          have PU2 := Lib.hid (PU.out.next hbel)
          have zU2 := HU2.out.size
          have t0 : U2.cell? ⟨bq, 0, none⟩ = some (.slice X5 dd.xs.length cx5) := hBq.cell 0
          have t1 : U2.cell? ⟨bq, 1, none⟩ = some (.int .i64 dd.xd) := hBq.cell 1
          have HCL := Lib.hid (show U2.cell? (ad1.add i) = some (.slice A5 lk.length c5) from (hbel.cell hal1).trans hcell)
          have HRD2 := Lib.hid (HRD.out.below hbel)
          clear hbel hBq hXq hGq a00 a01 a02 p0 p1 hcell hal1 HLK HPO PU HRD HU HB
          cases hnn : nonneg dd.xs with
          | false =>
            rw [hnn] at HGB
            have HS := Lib.hid (show docK p b (i + 1) = docK p b i by rw [HSUC.out, HGB.out]; simp)
            have HNN := Lib.hid hnn
            clear hnn HSUC HGB
            go_wp2_with (go_at_call 14; refine (ref3_Above _ _ _ _ _ HXQ.out).mono ?_; rintro e w6 ⟨rfl, hb6⟩; rw [HNN.out]; have HU6 := Lib.hid (HU2.out.trans (hb6.mono zU2)); have HPO6 := Lib.hid (HPO2.out.below hb6); clear hb6 t0 t1)
            go_roundw
            case rel => exact ⟨i + 1, by omega, by go_num, by rw [HS.out]; exact HPO6.out, HU6.out⟩
            case measure => simp [intOf]; omega
          | true =>
            rw [hnn] at HGB
            have HNN := Lib.hid hnn
            clear hnn
            go_upto_region 9 with (go_at_call 14; refine (ref3_Above _ _ _ _ _ HXQ.out).mono ?_; rintro e w6 ⟨rfl, hb6⟩; rw [HNN.out]; have HB6 := Lib.hid hb6; clear hb6 t0 t1)
            have HU6 := Lib.hid (HU2.out.trans (HB6.out.mono zU2))
            have HT6 := Lib.hid (HB2.out.trans (HB6.out.mono HB2.out.size))
            have HPO6 := Lib.hid (HPO2.out.below HB6.out)
            have HBQ6 := Lib.hid (HBQ.out.next HB6.out)
            have HXQ6 := Lib.hid (HXQ.out.below HB6.out)
            have PU6 := Lib.hid (PU2.out.next HB6.out)
            have HRD6 := Lib.hid (HRD2.out.below HB6.out)
            have hcell : w6.cell? (ad1.add i) = some (.slice A5 lk.length c5) := (HB6.out.cell (World.block_lt_of_cell? _ _ HCL.out)).trans HCL.out
            have p0 : w6.cell? ⟨w.heap.size, 0, none⟩ = some (.slice A p.costs.length c) := PU6.out.cell 0
            have p1 : w6.cell? ⟨w.heap.size, 1, none⟩ = some (.slice A2 p.rows.length c2) := PU6.out.cell 1
            have a00 : ∀ o, (w6.alloc o).cell? ⟨w.heap.size, 0, none⟩ = some (.slice A p.costs.length c) := fun o => (((Below.refl w6.heap.size w6).alloc (Nat.le_refl _) o).cell (World.block_lt_of_cell? _ _ p0)).trans p0
            have a01 : ∀ o, (w6.alloc o).cell? ⟨w.heap.size, 1, none⟩ = some (.slice A2 p.rows.length c2) := fun o => (((Below.refl w6.heap.size w6).alloc (Nat.le_refl _) o).cell (World.block_lt_of_cell? _ _ p1)).trans p1
            have a02 : ∀ o, (w6.alloc o).cell? (ad1.add i) = some (.slice A5 lk.length c5) := fun o => (((Below.refl w6.heap.size w6).alloc (Nat.le_refl _) o).cell (World.block_lt_of_cell? _ _ hcell)).trans hcell
            have z6 := HU6.out.size
            obtain ⟨xb, hxb⟩ : ∃ xb, (if someZ (costsN p (ints lk) b) = true then costsN p (ints lk) b else zeroN) = xb := ⟨_, rfl⟩
            obtain ⟨sm, hsm⟩ : ∃ sm, decide (endsE (spW p b lk) = 0) = sm := ⟨_, rfl⟩
            have HXB := Lib.hid hxb
            rw [hsm] at HSM HGB
            have HSD := Lib.hid hsm
            have HCS := Lib.hid (fun (u : World) (hu : Below w6.heap.size w6 u) => show Calls Try.prog 60 #[.agg #[.slice A p.costs.length c, .slice A2 p.rows.length c2], .slice A5 lk.length c5, .slice B b.length cb] u (fun e w' => e = .returned (.tuple #[.agg #[.bool xb.fr.op, .int .i64 xb.fr.n, .int .i64 xb.fr.d, .bool xb.to.op, .int .i64 xb.to.n, .int .i64 xb.to.d, .bool xb.no], .bool sm]) ∧ Below u.heap.size u w') from by
              have := ref7_Costs A c A2 c2 p A5 (ints lk) c5 B b cb u ((HP.out.below HT6.out).below hu) (HRD6.out.below hu) ((HBY.out.below HT6.out).below hu) HL0.out HG.out.len HG.out.small
              unfold RetSp nwV nwA at this
              rw [hxb, HSM.out, intsN_len] at this
              exact this)
            clear hxb hsm HB6 HB2 HBQ HXQ HPO2 PU2 HRD2 HU2 HCL
            go_cut [11, 12] (fun s11 s12 wx => CutS w6 xb (.bool sm) s11 s12 wx)
            case first =>
              clear HP HM BP HW H1 HLS HLEN HNA HLU HRT HSUC HGB HBY HG HM5 HDA P1 HB1 HPZ HSV HLX HL0 HBS HXB HSD HU6 HT6 HPO6 HBQ6 HXQ6 PU6 HRD6
              go_region_law (refine step_callV (f := 60) rfl (by go_simp; done) (HCS.out _ (by first | exact (Below.refl _ _).drew | exact (Below.refl _ _).drew.alloc (Nat.le_refl _) _)) ?_; intro w5 hb5; try
                (have Bq : Blk w5 (w6).heap.size 112 #[.bool false, .int .i64 0, .int .i64 0, .bool false, .int .i64 0, .int .i64 0, .bool false] := (by first | exact Blk.next (Blk.mk' _ _ _) hb5 | exact Blk.next ((Blk.mk' _ _ _).drew) hb5); have e0 : (w5).cell? ⟨(w6).heap.size, 0, none⟩ = some (.bool false) := Bq.cell 0; have e1 : (w5).cell? ⟨(w6).heap.size, 1, none⟩ = some (.int .i64 0) := Bq.cell 1; have e2 : (w5).cell? ⟨(w6).heap.size, 2, none⟩ = some (.int .i64 0) := Bq.cell 2; have e3 : (w5).cell? ⟨(w6).heap.size, 3, none⟩ = some (.bool false) := Bq.cell 3; have e4 : (w5).cell? ⟨(w6).heap.size, 4, none⟩ = some (.int .i64 0) := Bq.cell 4; have e5 : (w5).cell? ⟨(w6).heap.size, 5, none⟩ = some (.int .i64 0) := Bq.cell 5; have e6 : (w5).cell? ⟨(w6).heap.size, 6, none⟩ = some (.bool false) := Bq.cell 6; have f0 := Bq.frozen 0; have f1 := Bq.frozen 1; have f2 := Bq.frozen 2; have f3 := Bq.frozen 3; have f4 := Bq.frozen 4; have f5 := Bq.frozen 5; have f6 := Bq.frozen 6)
                )
              all_goals go_wp2_with fail
              all_goals go_meet
              all_goals first
                | (have hq := Bq; exact cutS (Nat.le_refl _) hq (Below.trans (B := w6.heap.size) (by first | exact (Below.refl _ _).drew.alloc (Nat.le_refl _) _) (hb5.mono (by simp))))
                | exact cutS_after (Below.trans (B := w6.heap.size) (Below.refl _ _).drew hb5)
            case rest =>
              obtain ⟨bs, rfl, rfl, hbs, hBs, hbel⟩ := hcut
              rename World => U7
              have HBS7 := Lib.hid hBs
              have HU7 := Lib.hid (HU6.out.trans (hbel.mono z6))
              have HT7 := Lib.hid (HT6.out.trans (hbel.mono HT6.out.size))
              have HPO7 := Lib.hid (HPO6.out.below hbel)
              have HBQ7 := Lib.hid (HBQ6.out.next hbel)
              have HXQ7 := Lib.hid (HXQ6.out.below hbel)
              have PU7 := Lib.hid (PU6.out.next hbel)
              have z7 := HU7.out.size
              clear hBs hbel a00 a01 a02 p0 p1 hcell HCS HPO6 HBQ6 HXQ6 PU6 HU6 HT6 HRD6
              cases sm with
              | false =>
                have HS := Lib.hid (show docK p b (i + 1) = docK p b i by rw [HSUC.out, HGB.out]; simp)
                clear HSUC HGB
                go_wp2_with fail
                go_roundw
                case rel => exact ⟨i + 1, by omega, by go_num, by rw [HS.out]; exact HPO7.out, HU7.out⟩
                case measure => simp [intOf]; omega
              | true =>
                have HS := Lib.hid (show docK p b (i + 1) = joinG lowR highR (docK p b i) (pcZ p b lk) by rw [HSUC.out, HGB.out]; simp)
                have HGE := Lib.hid (good_eb HG.out (show goodB p b lk = true by rw [HGB.out]; rfl))
                have hE0 : endsE (spW p b lk) = 0 := of_decide_eq_true HSD.out
                have hxf : xb.fr = endsF (spW p b lk) ∧ xb.to = endsT (spW p b lk) := by
                  rw [← HXB.out, HSM.out, if_pos rfl]
                  unfold endsF endsT
                  rw [if_pos hE0, if_pos hE0]
                  exact ⟨rfl, rfl⟩
                have s0 : U7.cell? ⟨bs, 0, none⟩ = some (.bool xb.fr.op) := HBS7.out.cell 0
                have s1 : U7.cell? ⟨bs, 1, none⟩ = some (.int .i64 xb.fr.n) := HBS7.out.cell 1
                have s2 : U7.cell? ⟨bs, 2, none⟩ = some (.int .i64 xb.fr.d) := HBS7.out.cell 2
                have s3 : U7.cell? ⟨bs, 3, none⟩ = some (.bool xb.to.op) := HBS7.out.cell 3
                have s4 : U7.cell? ⟨bs, 4, none⟩ = some (.int .i64 xb.to.n) := HBS7.out.cell 4
                have s5 : U7.cell? ⟨bs, 5, none⟩ = some (.int .i64 xb.to.d) := HBS7.out.cell 5
                obtain ⟨F, hF⟩ : ∃ F, xb.fr = F := ⟨_, rfl⟩
                obtain ⟨T, hT⟩ : ∃ T, xb.to = T := ⟨_, rfl⟩
                obtain ⟨d1, hd1⟩ : ∃ d1, dot p.costs (dd.xs.take p.costs.length) = d1 := ⟨_, rfl⟩
                obtain ⟨d2, hd2⟩ : ∃ d2, dot b (dd.xs.take p.costs.length) = d2 := ⟨_, rfl⟩
                obtain ⟨bn, hbn⟩ : ∃ bn, frN d1 dd.xd = bn := ⟨_, rfl⟩
                obtain ⟨bd, hbd⟩ : ∃ bd, ptD [d1] dd.xd = bd := ⟨_, rfl⟩
                obtain ⟨sn, hsn⟩ : ∃ sn, frN d2 dd.xd = sn := ⟨_, rfl⟩
                obtain ⟨sd, hsd⟩ : ∃ sd, ptD [d2] dd.xd = sd := ⟨_, rfl⟩
                have hpz := HPZ.out
                rw [← hxf.1, ← hxf.2, hF, hT, hd1, hd2, hbn, hbd, hsn, hsd] at hpz
                rw [hF] at s0 s1 s2
                rw [hT] at s3 s4 s5
                have hlx := HLX.out
                have hxt := rd_take HXQ7.out (show p.costs.length ≤ dd.xs.length by omega)
                have hlt7 : (dd.xs.take p.costs.length).length = p.costs.length := by rw [List.length_take]; omega
                have HDT1 := Lib.hid (fun (u : World) (hu : Below U7.heap.size U7 u) => show Calls Try.prog 16 #[.slice A p.costs.length c, .slice X5 p.costs.length cx5] u (fun e w' => e = .returned (.int .i64 d1) ∧ ∃ n, w' = u.drewN n) from by
                  have := ref2_Dot A p.costs c X5 (dd.xs.take p.costs.length) cx5 400 497664 u ((HP.out.below HT7.out).below hu).costs (hxt.below hu) (by rw [hlt7]; exact Nat.le_refl _) (by omega) (by omega) HM5.out HSV.out (by omega)
                  rwa [hlt7, hd1] at this)
                have HDT2 := Lib.hid (fun (u : World) (hu : Below U7.heap.size U7 u) => show Calls Try.prog 16 #[.slice B b.length cb, .slice X5 p.costs.length cx5] u (fun e w' => e = .returned (.int .i64 d2) ∧ ∃ n, w' = u.drewN n) from by
                  have := ref2_Dot B b cb X5 (dd.xs.take p.costs.length) cx5 400 497664 u ((HBY.out.below HT7.out).below hu) (hxt.below hu) (by rw [hlt7, HG.out.len]; exact Nat.le_refl _) (by omega) (by omega) HG.out.small HSV.out (by have := HG.out.len; omega)
                  rwa [hlt7, hd2] at this)
                have HOF1 := Lib.hid (fun u => show Calls Try.prog 15 #[.int .i64 d1, .int .i64 dd.xd] u (fun e w' => e = .returned (.agg #[.int .i64 bn, .int .i64 bd]) ∧ Below u.heap.size u w') from by
                  have := ref1_Of d1 dd.xd u
                  rwa [hbn, hbd] at this)
                have HOF2 := Lib.hid (fun u => show Calls Try.prog 15 #[.int .i64 d2, .int .i64 dd.xd] u (fun e w' => e = .returned (.agg #[.int .i64 sn, .int .i64 sd]) ∧ Below u.heap.size u w') from by
                  have := ref1_Of d2 dd.xd u
                  rwa [hsn, hsd] at this)
                have hcx5 : dd.xs.length ≤ cx5 := HXQ7.out.le
                have hcx5' := HXQ7.out.cap
                have HPC := Lib.hid hpz
                clear hE0 hxf hF hT hd1 hd2 hbn hbd hsn hsd hpz hxt hlt7 HSUC HGB HXB HSD HPZ HSM
                go_upto_region 12 with fail
                have BX := Lib.hid (Blk.mk' U7 73 #[.bool F.op, .int .i64 F.n, .int .i64 F.d, .bool T.op, .int .i64 T.n, .int .i64 T.d, .int .i64 0, .int .i64 0, .int .i64 0, .int .i64 0])
                have HV := Lib.hid ((Below.refl U7.heap.size U7).alloc (Nat.le_refl _) (.cells #[.bool F.op, .int .i64 F.n, .int .i64 F.d, .bool T.op, .int .i64 T.n, .int .i64 T.d, .int .i64 0, .int .i64 0, .int .i64 0, .int .i64 0] 73))
                clear s0 s1 s2 s3 s4 s5
                generalize (U7.alloc (.cells #[.bool F.op, .int .i64 F.n, .int .i64 F.d, .bool T.op, .int .i64 T.n, .int .i64 T.d, .int .i64 0, .int .i64 0, .int .i64 0, .int .i64 0] 73)) = V at *
                have lBX := BX.out.lt
                generalize hbx : U7.heap.size = bx at BX lBX ⊢
                have HX8 := Lib.hid (HXQ7.out.below HV.out)
                have HBQ8 := Lib.hid (HBQ7.out.next HV.out)
                have PU8 := Lib.hid (PU7.out.next HV.out)
                have hbxV : bx ≤ V.heap.size := by omega
                have HVT := Lib.hid (show ∀ u : Wk V, Below U7.heap.size U7 u.1 from fun u => HV.out.trans (u.2.mono (by rw [hbx]; exact hbxV)))
                have p0 : ∀ u : Wk V, u.1.cell? ⟨w.heap.size, 0, none⟩ = some (.slice A p.costs.length c) := fun u => (PU8.out.next u.2).cell 0
                have p1 : ∀ u : Wk V, u.1.cell? ⟨w.heap.size, 1, none⟩ = some (.slice A2 p.rows.length c2) := fun u => (PU8.out.next u.2).cell 1
                have t0 : ∀ u : Wk V, u.1.cell? ⟨bq, 0, none⟩ = some (.slice X5 dd.xs.length cx5) := fun u => (HBQ8.out.next u.2).cell 0
                have t1 : ∀ u : Wk V, u.1.cell? ⟨bq, 1, none⟩ = some (.int .i64 dd.xd) := fun u => (HBQ8.out.next u.2).cell 1
                have b6 : ∀ u : Wk V, u.1.cell? ⟨bx, 6, none⟩ = some (.int .i64 0) := fun u => (BX.out.next u.2).cell 6
                have b7 : ∀ u : Wk V, u.1.cell? ⟨bx, 7, none⟩ = some (.int .i64 0) := fun u => (BX.out.next u.2).cell 7
                have g6 : ∀ u : Wk V, u.1.frozen? ⟨bx, 6, none⟩ = false := fun u => (BX.out.next u.2).frozen 6
                have g7 : ∀ u : Wk V, u.1.frozen? ⟨bx, 7, none⟩ = false := fun u => (BX.out.next u.2).frozen 7
                have HD1 := Lib.hid (fun u : Wk V => HDT1.out u.1 (HVT.out u))
                have hn0 : p.costs.length ≤ dd.xs.length := by omega
                have hn1 : p.costs.length ≤ cx5 := by omega
                refine wk_tail 13 (by kernel_rfl) (by kernel_rfl) ?_
                simp only [List.take_succ_cons, List.take_zero, List.drop_succ_cons, List.drop_zero]
                repeat (go_big_quiet_step (first | (go_at_call 16; exact wk_quiet (HD1.out _)) | (go_at_call 15; with_reducible exact wk_call (HOF1.out _))))
                refine wpQuiet_nil ?_
                rintro w8 ⟨u8, rfl⟩
                go_wp2_with fail
                have hb7 : U7.heap.size ≤ bx := by omega
                have BX8 := Lib.hid (show Blk ((u8.1.setCell ⟨bx, 6, none⟩ (.int .i64 bn)).setCell ⟨bx, 7, none⟩ (.int .i64 bd)) bx 73 #[.bool F.op, .int .i64 F.n, .int .i64 F.d, .bool T.op, .int .i64 T.n, .int .i64 T.d, .int .i64 bn, .int .i64 bd, .int .i64 0, .int .i64 0] from by
                  have h := ((BX.out.next u8.2).set0 6 (.int .i64 bn)).set0 7 (.int .i64 bd)
                  simp only [List.setIfInBounds_toArray, List.set_cons_zero, List.set_cons_succ] at h
                  exact h)
                have H8 := Lib.hid (show Below U7.heap.size U7 ((u8.1.setCell ⟨bx, 6, none⟩ (.int .i64 bn)).setCell ⟨bx, 7, none⟩ (.int .i64 bd)) from ((HVT.out u8).setCell (p := ⟨bx, 6, none⟩) hb7 (.int .i64 bn)).setCell (p := ⟨bx, 7, none⟩) hb7 (.int .i64 bd))
                obtain ⟨Z8, hZ8⟩ : ∃ Z8, ((u8.1.setCell ⟨bx, 6, none⟩ (.int .i64 bn)).setCell ⟨bx, 7, none⟩ (.int .i64 bd)) = Z8 := ⟨_, rfl⟩
                rw [hZ8] at BX8 H8 ⊢
                have lZ8 := BX8.out.lt
                clear hZ8 u8 p0 p1 t0 t1 b6 b7 g6 g7 HD1 HVT PU8 HBQ8 HX8 BX HV
                have HVT := Lib.hid (show ∀ u : Wk Z8, Below U7.heap.size U7 u.1 from fun u => H8.out.trans (u.2.mono H8.out.size))
                have t0 : ∀ u : Wk Z8, u.1.cell? ⟨bq, 0, none⟩ = some (.slice X5 dd.xs.length cx5) := fun u => (HBQ7.out.next (HVT.out u)).cell 0
                have t1 : ∀ u : Wk Z8, u.1.cell? ⟨bq, 1, none⟩ = some (.int .i64 dd.xd) := fun u => (HBQ7.out.next (HVT.out u)).cell 1
                have b6 : ∀ u : Wk Z8, u.1.cell? ⟨bx, 8, none⟩ = some (.int .i64 0) := fun u => (BX8.out.next u.2).cell 8
                have b7 : ∀ u : Wk Z8, u.1.cell? ⟨bx, 9, none⟩ = some (.int .i64 0) := fun u => (BX8.out.next u.2).cell 9
                have g6 : ∀ u : Wk Z8, u.1.frozen? ⟨bx, 8, none⟩ = false := fun u => (BX8.out.next u.2).frozen 8
                have g7 : ∀ u : Wk Z8, u.1.frozen? ⟨bx, 9, none⟩ = false := fun u => (BX8.out.next u.2).frozen 9
                have HD2 := Lib.hid (fun u : Wk Z8 => HDT2.out u.1 (HVT.out u))
                refine wk_tail 12 (by kernel_rfl) (by kernel_rfl) ?_
                simp only [List.take_succ_cons, List.take_zero, List.drop_succ_cons, List.drop_zero]
                repeat (go_big_quiet_step (first | (go_at_call 16; exact wk_quiet (HD2.out _)) | (go_at_call 15; with_reducible exact wk_call (HOF2.out _))))
                refine wpQuiet_nil ?_
                rintro w9 ⟨u9, rfl⟩
                go_upto_region 14 with fail
                have BX9 := Lib.hid (show Blk ((u9.1.setCell ⟨bx, 8, none⟩ (.int .i64 sn)).setCell ⟨bx, 9, none⟩ (.int .i64 sd)) bx 73 #[.bool F.op, .int .i64 F.n, .int .i64 F.d, .bool T.op, .int .i64 T.n, .int .i64 T.d, .int .i64 bn, .int .i64 bd, .int .i64 sn, .int .i64 sd] from by
                  have h := ((BX8.out.next u9.2).set0 8 (.int .i64 sn)).set0 9 (.int .i64 sd)
                  simp only [List.setIfInBounds_toArray, List.set_cons_zero, List.set_cons_succ] at h
                  exact h)
                have H9 := Lib.hid (show Below U7.heap.size U7 ((u9.1.setCell ⟨bx, 8, none⟩ (.int .i64 sn)).setCell ⟨bx, 9, none⟩ (.int .i64 sd)) from ((HVT.out u9).setCell (p := ⟨bx, 8, none⟩) hb7 (.int .i64 sn)).setCell (p := ⟨bx, 9, none⟩) hb7 (.int .i64 sd))
                obtain ⟨Z9, hZ9⟩ : ∃ Z9, ((u9.1.setCell ⟨bx, 8, none⟩ (.int .i64 sn)).setCell ⟨bx, 9, none⟩ (.int .i64 sd)) = Z9 := ⟨_, rfl⟩
                rw [hZ9] at BX9 H9 ⊢
                clear hZ9 u9 t0 t1 b6 b7 g6 g7 HD2 HVT BX8
                have HPO9 := Lib.hid (HPO7.out.below H9.out)
                have HU9 := Lib.hid (HU7.out.trans (H9.out.mono z7))
                obtain ⟨Lk, hLk⟩ : ∃ Lk, docK p b i = Lk := ⟨_, rfl⟩
                have HLK2 := Lib.hid (show Lk.length ≤ 10000 from hLk ▸ Nat.le_trans (docK_len HM.out i) (by decide))
                have HEB := Lib.hid (show ∀ y ∈ Lk, EB y.fr ∧ EB y.to from hLk ▸ docK_eb HG.out i)
                rw [hLk] at HPO9 HS
                have hs5 : ∃ A' c', u5 = .slice A' Lk.length c' := by
                  rcases HPO9.out.2 with ⟨e, h⟩ | ⟨g, cap, cur, e, _⟩
                  · exact ⟨none, 0, by rw [h]; exact e⟩
                  · exact ⟨_, _, e⟩
                obtain ⟨A', c', rfl⟩ := hs5
                have HJ := Lib.hid (show Calls Try.prog 61 #[.slice A' Lk.length c', .agg #[.bool F.op, .int .i64 F.n, .int .i64 F.d, .bool T.op, .int .i64 T.n, .int .i64 T.d, .int .i64 bn, .int .i64 bd, .int .i64 sn, .int .i64 sd]] Z9 (RetP Z9 (joinG lowR highR Lk (pcZ p b lk))) from by
                  rw [HPC.out]
                  exact ref8_joined w1.heap.size A' c' Lk _ Z9 HPO9.out HLK2.out HEB.out (by rw [← HPC.out]; exact HGE.out))
                have k0 : Z9.cell? ⟨bx, 0, none⟩ = some (.bool F.op) := BX9.out.cell 0
                have k1 : Z9.cell? ⟨bx, 1, none⟩ = some (.int .i64 F.n) := BX9.out.cell 1
                have k2 : Z9.cell? ⟨bx, 2, none⟩ = some (.int .i64 F.d) := BX9.out.cell 2
                have k3 : Z9.cell? ⟨bx, 3, none⟩ = some (.bool T.op) := BX9.out.cell 3
                have k4 : Z9.cell? ⟨bx, 4, none⟩ = some (.int .i64 T.n) := BX9.out.cell 4
                have k5 : Z9.cell? ⟨bx, 5, none⟩ = some (.int .i64 T.d) := BX9.out.cell 5
                have k6 : Z9.cell? ⟨bx, 6, none⟩ = some (.int .i64 bn) := BX9.out.cell 6
                have k7 : Z9.cell? ⟨bx, 7, none⟩ = some (.int .i64 bd) := BX9.out.cell 7
                have k8 : Z9.cell? ⟨bx, 8, none⟩ = some (.int .i64 sn) := BX9.out.cell 8
                have k9 : Z9.cell? ⟨bx, 9, none⟩ = some (.int .i64 sd) := BX9.out.cell 9
                clear hLk
                go_wp2_with fail
                refine HJ.out.mono ?_
                rintro e w10 ⟨v10, rfl, ho10, hb10⟩
                have zZ9 := HU9.out.size
                have HO10 := Lib.hid (PcOwn.mono (b' := w1.heap.size) ho10 (by omega))
                have HU10 := Lib.hid (HU9.out.trans (hb10.mono zZ9))
                clear ho10 hb10 k0 k1 k2 k3 k4 k5 k6 k7 k8 k9
                go_wp2_with fail
                go_roundw
                case rel => exact ⟨i + 1, by omega, by go_num, by rw [HS.out]; exact HO10.out, HU10.out⟩
                case measure => simp [intOf]; omega
    · obtain rfl : i = na := by omega
      obtain ⟨P, hP⟩ : ∃ P, grpF lowR highR p b (allA p) = P := ⟨_, rfl⟩
      have HQ := Lib.hid (show Grp p b P from hP ▸ grp_doc HM.out HG.out)
      have HPL := Lib.hid (show P.length ≤ 100 from hP ▸ Nat.le_trans (grpF_len _) (Nat.le_of_lt hal0.out))
      have HEB := Lib.hid (show ∀ y ∈ P, EB y.fr ∧ EB y.to from fun y hy => by
        have := grp_fine HG.out HQ.out hy
        exact ⟨fine_eb this.1, fine_eb this.2⟩)
      rw [HDA.out, hP] at HPO
      have HPE := Lib.hid hP
      clear hP
      obtain ⟨n5, hn5⟩ : ∃ n5, P.length = n5 := ⟨_, rfl⟩
      have HN5 := Lib.hid hn5
      have hs5 : ∃ A' c', u5 = .slice A' n5 c' := by
        rcases HPO.out.2 with ⟨e, h⟩ | ⟨g, cap, cur, e, _⟩
        · exact ⟨none, 0, by rw [← hn5, h]; exact e⟩
        · exact ⟨_, _, by rw [← hn5]; exact e⟩
      obtain ⟨A', c', rfl⟩ := hs5
      clear hn5 p0 p1 HLU hap hal hac HNA HDA HLS HLEN HM5
      go_wp2_with fail
      go_loopw [14, 15] (fun s14 s15 wx => ∃ k : Nat, k ≤ n5 ∧ s15 = .int .i64 k ∧ PcOwn wx U.heap.size s14 (sortP ((P.take k).filter fun x => !pointB x)) ∧ Below U.heap.size U wx) (fun _ s15 _ => n5 - (intOf s15).toNat)
      case atStart => exact ⟨0, by omega, rfl, PcOwn.nil _ _, Below.refl _ _⟩
      case round =>
        obtain ⟨k, hk, rfl, hso, hbe2⟩ := hrel
        rename World => X
        have HSO := Lib.hid hso
        have HX := Lib.hid hbe2
        have zX := hbe2.size
        have HPX := Lib.hid (HPO.out.below hbe2)
        clear hso hbe2
        by_cases hlk : k < n5
        · have hkP : k < P.length := by rw [HN5.out]; exact hlk
          obtain ⟨g, cap, e', hge, hgl, hcap, hcap2, hat⟩ := HPX.out.at_ hkP
          injection e' with e1 e2 e3
          subst e1 e3
          rw [HN5.out] at hcap
          obtain ⟨y, hy⟩ : ∃ y, P[k] = y := ⟨_, rfl⟩
          rw [hy] at hat
          have HYE := Lib.hid (HEB.out y (by rw [← hy]; exact List.getElem_mem hkP))
          have HAT := Lib.hid hat
          have HSUC := Lib.hid (show sortP ((P.take (k + 1)).filter fun x => !pointB x) = if pointB y = true then sortP ((P.take k).filter fun x => !pointB x) else insP (sortP ((P.take k).filter fun x => !pointB x)) y from by
            rw [List.take_succ_eq_append_getElem hkP, hy, List.filter_append]
            cases hq : pointB y <;> simp [hq, sortP, List.foldl_append])
          have hk0 : (k : Int) < (n5 : Int) := by omega
          have d0 : X.cell? ⟨g, k * 10, none⟩ = some (.bool y.fr.op) := hat.c0
          have d1 : X.cell? ⟨g, k * 10 + 1, none⟩ = some (.int .i64 y.fr.n) := hat.c1
          have d2 : X.cell? ⟨g, k * 10 + 2, none⟩ = some (.int .i64 y.fr.d) := hat.c2
          have d3 : X.cell? ⟨g, k * 10 + 3, none⟩ = some (.bool y.to.op) := hat.c3
          have d4 : X.cell? ⟨g, k * 10 + 4, none⟩ = some (.int .i64 y.to.n) := hat.c4
          have d5 : X.cell? ⟨g, k * 10 + 5, none⟩ = some (.int .i64 y.to.d) := hat.c5
          have d6 : X.cell? ⟨g, k * 10 + 6, none⟩ = some (.int .i64 y.bn) := hat.c6
          have d7 : X.cell? ⟨g, k * 10 + 7, none⟩ = some (.int .i64 y.bd) := hat.c7
          have d8 : X.cell? ⟨g, k * 10 + 8, none⟩ = some (.int .i64 y.sn) := hat.c8
          have d9 : X.cell? ⟨g, k * 10 + 9, none⟩ = some (.int .i64 y.sd) := hat.c9
          clear hat hy hkP e2
          obtain ⟨out, hout⟩ : ∃ out, sortP ((P.take k).filter fun x => !pointB x) = out := ⟨_, rfl⟩
          have HOU := Lib.hid hout
          rw [hout] at HSO HSUC
          have HOS := Lib.hid (show ∀ z ∈ out, EB z.fr from fun z hz => (HEB.out z (sort_sub (by rw [hout]; exact hz))).1)
          have hm100 : out.length ≤ 100 := by rw [← hout]; exact Nat.le_trans sort_len HPL.out
          clear hout
          go_wp2_with fail
          refine (ref8_point y X).mono ?_
          rintro e w2 ⟨rfl, hb2⟩
          have HX2 := Lib.hid (HX.out.trans (hb2.mono zX))
          have HSO2 := Lib.hid (HSO.out.below hb2)
          have HAT2 := Lib.hid (HAT.out.below hb2)
          have zX2 := HX2.out.size
          clear hb2 d0 d1 d2 d3 d4 d5 d6 d7 d8 d9 HSO HAT HPX
          cases hpt : pointB y with
          | true =>
            have HS := Lib.hid (show sortP ((P.take (k + 1)).filter fun x => !pointB x) = out by rw [HSUC.out, if_pos hpt])
            clear hpt
            go_wp2_with fail
            go_roundw
            case rel => exact ⟨k + 1, by omega, by go_num, by rw [HS.out]; exact HSO2.out, HX2.out⟩
            case measure => simp [intOf]; omega
          | false =>
            have HS := Lib.hid (show sortP ((P.take (k + 1)).filter fun x => !pointB x) = insP out y by rw [HSUC.out, if_neg (by rw [hpt]; decide)])
            clear hpt HSUC
            obtain ⟨m, hm⟩ : ∃ m, out.length = m := ⟨_, rfl⟩
            have HMM := Lib.hid hm
            rw [hm] at hm100
            have hs14 : ∃ A3 c3, u14 = .slice A3 m c3 := by
              rcases HSO2.out.2 with ⟨e, h⟩ | ⟨g3, cap3, cur, e, _⟩
              · exact ⟨none, 0, by rw [← hm, h]; exact e⟩
              · exact ⟨_, _, by rw [← hm]; exact e⟩
            obtain ⟨A3, c3, rfl⟩ := hs14
            clear hm
            go_wp2_with fail
            go_loopw [16] (fun s16 wx => ∃ j : Nat, j ≤ m ∧ s16 = .int .i64 j ∧ Hid (∀ q, q < j → ∀ z, out[q]? = some z → befE z.fr y.fr = true) ∧ Below w2.heap.size w2 wx) (fun s16 _ => m - (intOf s16).toNat)
            case atStart => exact ⟨0, by omega, rfl, Lib.hid fun q hq => by omega, Below.refl _ _⟩
            case round =>
              obtain ⟨j, hj, rfl, hbf, hbe3⟩ := hrel
              rename World => Y
              have HY := Lib.hid (HX2.out.trans (hbe3.mono zX2))
              have HSO3 := Lib.hid (HSO2.out.below hbe3)
              have HEA := Lib.hid (fun u : Wk Y => (HAT2.out.below hbe3).below u.2)
              have HW3 := Lib.hid hbe3
              have zY := hbe3.size
              clear hbe3
              have e0 : ∀ u : Wk Y, u.1.cell? ⟨g, k * 10, none⟩ = some (.bool y.fr.op) := fun u => (HEA.out u).c0
              have e1 : ∀ u : Wk Y, u.1.cell? ⟨g, k * 10 + 1, none⟩ = some (.int .i64 y.fr.n) := fun u => (HEA.out u).c1
              have e2 : ∀ u : Wk Y, u.1.cell? ⟨g, k * 10 + 2, none⟩ = some (.int .i64 y.fr.d) := fun u => (HEA.out u).c2
              have e3 : ∀ u : Wk Y, u.1.cell? ⟨g, k * 10 + 3, none⟩ = some (.bool y.to.op) := fun u => (HEA.out u).c3
              have e4 : ∀ u : Wk Y, u.1.cell? ⟨g, k * 10 + 4, none⟩ = some (.int .i64 y.to.n) := fun u => (HEA.out u).c4
              have e5 : ∀ u : Wk Y, u.1.cell? ⟨g, k * 10 + 5, none⟩ = some (.int .i64 y.to.d) := fun u => (HEA.out u).c5
              have e6 : ∀ u : Wk Y, u.1.cell? ⟨g, k * 10 + 6, none⟩ = some (.int .i64 y.bn) := fun u => (HEA.out u).c6
              have e7 : ∀ u : Wk Y, u.1.cell? ⟨g, k * 10 + 7, none⟩ = some (.int .i64 y.bd) := fun u => (HEA.out u).c7
              have e8 : ∀ u : Wk Y, u.1.cell? ⟨g, k * 10 + 8, none⟩ = some (.int .i64 y.sn) := fun u => (HEA.out u).c8
              have e9 : ∀ u : Wk Y, u.1.cell? ⟨g, k * 10 + 9, none⟩ = some (.int .i64 y.sd) := fun u => (HEA.out u).c9
              by_cases hjm : j < m
              · have hjo : j < out.length := by rw [HMM.out]; exact hjm
                obtain ⟨g3, cap3, e', hge3, hgl3, hcp3, hcp4, hat3⟩ := HSO3.out.at_ hjo
                injection e' with e1 e2 e3
                subst e1 e3
                rw [HMM.out] at hcp3
                obtain ⟨x, hx⟩ : ∃ x, out[j] = x := ⟨_, rfl⟩
                rw [hx] at hat3
                have HXO := Lib.hid (show out[j]? = some x by rw [List.getElem?_eq_getElem hjo, hx])
                have HFA := Lib.hid (fun u : Wk Y => hat3.below u.2)
                obtain ⟨bf, hbf2⟩ : ∃ bf, befE x.fr y.fr = bf := ⟨_, rfl⟩
                have HBF := Lib.hid (fun u => show Calls Try.prog 63 #[.agg #[.bool x.fr.op, .int .i64 x.fr.n, .int .i64 x.fr.d, .bool x.to.op, .int .i64 x.to.n, .int .i64 x.to.d, .int .i64 x.bn, .int .i64 x.bd, .int .i64 x.sn, .int .i64 x.sd], .agg #[.bool y.fr.op, .int .i64 y.fr.n, .int .i64 y.fr.d, .bool y.to.op, .int .i64 y.to.n, .int .i64 y.to.d, .int .i64 y.bn, .int .i64 y.bd, .int .i64 y.sn, .int .i64 y.sd]] u (fun e w' => e = .returned (.bool bf) ∧ Below u.heap.size u w') from by
                  have := ref8_before x y u (HOS.out x (by rw [← hx]; exact List.getElem_mem hjo)) HYE.out.1
                  rw [hbf2] at this
                  exact this)
                have HBE := Lib.hid hbf2
                have hj0 : (j : Int) < (m : Int) := by omega
                clear hat3 hx hjo hbf2 e2
                have f0 : ∀ u : Wk Y, u.1.cell? ⟨g3, j * 10, none⟩ = some (.bool x.fr.op) := fun u => (HFA.out u).c0
                have f1 : ∀ u : Wk Y, u.1.cell? ⟨g3, j * 10 + 1, none⟩ = some (.int .i64 x.fr.n) := fun u => (HFA.out u).c1
                have f2 : ∀ u : Wk Y, u.1.cell? ⟨g3, j * 10 + 2, none⟩ = some (.int .i64 x.fr.d) := fun u => (HFA.out u).c2
                have f3 : ∀ u : Wk Y, u.1.cell? ⟨g3, j * 10 + 3, none⟩ = some (.bool x.to.op) := fun u => (HFA.out u).c3
                have f4 : ∀ u : Wk Y, u.1.cell? ⟨g3, j * 10 + 4, none⟩ = some (.int .i64 x.to.n) := fun u => (HFA.out u).c4
                have f5 : ∀ u : Wk Y, u.1.cell? ⟨g3, j * 10 + 5, none⟩ = some (.int .i64 x.to.d) := fun u => (HFA.out u).c5
                have f6 : ∀ u : Wk Y, u.1.cell? ⟨g3, j * 10 + 6, none⟩ = some (.int .i64 x.bn) := fun u => (HFA.out u).c6
                have f7 : ∀ u : Wk Y, u.1.cell? ⟨g3, j * 10 + 7, none⟩ = some (.int .i64 x.bd) := fun u => (HFA.out u).c7
                have f8 : ∀ u : Wk Y, u.1.cell? ⟨g3, j * 10 + 8, none⟩ = some (.int .i64 x.sn) := fun u => (HFA.out u).c8
                have f9 : ∀ u : Wk Y, u.1.cell? ⟨g3, j * 10 + 9, none⟩ = some (.int .i64 x.sd) := fun u => (HFA.out u).c9
                go_wp2_with fail
                refine wk_region (by kernel_rfl) (by kernel_rfl) ?_
                repeat (go_big_quiet_step ((go_at_call 63; with_reducible exact wk_call (HBF.out _))))
                refine wpQuiet_nil ?_
                rintro w7 ⟨u7, rfl⟩
                cases bf with
                | true =>
                  go_wp2_with fail
                  go_roundw
                  case rel =>
                    refine ⟨j + 1, by omega, by go_num, Lib.hid fun q hq z hz => ?_, HW3.out.trans (u7.2.mono (by omega))⟩
                    by_cases e : q = j
                    · subst e; rw [HXO.out] at hz; injection hz with hz; subst hz; exact HBE.out
                    · exact hbf.out q (by omega) z hz
                  case measure => simp [intOf]; omega
                | false =>
                  have HJ := Lib.hid (tw_at (f := fun z => befE z.fr y.fr) hbf.out (by rw [HMM.out]; exact hj) (fun z hz => by rw [HXO.out] at hz; injection hz with hz; subst hz; exact HBE.out))
                  have hcj : ¬ c3 = j := by omega
                  go_wp2_with fail
                  have HSZ := Lib.hid (HSO3.out.below u7.2)
                  have HTZ := Lib.hid ((HAT2.out.below HW3.out).below u7.2)
                  have HZ := Lib.hid (HW3.out.trans (u7.2.mono zY))
                  obtain ⟨Z, hZ⟩ : ∃ Z, u7.1 = Z := ⟨_, rfl⟩
                  rw [hZ] at HSZ HTZ HZ ⊢
                  clear hZ u7 e0 e1 e2 e3 e4 e5 e6 e7 e8 e9 f0 f1 f2 f3 f4 f5 f6 f7 f8 f9 HEA HSO3 HAT2 HSO2
                  have r0 : Z.cell? ⟨g, k * 10, none⟩ = some (.bool y.fr.op) := HTZ.out.c0
                  have r1 : Z.cell? ⟨g, k * 10 + 1, none⟩ = some (.int .i64 y.fr.n) := HTZ.out.c1
                  have r2 : Z.cell? ⟨g, k * 10 + 2, none⟩ = some (.int .i64 y.fr.d) := HTZ.out.c2
                  have r3 : Z.cell? ⟨g, k * 10 + 3, none⟩ = some (.bool y.to.op) := HTZ.out.c3
                  have r4 : Z.cell? ⟨g, k * 10 + 4, none⟩ = some (.int .i64 y.to.n) := HTZ.out.c4
                  have r5 : Z.cell? ⟨g, k * 10 + 5, none⟩ = some (.int .i64 y.to.d) := HTZ.out.c5
                  have r6 : Z.cell? ⟨g, k * 10 + 6, none⟩ = some (.int .i64 y.bn) := HTZ.out.c6
                  have r7 : Z.cell? ⟨g, k * 10 + 7, none⟩ = some (.int .i64 y.bd) := HTZ.out.c7
                  have r8 : Z.cell? ⟨g, k * 10 + 8, none⟩ = some (.int .i64 y.sn) := HTZ.out.c8
                  have r9 : Z.cell? ⟨g, k * 10 + 9, none⟩ = some (.int .i64 y.sd) := HTZ.out.c9
                  go_cut [17] (fun s17 wx => ∃ g7 cap7, s17 = .slice (some ⟨g7, 0, none⟩) (1 + (m - j)) cap7 ∧ PcOwn wx Z.heap.size s17 (y :: out.drop j) ∧ Below Z.heap.size Z wx)
                  case first =>
                    clear HP HM BP HW H1 HBY HG P1 HB1 HU HB PU HPO HQ HPL HEB HN5 HX HX2 HS HOS HW3 HY HZ
                    go_region_law (refine step_appQ rfl (.tmp 125) (.tmp 128) rfl Z.heap.size (.slice (some ⟨Z.heap.size, 0, none⟩) 1 1) [y] (out.drop j) rfl (by exact pc_one (Blk.mk' _ _ _) (Nat.le_refl _)) (fun e => by cases e) (some ⟨g3, j * 10, none⟩) ((m - j)) ((c3 - j)) rfl (by have := HMM.out; rw [List.length_drop]; omega) (fun e => by cases e) (fun ad e => by cases e; exact part_lies (PcOwn.below HSZ.out (by first | exact (Below.refl _ _).drew.alloc (Nat.le_refl _) _ | exact ((Below.refl _ _).alloc (Nat.le_refl _) _).drew)) j) (by simp <;> omega) (by simp) ?_; intro g7 cap7 w7 hown7 hg7 hat7 hlt7)
                    all_goals go_wp2_with fail
                    all_goals go_meet
                    all_goals
                      have hq : Below Z.heap.size Z w7 := by
                        first
                          | exact (((Below.refl Z.heap.size Z).alloc (Nat.le_refl _) _).drew).grown hg7 (by simp) (fun j e => by cases e; exact Nat.le_refl _)
                          | exact (((Below.refl Z.heap.size Z).drew).alloc (by simp) _).grown hg7 (by simp) (fun j e => by cases e; exact Nat.le_refl _)
                      exact ⟨g7, cap7, rfl, hown7, hq⟩
                  case rest =>
                    obtain ⟨g7, cap7, rfl, ho7, hb7⟩ := hcut
                    rename World => Z7
                    have HO7 := Lib.hid ho7
                    have HSZ7 := Lib.hid (HSZ.out.below hb7)
                    have HX7 := Lib.hid (HX2.out.trans ((HZ.out.trans (hb7.mono HZ.out.size)).mono zX2))
                    have z7 := HX7.out.size
                    have htk : (out.take j).length = j := by have := HMM.out; rw [List.length_take]; omega
                    have HTK := Lib.hid htk
                    clear ho7 hb7 r0 r1 r2 r3 r4 r5 r6 r7 r8 r9 HSZ htk
                    go_wp2_with (at_builtin; first
                      | (refine list_appQ rfl (.tmp 130) (.tmp 133) rfl Z7.heap.size (.slice (some ⟨Z7.heap.size, 0, none⟩) 0 0) [] (out.take j) rfl (pc_empty Z7 _ _ rfl (Nat.le_refl _)) (fun e => by cases e) (some ⟨g3, 0, none⟩) j c3 rfl HTK.out (fun e => by cases e) (fun ad e => by cases e; exact take_lies (PcOwn.below HSZ7.out ((Below.refl _ _).alloc (Nat.le_refl _) _)) j) (by simp; omega) (by simp) ?_; intro g8 cap8 w8 hown8 hg8 hat8 hlt8; simp only [List.length_nil, Nat.zero_add, List.nil_append] at hown8; have H8 := Lib.hid (((Below.refl Z7.heap.size Z7).alloc (Nat.le_refl _) _).grown hg8 (by simp) (fun j e => by cases e; exact Nat.le_refl _)); have HO8 := Lib.hid hown8; have hge8 := (World.ownsRow.lt hown8 g8 rfl).1; have HGE8 := Lib.hid hge8; clear hown8 hg8 hat8 hge8)
                      | (refine list_appQ rfl (.tmp 134) (.tmp 135) rfl Z7.heap.size _ (out.take j) (y :: out.drop j) rfl HO8.out (fun e => by cases e) (some ⟨g7, 0, none⟩) (1 + (m - j)) cap7 rfl (by have := HMM.out; rw [List.length_cons, List.length_drop]; omega) (fun e => by cases e) (fun ad e => by cases e; exact PcOwn.lies (PcOwn.below HO7.out H8.out)) (by rw [HTK.out]; omega) (by have := H8.out.size; omega) ?_; intro g9 cap9 w9 hown9 hg9 hat9 hlt9))
                    have hg9' : w8.grownBy w9 (some g8) := hg9
                    have HX9 := Lib.hid (HX7.out.trans ((H8.out.grown hg9' H8.out.size (fun j e => by cases e; exact HGE8.out)).mono z7))
                    refine ⟨⟨k + 1, by omega, by go_num, ?_, HX9.out⟩, by simp [intOf]; omega⟩
                    rw [HS.out]
                    unfold insP
                    rw [HJ.out.1, HJ.out.2]
                    rw [List.length_take] at hown9
                    exact PcOwn.mono hown9 z7
              · obtain rfl : j = m := by omega
                have HJ := Lib.hid (tw_at (f := fun z => befE z.fr y.fr) hbf.out (by rw [HMM.out]; exact hj) (fun z hz => by
                  have := (List.getElem?_eq_some_iff.1 hz).1
                  rw [HMM.out] at this
                  omega))
                go_wp2_with fail
                refine wk_region (by kernel_rfl) (by kernel_rfl) ?_
                repeat (go_big_quiet_step (fail))
                refine wpQuiet_nil ?_
                rintro w7 ⟨u7, rfl⟩
                have HF := Lib.hid (own_none HSO3.out)
                by_cases hcj : c3 = j
                · subst hcj
                  go_wp2_with fail
                  have HSZ := Lib.hid (HSO3.out.below u7.2)
                  have HTZ := Lib.hid ((HAT2.out.below HW3.out).below u7.2)
                  have HZ := Lib.hid (HW3.out.trans (u7.2.mono zY))
                  obtain ⟨Z, hZ⟩ : ∃ Z, u7.1 = Z := ⟨_, rfl⟩
                  rw [hZ] at HSZ HTZ HZ ⊢
                  clear hZ u7 e0 e1 e2 e3 e4 e5 e6 e7 e8 e9  HEA HSO3 HAT2 HSO2
                  have r0 : Z.cell? ⟨g, k * 10, none⟩ = some (.bool y.fr.op) := HTZ.out.c0
                  have r1 : Z.cell? ⟨g, k * 10 + 1, none⟩ = some (.int .i64 y.fr.n) := HTZ.out.c1
                  have r2 : Z.cell? ⟨g, k * 10 + 2, none⟩ = some (.int .i64 y.fr.d) := HTZ.out.c2
                  have r3 : Z.cell? ⟨g, k * 10 + 3, none⟩ = some (.bool y.to.op) := HTZ.out.c3
                  have r4 : Z.cell? ⟨g, k * 10 + 4, none⟩ = some (.int .i64 y.to.n) := HTZ.out.c4
                  have r5 : Z.cell? ⟨g, k * 10 + 5, none⟩ = some (.int .i64 y.to.d) := HTZ.out.c5
                  have r6 : Z.cell? ⟨g, k * 10 + 6, none⟩ = some (.int .i64 y.bn) := HTZ.out.c6
                  have r7 : Z.cell? ⟨g, k * 10 + 7, none⟩ = some (.int .i64 y.bd) := HTZ.out.c7
                  have r8 : Z.cell? ⟨g, k * 10 + 8, none⟩ = some (.int .i64 y.sn) := HTZ.out.c8
                  have r9 : Z.cell? ⟨g, k * 10 + 9, none⟩ = some (.int .i64 y.sd) := HTZ.out.c9
                  go_cut [17] (fun s17 wx => ∃ g7 cap7, s17 = .slice (some ⟨g7, 0, none⟩) (1 + 0) cap7 ∧ PcOwn wx Z.heap.size s17 (y :: out.drop c3) ∧ Below Z.heap.size Z wx)
                  case first =>
                    clear HP HM BP HW H1 HBY HG P1 HB1 HU HB PU HPO HQ HPL HEB HN5 HX HX2 HS HOS HW3 HY HZ
                    go_region_law (refine step_appQ rfl (.tmp 125) (.tmp 128) rfl Z.heap.size (.slice (some ⟨Z.heap.size, 0, none⟩) 1 1) [y] (out.drop c3) rfl (by exact pc_one (Blk.mk' _ _ _) (Nat.le_refl _)) (fun e => by cases e) (A3) (0) (0) rfl (by have := HMM.out; rw [List.length_drop]; omega) (fun _ => ⟨rfl, rfl⟩) (fun ad e q u hu => by rw [List.drop_eq_nil_of_le (by have := HMM.out; omega)] at hu; simp [pcsC] at hu) (by simp <;> omega) (by simp) ?_; intro g7 cap7 w7 hown7 hg7 hat7 hlt7)
                    all_goals go_wp2_with fail
                    all_goals go_meet
                    all_goals
                      have hq : Below Z.heap.size Z w7 := by
                        first
                          | exact (((Below.refl Z.heap.size Z).alloc (Nat.le_refl _) _).drew).grown hg7 (by simp) (fun j e => by cases e; exact Nat.le_refl _)
                          | exact (((Below.refl Z.heap.size Z).drew).alloc (by simp) _).grown hg7 (by simp) (fun j e => by cases e; exact Nat.le_refl _)
                      exact ⟨g7, cap7, rfl, hown7, hq⟩
                  case rest =>
                    obtain ⟨g7, cap7, rfl, ho7, hb7⟩ := hcut
                    rename World => Z7
                    have HO7 := Lib.hid ho7
                    have HSZ7 := Lib.hid (HSZ.out.below hb7)
                    have HX7 := Lib.hid (HX2.out.trans ((HZ.out.trans (hb7.mono HZ.out.size)).mono zX2))
                    have z7 := HX7.out.size
                    have htk : (out.take c3).length = c3 := by have := HMM.out; rw [List.length_take]; omega
                    have HTK := Lib.hid htk
                    clear ho7 hb7 r0 r1 r2 r3 r4 r5 r6 r7 r8 r9 HSZ htk
                    go_wp2_with (at_builtin; first
                      | (refine list_appQ rfl (.tmp 130) (.tmp 133) rfl Z7.heap.size (.slice (some ⟨Z7.heap.size, 0, none⟩) 0 0) [] (out.take c3) rfl (pc_empty Z7 _ _ rfl (Nat.le_refl _)) (fun e => by cases e) A3 c3 c3 rfl HTK.out (fun e => HF.out e) (own_lies (PcOwn.below HSZ7.out ((Below.refl _ _).alloc (Nat.le_refl _) _)) c3) (by simp; omega) (by simp) ?_; intro g8 cap8 w8 hown8 hg8 hat8 hlt8; simp only [List.length_nil, Nat.zero_add, List.nil_append] at hown8; have H8 := Lib.hid (((Below.refl Z7.heap.size Z7).alloc (Nat.le_refl _) _).grown hg8 (by simp) (fun j e => by cases e; exact Nat.le_refl _)); have HO8 := Lib.hid hown8; have hge8 := (World.ownsRow.lt hown8 g8 rfl).1; have HGE8 := Lib.hid hge8; clear hown8 hg8 hat8 hge8)
                      | (refine list_appQ rfl (.tmp 134) (.tmp 135) rfl Z7.heap.size _ (out.take c3) (y :: out.drop c3) rfl HO8.out (fun e => by cases e) (some ⟨g7, 0, none⟩) (1 + 0) cap7 rfl (by have := HMM.out; rw [List.length_cons, List.length_drop]; omega) (fun e => by cases e) (fun ad e => by cases e; exact PcOwn.lies (PcOwn.below HO7.out H8.out)) (by rw [HTK.out]; omega) (by have := H8.out.size; omega) ?_; intro g9 cap9 w9 hown9 hg9 hat9 hlt9))
                    have hg9' : w8.grownBy w9 (some g8) := hg9
                    have HX9 := Lib.hid (HX7.out.trans ((H8.out.grown hg9' H8.out.size (fun j e => by cases e; exact HGE8.out)).mono z7))
                    refine ⟨⟨k + 1, by omega, by go_num, ?_, HX9.out⟩, by simp [intOf]; omega⟩
                    rw [HS.out]
                    unfold insP
                    rw [HJ.out.1, HJ.out.2]
                    rw [List.length_take] at hown9
                    exact PcOwn.mono hown9 z7
                · obtain ⟨g3, rfl, hcp3, hcp4⟩ : ∃ g3, A3 = some ⟨g3, 0, none⟩ ∧ j ≤ c3 ∧ c3 ≤ 9223372036854775807 := by
                    rcases HSO3.out.2 with ⟨e, h⟩ | ⟨g3, cap3, cur, e, _, _, h1, h2, _⟩
                    · injection e with q1 q2 q3
                      omega
                    · injection e with q1 q2 q3
                      exact ⟨g3, q1, by have := HMM.out; omega, by unfold maxLen at h2; omega⟩
                  go_wp2_with fail
                  have HSZ := Lib.hid (HSO3.out.below u7.2)
                  have HTZ := Lib.hid ((HAT2.out.below HW3.out).below u7.2)
                  have HZ := Lib.hid (HW3.out.trans (u7.2.mono zY))
                  obtain ⟨Z, hZ⟩ : ∃ Z, u7.1 = Z := ⟨_, rfl⟩
                  rw [hZ] at HSZ HTZ HZ ⊢
                  clear hZ u7 e0 e1 e2 e3 e4 e5 e6 e7 e8 e9  HEA HSO3 HAT2 HSO2
                  have r0 : Z.cell? ⟨g, k * 10, none⟩ = some (.bool y.fr.op) := HTZ.out.c0
                  have r1 : Z.cell? ⟨g, k * 10 + 1, none⟩ = some (.int .i64 y.fr.n) := HTZ.out.c1
                  have r2 : Z.cell? ⟨g, k * 10 + 2, none⟩ = some (.int .i64 y.fr.d) := HTZ.out.c2
                  have r3 : Z.cell? ⟨g, k * 10 + 3, none⟩ = some (.bool y.to.op) := HTZ.out.c3
                  have r4 : Z.cell? ⟨g, k * 10 + 4, none⟩ = some (.int .i64 y.to.n) := HTZ.out.c4
                  have r5 : Z.cell? ⟨g, k * 10 + 5, none⟩ = some (.int .i64 y.to.d) := HTZ.out.c5
                  have r6 : Z.cell? ⟨g, k * 10 + 6, none⟩ = some (.int .i64 y.bn) := HTZ.out.c6
                  have r7 : Z.cell? ⟨g, k * 10 + 7, none⟩ = some (.int .i64 y.bd) := HTZ.out.c7
                  have r8 : Z.cell? ⟨g, k * 10 + 8, none⟩ = some (.int .i64 y.sn) := HTZ.out.c8
                  have r9 : Z.cell? ⟨g, k * 10 + 9, none⟩ = some (.int .i64 y.sd) := HTZ.out.c9
                  go_cut [17] (fun s17 wx => ∃ g7 cap7, s17 = .slice (some ⟨g7, 0, none⟩) (1 + 0) cap7 ∧ PcOwn wx Z.heap.size s17 (y :: out.drop j) ∧ Below Z.heap.size Z wx)
                  case first =>
                    clear HP HM BP HW H1 HBY HG P1 HB1 HU HB PU HPO HQ HPL HEB HN5 HX HX2 HS HOS HW3 HY HZ
                    go_region_law (refine step_appQ rfl (.tmp 125) (.tmp 128) rfl Z.heap.size (.slice (some ⟨Z.heap.size, 0, none⟩) 1 1) [y] (out.drop j) rfl (by exact pc_one (Blk.mk' _ _ _) (Nat.le_refl _)) (fun e => by cases e) (some ⟨g3, j * 10, none⟩) (0) ((c3 - j)) rfl (by have := HMM.out; rw [List.length_drop]; omega) (fun e => by cases e) (fun ad e => by cases e; exact part_lies (PcOwn.below HSZ.out (by first | exact (Below.refl _ _).drew.alloc (Nat.le_refl _) _ | exact ((Below.refl _ _).alloc (Nat.le_refl _) _).drew)) j) (by simp <;> omega) (by simp) ?_; intro g7 cap7 w7 hown7 hg7 hat7 hlt7)
                    all_goals go_wp2_with fail
                    all_goals go_meet
                    all_goals
                      have hq : Below Z.heap.size Z w7 := by
                        first
                          | exact (((Below.refl Z.heap.size Z).alloc (Nat.le_refl _) _).drew).grown hg7 (by simp) (fun j e => by cases e; exact Nat.le_refl _)
                          | exact (((Below.refl Z.heap.size Z).drew).alloc (by simp) _).grown hg7 (by simp) (fun j e => by cases e; exact Nat.le_refl _)
                      exact ⟨g7, cap7, rfl, hown7, hq⟩
                  case rest =>
                    obtain ⟨g7, cap7, rfl, ho7, hb7⟩ := hcut
                    rename World => Z7
                    have HO7 := Lib.hid ho7
                    have HSZ7 := Lib.hid (HSZ.out.below hb7)
                    have HX7 := Lib.hid (HX2.out.trans ((HZ.out.trans (hb7.mono HZ.out.size)).mono zX2))
                    have z7 := HX7.out.size
                    have htk : (out.take j).length = j := by have := HMM.out; rw [List.length_take]; omega
                    have HTK := Lib.hid htk
                    clear ho7 hb7 r0 r1 r2 r3 r4 r5 r6 r7 r8 r9 HSZ htk
                    go_wp2_with (at_builtin; first
                      | (refine list_appQ rfl (.tmp 130) (.tmp 133) rfl Z7.heap.size (.slice (some ⟨Z7.heap.size, 0, none⟩) 0 0) [] (out.take j) rfl (pc_empty Z7 _ _ rfl (Nat.le_refl _)) (fun e => by cases e) (some ⟨g3, 0, none⟩) j c3 rfl HTK.out (fun e => by cases e) (fun ad e => by cases e; exact take_lies (PcOwn.below HSZ7.out ((Below.refl _ _).alloc (Nat.le_refl _) _)) j) (by simp; omega) (by simp) ?_; intro g8 cap8 w8 hown8 hg8 hat8 hlt8; simp only [List.length_nil, Nat.zero_add, List.nil_append] at hown8; have H8 := Lib.hid (((Below.refl Z7.heap.size Z7).alloc (Nat.le_refl _) _).grown hg8 (by simp) (fun j e => by cases e; exact Nat.le_refl _)); have HO8 := Lib.hid hown8; have hge8 := (World.ownsRow.lt hown8 g8 rfl).1; have HGE8 := Lib.hid hge8; clear hown8 hg8 hat8 hge8)
                      | (refine list_appQ rfl (.tmp 134) (.tmp 135) rfl Z7.heap.size _ (out.take j) (y :: out.drop j) rfl HO8.out (fun e => by cases e) (some ⟨g7, 0, none⟩) (1 + 0) cap7 rfl (by have := HMM.out; rw [List.length_cons, List.length_drop]; omega) (fun e => by cases e) (fun ad e => by cases e; exact PcOwn.lies (PcOwn.below HO7.out H8.out)) (by rw [HTK.out]; omega) (by have := H8.out.size; omega) ?_; intro g9 cap9 w9 hown9 hg9 hat9 hlt9))
                    have hg9' : w8.grownBy w9 (some g8) := hg9
                    have HX9 := Lib.hid (HX7.out.trans ((H8.out.grown hg9' H8.out.size (fun j e => by cases e; exact HGE8.out)).mono z7))
                    refine ⟨⟨k + 1, by omega, by go_num, ?_, HX9.out⟩, by simp [intOf]; omega⟩
                    rw [HS.out]
                    unfold insP
                    rw [HJ.out.1, HJ.out.2]
                    rw [List.length_take] at hown9
                    exact PcOwn.mono hown9 z7
        · have hkn : k = n5 := by omega
          have htp : P.take k = P := by rw [hkn, ← HN5.out, List.take_length]
          rw [htp] at HSO
          subst hkn
          obtain ⟨F, hF⟩ : ∃ F, (P.filter fun x => !pointB x) = F := ⟨_, rfl⟩
          rw [hF] at HSO
          have HBX := Lib.hid (HB.out.trans (HX.out.mono HB.out.size))
          have hwU := HB.out.size
          clear htp hk
          by_cases hfl : F = []
          · have HAN := Lib.hid (show ansP P = bestP P by unfold ansP; rw [hF, if_pos hfl])
            rw [hfl] at HSO
            have hs14 : ∃ A3 c3, u14 = .slice A3 0 c3 := by
              rcases HSO.out.2 with ⟨e, _⟩ | ⟨g3, cap3, cur, e, _⟩
              · exact ⟨none, 0, e⟩
              · exact ⟨_, _, e⟩
            obtain ⟨A3, c3, rfl⟩ := hs14
            clear hF hfl
            by_cases h0 : k = 0
            · subst h0
              go_wp2_with fail
              go_ret
              refine ⟨_, rfl, ?_, HBX.out⟩
              rw [HPE.out, HAN.out, List.eq_nil_of_length_eq_zero HN5.out]
              exact PcOwn.mono HSO.out hwU
            · have h0' : 0 < P.length := by rw [HN5.out]; omega
              have hk0 : ((k : Int) == 0) = false := by simp; omega
              have hk1 : (0 : Int) < (k : Int) := by omega
              obtain ⟨g, cap, e', hge, hgl, hcap, hcap2, hat⟩ := HPX.out.at_ h0'
              injection e' with e1 e2 e3
              subst e1 e3
              rw [HN5.out] at hcap
              obtain ⟨y, hy⟩ : ∃ y, P[0] = y := ⟨_, rfl⟩
              rw [hy] at hat
              have HB0 := Lib.hid (best_one h0' hy)
              have d0 : X.cell? ⟨g, 0, none⟩ = some (.bool y.fr.op) := by simpa using hat.c0
              have d1 : X.cell? ⟨g, 1, none⟩ = some (.int .i64 y.fr.n) := by simpa using hat.c1
              have d2 : X.cell? ⟨g, 2, none⟩ = some (.int .i64 y.fr.d) := by simpa using hat.c2
              have d3 : X.cell? ⟨g, 3, none⟩ = some (.bool y.to.op) := by simpa using hat.c3
              have d4 : X.cell? ⟨g, 4, none⟩ = some (.int .i64 y.to.n) := by simpa using hat.c4
              have d5 : X.cell? ⟨g, 5, none⟩ = some (.int .i64 y.to.d) := by simpa using hat.c5
              have d6 : X.cell? ⟨g, 6, none⟩ = some (.int .i64 y.bn) := by simpa using hat.c6
              have d7 : X.cell? ⟨g, 7, none⟩ = some (.int .i64 y.bd) := by simpa using hat.c7
              have d8 : X.cell? ⟨g, 8, none⟩ = some (.int .i64 y.sn) := by simpa using hat.c8
              have d9 : X.cell? ⟨g, 9, none⟩ = some (.int .i64 y.sd) := by simpa using hat.c9
              have HPP := Lib.hid (fun (x : PC) (hx : x ∈ P) => mayB_parts' (pc_pos HG.out HQ.out hx).2)
              clear hat hy h0' h0 e2
              go_upto_region 28 with fail
              have BX := Lib.hid (Blk.mk' X 73 #[.bool y.fr.op, .int .i64 y.fr.n, .int .i64 y.fr.d, .bool y.to.op, .int .i64 y.to.n, .int .i64 y.to.d, .int .i64 y.bn, .int .i64 y.bd, .int .i64 y.sn, .int .i64 y.sd])
              have HV := Lib.hid ((Below.refl X.heap.size X).alloc (Nat.le_refl _) (.cells #[.bool y.fr.op, .int .i64 y.fr.n, .int .i64 y.fr.d, .bool y.to.op, .int .i64 y.to.n, .int .i64 y.to.d, .int .i64 y.bn, .int .i64 y.bd, .int .i64 y.sn, .int .i64 y.sd] 73))
              clear d0 d1 d2 d3 d4 d5 d6 d7 d8 d9
              generalize (X.alloc (.cells #[.bool y.fr.op, .int .i64 y.fr.n, .int .i64 y.fr.d, .bool y.to.op, .int .i64 y.to.n, .int .i64 y.to.d, .int .i64 y.bn, .int .i64 y.bd, .int .i64 y.sn, .int .i64 y.sd] 73)) = V at *
              obtain ⟨bx, hbx⟩ : ∃ bx, X.heap.size = bx := ⟨_, rfl⟩
              rw [hbx] at BX ⊢
              have HBQ := Lib.hid hbx
              clear hbx
              go_wp2_with fail
              go_loopw [19] (fun s19 wx => ∃ (i : Nat) (a : PC), 1 ≤ i ∧ i ≤ k ∧ s19 = .int .i64 i ∧ Hid (bestP (P.take i) = [a]) ∧ Blk wx bx 73 #[.bool a.fr.op, .int .i64 a.fr.n, .int .i64 a.fr.d, .bool a.to.op, .int .i64 a.to.n, .int .i64 a.to.d, .int .i64 a.bn, .int .i64 a.bd, .int .i64 a.sn, .int .i64 a.sd] ∧ Below X.heap.size X wx) (fun s19 _ => k - (intOf s19).toNat)
              case atStart => exact ⟨1, y, by omega, by omega, rfl, HB0, BX.out, HV.out⟩
              case round =>
                obtain ⟨i, a, hi1, hik, rfl, hba, hblk, hbe⟩ := hrel
                rename World => Y
                have BY := Lib.hid hblk
                have HY := Lib.hid hbe
                have HPY := Lib.hid (HPX.out.below hbe)
                have lBY := hblk.lt
                have zY := hbe.size
                clear hblk hbe BX HV
                by_cases hlt : i < k
                · have hiP : i < P.length := by rw [HN5.out]; exact hlt
                  have HMA := Lib.hid (HPP.out a (List.mem_of_mem_take (best_mem hba.out).1))
                  obtain ⟨g', cap', e', hge', hgl', hcap', hcap2', hat⟩ := HPY.out.at_ hiP
                  injection e' with e1 e2 e3
                  injection e1 with e1
                  injection e1 with e1
                  subst e1 e3
                  obtain ⟨x, hx⟩ : ∃ x, P[i] = x := ⟨_, rfl⟩
                  rw [hx] at hat
                  have HMX := Lib.hid (HPP.out x (by rw [← hx]; exact List.getElem_mem hiP))
                  have HFA := Lib.hid (fun u : Wk Y => hat.below u.2)
                  obtain ⟨q, hq⟩ : ∃ q, x.sn * a.sd - a.sn * x.sd = q := ⟨_, rfl⟩
                  have HCM := Lib.hid (fun u => show Calls Try.prog 17 #[.agg #[.int .i64 x.sn, .int .i64 x.sd], .agg #[.int .i64 a.sn, .int .i64 a.sd]] u (fun e w' => e = .returned (.int .i64 q) ∧ Below u.heap.size u w') from by
                    obtain ⟨x1, x2, x3, _⟩ := HMX.out
                    obtain ⟨a1, a2, a3, _⟩ := HMA.out
                    have := ref1_Cmp x.sn x.sd a.sn a.sd u x3 ⟨by omega, x2⟩ a3 ⟨by omega, a2⟩
                    rw [hq] at this
                    exact this)
                  have HNB := Lib.hid (show bestP (P.take (i + 1)) = [if decide (q < 0) = true then x else a] from by
                    have hsl : slpB x a = decide (q < 0) := by unfold slpB cmpZ; rw [hq]
                    rw [List.take_succ_eq_append_getElem hiP, best_snoc, hba.out, hx]
                    simp only [hsl])
                  have hi0 : (i : Int) < (k : Int) := by omega
                  clear hat hx hiP hq e2
                  have f0 : ∀ u : Wk Y, u.1.cell? ⟨g, i * 10, none⟩ = some (.bool x.fr.op) := fun u => (HFA.out u).c0
                  have f1 : ∀ u : Wk Y, u.1.cell? ⟨g, i * 10 + 1, none⟩ = some (.int .i64 x.fr.n) := fun u => (HFA.out u).c1
                  have f2 : ∀ u : Wk Y, u.1.cell? ⟨g, i * 10 + 2, none⟩ = some (.int .i64 x.fr.d) := fun u => (HFA.out u).c2
                  have f3 : ∀ u : Wk Y, u.1.cell? ⟨g, i * 10 + 3, none⟩ = some (.bool x.to.op) := fun u => (HFA.out u).c3
                  have f4 : ∀ u : Wk Y, u.1.cell? ⟨g, i * 10 + 4, none⟩ = some (.int .i64 x.to.n) := fun u => (HFA.out u).c4
                  have f5 : ∀ u : Wk Y, u.1.cell? ⟨g, i * 10 + 5, none⟩ = some (.int .i64 x.to.d) := fun u => (HFA.out u).c5
                  have f6 : ∀ u : Wk Y, u.1.cell? ⟨g, i * 10 + 6, none⟩ = some (.int .i64 x.bn) := fun u => (HFA.out u).c6
                  have f7 : ∀ u : Wk Y, u.1.cell? ⟨g, i * 10 + 7, none⟩ = some (.int .i64 x.bd) := fun u => (HFA.out u).c7
                  have f8 : ∀ u : Wk Y, u.1.cell? ⟨g, i * 10 + 8, none⟩ = some (.int .i64 x.sn) := fun u => (HFA.out u).c8
                  have f9 : ∀ u : Wk Y, u.1.cell? ⟨g, i * 10 + 9, none⟩ = some (.int .i64 x.sd) := fun u => (HFA.out u).c9
                  have b8 : ∀ u : Wk Y, u.1.cell? ⟨bx, 8, none⟩ = some (.int .i64 a.sn) := fun u => (BY.out.next u.2).cell 8
                  have b9 : ∀ u : Wk Y, u.1.cell? ⟨bx, 9, none⟩ = some (.int .i64 a.sd) := fun u => (BY.out.next u.2).cell 9
                  go_wp2_with fail
                  refine wk_region (by kernel_rfl) (by kernel_rfl) ?_
                  repeat (go_big_quiet_step ((go_at_call 17; with_reducible exact wk_call (HCM.out _))))
                  refine wpQuiet_nil ?_
                  rintro w7 ⟨u7, rfl⟩
                  by_cases hq0 : q < 0
                  · have HNB2 := Lib.hid (show bestP (P.take (i + 1)) = [x] by rw [HNB.out, decide_eq_true hq0]; rfl)
                    have B7 := Lib.hid (BY.out.next u7.2)
                    have H7 := Lib.hid (HY.out.trans (u7.2.mono zY))
                    have g0 := B7.out.frozen 0
                    have g1 := B7.out.frozen 1
                    have g2 := B7.out.frozen 2
                    have g3 := B7.out.frozen 3
                    have g4 := B7.out.frozen 4
                    have g5 := B7.out.frozen 5
                    have g6 := B7.out.frozen 6
                    have g7 := B7.out.frozen 7
                    have g8 := B7.out.frozen 8
                    have g9 := B7.out.frozen 9
                    have l7 := B7.out.lt
                    clear HNB b8 b9
                    have k0 : u7.1.cell? ⟨bx, 0, none⟩ = some (.bool a.fr.op) := B7.out.cell 0
                    have k1 : u7.1.cell? ⟨bx, 1, none⟩ = some (.int .i64 a.fr.n) := B7.out.cell 1
                    have k2 : u7.1.cell? ⟨bx, 2, none⟩ = some (.int .i64 a.fr.d) := B7.out.cell 2
                    have k3 : u7.1.cell? ⟨bx, 3, none⟩ = some (.bool a.to.op) := B7.out.cell 3
                    have k4 : u7.1.cell? ⟨bx, 4, none⟩ = some (.int .i64 a.to.n) := B7.out.cell 4
                    have k5 : u7.1.cell? ⟨bx, 5, none⟩ = some (.int .i64 a.to.d) := B7.out.cell 5
                    have k6 : u7.1.cell? ⟨bx, 6, none⟩ = some (.int .i64 a.bn) := B7.out.cell 6
                    have k7 : u7.1.cell? ⟨bx, 7, none⟩ = some (.int .i64 a.bd) := B7.out.cell 7
                    have k8 : u7.1.cell? ⟨bx, 8, none⟩ = some (.int .i64 a.sn) := B7.out.cell 8
                    have k9 : u7.1.cell? ⟨bx, 9, none⟩ = some (.int .i64 a.sd) := B7.out.cell 9
                    go_wp2_with fail
                    go_roundw
                    case rel =>
                      refine ⟨i + 1, x, by omega, by omega, by go_num, HNB2, ?_, ?_⟩
                      · have h := (((((((((B7.out.set0 0 (.bool x.fr.op)).set0 1 (.int .i64 x.fr.n)).set0 2 (.int .i64 x.fr.d)).set0 3 (.bool x.to.op)).set0 4 (.int .i64 x.to.n)).set0 5 (.int .i64 x.to.d)).set0 6 (.int .i64 x.bn)).set0 7 (.int .i64 x.bd)).set0 8 (.int .i64 x.sn)).set0 9 (.int .i64 x.sd)
                        simp only [List.setIfInBounds_toArray, List.set_cons_zero, List.set_cons_succ] at h
                        exact h
                      · have hxb : X.heap.size ≤ bx := Nat.le_of_eq HBQ.out
                        have h0 := H7.out.setCell (p := ⟨bx, 0, none⟩) hxb (.bool x.fr.op)
                        have h1 := h0.setCell (p := ⟨bx, 1, none⟩) hxb (.int .i64 x.fr.n)
                        have h2 := h1.setCell (p := ⟨bx, 2, none⟩) hxb (.int .i64 x.fr.d)
                        have h3 := h2.setCell (p := ⟨bx, 3, none⟩) hxb (.bool x.to.op)
                        have h4 := h3.setCell (p := ⟨bx, 4, none⟩) hxb (.int .i64 x.to.n)
                        have h5 := h4.setCell (p := ⟨bx, 5, none⟩) hxb (.int .i64 x.to.d)
                        have h6 := h5.setCell (p := ⟨bx, 6, none⟩) hxb (.int .i64 x.bn)
                        have h7 := h6.setCell (p := ⟨bx, 7, none⟩) hxb (.int .i64 x.bd)
                        have h8 := h7.setCell (p := ⟨bx, 8, none⟩) hxb (.int .i64 x.sn)
                        exact h8.setCell (p := ⟨bx, 9, none⟩) hxb (.int .i64 x.sd)
                    case measure => simp [intOf]; omega
                  · have HNB2 := Lib.hid (show bestP (P.take (i + 1)) = [a] by rw [HNB.out, decide_eq_false hq0]; rfl)
                    go_wp2_with fail
                    go_roundw
                    case rel => exact ⟨i + 1, a, by omega, by omega, by go_num, HNB2, BY.out.next u7.2, HY.out.trans (u7.2.mono zY)⟩
                    case measure => simp [intOf]; omega
                · have hki : i = k := by omega
                  have HNA := Lib.hid (show ansP P = [a] by
                    rw [HAN.out, ← hba.out, hki, ← HN5.out, List.take_length])
                  subst hki
                  have b0 : Y.cell? ⟨bx, 0, none⟩ = some (.bool a.fr.op) := BY.out.cell 0
                  have b1 : Y.cell? ⟨bx, 1, none⟩ = some (.int .i64 a.fr.n) := BY.out.cell 1
                  have b2 : Y.cell? ⟨bx, 2, none⟩ = some (.int .i64 a.fr.d) := BY.out.cell 2
                  have b3 : Y.cell? ⟨bx, 3, none⟩ = some (.bool a.to.op) := BY.out.cell 3
                  have b4 : Y.cell? ⟨bx, 4, none⟩ = some (.int .i64 a.to.n) := BY.out.cell 4
                  have b5 : Y.cell? ⟨bx, 5, none⟩ = some (.int .i64 a.to.d) := BY.out.cell 5
                  have b6 : Y.cell? ⟨bx, 6, none⟩ = some (.int .i64 a.bn) := BY.out.cell 6
                  have b7 : Y.cell? ⟨bx, 7, none⟩ = some (.int .i64 a.bd) := BY.out.cell 7
                  have b8 : Y.cell? ⟨bx, 8, none⟩ = some (.int .i64 a.sn) := BY.out.cell 8
                  have b9 : Y.cell? ⟨bx, 9, none⟩ = some (.int .i64 a.sd) := BY.out.cell 9
                  have HBY2 := Lib.hid (HBX.out.trans (HY.out.mono HBX.out.size))
                  have HZ2 := Lib.hid (HBY2.out.alloc HBY2.out.size (.cells #[.bool a.fr.op, .int .i64 a.fr.n, .int .i64 a.fr.d, .bool a.to.op, .int .i64 a.to.n, .int .i64 a.to.d, .int .i64 a.bn, .int .i64 a.bd, .int .i64 a.sn, .int .i64 a.sd] 73))
                  go_wp2_with fail
                  go_ret
                  refine ⟨_, rfl, ?_, HZ2.out⟩
                  rw [HPE.out, HNA.out]
                  exact pc_one (Blk.mk' _ _ _) HBY2.out.size
          · have HAN := Lib.hid (show ansP P = sortP F by unfold ansP; rw [hF, if_neg hfl])
            have hol : 0 < (sortP F).length := by
              rw [(sortP_perm F).length_eq]
              exact List.length_pos_iff.2 hfl
            obtain ⟨m, hm⟩ : ∃ m, (sortP F).length = m := ⟨_, rfl⟩
            have hs14 : ∃ A3 c3, u14 = .slice A3 m c3 := by
              rcases HSO.out.2 with ⟨e, h⟩ | ⟨g3, cap3, cur, e, _⟩
              · exact ⟨none, 0, by rw [← hm, h]; exact e⟩
              · exact ⟨_, _, by rw [← hm]; exact e⟩
            obtain ⟨A3, c3, rfl⟩ := hs14
            rw [hm] at hol
            have hm1 : (0 : Int) < (m : Int) := by omega
            clear hm hfl hF
            go_wp2_with fail
            go_ret
            refine ⟨_, rfl, ?_, HBX.out⟩
            rw [HPE.out, HAN.out]
            exact PcOwn.mono HSO.out hwU
end Go.Proofs.Ytjcdkbalhleeeab
