/-
  Solve: solve.nothing computes what the plain words say.
-/
import Derived.Test.YtjcdkbalhleeeabSol4
import Derived.Test.YtjcdkbalhleeeabPlainA
import Derived.Test.YtjcdkbalhleeeabPrf2
import Derived.LoopIn
namespace Go.Proofs.Ytjcdkbalhleeeab
open Go.RowKit

/-- The answer that nothing goes, if that is proved by a corner. -/
def ansN (p : PG) : AN := match stZ p with
  | some x => notA p x
  | none => ⟨0, [], 0, [], 0, [], 0, 0, 0⟩
/-- An answer, as a value. -/
def anV (X : Option Addr) (cx : Nat) (Y : Option Addr) (cy : Nat) (R : Option Addr) (cr : Nat) (a : AN) : Value :=
  .agg #[.int .i64 a.kind, .slice X a.xs.length cx, .int .i64 a.xd, .slice Y a.ys.length cy, .int .i64 a.yd, .slice R a.rs.length cr, .int .i64 a.rd, .int .i64 a.wn, .int .i64 a.wd]
def RetNo (w : World) (p : PG) (e : Ending) (w' : World) : Prop :=
  Below w.heap.size w w' ∧ ∃ Y cy, e = .returned (anV none 0 Y cy none 0 (ansN p)) ∧ Rd w' Y cy (ansN p).ys ∧ ∀ ad, Y = some ad → w.heap.size ≤ ad.block
/-- The k-th column is none that is stuck. -/
theorem stk_no {p : PG} {l : List Nat} (h : ∀ k, k < l.length → stuckZ p l k = false) : stkZ p l = none := by
  unfold stkZ
  rw [List.find?_eq_none]
  intro k hk
  rw [h k (List.mem_range.1 hk)]; simp
theorem stk_at {p : PG} {l : List Nat} {k : Nat} (hk : k < l.length) (hs : stuckZ p l k = true) (hn : ∀ i, i < k → stuckZ p l i = false) : stkZ p l = some k := by
  unfold stkZ
  rw [List.find?_eq_some_iff_getElem]
  refine ⟨hs, k, by simpa using hk, by simp, fun j hj => ?_⟩
  simp only [List.getElem_range]
  rw [hn j hj]; rfl
theorem findSome_at {α β : Type} {f : α → Option β} : ∀ {l : List α} {k : Nat} {x : α} {y : β}, l[k]? = some x → f x = some y → (∀ i z, i < k → l[i]? = some z → f z = none) → l.findSome? f = some y
  | a :: l, 0, x, y, h, hy, _ => by simp at h; subst h; rw [List.findSome?_cons, hy]
  | a :: l, k + 1, x, y, h, hy, hn => by
    have h0 := hn 0 a (by omega) rfl
    rw [List.findSome?_cons, h0]
    exact findSome_at (k := k) (by simpa using h) hy fun i z hi hz => hn (i + 1) z (by omega) (by simpa using hz)
theorem st_at {p : PG} {k j : Nat} (hk : k < (cornersZ p).length) (hj : stkZ p ((cornersZ p).getD k []) = some j) (hn : ∀ i, i < k → stkZ p ((cornersZ p).getD i []) = none) : stZ p = some ((cornersZ p).getD k [], j) := by
  have e : (cornersZ p)[k]? = some ((cornersZ p).getD k []) := by simp [List.getD, List.getElem?_eq_getElem hk]
  unfold stZ
  refine findSome_at (k := k) e (by rw [hj]; rfl) fun i z hi hz => ?_
  have := hn i hi
  rw [List.getD, hz, Option.getD_some] at this
  rw [this]; rfl
theorem st_no {p : PG} (hn : ∀ i, i < (cornersZ p).length → stkZ p ((cornersZ p).getD i []) = none) : stZ p = none := by
  unfold stZ
  rw [List.findSome?_eq_none_iff]
  intro x hx
  obtain ⟨j, hj, rfl⟩ := List.mem_iff_getElem.1 hx
  have := hn j hj
  rw [List.getD, List.getElem?_eq_getElem hj, Option.getD_some] at this
  rw [this]; rfl
theorem stuckZ_st {p : PG} {l : List Nat} {k : Nat} : stuckZ p l k = (decide ((lookN p l).xs.getD (l.getD k 0) 0 < 0) && stB p l k) := rfl
attribute [local go_sem] Oper.semAt_some
set_option maxRecDepth 100000 in
set_option maxHeartbeats 4000000 in
theorem solve_nothing (A : Option Addr) (c : Nat) (A2 : Option Addr) (c2 : Nat) (p : PG) (w : World) (hp : Pg w A c A2 c2 p) (hm : mayPB p = true) :
    Calls Try.prog 65 #[.agg #[.slice A p.costs.length c, .slice A2 p.rows.length c2]] w (RetNo w p) := by
  have HP := Lib.hid hp
  have HM := Lib.hid hm
  clear hp hm
  refine calls_of_marks Try.func65 rfl ?_
  simp only [Try.ntmps65, List.size_toArray, List.length_cons, List.length_nil, Nat.reduceAdd, Nat.reduceSub, Array.replicate_succ, Array.replicate_zero, List.push_toArray, List.append_toArray, List.nil_append, List.cons_append]
  go_wp2_with fail
  refine (solve_Corners A c A2 c2 p _).mono ?_
  rintro e w1 ⟨b1, b2, b3, rfl, l1, l2, l3, k1, k2, k3, k4, hb1⟩
  go_wp2_with fail
  have BR := Lib.hid (show Blk w1 (w.heap.size + 1) 57 #[.int .i64 0, .slice none 0 0, .int .i64 0, .slice none 0 0, .int .i64 0, .slice none 0 0, .int .i64 0, .int .i64 0, .int .i64 0] from Blk.next (by
    have := Blk.mk' (w.alloc (.cells #[.slice A p.costs.length c, .slice A2 p.rows.length c2] 25)) 57 #[.int .i64 0, .slice none 0 0, .int .i64 0, .slice none 0 0, .int .i64 0, .slice none 0 0, .int .i64 0, .int .i64 0, .int .i64 0]
    simpa using this) hb1)
  have BP := Lib.hid (show Blk w1 w.heap.size 25 #[.slice A p.costs.length c, .slice A2 p.rows.length c2] from Blk.next ((Blk.mk' _ _ _).alloc _) hb1)
  have HB1 := Lib.hid (show Below w.heap.size w w1 from (((Below.refl w.heap.size w).alloc (Nat.le_refl _) _).alloc (by simp) _).trans (hb1.mono (by simp; omega)))
  have z1 := hb1.size
  simp only [World.size_alloc] at z1 l1 l2 l3
  have q1 := World.block_lt_of_cell? _ _ k1
  have q2 := World.block_lt_of_cell? _ _ k2
  have q3 := World.block_lt_of_cell? _ _ k3
  simp only at q1 q2 q3
  obtain ⟨S, hS⟩ : ∃ S : Nat → Prop, S = fun i => i < w.heap.size + 1 ∨ i = b1 ∨ i = b2 ∨ i = b3 := ⟨_, rfl⟩
  have HS := Lib.hid hS
  have hbox : BoxC S w1 b1 b2 b3 A c A2 c2 p := by
    subst hS
    exact ⟨.inr (.inl rfl), .inr (.inr (.inl rfl)), .inr (.inr (.inr rfl)), k1, k2, k3, k4, fun W h => HP.out.below (HB1.out.trans (h.below (fun i hi => .inl (by omega)) HB1.out.size))⟩
  have hSn : ∀ i, S i → i < w1.heap.size := by
    subst hS
    rintro i (h | rfl | rfl | rfl) <;> omega
  have hSr : ¬ S (w.heap.size + 1) := by
    subst hS
    rintro (h | h | h | h) <;> omega
  have HSB := Lib.hid (show ∀ W, KS S w1 W → Below w.heap.size w W from fun W h => by
    subst hS
    exact HB1.out.trans (h.below (fun i hi => .inl (by omega)) HB1.out.size))
  have HSP := Lib.hid (show ∀ W, KS S w1 W → W.cell? ⟨w.heap.size, 0, none⟩ = some (.slice A p.costs.length c) ∧ W.cell? ⟨w.heap.size, 1, none⟩ = some (.slice A2 p.rows.length c2) from fun W h => by
    subst hS
    exact ⟨h.cell (.inl (by omega)) (BP.out.cell 0), h.cell (.inl (by omega)) (BP.out.cell 1)⟩)
  have HIT := Lib.hid (corners_iter S w1 b1 b2 b3 A c A2 c2 p hbox HM.out)
  clear hb1 k1 k2 k3 k4 hbox hS
  refine wp_iter (gf := 98) (lb := #[.pointer (some ⟨b1, 0, none⟩), .pointer (some ⟨b2, 0, none⟩), .pointer (some ⟨b3, 0, none⟩)]) rfl (enters_of Try.func98 (by kernel_rfl) rfl) HIT.out (KS.refl _ _) hSn
    (fun k args W h => by obtain ⟨_, _, _, _, _, _, _, _, rfl, _⟩ := h; rfl)
    (fun k W => (∀ i, i < k → stkZ p ((cornersZ p).getD i []) = none) ∧ Blk W (w.heap.size + 1) 57 #[.int .i64 0, .slice none 0 0, .int .i64 0, .slice none 0 0, .int .i64 0, .slice none 0 0, .int .i64 0, .int .i64 0, .int .i64 0])
    (fun cd k W => cd = .ret ∧ ∃ j, stkZ p ((cornersZ p).getD k []) = some j ∧ (∀ i, i < k → stkZ p ((cornersZ p).getD i []) = none) ∧ ∃ Y cy, Blk W (w.heap.size + 1) 57 #[.int .i64 3, .slice none 0 0, .int .i64 0, .slice Y (wholeZ (rowZ p ((cornersZ p).getD k []) j)).length cy, .int .i64 1, .slice none 0 0, .int .i64 0, .int .i64 0, .int .i64 0] ∧ Rd W Y cy (wholeZ (rowZ p ((cornersZ p).getD k []) j)) ∧ ∀ ad, Y = some ad → w.heap.size ≤ ad.block)
    (fun k X Y h kw => ⟨h.1, h.2.kw kw⟩)
    (fun cd k X Y h kw => by obtain ⟨h1, j, h2, h3, L, cl, h4, h5, h6⟩ := h; exact ⟨h1, j, h2, h3, L, cl, h4.kw kw, h5.kw kw, h6⟩)
    ⟨fun i hi => by omega, BR.out⟩ ?round ?done ?stop
  case round =>
    rintro l k args W hl hk ⟨hno, hbr⟩ hks ⟨L, cl, X, cx, Y, cy, G, cg, rfl, hL, hC, hLB⟩ hlt
    have HNO := Lib.hid hno
    have HBR := Lib.hid hbr
    have HKS := Lib.hid hks
    have HL := Lib.hid hL
    have HC := Lib.hid hC
    have hBs : Bs p ((cornersZ p).getD k []) := mem_corners.1 (by rw [List.getD, List.getElem?_eq_getElem hk]; exact List.getElem_mem hk)
    have HBS := Lib.hid hBs
    obtain ⟨lb, hlb⟩ : ∃ lb, (cornersZ p).getD k [] = lb := ⟨_, rfl⟩
    have HLB := Lib.hid hlb
    rw [hlb] at HL HC HBS ⊢
    clear hno hbr hks hL hC hlb hLB hBs
    gi_wp2
    refine ⟨(KeepsOthers.alloc _ _).from _, (KS.refl _ _).alloc _, fun Wb hkw hks2 => ?_⟩
    have BC := Lib.hid (show Blk Wb W.heap.size 42 #[.slice X (lookN p lb).xs.length cx, .int .i64 (lookN p lb).xd, .slice Y (lookN p lb).ys.length cy, .int .i64 (lookN p lb).yd, .slice G (lookN p lb).gs.length cg, .int .i64 (lookN p lb).gd] from (Blk.mk' _ _ _).kw hkw)
    have kwa : KW w1.heap.size W (W.alloc (.cells #[.slice X (lookN p lb).xs.length cx, .int .i64 (lookN p lb).xd, .slice Y (lookN p lb).ys.length cy, .int .i64 (lookN p lb).yd, .slice G (lookN p lb).gs.length cg, .int .i64 (lookN p lb).gd] 42)) := .of_below ((Below.refl _ W).alloc (Nat.le_refl _) _)
    have HL2 := Lib.hid (HL.out.kw (kwa.trans hkw))
    have HC2 := Lib.hid (HC.out.kw (kwa.trans hkw))
    have HBR2 := Lib.hid (HBR.out.kw (kwa.trans hkw))
    have HKS2 := Lib.hid ((HKS.out.alloc (.cells #[.slice X (lookN p lb).xs.length cx, .int .i64 (lookN p lb).xd, .slice Y (lookN p lb).ys.length cy, .int .i64 (lookN p lb).yd, .slice G (lookN p lb).gs.length cg, .int .i64 (lookN p lb).gd] 42)).trans hks2)
    clear kwa hkw hks2
    generalize W.heap.size = bc at *
    obtain ⟨gx, gy, gg, hcn⟩ := corn_of HBS.out.hp HBS.out.hr HBS.out.hd
    have HCN := Lib.hid hcn
    have hlen4 : lb.length ≤ 4 := by have := HBS.out.hr.len; have := HBS.out.rows4; omega
    clear hcn
    gi_wp2_with fail
    gi_loopw [13] (fun i wx => ∃ q : Nat, q ≤ lb.length ∧ i = .int .i64 q ∧ Hid (∀ i, i < q → stuckZ p lb i = false) ∧ Below Wb.heap.size Wb wx) (fun i _ => lb.length - (intOf i).toNat)
    case atStart => exact ⟨0, by omega, rfl, Lib.hid fun i hi => by omega, Below.refl _ _⟩
    case round =>
      obtain ⟨q, hq, rfl, hst, hbel⟩ := hrel
      rename World => U
      have HU := Lib.hid hbel
      have HKU := Lib.hid (HKS2.out.next hbel)
      have HST := Lib.hid hst
      have e0 := (BC.out.next hbel).cell 0
      simp at e0
      obtain ⟨p0, p1⟩ := HSP.out _ HKU.out
      have HPU := Lib.hid (HP.out.below (HSB.out _ HKU.out))
      have HLU := Lib.hid (HL2.out.below hbel)
      have HXU := Lib.hid (HC2.out.x.below hbel)
      clear hst hbel
      by_cases hqlt : q < lb.length
      · have hil : (ints lb).length = lb.length := intsN_len _
        have HIL := Lib.hid hil
        obtain ⟨al, rfl, hcl⟩ := HLU.out.natAt (by rw [nats_ints]; rfl) (show q < (ints lb).length by rw [hil]; exact hqlt)
        rw [nats_ints] at hcl
        have hjN : lb.getD q 0 < (lookN p lb).xs.length := by rw [HCN.out.lx]; exact HBS.out.hr.lt _ (mem_getD.2 ⟨q, hqlt, rfl⟩)
        obtain ⟨ax, rfl, hcx⟩ := HXU.out.getD_at hjN
        have hal := World.block_lt_of_cell? _ _ hcl
        have hax := World.block_lt_of_cell? _ _ hcx
        have hi0 : (q : Int) < (lb.length : Int) := by omega
        have hi1 : ((lb.getD q 0 : Nat) : Int) < ((lookN p lb).xs.length : Int) := by omega
        have hlc := HLU.out.le
        rw [hil] at hlc
        have hlc2 := HLU.out.cap
        have hxc := HXU.out.le
        have hxc2 := HXU.out.cap
        have HLK := Lib.hid (show lookE p (ints lb) = 0 from look_ints HBS.out.hp HBS.out.hr HBS.out.hd)
        have HSK := Lib.hid (show Calls Try.prog 110 #[.agg #[.slice A p.costs.length c, .slice A2 p.rows.length c2], .slice (some al) lb.length cl, .int .i64 q] U fun e w' => e = .returned (.bool (stB p lb q)) ∧ Below U.heap.size U w' from by
          have := solve_stuck A c A2 c2 p (some al) (ints lb) cl q U HPU.out HLU.out HLK.out (by rw [hil]; exact hqlt)
          rwa [hil, nats_ints] at this)
        have HDEF := Lib.hid (stuckZ_st (p := p) (l := lb) (k := q))
        have HSTN := Lib.hid (show stuckZ p lb q = false → ∀ i, i < q + 1 → stuckZ p lb i = false from fun h i hi => by
          by_cases e : i = q
          · subst e; exact h
          · exact HST.out i (by omega))
        obtain ⟨xv, hxv⟩ : ∃ xv, (lookN p lb).xs.getD (lb.getD q 0) 0 = xv := ⟨_, rfl⟩
        rw [hxv] at hcx HDEF
        obtain ⟨jn, hjn⟩ : ∃ jn, lb.getD q 0 = jn := ⟨_, rfl⟩
        rw [hjn] at hcx hcl hi1 hjN
        obtain ⟨xn, hxn⟩ : ∃ xn, (lookN p lb).xs.length = xn := ⟨_, rfl⟩
        rw [hxn] at e0 hi1 hjN hxc
        clear hxv hjn hil hxn
        by_cases hneg : xv < 0
        · cases hs : stB p lb q with
          | false =>
            rw [hs] at HSK
            have HF := Lib.hid (HSTN.out (by rw [HDEF.out, hs]; simp))
            clear hs
            gi_wp2_with fail
            refine ⟨trivial, rfl, ?_⟩
            refine (CallsIn.inRound l (callsIn_wide.2 HSK.out)).mono ?_
            rintro e w3 ⟨rfl, hb3⟩
            have HB3 := Lib.hid (HU.out.trans (hb3.mono HU.out.size))
            clear hb3
            gi_wp2_with fail
            go_roundw
            case rel => exact ⟨q + 1, by omega, by go_num, HF, HB3.out⟩
            case measure => simp [intOf]; omega
          | true =>
            rw [hs] at HSK
            have HTRUE := Lib.hid (show stkZ p lb = some q from stk_at hqlt (by rw [HDEF.out, hs]; simpa using hneg) HST.out)
            clear hs
            gi_wp2_with fail
            refine ⟨trivial, rfl, ?_⟩
            refine (CallsIn.inRound l (callsIn_wide.2 HSK.out)).mono ?_
            rintro e w3 ⟨rfl, hb3⟩
            have HB3 := Lib.hid (HU.out.trans (hb3.mono HU.out.size))
            have HK3 := Lib.hid (HKU.out.next hb3)
            have HRW := Lib.hid (show Calls Try.prog 111 #[.agg #[.slice A p.costs.length c, .slice A2 p.rows.length c2], .slice (some al) lb.length cl, .int .i64 q] w3 fun e w' => ∃ O co, e = .returned (.slice O p.rows.length co) ∧ Rd w' O co (rowZ p lb q) ∧ (∀ ad, O = some ad → w3.heap.size ≤ ad.block) ∧ Below w3.heap.size w3 w' from by
              have := solve_row A c A2 c2 p (some al) (ints lb) cl q w3 (HPU.out.below hb3) (HLU.out.below hb3) HLK.out (by rw [HIL.out]; exact hqlt)
              rwa [HIL.out, nats_ints] at this)
            have p0' := (hb3.cell (World.block_lt_of_cell? _ _ p0)).trans p0
            have p1' := (hb3.cell (World.block_lt_of_cell? _ _ p1)).trans p1
            clear hb3 hcl hcx e0 p0 p1
            gi_wp2_with fail
            refine ⟨trivial, rfl, ?_⟩
            refine (CallsIn.inRound l (callsIn_wide.2 HRW.out)).mono ?_
            rintro e w4 ⟨O, co, rfl, hO, hOn, hb4⟩
            have HB4 := Lib.hid (HB3.out.trans (hb4.mono HB3.out.size))
            have hrl := rowZ_len p lb q
            have h4r : p.rows.length ≤ 4 := HBS.out.rows4
            have hrs : smallB 1073741824 (rowZ p lb q) = true := smallB_iff.2 fun n hn => by have := smallB_mem (row_small HBS.out hqlt) hn; omega
            have HWH := Lib.hid (show Calls Try.prog 67 #[.slice O p.rows.length co] w4 (RetWh w4 (wholeZ (rowZ p lb q))) from by
              have := solve_whole O (rowZ p lb q) co w4 hO hrs (by rw [hrl]; omega)
              rwa [hrl] at this)
            clear hO hOn hb4 hrl hrs p0' p1'
            gi_wp2_with fail
            refine ⟨trivial, rfl, ?_⟩
            refine (CallsIn.inRound l (callsIn_wide.2 HWH.out)).mono ?_
            rintro e w5 ⟨O5, co5, rfl, hO5, hOn5, hb5⟩
            have HB5 := Lib.hid (HB4.out.trans (hb5.mono HB4.out.size))
            have HO5 := Lib.hid hO5
            have HON := Lib.hid hOn5
            have HBR5 := Lib.hid (HBR2.out.next HB5.out)
            have r0 : w5.cell? ⟨w.heap.size + 1, 0, none⟩ = some (.int .i64 0) := HBR5.out.cell 0
            have r1 : w5.cell? ⟨w.heap.size + 1, 1, none⟩ = some (.slice none 0 0) := HBR5.out.cell 1
            have r2 : w5.cell? ⟨w.heap.size + 1, 2, none⟩ = some (.int .i64 0) := HBR5.out.cell 2
            have r3 : w5.cell? ⟨w.heap.size + 1, 3, none⟩ = some (.slice none 0 0) := HBR5.out.cell 3
            have r4 : w5.cell? ⟨w.heap.size + 1, 4, none⟩ = some (.int .i64 0) := HBR5.out.cell 4
            have r5 : w5.cell? ⟨w.heap.size + 1, 5, none⟩ = some (.slice none 0 0) := HBR5.out.cell 5
            have r6 : w5.cell? ⟨w.heap.size + 1, 6, none⟩ = some (.int .i64 0) := HBR5.out.cell 6
            have r7 : w5.cell? ⟨w.heap.size + 1, 7, none⟩ = some (.int .i64 0) := HBR5.out.cell 7
            have r8 : w5.cell? ⟨w.heap.size + 1, 8, none⟩ = some (.int .i64 0) := HBR5.out.cell 8
            have f0 := HBR5.out.frozen 0
            have f1 := HBR5.out.frozen 1
            have f2 := HBR5.out.frozen 2
            have f3 := HBR5.out.frozen 3
            have f4 := HBR5.out.frozen 4
            have f5 := HBR5.out.frozen 5
            have f6 := HBR5.out.frozen 6
            have f7 := HBR5.out.frozen 7
            have f8 := HBR5.out.frozen 8
            clear hO5 hOn5 hb5
            gi_wp2_with fail
            refine ⟨?_, ?_, rfl, q, by rw [HLB.out]; exact HTRUE.out, HNO.out, O5, co5, ?_, ?_, fun ad e => by have := HON.out ad e; have := HB4.out.size; have := HKS2.out.size; omega⟩
            · iterate 9 refine KeepsFrom.trans ?_ ((KeepsOthers.setCell _ _ _).from _)
              exact KeepsFrom.of_below HB5.out _
            · iterate 9 refine KS.setCell _ _ ?_ hSr
              exact .of_below HB5.out
            · rw [HLB.out]
              exact ((((((((HBR5.out.set0 0 _).set0 1 _).set0 2 _).set0 3 _).set0 4 _).set0 5 _).set0 6 _).set0 7 _).set0 8 _
            · rw [HLB.out]
              iterate 9 refine Rd.setCell_out ?_ _ _ (fun ad e h => by have := HON.out ad e; have := HB4.out.size; have := HKS2.out.size; simp at h; omega)
              exact HO5.out
        · have HF := Lib.hid (HSTN.out (by rw [HDEF.out]; simp [hneg]))
          gi_wp2_with fail
          refine ⟨trivial, ?_⟩
          gi_wp2_with fail
          go_roundw
          case rel => exact ⟨q + 1, by omega, by go_num, HF, HU.out⟩
          case measure => simp [intOf]; omega
      · obtain rfl : q = lb.length := by omega
        have HNN := Lib.hid (stk_no HST.out)
        gi_wp2_with fail
        refine ⟨(KeepsFrom.of_below HU.out _), .of_below HU.out, fun i hi => ?_, HBR2.out.next HU.out⟩
        by_cases e : i = k
        · subst e; rw [HLB.out]; exact HNN.out
        · exact HNO.out i (by omega)
  case done =>
    rintro D W hD ⟨hno, hbr⟩ hks hK
    have HK := Lib.hid hK
    have HBR := Lib.hid hbr
    have HKS := Lib.hid hks
    have HNO := Lib.hid (st_no hno)
    have r0 : W.cell? ⟨w.heap.size + 1, 0, none⟩ = some (.int .i64 0) := HBR.out.cell 0
    have r1 : W.cell? ⟨w.heap.size + 1, 1, none⟩ = some (.slice none 0 0) := HBR.out.cell 1
    have r2 : W.cell? ⟨w.heap.size + 1, 2, none⟩ = some (.int .i64 0) := HBR.out.cell 2
    have r3 : W.cell? ⟨w.heap.size + 1, 3, none⟩ = some (.slice none 0 0) := HBR.out.cell 3
    have r4 : W.cell? ⟨w.heap.size + 1, 4, none⟩ = some (.int .i64 0) := HBR.out.cell 4
    have r5 : W.cell? ⟨w.heap.size + 1, 5, none⟩ = some (.slice none 0 0) := HBR.out.cell 5
    have r6 : W.cell? ⟨w.heap.size + 1, 6, none⟩ = some (.int .i64 0) := HBR.out.cell 6
    have r7 : W.cell? ⟨w.heap.size + 1, 7, none⟩ = some (.int .i64 0) := HBR.out.cell 7
    have r8 : W.cell? ⟨w.heap.size + 1, 8, none⟩ = some (.int .i64 0) := HBR.out.cell 8
    have f0 := HBR.out.frozen 0
    have f1 := HBR.out.frozen 1
    have f2 := HBR.out.frozen 2
    have f3 := HBR.out.frozen 3
    have f4 := HBR.out.frozen 4
    have f5 := HBR.out.frozen 5
    have f6 := HBR.out.frozen 6
    have f7 := HBR.out.frozen 7
    have f8 := HBR.out.frozen 8
    clear hno hbr hks hK
    go_wp2_with fail
    have hko : KeepsOthers W (((((((((W.setCell ⟨w.heap.size + 1, 0, none⟩ (.int .i64 0)).setCell ⟨w.heap.size + 1, 1, none⟩ (.slice none 0 0)).setCell ⟨w.heap.size + 1, 2, none⟩ (.int .i64 0)).setCell ⟨w.heap.size + 1, 3, none⟩ (.slice none 0 0)).setCell ⟨w.heap.size + 1, 4, none⟩ (.int .i64 0)).setCell ⟨w.heap.size + 1, 5, none⟩ (.slice none 0 0)).setCell ⟨w.heap.size + 1, 6, none⟩ (.int .i64 0)).setCell ⟨w.heap.size + 1, 7, none⟩ (.int .i64 0)).setCell ⟨w.heap.size + 1, 8, none⟩ (.int .i64 0)) := by
      iterate 9 refine KeepsOthers.trans ?_ (KeepsOthers.setCell _ _ _)
      exact KeepsOthers.refl _
    have hks9 : KS S w1 (((((((((W.setCell ⟨w.heap.size + 1, 0, none⟩ (.int .i64 0)).setCell ⟨w.heap.size + 1, 1, none⟩ (.slice none 0 0)).setCell ⟨w.heap.size + 1, 2, none⟩ (.int .i64 0)).setCell ⟨w.heap.size + 1, 3, none⟩ (.slice none 0 0)).setCell ⟨w.heap.size + 1, 4, none⟩ (.int .i64 0)).setCell ⟨w.heap.size + 1, 5, none⟩ (.slice none 0 0)).setCell ⟨w.heap.size + 1, 6, none⟩ (.int .i64 0)).setCell ⟨w.heap.size + 1, 7, none⟩ (.int .i64 0)).setCell ⟨w.heap.size + 1, 8, none⟩ (.int .i64 0)) := by
      iterate 9 refine KS.setCell _ _ ?_ hSr
      exact HKS.out
    have hb9 : Blk (((((((((W.setCell ⟨w.heap.size + 1, 0, none⟩ (.int .i64 0)).setCell ⟨w.heap.size + 1, 1, none⟩ (.slice none 0 0)).setCell ⟨w.heap.size + 1, 2, none⟩ (.int .i64 0)).setCell ⟨w.heap.size + 1, 3, none⟩ (.slice none 0 0)).setCell ⟨w.heap.size + 1, 4, none⟩ (.int .i64 0)).setCell ⟨w.heap.size + 1, 5, none⟩ (.slice none 0 0)).setCell ⟨w.heap.size + 1, 6, none⟩ (.int .i64 0)).setCell ⟨w.heap.size + 1, 7, none⟩ (.int .i64 0)).setCell ⟨w.heap.size + 1, 8, none⟩ (.int .i64 0)) (w.heap.size + 1) 57 #[.int .i64 0, .slice none 0 0, .int .i64 0, .slice none 0 0, .int .i64 0, .slice none 0 0, .int .i64 0, .int .i64 0, .int .i64 0] :=
      ((((((((HBR.out.set0 0 _).set0 1 _).set0 2 _).set0 3 _).set0 4 _).set0 5 _).set0 6 _).set0 7 _).set0 8 _
    have hK' := hko.same D _ HK.out rfl
    have hkw := KW.putObj (B := 0) (.deferred none) (Nat.zero_le _) hK' rfl
    have HB9 := hb9.kw hkw
    have e0 := HB9.cell 0
    have e1 := HB9.cell 1
    have e2 := HB9.cell 2
    have e3 := HB9.cell 3
    have e4 := HB9.cell 4
    have e5 := HB9.cell 5
    have e6 := HB9.cell 6
    have e7 := HB9.cell 7
    have e8 := HB9.cell 8
    simp at e0 e1 e2 e3 e4 e5 e6 e7 e8
    refine ⟨by simp, .inl ⟨_, _, rfl, run_takeDeferred hK', anV none 0 none 0 none 0 ⟨0, [], 0, [], 0, [], 0, 0, 0⟩, ?_, ?_⟩⟩
    · simp [results, Try.results65, go_sem, anV, e0, e1, e2, e3, e4, e5, e6, e7, e8]
    · refine ⟨HSB.out _ (hks9.putObj _ fun h => by have := hSn _ h; omega), none, 0, ?_, ?_⟩
      · unfold ansN; rw [HNO.out]
      · unfold ansN; rw [HNO.out]; exact ⟨Rd.nil _, fun ad e => by cases e⟩
  case stop =>
    rintro D cd k W hD hk ⟨rfl, j, hg, hno, L, cl, hbr, hL, hLN⟩ hks hK
    have HK := Lib.hid hK
    have HBR := Lib.hid hbr
    have HKS := Lib.hid hks
    have HL := Lib.hid hL
    have HST := Lib.hid (st_at hk hg hno)
    clear hg hno hbr hks hK hL
    obtain ⟨lb, hlb⟩ : ∃ lb, (cornersZ p).getD k [] = lb := ⟨_, rfl⟩
    rw [hlb] at HST HL HBR
    clear hlb
    go_wp2_with fail
    have hkw := KW.putObj (B := 0) (.deferred none) (Nat.zero_le _) HK.out rfl
    have HB9 := HBR.out.kw hkw
    have e0 := HB9.cell 0
    have e1 := HB9.cell 1
    have e2 := HB9.cell 2
    have e3 := HB9.cell 3
    have e4 := HB9.cell 4
    have e5 := HB9.cell 5
    have e6 := HB9.cell 6
    have e7 := HB9.cell 7
    have e8 := HB9.cell 8
    simp at e0 e1 e2 e3 e4 e5 e6 e7 e8
    refine ⟨by simp, .inl ⟨_, _, rfl, run_takeDeferred HK.out, anV none 0 L cl none 0 (notA p (lb, j)), ?_, ?_⟩⟩
    · simp [results, Try.results65, go_sem, anV, notA, e0, e1, e2, e3, e4, e5, e6, e7, e8]
    · refine ⟨HSB.out _ (HKS.out.putObj _ fun h => by have := hSn _ h; omega), L, cl, ?_, ?_⟩
      · unfold ansN; rw [HST.out]
      · unfold ansN; rw [HST.out]; exact ⟨HL.out.kw hkw, hLN⟩
end Go.Proofs.Ytjcdkbalhleeeab
