/-
  Contracts of functions and plain laws that later parts of the proof use. The conditions stand in each theorem.
-/
import Derived.Test.YtjcdkbalhleeeabG23
import Derived.Test.YtjcdkbalhleeeabG05
import Derived.Test.YtjcdkbalhleeeabG12
import Derived.LoopIn
import Derived.Test.YtjcdkbalhleeeabG16
import Derived.Test.YtjcdkbalhleeeabG13
namespace Go.Proofs.Ytjcdkbalhleeeab
open Go.RowKit

/-- The answer that nothing goes, if that is proved by a corner. -/
def ansN (p : PG) : AN := match stZ p with
  | some x => notA p x
  | none => ⟨0, [], 0, [], 0, [], 0, 0, 0⟩
/-- An answer, as a value. -/
def anV (X : Option Addr) (cx : Nat) (Y : Option Addr) (cy : Nat) (R : Option Addr) (cr : Nat) (a : AN) : Value :=
  .agg #[.int .i64 a.kind, .slice X a.xs.length cx, .int .i64 a.xd, .slice Y a.ys.length cy, .int .i64 a.yd, .slice R a.rs.length cr, .int .i64 a.rd, .int .i64 a.wn, .int .i64 a.wd]
def RetNo (w : World) (p : PG) (e : Ending) (w' : World) : Prop :=
  Below w.heap.size w w' ∧ ∃ Y cy, e = .returned (anV none 0 Y cy none 0 (ansN p)) ∧ Rd w' Y cy (ansN p).ys ∧ ∀ ad, Y = some ad → w.heap.size ≤ ad.block
/-- The k-th column is none that is stuck. -/
theorem stk_no {p : PG} {l : List Nat} (h : ∀ k, k < l.length → stuckZ p l k = false) : stkZ p l = none := by
  unfold stkZ
  rw [List.find?_eq_none]
  intro k hk
  rw [h k (List.mem_range.1 hk)]; simp
theorem stk_at {p : PG} {l : List Nat} {k : Nat} (hk : k < l.length) (hs : stuckZ p l k = true) (hn : ∀ i, i < k → stuckZ p l i = false) : stkZ p l = some k := by
  unfold stkZ
  rw [List.find?_eq_some_iff_getElem]
  refine ⟨hs, k, by simpa using hk, by simp, fun j hj => ?_⟩
  simp only [List.getElem_range]
  rw [hn j hj]; rfl
theorem findSome_at {α β : Type} {f : α → Option β} : ∀ {l : List α} {k : Nat} {x : α} {y : β}, l[k]? = some x → f x = some y → (∀ i z, i < k → l[i]? = some z → f z = none) → l.findSome? f = some y
  | a :: l, 0, x, y, h, hy, _ => by simp at h; subst h; rw [List.findSome?_cons, hy]
  | a :: l, k + 1, x, y, h, hy, hn => by
    have h0 := hn 0 a (by omega) rfl
    rw [List.findSome?_cons, h0]
    exact findSome_at (k := k) (by simpa using h) hy fun i z hi hz => hn (i + 1) z (by omega) (by simpa using hz)
theorem st_at {p : PG} {k j : Nat} (hk : k < (cornersZ p).length) (hj : stkZ p ((cornersZ p).getD k []) = some j) (hn : ∀ i, i < k → stkZ p ((cornersZ p).getD i []) = none) : stZ p = some ((cornersZ p).getD k [], j) := by
  have e : (cornersZ p)[k]? = some ((cornersZ p).getD k []) := by simp [List.getD, List.getElem?_eq_getElem hk]
  unfold stZ
  refine findSome_at (k := k) e (by rw [hj]; rfl) fun i z hi hz => ?_
  have := hn i hi
  rw [List.getD, hz, Option.getD_some] at this
  rw [this]; rfl
theorem st_no {p : PG} (hn : ∀ i, i < (cornersZ p).length → stkZ p ((cornersZ p).getD i []) = none) : stZ p = none := by
  unfold stZ
  rw [List.findSome?_eq_none_iff]
  intro x hx
  obtain ⟨j, hj, rfl⟩ := List.mem_iff_getElem.1 hx
  have := hn j hj
  rw [List.getD, List.getElem?_eq_getElem hj, Option.getD_some] at this
  rw [this]; rfl
theorem stuckZ_st {p : PG} {l : List Nat} {k : Nat} : stuckZ p l k = (decide ((lookN p l).xs.getD (l.getD k 0) 0 < 0) && stB p l k) := rfl
attribute [local go_sem] Oper.semAt_some
set_option maxRecDepth 100000 in
set_option maxHeartbeats 4000000 in
theorem solve_nothing (A : Option Addr) (c : Nat) (A2 : Option Addr) (c2 : Nat) (p : PG) (w : World) (hp : Pg w A c A2 c2 p) (hm : mayPB p = true) :
    Calls Try.prog 65 #[.agg #[.slice A p.costs.length c, .slice A2 p.rows.length c2]] w (RetNo w p) := by
  have HP := Lib.hid hp
  have HM := Lib.hid hm
  clear hp hm
  refine calls_of_marks Try.func65 rfl ?_
  simp only [Try.ntmps65, List.size_toArray, List.length_cons, List.length_nil, Nat.reduceAdd, Nat.reduceSub, Array.replicate_succ, Array.replicate_zero, List.push_toArray, List.append_toArray, List.nil_append, List.cons_append]
  go_wp2_with fail
  refine (solve_Corners A c A2 c2 p _).mono ?_
  rintro e w1 ⟨b1, b2, b3, rfl, l1, l2, l3, k1, k2, k3, k4, hb1⟩
  go_wp2_with fail
  have BR := Lib.hid (show Blk w1 (w.heap.size + 1) 57 #[.int .i64 0, .slice none 0 0, .int .i64 0, .slice none 0 0, .int .i64 0, .slice none 0 0, .int .i64 0, .int .i64 0, .int .i64 0] from Blk.next (by
    have := Blk.mk' (w.alloc (.cells #[.slice A p.costs.length c, .slice A2 p.rows.length c2] 25)) 57 #[.int .i64 0, .slice none 0 0, .int .i64 0, .slice none 0 0, .int .i64 0, .slice none 0 0, .int .i64 0, .int .i64 0, .int .i64 0]
    simpa using this) hb1)
  have BP := Lib.hid (show Blk w1 w.heap.size 25 #[.slice A p.costs.length c, .slice A2 p.rows.length c2] from Blk.next ((Blk.mk' _ _ _).alloc _) hb1)
  have HB1 := Lib.hid (show Below w.heap.size w w1 from (((Below.refl w.heap.size w).alloc (Nat.le_refl _) _).alloc (by simp) _).trans (hb1.mono (by simp; omega)))
  have z1 := hb1.size
  simp only [World.size_alloc] at z1 l1 l2 l3
  have q1 := World.block_lt_of_cell? _ _ k1
  have q2 := World.block_lt_of_cell? _ _ k2
  have q3 := World.block_lt_of_cell? _ _ k3
  simp only at q1 q2 q3
  obtain ⟨S, hS⟩ : ∃ S : Nat → Prop, S = fun i => i < w.heap.size + 1 ∨ i = b1 ∨ i = b2 ∨ i = b3 := ⟨_, rfl⟩
  have HS := Lib.hid hS
  have hbox : BoxC S w1 b1 b2 b3 A c A2 c2 p := by
    subst hS
    exact ⟨.inr (.inl rfl), .inr (.inr (.inl rfl)), .inr (.inr (.inr rfl)), k1, k2, k3, k4, fun W h => HP.out.below (HB1.out.trans (h.below (fun i hi => .inl (by omega)) HB1.out.size))⟩
  have hSn : ∀ i, S i → i < w1.heap.size := by
    subst hS
    rintro i (h | rfl | rfl | rfl) <;> omega
  have hSr : ¬ S (w.heap.size + 1) := by
    subst hS
    rintro (h | h | h | h) <;> omega
  have HSB := Lib.hid (show ∀ W, KS S w1 W → Below w.heap.size w W from fun W h => by
    subst hS
    exact HB1.out.trans (h.below (fun i hi => .inl (by omega)) HB1.out.size))
  have HSP := Lib.hid (show ∀ W, KS S w1 W → W.cell? ⟨w.heap.size, 0, none⟩ = some (.slice A p.costs.length c) ∧ W.cell? ⟨w.heap.size, 1, none⟩ = some (.slice A2 p.rows.length c2) from fun W h => by
    subst hS
    exact ⟨h.cell (.inl (by omega)) (BP.out.cell 0), h.cell (.inl (by omega)) (BP.out.cell 1)⟩)
  have HIT := Lib.hid (corners_iter S w1 b1 b2 b3 A c A2 c2 p hbox HM.out)
  clear hb1 k1 k2 k3 k4 hbox hS
  refine wp_iter (gf := 98) (lb := #[.pointer (some ⟨b1, 0, none⟩), .pointer (some ⟨b2, 0, none⟩), .pointer (some ⟨b3, 0, none⟩)]) rfl (enters_of Try.func98 (by kernel_rfl) rfl) HIT.out (KS.refl _ _) hSn
    (fun k args W h => by obtain ⟨_, _, _, _, _, _, _, _, rfl, _⟩ := h; rfl)
    (fun k W => (∀ i, i < k → stkZ p ((cornersZ p).getD i []) = none) ∧ Blk W (w.heap.size + 1) 57 #[.int .i64 0, .slice none 0 0, .int .i64 0, .slice none 0 0, .int .i64 0, .slice none 0 0, .int .i64 0, .int .i64 0, .int .i64 0])
    (fun cd k W => cd = .ret ∧ ∃ j, stkZ p ((cornersZ p).getD k []) = some j ∧ (∀ i, i < k → stkZ p ((cornersZ p).getD i []) = none) ∧ ∃ Y cy, Blk W (w.heap.size + 1) 57 #[.int .i64 3, .slice none 0 0, .int .i64 0, .slice Y (wholeZ (rowZ p ((cornersZ p).getD k []) j)).length cy, .int .i64 1, .slice none 0 0, .int .i64 0, .int .i64 0, .int .i64 0] ∧ Rd W Y cy (wholeZ (rowZ p ((cornersZ p).getD k []) j)) ∧ ∀ ad, Y = some ad → w.heap.size ≤ ad.block)
    (fun k X Y h kw => ⟨h.1, h.2.kw kw⟩)
    (fun cd k X Y h kw => by obtain ⟨h1, j, h2, h3, L, cl, h4, h5, h6⟩ := h; exact ⟨h1, j, h2, h3, L, cl, h4.kw kw, h5.kw kw, h6⟩)
    ⟨fun i hi => by omega, BR.out⟩ ?round ?done ?stop
  case round =>
    rintro l k args W hl hk ⟨hno, hbr⟩ hks ⟨L, cl, X, cx, Y, cy, G, cg, rfl, hL, hC, hLB⟩ hlt
    have HNO := Lib.hid hno
    have HBR := Lib.hid hbr
    have HKS := Lib.hid hks
    have HL := Lib.hid hL
    have HC := Lib.hid hC
    have hBs : Bs p ((cornersZ p).getD k []) := mem_corners.1 (by rw [List.getD, List.getElem?_eq_getElem hk]; exact List.getElem_mem hk)
    have HBS := Lib.hid hBs
    obtain ⟨lb, hlb⟩ : ∃ lb, (cornersZ p).getD k [] = lb := ⟨_, rfl⟩
    have HLB := Lib.hid hlb
    rw [hlb] at HL HC HBS ⊢
    clear hno hbr hks hL hC hlb hLB hBs
    gi_wp2
    refine ⟨(KeepsOthers.alloc _ _).from _, (KS.refl _ _).alloc _, fun Wb hkw hks2 => ?_⟩
    have BC := Lib.hid (show Blk Wb W.heap.size 42 #[.slice X (lookN p lb).xs.length cx, .int .i64 (lookN p lb).xd, .slice Y (lookN p lb).ys.length cy, .int .i64 (lookN p lb).yd, .slice G (lookN p lb).gs.length cg, .int .i64 (lookN p lb).gd] from (Blk.mk' _ _ _).kw hkw)
    have kwa : KW w1.heap.size W (W.alloc (.cells #[.slice X (lookN p lb).xs.length cx, .int .i64 (lookN p lb).xd, .slice Y (lookN p lb).ys.length cy, .int .i64 (lookN p lb).yd, .slice G (lookN p lb).gs.length cg, .int .i64 (lookN p lb).gd] 42)) := .of_below ((Below.refl _ W).alloc (Nat.le_refl _) _)
    have HL2 := Lib.hid (HL.out.kw (kwa.trans hkw))
    have HC2 := Lib.hid (HC.out.kw (kwa.trans hkw))
    have HBR2 := Lib.hid (HBR.out.kw (kwa.trans hkw))
    have HKS2 := Lib.hid ((HKS.out.alloc (.cells #[.slice X (lookN p lb).xs.length cx, .int .i64 (lookN p lb).xd, .slice Y (lookN p lb).ys.length cy, .int .i64 (lookN p lb).yd, .slice G (lookN p lb).gs.length cg, .int .i64 (lookN p lb).gd] 42)).trans hks2)
    clear kwa hkw hks2
    generalize W.heap.size = bc at *
    obtain ⟨gx, gy, gg, hcn⟩ := corn_of HBS.out.hp HBS.out.hr HBS.out.hd
    have HCN := Lib.hid hcn
    have hlen4 : lb.length ≤ 4 := by have := HBS.out.hr.len; have := HBS.out.rows4; omega
    clear hcn
    gi_wp2_with fail
    gi_loopw [13] (fun i wx => ∃ q : Nat, q ≤ lb.length ∧ i = .int .i64 q ∧ Hid (∀ i, i < q → stuckZ p lb i = false) ∧ Below Wb.heap.size Wb wx) (fun i _ => lb.length - (intOf i).toNat)
    case atStart => exact ⟨0, by omega, rfl, Lib.hid fun i hi => by omega, Below.refl _ _⟩
    case round =>
      obtain ⟨q, hq, rfl, hst, hbel⟩ := hrel
      rename World => U
      have HU := Lib.hid hbel
      have HKU := Lib.hid (HKS2.out.next hbel)
      have HST := Lib.hid hst
      have e0 := (BC.out.next hbel).cell 0
      simp at e0
      obtain ⟨p0, p1⟩ := HSP.out _ HKU.out
      have HPU := Lib.hid (HP.out.below (HSB.out _ HKU.out))
      have HLU := Lib.hid (HL2.out.below hbel)
      have HXU := Lib.hid (HC2.out.x.below hbel)
      clear hst hbel
      by_cases hqlt : q < lb.length
      · have hil : (ints lb).length = lb.length := intsN_len _
        have HIL := Lib.hid hil
        obtain ⟨al, rfl, hcl⟩ := HLU.out.natAt (by rw [nats_ints]; rfl) (show q < (ints lb).length by rw [hil]; exact hqlt)
        rw [nats_ints] at hcl
        have hjN : lb.getD q 0 < (lookN p lb).xs.length := by rw [HCN.out.lx]; exact HBS.out.hr.lt _ (mem_getD.2 ⟨q, hqlt, rfl⟩)
        obtain ⟨ax, rfl, hcx⟩ := HXU.out.getD_at hjN
        have hal := World.block_lt_of_cell? _ _ hcl
        have hax := World.block_lt_of_cell? _ _ hcx
        have hi0 : (q : Int) < (lb.length : Int) := by omega
        have hi1 : ((lb.getD q 0 : Nat) : Int) < ((lookN p lb).xs.length : Int) := by omega
        have hlc := HLU.out.le
        rw [hil] at hlc
        have hlc2 := HLU.out.cap
        have hxc := HXU.out.le
        have hxc2 := HXU.out.cap
        have HLK := Lib.hid (show lookE p (ints lb) = 0 from look_ints HBS.out.hp HBS.out.hr HBS.out.hd)
        have HSK := Lib.hid (show Calls Try.prog 110 #[.agg #[.slice A p.costs.length c, .slice A2 p.rows.length c2], .slice (some al) lb.length cl, .int .i64 q] U fun e w' => e = .returned (.bool (stB p lb q)) ∧ Below U.heap.size U w' from by
          have := solve_stuck A c A2 c2 p (some al) (ints lb) cl q U HPU.out HLU.out HLK.out (by rw [hil]; exact hqlt)
          rwa [hil, nats_ints] at this)
        have HDEF := Lib.hid (stuckZ_st (p := p) (l := lb) (k := q))
        have HSTN := Lib.hid (show stuckZ p lb q = false → ∀ i, i < q + 1 → stuckZ p lb i = false from fun h i hi => by
          by_cases e : i = q
          · subst e; exact h
          · exact HST.out i (by omega))
        obtain ⟨xv, hxv⟩ : ∃ xv, (lookN p lb).xs.getD (lb.getD q 0) 0 = xv := ⟨_, rfl⟩
        rw [hxv] at hcx HDEF
        obtain ⟨jn, hjn⟩ : ∃ jn, lb.getD q 0 = jn := ⟨_, rfl⟩
        rw [hjn] at hcx hcl hi1 hjN
        obtain ⟨xn, hxn⟩ : ∃ xn, (lookN p lb).xs.length = xn := ⟨_, rfl⟩
        rw [hxn] at e0 hi1 hjN hxc
        clear hxv hjn hil hxn
        by_cases hneg : xv < 0
        · cases hs : stB p lb q with
          | false =>
            rw [hs] at HSK
            have HF := Lib.hid (HSTN.out (by rw [HDEF.out, hs]; simp))
            clear hs
            gi_wp2_with fail
            refine ⟨trivial, rfl, ?_⟩
            refine (CallsIn.inRound l (callsIn_wide.2 HSK.out)).mono ?_
            rintro e w3 ⟨rfl, hb3⟩
            have HB3 := Lib.hid (HU.out.trans (hb3.mono HU.out.size))
            clear hb3
            gi_wp2_with fail
            go_roundw
            case rel => exact ⟨q + 1, by omega, by go_num, HF, HB3.out⟩
            case measure => simp [intOf]; omega
          | true =>
            rw [hs] at HSK
            have HTRUE := Lib.hid (show stkZ p lb = some q from stk_at hqlt (by rw [HDEF.out, hs]; simpa using hneg) HST.out)
            clear hs
            gi_wp2_with fail
            refine ⟨trivial, rfl, ?_⟩
            refine (CallsIn.inRound l (callsIn_wide.2 HSK.out)).mono ?_
            rintro e w3 ⟨rfl, hb3⟩
            have HB3 := Lib.hid (HU.out.trans (hb3.mono HU.out.size))
            have HK3 := Lib.hid (HKU.out.next hb3)
            have HRW := Lib.hid (show Calls Try.prog 111 #[.agg #[.slice A p.costs.length c, .slice A2 p.rows.length c2], .slice (some al) lb.length cl, .int .i64 q] w3 fun e w' => ∃ O co, e = .returned (.slice O p.rows.length co) ∧ Rd w' O co (rowZ p lb q) ∧ (∀ ad, O = some ad → w3.heap.size ≤ ad.block) ∧ Below w3.heap.size w3 w' from by
              have := solve_row A c A2 c2 p (some al) (ints lb) cl q w3 (HPU.out.below hb3) (HLU.out.below hb3) HLK.out (by rw [HIL.out]; exact hqlt)
              rwa [HIL.out, nats_ints] at this)
            have p0' := (hb3.cell (World.block_lt_of_cell? _ _ p0)).trans p0
            have p1' := (hb3.cell (World.block_lt_of_cell? _ _ p1)).trans p1
            clear hb3 hcl hcx e0 p0 p1
            gi_wp2_with fail
            refine ⟨trivial, rfl, ?_⟩
            refine (CallsIn.inRound l (callsIn_wide.2 HRW.out)).mono ?_
            rintro e w4 ⟨O, co, rfl, hO, hOn, hb4⟩
            have HB4 := Lib.hid (HB3.out.trans (hb4.mono HB3.out.size))
            have hrl := rowZ_len p lb q
            have h4r : p.rows.length ≤ 4 := HBS.out.rows4
            have hrs : smallB 1073741824 (rowZ p lb q) = true := smallB_iff.2 fun n hn => by have := smallB_mem (row_small HBS.out hqlt) hn; omega
            have HWH := Lib.hid (show Calls Try.prog 67 #[.slice O p.rows.length co] w4 (RetWh w4 (wholeZ (rowZ p lb q))) from by
              have := solve_whole O (rowZ p lb q) co w4 hO hrs (by rw [hrl]; omega)
              rwa [hrl] at this)
            clear hO hOn hb4 hrl hrs p0' p1'
            gi_wp2_with fail
            refine ⟨trivial, rfl, ?_⟩
            refine (CallsIn.inRound l (callsIn_wide.2 HWH.out)).mono ?_
            rintro e w5 ⟨O5, co5, rfl, hO5, hOn5, hb5⟩
            have HB5 := Lib.hid (HB4.out.trans (hb5.mono HB4.out.size))
            have HO5 := Lib.hid hO5
            have HON := Lib.hid hOn5
            have HBR5 := Lib.hid (HBR2.out.next HB5.out)
            have r0 : w5.cell? ⟨w.heap.size + 1, 0, none⟩ = some (.int .i64 0) := HBR5.out.cell 0
            have r1 : w5.cell? ⟨w.heap.size + 1, 1, none⟩ = some (.slice none 0 0) := HBR5.out.cell 1
            have r2 : w5.cell? ⟨w.heap.size + 1, 2, none⟩ = some (.int .i64 0) := HBR5.out.cell 2
            have r3 : w5.cell? ⟨w.heap.size + 1, 3, none⟩ = some (.slice none 0 0) := HBR5.out.cell 3
            have r4 : w5.cell? ⟨w.heap.size + 1, 4, none⟩ = some (.int .i64 0) := HBR5.out.cell 4
            have r5 : w5.cell? ⟨w.heap.size + 1, 5, none⟩ = some (.slice none 0 0) := HBR5.out.cell 5
            have r6 : w5.cell? ⟨w.heap.size + 1, 6, none⟩ = some (.int .i64 0) := HBR5.out.cell 6
            have r7 : w5.cell? ⟨w.heap.size + 1, 7, none⟩ = some (.int .i64 0) := HBR5.out.cell 7
            have r8 : w5.cell? ⟨w.heap.size + 1, 8, none⟩ = some (.int .i64 0) := HBR5.out.cell 8
            have f0 := HBR5.out.frozen 0
            have f1 := HBR5.out.frozen 1
            have f2 := HBR5.out.frozen 2
            have f3 := HBR5.out.frozen 3
            have f4 := HBR5.out.frozen 4
            have f5 := HBR5.out.frozen 5
            have f6 := HBR5.out.frozen 6
            have f7 := HBR5.out.frozen 7
            have f8 := HBR5.out.frozen 8
            clear hO5 hOn5 hb5
            gi_wp2_with fail
            refine ⟨?_, ?_, rfl, q, by rw [HLB.out]; exact HTRUE.out, HNO.out, O5, co5, ?_, ?_, fun ad e => by have := HON.out ad e; have := HB4.out.size; have := HKS2.out.size; omega⟩
            · iterate 9 refine KeepsFrom.trans ?_ ((KeepsOthers.setCell _ _ _).from _)
              exact KeepsFrom.of_below HB5.out _
            · iterate 9 refine KS.setCell _ _ ?_ hSr
              exact .of_below HB5.out
            · rw [HLB.out]
              exact ((((((((HBR5.out.set0 0 _).set0 1 _).set0 2 _).set0 3 _).set0 4 _).set0 5 _).set0 6 _).set0 7 _).set0 8 _
            · rw [HLB.out]
              iterate 9 refine Rd.setCell_out ?_ _ _ (fun ad e h => by have := HON.out ad e; have := HB4.out.size; have := HKS2.out.size; simp at h; omega)
              exact HO5.out
        · have HF := Lib.hid (HSTN.out (by rw [HDEF.out]; simp [hneg]))
          gi_wp2_with fail
          refine ⟨trivial, ?_⟩
          gi_wp2_with fail
          go_roundw
          case rel => exact ⟨q + 1, by omega, by go_num, HF, HU.out⟩
          case measure => simp [intOf]; omega
      · obtain rfl : q = lb.length := by omega
        have HNN := Lib.hid (stk_no HST.out)
        gi_wp2_with fail
        refine ⟨(KeepsFrom.of_below HU.out _), .of_below HU.out, fun i hi => ?_, HBR2.out.next HU.out⟩
        by_cases e : i = k
        · subst e; rw [HLB.out]; exact HNN.out
        · exact HNO.out i (by omega)
  case done =>
    rintro D W hD ⟨hno, hbr⟩ hks hK
    have HK := Lib.hid hK
    have HBR := Lib.hid hbr
    have HKS := Lib.hid hks
    have HNO := Lib.hid (st_no hno)
    have r0 : W.cell? ⟨w.heap.size + 1, 0, none⟩ = some (.int .i64 0) := HBR.out.cell 0
    have r1 : W.cell? ⟨w.heap.size + 1, 1, none⟩ = some (.slice none 0 0) := HBR.out.cell 1
    have r2 : W.cell? ⟨w.heap.size + 1, 2, none⟩ = some (.int .i64 0) := HBR.out.cell 2
    have r3 : W.cell? ⟨w.heap.size + 1, 3, none⟩ = some (.slice none 0 0) := HBR.out.cell 3
    have r4 : W.cell? ⟨w.heap.size + 1, 4, none⟩ = some (.int .i64 0) := HBR.out.cell 4
    have r5 : W.cell? ⟨w.heap.size + 1, 5, none⟩ = some (.slice none 0 0) := HBR.out.cell 5
    have r6 : W.cell? ⟨w.heap.size + 1, 6, none⟩ = some (.int .i64 0) := HBR.out.cell 6
    have r7 : W.cell? ⟨w.heap.size + 1, 7, none⟩ = some (.int .i64 0) := HBR.out.cell 7
    have r8 : W.cell? ⟨w.heap.size + 1, 8, none⟩ = some (.int .i64 0) := HBR.out.cell 8
    have f0 := HBR.out.frozen 0
    have f1 := HBR.out.frozen 1
    have f2 := HBR.out.frozen 2
    have f3 := HBR.out.frozen 3
    have f4 := HBR.out.frozen 4
    have f5 := HBR.out.frozen 5
    have f6 := HBR.out.frozen 6
    have f7 := HBR.out.frozen 7
    have f8 := HBR.out.frozen 8
    clear hno hbr hks hK
    go_wp2_with fail
    have hko : KeepsOthers W (((((((((W.setCell ⟨w.heap.size + 1, 0, none⟩ (.int .i64 0)).setCell ⟨w.heap.size + 1, 1, none⟩ (.slice none 0 0)).setCell ⟨w.heap.size + 1, 2, none⟩ (.int .i64 0)).setCell ⟨w.heap.size + 1, 3, none⟩ (.slice none 0 0)).setCell ⟨w.heap.size + 1, 4, none⟩ (.int .i64 0)).setCell ⟨w.heap.size + 1, 5, none⟩ (.slice none 0 0)).setCell ⟨w.heap.size + 1, 6, none⟩ (.int .i64 0)).setCell ⟨w.heap.size + 1, 7, none⟩ (.int .i64 0)).setCell ⟨w.heap.size + 1, 8, none⟩ (.int .i64 0)) := by
      iterate 9 refine KeepsOthers.trans ?_ (KeepsOthers.setCell _ _ _)
      exact KeepsOthers.refl _
    have hks9 : KS S w1 (((((((((W.setCell ⟨w.heap.size + 1, 0, none⟩ (.int .i64 0)).setCell ⟨w.heap.size + 1, 1, none⟩ (.slice none 0 0)).setCell ⟨w.heap.size + 1, 2, none⟩ (.int .i64 0)).setCell ⟨w.heap.size + 1, 3, none⟩ (.slice none 0 0)).setCell ⟨w.heap.size + 1, 4, none⟩ (.int .i64 0)).setCell ⟨w.heap.size + 1, 5, none⟩ (.slice none 0 0)).setCell ⟨w.heap.size + 1, 6, none⟩ (.int .i64 0)).setCell ⟨w.heap.size + 1, 7, none⟩ (.int .i64 0)).setCell ⟨w.heap.size + 1, 8, none⟩ (.int .i64 0)) := by
      iterate 9 refine KS.setCell _ _ ?_ hSr
      exact HKS.out
    have hb9 : Blk (((((((((W.setCell ⟨w.heap.size + 1, 0, none⟩ (.int .i64 0)).setCell ⟨w.heap.size + 1, 1, none⟩ (.slice none 0 0)).setCell ⟨w.heap.size + 1, 2, none⟩ (.int .i64 0)).setCell ⟨w.heap.size + 1, 3, none⟩ (.slice none 0 0)).setCell ⟨w.heap.size + 1, 4, none⟩ (.int .i64 0)).setCell ⟨w.heap.size + 1, 5, none⟩ (.slice none 0 0)).setCell ⟨w.heap.size + 1, 6, none⟩ (.int .i64 0)).setCell ⟨w.heap.size + 1, 7, none⟩ (.int .i64 0)).setCell ⟨w.heap.size + 1, 8, none⟩ (.int .i64 0)) (w.heap.size + 1) 57 #[.int .i64 0, .slice none 0 0, .int .i64 0, .slice none 0 0, .int .i64 0, .slice none 0 0, .int .i64 0, .int .i64 0, .int .i64 0] :=
      ((((((((HBR.out.set0 0 _).set0 1 _).set0 2 _).set0 3 _).set0 4 _).set0 5 _).set0 6 _).set0 7 _).set0 8 _
    have hK' := hko.same D _ HK.out rfl
    have hkw := KW.putObj (B := 0) (.deferred none) (Nat.zero_le _) hK' rfl
    have HB9 := hb9.kw hkw
    have e0 := HB9.cell 0
    have e1 := HB9.cell 1
    have e2 := HB9.cell 2
    have e3 := HB9.cell 3
    have e4 := HB9.cell 4
    have e5 := HB9.cell 5
    have e6 := HB9.cell 6
    have e7 := HB9.cell 7
    have e8 := HB9.cell 8
    simp at e0 e1 e2 e3 e4 e5 e6 e7 e8
    refine ⟨by simp, .inl ⟨_, _, rfl, run_takeDeferred hK', anV none 0 none 0 none 0 ⟨0, [], 0, [], 0, [], 0, 0, 0⟩, ?_, ?_⟩⟩
    · simp [results, Try.results65, go_sem, anV, e0, e1, e2, e3, e4, e5, e6, e7, e8]
    · refine ⟨HSB.out _ (hks9.putObj _ fun h => by have := hSn _ h; omega), none, 0, ?_, ?_⟩
      · unfold ansN; rw [HNO.out]
      · unfold ansN; rw [HNO.out]; exact ⟨Rd.nil _, fun ad e => by cases e⟩
  case stop =>
    rintro D cd k W hD hk ⟨rfl, j, hg, hno, L, cl, hbr, hL, hLN⟩ hks hK
    have HK := Lib.hid hK
    have HBR := Lib.hid hbr
    have HKS := Lib.hid hks
    have HL := Lib.hid hL
    have HST := Lib.hid (st_at hk hg hno)
    clear hg hno hbr hks hK hL
    obtain ⟨lb, hlb⟩ : ∃ lb, (cornersZ p).getD k [] = lb := ⟨_, rfl⟩
    rw [hlb] at HST HL HBR
    clear hlb
    go_wp2_with fail
    have hkw := KW.putObj (B := 0) (.deferred none) (Nat.zero_le _) HK.out rfl
    have HB9 := HBR.out.kw hkw
    have e0 := HB9.cell 0
    have e1 := HB9.cell 1
    have e2 := HB9.cell 2
    have e3 := HB9.cell 3
    have e4 := HB9.cell 4
    have e5 := HB9.cell 5
    have e6 := HB9.cell 6
    have e7 := HB9.cell 7
    have e8 := HB9.cell 8
    simp at e0 e1 e2 e3 e4 e5 e6 e7 e8
    refine ⟨by simp, .inl ⟨_, _, rfl, run_takeDeferred HK.out, anV none 0 L cl none 0 (notA p (lb, j)), ?_, ?_⟩⟩
    · simp [results, Try.results65, go_sem, anV, notA, e0, e1, e2, e3, e4, e5, e6, e7, e8]
    · refine ⟨HSB.out _ (HKS.out.putObj _ fun h => by have := hSn _ h; omega), L, cl, ?_, ?_⟩
      · unfold ansN; rw [HST.out]
      · unfold ansN; rw [HST.out]; exact ⟨HL.out.kw hkw, hLN⟩
end Go.Proofs.Ytjcdkbalhleeeab

namespace Go.Proofs.Ytjcdkbalhleeeab
open Go.RowKit Go.Sort


/-- The choice of the first k, and one more. -/
theorem out_step (xs : List Int) (l : List Nat) (less : List Int) (k : Nat) : outZ xs l less (k + 1) = if 0 < less.getD k 0 ∧ nearB xs l less k (outZ xs l less k) = true then some k else outZ xs l less k := outZ_succ xs l less k
theorem out_lt {xs : List Int} {l : List Nat} {less : List Int} : ∀ {n q : Nat}, outZ xs l less n = some q → q < n
  | 0, q, h => by simp [outZ] at h
  | n + 1, q, h => by
    rw [outZ_succ] at h
    split at h
    · simp at h; omega
    · have := out_lt h; omega

set_option maxRecDepth 100000 in
set_option maxHeartbeats 4000000 in
/-- A corner that goes, whose walk goes on or ends. -/
theorem next_on (A : Option Addr) (c : Nat) (A2 : Option Addr) (c2 : Nat) (p : PG) (L : Option Addr) (l : List Int) (cl : Nat) (w : World) (hp : Pg w A c A2 c2 p) (hr : Rd w L cl l) (he : lookE p l = 0) (hx : nonneg (lookC p l).xs = true) :
    Calls Try.prog 11 #[.agg #[.slice A p.costs.length c, .slice A2 p.rows.length c2], .slice L l.length cl] w (RetNx w p l) := by
  have HN := Lib.hid (show nextE p l = 0 by unfold nextE; rw [if_pos he, if_pos hx])
  have HE := Lib.hid he
  have HX := Lib.hid hx
  have HLN := Lib.hid (lookN_eq he)
  have HNE := Lib.hid (look_eq he)
  obtain ⟨_, _, _, hco⟩ := look_corn he
  have HCO := Lib.hid hco
  have HR := Lib.hid hco.hr
  clear he hx hco
  have HP := Lib.hid hp
  have HL := Lib.hid hr
  obtain ⟨⟨hl, hc, hsm, _⟩, ⟨hl2, hc2, hsm2, _⟩⟩ := hp
  obtain ⟨hll, hlc, hls, _⟩ := hr
  go_enter Try.func11, Try.ntmps11
  go_wp2_with fail
  have BP := Lib.hid (Blk.mk' w 25 #[.slice A p.costs.length c, .slice A2 p.rows.length c2])
  have HVW := Lib.hid ((by (repeat (any_goals (first | exact Below.refl _ _ | refine below_drewN ?_ _ | refine Below.drew ?_ | refine Below.alloc ?_ ?_ _ | refine Below.setCell ?_ ?_ _))); all_goals (first | omega | (simp; done) | (simp; omega))) : Below w.heap.size w (w.alloc (.cells #[.slice A p.costs.length c, .slice A2 p.rows.length c2] 25)))
  generalize (w.alloc (.cells #[.slice A p.costs.length c, .slice A2 p.rows.length c2] 25)) = V at *
  have zV := HVW.out.size
  have lP := BP.out.lt
  refine (corner_Look _ _ _ _ _ _ _ _ _ (HP.out.below HVW.out) (HL.out.below HVW.out)).mono ?_
  rw [HE.out]
  obtain ⟨cc, hC⟩ : ∃ cc, lookC p l = cc := ⟨_, rfl⟩
  rw [hC]
  have HC := Lib.hid hC
  clear hC
  rintro e w1 ⟨X, cx, Y, cy, G, cg, rfl, hX, hY, hG, hb1⟩
  have HCn := Lib.hid (CnN.mk hX hY hG)
  have H1 := Lib.hid hb1
  have z01 := hb1.size
  clear hX hY hG hb1
  go_upto_region 2 with fail
  have BC := Lib.hid (Blk.mk' w1 42 #[.slice X cc.xs.length cx, .int .i64 cc.xd, .slice Y cc.ys.length cy, .int .i64 cc.yd, .slice G cc.gs.length cg, .int .i64 cc.gd])
  have HWL := (Below.refl w1.heap.size w1).alloc (Nat.le_refl _) (.cells #[.slice X cc.xs.length cx, .int .i64 cc.xd, .slice Y cc.ys.length cy, .int .i64 cc.yd, .slice G cc.gs.length cg, .int .i64 cc.gd] 42)
  have HV2 := Lib.hid (H1.out.trans (HWL.mono z01))
  have HCW := Lib.hid (HCn.out.below HWL)
  have HBW := Lib.hid (HVW.out.trans (HV2.out.mono zV))
  clear HWL
  generalize (w1.alloc (.cells #[.slice X cc.xs.length cx, .int .i64 cc.xd, .slice Y cc.ys.length cy, .int .i64 cc.yd, .slice G cc.gs.length cg, .int .i64 cc.gd] 42)) = W at *
  have hco := HCO.out
  have hx := HX.out
  have hln := HLN.out
  rw [HC.out] at hco hx hln
  have HCC := Lib.hid hco
  have hp := (mayPB_iff.1 hco.hp).2.2.1
  have hp4 := (mayPB_iff.1 hco.hp).2.2.2.1
  have hp1 := (mayPB_iff.1 hco.hp).2.1
  have hlen := hco.lx
  have hlm : l.length = p.rows.length := by have := hco.hr.len; simpa [nats] using this
  have hgl : 0 < cc.gs.length := by rw [hco.lg]; omega
  have hxl : cc.xs.length ≤ 8 := by rw [hlen]; omega
  obtain ⟨x0, xr, hxs⟩ : ∃ x0 xr, cc.xs = x0 :: xr := List.exists_cons_of_length_pos (by rw [hlen]; omega)
  have HMin := Lib.hid (fun u (hu : Rd u X cx cc.xs) => by
    rw [hxs] at hu
    have := slices_Min X x0 xr cx u hu
    rw [← hxs] at this
    exact this)
  have hlt : 0 ≤ minL x0 xr := by
    refine minL_nonneg.2 ?_
    rw [hxs] at hx
    simp only [nonneg, List.all_cons, Bool.and_eq_true, decide_eq_true_eq] at hx
    exact hx
  have HLM := Lib.hid hlm
  clear hxs hlen hx hp hlm
  generalize minL x0 xr = mv at *
  have k0 : (W).cell? ⟨w1.heap.size, 0, none⟩ = some (.slice X cc.xs.length cx) := (BC.out.next (Below.refl _ _)).cell 0
  have k1 : (W).cell? ⟨w1.heap.size, 1, none⟩ = some (.int .i64 cc.xd) := (BC.out.next (Below.refl _ _)).cell 1
  have k2 : (W).cell? ⟨w1.heap.size, 2, none⟩ = some (.slice Y cc.ys.length cy) := (BC.out.next (Below.refl _ _)).cell 2
  have k3 : (W).cell? ⟨w1.heap.size, 3, none⟩ = some (.int .i64 cc.yd) := (BC.out.next (Below.refl _ _)).cell 3
  have k4 : (W).cell? ⟨w1.heap.size, 4, none⟩ = some (.slice G cc.gs.length cg) := (BC.out.next (Below.refl _ _)).cell 4
  have k5 : (W).cell? ⟨w1.heap.size, 5, none⟩ = some (.int .i64 cc.gd) := (BC.out.next (Below.refl _ _)).cell 5
  go_wp2_with fail
  refine (HMin.out _ HCW.out.x).mono ?_
  rintro e w2 ⟨rfl, rfl⟩
  rename World => W
  have HIN := Lib.hid (fun u (hu : Rd u G cg cc.gs) => walk_In X Y G cx cy cg cc.xs.length cc.ys.length cc.xd cc.yd cc.gd cc.gs u hu hgl)
  have HGM := Lib.hid (show inI cc.gs = inI (lookN p (nats l)).gs by rw [hln])
  clear hgl hln hco
  go_wp2_with fail
  refine (HIN.out _ HCW.out.g).mono ?_
  rintro e w2 ⟨rfl, hb2⟩
  have H2 := Lib.hid hb2
  have z02 := hb2.size
  clear hb2 k0 k1 k2 k3 k4 k5
  cases hin : inZ (lookN p (nats l)).gs with
  | none =>
    have HK := Lib.hid (show nxtZ p (nats l) = none ∧ kindZ p (nats l) = 1 by unfold nxtZ kindZ; rw [hin]; exact ⟨rfl, rfl⟩)
    have e0 : inI cc.gs = -1 := by rw [HGM.out]; unfold inI; rw [hin]
    rw [e0]
    clear hin e0
    go_wp2_with fail
    refine bodyPost_ret (v := .tuple #[.slice none 0 0, .int .i64 1, .int .i64 0]) ?_ ?_ ?_
    · simp [results, Try.results11, go_sem]
    · rfl
    exact RetNx.fin HN.out HK.out.1 HK.out.2 (HBW.out.trans (H2.out.mono HBW.out.size))
  | some r =>
    have e0 : inI cc.gs = (r : Int) := by rw [HGM.out]; unfold inI; rw [hin]
    rw [e0]
    have HI := Lib.hid hin
    have HRN := Lib.hid (in_new (nextE_ok HN.out) hin)
    have hr8 : r < 1000000 := by have := HRN.out.2.1; omega
    clear hin e0
    have p0 : w2.cell? ⟨w.heap.size, 0, none⟩ = some (.slice A p.costs.length c) := ((BP.out.next HV2.out).next H2.out).cell 0
    have p1 : w2.cell? ⟨w.heap.size, 1, none⟩ = some (.slice A2 p.rows.length c2) := ((BP.out.next HV2.out).next H2.out).cell 1
    go_wp2_with fail
    have HB2 := Lib.hid (HBW.out.trans (H2.out.mono HBW.out.size))
    refine (walk_Change _ _ _ _ _ _ _ _ r _ (HP.out.below HB2.out) (HL.out.below HB2.out) HE.out hr8).mono ?_
    rintro e w3 ⟨O, co, rfl, hO, hb3⟩
    have HO := Lib.hid hO
    have H3 := Lib.hid hb3
    have z03 := hb3.size
    have HB3 := Lib.hid (HB2.out.trans (hb3.mono HB2.out.size))
    have HC3 := Lib.hid ((HCW.out.below H2.out).below hb3)
    clear hO hb3 p0 p1
    obtain ⟨ls, hls⟩ : ∃ ls, ls = l.map fun j => (lookC (qOf p r) l).xs.getD j.toNat 0 := ⟨_, rfl⟩
    rw [← hls] at HO
    have HLE := Lib.hid (show ls = lessZ p (nats l) r by
      have hq := lookN_eq (p := qOf p r) (qOf_E HE.out r)
      rw [hls]
      unfold lessZ
      rw [hq]
      unfold nats
      rw [List.map_map]
      rfl)
    have hll' : ls.length = l.length := by rw [hls, List.length_map]
    have HLL := Lib.hid hll'
    have HBX := Lib.hid ((smallB_getD (l := cc.xs) (m := 1073741824) (by omega)).1 (mayB_parts HCC.out.mx).2.2.1)
    have HBL := Lib.hid (show ∀ j, -1073741824 ≤ ls.getD j 0 ∧ ls.getD j 0 ≤ 1073741824 from fun j => by
      obtain ⟨_, _, _, hq⟩ := look_corn (qOf_E HE.out r)
      have hb := (smallB_getD (l := (lookC (qOf p r) l).xs) (m := 1073741824) (by omega)).1 (mayB_parts hq.mx).2.2.1
      by_cases hj : j < l.length
      · have e : ls.getD j 0 = (lookC (qOf p r) l).xs.getD l[j].toNat 0 := by rw [hls]; simp [List.getD, hj]
        rw [e]; exact hb _
      · have e : ls.getD j 0 = 0 := by rw [List.getD, List.getElem?_eq_none (by omega)]; rfl
        rw [e]; omega)
    clear hls hll'
    go_wp2_with fail
    go_loopw [12, 45] (fun o i wx => ∃ k : Nat, k ≤ l.length ∧ i = .int .i64 k ∧ o = .int .i64 (outI (outZ cc.xs (nats l) ls k)) ∧ Below w3.heap.size w3 wx) (fun _ i _ => l.length - (intOf i).toNat)
    case atStart => exact ⟨0, by omega, rfl, rfl, Below.refl _ _⟩
    case round =>
      obtain ⟨k, hk, rfl, rfl, hbel⟩ := hrel
      rename World => U
      have HBE := Lib.hid hbel
      have HBU := Lib.hid (HB3.out.trans (hbel.mono HB3.out.size))
      have HCU := Lib.hid (HC3.out.below hbel)
      have HOU := Lib.hid (HO.out.below hbel)
      have HLU := Lib.hid (HL.out.below HBU.out)
      have HBC := Lib.hid ((BC.out.next (H2.out.trans (H3.out.mono z02))).next hbel)
      have q0 : U.cell? ⟨w1.heap.size, 0, none⟩ = some (.slice X cc.xs.length cx) := HBC.out.cell 0
      clear hbel
      by_cases hlt : k < l.length
      · have HNX : ∀ {i : Nat}, i < l.length → (nats l).getD i 0 < cc.xs.length := fun {i} hi => by
          rw [HCC.out.lx]; exact HR.out.lt _ (mem_getD.2 ⟨i, by simpa [nats] using hi, rfl⟩)
        have hNX := HNX hlt
        obtain ⟨al, rfl, hcl⟩ := HLU.out.natAt HNE.out hlt
        obtain ⟨ax, rfl, hcx⟩ := HCU.out.x.getD_at hNX
        obtain ⟨ao, rfl, hco⟩ := HOU.out.getD_at (k := k) (by rw [HLL.out]; exact hlt)
        have hacl := World.block_lt_of_cell? _ _ hcl
        have hacx := World.block_lt_of_cell? _ _ hcx
        have haco := World.block_lt_of_cell? _ _ hco
        have HST := Lib.hid (out_step cc.xs (nats l) ls k)
        have hi0 : (k : Int) < (l.length : Int) := by omega
        have hi1 : (((nats l).getD k 0 : Nat) : Int) < (cc.xs.length : Int) := by omega
        by_cases hlv : 0 < ls.getD k 0
        · have hd : decide (0 < ls.getD k 0) = true := by simpa using hlv
          cases ho : outZ cc.xs (nats l) ls k with
          | none =>
            have HSK := Lib.hid (show outI (outZ cc.xs (nats l) ls (k + 1)) = k by rw [HST.out, ho, if_pos ⟨hlv, rfl⟩]; rfl)
            rw [show outI none = (-1 : Int) from rfl]
            clear ho hlv
            generalize ls.getD k 0 = lv at *
            generalize (nats l).getD k 0 = jk at *
            go_wp2_with fail
            go_quiet (fail)
            go_wp2_with fail
            go_roundw
            case rel => exact ⟨k + 1, by omega, by go_num, by rw [HSK.out], by first | exact HBE.out | exact below_drewN HBE.out _⟩
            case measure => simp [intOf]; omega
          | some q =>
            have hqk := out_lt ho
            have hql : q < l.length := by omega
            have hNQ := HNX hql
            obtain ⟨al', hal', hcl'⟩ := HLU.out.natAt HNE.out hql
            injection hal' with hal'
            subst hal'
            obtain ⟨ax', hax', hcx'⟩ := HCU.out.x.getD_at hNQ
            injection hax' with hax'
            subst hax'
            obtain ⟨ao', hao', hco'⟩ := HOU.out.getD_at (k := q) (by rw [HLL.out]; exact hql)
            injection hao' with hao'
            subst hao'
            have hacl' := World.block_lt_of_cell? _ _ hcl'
            have hacx' := World.block_lt_of_cell? _ _ hcx'
            have haco' := World.block_lt_of_cell? _ _ hco'
            have hi2 : (q : Int) < (l.length : Int) := by omega
            have hi3 : (((nats l).getD q 0 : Nat) : Int) < (cc.xs.length : Int) := by omega
            obtain ⟨m1, m2⟩ := mul_bound (cc.xs.getD ((nats l).getD k 0) 0) (ls.getD q 0) 1073741824 1073741824 (HBX.out _).1 (HBX.out _).2 (HBL.out _).1 (HBL.out _).2
            obtain ⟨m3, m4⟩ := mul_bound (cc.xs.getD ((nats l).getD q 0) 0) (ls.getD k 0) 1073741824 1073741824 (HBX.out _).1 (HBX.out _).2 (HBL.out _).1 (HBL.out _).2
            have w1' : IntKind.i64.wrap (cc.xs.getD ((nats l).getD k 0) 0 * ls.getD q 0) = cc.xs.getD ((nats l).getD k 0) 0 * ls.getD q 0 := IntWalk.i64_in _ (by omega)
            have w2' : IntKind.i64.wrap (cc.xs.getD ((nats l).getD q 0) 0 * ls.getD k 0) = cc.xs.getD ((nats l).getD q 0) 0 * ls.getD k 0 := IntWalk.i64_in _ (by omega)
            clear m1 m2 m3 m4
            by_cases hnr : cc.xs.getD ((nats l).getD k 0) 0 * ls.getD q 0 < cc.xs.getD ((nats l).getD q 0) 0 * ls.getD k 0
            · have hd2 : decide (cc.xs.getD ((nats l).getD k 0) 0 * ls.getD q 0 < cc.xs.getD ((nats l).getD q 0) 0 * ls.getD k 0) = true := by simpa using hnr
              have HSK := Lib.hid (show outI (outZ cc.xs (nats l) ls (k + 1)) = k by rw [HST.out, ho, if_pos ⟨hlv, hd2⟩]; rfl)
              rw [show outI (some q) = (q : Int) from rfl]
              clear ho hlv hnr
              generalize ls.getD k 0 = lv at *
              generalize ls.getD q 0 = lq at *
              generalize cc.xs.getD ((nats l).getD k 0) 0 = xv at *
              generalize cc.xs.getD ((nats l).getD q 0) 0 = xq at *
              generalize (nats l).getD k 0 = jk at *
              generalize (nats l).getD q 0 = jq at *
              go_wp2_with fail
              go_quiet (fail)
              go_wp2_with fail
              go_roundw
              case rel => exact ⟨k + 1, by omega, by go_num, by rw [HSK.out], by first | exact HBE.out | exact below_drewN HBE.out _⟩
              case measure => simp [intOf]; omega
            · have hd2 : decide (cc.xs.getD ((nats l).getD k 0) 0 * ls.getD q 0 < cc.xs.getD ((nats l).getD q 0) 0 * ls.getD k 0) = false := by simpa using hnr
              have HSK := Lib.hid (show outI (outZ cc.xs (nats l) ls (k + 1)) = q by rw [HST.out, ho, if_neg (fun w => by have q2 := hd2.symm.trans (show decide (_ < _) = true from w.2); cases q2)]; rfl)
              rw [show outI (some q) = (q : Int) from rfl]
              clear ho hlv hnr
              generalize ls.getD k 0 = lv at *
              generalize ls.getD q 0 = lq at *
              generalize cc.xs.getD ((nats l).getD k 0) 0 = xv at *
              generalize cc.xs.getD ((nats l).getD q 0) 0 = xq at *
              generalize (nats l).getD k 0 = jk at *
              generalize (nats l).getD q 0 = jq at *
              go_wp2_with fail
              go_quiet (fail)
              go_wp2_with fail
              go_roundw
              case rel => exact ⟨k + 1, by omega, by go_num, by rw [HSK.out], by first | exact HBE.out | exact below_drewN HBE.out _⟩
              case measure => simp [intOf]; omega
        · have hd : decide (0 < ls.getD k 0) = false := by simpa using hlv
          have HSK := Lib.hid (show outI (outZ cc.xs (nats l) ls (k + 1)) = outI (outZ cc.xs (nats l) ls k) by rw [HST.out, if_neg (fun w => hlv w.1)])
          clear hlv
          generalize outI (outZ cc.xs (nats l) ls k) = ov at *
          generalize ls.getD k 0 = lv at *
          generalize (nats l).getD k 0 = jk at *
          go_wp2_with fail
          go_quiet (fail)
          go_wp2_with fail
          go_roundw
          case rel => exact ⟨k + 1, by omega, by go_num, by rw [HSK.out], by first | exact HBE.out | exact below_drewN HBE.out _⟩
          case measure => simp [intOf]; omega
      · obtain rfl : k = l.length := by omega
        have HOZ := Lib.hid (show outZ (lookN p (nats l)).xs (nats l) (lessZ p (nats l) r) (nats l).length = outZ cc.xs (nats l) ls l.length by
          rw [HLN.out, HC.out, ← HLE.out, show (nats l).length = l.length by simp [nats]])
        cases ho : outZ cc.xs (nats l) ls l.length with
        | none =>
          have HK := Lib.hid (show nxtZ p (nats l) = none ∧ kindZ p (nats l) = 2 by unfold nxtZ kindZ; rw [HI.out]; simp only []; rw [HOZ.out, ho]; exact ⟨rfl, rfl⟩)
          rw [show outI none = (-1 : Int) from rfl]
          clear ho
          go_wp2_with fail
          refine bodyPost_ret (v := .tuple #[.slice none 0 0, .int .i64 2, .int .i64 0]) ?_ ?_ ?_
          · simp [results, Try.results11, go_sem]
          · rfl
          exact RetNx.fin HN.out HK.out.1 HK.out.2 HBU.out
        | some q =>
          have hql := out_lt ho
          have HK := Lib.hid (show nxtZ p (nats l) = some (insN ((nats l).eraseIdx q) r) by unfold nxtZ; rw [HI.out]; simp only []; rw [HOZ.out, ho])
          rw [show outI (some q) = (q : Int) from rfl]
          clear ho
          obtain ⟨bL, oL, rfl, hLc⟩ := HLU.out.plain (by omega)
          have zU := HBU.out.size
          obtain ⟨le, hle⟩ : ∃ le, le = l.eraseIdx q := ⟨_, rfl⟩
          have HLE2 := Lib.hid hle
          have hlel : le.length = l.length - 1 := by rw [hle, List.length_eraseIdx, if_pos hql]
          obtain ⟨n1, hn1⟩ : ∃ n1, l.length = n1 + 1 := ⟨l.length - 1, by omega⟩
          have HCL := Lib.hid (by
            have := slices_Clone bL oL l.length cl l U (Nat.le_refl _) (by omega) (fun j hj => hLc j hj)
            rw [hn1] at this
            exact this)
          clear hLc
          have HN1 := Lib.hid hn1
          have HLEL := Lib.hid (show le.length = n1 by omega)
          clear hle hlel
          have HDEL := Lib.hid (fun (g cap : Nat) (u : World) (h : u.ownsRow U.heap.size 3 1 (.slice (some ⟨g, 0, none⟩) (n1 + 1) cap) (n1 + 1) (l.map (Value.int .i64))) (hcap : n1 + 1 ≤ cap ∧ cap ≤ 9223372036854775807) => by
            have := slices_Delete g 0 cap q (q + 1) l u (own_holds h hn1) (by omega) hcap.2 (by omega) (by omega)
            rw [show l.length - (q + 1 - q) = n1 by omega, hn1] at this
            exact this)
          have hq1 : q ≤ n1 := by omega
          rw [hn1] at hls ⊢
          clear hn1 hql hk
          go_wp2_with fail
          refine HCL.out.mono ?_
          rintro e w5 ⟨v5, rfl, hown5, _, hb5⟩
          rw [show l.take (n1 + 1) = l from List.take_of_length_le (by rw [HN1.out]; exact Nat.le_refl _)] at hown5
          obtain ⟨g5, cap5, rfl⟩ := own_some hown5 (by omega)
          have hcap5 := own_caps hown5
          have HD5 := Lib.hid (HDEL.out g5 cap5 w5 hown5 hcap5)
          have HO5 := Lib.hid hown5
          have HB5 := Lib.hid hb5
          have z5 := hb5.size
          have lg5 := (hown5.lt g5 rfl)
          clear hown5 hb5
          go_wp2_with fail
          refine HD5.out.mono ?_
          rintro e w6 ⟨rfl, qq, rfl⟩
          obtain ⟨ts, hts⟩ : ∃ ts, ts = l.take q ++ l.drop (q + 1) ++ List.replicate (q + 1 - q) (0 : Int) := ⟨_, rfl⟩
          have htl : ts.length = n1 + 1 := by rw [hts]; have := HN1.out; simp; omega
          have htt : ts.take n1 = le := by
            have hl2 : (l.take q ++ l.drop (q + 1)).length = n1 := by have := HN1.out; simp; omega
            rw [hts, List.take_append_of_le_length (by omega), List.take_of_length_le (by omega), HLE2.out, List.eraseIdx_eq_take_drop_succ]
          rw [← hts]
          have hown6 := own_putRow (q := qq) (m := n1) HO5.out htl (by omega)
          rw [htt] at hown6
          have hb6 : Below U.heap.size w5 (putRow (Value.int .i64) (Sort.ahead w5 qq) g5 0 ts.toArray) := putRow_below lg5.1 z5
          have HO6 := Lib.hid hown6
          have HB6 := Lib.hid (HB5.out.trans hb6)
          clear hown6 hb6 hts htl htt
          generalize putRow (Value.int .i64) (Sort.ahead w5 qq) g5 0 ts.toArray = w6 at *
          have z6 := HB6.out.size
          go_wp2_with (at_builtin; refine list_app1 rfl (.tmp 96) (.tmp 98) _ _ _ 8 und_intS1 inf_intS1 rfl rfl U.heap.size (.slice (some ⟨g5, 0, none⟩) n1 cap5) n1 _ _ rfl (HO6.out.alloc _) _ 1 rfl (cell_new1 _ _ _) rfl (by unfold maxLen; omega) (by omega) (by simp; omega) ?_; intro g7 cap7 w7 hown7 hg7 hat7 hlt7; refine Hid.out ?_)
          refine Lib.hid ?_
          have hown7' : w7.ownsRow U.heap.size 3 1 (.slice (some ⟨g7, 0, none⟩) (n1 + 1) cap7) (n1 + 1) ((le ++ [(r : Int)]).map (Value.int .i64)) := by rw [List.map_append]; exact hown7
          have HB7 := Lib.hid ((HB6.out.alloc z6 _).grown hg7 (by simp; omega) (fun j e => by cases e; exact lg5.1))
          have hal : (le ++ [(r : Int)]).length = n1 + 1 := by rw [List.length_append, HLEL.out]; rfl
          have HS := Lib.hid (by
            have := slices_Sort g7 0 cap7 (le ++ [(r : Int)]) w7 (own_holds hown7' hal) hlt7 (by rw [hal]; omega)
            rw [hal] at this
            exact this)
          have HO7 := Lib.hid hown7'
          have HAL := Lib.hid hal
          clear hown7 hown7' hg7 hat7 hal
          go_wp2_with fail
          refine HS.out.mono ?_
          rintro e w8 ⟨rfl, q8, os8, rfl⟩
          have hin : ints ((nats l).eraseIdx q) = le := by rw [← ints_erase, ← HNE.out, HLE2.out]
          have hsrt : (le ++ [(r : Int)]).mergeSort (fun x y => decide (x ≤ y)) = ints (insN ((nats l).eraseIdx q) r) := by
            rw [← hin]
            exact sort_ins (HR.out.pw.sublist (List.eraseIdx_sublist _ _)) (fun h => HRN.out.1 (List.mem_of_mem_eraseIdx h))
          rw [hsrt]
          have hln : (insN ((nats l).eraseIdx q) r).length = n1 + 1 := by
            rw [length_insN, List.length_eraseIdx, if_pos (by rw [show (nats l).length = l.length by simp [nats], HN1.out]; omega), show (nats l).length = l.length by simp [nats], HN1.out]; rfl
          have hown8 := own_sorted (q := q8) (os := os8) (ts := ints (insN ((nats l).eraseIdx q) r)) HO7.out HAL.out (by rw [HAL.out]; unfold ints; rw [List.length_map]; exact hln)
          have hb8 : Below U.heap.size U (grow (putRow (Value.int .i64) (Sort.ahead w7 q8) g7 0 (ints (insN ((nats l).eraseIdx q) r)).toArray) os8) := HB7.out.grown (grownBy_sortedI _) HB7.out.size (fun j e => by cases e; exact (HO7.out.lt g7 rfl).1)
          have HO8 := Lib.hid hown8
          have HB8 := Lib.hid hb8
          have HLN8 := Lib.hid hln
          clear hown8 hb8 hln hsrt hin
          generalize grow (putRow (Value.int .i64) (Sort.ahead w7 q8) g7 0 (ints (insN ((nats l).eraseIdx q) r)).toArray) os8 = w8 at *
          go_wp2_with fail
          refine bodyPost_ret (v := .tuple #[.slice (some ⟨g7, 0, none⟩) (n1 + 1) cap7, .int .i64 0, .int .i64 0]) ?_ ?_ ?_
          · simp [results, Try.results11, go_sem]
          · rfl
          refine ⟨HBU.out.trans (HB8.out.mono zU), fun h => absurd HN.out h, fun _ => ⟨fun h => ?_, fun l' h => ?_⟩⟩
          · rw [HK.out] at h; cases h
          · rw [HK.out] at h
            injection h with h
            subst h
            exact ⟨g7, cap7, by rw [HLN8.out], by rw [HLN8.out]; exact own_weak HO8.out zU⟩
end Go.Proofs.Ytjcdkbalhleeeab

namespace Go.Proofs.Ytjcdkbalhleeeab
open Go.RowKit

theorem und_intss : Try.prog.underlying 27 = some (.slice 26) := by kernel_rfl
theorem inf_intS : (Try.prog.info? 26).map (fun i => (i.zero, i.size, i.bytes)) = some (some (.slice none 0 0), 1, 24) := by kernel_rfl

/-- A slice of slices reads as a list of lists. -/
structure Ls (w : World) (A : Option Addr) (c : Nat) (ls : List (List Int)) : Prop where
  le : ls.length ≤ c
  cap : c ≤ 9223372036854775807
  small : ls.length ≤ 100000
  cells : 0 < ls.length → ∃ ad, A = some ad ∧ ∀ j, j < ls.length → ∃ A' c', w.cell? (ad.add j) = some (.slice A' (ls.getD j []).length c') ∧ Rd w A' c' (ls.getD j [])
section
variable {w w' : World} {A : Option Addr} {c : Nat} {ls : List (List Int)}
theorem Ls.below (h : Ls w A c ls) (hb : Below w.heap.size w w') : Ls w' A c ls :=
  ⟨h.le, h.cap, h.small, fun h0 => by
    obtain ⟨ad, e, hc⟩ := h.cells h0
    exact ⟨ad, e, fun j hj => by
      obtain ⟨A', c', h1, h2⟩ := hc j hj
      exact ⟨A', c', (hb.cell (World.block_lt_of_cell? _ _ h1)).trans h1, h2.below hb⟩⟩⟩
theorem Ls.nil (w : World) : Ls w none 0 [] := ⟨by simp, by omega, by simp, fun h => by simp at h⟩
/-- One element of it. -/
theorem Ls.at_ (h : Ls w A c ls) {k : Nat} (hk : k < ls.length) : ∃ ad A' c', A = some ad ∧ w.cell? (ad.add k) = some (.slice A' (ls.getD k []).length c') ∧ Rd w A' c' (ls.getD k []) := by
  obtain ⟨ad, e, hc⟩ := h.cells (by omega)
  obtain ⟨A', c', h1, h2⟩ := hc k hk
  exact ⟨ad, A', c', e, h1, h2⟩
end

/-- A slice of slices that the call makes, of the first k. -/
structure LsB (w : World) (base : Nat) (v : Value) (k : Nat) (As : Nat → Option Addr) (cs : Nat → Nat) (f : Nat → List Int) : Prop where
  own : w.ownsRow base 26 1 v k ((List.range k).map fun i => Value.slice (As i) (f i).length (cs i))
  rd : ∀ i, i < k → Rd w (As i) (cs i) (f i)
  ne : ∀ i, i < k → ∀ ad, As i = some ad → v.ownBlock ≠ some ad.block
section
variable {w w' : World} {base k : Nat} {v : Value} {As : Nat → Option Addr} {cs : Nat → Nat} {f : Nat → List Int}
theorem LsB.nil (w : World) (base : Nat) (As : Nat → Option Addr) (cs : Nat → Nat) (f : Nat → List Int) : LsB w base (.slice none 0 0) 0 As cs f :=
  ⟨World.ownsRow_nil _ _ _ _, fun i hi => by omega, fun i hi => by omega⟩
theorem LsB.below (h : LsB w base v k As cs f) (hb : Below w.heap.size w w') : LsB w' base v k As cs f :=
  ⟨own_below h.own hb, fun i hi => (h.rd i hi).below hb, h.ne⟩
theorem Rd.grown' {A : Option Addr} {c : Nat} {l : List Int} {row : Option Nat} (h : Rd w A c l) (hg : w.grownBy w' row) (hr : ∀ ad, A = some ad → row ≠ some ad.block) : Rd w' A c l :=
  h.same fun ad e hlt => hg.block _ hlt fun q => hr ad e q.symm
/-- One more. -/
theorem LsB.push (h : LsB w base v k As cs f) {A : Option Addr} {c o cap : Nat} (hr : Rd w A c (f k)) (hn : ∀ ad, A = some ad → v.ownBlock ≠ some ad.block) (hlt : ∀ ad, A = some ad → ad.block < w.heap.size)
    (hlts : ∀ i, i < k → ∀ ad, As i = some ad → ad.block < w.heap.size)
    (hown : w'.ownsRow base 26 1 (.slice (some ⟨o, 0, none⟩) (k + 1) cap) (k + 1) (((List.range k).map fun i => Value.slice (As i) (f i).length (cs i)) ++ [.slice A (f k).length c]))
    (hg : w.grownBy w' v.ownBlock) (hat : v.ownBlock = some o ∨ o = w.heap.size) :
    LsB w' base (.slice (some ⟨o, 0, none⟩) (k + 1) cap) (k + 1) (fun i => if i = k then A else As i) (fun i => if i = k then c else cs i) f := by
  refine ⟨?_, fun i hi => ?_, fun i hi ad e => ?_⟩
  · have e1 : ((List.range (k + 1)).map fun i => Value.slice (if i = k then A else As i) (f i).length (if i = k then c else cs i)) = ((List.range k).map fun i => Value.slice (As i) (f i).length (cs i)) ++ [.slice A (f k).length c] := by
      rw [List.range_succ, List.map_append]
      congr 1
      · apply List.map_congr_left
        intro i hi
        have : i < k := by simpa using hi
        rw [if_neg (by omega), if_neg (by omega)]
      · simp
    show w'.ownsRow base 26 1 _ _ ((List.range (k + 1)).map fun i => Value.slice (if i = k then A else As i) (f i).length (if i = k then c else cs i))
    rw [e1]; exact hown
  · by_cases e : i = k
    · subst e; simp only [if_true]; exact hr.grown' hg hn
    · simp only [e, if_false]; exact (h.rd i (by omega)).grown' hg (h.ne i (by omega))
  · have key : ∀ ad : Addr, ad.block < w.heap.size → v.ownBlock ≠ some ad.block → (Value.slice (some ⟨o, 0, none⟩) (k + 1) cap).ownBlock ≠ some ad.block := by
      intro ad h1 h2 q
      have q' : o = ad.block := Option.some.inj q
      rcases hat with w | w
      · exact h2 (w.trans q)
      · omega
    by_cases e' : i = k
    · subst e'; simp only [if_true] at e; exact key ad (hlt ad e) (hn ad e)
    · simp only [e', if_false] at e; exact key ad (hlts i (by omega) ad e) (h.ne i (by omega) ad e)
theorem LsB.read {g cap : Nat} (h : LsB w base (.slice (some ⟨g, 0, none⟩) k cap) k As cs f) (hk : k ≤ 100000) : Ls w (some ⟨g, 0, none⟩) cap ((List.range k).map f) := by
  have hc := own_caps h.own
  refine ⟨by simpa using hc.1, hc.2, by simpa using hk, fun _ => ⟨_, rfl, fun j hj => ?_⟩⟩
  have hj' : j < k := by simpa using hj
  have e : ((List.range k).map f).getD j [] = f j := by simp [List.getD, hj']
  rw [e]
  refine ⟨As j, cs j, ?_, h.rd j hj'⟩
  have h1 := own_cell' h.own j (.slice (As j) (f j).length (cs j)) (by simp [hj'])
  have e1 : (⟨g, 0, none⟩ : Addr).add j = ⟨g, j, none⟩ := by unfold Addr.add; split <;> simp_all
  rw [e1]; exact h1
end
section
variable {ops : Array Oper} {rest : List Oper} {o : Oper} {a : Act} {w : World} {Q : Exit → Act → World → Prop}
set_option maxRecDepth 100000 in
/-- One more slice behind. -/
theorem list_appS (hgd : o.guard = none) (s x : Operand) (ho : o.op = .call { callee := .builtin .append, args := #[s, x], argTypes := #[27, 27] })
    (base : Nat) (v : Value) (n : Nat) (xs : List Value) (u : Value) (hs : a.eval s = v) (hown : w.ownsRow base 26 1 v n xs)
    (b c : Nat) (hx : a.eval x = .slice (some ⟨b, 0, none⟩) 1 c) (hb : w.cell? ⟨b, 0, none⟩ = some u) (hu : u.oneCell' = true) (hn : n ≤ 100000) (hbase : base ≤ w.heap.size)
    (h : ∀ g cap w', w'.ownsRow base 26 1 (.slice (some ⟨g, 0, none⟩) (n + 1) cap) (n + 1) (xs ++ [u]) → w.grownBy w' v.ownBlock → (v.ownBlock = some g ∨ g = w.heap.size) → g < w'.heap.size → wpList Try.prog ops Q rest (a.put o.dst (.slice (some ⟨g, 0, none⟩) (n + 1) cap)) w') :
    wpList Try.prog ops Q (o :: rest) a w :=
  list_app1 hgd s x 27 26 (.slice none 0 0) 24 und_intss inf_intS rfl ho base v n xs u hs hown b c hx hb hu (by unfold maxLen; omega) (by omega) hbase h
end
end Go.Proofs.Ytjcdkbalhleeeab
