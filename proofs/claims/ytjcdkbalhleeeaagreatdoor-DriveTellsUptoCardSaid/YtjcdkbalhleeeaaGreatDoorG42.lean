/-
  Contracts of functions and plain laws that later parts of the proof use. The conditions stand in each theorem.
-/
import Derived.Test.YtjcdkbalhleeeaaGreatDoorG23
import Derived.Test.YtjcdkbalhleeeaaGreatDoorG41
import Derived.Test.YtjcdkbalhleeeaaGreatDoorG39
import Derived.Test.YtjcdkbalhleeeaaGreatDoorG11
import Derived.LoopIn
import Derived.Test.YtjcdkbalhleeeaaGreatDoorG06
namespace Go.Proofs.YtjcdkbalhleeeaaGreatDoor
open Go.Proofs Go.Shelf Go.RowKit Go.Lib
theorem sw_pred (w : World) : PredAt Tryz.prog 54 #[] (Value.int .i64) (fun x : Int => decide (x < -400) || decide (400 < x)) w := fun W x hb => by
 show Calls Tryz.prog 54 #[.int .i64 x] W _
 by_cases h1 : x < -400
 ·go_enter Tryz.func54, Tryz.ntmps54
  go_wp2
  all_goals (go_ret; exact ⟨by simp_all, 0, rfl⟩)
 ·by_cases h2 : 400 < x
  ·go_enter Tryz.func54, Tryz.ntmps54
   go_wp2
   all_goals (go_ret; exact ⟨by simp_all, 0, rfl⟩)
  ·go_enter Tryz.func54, Tryz.ntmps54
   go_wp2
   all_goals (go_ret; exact ⟨by simp_all, 0, rfl⟩)
theorem any_small (b : List Int) : (b.any fun x => decide (x < -400) || decide (400 < x)) = !smallB 400 b := by
 unfold smallB
 induction b with
 | nil => rfl
 | cons x l ih =>
  rw [List.any_cons, List.all_cons, ih, Bool.not_and, Bool.not_and]
  congr 1
  by_cases h1 : x < -400 <;> by_cases h2 : 400 < x <;> simp [h1, h2] <;> omega
theorem con_small (B : Option Addr) (b : List Int) (cb : Nat) (w : World) (hb : Rd w B cb b) :
    Calls Tryz.prog 53 #[.slice B b.length cb, .func (.func 54) #[] #[]] w fun e w' => e = .returned (.bool (!smallB 400 b)) ∧ Below w.heap.size w w' := by
 have eg : ∀ args w, (callFunc 54 args).run Tryz.prog w = .ok (.enter 54 args) w := enters_of Tryz.func54 (by kernel_rfl) rfl
 by_cases h0 : 0 < b.length
 ·obtain ⟨g, off, rfl, hc⟩ := hb.plain h0
  have := AnyE.slices_ContainsFunc Tryz.con8 (Value.int .i64) (fun x : Int => decide (x < -400) || decide (400 < x)) 54 #[] eg g off b.length cb b w (sw_pred w) (Nat.le_refl _) (by have := hb.small; omega) (fun j hj => by rw [hc j hj]; simp [List.getD, List.getElem?_eq_getElem hj])
  rw [List.take_length, any_small] at this
  refine this.mono ?_
  rintro e w' ⟨rfl, q, rfl⟩
  exact ⟨rfl, below_drewN (Below.refl _ _) _⟩
 ·have hb0 : b = [] := List.eq_nil_of_length_eq_zero (by omega)
  subst hb0
  refine (AnyE.slices_ContainsFunc_empty Tryz.con8 B cb _ w).mono ?_
  rintro e w' ⟨rfl, rfl⟩
  exact ⟨rfl, Below.refl _ _⟩
def swpE (p : PG) (b : List Int) : Int := if mayPB p = false then 2 else if manyB b p.costs.length 400 = false then 1 else if ((cornersZ p).any fun l => nonneg (lookN p l).xs) = false then 4 else 0
def swpL (p : PG) (b : List Int) : List PC := if swpE p b = 0 then ansP (grpF undP ovrP p b (cornersZ p)) else []
def PcRd (w : World) (base : Nat) (v : Value) (L : List PC) : Prop :=
 (L = [] ∧ ∃ A c, v = .slice A 0 c) ∨ (0 < L.length ∧ ∃ g cap, v = .slice (some ⟨g, 0, none⟩) L.length cap ∧ base ≤ g ∧ g < w.heap.size ∧ L.length ≤ cap ∧ cap ≤ 9223372036854775807 ∧ ∀ (i : Nat) (hi : i < L.length), PcAt w g i L[i])
theorem PcOwn.rd {w : World} {base : Nat} {v : Value} {L : List PC} (h : PcOwn w base v L) : PcRd w base v L := by
 by_cases h0 : 0 < L.length
 ·right
  obtain ⟨g, cap, e, h1, h2, h3, h4, hc⟩ := h.some' h0
  refine ⟨h0, g, cap, e, h1, h2, h3, h4, fun i hi => ?_⟩
  have hc' := hc i hi
  exact ⟨hc' 0 _ rfl, hc' 1 _ rfl, hc' 2 _ rfl, hc' 3 _ rfl, hc' 4 _ rfl, hc' 5 _ rfl, hc' 6 _ rfl, hc' 7 _ rfl, hc' 8 _ rfl, hc' 9 _ rfl⟩
 ·left
  have hL : L = [] := List.eq_nil_of_length_eq_zero (by omega)
  subst hL
  refine ⟨rfl, ?_⟩
  rcases h.2 with ⟨e, _⟩ | ⟨g, cap, cur, e, _⟩
  ·exact ⟨_, _, e⟩
  ·exact ⟨_, _, e⟩
theorem PcRd.below {w w' : World} {base : Nat} {v : Value} {L : List PC} (h : PcRd w base v L) (hb : Below w.heap.size w w') : PcRd w' base v L := by
 rcases h with h | ⟨h0, g, cap, e, h1, h2, h3, h4, hc⟩
 ·exact .inl h
 ·exact .inr ⟨h0, g, cap, e, h1, Nat.lt_of_lt_of_le h2 hb.size, h3, h4, fun i hi => (hc i hi).below hb⟩
theorem PcRd.mono {w : World} {base b' : Nat} {v : Value} {L : List PC} (h : PcRd w base v L) (hb : b' ≤ base) : PcRd w b' v L := by
 rcases h with h | ⟨h0, g, cap, e, h1, h2⟩
 ·exact .inl h
 ·exact .inr ⟨h0, g, cap, e, by omega, h2⟩
def RetSw (w : World) (L : List PC) (er : Int) (e : Ending) (w' : World) : Prop := ∃ v, e = .returned (.tuple #[v, .int .i64 er]) ∧ PcRd w' w.heap.size v L ∧ Below w.heap.size w w'
theorem joinG_len {lo hi : EN → EN → EN} {x : PC} : ∀ L : List PC, (joinG lo hi L x).length ≤ L.length + 1
 | [] => by simp [joinG]
 | y :: L => by
  rw [joinG]
  split
  ·simp
  ·have := joinG_len (lo := lo) (hi := hi) (x := x) L
   simp only [List.length_cons]; omega
theorem grpF_len {lo hi : EN → EN → EN} {p : PG} {b : List Int} : ∀ (ls : List (List Nat)), (grpF lo hi p b ls).length ≤ ls.length := by
 have key : ∀ (ls : List (List Nat)) (a : List PC), (ls.foldl (fun a l => if goodB p b l = true then joinG lo hi a (pcZ p b l) else a) a).length ≤ a.length + ls.length := by
  intro ls
  induction ls with
  | nil => intro a; simp
  | cons l ls ih =>
   intro a
   rw [List.foldl_cons]
   refine Nat.le_trans (ih _) ?_
   split
   ·have := joinG_len (lo := lo) (hi := hi) (x := pcZ p b l) a
    simp only [List.length_cons]; omega
   ·simp only [List.length_cons]; omega
 intro ls
 simpa [grpF] using key ls []
theorem corners_few {p : PG} (h : mayPB p = true) : (cornersZ p).length ≤ 256 := by
 obtain ⟨_, h1, _, h2, _⟩ := mayPB_iff.1 h
 unfold cornersZ
 refine Nat.le_trans (List.length_filter_le _ _) ?_
 rw [List.length_map, List.length_range]
 exact Nat.pow_le_pow_right (n := 2) (by decide) (show p.costs.length + p.rows.length ≤ 8 by omega)
theorem prog_sortable {p : PG} {b : List Int} (hb : By p b) {Q L : List PC} (hQ : Grp p b Q) (hL : L.Perm (Q.filter fun x => !pointB x)) : Sortable L := by
 have mem : ∀ x ∈ L, x ∈ Q ∧ pointB x = false := fun x hx => by
  have := hL.mem_iff.1 hx
  rw [List.mem_filter] at this
  simpa using this
 exact ⟨hL.nodup_iff.2 ((grp_nodup hQ).sublist List.filter_sublist), fun x hx y hy hne => bef_total hb hQ (mem x hx).1 (mem y hy).1 (mem x hx).2 (mem y hy).2 hne,
  fun x hx y hy z hz h1 h2 => bef_trans hb hQ (mem x hx).1 (mem y hy).1 (mem z hz).1 h1 h2, fun x hx => (grp_fine hb hQ (mem x hx).1).1⟩
theorem PcRd.kw {w w' : World} {base B : Nat} {v : Value} {L : List PC} (h : PcRd w base v L) (hk : KW B w w') : PcRd w' base v L := by
 rcases h with h | ⟨h0, g, cap, e, h1, h2, h3, h4, hc⟩
 ·exact .inl h
 ·exact .inr ⟨h0, g, cap, e, h1, Nat.lt_of_lt_of_le h2 hk.size, h3, h4, fun i hi => ⟨hk.cell (hc i hi).c0, hk.cell (hc i hi).c1, hk.cell (hc i hi).c2, hk.cell (hc i hi).c3, hk.cell (hc i hi).c4, hk.cell (hc i hi).c5, hk.cell (hc i hi).c6, hk.cell (hc i hi).c7, hk.cell (hc i hi).c8, hk.cell (hc i hi).c9⟩⟩
def goesK (p : PG) (k : Nat) : Bool := ((cornersZ p).take k).any fun l => nonneg (lookN p l).xs
theorem goesK_succ {p : PG} {k : Nat} (hk : k < (cornersZ p).length) : goesK p (k + 1) = (goesK p k || nonneg (lookN p ((cornersZ p).getD k [])).xs) := by
 unfold goesK
 rw [List.take_succ_eq_append_getElem hk, List.any_append]
 simp [List.getD, List.getElem?_eq_getElem hk]
theorem goesK_all {p : PG} : goesK p (cornersZ p).length = (cornersZ p).any fun l => nonneg (lookN p l).xs := by unfold goesK; rw [List.take_length]
end Go.Proofs.YtjcdkbalhleeeaaGreatDoor

namespace Go.Proofs.YtjcdkbalhleeeaaGreatDoor
open Go.Proofs Go.Shelf Go.RowKit Go.Lib
theorem below_put {n D : Nat} {w X : World} (h : Below n w X) (hD : n ≤ D) (hn : n ≤ w.heap.size) (o : Obj) : Below n w (X.putObj D o) :=
 ((KS.of_below (S := fun i => i < n) (W := X) (Below.refl _ X)).putObj o (by omega)).below (fun i hi => hi) (Nat.le_trans hn h.size) |> fun k => h.trans k
theorem pc_new (W : World) (y : PC) : ∀ (j : Nat) (u : Value), (pcC y)[j]? = some u → (W.alloc (.cells #[.bool y.fr.op, .int .i64 y.fr.n, .int .i64 y.fr.d, .bool y.to.op, .int .i64 y.to.n, .int .i64 y.to.d, .int .i64 y.bn, .int .i64 y.bd, .int .i64 y.sn, .int .i64 y.sd] 79)).cell? ((⟨W.heap.size, 0, none⟩ : Addr).add j) = some u := fun j u h => by
 have e1 : ∀ q, (⟨W.heap.size, 0, none⟩ : Addr).add q = ⟨W.heap.size, q, none⟩ := fun q => by unfold Addr.add; split <;> simp_all
 rw [e1, (Blk.mk' W 79 _).cell j, ← h]
 simp [pcC]
attribute [local go_sem] Oper.semAt_some
set_option maxRecDepth 100000 in
set_option maxHeartbeats 4000000 in
theorem sweep_Sweep (A : Option Addr) (c : Nat) (A2 : Option Addr) (c2 : Nat) (p : PG) (B : Option Addr) (b : List Int) (cb : Nat) (w : World) (hp : Pg w A c A2 c2 p) (hb : Rd w B cb b) :
    Calls Tryz.prog 25 #[.agg #[.slice A p.costs.length c, .slice A2 p.rows.length c2], .slice B b.length cb] w (RetSw w (swpL p b) (swpE p b)) := by
 have HP := h_ hp
 have HBY := h_ hb
 clear hp hb
 refine calls_of_marks Tryz.func25 rfl ?_
 simp only [Tryz.ntmps25, List.size_toArray, List.length_cons, List.length_nil, Nat.reduceAdd, Nat.reduceSub, Array.replicate_succ, Array.replicate_zero, List.push_toArray, List.append_toArray, List.nil_append, List.cons_append]
 go_wp2_with fail
 have BP := h_ (Blk.mk' w 28 #[.slice A p.costs.length c, .slice A2 p.rows.length c2])
 have HB := h_ ((Below.refl w.heap.size w).alloc (Nat.le_refl _) (.cells #[.slice A p.costs.length c, .slice A2 p.rows.length c2] 28))
 generalize (w.alloc (.cells #[.slice A p.costs.length c, .slice A2 p.rows.length c2] 28)) = V at *
 have zV := HB.out.size
 have lBP := BP.out.lt
 refine (layout_May A c A2 c2 p V (HP.out.below HB.out)).mono ?_
 rintro e w1 ⟨rfl, hb1⟩
 have HB1 := h_ (HB.out.trans (hb1.mono zV))
 have BP1 := h_ (BP.out.next hb1)
 have z1 := HB1.out.size
 have lB1 := BP1.out.lt
 clear hb1
 cases hm : mayPB p with
 | false =>
  have HE := h_ (show swpE p b = 2 by unfold swpE; rw [if_pos hm])
  have HLL := h_ (show swpL p b = [] by unfold swpL; rw [if_neg (by rw [HE.out]; decide)])
  clear hm
  go_wp2_with fail
  refine ⟨.tuple #[.slice none 0 0, .int .i64 (2)], ?_, .slice none 0 0, ?_, ?_, HB1.out⟩
  ·simp [results, Tryz.results25, go_sem]
  ·rw [HE.out]
  ·rw [HLL.out]; exact .inl ⟨rfl, none, 0, rfl⟩
 | true =>
  have HM := h_ hm
  have p0 : w1.cell? ⟨w.heap.size, 0, none⟩ = some (.slice A p.costs.length c) := BP1.out.cell 0
  have p1 : w1.cell? ⟨w.heap.size, 1, none⟩ = some (.slice A2 p.rows.length c2) := BP1.out.cell 1
  clear hm
  by_cases hl : b.length = p.costs.length
  ·have HLN := h_ hl
   have hlz : ((b.length : Int) != (p.costs.length : Int)) = false := by simp [hl]
   have HCN := h_ (con_small B b cb w1 (HBY.out.below HB1.out))
   cases hsm : smallB 400 b with
   | false =>
    rw [hsm] at HCN
    have HE := h_ (show swpE p b = 1 by
     unfold swpE
     rw [if_neg (by rw [HM.out]; decide), if_pos]
     unfold manyB
     simp [hsm])
    have HLL := h_ (show swpL p b = [] by unfold swpL; rw [if_neg (by rw [HE.out]; decide)])
    clear hsm hl
    go_wp2_with fail
    refine HCN.out.mono ?_
    rintro e w2 ⟨rfl, hb2⟩
    have HB2 := h_ (HB1.out.trans (hb2.mono z1))
    go_wp2_with fail
    refine ⟨.tuple #[.slice none 0 0, .int .i64 (1)], ?_, .slice none 0 0, ?_, ?_, HB2.out⟩
    ·simp [results, Tryz.results25, go_sem]
    ·rw [HE.out]
    ·rw [HLL.out]; exact .inl ⟨rfl, none, 0, rfl⟩
   | true =>
    rw [hsm] at HCN
    have HG := h_ (show By p b from ⟨HLN.out, hsm⟩)
    have HMN := h_ (show manyB b p.costs.length 400 = true by unfold manyB; simp [hsm, hl])
    clear hsm hl
    go_wp2_with fail
    refine HCN.out.mono ?_
    rintro e w2 ⟨rfl, hb2⟩
    have HB2 := h_ (HB1.out.trans (hb2.mono z1))
    have BP2 := h_ (BP1.out.next hb2)
    have z2 := hb2.size
    clear hb2 p0 p1 hlz HCN
    have p0 : w2.cell? ⟨w.heap.size, 0, none⟩ = some (.slice A p.costs.length c) := BP2.out.cell 0
    have p1 : w2.cell? ⟨w.heap.size, 1, none⟩ = some (.slice A2 p.rows.length c2) := BP2.out.cell 1
    go_upto_region 6 with fail
    have HBb := h_ (Blk.mk' w2 4 #[.bool false])
    have HV2 := h_ ((Below.refl w2.heap.size w2).alloc (Nat.le_refl _) (.cells #[.bool false] 4))
    clear p0 p1
    generalize (w2.alloc (.cells #[.bool false] 4)) = V2 at *
    have zV2 := HV2.out.size
    have lBb := HBb.out.lt
    have HBV := h_ (HB2.out.trans (HV2.out.mono (by omega)))
    have BPV := h_ (BP2.out.next HV2.out)
    have p0 : V2.cell? ⟨w.heap.size, 0, none⟩ = some (.slice A p.costs.length c) := BPV.out.cell 0
    have p1 : V2.cell? ⟨w.heap.size, 1, none⟩ = some (.slice A2 p.rows.length c2) := BPV.out.cell 1
    go_wp2_with fail
    refine (solve_Corners A c A2 c2 p V2).mono ?_
    rintro e w3 ⟨b1, b2, b3, rfl, l1, l2, l3, k1, k2, k3, k4, hb3⟩
    go_wp2_with fail
    clear p0 p1
    have BP3 := h_ (BPV.out.next hb3)
    have BB3 := h_ (HBb.out.next hb3)
    have HB3 := h_ (HBV.out.trans (hb3.mono (by omega)))
    have z3 := hb3.size
    generalize hgb : w2.heap.size = gb at *
    have q1 := lc_ k1
    have q2 := lc_ k2
    have q3 := lc_ k3
    simp only at q1 q2 q3
    have wgb : w.heap.size ≤ gb := by omega
    obtain ⟨S, hS⟩ : ∃ S : Nat → Prop, S = fun i => i < gb ∨ i = b1 ∨ i = b2 ∨ i = b3 := ⟨_, rfl⟩
    have hbox : BoxC S w3 b1 b2 b3 A c A2 c2 p := by
     subst hS
     exact ⟨.inr (.inl rfl), .inr (.inr (.inl rfl)), .inr (.inr (.inr rfl)), k1, k2, k3, k4, fun W h => HP.out.below (HB3.out.trans (h.below (fun i hi => .inl (Nat.lt_of_lt_of_le hi wgb)) HB3.out.size))⟩
    have hSn : ∀ i, S i → i < w3.heap.size := by
     subst hS
     rintro i (h | rfl | rfl | rfl)
     all_goals omega
    have hSr : ¬ S gb := by
     subst hS
     rintro (h | h | h | h)
     ·exact Nat.lt_irrefl _ h
     all_goals omega
    have HSB := h_ (show ∀ W, KS S w3 W → Below w.heap.size w W from fun W h => by
     subst hS
     exact HB3.out.trans (h.below (fun i hi => .inl (Nat.lt_of_lt_of_le hi wgb)) HB3.out.size))
    have HSP := h_ (show ∀ W, KS S w3 W → Blk W w.heap.size 28 #[.slice A p.costs.length c, .slice A2 p.rows.length c2] from fun W h => by
     subst hS
     exact (h.block _ BP3.out.lt (.inl (Nat.lt_of_lt_of_le lB1 z2))).trans BP3.out)
    have HIT := h_ (corners_iter S w3 b1 b2 b3 A c A2 c2 p hbox HM.out)
    have lgb := BB3.out.lt
    have lw3 : w.heap.size < w3.heap.size := by omega
    clear hb3 k1 k2 k3 k4 hbox hS hgb
    refine wp_iter (gf := 95) (lb := #[.pointer (some ⟨b1, 0, none⟩), .pointer (some ⟨b2, 0, none⟩), .pointer (some ⟨b3, 0, none⟩)]) rfl (enters_of Tryz.func95 (by kernel_rfl) rfl) HIT.out (KS.refl _ _) hSn
     (fun k args W h => by obtain ⟨_, _, _, _, _, _, _, _, rfl, _⟩ := h; rfl)
     (fun k W => Blk W gb 4 #[.bool (goesK p k)])
     (fun cd k W => False)
     (fun k X Y h kw => h.kw kw)
     (fun cd k X Y h kw => h)
     BB3.out ?round ?done ?stop
    case stop => rintro D cd k W hD hk h; exact h.elim
    case round =>
     rintro l k args W hl hk hbk hks ⟨L, cl, X, cx, Y, cy, G, cg, rfl, hL, hC, hLB⟩ hlt
     have HBK := h_ hbk
     have HKS := h_ hks
     have HC := h_ hC
     have HGK := h_ (goesK_succ hk)
     obtain ⟨lb, hlb⟩ : ∃ lb, (cornersZ p).getD k [] = lb := ⟨_, rfl⟩
     rw [hlb] at HC HGK ⊢
     clear hbk hks hL hC hlb hLB
     gi_wp2
     refine ⟨(KeepsOthers.alloc _ _).from _, (KS.refl _ _).alloc _, fun Wb hkw hks2 => ?_⟩
     have BC := h_ (show Blk Wb W.heap.size 64 #[.slice X (lookN p lb).xs.length cx, .int .i64 (lookN p lb).xd, .slice Y (lookN p lb).ys.length cy, .int .i64 (lookN p lb).yd, .slice G (lookN p lb).gs.length cg, .int .i64 (lookN p lb).gd] from (Blk.mk' _ _ _).kw hkw)
     have kwa : KW w3.heap.size W (W.alloc (.cells #[.slice X (lookN p lb).xs.length cx, .int .i64 (lookN p lb).xd, .slice Y (lookN p lb).ys.length cy, .int .i64 (lookN p lb).yd, .slice G (lookN p lb).gs.length cg, .int .i64 (lookN p lb).gd] 64)) := .of_below ((Below.refl _ W).alloc (Nat.le_refl _) _)
     have HX2 := h_ (show Rd Wb X cx (lookN p lb).xs from HC.out.x.kw (kwa.trans hkw))
     have HBK2 := h_ (HBK.out.kw (kwa.trans hkw))
     clear kwa hkw hks2 HC HBK HKS
     generalize W.heap.size = bc at *
     clear W
     have e0 := BC.out.cell 0
     have e1 := BC.out.cell 1
     have e2 := BC.out.cell 2
     have e3 := BC.out.cell 3
     have e4 := BC.out.cell 4
     have e5 := BC.out.cell 5
     simp at e0 e1 e2 e3 e4 e5
     have f0 : Wb.cell? ⟨gb, 0, none⟩ = some (.bool (goesK p k)) := HBK2.out.cell 0
     have f1 := HBK2.out.frozen 0
     have HGO := h_ (solve_Goes X Y G cx (lookN p lb).ys.length cy (lookN p lb).gs.length cg (lookN p lb).xs (lookN p lb).xd (lookN p lb).yd (lookN p lb).gd Wb HX2.out)
     cases hg : goesK p k with
     | true =>
      rw [hg] at f0 HGK HBK2
      clear hg
      gi_wp2_with fail
      refine ⟨trivial, ?_⟩
      gi_wp2_with fail
      refine ⟨(KeepsOthers.setCell _ _ _).from _, (KS.refl _ _).setCell _ _ hSr, ?_⟩
      show Blk _ gb 4 #[.bool (goesK p (k + 1))]
      rw [HGK.out]
      exact HBK2.out.set0 0 (.bool true)
     | false =>
      rw [hg] at f0 HGK HBK2
      clear hg
      gi_wp2_with fail
      refine ⟨trivial, rfl, ?_⟩
      refine (CallsIn.inRound l (callsIn_wide.2 HGO.out)).mono ?_
      rintro e w4 ⟨rfl, hb4⟩
      have g0 : w4.cell? ⟨gb, 0, none⟩ = some (.bool false) := (HBK2.out.next hb4).cell 0
      have g1 := (HBK2.out.next hb4).frozen 0
      gi_wp2_with fail
      refine ⟨(KeepsFrom.of_below hb4 _).trans ((KeepsOthers.setCell _ _ _).from _), (KS.of_below hb4).setCell _ _ hSr, ?_⟩
      show Blk _ gb 4 #[.bool (goesK p (k + 1))]
      rw [HGK.out]
      exact (HBK2.out.next hb4).set0 0 _
    case done =>
     rintro D W hD hbk hks hK
     rw [goesK_all] at hbk
     have HBW := h_ (HSB.out W hks)
     have BPW := h_ (HSP.out W hks)
     have HK := h_ hK
     have lD : D < W.heap.size := (Array.getElem?_eq_some_iff.1 hK).1
     have HDW := h_ (show w.heap.size ≤ D by omega)
     clear hks hK HIT HSB HSP
     have p0 : W.cell? ⟨w.heap.size, 0, none⟩ = some (.slice A p.costs.length c) := BPW.out.cell 0
     have p1 : W.cell? ⟨w.heap.size, 1, none⟩ = some (.slice A2 p.rows.length c2) := BPW.out.cell 1
     obtain ⟨q, hany⟩ : ∃ q, ((cornersZ p).any fun l => nonneg (lookN p l).xs) = q := ⟨_, rfl⟩
     rw [hany] at hbk
     have c0 : W.cell? ⟨gb, 0, none⟩ = some (.bool q) := hbk.cell 0
     cases q with
     | false =>
      have HE := h_ (show swpE p b = 4 by
       unfold swpE
       rw [if_neg (by rw [HM.out]; decide), if_neg (by rw [HMN.out]; decide), if_pos hany])
      have HLL := h_ (show swpL p b = [] by unfold swpL; rw [if_neg (by rw [HE.out]; decide)])
      clear hany hbk
      go_wp2_with fail
      refine ⟨by simp, .inl ⟨_, _, rfl, run_takeDeferred HK.out, .tuple #[.slice none 0 0, .int .i64 (4)], ?_, .slice none 0 0, ?_, ?_, ?_⟩⟩
      ·simp [results, Tryz.results25, go_sem]
      ·rw [HE.out]
      ·rw [HLL.out]; exact ((show PcRd W w.heap.size (.slice none 0 0) [] from .inl ⟨rfl, none, 0, rfl⟩)).kw (KW.putObj (B := 0) (.deferred none) (Nat.zero_le _) HK.out rfl)
      ·exact below_put HBW.out HDW.out (Nat.le_refl _) _
     | true =>
      have HE := h_ (show swpE p b = 0 by
       unfold swpE
       rw [if_neg (by rw [HM.out]; decide), if_neg (by rw [HMN.out]; decide), if_neg (by rw [hany]; decide)])
      have HLL := h_ (show swpL p b = ansP (grpF undP ovrP p b (cornersZ p)) by unfold swpL; rw [if_pos HE.out])
      clear hany hbk
      go_wp2_with fail
      refine (sweep_lines A c A2 c2 p B b cb W (HP.out.below HBW.out) (HBY.out.below HBW.out) HM.out HG.out).mono ?_
      rintro e w5 ⟨M, rfl, hM, hml, hb5⟩
      obtain ⟨P, hP⟩ : ∃ P, grpF undP ovrP p b (cornersZ p) = P := ⟨_, rfl⟩
      have HQ := h_ (show Grp p b P from hP ▸ grp_prog HG.out)
      have HPL := h_ (show P.length ≤ 256 from hP ▸ Nat.le_trans (grpF_len _) (corners_few HM.out))
      rw [hP] at hml HLL
      have HML := h_ hml
      have HB5 := h_ (HBW.out.trans (hb5.mono (by omega)))
      have HK5 := h_ (show w5.heap[D]? = some (.deferred (some [])) from (hb5.block D lD).trans HK.out)
      have z5 := hb5.size
      obtain ⟨o, hr1, hr2⟩ := hml.rangeE
      clear hb5 hml p0 p1 c0 hP
      go_wp2_with fail
      have HR := h_ hr2
      have HB6 := h_ ((Below.refl w5.heap.size w5).alloc (Nat.le_refl _) o)
      have zW : (w5.alloc o).heap.size = w5.heap.size + 1 := by simp
      clear hr1 hr2
      generalize w5.alloc o = W6 at *
      go_loopw [10] (fun s10 wx => ∃ dn left : List PC, Hid ((dn ++ left).Perm P) ∧ MapR wx M w5.heap.size P left ∧ PcOwn wx (w5.heap.size + 1) s10 (dn.filter fun x => !pointB x) ∧ Below w5.heap.size w5 wx ∧ w5.heap.size + 1 ≤ wx.heap.size) (fun _ wx => wx.rangeLeft M w5.heap.size)
      case atStart => exact ⟨[], P, h_ (by simp), HR.out, PcOwn.nil _ _, HB6.out, by omega⟩
      case round =>
       obtain ⟨dn, left, hpm, hmr, hpo, hbl, hsz⟩ := hrel
       rename World => U
       have HMR := h_ hmr
       have HPO := h_ hpo
       have HBL := h_ hbl
       have hle := hmr.left_eq
       have HLE := h_ hle
       clear hbl hle
       rcases hmr.next 0 with ⟨rfl, hnx⟩ | ⟨l1, x, l2, U1, rfl, hnx, hmr1, hg1, hs1, hent⟩
       ·clear hmr hpo HMR HLE
        have HKU := h_ (show U.heap[D]? = some (.deferred (some [])) from (HBL.out.block D (Array.getElem?_eq_some_iff.1 HK5.out).1).trans HK5.out)
        have HBU := h_ (HB5.out.trans (HBL.out.mono (by omega)))
        have hpm' := hpm.out
        rw [List.append_nil] at hpm'
        by_cases hfl : (dn.filter fun x => !pointB x) = []
        ·have HAN := h_ (show ansP P = bestP P from by
           unfold ansP
           rw [if_pos]
           have := hpm'.filter fun x => !pointB x
           rw [hfl] at this
           exact this.symm.eq_nil)
         rw [hfl] at HPO
         have hs3 : ∃ A c, u10 = .slice A 0 c := by
          rcases HPO.out.2 with ⟨e, _⟩ | ⟨g, cap, _, e, _⟩
          ·exact ⟨_, _, e⟩
          ·exact ⟨_, _, e⟩
         obtain ⟨A', c', rfl⟩ := hs3
         have HPM := h_ hpm'
         have HMU := h_ (HML.out.below HBL.out)
         clear hpm' hfl
         go_wp2_with fail
         refine (sweep_only M P U HMU.out fun x hx => (pc_pos HG.out HQ.out hx).2).mono ?_
         rintro e w8 ⟨_, ⟨L', hL', rfl⟩, v, rfl, hpo8, hb8⟩
         have HB8 := h_ (HBU.out.trans (hb8.mono HBU.out.size))
         have HK8 := h_ ((hb8.block D (Array.getElem?_eq_some_iff.1 HKU.out).1).trans HKU.out)
         have HP8 := h_ (show PcRd w8 w.heap.size v (ansP P) from by
          rw [HAN.out, ← best_uniq HG.out HQ.out HQ.out hL']
          exact hpo8.rd.mono HBU.out.size)
         clear hpo8 hb8 hL'
         go_wp2_with fail
         refine ⟨by simp, .inl ⟨_, _, rfl, run_takeDeferred HK8.out, .tuple #[v, .int .i64 (0)], ?_, v, ?_, ?_, ?_⟩⟩
         ·simp [results, Tryz.results25, go_sem]
         ·rw [HE.out]
         ·rw [HLL.out]; exact (HP8.out).kw (KW.putObj (B := 0) (.deferred none) (Nat.zero_le _) HK8.out rfl)
         ·exact below_put HB8.out HDW.out (Nat.le_refl _) _
        ·have h0 : 0 < (dn.filter fun x => !pointB x).length := by
           cases hq : dn.filter fun x => !pointB x with
           | nil => exact absurd hq hfl
           | cons a l => simp
         have HFP := h_ (hpm'.filter fun x => !pointB x)
         have HAN := h_ (show ansP P = sortP (P.filter fun x => !pointB x) from by
          unfold ansP
          rw [if_neg]
          intro hq
          have := HFP.out
          rw [hq] at this
          exact hfl this.eq_nil)
         obtain ⟨Q, hQ⟩ : ∃ Q, (dn.filter fun x => !pointB x) = Q := ⟨_, rfl⟩
         rw [hQ] at h0 HFP HPO
         have hQl : Q.length ≤ 100000 := by
          have h1 := HFP.out.length_eq
          have h2 := List.length_filter_le (fun x => !pointB x) P
          have h3 := HPL.out
          omega
         clear hpm' hfl hQ
         obtain ⟨g, cap, rfl, hg1, hg2, hg3, hg4, _⟩ := HPO.out.some' h0
         have hn0 : ¬ ((Q.length : Int) = 0) := by omega
         go_wp2_with fail
         refine (pcs_sort _ g cap Q U (prog_sortable HG.out HQ.out HFP.out) h0 hQl HPO.out).mono ?_
         rintro e w8 ⟨rfl, l, hl1, hl2, hgr, hat⟩
         have z8 := hgr.size
         have HB8 := h_ (HBU.out.grown hgr HBU.out.size (fun j e => by cases e; omega))
         have hDU := (Array.getElem?_eq_some_iff.1 HKU.out).1
         have hDg : D < g := by have := (Array.getElem?_eq_some_iff.1 HK5.out).1; omega
         have HK8 := h_ ((hgr.block D hDU (fun e => by injection e with e; omega)).trans HKU.out)
         have HP8 := h_ (show PcRd w8 w.heap.size (.slice (some ⟨g, 0, none⟩) Q.length cap) (ansP P) from by
          rw [HAN.out, ← sort_uniq HG.out HQ.out HQ.out (hl1.trans HFP.out) hl2, ← hl1.length_eq]
          refine .inr ⟨by rw [hl1.length_eq]; exact h0, g, cap, rfl, by omega, by omega, by rw [hl1.length_eq]; exact hg3, hg4, hat⟩)
         clear hgr hat hl1 hl2
         go_wp2_with fail
         refine ⟨by simp, .inl ⟨_, _, rfl, run_takeDeferred HK8.out, .tuple #[(.slice (some ⟨g, 0, none⟩) Q.length cap), .int .i64 (0)], ?_, (.slice (some ⟨g, 0, none⟩) Q.length cap), ?_, ?_, ?_⟩⟩
         ·simp [results, Tryz.results25, go_sem]
         ·rw [HE.out]
         ·rw [HLL.out]; exact (HP8.out).kw (KW.putObj (B := 0) (.deferred none) (Nat.zero_le _) HK8.out rfl)
         ·exact below_put HB8.out HDW.out (Nat.le_refl _) _
       ·have HPM := h_ (show (dn ++ [x] ++ (l1 ++ l2)).Perm P from by
          refine List.Perm.trans ?_ hpm.out
          rw [List.append_assoc]
          exact List.Perm.append_left dn (List.perm_middle (l₁ := l1) (l₂ := l2)).symm)
        have hlt := HMR.out.lt
        have hmv := HLE.out
        simp only [List.length_append, List.length_cons] at hmv
        clear hmr hpm HLE
        have HPO1 := h_ (HPO.out.kept hg1 (by
         rcases hb : u10.ownBlock with _ | k
         ·exact .inl rfl
         ·right
          have := (World.ownsRow.lt HPO.out k hb).1
          intro e
          injection e with e
          omega))
        have HBL1 := h_ (HBL.out.grown hg1 (by omega) (fun k hk => by cases hk; omega))
        have HMR1 := h_ hmr1
        have hs2 : U.heap.size ≤ U1.heap.size := Nat.le_of_eq hs1.symm
        clear hmr1 hg1 hpo HPO HBL HMR hs1
        unfold lnV wdV at hnx hent
        go_upto_region 16 with fail
        have BL := h_ (show Blk ((U1.alloc (.cells #[.int .i64 x.bn, .int .i64 x.bd, .int .i64 x.sn, .int .i64 x.sd] 132)).alloc (.cells #[.bool x.fr.op, .int .i64 x.fr.n, .int .i64 x.fr.d, .bool x.to.op, .int .i64 x.to.n, .int .i64 x.to.d] 134)) U1.heap.size 132 #[.int .i64 x.bn, .int .i64 x.bd, .int .i64 x.sn, .int .i64 x.sd] from (Blk.mk' _ _ _).alloc _)
        have BW := h_ (show Blk ((U1.alloc (.cells #[.int .i64 x.bn, .int .i64 x.bd, .int .i64 x.sn, .int .i64 x.sd] 132)).alloc (.cells #[.bool x.fr.op, .int .i64 x.fr.n, .int .i64 x.fr.d, .bool x.to.op, .int .i64 x.to.n, .int .i64 x.to.d] 134)) (U1.heap.size + 1) 134 #[.bool x.fr.op, .int .i64 x.fr.n, .int .i64 x.fr.d, .bool x.to.op, .int .i64 x.to.n, .int .i64 x.to.d] from Blk.new (U1.alloc (.cells #[.int .i64 x.bn, .int .i64 x.bd, .int .i64 x.sn, .int .i64 x.sd] 132)) 134 _ _ (by simp))
        have HV1 := h_ ((by (repeat (any_goals (first | exact qR _ _ | refine below_drewN ?_ _ | refine qD ?_ | refine qA ?_ ?_ _ | refine qS ?_ ?_ _))); all_goals (first | omega | (simp; done) | (simp; omega))) : Below U1.heap.size U1 ((U1.alloc (.cells #[.int .i64 x.bn, .int .i64 x.bd, .int .i64 x.sn, .int .i64 x.sd] 132)).alloc (.cells #[.bool x.fr.op, .int .i64 x.fr.n, .int .i64 x.fr.d, .bool x.to.op, .int .i64 x.to.n, .int .i64 x.to.d] 134)))
        clear hnx hent
        generalize ((U1.alloc (.cells #[.int .i64 x.bn, .int .i64 x.bd, .int .i64 x.sn, .int .i64 x.sd] 132)).alloc (.cells #[.bool x.fr.op, .int .i64 x.fr.n, .int .i64 x.fr.d, .bool x.to.op, .int .i64 x.to.n, .int .i64 x.to.d] 134)) = V9 at *
        generalize hgl : U1.heap.size = gl at *
        have zV9 := HV1.out.size
        have lBW := BW.out.lt
        have HPO2 := h_ (HPO1.out.below (by rw [hgl]; exact HV1.out))
        have HMR2 := h_ (HMR1.out.below (by rw [hgl]; exact HV1.out))
        have HBL2 := h_ (HBL1.out.trans (HV1.out.mono (by omega)))
        clear HPO1 HMR1 HBL1
        have v0 : V9.cell? ⟨gl + 1, 0, none⟩ = some (.bool x.fr.op) := BW.out.cell 0
        have v1 : V9.cell? ⟨gl + 1, 1, none⟩ = some (.int .i64 x.fr.n) := BW.out.cell 1
        have v2 : V9.cell? ⟨gl + 1, 2, none⟩ = some (.int .i64 x.fr.d) := BW.out.cell 2
        have v3 : V9.cell? ⟨gl + 1, 3, none⟩ = some (.bool x.to.op) := BW.out.cell 3
        have v4 : V9.cell? ⟨gl + 1, 4, none⟩ = some (.int .i64 x.to.n) := BW.out.cell 4
        have v5 : V9.cell? ⟨gl + 1, 5, none⟩ = some (.int .i64 x.to.d) := BW.out.cell 5
        have HPT := h_ (sweep_point x V9)
        have HFS := h_ (show ((dn ++ [x]).filter fun x => !pointB x) = (dn.filter fun x => !pointB x) ++ (if pointB x = true then [] else [x]) from by
         rw [List.filter_append]
         cases hq : pointB x <;> simp [hq])
        cases hpt : pointB x with
        | true =>
         rw [hpt] at HPT HFS
         clear hpt
         go_wp2_with fail
         refine HPT.out.mono ?_
         rintro e w7 ⟨rfl, hb7⟩
         have z7 := hb7.size
         have HPO7 := h_ (HPO2.out.below hb7)
         have HMR7 := h_ (HMR2.out.below hb7)
         have HBL7 := h_ (HBL2.out.trans (hb7.mono (by have := HBL2.out.size; omega)))
         clear hb7
         go_wp2_with fail
         go_roundw
         case measure =>
          have := HMR7.out.left_eq
          rw [this, hmv, List.length_append]
          omega
         case rel =>
          refine ⟨dn ++ [x], l1 ++ l2, HPM, HMR7.out, ?_, HBL7.out, by omega⟩
          rw [HFS.out]
          simpa using HPO7.out
        | false =>
         rw [hpt] at HPT HFS
         clear hpt
         go_wp2_with fail
         refine HPT.out.mono ?_
         rintro e w7 ⟨rfl, hb7⟩
         have z7 := hb7.size
         have HPO7 := h_ (HPO2.out.below hb7)
         have HMR7 := h_ (HMR2.out.below hb7)
         have HBL7 := h_ (HBL2.out.trans (hb7.mono (by have := HBL2.out.size; omega)))
         have BL7 := h_ (BL.out.next hb7)
         have BW7 := h_ (BW.out.next hb7)
         clear hb7 v0 v1 v2 v3 v4 v5
         have k0 : w7.cell? ⟨gl, 0, none⟩ = some (.int .i64 x.bn) := BL7.out.cell 0
         have k1 : w7.cell? ⟨gl, 1, none⟩ = some (.int .i64 x.bd) := BL7.out.cell 1
         have k2 : w7.cell? ⟨gl, 2, none⟩ = some (.int .i64 x.sn) := BL7.out.cell 2
         have k3 : w7.cell? ⟨gl, 3, none⟩ = some (.int .i64 x.sd) := BL7.out.cell 3
         have v0 : w7.cell? ⟨gl + 1, 0, none⟩ = some (.bool x.fr.op) := BW7.out.cell 0
         have v1 : w7.cell? ⟨gl + 1, 1, none⟩ = some (.int .i64 x.fr.n) := BW7.out.cell 1
         have v2 : w7.cell? ⟨gl + 1, 2, none⟩ = some (.int .i64 x.fr.d) := BW7.out.cell 2
         have v3 : w7.cell? ⟨gl + 1, 3, none⟩ = some (.bool x.to.op) := BW7.out.cell 3
         have v4 : w7.cell? ⟨gl + 1, 4, none⟩ = some (.int .i64 x.to.n) := BW7.out.cell 4
         have v5 : w7.cell? ⟨gl + 1, 5, none⟩ = some (.int .i64 x.to.d) := BW7.out.cell 5
         have hfew : (dn.filter fun x => !pointB x).length ≤ 100000 := by
          have h1 := HPM.out.length_eq
          have h2 := List.length_filter_le (fun x => !pointB x) dn
          have h3 := HPL.out
          simp only [List.length_append, List.length_cons, List.length_nil] at h1
          omega
         go_wp2_with (at_builtin; refine list_appP rfl (.tmp 50) (.tmp 60) rfl (w5.heap.size + 1) u10 _ x rfl (PcOwn.below HPO7.out ((Below.refl _ _).alloc (Nat.le_refl _) _)) _ 1 rfl (pc_new w7 x) hfew (by simp; omega) ?_; intro g cap w9 hown9 hg9 hat9 hlt9)
         have z9 := hg9.size
         simp at z9
         have HOW := h_ (own_ge HPO7.out (Nat.le_refl _))
         have HMR9 := h_ (show MapR w9 M w5.heap.size P (l1 ++ l2) from by
          have hl7 := HMR7.out.lt
          have hM5 := HML.out.lt
          refine HMR7.out.keep ?_ ?_
          ·exact (hg9.block M (by simp; omega) (fun e => by have := HOW.out M e.symm; omega)).trans (Below.heap_alloc _ _ _ hl7.1)
          ·exact (hg9.block w5.heap.size (by simp; omega) (fun e => by have := HOW.out _ e.symm; omega)).trans (Below.heap_alloc _ _ _ hl7.2.1))
         have HBL9 := h_ ((HBL7.out.alloc HBL7.out.size (.cells #[.bool x.fr.op, .int .i64 x.fr.n, .int .i64 x.fr.d, .bool x.to.op, .int .i64 x.to.n, .int .i64 x.to.d, .int .i64 x.bn, .int .i64 x.bd, .int .i64 x.sn, .int .i64 x.sd] 79)).grown hg9 (by simp; have := HBL7.out.size; omega) (fun j e => by have := HOW.out j e; omega))
         refine ⟨⟨dn ++ [x], l1 ++ l2, HPM, HMR9.out, ?_, HBL9.out, by omega⟩, ?_⟩
         ·rw [HFS.out]
          have := hown9
          unfold PcOwn at this ⊢
          simpa using this
         ·have := HMR9.out.left_eq
          rw [this, hmv, List.length_append]
          omega
  ·have hlz : ¬ ((b.length : Int) = (p.costs.length : Int)) := by omega
   have HE := h_ (show swpE p b = 1 by
    unfold swpE
    rw [if_neg (by rw [HM.out]; decide), if_pos]
    unfold manyB
    simp [hl])
   have HLL := h_ (show swpL p b = [] by unfold swpL; rw [if_neg (by rw [HE.out]; decide)])
   go_wp2_with fail
   refine ⟨.tuple #[.slice none 0 0, .int .i64 (1)], ?_, .slice none 0 0, ?_, ?_, HB1.out⟩
   ·simp [results, Tryz.results25, go_sem]
   ·rw [HE.out]
   ·rw [HLL.out]; exact .inl ⟨rfl, none, 0, rfl⟩
end Go.Proofs.YtjcdkbalhleeeaaGreatDoor
