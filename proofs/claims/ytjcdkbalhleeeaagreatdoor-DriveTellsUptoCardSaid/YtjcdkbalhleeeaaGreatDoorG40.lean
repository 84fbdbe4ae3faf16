/-
  Contracts of functions and plain laws that later parts of the proof use. The conditions stand in each theorem.
-/
import Derived.Test.YtjcdkbalhleeeaaGreatDoorG06
import Derived.Test.YtjcdkbalhleeeaaGreatDoorG37
import Derived.Test.YtjcdkbalhleeeaaGreatDoorG20
import Derived.Test.YtjcdkbalhleeeaaGreatDoorG17
import Derived.Test.YtjcdkbalhleeeaaGreatDoorG24
import Derived.Carry
namespace Go.Proofs.YtjcdkbalhleeeaaGreatDoor
open Go.RowKit
open Go.ChangeMaps (setBlock)
def RetMp (w : World) (L : List PC) (e : Ending) (w' : World) : Prop := ∃ M, e = .returned (.map (some M)) ∧ w.heap.size ≤ M ∧ MapL w' M L ∧ Below w.heap.size w w'
def linesK (p : PG) (b : List Int) (k : Nat) : List PC := grpF undP ovrP p b ((cornersZ p).take k)
theorem linesK_succ {p : PG} {b : List Int} {k : Nat} (hk : k < (cornersZ p).length) : linesK p b (k + 1) = if goodB p b ((cornersZ p).getD k []) = true then joinG undP ovrP (linesK p b k) (pcZ p b ((cornersZ p).getD k [])) else linesK p b k := by
 unfold linesK
 rw [List.take_succ_eq_append_getElem hk, grpF_snoc]
 simp [List.getD, List.getElem?_eq_getElem hk]
theorem linesK_all {p : PG} {b : List Int} : linesK p b (cornersZ p).length = grpF undP ovrP p b (cornersZ p) := by unfold linesK; rw [List.take_length]
theorem corner_E {p : PG} {k : Nat} (hk : k < (cornersZ p).length) : lookE p (ints ((cornersZ p).getD k [])) = 0 := by
 have h : (cornersZ p).getD k [] ∈ cornersZ p := by rw [List.getD, List.getElem?_eq_getElem hk]; exact List.getElem_mem hk
 have := (List.mem_filter.1 h).2
 simp only [Bool.and_eq_true, decide_eq_true_eq] at this
 exact this.2
theorem gb_cell (W : World) (b i : Nat) (v : Value) : W.grownBy (W.setCell ⟨b, i, none⟩ v) (some b) :=
 ⟨rfl, rfl, rfl, by simp, fun k _ hk => Below.heap_setCell W _ v k fun e => hk (by rw [e])⟩
theorem rd_take {w : World} {X : Option Addr} {cx n : Nat} {xs : List Int} (hx : Rd w X cx xs) (hn : n ≤ xs.length) : Rd w X cx (xs.take n) := by
 refine ⟨by rw [List.length_take]; have := hx.le; omega, hx.cap, by rw [List.length_take]; have := hx.small; omega, fun hl => ?_⟩
 have h0 : 0 < xs.length := by
  simp only [List.length_map, List.length_take] at hl
  omega
 obtain ⟨ad, e, hc⟩ := hx.cells (by simpa using h0)
 refine ⟨ad, e, fun j u hu => hc j u ?_⟩
 rw [List.getElem?_map, List.getElem?_take] at hu
 rw [List.getElem?_map]
 split at hu
 ·exact hu
 ·simp at hu
theorem kf_set {B M : Nat} (h : M < B) (W : World) (o : Obj) : KeepsFrom B W (setBlock W M o) :=
 ⟨by simp [setBlock], fun k x hk hx _ => by
  simp only [setBlock]
  rw [Array.getElem?_setIfInBounds_ne (by omega)]
  exact hx⟩
theorem ks_set {S : Nat → Prop} {M : Nat} (h : ¬ S M) (W : World) (o : Obj) : KS S W (setBlock W M o) :=
 ⟨rfl, rfl, rfl, by simp [setBlock], fun i _ hs => by
  simp only [setBlock]
  rw [Array.getElem?_setIfInBounds_ne (fun e => h (by rw [e]; exact hs))]⟩
theorem ln_ok {p : PG} {b : List Int} (hb : By p b) {l : List Nat} (h : OKb p l) (hx : 0 < (lookN p l).xd) : LnOK (pcZ p b l) := by
 have k1 := (fr_q (val_pt h).1 hx).2
 have k2 := (fr_q (valB_pt hb h).1 hx).2
 simp [mayB, rightB, smallB] at k1 k2
 unfold LnOK pcZ
 simp only
 omega
attribute [local go_sem] Oper.semAt_some
set_option maxRecDepth 100000 in
set_option maxHeartbeats 4000000 in
theorem sweep_lines (A : Option Addr) (c : Nat) (A2 : Option Addr) (c2 : Nat) (p : PG) (B : Option Addr) (b : List Int) (cb : Nat) (w : World) (hp : Pg w A c A2 c2 p) (hb : Rd w B cb b) (hm : mayPB p = true) (hby : By p b) :
    Calls Tryz.prog 57 #[.agg #[.slice A p.costs.length c, .slice A2 p.rows.length c2], .slice B b.length cb] w (RetMp w (grpF undP ovrP p b (cornersZ p))) := by
 have HP := h_ hp
 have HBY := h_ hb
 have HM := h_ hm
 have HG := h_ hby
 clear hp hb hm hby
 refine calls_of_marks Tryz.func57 rfl ?_
 simp only [Tryz.ntmps57, List.size_toArray, List.length_cons, List.length_nil, Nat.reduceAdd, Nat.reduceSub, Array.replicate_succ, Array.replicate_zero, List.push_toArray, List.append_toArray, List.nil_append, List.cons_append]
 have hmk : ∀ u : World, (Instr.makeMap 129 none).run Tryz.prog u = .ok (.map (some u.heap.size)) (u.alloc (.map #[] 0)) := fun u => run_makeMap _ u
 go_wp2_with fail
 refine (solve_Corners A c A2 c2 p _).mono ?_
 rintro e w1 ⟨b1, b2, b3, rfl, l1, l2, l3, k1, k2, k3, k4, hb1⟩
 go_wp2_with fail
 clear hmk
 generalize hW0 : (((w.alloc (.cells #[.slice A p.costs.length c, .slice A2 p.rows.length c2] 28)).alloc (.cells #[.slice B b.length cb] 25)).alloc (.map #[] 0)).alloc (.cells #[.map (some (w.heap.size + 1 + 1))] 129) = W0 at *
 have zW0 : W0.heap.size = w.heap.size + 4 := by rw [← hW0]; simp
 have BP := h_ (show Blk w1 w.heap.size 28 #[.slice A p.costs.length c, .slice A2 p.rows.length c2] from Blk.next (by rw [← hW0]; exact (((Blk.mk' _ _ _).alloc _).alloc _).alloc _) hb1)
 have BB := h_ (show Blk w1 (w.heap.size + 1) 25 #[.slice B b.length cb] from Blk.next (by
  rw [← hW0]
  have := Blk.mk' (w.alloc (.cells #[.slice A p.costs.length c, .slice A2 p.rows.length c2] 28)) 25 #[.slice B b.length cb]
  rw [World.size_alloc] at this
  exact (this.alloc _).alloc _) hb1)
 have MM := h_ (show MapL w1 (w.heap.size + 2) [] from MapL.below (by
  rw [← hW0]
  have := MapL.made ((w.alloc (.cells #[.slice A p.costs.length c, .slice A2 p.rows.length c2] 28)).alloc (.cells #[.slice B b.length cb] 25))
  rw [World.size_alloc, World.size_alloc] at this
  exact this.below ((Below.refl _ _).alloc (Nat.le_refl _) _)) hb1)
 have BM := h_ (show Blk w1 (w.heap.size + 3) 129 #[.map (some (w.heap.size + 2))] from Blk.next (by
  rw [← hW0]
  have := Blk.mk' (((w.alloc (.cells #[.slice A p.costs.length c, .slice A2 p.rows.length c2] 28)).alloc (.cells #[.slice B b.length cb] 25)).alloc (.map #[] 0)) 129 #[.map (some (w.heap.size + 2))]
  rw [World.size_alloc, World.size_alloc, World.size_alloc] at this
  exact this) hb1)
 have HB1 := h_ (show Below w.heap.size w w1 from (show Below w.heap.size w W0 from by rw [← hW0]; exact (by (repeat (any_goals (first | exact qR _ _ | refine below_drewN ?_ _ | refine qD ?_ | refine qA ?_ ?_ _ | refine qS ?_ ?_ _))); all_goals (first | omega | (simp; done) | (simp; omega)))).trans (hb1.mono (by omega)))
 have z1 := hb1.size
 clear hW0
 rw [zW0] at z1 l1 l2 l3
 have q1 := lc_ k1
 have q2 := lc_ k2
 have q3 := lc_ k3
 simp only at q1 q2 q3
 obtain ⟨S, hS⟩ : ∃ S : Nat → Prop, S = fun i => i < w.heap.size + 2 ∨ i = w.heap.size + 3 ∨ i = b1 ∨ i = b2 ∨ i = b3 := ⟨_, rfl⟩
 have HS := h_ hS
 have hbox : BoxC S w1 b1 b2 b3 A c A2 c2 p := by
  subst hS
  exact ⟨.inr (.inr (.inl rfl)), .inr (.inr (.inr (.inl rfl))), .inr (.inr (.inr (.inr rfl))), k1, k2, k3, k4, fun W h => HP.out.below (HB1.out.trans (h.below (fun i hi => .inl (by omega)) HB1.out.size))⟩
 have hSn : ∀ i, S i → i < w1.heap.size := by
  subst hS
  rintro i (h | rfl | rfl | rfl | rfl) <;> omega
 have hSr : ¬ S (w.heap.size + 2) := by
  subst hS
  rintro (h | h | h | h | h) <;> omega
 have HSB := h_ (show ∀ W, KS S w1 W → Below w.heap.size w W from fun W h => by
  subst hS
  exact HB1.out.trans (h.below (fun i hi => .inl (by omega)) HB1.out.size))
 have HSP := h_ (show ∀ W, KS S w1 W → W.cell? ⟨w.heap.size, 0, none⟩ = some (.slice A p.costs.length c) ∧ W.cell? ⟨w.heap.size, 1, none⟩ = some (.slice A2 p.rows.length c2) ∧ W.cell? ⟨w.heap.size + 1, 0, none⟩ = some (.slice B b.length cb) ∧ W.cell? ⟨w.heap.size + 3, 0, none⟩ = some (.map (some (w.heap.size + 2))) from fun W h => by
  subst hS
  exact ⟨h.cell (.inl (by omega)) (BP.out.cell 0), h.cell (.inl (by omega)) (BP.out.cell 1), h.cell (.inl (by omega)) (BB.out.cell 0), h.cell (.inr (.inl rfl)) (BM.out.cell 0)⟩)
 have HIT := h_ (corners_iter S w1 b1 b2 b3 A c A2 c2 p hbox HM.out)
 have hMlt := MM.out.lt
 clear hb1 k1 k2 k3 k4 hbox hS
 rw [show w.heap.size + 1 + 1 = w.heap.size + 2 from rfl, show w.heap.size + 2 + 1 = w.heap.size + 3 from rfl]
 obtain ⟨M, hM⟩ : ∃ M, w.heap.size + 2 = M := ⟨_, rfl⟩
 rw [hM] at MM HSP hSr hMlt ⊢
 have HMM := h_ hM
 clear hM
 refine wp_iter (gf := 95) (lb := #[.pointer (some ⟨b1, 0, none⟩), .pointer (some ⟨b2, 0, none⟩), .pointer (some ⟨b3, 0, none⟩)]) rfl (enters_of Tryz.func95 (by kernel_rfl) rfl) HIT.out (KS.refl _ _) hSn
  (fun k args W h => by obtain ⟨_, _, _, _, _, _, _, _, rfl, _⟩ := h; rfl)
  (fun k W => MapL W M (linesK p b k))
  (fun cd k W => False)
  (fun k X Y h kw => by
   obtain ⟨es, cl, h1, h2⟩ := h
   exact ⟨es, cl, kw.same _ _ h1 (.inl hMlt), h2⟩)
  (fun cd k X Y h kw => h)
  MM.out ?round ?done ?stop
 case stop => rintro D cd k W hD hk h; exact h.elim
 case done =>
  rintro D W hD hml hks hK
  have HK := h_ hK
  have HKS := h_ hks
  have HML := h_ hml
  obtain ⟨k0, k1, k2, k3⟩ := HSP.out W hks
  clear hml hks hK
  go_wp2_with fail
  have hkw := KW.putObj (B := 0) (.deferred none) (Nat.zero_le _) HK.out rfl
  refine ⟨by simp, .inl ⟨_, _, rfl, run_takeDeferred HK.out, .map (some M), ?_, M, rfl, by have := HMM.out; omega, ?_, HSB.out _ (HKS.out.putObj _ fun h => by have := hSn _ h; omega)⟩⟩
  ·simp [results, Tryz.results57, go_sem]
  ·rw [← linesK_all]
   exact HML.out.keep (World.putObj_heap_other (by omega))
 case round =>
  rintro l k args W hl hk hml hks ⟨L, cl, X, cx, Y, cy, G, cg, rfl, hL, hC, hLB⟩ hlt
  have HML := h_ hml
  have HKS := h_ hks
  have HL := h_ hL
  have HC := h_ hC
  have hBs : Bs p ((cornersZ p).getD k []) := mem_corners.1 (by rw [List.getD, List.getElem?_eq_getElem hk]; exact List.getElem_mem hk)
  have HSUC := h_ (linesK_succ (b := b) hk)
  have HLE := h_ (corner_E hk)
  obtain ⟨lb, hlb⟩ : ∃ lb, (cornersZ p).getD k [] = lb := ⟨_, rfl⟩
  rw [hlb] at HL HC HSUC HLE hBs ⊢
  have HBS := h_ hBs
  clear hml hks hL hC hlb hLB hBs
  gi_wp2
  refine ⟨(KeepsOthers.alloc _ _).from _, (KS.refl _ _).alloc _, fun Wb hkw hks2 => ?_⟩
  have BC := h_ (show Blk Wb W.heap.size 64 #[.slice X (lookN p lb).xs.length cx, .int .i64 (lookN p lb).xd, .slice Y (lookN p lb).ys.length cy, .int .i64 (lookN p lb).yd, .slice G (lookN p lb).gs.length cg, .int .i64 (lookN p lb).gd] from (Blk.mk' _ _ _).kw hkw)
  have kwa : KW w1.heap.size W (W.alloc (.cells #[.slice X (lookN p lb).xs.length cx, .int .i64 (lookN p lb).xd, .slice Y (lookN p lb).ys.length cy, .int .i64 (lookN p lb).yd, .slice G (lookN p lb).gs.length cg, .int .i64 (lookN p lb).gd] 64)) := .of_below ((Below.refl _ W).alloc (Nat.le_refl _) _)
  have HL2 := h_ (HL.out.kw (kwa.trans hkw))
  have HC2 := h_ (show CnN Wb X cx Y cy G cg (lookN p lb) from ⟨HC.out.x.kw (kwa.trans hkw), HC.out.y.kw (kwa.trans hkw), HC.out.g.kw (kwa.trans hkw)⟩)
  have HML2 := h_ (show MapL Wb M (linesK p b k) from by
   obtain ⟨es, cl, h1, h2⟩ := HML.out
   exact ⟨es, cl, (kwa.trans hkw).same _ _ h1 (.inl hMlt), h2⟩)
  have HKS2 := h_ (HKS.out.trans (((KS.refl S W).alloc (.cells #[.slice X (lookN p lb).xs.length cx, .int .i64 (lookN p lb).xd, .slice Y (lookN p lb).ys.length cy, .int .i64 (lookN p lb).yd, .slice G (lookN p lb).gs.length cg, .int .i64 (lookN p lb).gd] 64)).trans hks2))
  have hbc : w1.heap.size ≤ W.heap.size := HKS.out.size
  clear kwa hkw hks2 HL HC HML HKS
  generalize W.heap.size = bc at *
  clear W
  have HPB := h_ (fun u (h : KS S w1 u) => HP.out.below (HSB.out u h))
  have HBB := h_ (fun u (h : KS S w1 u) => HBY.out.below (HSB.out u h))
  have hl0 : lookE p (ints lb) = 0 := HLE.out
  obtain ⟨gx, gy, gg, hco⟩ := look_corn hl0
  have hgood : goodB p b lb = (nonneg (lookN p lb).xs && decide (endsE (spW p b lb) = 0)) := by
   unfold goodB goesC; simp [hl0]
  obtain ⟨cE, cF, cT⟩ := cost_spW HG.out HBS.out hl0
  rw [hgood] at HSUC
  have HCE := h_ cE
  have HCF := h_ cF
  have HCT := h_ cT
  have HL0 := h_ hl0
  have HCO := h_ hco
  clear hgood cE cF cT hl0 hco
  have e0 := BC.out.cell 0
  have e1 := BC.out.cell 1
  have e2 := BC.out.cell 2
  have e3 := BC.out.cell 3
  have e4 := BC.out.cell 4
  have e5 := BC.out.cell 5
  simp at e0 e1 e2 e3 e4 e5
  have HGO := h_ (solve_Goes X Y G cx (lookN p lb).ys.length cy (lookN p lb).gs.length cg (lookN p lb).xs (lookN p lb).xd (lookN p lb).yd (lookN p lb).gd Wb HC2.out.x)
  cases hg : nonneg (lookN p lb).xs with
  | false =>
   rw [hg] at HGO HSUC
   clear hg
   gi_wp2_with fail
   refine ⟨trivial, rfl, ?_⟩
   refine (CallsIn.inRound l (callsIn_wide.2 HGO.out)).mono ?_
   rintro e w3 ⟨rfl, hb3⟩
   gi_wp2_with fail
   refine ⟨(KeepsFrom.of_below hb3 _), .of_below hb3, ?_⟩
   show MapL w3 M (linesK p b (k + 1))
   rw [HSUC.out]
   exact HML2.out.below hb3
  | true =>
   rw [hg] at HGO HSUC
   have HNN := h_ hg
   clear hg
   gi_wp2_with fail
   refine ⟨trivial, rfl, ?_⟩
   refine (CallsIn.inRound l (callsIn_wide.2 HGO.out)).mono ?_
   rintro e w3 ⟨rfl, hb3⟩
   have HKS3 := h_ (HKS2.out.next hb3)
   have H3 := h_ hb3
   obtain ⟨p0, p1, y0, m0⟩ := HSP.out w3 HKS3.out
   clear hb3 e0 e1 e2 e3 e4 e5 HGO
   have HCO3 := h_ (span_Costs A c A2 c2 p L (ints lb) cl B b cb w3 (HPB.out w3 HKS3.out) (HL2.out.below H3.out) (HBB.out w3 HKS3.out))
   rw [intsN_len] at HCO3
   gi_wp2_with fail
   refine ⟨trivial, rfl, ?_⟩
   refine (CallsIn.inRound l (callsIn_wide.2 HCO3.out)).mono ?_
   rintro e w4 ⟨rfl, hb4⟩
   rw [HCE.out, HCF.out, HCT.out]
   have HKS4 := h_ (HKS3.out.next hb4)
   have H4 := h_ (H3.out.trans (hb4.mono H3.out.size))
   have hbcl := BC.out.lt
   have z4 := H4.out.size
   clear hb4 p0 p1 y0 m0 HCO3
   cases hE : decide (endsE (spW p b lb) = 0) with
   | false =>
    rw [hE] at HSUC
    have hE0 : ¬ (endsE (spW p b lb) = 0) := of_decide_eq_false hE
    have hE1 : (endsE (spW p b lb) == 0) = false := by simpa using hE0
    clear hE
    gi_wp2_with fail
    refine ⟨(KeepsFrom.of_below (by (repeat (any_goals (first | exact qR _ _ | exact H4.out | refine below_drewN ?_ _ | refine qD ?_ | refine qA ?_ ?_ _ | refine qS ?_ ?_ _ | refine Below.trans ?_ (Below.mono H4.out ?_)))); all_goals (first | omega | (simp; done) | (simp; omega) | ((try have z0 := H4.out.size); (try simp at z0); (try simp); omega))) _), .of_below (by (repeat (any_goals (first | exact qR _ _ | exact H4.out | refine below_drewN ?_ _ | refine qD ?_ | refine qA ?_ ?_ _ | refine qS ?_ ?_ _ | refine Below.trans ?_ (Below.mono H4.out ?_)))); all_goals (first | omega | (simp; done) | (simp; omega) | ((try have z0 := H4.out.size); (try simp at z0); (try simp); omega))), ?_⟩
    show MapL _ M (linesK p b (k + 1))
    rw [HSUC.out]
    exact (HML2.out.below H4.out).below (by (repeat (any_goals (first | exact qR _ _ | refine below_drewN ?_ _ | refine qD ?_ | refine qA ?_ ?_ _ | refine qS ?_ ?_ _))); all_goals (first | omega | (simp; done) | (simp; omega)))
   | true =>
    rw [hE] at HSUC
    have hE0 : endsE (spW p b lb) = 0 := of_decide_eq_true hE
    rw [hE0]
    clear hE
    generalize hF : endsF (spW p b lb) = F at *
    generalize hT : endsT (spW p b lb) = T at *
    gi_wp2_with fail
    have BF := h_ (show Blk ((w4.alloc (.cells #[.bool F.op, .int .i64 F.n, .int .i64 F.d] 77)).alloc (.cells #[.bool T.op, .int .i64 T.n, .int .i64 T.d] 77)) w4.heap.size 77 #[.bool F.op, .int .i64 F.n, .int .i64 F.d] from (Blk.mk' _ _ _).alloc _)
    have BT := h_ (show Blk ((w4.alloc (.cells #[.bool F.op, .int .i64 F.n, .int .i64 F.d] 77)).alloc (.cells #[.bool T.op, .int .i64 T.n, .int .i64 T.d] 77)) (w4.heap.size + 1) 77 #[.bool T.op, .int .i64 T.n, .int .i64 T.d] from Blk.new (w4.alloc (.cells #[.bool F.op, .int .i64 F.n, .int .i64 F.d] 77)) 77 _ _ (by simp))
    have H5 := h_ (H4.out.trans (((by (repeat (any_goals (first | exact qR _ _ | refine below_drewN ?_ _ | refine qD ?_ | refine qA ?_ ?_ _ | refine qS ?_ ?_ _))); all_goals (first | omega | (simp; done) | (simp; omega))) : Below w4.heap.size w4 ((w4.alloc (.cells #[.bool F.op, .int .i64 F.n, .int .i64 F.d] 77)).alloc (.cells #[.bool T.op, .int .i64 T.n, .int .i64 T.d] 77))).mono z4))
    generalize ((w4.alloc (.cells #[.bool F.op, .int .i64 F.n, .int .i64 F.d] 77)).alloc (.cells #[.bool T.op, .int .i64 T.n, .int .i64 T.d] 77)) = U at *
    generalize hbf : w4.heap.size = bf at *
    have z5 := H5.out.size
    have HKU := h_ (fun u : Wk U => HKS2.out.next (H5.out.trans (u.2.mono z5)))
    have p0 : ∀ u : Wk U, u.1.cell? ⟨w.heap.size, 0, none⟩ = some (.slice A p.costs.length c) := fun u => (HSP.out u.1 (HKU.out u)).1
    have p1 : ∀ u : Wk U, u.1.cell? ⟨w.heap.size, 1, none⟩ = some (.slice A2 p.rows.length c2) := fun u => (HSP.out u.1 (HKU.out u)).2.1
    have y0 : ∀ u : Wk U, u.1.cell? ⟨w.heap.size + 1, 0, none⟩ = some (.slice B b.length cb) := fun u => (HSP.out u.1 (HKU.out u)).2.2.1
    have e0 : ∀ u : Wk U, u.1.cell? ⟨bc, 0, none⟩ = some (.slice X (lookN p lb).xs.length cx) := fun u => (BC.out.next (H5.out.trans (u.2.mono z5))).cell 0
    have e1 : ∀ u : Wk U, u.1.cell? ⟨bc, 1, none⟩ = some (.int .i64 (lookN p lb).xd) := fun u => (BC.out.next (H5.out.trans (u.2.mono z5))).cell 1
    have e2 : ∀ u : Wk U, u.1.cell? ⟨bc, 2, none⟩ = some (.slice Y (lookN p lb).ys.length cy) := fun u => (BC.out.next (H5.out.trans (u.2.mono z5))).cell 2
    have e3 : ∀ u : Wk U, u.1.cell? ⟨bc, 3, none⟩ = some (.int .i64 (lookN p lb).yd) := fun u => (BC.out.next (H5.out.trans (u.2.mono z5))).cell 3
    have e4 : ∀ u : Wk U, u.1.cell? ⟨bc, 4, none⟩ = some (.slice G (lookN p lb).gs.length cg) := fun u => (BC.out.next (H5.out.trans (u.2.mono z5))).cell 4
    have e5 : ∀ u : Wk U, u.1.cell? ⟨bc, 5, none⟩ = some (.int .i64 (lookN p lb).gd) := fun u => (BC.out.next (H5.out.trans (u.2.mono z5))).cell 5
    have hlx : p.costs.length < (lookN p lb).xs.length := by
     have h1 : (lookN p lb).xs.length = p.costs.length + p.rows.length := HCO.out.lx
     have h2 := (mayPB_iff.1 HM.out).2.2.1
     omega
    have hsv : smallB 497664 ((lookN p lb).xs.take p.costs.length) = true := var_small HCO.out
    have hok : OKb p lb := goesC_iff.1 (by unfold goesC; rw [HL0.out, HNN.out]; rfl)
    have HOK := h_ hok
    clear hok
    have HVA := h_ (fun u : Wk U => walk_Value A c A2 c2 p X Y G cx (lookN p lb).ys.length cy (lookN p lb).gs.length cg (lookN p lb).xs (lookN p lb).xd (lookN p lb).yd (lookN p lb).gd u.1 (HPB.out u.1 (HKU.out u)) HM.out ((HC2.out.x.below H5.out).below u.2) (by omega) (by omega) hsv)
    have hv0 : dot p.costs ((lookN p lb).xs.take p.costs.length) = valN p lb := rfl
    rw [hv0] at HVA
    obtain ⟨ev, hev⟩ : ∃ ev, ptE [valN p lb] (lookN p lb).xd = ev := ⟨_, rfl⟩
    have HFM := h_ (fun u : Wk U => frac_Make (valN p lb) (lookN p lb).xd u.1)
    obtain ⟨fn, hfn⟩ : ∃ fn, frN (valN p lb) (lookN p lb).xd = fn := ⟨_, rfl⟩
    obtain ⟨fd, hfd⟩ : ∃ fd, ptD [valN p lb] (lookN p lb).xd = fd := ⟨_, rfl⟩
    obtain ⟨fe, hfe⟩ : ∃ fe, ptE [valN p lb] (lookN p lb).xd = fe := ⟨_, rfl⟩
    rw [hfn, hfd, hfe] at HFM
    have HFN := h_ (And.intro hfn hfd)
    clear hfn hfd hfe hev hv0 ev
    refine wk_allocR 10 11 _ _ 11 (.cells #[.int .i64 0, .int .i64 0] 55) (.cells #[.int .i64 (fn), .int .i64 (fd)] 55) undef (.agg #[.int .i64 (fn), .int .i64 (fd)]) (.tmp 44) (by kernel_rfl) (by kernel_rfl) (by kernel_rfl) (fun _ _ h => h) (by decide) (by kernel_rfl) rfl rfl rfl rfl rfl rfl (by kernel_rfl) (by intro o ho x hx; cases ho; cases hx; decide) (by intro h; cases h) (by kernel_rfl) (by simp) ?_ ?_ ?_
    ·intro ρ u
     go_simp
     done
    ·intro ρ u g h1 h2 h3
     have hB : Blk u g 55 #[.int .i64 0, .int .i64 0] := h3
     have c0 := hB.cell 0
     have c1 := hB.cell 1
     have g0 := hB.frozen 0
     have g1 := hB.frozen 1
     simp at c0 c1
     refine ⟨(u.setCell ⟨g, 0, none⟩ (.int .i64 (fn))).setCell ⟨g, 1, none⟩ (.int .i64 (fd)), .inl ?_, ?_, ?_⟩
     ·clear h3 hB
      simp [execOp, go_sem, h1, h2, c0, c1, g0, g1]
      done
     ·exact ((hB.set0 0 _).set0 1 _)
     ·exact World.grownBy.trans (gb_cell _ _ _ _) (gb_cell _ _ _ _)
    refine wpS_val (.agg #[.slice A p.costs.length c, .slice A2 p.rows.length c2]) (by decide) (by decide) rfl (fun u => ?_) ?_
    ·go_simp
     done
    simp only [Act.put, Nat.reduceAdd, List.setIfInBounds_toArray, List.set_cons_zero, List.set_cons_succ]
    refine wpS_val (.agg #[.slice X (lookN p lb).xs.length cx, .int .i64 (lookN p lb).xd, .slice Y (lookN p lb).ys.length cy, .int .i64 (lookN p lb).yd, .slice G (lookN p lb).gs.length cg, .int .i64 (lookN p lb).gd]) (by decide) (by decide) rfl (fun u => ?_) ?_
    ·go_simp
     done
    simp only [Act.put, Nat.reduceAdd, List.setIfInBounds_toArray, List.set_cons_zero, List.set_cons_succ]
    refine wpS_call (.int .i64 (valN p lb)) (97) (#[.agg #[.slice A p.costs.length c, .slice A2 p.rows.length c2], .agg #[.slice X (lookN p lb).xs.length cx, .int .i64 (lookN p lb).xd, .slice Y (lookN p lb).ys.length cy, .int .i64 (lookN p lb).yd, .slice G (lookN p lb).gs.length cg, .int .i64 (lookN p lb).gd]]) (by decide) (by decide) rfl (fun u => ?_) (fun u => HVA.out u) ?_
    ·go_simp
     done
    simp only [Act.put, Nat.reduceAdd, List.setIfInBounds_toArray, List.set_cons_zero, List.set_cons_succ]
    refine wpS_val (.pointer (some ⟨bc, 0, none⟩)) (by decide) (by decide) rfl (fun u => ?_) ?_
    ·go_simp
     done
    simp only [Act.put, Nat.reduceAdd, List.setIfInBounds_toArray, List.set_cons_zero, List.set_cons_succ]
    refine wpS_val (.pointer (some ⟨bc, 1, none⟩)) (by decide) (by decide) rfl (fun u => ?_) ?_
    ·go_simp
     done
    simp only [Act.put, Nat.reduceAdd, List.setIfInBounds_toArray, List.set_cons_zero, List.set_cons_succ]
    refine wpS_val (.int .i64 (lookN p lb).xd) (by decide) (by decide) rfl (fun u => ?_) ?_
    ·go_simp
     done
    simp only [Act.put, Nat.reduceAdd, List.setIfInBounds_toArray, List.set_cons_zero, List.set_cons_succ]
    refine wpS_call (.tuple #[.agg #[.int .i64 fn, .int .i64 fd], .int .i64 fe]) (83) (#[.int .i64 (valN p lb), .int .i64 (lookN p lb).xd]) (by decide) (by decide) rfl (fun u => ?_) (fun u => HFM.out u) ?_
    ·go_simp
     done
    simp only [Act.put, Nat.reduceAdd, List.setIfInBounds_toArray, List.set_cons_zero, List.set_cons_succ]
    refine wpS_val (.tuple #[.agg #[.int .i64 fn, .int .i64 fd], .int .i64 fe]) (by decide) (by decide) rfl (fun u => ?_) ?_
    ·go_simp
     done
    simp only [Act.put, Nat.reduceAdd, List.setIfInBounds_toArray, List.set_cons_zero, List.set_cons_succ]
    refine wpS_val (.agg #[.int .i64 fn, .int .i64 fd]) (by decide) (by decide) rfl (fun u => ?_) ?_
    ·go_simp
     done
    simp only [Act.put, Nat.reduceAdd, List.setIfInBounds_toArray, List.set_cons_zero, List.set_cons_succ]
    refine wpS_val (.int .i64 fe) (by decide) (by decide) rfl (fun u => ?_) ?_
    ·go_simp
     done
    simp only [Act.put, Nat.reduceAdd, List.setIfInBounds_toArray, List.set_cons_zero, List.set_cons_succ]
    refine wpS_make rfl ?_
    simp only [Act.put, Nat.reduceAdd, List.setIfInBounds_toArray, List.set_cons_zero, List.set_cons_succ]
    refine wpS_fill (by decide) rfl rfl ?_
    simp only [Act.put, Nat.reduceAdd, List.setIfInBounds_toArray, List.set_cons_zero, List.set_cons_succ]
    refine wpS_val (.int .i64 fe) (by decide) (by decide) rfl (fun u => ?_) ?_
    ·go_simp
     done
    simp only [Act.put, Nat.reduceAdd, List.setIfInBounds_toArray, List.set_cons_zero, List.set_cons_succ]
    unfold wpS
    intro g8 V8 hg8 hV8 hblk8
    simp only [Act.put, Nat.reduceAdd, List.setIfInBounds_toArray, List.set_cons_zero, List.set_cons_succ]
    have HV8 := h_ (show Below U.heap.size U V8 from hV8)
    have hz8 := hV8.size
    have B8 := h_ (show Blk V8 g8 55 #[.int .i64 fn, .int .i64 fd] from hblk8)
    have H8 := h_ (H5.out.trans (hV8.mono z5))
    have lg8 := (B8.out).lt
    have up : ∀ u : Wk V8, ∃ v : Wk U, u.1 = v.1 := fun u => ⟨⟨u.1, HV8.out.trans (u.2.mono hz8)⟩, rfl⟩
    have q0 : ∀ u : Wk V8, u.1.cell? ⟨w.heap.size, 0, none⟩ = some (.slice A p.costs.length c) := fun u => by obtain ⟨v, hv⟩ := up u; rw [hv]; exact p0 v
    have q1 : ∀ u : Wk V8, u.1.cell? ⟨w.heap.size, 1, none⟩ = some (.slice A2 p.rows.length c2) := fun u => by obtain ⟨v, hv⟩ := up u; rw [hv]; exact p1 v
    have y1 : ∀ u : Wk V8, u.1.cell? ⟨w.heap.size + 1, 0, none⟩ = some (.slice B b.length cb) := fun u => by obtain ⟨v, hv⟩ := up u; rw [hv]; exact y0 v
    have f0 : ∀ u : Wk V8, u.1.cell? ⟨bc, 0, none⟩ = some (.slice X (lookN p lb).xs.length cx) := fun u => by obtain ⟨v, hv⟩ := up u; rw [hv]; exact e0 v
    have f1 : ∀ u : Wk V8, u.1.cell? ⟨bc, 1, none⟩ = some (.int .i64 (lookN p lb).xd) := fun u => by obtain ⟨v, hv⟩ := up u; rw [hv]; exact e1 v
    have f2 : ∀ u : Wk V8, u.1.cell? ⟨bc, 2, none⟩ = some (.slice Y (lookN p lb).ys.length cy) := fun u => by obtain ⟨v, hv⟩ := up u; rw [hv]; exact e2 v
    have f3 : ∀ u : Wk V8, u.1.cell? ⟨bc, 3, none⟩ = some (.int .i64 (lookN p lb).yd) := fun u => by obtain ⟨v, hv⟩ := up u; rw [hv]; exact e3 v
    have f4 : ∀ u : Wk V8, u.1.cell? ⟨bc, 4, none⟩ = some (.slice G (lookN p lb).gs.length cg) := fun u => by obtain ⟨v, hv⟩ := up u; rw [hv]; exact e4 v
    have f5 : ∀ u : Wk V8, u.1.cell? ⟨bc, 5, none⟩ = some (.int .i64 (lookN p lb).gd) := fun u => by obtain ⟨v, hv⟩ := up u; rw [hv]; exact e5 v
    have HVS := h_ (fun u : Wk V8 => show Calls Tryz.prog 35 #[.agg #[.slice A p.costs.length c, .slice A2 p.rows.length c2], .agg #[.slice X (lookN p lb).xs.length cx, .int .i64 (lookN p lb).xd, .slice Y (lookN p lb).ys.length cy, .int .i64 (lookN p lb).yd, .slice G (lookN p lb).gs.length cg, .int .i64 (lookN p lb).gd]] u.1 (fun e w' => e = .returned (.slice X p.costs.length cx) ∧ Below u.1.heap.size u.1 w') from by
     obtain ⟨v, hv⟩ := up u
     rw [hv]
     exact walk_Variables A c A2 c2 p X Y G cx (lookN p lb).ys.length cy (lookN p lb).gs.length cg (lookN p lb).xs (lookN p lb).xd (lookN p lb).yd (lookN p lb).gd v.1 (HPB.out v.1 (HKU.out v)) ((HC2.out.x.below H5.out).below v.2) (by omega) (by omega))
    have HDO := h_ (fun u : Wk V8 => show Calls Tryz.prog 84 #[.slice B b.length cb, .slice X p.costs.length cx] u.1 (fun e w' => e = .returned (.int .i64 (valB p b lb)) ∧ Below u.1.heap.size u.1 w') from by
     obtain ⟨v, hv⟩ := up u
     rw [hv]
     have hlt : ((lookN p lb).xs.take p.costs.length).length = p.costs.length := by rw [List.length_take]; omega
     have := layout_Dot B b cb X ((lookN p lb).xs.take p.costs.length) cx 400 497664 v.1 (HBB.out v.1 (HKU.out v)) (rd_take ((HC2.out.x.below H5.out).below v.2) (by omega)) (by rw [hlt]; exact Nat.le_of_eq HG.out.len) (by omega) (by omega) HG.out.small hsv (by rw [HG.out.len]; have := (mayPB_iff.1 HM.out).2.1; omega)
     rw [hlt] at this
     refine this.mono ?_
     rintro e w' ⟨rfl, n, rfl⟩
     exact ⟨rfl, below_drewN (Below.refl _ _) _⟩)
    obtain ⟨sn, hsn⟩ : ∃ sn, frN (valB p b lb) (lookN p lb).xd = sn := ⟨_, rfl⟩
    obtain ⟨sd, hsd⟩ : ∃ sd, ptD [valB p b lb] (lookN p lb).xd = sd := ⟨_, rfl⟩
    obtain ⟨se, hse⟩ : ∃ se, ptE [valB p b lb] (lookN p lb).xd = se := ⟨_, rfl⟩
    have HFS := h_ (fun u : Wk V8 => frac_Make (valB p b lb) (lookN p lb).xd u.1)
    rw [hsn, hsd, hse] at HFS
    have HSN := h_ (And.intro hsn hsd)
    clear hsn hsd hse p0 p1 y0 e0 e1 e2 e3 e4 e5 up HVA HFM hV8 hblk8
    gi_wp2_with fail
    refine wk_allocR 12 13 _ _ 13 (.cells #[.int .i64 0, .int .i64 0] 55) (.cells #[.int .i64 (sn), .int .i64 (sd)] 55) undef (.agg #[.int .i64 (sn), .int .i64 (sd)]) (.tmp 56) (by kernel_rfl) (by kernel_rfl) (by kernel_rfl) (fun _ _ h => h) (by decide) (by kernel_rfl) rfl rfl rfl rfl rfl rfl (by kernel_rfl) (by intro o ho x hx; cases ho; cases hx; decide) (by intro h; cases h) (by kernel_rfl) (by simp) ?_ ?_ ?_
    ·intro ρ u
     go_simp
     done
    ·intro ρ u g h1 h2 h3
     have hB : Blk u g 55 #[.int .i64 0, .int .i64 0] := h3
     have c0 := hB.cell 0
     have c1 := hB.cell 1
     have g0 := hB.frozen 0
     have g1 := hB.frozen 1
     simp at c0 c1
     refine ⟨(u.setCell ⟨g, 0, none⟩ (.int .i64 (sn))).setCell ⟨g, 1, none⟩ (.int .i64 (sd)), .inl ?_, ?_, ?_⟩
     ·clear h3 hB
      simp [execOp, go_sem, h1, h2, c0, c1, g0, g1]
      done
     ·exact ((hB.set0 0 _).set0 1 _)
     ·exact World.grownBy.trans (gb_cell _ _ _ _) (gb_cell _ _ _ _)
    refine wpS_val (.slice B b.length cb) (by decide) (by decide) rfl (fun u => ?_) ?_
    ·go_simp
     done
    simp only [Act.put, Nat.reduceAdd, List.setIfInBounds_toArray, List.set_cons_zero, List.set_cons_succ]
    refine wpS_val (.agg #[.slice A p.costs.length c, .slice A2 p.rows.length c2]) (by decide) (by decide) rfl (fun u => ?_) ?_
    ·go_simp
     done
    simp only [Act.put, Nat.reduceAdd, List.setIfInBounds_toArray, List.set_cons_zero, List.set_cons_succ]
    refine wpS_val (.agg #[.slice X (lookN p lb).xs.length cx, .int .i64 (lookN p lb).xd, .slice Y (lookN p lb).ys.length cy, .int .i64 (lookN p lb).yd, .slice G (lookN p lb).gs.length cg, .int .i64 (lookN p lb).gd]) (by decide) (by decide) rfl (fun u => ?_) ?_
    ·go_simp
     done
    simp only [Act.put, Nat.reduceAdd, List.setIfInBounds_toArray, List.set_cons_zero, List.set_cons_succ]
    refine wpS_call (.slice X p.costs.length cx) (35) (#[.agg #[.slice A p.costs.length c, .slice A2 p.rows.length c2], .agg #[.slice X (lookN p lb).xs.length cx, .int .i64 (lookN p lb).xd, .slice Y (lookN p lb).ys.length cy, .int .i64 (lookN p lb).yd, .slice G (lookN p lb).gs.length cg, .int .i64 (lookN p lb).gd]]) (by decide) (by decide) rfl (fun u => ?_) (fun u => HVS.out u) ?_
    ·go_simp
     done
    simp only [Act.put, Nat.reduceAdd, List.setIfInBounds_toArray, List.set_cons_zero, List.set_cons_succ]
    refine wpS_call (.int .i64 (valB p b lb)) (84) (#[.slice B b.length cb, .slice X p.costs.length cx]) (by decide) (by decide) rfl (fun u => ?_) (fun u => HDO.out u) ?_
    ·go_simp
     done
    simp only [Act.put, Nat.reduceAdd, List.setIfInBounds_toArray, List.set_cons_zero, List.set_cons_succ]
    refine wpS_val (.pointer (some ⟨bc, 0, none⟩)) (by decide) (by decide) rfl (fun u => ?_) ?_
    ·go_simp
     done
    simp only [Act.put, Nat.reduceAdd, List.setIfInBounds_toArray, List.set_cons_zero, List.set_cons_succ]
    refine wpS_val (.pointer (some ⟨bc, 1, none⟩)) (by decide) (by decide) rfl (fun u => ?_) ?_
    ·go_simp
     done
    simp only [Act.put, Nat.reduceAdd, List.setIfInBounds_toArray, List.set_cons_zero, List.set_cons_succ]
    refine wpS_val (.int .i64 (lookN p lb).xd) (by decide) (by decide) rfl (fun u => ?_) ?_
    ·go_simp
     done
    simp only [Act.put, Nat.reduceAdd, List.setIfInBounds_toArray, List.set_cons_zero, List.set_cons_succ]
    refine wpS_call (.tuple #[.agg #[.int .i64 sn, .int .i64 sd], .int .i64 se]) (83) (#[.int .i64 (valB p b lb), .int .i64 (lookN p lb).xd]) (by decide) (by decide) rfl (fun u => ?_) (fun u => HFS.out u) ?_
    ·go_simp
     done
    simp only [Act.put, Nat.reduceAdd, List.setIfInBounds_toArray, List.set_cons_zero, List.set_cons_succ]
    refine wpS_val (.tuple #[.agg #[.int .i64 sn, .int .i64 sd], .int .i64 se]) (by decide) (by decide) rfl (fun u => ?_) ?_
    ·go_simp
     done
    simp only [Act.put, Nat.reduceAdd, List.setIfInBounds_toArray, List.set_cons_zero, List.set_cons_succ]
    refine wpS_val (.agg #[.int .i64 sn, .int .i64 sd]) (by decide) (by decide) rfl (fun u => ?_) ?_
    ·go_simp
     done
    simp only [Act.put, Nat.reduceAdd, List.setIfInBounds_toArray, List.set_cons_zero, List.set_cons_succ]
    refine wpS_val (.int .i64 se) (by decide) (by decide) rfl (fun u => ?_) ?_
    ·go_simp
     done
    simp only [Act.put, Nat.reduceAdd, List.setIfInBounds_toArray, List.set_cons_zero, List.set_cons_succ]
    refine wpS_make rfl ?_
    simp only [Act.put, Nat.reduceAdd, List.setIfInBounds_toArray, List.set_cons_zero, List.set_cons_succ]
    refine wpS_fill (by decide) rfl rfl ?_
    simp only [Act.put, Nat.reduceAdd, List.setIfInBounds_toArray, List.set_cons_zero, List.set_cons_succ]
    refine wpS_val (.int .i64 se) (by decide) (by decide) rfl (fun u => ?_) ?_
    ·go_simp
     done
    simp only [Act.put, Nat.reduceAdd, List.setIfInBounds_toArray, List.set_cons_zero, List.set_cons_succ]
    unfold wpS
    intro g9 V9 hg9 hV9 hblk9
    simp only [Act.put, Nat.reduceAdd, List.setIfInBounds_toArray, List.set_cons_zero, List.set_cons_succ]
    have H9 := h_ (H8.out.trans (hV9.mono (by omega)))
    have z9 := H9.out.size
    have hz9 := hV9.size
    have c80 : V9.cell? ⟨g8, 0, none⟩ = some (.int .i64 fn) := (B8.out.next hV9).cell 0
    have c81 : V9.cell? ⟨g8, 1, none⟩ = some (.int .i64 fd) := (B8.out.next hV9).cell 1
    have b9 : Blk V9 g9 55 #[.int .i64 sn, .int .i64 sd] := hblk9
    have c90 : V9.cell? ⟨g9, 0, none⟩ = some (.int .i64 sn) := b9.cell 0
    have c91 : V9.cell? ⟨g9, 1, none⟩ = some (.int .i64 sd) := b9.cell 1
    have lg9 := b9.lt
    have BF9 := h_ (BF.out.next (HV8.out.trans (hV9.mono hz8)))
    have BT9 := h_ (BT.out.next (HV8.out.trans (hV9.mono hz8)))
    have HML9 := h_ (HML2.out.below H9.out)
    have HK9 := h_ (HKS2.out.next H9.out)
    clear q0 q1 y1 f0 f1 f2 f3 f4 f5 HVS HDO HFS hV9 hblk9 b9 HKU hg8 hg9
    have hm3 : V9.cell? ⟨w.heap.size + 3, 0, none⟩ = some (.map (some M)) := (HSP.out V9 HK9.out).2.2.2
    have hm4 := lc_ hm3
    have t0 : V9.cell? ⟨bf, 0, none⟩ = some (.bool F.op) := BF9.out.cell 0
    have t1 : V9.cell? ⟨bf, 1, none⟩ = some (.int .i64 F.n) := BF9.out.cell 1
    have t2 : V9.cell? ⟨bf, 2, none⟩ = some (.int .i64 F.d) := BF9.out.cell 2
    have t3 : V9.cell? ⟨bf + 1, 0, none⟩ = some (.bool T.op) := BT9.out.cell 0
    have t4 : V9.cell? ⟨bf + 1, 1, none⟩ = some (.int .i64 T.n) := BT9.out.cell 1
    have t5 : V9.cell? ⟨bf + 1, 2, none⟩ = some (.int .i64 T.d) := BT9.out.cell 2
    have lbf := BF9.out.lt
    have lbt := BT9.out.lt
    simp only at hm4
    have hx : pcZ p b lb = ⟨F, T, fn, fd, sn, sd⟩ := by
     unfold pcZ
     rw [hF, hT, HFN.out.1, HFN.out.2, HSN.out.1, HSN.out.2]
    have hln := ln_ok HG.out HOK.out HCO.out.px
    rw [hx] at hln HSUC
    have HLN := h_ hln
    clear hln hx hF hT
    rcases (HML9.out.below ((Below.refl _ V9).alloc (Nat.le_refl _) (.cells #[.int .i64 fn, .int .i64 fd, .int .i64 sn, .int .i64 sd] 132))).look HLN.out with ⟨hno, hrun⟩ | ⟨j, y, hj, hy, hrun⟩
    ·unfold lnV wdV zeroE at hrun
     simp only at hrun
     have HNO := h_ hno
     clear hno
     obtain ⟨o, hput, hml⟩ := ((HML9.out.below ((Below.refl _ V9).alloc (Nat.le_refl _) (.cells #[.int .i64 fn, .int .i64 fd, .int .i64 sn, .int .i64 sd] 132))).below ((Below.refl _ _).alloc (Nat.le_refl _) (.cells #[.bool false, .int .i64 0, .int .i64 0, .bool false, .int .i64 0, .int .i64 0] 134))).new HLN.out HNO.out
     have HPM := h_ hml
     unfold lnV wdV at hput
     simp only at hput
     clear hml
     gi_wp2_with fail
     refine ⟨(KeepsFrom.of_below (H9.out.trans (by (repeat (any_goals (first | exact qR _ _ | refine below_drewN ?_ _ | refine qD ?_ | refine qA ?_ ?_ _ | refine qS ?_ ?_ _))); all_goals (first | omega | (simp; done) | (simp; omega)))) _).trans (kf_set hMlt _ _), ((KS.of_below (H9.out.trans (by (repeat (any_goals (first | exact qR _ _ | refine below_drewN ?_ _ | refine qD ?_ | refine qA ?_ ?_ _ | refine qS ?_ ?_ _))); all_goals (first | omega | (simp; done) | (simp; omega))))).trans (ks_set hSr _ _)), ?_⟩
     show MapL _ M (linesK p b (k + 1))
     rw [HSUC.out]
     simp only [Bool.and_self, if_true]
     rw [join_new HNO.out]
     exact HPM.out
    ·unfold lnV wdV at hrun
     simp only at hrun
     have HJ := h_ (And.intro hj hy)
     clear hj hy
     gi_wp2_with fail
     have BL := h_ (show Blk ((V9.alloc (.cells #[.int .i64 fn, .int .i64 fd, .int .i64 sn, .int .i64 sd] 132)).alloc (.cells #[.bool y.fr.op, .int .i64 y.fr.n, .int .i64 y.fr.d, .bool y.to.op, .int .i64 y.to.n, .int .i64 y.to.d] 134)) V9.heap.size 132 #[.int .i64 fn, .int .i64 fd, .int .i64 sn, .int .i64 sd] from (Blk.mk' _ _ _).alloc _)
     have BW := h_ (show Blk ((V9.alloc (.cells #[.int .i64 fn, .int .i64 fd, .int .i64 sn, .int .i64 sd] 132)).alloc (.cells #[.bool y.fr.op, .int .i64 y.fr.n, .int .i64 y.fr.d, .bool y.to.op, .int .i64 y.to.n, .int .i64 y.to.d] 134)) (V9.heap.size + 1) 134 #[.bool y.fr.op, .int .i64 y.fr.n, .int .i64 y.fr.d, .bool y.to.op, .int .i64 y.to.n, .int .i64 y.to.d] from Blk.new (V9.alloc (.cells #[.int .i64 fn, .int .i64 fd, .int .i64 sn, .int .i64 sd] 132)) 134 _ _ (by simp))
     have HX := h_ ((by (repeat (any_goals (first | exact qR _ _ | refine below_drewN ?_ _ | refine qD ?_ | refine qA ?_ ?_ _ | refine qS ?_ ?_ _))); all_goals (first | omega | (simp; done) | (simp; omega))) : Below V9.heap.size V9 ((V9.alloc (.cells #[.int .i64 fn, .int .i64 fd, .int .i64 sn, .int .i64 sd] 132)).alloc (.cells #[.bool y.fr.op, .int .i64 y.fr.n, .int .i64 y.fr.d, .bool y.to.op, .int .i64 y.to.n, .int .i64 y.to.d] 134)))
     generalize ((V9.alloc (.cells #[.int .i64 fn, .int .i64 fd, .int .i64 sn, .int .i64 sd] 132)).alloc (.cells #[.bool y.fr.op, .int .i64 y.fr.n, .int .i64 y.fr.d, .bool y.to.op, .int .i64 y.to.n, .int .i64 y.to.d] 134)) = W2 at *
     generalize hvl : V9.heap.size = vl at *
     have zX := HX.out.size
     have lBW := BW.out.lt
     have BF2 := h_ (BF9.out.below HX.out lbf)
     have BT2 := h_ (BT9.out.below HX.out lbt)
     have H10 := h_ (H9.out.trans (HX.out.mono z9))
     have u0 : ∀ u : Wk W2, u.1.cell? ⟨vl + 1, 0, none⟩ = some (.bool y.fr.op) := fun u => (BW.out.next u.2).cell 0
     have u1 : ∀ u : Wk W2, u.1.cell? ⟨vl + 1, 1, none⟩ = some (.int .i64 y.fr.n) := fun u => (BW.out.next u.2).cell 1
     have u2 : ∀ u : Wk W2, u.1.cell? ⟨vl + 1, 2, none⟩ = some (.int .i64 y.fr.d) := fun u => (BW.out.next u.2).cell 2
     have u3 : ∀ u : Wk W2, u.1.cell? ⟨vl + 1, 3, none⟩ = some (.bool y.to.op) := fun u => (BW.out.next u.2).cell 3
     have u4 : ∀ u : Wk W2, u.1.cell? ⟨vl + 1, 4, none⟩ = some (.int .i64 y.to.n) := fun u => (BW.out.next u.2).cell 4
     have u5 : ∀ u : Wk W2, u.1.cell? ⟨vl + 1, 5, none⟩ = some (.int .i64 y.to.d) := fun u => (BW.out.next u.2).cell 5
     have v0 : ∀ u : Wk W2, u.1.cell? ⟨bf, 0, none⟩ = some (.bool F.op) := fun u => (BF2.out.next u.2).cell 0
     have v1 : ∀ u : Wk W2, u.1.cell? ⟨bf, 1, none⟩ = some (.int .i64 F.n) := fun u => (BF2.out.next u.2).cell 1
     have v2 : ∀ u : Wk W2, u.1.cell? ⟨bf, 2, none⟩ = some (.int .i64 F.d) := fun u => (BF2.out.next u.2).cell 2
     have v3 : ∀ u : Wk W2, u.1.cell? ⟨bf + 1, 0, none⟩ = some (.bool T.op) := fun u => (BT2.out.next u.2).cell 0
     have v4 : ∀ u : Wk W2, u.1.cell? ⟨bf + 1, 1, none⟩ = some (.int .i64 T.n) := fun u => (BT2.out.next u.2).cell 1
     have v5 : ∀ u : Wk W2, u.1.cell? ⟨bf + 1, 2, none⟩ = some (.int .i64 T.d) := fun u => (BT2.out.next u.2).cell 2
     have g0 : ∀ u : Wk W2, u.1.frozen? ⟨bf, 0, none⟩ = false := fun u => (BF2.out.next u.2).frozen 0
     have g1 : ∀ u : Wk W2, u.1.frozen? ⟨bf, 1, none⟩ = false := fun u => (BF2.out.next u.2).frozen 1
     have g2 : ∀ u : Wk W2, u.1.frozen? ⟨bf, 2, none⟩ = false := fun u => (BF2.out.next u.2).frozen 2
     have g3 : ∀ u : Wk W2, u.1.frozen? ⟨bf + 1, 0, none⟩ = false := fun u => (BT2.out.next u.2).frozen 0
     have g4 : ∀ u : Wk W2, u.1.frozen? ⟨bf + 1, 1, none⟩ = false := fun u => (BT2.out.next u.2).frozen 1
     have g5 : ∀ u : Wk W2, u.1.frozen? ⟨bf + 1, 2, none⟩ = false := fun u => (BT2.out.next u.2).frozen 2
     obtain ⟨nf, hnf⟩ : ∃ nf, undP y.fr F = nf := ⟨_, rfl⟩
     obtain ⟨nt, hnt⟩ : ∃ nt, ovrP y.to T = nt := ⟨_, rfl⟩
     have HUN := h_ (fun u : Wk W2 => show Calls Tryz.prog 98 #[.agg #[.bool y.fr.op, .int .i64 y.fr.n, .int .i64 y.fr.d], .agg #[.bool F.op, .int .i64 F.n, .int .i64 F.d]] u.1 (fun e w' => e = .returned (.agg #[.bool nf.op, .int .i64 nf.n, .int .i64 nf.d]) ∧ Below u.1.heap.size u.1 w') from by
      have := und_lem y.fr.op y.fr.n y.fr.d F.op F.n F.d u.1
      rw [show undP ⟨y.fr.op, y.fr.n, y.fr.d⟩ ⟨F.op, F.n, F.d⟩ = nf from hnf] at this
      exact this)
     have HOV := h_ (fun u : Wk W2 => show Calls Tryz.prog 99 #[.agg #[.bool y.to.op, .int .i64 y.to.n, .int .i64 y.to.d], .agg #[.bool T.op, .int .i64 T.n, .int .i64 T.d]] u.1 (fun e w' => e = .returned (.agg #[.bool nt.op, .int .i64 nt.n, .int .i64 nt.d]) ∧ Below u.1.heap.size u.1 w') from by
      have := ovr_lem y.to.op y.to.n y.to.d T.op T.n T.d u.1
      rw [show ovrP ⟨y.to.op, y.to.n, y.to.d⟩ ⟨T.op, T.n, T.d⟩ = nt from hnt] at this
      exact this)
     have HNF := h_ (And.intro hnf hnt)
     clear hnf hnt hrun t0 t1 t2 t3 t4 t5 c80 c81 c90 c91
     refine wk_tailR 8 (by kernel_rfl) (by kernel_rfl) (by kernel_rfl) (fun _ _ h => h) ?_
     simp only [List.take_succ_cons, List.take_zero, List.drop_succ_cons, List.drop_zero]
     repeat (go_big_quiet_step (first | (go_at_call 98; with_reducible exact wk_call (HUN.out _)) | (go_at_call 99; with_reducible exact wk_call (HOV.out _))))
     refine wpQuiet_nil ?_
     rintro w7 ⟨u7, rfl⟩
     go_wp2_with fail
     have hSb : ¬ S bf := fun h => by have := hSn _ h; have := HKS2.out.size; omega
     have hSc : ¬ S (bf + 1) := fun h => by have := hSn _ h; have := HKS2.out.size; omega
     have hbM : M ≠ bf ∧ M ≠ bf + 1 := by have := HKS2.out.size; omega
     have hbv : vl ≠ bf ∧ vl ≠ bf + 1 := by omega
     have HU7 := h_ u7.2
     have HKF := h_ (show KeepsFrom w1.heap.size Wb ((((((u7.1.setCell ⟨bf, 0, none⟩ (.bool nf.op)).setCell ⟨bf, 1, none⟩ (.int .i64 nf.n)).setCell ⟨bf, 2, none⟩ (.int .i64 nf.d)).setCell ⟨bf + 1, 0, none⟩ (.bool nt.op)).setCell ⟨bf + 1, 1, none⟩ (.int .i64 nt.n)).setCell ⟨bf + 1, 2, none⟩ (.int .i64 nt.d)) from
      ((((((KeepsFrom.of_below (H10.out.trans (HU7.out.mono (H10.out.size))) _).trans ((KeepsOthers.setCell _ _ _).from _)).trans ((KeepsOthers.setCell _ _ _).from _)).trans ((KeepsOthers.setCell _ _ _).from _)).trans ((KeepsOthers.setCell _ _ _).from _)).trans ((KeepsOthers.setCell _ _ _).from _)).trans ((KeepsOthers.setCell _ _ _).from _))
     have HKZ := h_ (show KS S Wb ((((((u7.1.setCell ⟨bf, 0, none⟩ (.bool nf.op)).setCell ⟨bf, 1, none⟩ (.int .i64 nf.n)).setCell ⟨bf, 2, none⟩ (.int .i64 nf.d)).setCell ⟨bf + 1, 0, none⟩ (.bool nt.op)).setCell ⟨bf + 1, 1, none⟩ (.int .i64 nt.n)).setCell ⟨bf + 1, 2, none⟩ (.int .i64 nt.d)) from
      ((((((KS.of_below (H10.out.trans (HU7.out.mono (H10.out.size)))).setCell _ _ hSb).setCell _ _ hSb).setCell _ _ hSb).setCell _ _ hSc).setCell _ _ hSc).setCell _ _ hSc)
     have HMZ := h_ (show MapL ((((((u7.1.setCell ⟨bf, 0, none⟩ (.bool nf.op)).setCell ⟨bf, 1, none⟩ (.int .i64 nf.n)).setCell ⟨bf, 2, none⟩ (.int .i64 nf.d)).setCell ⟨bf + 1, 0, none⟩ (.bool nt.op)).setCell ⟨bf + 1, 1, none⟩ (.int .i64 nt.n)).setCell ⟨bf + 1, 2, none⟩ (.int .i64 nt.d)) M (linesK p b k) from
      ((((((((HML9.out.below (by rw [hvl]; exact HX.out)).below HU7.out).keep (Below.heap_setCell _ _ _ _ hbM.1)).keep (Below.heap_setCell _ _ _ _ hbM.1)).keep (Below.heap_setCell _ _ _ _ hbM.1)).keep (Below.heap_setCell _ _ _ _ hbM.2)).keep (Below.heap_setCell _ _ _ _ hbM.2)).keep (Below.heap_setCell _ _ _ _ hbM.2)))
     have BLZ := h_ (show Blk ((((((u7.1.setCell ⟨bf, 0, none⟩ (.bool nf.op)).setCell ⟨bf, 1, none⟩ (.int .i64 nf.n)).setCell ⟨bf, 2, none⟩ (.int .i64 nf.d)).setCell ⟨bf + 1, 0, none⟩ (.bool nt.op)).setCell ⟨bf + 1, 1, none⟩ (.int .i64 nt.n)).setCell ⟨bf + 1, 2, none⟩ (.int .i64 nt.d)) vl 132 #[.int .i64 fn, .int .i64 fd, .int .i64 sn, .int .i64 sd] from
      (((((((BL.out.next HU7.out).far _ hbv.1).far _ hbv.1).far _ hbv.1).far _ hbv.2).far _ hbv.2).far _ hbv.2))
     have BFZ := h_ (show Blk ((((((u7.1.setCell ⟨bf, 0, none⟩ (.bool nf.op)).setCell ⟨bf, 1, none⟩ (.int .i64 nf.n)).setCell ⟨bf, 2, none⟩ (.int .i64 nf.d)).setCell ⟨bf + 1, 0, none⟩ (.bool nt.op)).setCell ⟨bf + 1, 1, none⟩ (.int .i64 nt.n)).setCell ⟨bf + 1, 2, none⟩ (.int .i64 nt.d)) bf 77 #[.bool nf.op, .int .i64 nf.n, .int .i64 nf.d] from
      (((((((BF2.out.next HU7.out).set0 0 _).set0 1 _).set0 2 _).far _ (by simp)).far _ (by simp)).far _ (by simp)))
     have BTZ := h_ (show Blk ((((((u7.1.setCell ⟨bf, 0, none⟩ (.bool nf.op)).setCell ⟨bf, 1, none⟩ (.int .i64 nf.n)).setCell ⟨bf, 2, none⟩ (.int .i64 nf.d)).setCell ⟨bf + 1, 0, none⟩ (.bool nt.op)).setCell ⟨bf + 1, 1, none⟩ (.int .i64 nt.n)).setCell ⟨bf + 1, 2, none⟩ (.int .i64 nt.d)) (bf + 1) 77 #[.bool nt.op, .int .i64 nt.n, .int .i64 nt.d] from
      (((((((BT2.out.next HU7.out).far _ (by simp)).far _ (by simp)).far _ (by simp)).set0 0 _).set0 1 _).set0 2 _))
     clear u0 u1 u2 u3 u4 u5 v0 v1 v2 v3 v4 v5 g0 g1 g2 g3 g4 g5 HU7
     generalize ((((((u7.1.setCell ⟨bf, 0, none⟩ (.bool nf.op)).setCell ⟨bf, 1, none⟩ (.int .i64 nf.n)).setCell ⟨bf, 2, none⟩ (.int .i64 nf.d)).setCell ⟨bf + 1, 0, none⟩ (.bool nt.op)).setCell ⟨bf + 1, 1, none⟩ (.int .i64 nt.n)).setCell ⟨bf + 1, 2, none⟩ (.int .i64 nt.d)) = Z at *
     obtain ⟨o, hput, hml⟩ := HMZ.out.old (x := ⟨nf, nt, fn, fd, sn, sd⟩) HLN.out HJ.out.1 HJ.out.2
     have HPM := h_ hml
     unfold lnV wdV at hput
     simp only at hput
     clear hml
     have m9 : Z.cell? ⟨w.heap.size + 3, 0, none⟩ = some (.map (some M)) := (HSP.out Z (HKS2.out.trans HKZ.out)).2.2.2
     have t0 : Z.cell? ⟨bf, 0, none⟩ = some (.bool nf.op) := BFZ.out.cell 0
     have t1 : Z.cell? ⟨bf, 1, none⟩ = some (.int .i64 nf.n) := BFZ.out.cell 1
     have t2 : Z.cell? ⟨bf, 2, none⟩ = some (.int .i64 nf.d) := BFZ.out.cell 2
     have t3 : Z.cell? ⟨bf + 1, 0, none⟩ = some (.bool nt.op) := BTZ.out.cell 0
     have t4 : Z.cell? ⟨bf + 1, 1, none⟩ = some (.int .i64 nt.n) := BTZ.out.cell 1
     have t5 : Z.cell? ⟨bf + 1, 2, none⟩ = some (.int .i64 nt.d) := BTZ.out.cell 2
     have c0 : Z.cell? ⟨vl, 0, none⟩ = some (.int .i64 fn) := BLZ.out.cell 0
     have c1 : Z.cell? ⟨vl, 1, none⟩ = some (.int .i64 fd) := BLZ.out.cell 1
     have c2 : Z.cell? ⟨vl, 2, none⟩ = some (.int .i64 sn) := BLZ.out.cell 2
     have c3 : Z.cell? ⟨vl, 3, none⟩ = some (.int .i64 sd) := BLZ.out.cell 3
     gi_wp2_with fail
     refine ⟨HKF.out.trans (kf_set hMlt _ _), HKZ.out.trans (ks_set hSr _ _), ?_⟩
     show MapL _ M (linesK p b (k + 1))
     rw [HSUC.out]
     simp only [Bool.and_self, if_true]
     rw [join_old HML9.out.apart HJ.out.1 HJ.out.2, HNF.out.1, HNF.out.2]
     exact HPM.out
end Go.Proofs.YtjcdkbalhleeeaaGreatDoor
