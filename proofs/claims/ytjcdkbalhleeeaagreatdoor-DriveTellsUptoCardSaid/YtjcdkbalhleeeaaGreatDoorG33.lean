/-
  Contracts of functions and plain laws that later parts of the proof use. The conditions stand in each theorem.
-/
import Derived.Test.YtjcdkbalhleeeaaGreatDoorG06
import Derived.Test.YtjcdkbalhleeeaaGreatDoorG30
import Derived.Test.YtjcdkbalhleeeaaGreatDoorG13
import Derived.WalkSpells
set_option maxRecDepth 100000
namespace Go.Proofs.YtjcdkbalhleeeaaGreatDoor
open Go.RowKit Go.Sort
theorem walk_Next (A : Option Addr) (c : Nat) (A2 : Option Addr) (c2 : Nat) (p : PG) (L : Option Addr) (l : List Int) (cl : Nat) (w : World) (hp : Pg w A c A2 c2 p) (hr : Rd w L cl l) :
    Calls Tryz.prog 52 #[.agg #[.slice A p.costs.length c, .slice A2 p.rows.length c2], .slice L l.length cl] w (RetNx w p l) := by
 by_cases he : lookE p l = 0
 ·cases hx : nonneg (lookC p l).xs with
  | true => exact next_on A c A2 c2 p L l cl w hp hr he hx
  | false => exact next_off A c A2 c2 p L l cl w hp hr he hx
 ·exact next_bad A c A2 c2 p L l cl w hp hr _ rfl he
theorem clone_any (L : Option Addr) (l : List Int) (cl : Nat) (w : World) (hr : Rd w L cl l) :
    Calls Tryz.prog 51 #[.slice L l.length cl] w fun e w' => ∃ O co, e = .returned (.slice O l.length co) ∧ Rd w' O co l ∧ (∀ ad, O = some ad → w.heap.size ≤ ad.block ∧ ad.block < w'.heap.size) ∧ Below w.heap.size w w' := by
 have hs := hr.small
 by_cases h0 : 0 < l.length
 ·obtain ⟨b, off, rfl, hc⟩ := hr.plain h0
  refine (slices_Clone b off l.length cl l w (Nat.le_refl _) (by omega) (fun j hj => hc j hj)).mono ?_
  rintro e w' ⟨v', rfl, hown, _, hb⟩
  rw [List.take_length] at hown
  obtain ⟨g, cap, rfl⟩ := own_some hown (by omega)
  exact ⟨some ⟨g, 0, none⟩, cap, rfl, Rd.of_own hown (by omega), fun ad e => by cases e; exact hown.lt g rfl, hb⟩
 ·obtain rfl : l = [] := List.eq_nil_of_length_eq_zero (by omega)
  cases L with
  | none =>
   refine (slices_Clone_nil _ _ w).mono ?_
   rintro e w' ⟨rfl, rfl⟩
   exact ⟨none, 0, rfl, Rd.nil _, fun ad e => (by cases e), Below.refl _ _⟩
  | some a =>
   refine (slices_Clone_zero a cl w).mono ?_
   rintro e w' ⟨v', rfl, hown, hn, hb⟩
   rcases hown.2 with ⟨h, _⟩ | ⟨g, cap, cur, rfl, hg, _⟩
   ·exact absurd h hn
   ·exact ⟨some ⟨g, 0, none⟩, cap, rfl, Rd.of_own (l := []) hown (by simp), fun ad e => by cases e; exact hown.lt g rfl, hb⟩
def RetWk (w : World) (p : PG) (l : List Int) (e : Ending) (w' : World) : Prop :=
 Below w.heap.size w w' ∧ (nextE p l ≠ 0 → e = .returned (.tuple #[.slice none 0 0, .int .i64 0, .int .i64 (nextE p l)])) ∧
 (nextE p l = 0 → ∃ k lk A c, EndAt p (nats l) k lk ∧ e = .returned (.tuple #[.slice A (k + 1) c, .int .i64 (kindZ p lk), .int .i64 0]) ∧ Ls w' A c (wkL p (nats l) (k + 1)))
def lenV : Value → Nat
 | .slice _ n _ => n
 | _ => 0
theorem LsB.len {w : World} {base k : Nat} {v : Value} {As : Nat → Option Addr} {cs : Nat → Nat} {f : Nat → List Int} (h : LsB w base v k As cs f) : lenV v = k := by
 rcases h.own.2 with ⟨rfl, rfl⟩ | ⟨g, cap, cur, rfl, _⟩ <;> rfl
set_option maxHeartbeats 2000000 in
theorem walk_bad (A : Option Addr) (c : Nat) (A2 : Option Addr) (c2 : Nat) (p : PG) (L : Option Addr) (l : List Int) (cl : Nat) (w : World) (hp : Pg w A c A2 c2 p) (hr : Rd w L cl l) (er : Int) (he : nextE p l = er) (h0 : er ≠ 0) :
    Calls Tryz.prog 24 #[.agg #[.slice A p.costs.length c, .slice A2 p.rows.length c2], .slice L l.length cl] w (RetWk w p l) := by
 have HE := h_ he
 have H0 := h_ h0
 have hz : (er != 0) = true := by simpa using h0
 have HP := h_ hp
 have HL := h_ hr
 obtain ⟨⟨hl, hc, hsm, _⟩, ⟨hl2, hc2, hsm2, _⟩⟩ := hp
 obtain ⟨hll, hlc, hls, _⟩ := hr
 clear he h0
 go_enter Tryz.func24, Tryz.ntmps24
 go_wp2_with fail
 have BP := h_ (Blk.mk' w 28 #[.slice A p.costs.length c, .slice A2 p.rows.length c2])
 have HVW := h_ ((by (repeat (any_goals (first | exact qR _ _ | refine below_drewN ?_ _ | refine qD ?_ | refine qA ?_ ?_ _ | refine qS ?_ ?_ _))); all_goals (first | omega | (simp; done) | (simp; omega))) : Below w.heap.size w (w.alloc (.cells #[.slice A p.costs.length c, .slice A2 p.rows.length c2] 28)))
 generalize (w.alloc (.cells #[.slice A p.costs.length c, .slice A2 p.rows.length c2] 28)) = V at *
 have zV := HVW.out.size
 refine (clone_any L l cl _ (HL.out.below HVW.out)).mono ?_
 rintro e w1 ⟨O, co, rfl, hO, _, hb1⟩
 have HO := h_ hO
 have H1 := h_ hb1
 obtain ⟨hol, hoc, _, _⟩ := hO
 clear hb1
 go_wp2_with fail
 go_loopw [7, 8] (fun s7 s8 wx => s7 = .slice none 0 0 ∧ s8 = .slice O l.length co ∧ Below w1.heap.size w1 wx) (fun _ _ _ => 0)
 case atStart => exact ⟨rfl, rfl, Below.refl _ _⟩
 case round =>
  obtain ⟨rfl, rfl, hbel⟩ := hrel
  rename World => U
  have HU := h_ (H1.out.trans (hbel.mono H1.out.size))
  have HB := h_ (HVW.out.trans (HU.out.mono zV))
  have p0 : U.cell? ⟨w.heap.size, 0, none⟩ = some (.slice A p.costs.length c) := (BP.out.next HU.out).cell 0
  have p1 : U.cell? ⟨w.heap.size, 1, none⟩ = some (.slice A2 p.rows.length c2) := (BP.out.next HU.out).cell 1
  have HNX := h_ (walk_Next A c A2 c2 p O l co U (HP.out.below HB.out) (HO.out.below hbel))
  clear hbel
  go_wp2_with fail
  refine HNX.out.mono ?_
  rintro e w2 ⟨hb2, hr2, _⟩
  obtain rfl := hr2 (by rw [HE.out]; exact H0.out)
  rw [HE.out]
  have HB2 := h_ (HB.out.trans (hb2.mono HB.out.size))
  clear hb2 hr2 p0 p1
  go_wp2_with fail
  refine bodyPost_ret (v := .tuple #[.slice none 0 0, .int .i64 0, .int .i64 er]) ?_ ?_ ?_
  ·simp [results, Tryz.results24, go_sem]
  ·rfl
  exact ⟨HB2.out, fun _ => by rw [HE.out], fun h => absurd (HE.out.symm.trans h) H0.out⟩
set_option maxHeartbeats 2000000 in
theorem walk_ok (A : Option Addr) (c : Nat) (A2 : Option Addr) (c2 : Nat) (p : PG) (L : Option Addr) (l : List Int) (cl : Nat) (w : World) (hp : Pg w A c A2 c2 p) (hr : Rd w L cl l) (he : nextE p l = 0) :
    Calls Tryz.prog 24 #[.agg #[.slice A p.costs.length c, .slice A2 p.rows.length c2], .slice L l.length cl] w (RetWk w p l) := by
 have HE := h_ he
 have ho := nextE_ok he
 have HOK := h_ ho
 have HNE := h_ (look_eq (nextE_look he).1)
 have hlm : l.length ≤ 4 := by
  have := ho.hr.len
  have h4 := (mayPB_iff.1 ho.hp).2.2.2.1
  simp [nats] at this; omega
 have HP := h_ hp
 have HL := h_ hr
 obtain ⟨⟨hl, hc, hsm, _⟩, ⟨hl2, hc2, hsm2, _⟩⟩ := hp
 obtain ⟨hll, hlc, hls, _⟩ := hr
 clear he ho
 have q26 : ∀ (w : World) (a : Option Addr) (n c n' c' : Nat), (binOp .eql 51 (.slice a n c) (.slice none n' c')).run Tryz.prog w = .ok (.bool a.isNone) w := fun w a n c n' c' => Lib.run_eql_slice_nil w _ _ a n c n' c' und_intS1
 go_enter Tryz.func24, Tryz.ntmps24
 go_wp2_with fail
 have BP := h_ (Blk.mk' w 28 #[.slice A p.costs.length c, .slice A2 p.rows.length c2])
 have HVW := h_ ((by (repeat (any_goals (first | exact qR _ _ | refine below_drewN ?_ _ | refine qD ?_ | refine qA ?_ ?_ _ | refine qS ?_ ?_ _))); all_goals (first | omega | (simp; done) | (simp; omega))) : Below w.heap.size w (w.alloc (.cells #[.slice A p.costs.length c, .slice A2 p.rows.length c2] 28)))
 generalize (w.alloc (.cells #[.slice A p.costs.length c, .slice A2 p.rows.length c2] 28)) = V at *
 have zV := HVW.out.size
 have lP := BP.out.lt
 refine (clone_any L l cl _ (HL.out.below HVW.out)).mono ?_
 rintro e w1 ⟨O, co, rfl, hO, hOl, hb1⟩
 have HO := h_ hO
 have HOL := h_ hOl
 have H1 := h_ hb1
 have z01 := hb1.size
 clear hb1 hO hOl
 go_wp2_with fail
 go_loopw [7, 8] (fun s7 s8 wx => ∃ (k : Nat) (lk : List Nat) (O' : Option Addr) (co' : Nat) (As : Nat → Option Addr) (cs : Nat → Nat), Hid (wk p (nats l) k = some lk) ∧ s8 = .slice O' lk.length co' ∧ Rd wx O' co' (ints lk) ∧
     LsB wx V.heap.size s7 k As cs (fun i => ints ((wk p (nats l) i).getD [])) ∧ (∀ ad, O' = some ad → s7.ownBlock ≠ some ad.block ∧ ad.block < wx.heap.size) ∧ (∀ i, i < k → ∀ ad, As i = some ad → ad.block < wx.heap.size) ∧ Below V.heap.size V wx) (fun s7 _ _ => 256 - lenV s7)
 case atStart =>
  exact ⟨0, nats l, O, co, fun _ => none, fun _ => 0, rfl, by simp [nats], by rw [show ints (nats l) = l from HNE.out.symm]; exact HO.out, LsB.nil _ _ _ _ _, fun ad e => ⟨by simp [Value.ownBlock], (HOL.out ad e).2⟩, fun i hi => by omega, H1.out⟩
 case round =>
  obtain ⟨k, lk, O', co', As, cs, hwk, rfl, hO', hLs, hap, hAs, hbel⟩ := hrel
  rename World => U
  have HWK := hwk
  have HRO := h_ hO'
  have HLs := h_ hLs
  have HAP := h_ hap
  have HAS := h_ hAs
  have HU := h_ hbel
  have zU := hbel.size
  have hlen := LsB.len hLs
  have HB := h_ (HVW.out.trans (HU.out.mono zV))
  have hokk := wk_ok HOK.out hwk.out
  have hk256 := wk_fewer HOK.out hwk.out
  have HOKK := h_ hokk
  have HEK := h_ (ok_nextE hokk)
  have p0 : U.cell? ⟨w.heap.size, 0, none⟩ = some (.slice A p.costs.length c) := (BP.out.next HU.out).cell 0
  have p1 : U.cell? ⟨w.heap.size, 1, none⟩ = some (.slice A2 p.rows.length c2) := (BP.out.next HU.out).cell 1
  have HNX := h_ (show Calls Tryz.prog 52 #[.agg #[.slice A p.costs.length c, .slice A2 p.rows.length c2], .slice O' lk.length co'] U (RetNx U p (ints lk)) from by
   have := walk_Next A c A2 c2 p O' (ints lk) co' U (HP.out.below HB.out) hO'
   rwa [show (ints lk).length = lk.length by simp [ints]] at this)
  clear hwk hO' hLs hap hAs hbel hokk
  go_wp2_with fail
  refine HNX.out.mono ?_
  rintro e w2 ⟨hb2, _, hr2⟩
  obtain ⟨hr2, hr3⟩ := hr2 HEK.out
  rw [nats_ints] at hr2 hr3
  have H2 := h_ hb2
  have z02 := hb2.size
  have HL2 := h_ (HLs.out.below hb2)
  have HO2 := h_ (HRO.out.below hb2)
  have HB2 := h_ (HB.out.trans (hb2.mono HB.out.size))
  have HV2 := h_ (HU.out.trans (hb2.mono zU))
  clear hb2 p0 p1
  have hfk : ints ((wk p (nats l) k).getD []) = ints lk := by rw [HWK.out]; rfl
  have HFK := h_ hfk
  have HPU := h_ (fun (o : Obj) (g cap : Nat) (w5 : World) (hown : w5.ownsRow V.heap.size 51 1 (.slice (some ⟨g, 0, none⟩) (k + 1) cap) (k + 1) (((List.range k).map fun i => Value.slice (As i) (ints ((wk p (nats l) i).getD [])).length (cs i)) ++ [.slice O' lk.length co']))
      (hg : (w2.alloc o).grownBy w5 u7.ownBlock) (hat : u7.ownBlock = some g ∨ g = (w2.alloc o).heap.size) =>
   (HL2.out.below ((Below.refl _ _).alloc (Nat.le_refl _) o)).push (A := O') (c := co') (o := g) (cap := cap) (by show Rd _ O' co' (ints ((wk p (nats l) k).getD [])); rw [hfk]; exact HO2.out.alloc o) (fun ad e => (HAP.out ad e).1)
    (fun ad e => by have := (HAP.out ad e).2; simp; omega) (fun i hi ad e => by have := HAS.out i hi ad e; simp; omega)
    (by show World.ownsRow _ _ _ _ _ _ (_ ++ [.slice O' (ints ((wk p (nats l) k).getD [])).length co']); rw [hfk, show (ints lk).length = lk.length by simp [ints]]; exact hown) hg hat)
  clear hfk
  cases hn : nxtZ p lk with
  | none =>
   obtain rfl := hr2 hn
   have HN := h_ hn
   clear hr2 hr3 hn
   generalize hkd : kindZ p lk = kd
   have HKD := h_ hkd
   clear hkd
   go_wp2_with (at_builtin; refine list_appS rfl (.tmp 24) (.tmp 26) rfl V.heap.size u7 k _ (.slice O' lk.length co') rfl (own_below HL2.out.own ((Below.refl _ _).alloc (Nat.le_refl _) _)) _ 1 rfl (cell_new1 _ _ _) rfl (by omega) (by simp; omega) ?_; intro g cap w5 hown5 hg5 hat5 hlt5; refine Hid.out ?_)
   refine h_ ?_
   have HLP := h_ (HPU.out _ g cap w5 hown5 hg5 hat5)
   have HB5 := h_ ((HB2.out.alloc HB2.out.size _).grown hg5 (by have := HB2.out.size; simp; omega) (fun j e => by have := (HLs.out.own.lt j e).1; omega))
   clear hown5 hg5 hat5
   go_wp2_with fail
   refine bodyPost_ret (v := .tuple #[.slice (some ⟨g, 0, none⟩) (k + 1) cap, .int .i64 kd, .int .i64 0]) ?_ ?_ ?_
   ·simp [results, Tryz.results24, go_sem]
   ·rfl
   refine ⟨HB5.out, fun h => absurd HE.out h, fun _ => ⟨k, lk, some ⟨g, 0, none⟩, cap, ⟨HWK.out, HN.out⟩, by rw [HKD.out], ?_⟩⟩
   exact HLP.out.read (by omega)
  | some l' =>
   obtain ⟨g6, cap6, rfl, hown6⟩ := hr3 l' hn
   have HN := h_ hn
   have HO6 := h_ hown6
   have lg6 := hown6.lt g6 rfl
   have hcap6 := own_caps hown6
   clear hr2 hr3 hn hown6
   go_wp2_with (at_builtin; refine list_appS rfl (.tmp 24) (.tmp 26) rfl V.heap.size u7 k _ (.slice O' lk.length co') rfl (own_below HL2.out.own ((Below.refl _ _).alloc (Nat.le_refl _) _)) _ 1 rfl (cell_new1 _ _ _) rfl (by omega) (by simp; omega) ?_; intro g cap w5 hown5 hg5 hat5 hlt5; refine Hid.out ?_)
   refine h_ ?_
   have HLP := h_ (HPU.out _ g cap w5 hown5 hg5 hat5)
   have HB5 := h_ ((HV2.out.alloc HV2.out.size _).grown hg5 (by have := HV2.out.size; simp; omega) (fun j e => (HLs.out.own.lt j e).1))
   have hvlt : ∀ j, u7.ownBlock = some j → j < U.heap.size := fun j e => (HLs.out.own.lt j e).2
   have HR5 := h_ (show Rd w5 (some ⟨g6, 0, none⟩) cap6 (ints l') from by
    have hl : (ints l').length = l'.length := by simp [ints]
    have hok' := len_next HOKK.out HN.out
    have h4 := (mayPB_iff.1 hok'.hp).2.2.2.1
    have hll := hok'.hr.len
    have h1 : Rd w2 (some ⟨g6, 0, none⟩) cap6 (ints l') := Rd.of_own (base := U.heap.size) (e := 3) (by rw [hl]; exact HO6.out) (by rw [hl]; omega)
    exact (h1.alloc _).grown' hg5 (fun ad e => by cases e; intro q; have := hvlt _ q; simp at this; omega))
   have HG := h_ (show g ≠ g6 ∧ g < w5.heap.size ∧ g6 < w5.heap.size ∧ ∀ i, i < k → ∀ ad, As i = some ad → ad.block < w5.heap.size from by
    have z5 := hg5.size
    simp only [World.size_alloc] at z5 hat5
    refine ⟨?_, hlt5, by omega, fun i hi ad e => by have := HAS.out i hi ad e; omega⟩
    rcases hat5 with q | q
    ·have := hvlt _ q; omega
    ·omega)
   have HO5 := h_ (fun ad (e : O' = some ad) => show ad.block < w5.heap.size from by have := (HAP.out ad e).2; have := HG.out.2.2.1; omega)
   clear hown5 hg5 hat5
   go_wp2_with fail
   go_roundw
   case rel =>
    refine ⟨k + 1, l', some ⟨g6, 0, none⟩, cap6, _, _, h_ (by rw [wk, HWK.out]; exact HN.out), rfl, HR5.out, HLP.out, fun ad e => ?_, fun i hi ad e => ?_, HB5.out⟩
    ·cases e
     exact ⟨fun q => HG.out.1 (by injection q), HG.out.2.2.1⟩
    ·by_cases hik : i = k
     ·subst hik; simp only [if_true] at e; exact HO5.out ad e
     ·simp only [hik, if_false] at e; exact HG.out.2.2.2 i (by omega) ad e
   case measure => rw [hlen]; simp [lenV]; omega
theorem walk_Walk (A : Option Addr) (c : Nat) (A2 : Option Addr) (c2 : Nat) (p : PG) (L : Option Addr) (l : List Int) (cl : Nat) (w : World) (hp : Pg w A c A2 c2 p) (hr : Rd w L cl l) :
    Calls Tryz.prog 24 #[.agg #[.slice A p.costs.length c, .slice A2 p.rows.length c2], .slice L l.length cl] w (RetWk w p l) := by
 by_cases he : nextE p l = 0
 ·exact walk_ok A c A2 c2 p L l cl w hp hr he
 ·exact walk_bad A c A2 c2 p L l cl w hp hr _ rfl he
theorem RetWk.any {w w' : World} {p : PG} {l : List Int} {e : Ending} (h : RetWk w p l e w') : ∃ A n c kd er, e = .returned (.tuple #[.slice A n c, .int .i64 kd, .int .i64 er]) ∧ Below w.heap.size w w' ∧ er = nextE p l ∧
    (er ≠ 0 → n = 0 ∧ kd = 0) ∧ (er = 0 → ∃ k lk, n = k + 1 ∧ EndAt p (nats l) k lk ∧ kd = kindZ p lk ∧ Ls w' A c (wkL p (nats l) (k + 1))) := by
 obtain ⟨hb, h1, h2⟩ := h
 by_cases he : nextE p l = 0
 ·obtain ⟨k, lk, A, c, q1, q2, q3⟩ := h2 he
  exact ⟨A, k + 1, c, _, 0, q2, hb, he.symm, fun q => absurd rfl q, fun _ => ⟨k, lk, rfl, q1, rfl, q3⟩⟩
 ·exact ⟨none, 0, 0, 0, nextE p l, h1 he, hb, rfl, fun _ => ⟨rfl, rfl⟩, fun q => absurd q he⟩
end Go.Proofs.YtjcdkbalhleeeaaGreatDoor
