/-
  Contracts of functions and plain laws that later parts of the proof use. The conditions stand in each theorem.
-/
import Derived.Test.YtjcdkbalhleeeaaGreatDoorG06
import Derived.Test.YtjcdkbalhleeeaaGreatDoorG32
import Derived.Test.YtjcdkbalhleeeaaGreatDoorG12
import Derived.Deep.RegionLaw
import Derived.RegionTactic
import Derived.Deep.DeepCutAuto
import Derived.Test.YtjcdkbalhleeeaaGreatDoorG27
import Derived.Test.YtjcdkbalhleeeaaGreatDoorG11
namespace Go.Proofs.YtjcdkbalhleeeaaGreatDoor
open Go.Proofs Go.RowKit
open Go.Lib (itoa join)
def lineP (k : Nat) (s : List UInt8) (q : PG) : Option PG := if k = 0 then (lineC s).map fun cs => ⟨cs, q.rows⟩ else (lineR s).map fun r => ⟨q.costs, q.rows ++ [r]⟩
theorem line_step {ls : List (List UInt8)} {k : Nat} (hk : k < ls.length) {q : PG} (h : takeP (ls.take k) = some q) : takeP (ls.take (k + 1)) = lineP k ls[k] q := by
 unfold lineP
 rcases Nat.eq_zero_or_pos k with h0 | h0
 ·subst h0
  obtain rfl : q = ⟨[], []⟩ := by simp [takeP] at h; exact h.symm
  rw [if_pos rfl]
  exact takeP_first hk
 ·rw [if_neg (by omega)]
  exact takeP_step hk h h0
def RetLn (w : World) (b base m : Nat) (o : Option PG) (e : Ending) (w' : World) : Prop :=
 Below b w w' ∧ ((∃ q' A c v es, o = some q' ∧ e = .returned (.bool true) ∧ es.length ≤ m + 1 ∧ PgW w' b base A c v es q') ∨ (o = none ∧ e = .returned (.bool false)))
set_option maxRecDepth 100000 in
set_option maxHeartbeats 2000000 in
theorem text_line (b base k : Nat) (sk : List UInt8) (w : World) (A : Option Addr) (c : Nat) (v : Value) (es : List RE) (q : PG) (hp : PgW w b base A c v es q) (hbase : base ≤ w.heap.size) (hes : es.length ≤ 2147483648) (hs : sk.length ≤ 1073741824) (ht : Tab w) (he : Errs w) (hm : MaxL w) :
    Calls Tryz.prog 15 #[.pointer (some ⟨b, 0, none⟩), .int .i64 k, .string (bs sk)] w (RetLn w b base es.length (lineP k sk q)) := by
 have HP := h_ hp
 have HT := h_ ht
 have HE := h_ he
 have HSP := h_ (strings_Split sk 32 w hs hm)
 have hbb := hp.below
 have hbl := hp.blk.lt
 clear ht he hm hp
 obtain ⟨m, hm⟩ : ∃ m, (cutB 32 sk).length = m + 1 := ⟨(cutB 32 sk).length - 1, by have := List.length_pos_iff.2 (cutB_ne 32 sk); omega⟩
 have hcw := cut_small (c := 32) (s := sk)
 have HPW := h_ (fun (x : List UInt8) (hx : x ∈ cutB 32 sk) => cut_parts x hx)
 go_enter Tryz.func15, Tryz.ntmps15
 go_upto_region 2 with (go_at_call 12; refine HSP.out.mono ?_; rintro e X ⟨AW, cW, rfl, hSX, hbX, hnew⟩; rw [hm])
 have HSX := h_ hSX
 have HBX := h_ hbX
 have zX := hbX.size
 have HPX := h_ (HP.out.next hbX)
 have HTX := h_ (HT.out.below hbX)
 have HEX := h_ (HE.out.below hbX)
 clear hSX hbX
 obtain ⟨aw, e1, hw0⟩ := HSX.out.at_ (k := 0) (by omega)
 subst e1
 have hawb := hnew _ rfl
 clear hnew
 obtain ⟨hSle, hScap, _⟩ := HSX.out
 rw [hm] at hSle
 by_cases hk0 : k = 0
 ·subst hk0
  have HLP := h_ (show lineP 0 sk q = (lineC sk).map fun cs => ⟨cs, q.rows⟩ from rfl)
  obtain ⟨AT, cT, hrun, hST⟩ := HSX.out.from_run hm 1 (by omega)
  have hrun1 : ∀ W, (Instr.slice 22 (.slice (some aw) (m + 1) cW) (some (.int .i64 1)) none none).run Tryz.prog W = .ok (.slice AT m cT) W := hrun
  have hdl : ((cutB 32 sk).drop 1).length = m := by rw [List.length_drop, hm]; rfl
  have HNB := h_ (text_numbers AT cT ((cutB 32 sk).drop 1) X hST (by omega) (fun x hx => by have := HPW.out x (List.mem_of_mem_drop hx); omega) HTX.out HEX.out)
  rw [hdl] at HNB
  have hlc : lineC sk = if (cutB 32 sk)[0]'(by omega) = mostW then numsR ((cutB 32 sk).drop 1) else none := by
   unfold lineC
   obtain ⟨x, y, hc⟩ := List.exists_cons_of_ne_nil (cutB_ne 32 sk)
   simp only [hc]; rfl
  have hq0 : ((bs ((cutB 32 sk)[0]'(by omega))).toList == [109, 111, 115, 116]) = decide ((cutB 32 sk)[0]'(by omega) = mostW) := by rw [bs_list]; exact Bool.beq_eq_decide_eq _ _
  have hw0' : X.cell? aw = some (.string (bs ((cutB 32 sk)[0]'(by omega)))) := hw0
  rw [hlc] at HLP
  clear hrun hlc hw0
  generalize (cutB 32 sk)[0]'(by omega) = hd0 at *
  have hbX : b ≤ X.heap.size := by omega
  have HBb := h_ (HBX.out.mono (Nat.le_of_lt hbl))
  have FR := h_ (show ∀ w3, Below X.heap.size X w3 → ∀ u : Value, (w3.setCell ⟨b, 0, none⟩ u).cell? aw = some (.string (bs hd0)) from fun w3 h u => (World.cell?_setCell_other _ _ _ _ (by intro e; rw [← e] at hawb; simp at hawb; omega)).trans ((h.cell (lc_ hw0')).trans hw0'))
  by_cases hmo : hd0 = mostW
  ·rw [if_pos hmo] at HLP
   have hmt : decide (hd0 = mostW) = true := by simpa using hmo
   clear hmo
   cases hnv : numsR ((cutB 32 sk).drop 1) with
   | none =>
    rw [hnv] at HLP
    go_wp2_with (go_at_call 30; refine HNB.out.mono ?_; intro e w3 hret; obtain ⟨hb3, rfl⟩ := hret.none_ hnv; have MP := (HPX.out.next hb3).blk; have p0 := MP.cell 0; have fp0 := MP.frozen 0; have hw3 := FR.out _ hb3 (.slice none 0 0); simp at p0)
    go_ret
    exact ⟨(HBb.out.trans (hb3.mono hbX)).setCell (Nat.le_refl _) _, Or.inr ⟨HLP.out, rfl⟩⟩
   | some cs =>
    rw [hnv] at HLP
    go_wp2_with (go_at_call 30; refine HNB.out.mono ?_; intro e w3 hret; obtain ⟨hb3, A3, c3, rfl, hr3, hnw3⟩ := hret.some_ hnv; have MP := (HPX.out.next hb3).blk; have p0 := MP.cell 0; have fp0 := MP.frozen 0; have hw3 := FR.out _ hb3 (.slice A3 cs.length c3); simp at p0)
    go_ret
    exact ⟨(HBb.out.trans (hb3.mono hbX)).setCell (Nat.le_refl _) _, Or.inl ⟨_, A3, c3, v, es, HLP.out, rfl, by omega, HPX.out.costs hb3 (by omega) hr3 hnw3⟩⟩
  ·rw [if_neg hmo] at HLP
   have hmt : decide (hd0 = mostW) = false := by simpa using hmo
   clear hmo
   cases hnv : numsR ((cutB 32 sk).drop 1) with
   | none =>
    go_wp2_with (go_at_call 30; refine HNB.out.mono ?_; intro e w3 hret; obtain ⟨hb3, rfl⟩ := hret.none_ hnv; have MP := (HPX.out.next hb3).blk; have p0 := MP.cell 0; have fp0 := MP.frozen 0; have hw3 := FR.out _ hb3 (.slice none 0 0); simp at p0)
    go_ret
    exact ⟨(HBb.out.trans (hb3.mono hbX)).setCell (Nat.le_refl _) _, Or.inr ⟨HLP.out, rfl⟩⟩
   | some cs =>
    go_wp2_with (go_at_call 30; refine HNB.out.mono ?_; intro e w3 hret; obtain ⟨hb3, A3, c3, rfl, hr3, hnw3⟩ := hret.some_ hnv; have MP := (HPX.out.next hb3).blk; have p0 := MP.cell 0; have fp0 := MP.frozen 0; have hw3 := FR.out _ hb3 (.slice A3 cs.length c3); simp at p0)
    go_ret
    exact ⟨(HBb.out.trans (hb3.mono hbX)).setCell (Nat.le_refl _) _, Or.inr ⟨HLP.out, rfl⟩⟩
 ·have hkz : ((k : Int) == 0) = false := by rw [beq_eq_false_iff_ne]; omega
  have HLP := h_ (show lineP k sk q = (lineR sk).map fun r => ⟨q.costs, q.rows ++ [r]⟩ from by unfold lineP; rw [if_neg hk0])
  have hbX : b ≤ X.heap.size := by omega
  have HBb := h_ (HBX.out.mono (Nat.le_of_lt hbl))
  rcases Nat.eq_zero_or_pos m with hm0 | hm0
  ·subst hm0
   rw [lineR_short (by omega)] at HLP
   go_wp2_with fail
   go_ret
   exact ⟨HBb.out, Or.inr ⟨HLP.out, rfl⟩⟩
  ·obtain ⟨m', rfl⟩ : ∃ m', m = m' + 1 := ⟨m - 1, by omega⟩
   rw [lineR_long hm] at HLP
   obtain ⟨aw', e1, hwm⟩ := HSX.out.at_ (k := m') (by omega)
   injection e1 with e1; subst e1
   obtain ⟨hrun, hST⟩ := HSX.out.to_run hm m' (by omega)
   obtain ⟨AT2, cT2, hrun2, hST2⟩ := HSX.out.from_run hm (m' + 1) (by omega)
   have hdl : ((cutB 32 sk).take m').length = m' := by rw [List.length_take]; omega
   have hd2 : (cutB 32 sk).drop (m' + 1) = [(cutB 32 sk)[m' + 1]'(by omega)] := by
    rw [List.drop_eq_getElem_cons (show m' + 1 < (cutB 32 sk).length by omega), List.drop_of_length_le (by omega)]
   have HNB := h_ (text_numbers (some aw) cW ((cutB 32 sk).take m') X hST (by omega) (fun x hx => by have := HPW.out x (List.mem_of_mem_take hx); omega) HTX.out HEX.out)
   rw [hdl] at HNB
   have hll := HPW.out _ (List.getElem_mem (show m' + 1 < (cutB 32 sk).length by omega))
   rw [hd2] at hST2
   have HN2 := h_ (show ∀ W, Below X.heap.size X W → Calls Tryz.prog 30 #[.slice AT2 1 cT2] W (RetNs W [(cutB 32 sk)[m' + 1]'(by omega)]) from fun W hW => by
    have := text_numbers AT2 cT2 [(cutB 32 sk)[m' + 1]'(by omega)] W (hST2.below hW) (by simp) (fun x hx => by simp at hx; subst hx; omega) (HTX.out.below hW) (HEX.out.below hW)
    exact this)
   have hj6 : m' + 1 + 1 - (m' + 1) = 1 := by omega
   rw [hj6] at hrun2
   have hrun3 : ∀ W, (Instr.slice 22 (.slice (some aw) (m' + 1 + 1) cW) (some (.int .i64 ((m' : Int) + 1))) none none).run Tryz.prog W = .ok (.slice AT2 1 cT2) W := hrun2
   have hq0 : ((bs ((cutB 32 sk)[m']'(by omega))).toList == [60, 61]) = decide ((cutB 32 sk)[m']'(by omega) = leW) := by rw [bs_list]; exact Bool.beq_eq_decide_eq _ _
   clear hw0 hll hrun2 hd2
   unfold strV at hwm
   generalize (cutB 32 sk)[m']'(by omega) = wl at *
   generalize (cutB 32 sk)[m' + 1]'(by omega) = wn at *
   have hj0 : (m' : Int) + 1 + 1 - 2 = (m' : Int) := by omega
   have hj1 : (m' : Int) + 1 + 1 - 1 = (m' : Int) + 1 := by omega
   have hj2 : ¬ ((m' : Int) + 1 + 1 < 2) := by omega
   have hj3 : (m' : Int) < (m' : Int) + 1 + 1 := by omega
   have hn1 := numsR_one wn
   by_cases hle : wl = leW
   ·have hmt : decide (wl = leW) = true := by simpa using hle
    rw [if_pos hle] at HLP
    clear hle
    cases hnv : numsR ((cutB 32 sk).take m') with
    | none =>
     rw [hnv] at HLP
     cases hnw : numR wn with
     | none =>
      have hn2 : numsR [wn] = none := by rw [hn1, hnw]; rfl
      go_wp2_with (first
       | (go_at_call 30; refine (HN2.out _ hb5).mono ?_; intro e w3 hret2; obtain ⟨hb4, rfl⟩ := hret2.none_ hn2; have hb3 := hb5.trans (hb4.mono hb5.size))
       | (go_at_call 30; refine HNB.out.mono ?_; intro e w5 hret; obtain ⟨hb5, rfl⟩ := hret.none_ hnv))
      go_ret
      exact ⟨HBb.out.trans (hb3.mono hbX), Or.inr ⟨HLP.out, rfl⟩⟩
     | some nn =>
      have hn2 : numsR [wn] = some [nn] := by rw [hn1, hnw]; rfl
      go_wp2_with (first
       | (go_at_call 30; refine (HN2.out _ hb5).mono ?_; intro e w3 hret2; obtain ⟨hb4, A6, c6, rfl, hr6, hnw6⟩ := hret2.some_ hn2; have hb3 := hb5.trans (hb4.mono hb5.size))
       | (go_at_call 30; refine HNB.out.mono ?_; intro e w5 hret; obtain ⟨hb5, rfl⟩ := hret.none_ hnv))
      go_ret
      exact ⟨HBb.out.trans (hb3.mono hbX), Or.inr ⟨HLP.out, rfl⟩⟩
    | some cs =>
     rw [hnv] at HLP
     cases hnw : numR wn with
     | none =>
      rw [hnw] at HLP
      have hn2 : numsR [wn] = none := by rw [hn1, hnw]; rfl
      go_wp2_with (first
       | (go_at_call 30; refine (HN2.out _ hb5).mono ?_; intro e w3 hret2; obtain ⟨hb4, rfl⟩ := hret2.none_ hn2; have hb3 := hb5.trans (hb4.mono hb5.size))
       | (go_at_call 30; refine HNB.out.mono ?_; intro e w5 hret; obtain ⟨hb5, A3, c3, rfl, hr3, hnw3⟩ := hret.some_ hnv))
      go_ret
      exact ⟨HBb.out.trans (hb3.mono hbX), Or.inr ⟨HLP.out, rfl⟩⟩
     | some nn =>
      rw [hnw] at HLP
      have hn2 : numsR [wn] = some [nn] := by rw [hn1, hnw]; rfl
      go_wp2_with (first
       | (go_at_call 30; refine (HN2.out _ hb5).mono ?_; intro e w3 hret2; obtain ⟨hb4, A6, c6, rfl, hr6, hnw6⟩ := hret2.some_ hn2; have hb3 := hb5.trans (hb4.mono hb5.size))
       | (go_at_call 30; refine HNB.out.mono ?_; intro e w5 hret; obtain ⟨hb5, A3, c3, rfl, hr3, hnw3⟩ := hret.some_ hnv))
      have hz5 := hb5.size
      have hz4 := hb4.size
      have MP := (HPX.out.next hb3).blk
      have HPZ := h_ (HPX.out.next hb3)
      have p1 : w3.cell? ⟨b, 1, none⟩ = some v := MP.cell 1
      have pA : ∀ o, (w3.alloc o).cell? ⟨b, 1, none⟩ = some v := fun o => (MP.alloc o).cell 1
      have fp1 : w3.frozen? ⟨b, 1, none⟩ = false := MP.frozen 1
      obtain ⟨a6, e6, hm0'⟩ := hr6.at_ (k := 0) (by simp)
      subst e6
      have hm6 : w3.cell? a6 = some (.int .i64 nn) := hm0'
      go_region_law (refine step_appW rfl (.tmp 74) (.tmp 80) rfl base v es.length (reCells es) (.slice A3 cs.length c3) (.int .i64 nn) (by simp [Act.eval]) (own_below HPZ.out.rows.own (((Below.refl _ _).alloc (Nat.le_refl _) _).drew)) w3.heap.size 1 (by simp [Act.eval]) (by first | exact Blk.mk' _ _ _ | exact (Blk.mk' _ _ _).drew) rfl rfl (by omega) (by simp; omega) ?_; intro g7 cap7 w7 hown7 hg7 hat7 hlt7; have MP7 : Blk w7 b 28 #[.slice A q.costs.length c, v] := ((MP.alloc _).drew).grown hg7 (fun e => by have := (HPX.out.rows.own.lt _ e.symm).1; omega); have fp7 := MP7.frozen 1; have pp7 := MP7.cell 1; simp at pp7)
      all_goals
       have hz7 := hg7.size
       have hpr := HPX.out.row (w := (w3.alloc (.cells #[.slice A3 cs.length c3, .int .i64 nn] 91)).drew) ((hb3.alloc (by omega) _).drew) (by omega) (((hr3.below hb4).alloc _).drew) (fun ad e => by have := hnw3 ad e; simp; omega) hown7 hg7 hat7
       have hb7 : Below b w w7 := (((HBb.out.trans (hb3.mono hbX)).alloc (by omega) _).drew).grown hg7 (by simp; omega) (own_ge HPX.out.rows.own (by omega))
       go_wp2_with fail
       go_ret
       exact ⟨hb7.setCell (Nat.le_refl _) _, Or.inl ⟨_, A, c, _, es ++ [(A3, c3, (cs, nn))], HLP.out, rfl, by simp, hpr⟩⟩
   ·have hmt : decide (wl = leW) = false := by simpa using hle
    rw [if_neg hle] at HLP
    clear hle
    go_wp2_with fail
    go_ret
    exact ⟨HBb.out, Or.inr ⟨HLP.out, rfl⟩⟩
end Go.Proofs.YtjcdkbalhleeeaaGreatDoor

namespace Go.Proofs.YtjcdkbalhleeeaaGreatDoor
open Go.Proofs Go.RowKit
open Go.Lib (itoa join)
set_option maxRecDepth 100000 in
set_option maxHeartbeats 2000000 in
theorem text_Parse (s : List UInt8) (w : World) (hs : s.length ≤ 1073741824) (ht : Tab w) (he : Errs w) (hm : MaxL w) :
    Calls Tryz.prog 9 #[.string (bs s)] w (RetPr w (parF s)) := by
 have HT := h_ ht
 have HE := h_ he
 have HM := h_ hm
 clear ht he hm
 obtain ⟨n, hn⟩ : ∃ n, (cutB 10 s).length = n + 1 := ⟨(cutB 10 s).length - 1, by have := List.length_pos_iff.2 (cutB_ne 10 s); omega⟩
 have hcs := cut_small (c := 10) (s := s)
 have HPT := h_ (fun (x : List UInt8) (hx : x ∈ cutB 10 s) => cut_parts x hx)
 have HW0 := h_ (((Below.refl w.heap.size w).alloc (Nat.le_refl _) (.cells #[.slice none 0 0, .slice none 0 0] 28)).alloc (by simp) (.cells #[.int .i64 0, .int .i64 0] 37))
 have HSP := h_ (strings_Split s 10 _ hs (HM.out.below HW0.out))
 go_enter Tryz.func9, Tryz.ntmps9
 go_upto_region 3 with (go_at_call 12; refine HSP.out.mono ?_; rintro e w1 ⟨AL, cL, rfl, hSL, hb1, hnewL⟩; rw [hn])
 clear hnewL
 have HSL := h_ hSL
 have z1 := hb1.size
 simp only [World.size_alloc] at z1
 have R2 : Blk w1 w.heap.size 28 #[.slice none 0 0, .slice none 0 0] := ((Blk.mk' w _ _).alloc _).next hb1
 have R3 : Blk w1 (w.heap.size + 1) 37 #[.int .i64 0, .int .i64 0] := (Blk.new _ _ _ _ (by simp)).next hb1
 have HR2 := h_ R2
 have HR3 := h_ R3
 have HB1 := h_ (HW0.out.trans (hb1.mono (by simp; omega)) : Below w.heap.size w w1)
 clear R2 R3 hb1 hSL HW0 HSP
 have HP0 := h_ (PgW.start (w := w1.alloc (.cells #[.slice none 0 0, .slice none 0 0] 28)) (b := w1.heap.size) (base := w1.heap.size + 1) (Blk.mk' w1 _ _) (by omega))
 have HV0 := h_ ((Below.refl w1.heap.size w1).alloc (Nat.le_refl _) (.cells #[.slice none 0 0, .slice none 0 0] 28))
 have HZ0 : (w1.alloc (.cells #[.slice none 0 0, .slice none 0 0] 28)).heap.size = w1.heap.size + 1 := by simp
 obtain ⟨aw, e1, hw0⟩ := HSL.out.at_ (k := 0) (by omega)
 subst e1
 obtain ⟨hrun, _⟩ := HSL.out.to_run hn n (by omega)
 clear hw0
 go_wp2_with fail
 generalize (w1.alloc (.cells #[.slice none 0 0, .slice none 0 0] 28)) = V at *
 go_loopw [18] (fun i wx => ∃ (k : Nat) (A : Option Addr) (c : Nat) (v : Value) (es : List RE) (q : PG), k ≤ n ∧ i = .int .i64 k ∧ takeP ((cutB 10 s).take k) = some q ∧ es.length ≤ k ∧ PgW wx w1.heap.size (w1.heap.size + 1) A c v es q ∧
     Below w1.heap.size w1 wx ∧ w1.heap.size + 1 ≤ wx.heap.size) (fun i _ => n - (intOf i).toNat)
 case atStart => exact ⟨0, none, 0, _, [], ⟨[], []⟩, by omega, rfl, rfl, by simp, HP0.out, HV0.out, by omega⟩
 case round =>
  obtain ⟨k, A, c, v, es, q, hk, rfl, htp, hes, hpg, hbel, hz2⟩ := hrel
  rename World => U
  have HP := h_ hpg
  have HB := h_ hbel
  have zU := hbel.size
  clear hpg hbel HP0 HV0 HZ0
  have HWU := h_ (HB1.out.trans (HB.out.mono (by omega)))
  by_cases hlt : k < n
  ·have hi0 : (k : Int) < (n : Int) := by omega
   have hkl : k < (cutB 10 s).length := by omega
   obtain ⟨ad, e0, hcl⟩ := (HSL.out.below HB.out).at_ hkl
   injection e0 with e0
   subst e0
   have hsk := HPT.out _ (List.getElem_mem hkl)
   have HBAD := h_ (fun (h : takeP ((cutB 10 s).take (k + 1)) = none) => parF_bad (by omega) htp h)
   have HST := h_ (line_step hkl htp)
   unfold strV at hcl
   have HLN := h_ (text_line w1.heap.size (w1.heap.size + 1) k ((cutB 10 s)[k]) U A c v es q HP.out hz2 (by omega) (by omega) (HT.out.below HWU.out) (HE.out.below HWU.out) (HM.out.below HWU.out))
   generalize (cutB 10 s)[k] = sk at *
   cases hlp : lineP k sk q with
   | none =>
    rw [hlp] at HLN HST
    have HTN := h_ (HBAD.out HST.out)
    have HL2 := h_ (show Calls Tryz.prog 15 #[.pointer (some ⟨w1.heap.size, 0, none⟩), .int .i64 k, .string (bs sk)] U fun e w' => e = .returned (.bool false) ∧ Below w1.heap.size U w' from
     HLN.out.mono fun e w' h => by
      obtain ⟨h1, ⟨_, _, _, _, _, h2, _⟩ | ⟨_, h2⟩⟩ := h
      ·cases h2
      ·exact ⟨h2, h1⟩)
    go_wp2_with (go_at_call 15; refine HL2.out.mono ?_; rintro e w3 ⟨rfl, hb3⟩; have M2 := HR2.out.next (HB.out.trans hb3); have M3 := HR3.out.next (HB.out.trans hb3); have g20 := M2.frozen 0; have g21 := M2.frozen 1; have g30 := M3.frozen 0; have g31 := M3.frozen 1; have c20 := M2.cell 0; have c21 := M2.cell 1; have c30 := M3.cell 0; have c31 := M3.cell 1; simp at c20 c21 c30 c31)
    refine post_two rfl rfl rfl ((((M2.set0 0 _).set0 1 _).far _ (by simp)).far _ (by simp)) (((((M3.far _ (by simp)).far _ (by simp)).set0 0 _).set0 1 _)) rfl ?_
    refine ⟨((((HB1.out.trans ((HB.out.trans hb3).mono (by omega))).setCell (by simp) _).setCell (by simp) _).setCell (by simp) _).setCell (by simp) _, none, 0, none, 0, ?_, ?_⟩
    ·rw [HTN.out]; rfl
    ·rw [HTN.out]; exact Pg.nil _
   | some q' =>
    rw [hlp] at HLN HST
    have HL2 := h_ (show Calls Tryz.prog 15 #[.pointer (some ⟨w1.heap.size, 0, none⟩), .int .i64 k, .string (bs sk)] U fun e w' => e = .returned (.bool true) ∧ Below w1.heap.size U w' ∧ ∃ A c v es', es'.length ≤ es.length + 1 ∧ PgW w' w1.heap.size (w1.heap.size + 1) A c v es' q' from
     HLN.out.mono fun e w' h => by
      obtain ⟨h1, ⟨q2, A2, c2, v2, es2, h2, h3, h4, h5⟩ | ⟨h2, _⟩⟩ := h
      ·injection h2 with h2; subst h2
       exact ⟨h3, h1, A2, c2, v2, es2, h4, h5⟩
      ·cases h2)
    go_wp2_with (go_at_call 15; refine HL2.out.mono ?_; rintro e w3 ⟨rfl, hb3, A3, c3, v3, es3, hes3, hp3⟩)
    go_roundw
    case rel => exact ⟨k + 1, A3, c3, v3, es3, q', by omega, by go_num, HST.out, by omega, hp3, HB.out.trans hb3, by have := hb3.size; omega⟩
    case measure => simp [intOf]; omega
  ·obtain rfl : k = n := by omega
   have hd0 : decide ((k : Int) < (k : Int)) = false := by simp
   have hkl : k < (cutB 10 s).length := by omega
   obtain ⟨ad, e0, hcl⟩ := (HSL.out.below HB.out).at_ hkl
   injection e0 with e0
   subst e0
   have hi1 : (k : Int) < (k : Int) + 1 := by omega
   have hlast : (cutB 10 s).getLastD [] = (cutB 10 s)[k] := by
    rw [List.getLastD_eq_getLast?, List.getLast?_eq_getElem?, show (cutB 10 s).length - 1 = k by omega, List.getElem?_eq_getElem hkl]; rfl
   have HPF := h_ (show parF s = if (cutB 10 s)[k] = [] ∧ mayPB q = true then (q, 0, 0) else (⟨[], []⟩, 2, k) from by
    have := parF_end (s := s) (q := q) (by rw [show (cutB 10 s).length - 1 = k by omega]; exact htp)
    rw [this, hlast, show (cutB 10 s).length - 1 = k by omega])
   obtain ⟨A2, c2, rfl, hPg⟩ := HP.out.read (by omega)
   have HMA := h_ (layout_May A c A2 c2 q U hPg)
   have hq0 : ((bs (cutB 10 s)[k]).toList == []) = decide ((cutB 10 s)[k] = []) := by rw [bs_list]; exact Bool.beq_eq_decide_eq _ _
   have hq2 : (bs (cutB 10 s)[k]).toList.isEmpty = decide ((cutB 10 s)[k] = []) := by rw [bs_list]; cases (cutB 10 s)[k] <;> simp
   unfold strV at hcl
   clear hPg hlast
   generalize (cutB 10 s)[k] = lk at *
   have M2 := HR2.out.next HB.out
   have M3 := HR3.out.next HB.out
   have p0 := HP.out.blk.cell 0
   have p1 := HP.out.blk.cell 1
   have g20 := M2.frozen 0
   have g21 := M2.frozen 1
   have g30 := M3.frozen 0
   have g31 := M3.frozen 1
   have c20 := M2.cell 0
   have c21 := M2.cell 1
   have c30 := M3.cell 0
   have c31 := M3.cell 1
   simp at p0 p1 c20 c21 c30 c31
   by_cases hlk : lk = []
   ·have hmt : decide (lk = []) = true := by simpa using hlk
    cases hmay : mayPB q with
    | false =>
     rw [if_neg (by rw [hmay]; simp)] at HPF
     rw [hmay] at HMA
     clear hlk
     go_wp2_with (go_at_call 16; refine HMA.out.mono ?_; rintro e w7 ⟨rfl, hb7⟩; have M2 := M2.next hb7; have M3 := M3.next hb7; have MP7 := (HP.out.next hb7).blk; have p0 := MP7.cell 0; have p1 := MP7.cell 1; have g20 := M2.frozen 0; have g21 := M2.frozen 1; have g30 := M3.frozen 0; have g31 := M3.frozen 1; have c20 := M2.cell 0; have c21 := M2.cell 1; have c30 := M3.cell 0; have c31 := M3.cell 1; simp at p0 p1 c20 c21 c30 c31)
     refine post_two rfl rfl rfl ((((M2.set0 0 _).set0 1 _).far _ (by simp)).far _ (by simp)) (((((M3.far _ (by simp)).far _ (by simp)).set0 0 _).set0 1 _)) rfl ?_
     refine ⟨((((HB1.out.trans ((HB.out.trans (hb7.mono zU)).mono (by omega))).setCell (by simp) _).setCell (by simp) _).setCell (by simp) _).setCell (by simp) _, none, 0, none, 0, ?_, ?_⟩
     ·rw [HPF.out]; rfl
     ·rw [HPF.out]; exact Pg.nil _
    | true =>
     rw [if_pos ⟨hlk, hmay⟩] at HPF
     rw [hmay] at HMA
     clear hlk
     go_wp2_with (go_at_call 16; refine HMA.out.mono ?_; rintro e w7 ⟨rfl, hb7⟩; have M2 := M2.next hb7; have M3 := M3.next hb7; have MP7 := (HP.out.next hb7).blk; have p0 := MP7.cell 0; have p1 := MP7.cell 1; have g20 := M2.frozen 0; have g21 := M2.frozen 1; have g30 := M3.frozen 0; have g31 := M3.frozen 1; have c20 := M2.cell 0; have c21 := M2.cell 1; have c30 := M3.cell 0; have c31 := M3.cell 1; simp at p0 p1 c20 c21 c30 c31)
     refine post_two rfl rfl rfl ((((M2.set0 0 _).set0 1 _).far _ (by simp)).far _ (by simp)) (((((M3.far _ (by simp)).far _ (by simp)).set0 0 _).set0 1 _)) rfl ?_
     have hPW := (((((HP.out.next hb7).far ⟨w.heap.size, 0, none⟩ (.slice A q.costs.length c) (by simp; omega) (by simp; omega)).far ⟨w.heap.size, 1, none⟩ (.slice A2 q.rows.length c2) (by simp; omega) (by simp; omega)).far ⟨w.heap.size + 1, 0, none⟩ (.int .i64 0) (by simp; omega) (by simp; omega)).far ⟨w.heap.size + 1, 1, none⟩ (.int .i64 0) (by simp; omega) (by simp; omega))
     obtain ⟨A3, c3, e3, hPz⟩ := hPW.read (by omega)
     injection e3 with e3 e4 e5
     subst e3 e5
     refine ⟨((((HB1.out.trans ((HB.out.trans (hb7.mono zU)).mono (by omega))).setCell (by simp) _).setCell (by simp) _).setCell (by simp) _).setCell (by simp) _, A, c, A2, c2, ?_, ?_⟩
     ·rw [HPF.out]; rfl
     ·rw [HPF.out]; exact hPz
   ·have hmt : decide (lk = []) = false := by simpa using hlk
    rw [if_neg (fun h => hlk h.1)] at HPF
    clear hlk
    go_wp2_with fail
    refine post_two rfl rfl rfl ((((M2.set0 0 _).set0 1 _).far _ (by simp)).far _ (by simp)) (((((M3.far _ (by simp)).far _ (by simp)).set0 0 _).set0 1 _)) rfl ?_
    refine ⟨((((HB1.out.trans (HB.out.mono (by omega))).setCell (by simp) _).setCell (by simp) _).setCell (by simp) _).setCell (by simp) _, none, 0, none, 0, ?_, ?_⟩
    ·rw [HPF.out]; rfl
    ·rw [HPF.out]; exact Pg.nil _
end Go.Proofs.YtjcdkbalhleeeaaGreatDoor
