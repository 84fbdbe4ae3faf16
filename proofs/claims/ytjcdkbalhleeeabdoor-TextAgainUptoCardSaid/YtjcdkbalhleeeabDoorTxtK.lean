/-
  Walked: text.line. Conditions: the library's variables hold what its text lays; the text is of a machine's size.
-/
import Derived.Test.YtjcdkbalhleeeabDoorTxtJ
import Derived.Test.YtjcdkbalhleeeabDoorRwB
import Derived.Deep.RegionLaw
import Derived.RegionTactic
import Derived.Deep.DeepCutAuto
namespace Go.Proofs.YtjcdkbalhleeeabDoor
open Go.Proofs Go.RowKit
open Go.Lib (itoa join)

/-- A program with one line more. -/
def lineP (k : Nat) (s : List UInt8) (q : PG) : Option PG := if k = 0 then (lineC s).map fun cs => ⟨cs, q.rows⟩ else (lineR s).map fun r => ⟨q.costs, q.rows ++ [r]⟩
theorem line_step {ls : List (List UInt8)} {k : Nat} (hk : k < ls.length) {q : PG} (h : takeP (ls.take k) = some q) : takeP (ls.take (k + 1)) = lineP k ls[k] q := by
  unfold lineP
  rcases Nat.eq_zero_or_pos k with h0 | h0
  · subst h0
    obtain rfl : q = ⟨[], []⟩ := by simp [takeP] at h; exact h.symm
    rw [if_pos rfl]
    exact takeP_first hk
  · rw [if_neg (by omega)]
    exact takeP_step hk h h0
/-- What line hands back, and what the box then has. -/
def RetLn (w : World) (b base m : Nat) (o : Option PG) (e : Ending) (w' : World) : Prop :=
  Below b w w' ∧ ((∃ q' A c v es, o = some q' ∧ e = .returned (.bool true) ∧ es.length ≤ m + 1 ∧ PgW w' b base A c v es q') ∨ (o = none ∧ e = .returned (.bool false)))

set_option maxRecDepth 100000 in
set_option maxHeartbeats 2000000 in
theorem text_line (b base k : Nat) (sk : List UInt8) (w : World) (A : Option Addr) (c : Nat) (v : Value) (es : List RE) (q : PG) (hp : PgW w b base A c v es q) (hbase : base ≤ w.heap.size) (hes : es.length ≤ 2147483648) (hs : sk.length ≤ 1073741824) (ht : Tab w) (he : Errs w) (hm : MaxL w) :
    Calls Tryd.prog 22 #[.pointer (some ⟨b, 0, none⟩), .int .i64 k, .string (bs sk)] w (RetLn w b base es.length (lineP k sk q)) := by
  have HP := Lib.hid hp
  have HT := Lib.hid ht
  have HE := Lib.hid he
  have HSP := Lib.hid (strings_Split sk 32 w hs hm)
  have hbb := hp.below
  have hbl := hp.blk.lt
  clear ht he hm hp
  obtain ⟨m, hm⟩ : ∃ m, (cutB 32 sk).length = m + 1 := ⟨(cutB 32 sk).length - 1, by have := List.length_pos_iff.2 (cutB_ne 32 sk); omega⟩
  have hcw := cut_small (c := 32) (s := sk)
  have HPW := Lib.hid (fun (x : List UInt8) (hx : x ∈ cutB 32 sk) => cut_parts x hx)
  go_enter Tryd.func22, Tryd.ntmps22
  go_upto_region 2 with (go_at_call 21; refine HSP.out.mono ?_; rintro e X ⟨AW, cW, rfl, hSX, hbX, hnew⟩; rw [hm])
  have HSX := Lib.hid hSX
  have HBX := Lib.hid hbX
  have zX := hbX.size
  have HPX := Lib.hid (HP.out.next hbX)
  have HTX := Lib.hid (HT.out.below hbX)
  have HEX := Lib.hid (HE.out.below hbX)
  clear hSX hbX
  obtain ⟨aw, e1, hw0⟩ := HSX.out.at_ (k := 0) (by omega)
  subst e1
  have hawb := hnew _ rfl
  clear hnew
  obtain ⟨hSle, hScap, _⟩ := HSX.out
  rw [hm] at hSle
  by_cases hk0 : k = 0
  · subst hk0
    have HLP := Lib.hid (show lineP 0 sk q = (lineC sk).map fun cs => ⟨cs, q.rows⟩ from rfl)
    obtain ⟨AT, cT, hrun, hST⟩ := HSX.out.from_run hm 1 (by omega)
    have hrun1 : ∀ W, (Instr.slice 41 (.slice (some aw) (m + 1) cW) (some (.int .i64 1)) none none).run Tryd.prog W = .ok (.slice AT m cT) W := hrun
    have hdl : ((cutB 32 sk).drop 1).length = m := by rw [List.length_drop, hm]; rfl
    have HNB := Lib.hid (text_numbers AT cT ((cutB 32 sk).drop 1) X hST (by omega) (fun x hx => by have := HPW.out x (List.mem_of_mem_drop hx); omega) HTX.out HEX.out)
    rw [hdl] at HNB
    have hlc : lineC sk = if (cutB 32 sk)[0]'(by omega) = mostW then numsR ((cutB 32 sk).drop 1) else none := by
      unfold lineC
      obtain ⟨x, y, hc⟩ := List.exists_cons_of_ne_nil (cutB_ne 32 sk)
      simp only [hc]; rfl
    have hq0 : ((bs ((cutB 32 sk)[0]'(by omega))).toList == [109, 111, 115, 116]) = decide ((cutB 32 sk)[0]'(by omega) = mostW) := by rw [bs_list]; exact Bool.beq_eq_decide_eq _ _
    have hw0' : X.cell? aw = some (.string (bs ((cutB 32 sk)[0]'(by omega)))) := hw0
    rw [hlc] at HLP
    clear hrun hlc hw0
    generalize (cutB 32 sk)[0]'(by omega) = hd0 at *
    have hbX : b ≤ X.heap.size := by omega
    have HBb := Lib.hid (HBX.out.mono (Nat.le_of_lt hbl))
    have FR := Lib.hid (show ∀ w3, Below X.heap.size X w3 → ∀ u : Value, (w3.setCell ⟨b, 0, none⟩ u).cell? aw = some (.string (bs hd0)) from fun w3 h u => (World.cell?_setCell_other _ _ _ _ (by intro e; rw [← e] at hawb; simp at hawb; omega)).trans ((h.cell (World.block_lt_of_cell? _ _ hw0')).trans hw0'))
    by_cases hmo : hd0 = mostW
    · rw [if_pos hmo] at HLP
      have hmt : decide (hd0 = mostW) = true := by simpa using hmo
      clear hmo
      cases hnv : numsR ((cutB 32 sk).drop 1) with
      | none =>
        rw [hnv] at HLP
        go_wp2_with (go_at_call 32; refine HNB.out.mono ?_; intro e w3 hret; obtain ⟨hb3, rfl⟩ := hret.none_ hnv; have MP := (HPX.out.next hb3).blk; have p0 := MP.cell 0; have fp0 := MP.frozen 0; have hw3 := FR.out _ hb3 (.slice none 0 0); simp at p0)
        go_ret
        exact ⟨(HBb.out.trans (hb3.mono hbX)).setCell (Nat.le_refl _) _, Or.inr ⟨HLP.out, rfl⟩⟩
      | some cs =>
        rw [hnv] at HLP
        go_wp2_with (go_at_call 32; refine HNB.out.mono ?_; intro e w3 hret; obtain ⟨hb3, A3, c3, rfl, hr3, hnw3⟩ := hret.some_ hnv; have MP := (HPX.out.next hb3).blk; have p0 := MP.cell 0; have fp0 := MP.frozen 0; have hw3 := FR.out _ hb3 (.slice A3 cs.length c3); simp at p0)
        go_ret
        exact ⟨(HBb.out.trans (hb3.mono hbX)).setCell (Nat.le_refl _) _, Or.inl ⟨_, A3, c3, v, es, HLP.out, rfl, by omega, HPX.out.costs hb3 (by omega) hr3 hnw3⟩⟩
    · rw [if_neg hmo] at HLP
      have hmt : decide (hd0 = mostW) = false := by simpa using hmo
      clear hmo
      cases hnv : numsR ((cutB 32 sk).drop 1) with
      | none =>
        go_wp2_with (go_at_call 32; refine HNB.out.mono ?_; intro e w3 hret; obtain ⟨hb3, rfl⟩ := hret.none_ hnv; have MP := (HPX.out.next hb3).blk; have p0 := MP.cell 0; have fp0 := MP.frozen 0; have hw3 := FR.out _ hb3 (.slice none 0 0); simp at p0)
        go_ret
        exact ⟨(HBb.out.trans (hb3.mono hbX)).setCell (Nat.le_refl _) _, Or.inr ⟨HLP.out, rfl⟩⟩
      | some cs =>
        go_wp2_with (go_at_call 32; refine HNB.out.mono ?_; intro e w3 hret; obtain ⟨hb3, A3, c3, rfl, hr3, hnw3⟩ := hret.some_ hnv; have MP := (HPX.out.next hb3).blk; have p0 := MP.cell 0; have fp0 := MP.frozen 0; have hw3 := FR.out _ hb3 (.slice A3 cs.length c3); simp at p0)
        go_ret
        exact ⟨(HBb.out.trans (hb3.mono hbX)).setCell (Nat.le_refl _) _, Or.inr ⟨HLP.out, rfl⟩⟩
  · have hkz : ((k : Int) == 0) = false := by rw [beq_eq_false_iff_ne]; omega
    have HLP := Lib.hid (show lineP k sk q = (lineR sk).map fun r => ⟨q.costs, q.rows ++ [r]⟩ from by unfold lineP; rw [if_neg hk0])
    have hbX : b ≤ X.heap.size := by omega
    have HBb := Lib.hid (HBX.out.mono (Nat.le_of_lt hbl))
    rcases Nat.eq_zero_or_pos m with hm0 | hm0
    · subst hm0
      rw [lineR_short (by omega)] at HLP
      go_wp2_with fail
      go_ret
      exact ⟨HBb.out, Or.inr ⟨HLP.out, rfl⟩⟩
    · obtain ⟨m', rfl⟩ : ∃ m', m = m' + 1 := ⟨m - 1, by omega⟩
      rw [lineR_long hm] at HLP
      obtain ⟨aw', e1, hwm⟩ := HSX.out.at_ (k := m') (by omega)
      injection e1 with e1; subst e1
      obtain ⟨hrun, hST⟩ := HSX.out.to_run hm m' (by omega)
      obtain ⟨AT2, cT2, hrun2, hST2⟩ := HSX.out.from_run hm (m' + 1) (by omega)
      have hdl : ((cutB 32 sk).take m').length = m' := by rw [List.length_take]; omega
      have hd2 : (cutB 32 sk).drop (m' + 1) = [(cutB 32 sk)[m' + 1]'(by omega)] := by
        rw [List.drop_eq_getElem_cons (show m' + 1 < (cutB 32 sk).length by omega), List.drop_of_length_le (by omega)]
      have HNB := Lib.hid (text_numbers (some aw) cW ((cutB 32 sk).take m') X hST (by omega) (fun x hx => by have := HPW.out x (List.mem_of_mem_take hx); omega) HTX.out HEX.out)
      rw [hdl] at HNB
      have hll := HPW.out _ (List.getElem_mem (show m' + 1 < (cutB 32 sk).length by omega))
      rw [hd2] at hST2
      have HN2 := Lib.hid (show ∀ W, Below X.heap.size X W → Calls Tryd.prog 32 #[.slice AT2 1 cT2] W (RetNs W [(cutB 32 sk)[m' + 1]'(by omega)]) from fun W hW => by
        have := text_numbers AT2 cT2 [(cutB 32 sk)[m' + 1]'(by omega)] W (hST2.below hW) (by simp) (fun x hx => by simp at hx; subst hx; omega) (HTX.out.below hW) (HEX.out.below hW)
        exact this)
      have hj6 : m' + 1 + 1 - (m' + 1) = 1 := by omega
      rw [hj6] at hrun2
      have hrun3 : ∀ W, (Instr.slice 41 (.slice (some aw) (m' + 1 + 1) cW) (some (.int .i64 ((m' : Int) + 1))) none none).run Tryd.prog W = .ok (.slice AT2 1 cT2) W := hrun2
      have hq0 : ((bs ((cutB 32 sk)[m']'(by omega))).toList == [60, 61]) = decide ((cutB 32 sk)[m']'(by omega) = leW) := by rw [bs_list]; exact Bool.beq_eq_decide_eq _ _
      clear hw0 hll hrun2 hd2
      unfold strV at hwm
      generalize (cutB 32 sk)[m']'(by omega) = wl at *
      generalize (cutB 32 sk)[m' + 1]'(by omega) = wn at *
      have hj0 : (m' : Int) + 1 + 1 - 2 = (m' : Int) := by omega
      have hj1 : (m' : Int) + 1 + 1 - 1 = (m' : Int) + 1 := by omega
      have hj2 : ¬ ((m' : Int) + 1 + 1 < 2) := by omega
      have hj3 : (m' : Int) < (m' : Int) + 1 + 1 := by omega
      have hn1 := numsR_one wn
      by_cases hle : wl = leW
      · have hmt : decide (wl = leW) = true := by simpa using hle
        rw [if_pos hle] at HLP
        clear hle
        cases hnv : numsR ((cutB 32 sk).take m') with
        | none =>
          rw [hnv] at HLP
          cases hnw : numR wn with
          | none =>
            have hn2 : numsR [wn] = none := by rw [hn1, hnw]; rfl
            go_wp2_with (first
              | (go_at_call 32; refine (HN2.out _ hb5).mono ?_; intro e w3 hret2; obtain ⟨hb4, rfl⟩ := hret2.none_ hn2; have hb3 := hb5.trans (hb4.mono hb5.size))
              | (go_at_call 32; refine HNB.out.mono ?_; intro e w5 hret; obtain ⟨hb5, rfl⟩ := hret.none_ hnv))
            go_ret
            exact ⟨HBb.out.trans (hb3.mono hbX), Or.inr ⟨HLP.out, rfl⟩⟩
          | some nn =>
            have hn2 : numsR [wn] = some [nn] := by rw [hn1, hnw]; rfl
            go_wp2_with (first
              | (go_at_call 32; refine (HN2.out _ hb5).mono ?_; intro e w3 hret2; obtain ⟨hb4, A6, c6, rfl, hr6, hnw6⟩ := hret2.some_ hn2; have hb3 := hb5.trans (hb4.mono hb5.size))
              | (go_at_call 32; refine HNB.out.mono ?_; intro e w5 hret; obtain ⟨hb5, rfl⟩ := hret.none_ hnv))
            go_ret
            exact ⟨HBb.out.trans (hb3.mono hbX), Or.inr ⟨HLP.out, rfl⟩⟩
        | some cs =>
          rw [hnv] at HLP
          cases hnw : numR wn with
          | none =>
            rw [hnw] at HLP
            have hn2 : numsR [wn] = none := by rw [hn1, hnw]; rfl
            go_wp2_with (first
              | (go_at_call 32; refine (HN2.out _ hb5).mono ?_; intro e w3 hret2; obtain ⟨hb4, rfl⟩ := hret2.none_ hn2; have hb3 := hb5.trans (hb4.mono hb5.size))
              | (go_at_call 32; refine HNB.out.mono ?_; intro e w5 hret; obtain ⟨hb5, A3, c3, rfl, hr3, hnw3⟩ := hret.some_ hnv))
            go_ret
            exact ⟨HBb.out.trans (hb3.mono hbX), Or.inr ⟨HLP.out, rfl⟩⟩
          | some nn =>
            rw [hnw] at HLP
            have hn2 : numsR [wn] = some [nn] := by rw [hn1, hnw]; rfl
            go_wp2_with (first
              | (go_at_call 32; refine (HN2.out _ hb5).mono ?_; intro e w3 hret2; obtain ⟨hb4, A6, c6, rfl, hr6, hnw6⟩ := hret2.some_ hn2; have hb3 := hb5.trans (hb4.mono hb5.size))
              | (go_at_call 32; refine HNB.out.mono ?_; intro e w5 hret; obtain ⟨hb5, A3, c3, rfl, hr3, hnw3⟩ := hret.some_ hnv))
            have hz5 := hb5.size
            have hz4 := hb4.size
            have MP := (HPX.out.next hb3).blk
            have HPZ := Lib.hid (HPX.out.next hb3)
            have p1 : w3.cell? ⟨b, 1, none⟩ = some v := MP.cell 1
            have pA : ∀ o, (w3.alloc o).cell? ⟨b, 1, none⟩ = some v := fun o => (MP.alloc o).cell 1
            have fp1 : w3.frozen? ⟨b, 1, none⟩ = false := MP.frozen 1
            obtain ⟨a6, e6, hm0'⟩ := hr6.at_ (k := 0) (by simp)
            subst e6
            have hm6 : w3.cell? a6 = some (.int .i64 nn) := hm0'
            go_region_law (refine step_appW rfl (.tmp 74) (.tmp 80) rfl base v es.length (reCells es) (.slice A3 cs.length c3) (.int .i64 nn) (by simp [Act.eval]) (own_below HPZ.out.rows.own (((Below.refl _ _).alloc (Nat.le_refl _) _).drew)) w3.heap.size 1 (by simp [Act.eval]) (by first | exact Blk.mk' _ _ _ | exact (Blk.mk' _ _ _).drew) rfl rfl (by omega) (by simp; omega) ?_; intro g7 cap7 w7 hown7 hg7 hat7 hlt7; have MP7 : Blk w7 b 25 #[.slice A q.costs.length c, v] := ((MP.alloc _).drew).grown hg7 (fun e => by have := (HPX.out.rows.own.lt _ e.symm).1; omega); have fp7 := MP7.frozen 1; have pp7 := MP7.cell 1; simp at pp7)
            all_goals
              have hz7 := hg7.size
              have hpr := HPX.out.row (w := (w3.alloc (.cells #[.slice A3 cs.length c3, .int .i64 nn] 50)).drew) ((hb3.alloc (by omega) _).drew) (by omega) (((hr3.below hb4).alloc _).drew) (fun ad e => by have := hnw3 ad e; simp; omega) hown7 hg7 hat7
              have hb7 : Below b w w7 := (((HBb.out.trans (hb3.mono hbX)).alloc (by omega) _).drew).grown hg7 (by simp; omega) (own_ge HPX.out.rows.own (by omega))
              go_wp2_with fail
              go_ret
              exact ⟨hb7.setCell (Nat.le_refl _) _, Or.inl ⟨_, A, c, _, es ++ [(A3, c3, (cs, nn))], HLP.out, rfl, by simp, hpr⟩⟩
      · have hmt : decide (wl = leW) = false := by simpa using hle
        rw [if_neg hle] at HLP
        clear hle
        go_wp2_with fail
        go_ret
        exact ⟨HBb.out, Or.inr ⟨HLP.out, rfl⟩⟩
end Go.Proofs.YtjcdkbalhleeeabDoor
