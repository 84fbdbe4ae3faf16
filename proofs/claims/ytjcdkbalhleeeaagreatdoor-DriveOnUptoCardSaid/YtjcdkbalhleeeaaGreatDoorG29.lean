/-
  Contracts of functions and plain laws that later parts of the proof use. The conditions stand in each theorem.
-/
import Derived.Test.YtjcdkbalhleeeaaGreatDoorG28
import Derived.Deep.RegionLaw
import Derived.RegionTactic
import Derived.Deep.DeepCutAuto
import Derived.Test.YtjcdkbalhleeeaaGreatDoorG27
import Derived.Test.YtjcdkbalhleeeaaGreatDoorG10
namespace Go.Proofs.YtjcdkbalhleeeaaGreatDoor
open Go.Proofs Go.RowKit
open Go.Lib (itoa join)

/-- A program with one line more. -/
def lineP (k : Nat) (s : List UInt8) (q : PG) : Option PG := if k = 0 then (lineC s).map fun cs => ⟨cs, q.rows⟩ else (lineR s).map fun r => ⟨q.costs, q.rows ++ [r]⟩
theorem line_step {ls : List (List UInt8)} {k : Nat} (hk : k < ls.length) {q : PG} (h : takeP (ls.take k) = some q) : takeP (ls.take (k + 1)) = lineP k ls[k] q := by
  unfold lineP
  rcases Nat.eq_zero_or_pos k with h0 | h0
  · subst h0
    obtain rfl : q = ⟨[], []⟩ := by simp [takeP] at h; exact h.symm
    rw [if_pos rfl]
    exact takeP_first hk
  · rw [if_neg (by omega)]
    exact takeP_step hk h h0
/-- What line hands back, and what the box then has. -/
def RetLn (w : World) (b base m : Nat) (o : Option PG) (e : Ending) (w' : World) : Prop :=
  Below b w w' ∧ ((∃ q' A c v es, o = some q' ∧ e = .returned (.bool true) ∧ es.length ≤ m + 1 ∧ PgW w' b base A c v es q') ∨ (o = none ∧ e = .returned (.bool false)))

set_option maxRecDepth 100000 in
set_option maxHeartbeats 2000000 in
theorem text_line (b base k : Nat) (sk : List UInt8) (w : World) (A : Option Addr) (c : Nat) (v : Value) (es : List RE) (q : PG) (hp : PgW w b base A c v es q) (hbase : base ≤ w.heap.size) (hes : es.length ≤ 2147483648) (hs : sk.length ≤ 1073741824) (ht : Tab w) (he : Errs w) (hm : MaxL w) :
    Calls Tryz.prog 15 #[.pointer (some ⟨b, 0, none⟩), .int .i64 k, .string (bs sk)] w (RetLn w b base es.length (lineP k sk q)) := by
  have HP := Lib.hid hp
  have HT := Lib.hid ht
  have HE := Lib.hid he
  have HSP := Lib.hid (strings_Split sk 32 w hs hm)
  have hbb := hp.below
  have hbl := hp.blk.lt
  clear ht he hm hp
  obtain ⟨m, hm⟩ : ∃ m, (cutB 32 sk).length = m + 1 := ⟨(cutB 32 sk).length - 1, by have := List.length_pos_iff.2 (cutB_ne 32 sk); omega⟩
  have hcw := cut_small (c := 32) (s := sk)
  have HPW := Lib.hid (fun (x : List UInt8) (hx : x ∈ cutB 32 sk) => cut_parts x hx)
  go_enter Tryz.func15, Tryz.ntmps15
  go_upto_region 2 with (go_at_call 12; refine HSP.out.mono ?_; rintro e X ⟨AW, cW, rfl, hSX, hbX, hnew⟩; rw [hm])
  have HSX := Lib.hid hSX
  have HBX := Lib.hid hbX
  have zX := hbX.size
  have HPX := Lib.hid (HP.out.next hbX)
  have HTX := Lib.hid (HT.out.below hbX)
  have HEX := Lib.hid (HE.out.below hbX)
  clear hSX hbX
  obtain ⟨aw, e1, hw0⟩ := HSX.out.at_ (k := 0) (by omega)
  subst e1
  have hawb := hnew _ rfl
  clear hnew
  obtain ⟨hSle, hScap, _⟩ := HSX.out
  rw [hm] at hSle
  by_cases hk0 : k = 0
  · subst hk0
    have HLP := Lib.hid (show lineP 0 sk q = (lineC sk).map fun cs => ⟨cs, q.rows⟩ from rfl)
    obtain ⟨AT, cT, hrun, hST⟩ := HSX.out.from_run hm 1 (by omega)
    have hrun1 : ∀ W, (Instr.slice 22 (.slice (some aw) (m + 1) cW) (some (.int .i64 1)) none none).run Tryz.prog W = .ok (.slice AT m cT) W := hrun
    have hdl : ((cutB 32 sk).drop 1).length = m := by rw [List.length_drop, hm]; rfl
    have HNB := Lib.hid (text_numbers AT cT ((cutB 32 sk).drop 1) X hST (by omega) (fun x hx => by have := HPW.out x (List.mem_of_mem_drop hx); omega) HTX.out HEX.out)
    rw [hdl] at HNB
    have hlc : lineC sk = if (cutB 32 sk)[0]'(by omega) = mostW then numsR ((cutB 32 sk).drop 1) else none := by
      unfold lineC
      obtain ⟨x, y, hc⟩ := List.exists_cons_of_ne_nil (cutB_ne 32 sk)
      simp only [hc]; rfl
    have hq0 : ((bs ((cutB 32 sk)[0]'(by omega))).toList == [109, 111, 115, 116]) = decide ((cutB 32 sk)[0]'(by omega) = mostW) := by rw [bs_list]; exact Bool.beq_eq_decide_eq _ _
    have hw0' : X.cell? aw = some (.string (bs ((cutB 32 sk)[0]'(by omega)))) := hw0
    rw [hlc] at HLP
    clear hrun hlc hw0
    generalize (cutB 32 sk)[0]'(by omega) = hd0 at *
    have hbX : b ≤ X.heap.size := by omega
    have HBb := Lib.hid (HBX.out.mono (Nat.le_of_lt hbl))
    have FR := Lib.hid (show ∀ w3, Below X.heap.size X w3 → ∀ u : Value, (w3.setCell ⟨b, 0, none⟩ u).cell? aw = some (.string (bs hd0)) from fun w3 h u => (World.cell?_setCell_other _ _ _ _ (by intro e; rw [← e] at hawb; simp at hawb; omega)).trans ((h.cell (World.block_lt_of_cell? _ _ hw0')).trans hw0'))
    by_cases hmo : hd0 = mostW
    · rw [if_pos hmo] at HLP
      have hmt : decide (hd0 = mostW) = true := by simpa using hmo
      clear hmo
      cases hnv : numsR ((cutB 32 sk).drop 1) with
      | none =>
        rw [hnv] at HLP
        go_wp2_with (go_at_call 30; refine HNB.out.mono ?_; intro e w3 hret; obtain ⟨hb3, rfl⟩ := hret.none_ hnv; have MP := (HPX.out.next hb3).blk; have p0 := MP.cell 0; have fp0 := MP.frozen 0; have hw3 := FR.out _ hb3 (.slice none 0 0); simp at p0)
        go_ret
        exact ⟨(HBb.out.trans (hb3.mono hbX)).setCell (Nat.le_refl _) _, Or.inr ⟨HLP.out, rfl⟩⟩
      | some cs =>
        rw [hnv] at HLP
        go_wp2_with (go_at_call 30; refine HNB.out.mono ?_; intro e w3 hret; obtain ⟨hb3, A3, c3, rfl, hr3, hnw3⟩ := hret.some_ hnv; have MP := (HPX.out.next hb3).blk; have p0 := MP.cell 0; have fp0 := MP.frozen 0; have hw3 := FR.out _ hb3 (.slice A3 cs.length c3); simp at p0)
        go_ret
        exact ⟨(HBb.out.trans (hb3.mono hbX)).setCell (Nat.le_refl _) _, Or.inl ⟨_, A3, c3, v, es, HLP.out, rfl, by omega, HPX.out.costs hb3 (by omega) hr3 hnw3⟩⟩
    · rw [if_neg hmo] at HLP
      have hmt : decide (hd0 = mostW) = false := by simpa using hmo
      clear hmo
      cases hnv : numsR ((cutB 32 sk).drop 1) with
      | none =>
        go_wp2_with (go_at_call 30; refine HNB.out.mono ?_; intro e w3 hret; obtain ⟨hb3, rfl⟩ := hret.none_ hnv; have MP := (HPX.out.next hb3).blk; have p0 := MP.cell 0; have fp0 := MP.frozen 0; have hw3 := FR.out _ hb3 (.slice none 0 0); simp at p0)
        go_ret
        exact ⟨(HBb.out.trans (hb3.mono hbX)).setCell (Nat.le_refl _) _, Or.inr ⟨HLP.out, rfl⟩⟩
      | some cs =>
        go_wp2_with (go_at_call 30; refine HNB.out.mono ?_; intro e w3 hret; obtain ⟨hb3, A3, c3, rfl, hr3, hnw3⟩ := hret.some_ hnv; have MP := (HPX.out.next hb3).blk; have p0 := MP.cell 0; have fp0 := MP.frozen 0; have hw3 := FR.out _ hb3 (.slice A3 cs.length c3); simp at p0)
        go_ret
        exact ⟨(HBb.out.trans (hb3.mono hbX)).setCell (Nat.le_refl _) _, Or.inr ⟨HLP.out, rfl⟩⟩
  · have hkz : ((k : Int) == 0) = false := by rw [beq_eq_false_iff_ne]; omega
    have HLP := Lib.hid (show lineP k sk q = (lineR sk).map fun r => ⟨q.costs, q.rows ++ [r]⟩ from by unfold lineP; rw [if_neg hk0])
    have hbX : b ≤ X.heap.size := by omega
    have HBb := Lib.hid (HBX.out.mono (Nat.le_of_lt hbl))
    rcases Nat.eq_zero_or_pos m with hm0 | hm0
    · subst hm0
      rw [lineR_short (by omega)] at HLP
      go_wp2_with fail
      go_ret
      exact ⟨HBb.out, Or.inr ⟨HLP.out, rfl⟩⟩
    · obtain ⟨m', rfl⟩ : ∃ m', m = m' + 1 := ⟨m - 1, by omega⟩
      rw [lineR_long hm] at HLP
      obtain ⟨aw', e1, hwm⟩ := HSX.out.at_ (k := m') (by omega)
      injection e1 with e1; subst e1
      obtain ⟨hrun, hST⟩ := HSX.out.to_run hm m' (by omega)
      obtain ⟨AT2, cT2, hrun2, hST2⟩ := HSX.out.from_run hm (m' + 1) (by omega)
      have hdl : ((cutB 32 sk).take m').length = m' := by rw [List.length_take]; omega
      have hd2 : (cutB 32 sk).drop (m' + 1) = [(cutB 32 sk)[m' + 1]'(by omega)] := by
        rw [List.drop_eq_getElem_cons (show m' + 1 < (cutB 32 sk).length by omega), List.drop_of_length_le (by omega)]
      have HNB := Lib.hid (text_numbers (some aw) cW ((cutB 32 sk).take m') X hST (by omega) (fun x hx => by have := HPW.out x (List.mem_of_mem_take hx); omega) HTX.out HEX.out)
      rw [hdl] at HNB
      have hll := HPW.out _ (List.getElem_mem (show m' + 1 < (cutB 32 sk).length by omega))
      rw [hd2] at hST2
      have HN2 := Lib.hid (show ∀ W, Below X.heap.size X W → Calls Tryz.prog 30 #[.slice AT2 1 cT2] W (RetNs W [(cutB 32 sk)[m' + 1]'(by omega)]) from fun W hW => by
        have := text_numbers AT2 cT2 [(cutB 32 sk)[m' + 1]'(by omega)] W (hST2.below hW) (by simp) (fun x hx => by simp at hx; subst hx; omega) (HTX.out.below hW) (HEX.out.below hW)
        exact this)
      have hj6 : m' + 1 + 1 - (m' + 1) = 1 := by omega
      rw [hj6] at hrun2
      have hrun3 : ∀ W, (Instr.slice 22 (.slice (some aw) (m' + 1 + 1) cW) (some (.int .i64 ((m' : Int) + 1))) none none).run Tryz.prog W = .ok (.slice AT2 1 cT2) W := hrun2
      have hq0 : ((bs ((cutB 32 sk)[m']'(by omega))).toList == [60, 61]) = decide ((cutB 32 sk)[m']'(by omega) = leW) := by rw [bs_list]; exact Bool.beq_eq_decide_eq _ _
      clear hw0 hll hrun2 hd2
      unfold strV at hwm
      generalize (cutB 32 sk)[m']'(by omega) = wl at *
      generalize (cutB 32 sk)[m' + 1]'(by omega) = wn at *
      have hj0 : (m' : Int) + 1 + 1 - 2 = (m' : Int) := by omega
      have hj1 : (m' : Int) + 1 + 1 - 1 = (m' : Int) + 1 := by omega
      have hj2 : ¬ ((m' : Int) + 1 + 1 < 2) := by omega
      have hj3 : (m' : Int) < (m' : Int) + 1 + 1 := by omega
      have hn1 := numsR_one wn
      by_cases hle : wl = leW
      · have hmt : decide (wl = leW) = true := by simpa using hle
        rw [if_pos hle] at HLP
        clear hle
        cases hnv : numsR ((cutB 32 sk).take m') with
        | none =>
          rw [hnv] at HLP
          cases hnw : numR wn with
          | none =>
            have hn2 : numsR [wn] = none := by rw [hn1, hnw]; rfl
            go_wp2_with (first
              | (go_at_call 30; refine (HN2.out _ hb5).mono ?_; intro e w3 hret2; obtain ⟨hb4, rfl⟩ := hret2.none_ hn2; have hb3 := hb5.trans (hb4.mono hb5.size))
              | (go_at_call 30; refine HNB.out.mono ?_; intro e w5 hret; obtain ⟨hb5, rfl⟩ := hret.none_ hnv))
            go_ret
            exact ⟨HBb.out.trans (hb3.mono hbX), Or.inr ⟨HLP.out, rfl⟩⟩
          | some nn =>
            have hn2 : numsR [wn] = some [nn] := by rw [hn1, hnw]; rfl
            go_wp2_with (first
              | (go_at_call 30; refine (HN2.out _ hb5).mono ?_; intro e w3 hret2; obtain ⟨hb4, A6, c6, rfl, hr6, hnw6⟩ := hret2.some_ hn2; have hb3 := hb5.trans (hb4.mono hb5.size))
              | (go_at_call 30; refine HNB.out.mono ?_; intro e w5 hret; obtain ⟨hb5, rfl⟩ := hret.none_ hnv))
            go_ret
            exact ⟨HBb.out.trans (hb3.mono hbX), Or.inr ⟨HLP.out, rfl⟩⟩
        | some cs =>
          rw [hnv] at HLP
          cases hnw : numR wn with
          | none =>
            rw [hnw] at HLP
            have hn2 : numsR [wn] = none := by rw [hn1, hnw]; rfl
            go_wp2_with (first
              | (go_at_call 30; refine (HN2.out _ hb5).mono ?_; intro e w3 hret2; obtain ⟨hb4, rfl⟩ := hret2.none_ hn2; have hb3 := hb5.trans (hb4.mono hb5.size))
              | (go_at_call 30; refine HNB.out.mono ?_; intro e w5 hret; obtain ⟨hb5, A3, c3, rfl, hr3, hnw3⟩ := hret.some_ hnv))
            go_ret
            exact ⟨HBb.out.trans (hb3.mono hbX), Or.inr ⟨HLP.out, rfl⟩⟩
          | some nn =>
            rw [hnw] at HLP
            have hn2 : numsR [wn] = some [nn] := by rw [hn1, hnw]; rfl
            go_wp2_with (first
              | (go_at_call 30; refine (HN2.out _ hb5).mono ?_; intro e w3 hret2; obtain ⟨hb4, A6, c6, rfl, hr6, hnw6⟩ := hret2.some_ hn2; have hb3 := hb5.trans (hb4.mono hb5.size))
              | (go_at_call 30; refine HNB.out.mono ?_; intro e w5 hret; obtain ⟨hb5, A3, c3, rfl, hr3, hnw3⟩ := hret.some_ hnv))
            have hz5 := hb5.size
            have hz4 := hb4.size
            have MP := (HPX.out.next hb3).blk
            have HPZ := Lib.hid (HPX.out.next hb3)
            have p1 : w3.cell? ⟨b, 1, none⟩ = some v := MP.cell 1
            have pA : ∀ o, (w3.alloc o).cell? ⟨b, 1, none⟩ = some v := fun o => (MP.alloc o).cell 1
            have fp1 : w3.frozen? ⟨b, 1, none⟩ = false := MP.frozen 1
            obtain ⟨a6, e6, hm0'⟩ := hr6.at_ (k := 0) (by simp)
            subst e6
            have hm6 : w3.cell? a6 = some (.int .i64 nn) := hm0'
            go_region_law (refine step_appW rfl (.tmp 74) (.tmp 80) rfl base v es.length (reCells es) (.slice A3 cs.length c3) (.int .i64 nn) (by simp [Act.eval]) (own_below HPZ.out.rows.own (((Below.refl _ _).alloc (Nat.le_refl _) _).drew)) w3.heap.size 1 (by simp [Act.eval]) (by first | exact Blk.mk' _ _ _ | exact (Blk.mk' _ _ _).drew) rfl rfl (by omega) (by simp; omega) ?_; intro g7 cap7 w7 hown7 hg7 hat7 hlt7; have MP7 : Blk w7 b 28 #[.slice A q.costs.length c, v] := ((MP.alloc _).drew).grown hg7 (fun e => by have := (HPX.out.rows.own.lt _ e.symm).1; omega); have fp7 := MP7.frozen 1; have pp7 := MP7.cell 1; simp at pp7)
            all_goals
              have hz7 := hg7.size
              have hpr := HPX.out.row (w := (w3.alloc (.cells #[.slice A3 cs.length c3, .int .i64 nn] 91)).drew) ((hb3.alloc (by omega) _).drew) (by omega) (((hr3.below hb4).alloc _).drew) (fun ad e => by have := hnw3 ad e; simp; omega) hown7 hg7 hat7
              have hb7 : Below b w w7 := (((HBb.out.trans (hb3.mono hbX)).alloc (by omega) _).drew).grown hg7 (by simp; omega) (own_ge HPX.out.rows.own (by omega))
              go_wp2_with fail
              go_ret
              exact ⟨hb7.setCell (Nat.le_refl _) _, Or.inl ⟨_, A, c, _, es ++ [(A3, c3, (cs, nn))], HLP.out, rfl, by simp, hpr⟩⟩
      · have hmt : decide (wl = leW) = false := by simpa using hle
        rw [if_neg hle] at HLP
        clear hle
        go_wp2_with fail
        go_ret
        exact ⟨HBb.out, Or.inr ⟨HLP.out, rfl⟩⟩
end Go.Proofs.YtjcdkbalhleeeaaGreatDoor

namespace Go.Proofs.YtjcdkbalhleeeaaGreatDoor
open Go.Proofs Go.RowKit
open Go.Lib (itoa join)

/-- What a text is read as is handed back. -/
def RetPr (w : World) (r : PG × Int × Nat) (e : Ending) (w' : World) : Prop :=
  Below w.heap.size w w' ∧ ∃ A c A2 c2, e = .returned (.tuple #[.agg #[.slice A r.1.costs.length c, .slice A2 r.1.rows.length c2], .agg #[.int .i64 r.2.1, .int .i64 (r.2.2 : Nat)]]) ∧ Pg w' A c A2 c2 r.1

set_option maxRecDepth 100000 in
theorem post_two {fn : Func} (hres : fn.results = #[.cell 2 28, .cell 3 37]) {R : Ending → World → Prop} {a : Act} {Y : World} {b2 b3 : Nat} {X0 : Option Addr} {n0 c0 : Nat} {X1 : Option Addr} {n1 c1 : Nat} {y0 y1 : Int}
    (h2 : a.tmps.getD 2 undef = .pointer (some ⟨b2, 0, none⟩)) (h3 : a.tmps.getD 3 undef = .pointer (some ⟨b3, 0, none⟩)) (hB2 : Blk Y b2 28 #[.slice X0 n0 c0, .slice X1 n1 c1]) (hB3 : Blk Y b3 37 #[.int .i64 y0, .int .i64 y1]) (hd : a.defers = [])
    (hR : R (.returned (.tuple #[.agg #[.slice X0 n0 c0, .slice X1 n1 c1], .agg #[.int .i64 y0, .int .i64 y1]])) Y) : bodyPost Tryz.prog fn R .ret a Y := by
  have c0 := hB2.cell 0
  have c1 := hB2.cell 1
  have d0 := hB3.cell 0
  have d1 := hB3.cell 1
  simp at c0 c1 d0 d1
  refine bodyPost_ret ?_ hd hR
  have e2 : a.tmps[2]?.getD undef = .pointer (some ⟨b2, 0, none⟩) := by rw [← h2]; simp
  have e3 : a.tmps[3]?.getD undef = .pointer (some ⟨b3, 0, none⟩) := by rw [← h3]; simp
  simp [results, hres, go_sem, e2, e3, c0, c1, d0, d1]
theorem Pg.nil (w : World) : Pg w none 0 none 0 ⟨[], []⟩ := ⟨Rd.nil w, ⟨by simp, by omega, by simp, fun h => by simp at h⟩⟩
end Go.Proofs.YtjcdkbalhleeeaaGreatDoor

namespace Go.Proofs.YtjcdkbalhleeeaaGreatDoor
open Go.Proofs Go.RowKit
open Go.Lib (itoa join)

set_option maxRecDepth 100000 in
set_option maxHeartbeats 2000000 in
theorem text_Parse (s : List UInt8) (w : World) (hs : s.length ≤ 1073741824) (ht : Tab w) (he : Errs w) (hm : MaxL w) :
    Calls Tryz.prog 9 #[.string (bs s)] w (RetPr w (parF s)) := by
  have HT := Lib.hid ht
  have HE := Lib.hid he
  have HM := Lib.hid hm
  clear ht he hm
  obtain ⟨n, hn⟩ : ∃ n, (cutB 10 s).length = n + 1 := ⟨(cutB 10 s).length - 1, by have := List.length_pos_iff.2 (cutB_ne 10 s); omega⟩
  have hcs := cut_small (c := 10) (s := s)
  have HPT := Lib.hid (fun (x : List UInt8) (hx : x ∈ cutB 10 s) => cut_parts x hx)
  have HW0 := Lib.hid (((Below.refl w.heap.size w).alloc (Nat.le_refl _) (.cells #[.slice none 0 0, .slice none 0 0] 28)).alloc (by simp) (.cells #[.int .i64 0, .int .i64 0] 37))
  have HSP := Lib.hid (strings_Split s 10 _ hs (HM.out.below HW0.out))
  go_enter Tryz.func9, Tryz.ntmps9
  go_upto_region 3 with (go_at_call 12; refine HSP.out.mono ?_; rintro e w1 ⟨AL, cL, rfl, hSL, hb1, hnewL⟩; rw [hn])
  clear hnewL
  have HSL := Lib.hid hSL
  have z1 := hb1.size
  simp only [World.size_alloc] at z1
  have R2 : Blk w1 w.heap.size 28 #[.slice none 0 0, .slice none 0 0] := ((Blk.mk' w _ _).alloc _).next hb1
  have R3 : Blk w1 (w.heap.size + 1) 37 #[.int .i64 0, .int .i64 0] := (Blk.new _ _ _ _ (by simp)).next hb1
  have HR2 := Lib.hid R2
  have HR3 := Lib.hid R3
  have HB1 := Lib.hid (HW0.out.trans (hb1.mono (by simp; omega)) : Below w.heap.size w w1)
  clear R2 R3 hb1 hSL HW0 HSP
  have HP0 := Lib.hid (PgW.start (w := w1.alloc (.cells #[.slice none 0 0, .slice none 0 0] 28)) (b := w1.heap.size) (base := w1.heap.size + 1) (Blk.mk' w1 _ _) (by omega))
  have HV0 := Lib.hid ((Below.refl w1.heap.size w1).alloc (Nat.le_refl _) (.cells #[.slice none 0 0, .slice none 0 0] 28))
  have HZ0 : (w1.alloc (.cells #[.slice none 0 0, .slice none 0 0] 28)).heap.size = w1.heap.size + 1 := by simp
  obtain ⟨aw, e1, hw0⟩ := HSL.out.at_ (k := 0) (by omega)
  subst e1
  obtain ⟨hrun, _⟩ := HSL.out.to_run hn n (by omega)
  clear hw0
  go_wp2_with fail
  generalize (w1.alloc (.cells #[.slice none 0 0, .slice none 0 0] 28)) = V at *
  go_loopw [18] (fun i wx => ∃ (k : Nat) (A : Option Addr) (c : Nat) (v : Value) (es : List RE) (q : PG), k ≤ n ∧ i = .int .i64 k ∧ takeP ((cutB 10 s).take k) = some q ∧ es.length ≤ k ∧ PgW wx w1.heap.size (w1.heap.size + 1) A c v es q ∧
      Below w1.heap.size w1 wx ∧ w1.heap.size + 1 ≤ wx.heap.size) (fun i _ => n - (intOf i).toNat)
  case atStart => exact ⟨0, none, 0, _, [], ⟨[], []⟩, by omega, rfl, rfl, by simp, HP0.out, HV0.out, by omega⟩
  case round =>
    obtain ⟨k, A, c, v, es, q, hk, rfl, htp, hes, hpg, hbel, hz2⟩ := hrel
    rename World => U
    have HP := Lib.hid hpg
    have HB := Lib.hid hbel
    have zU := hbel.size
    clear hpg hbel HP0 HV0 HZ0
    have HWU := Lib.hid (HB1.out.trans (HB.out.mono (by omega)))
    by_cases hlt : k < n
    · have hi0 : (k : Int) < (n : Int) := by omega
      have hkl : k < (cutB 10 s).length := by omega
      obtain ⟨ad, e0, hcl⟩ := (HSL.out.below HB.out).at_ hkl
      injection e0 with e0
      subst e0
      have hsk := HPT.out _ (List.getElem_mem hkl)
      have HBAD := Lib.hid (fun (h : takeP ((cutB 10 s).take (k + 1)) = none) => parF_bad (by omega) htp h)
      have HST := Lib.hid (line_step hkl htp)
      unfold strV at hcl
      have HLN := Lib.hid (text_line w1.heap.size (w1.heap.size + 1) k ((cutB 10 s)[k]) U A c v es q HP.out hz2 (by omega) (by omega) (HT.out.below HWU.out) (HE.out.below HWU.out) (HM.out.below HWU.out))
      generalize (cutB 10 s)[k] = sk at *
      cases hlp : lineP k sk q with
      | none =>
        rw [hlp] at HLN HST
        have HTN := Lib.hid (HBAD.out HST.out)
        have HL2 := Lib.hid (show Calls Tryz.prog 15 #[.pointer (some ⟨w1.heap.size, 0, none⟩), .int .i64 k, .string (bs sk)] U fun e w' => e = .returned (.bool false) ∧ Below w1.heap.size U w' from
          HLN.out.mono fun e w' h => by
            obtain ⟨h1, ⟨_, _, _, _, _, h2, _⟩ | ⟨_, h2⟩⟩ := h
            · cases h2
            · exact ⟨h2, h1⟩)
        go_wp2_with (go_at_call 15; refine HL2.out.mono ?_; rintro e w3 ⟨rfl, hb3⟩; have M2 := HR2.out.next (HB.out.trans hb3); have M3 := HR3.out.next (HB.out.trans hb3); have g20 := M2.frozen 0; have g21 := M2.frozen 1; have g30 := M3.frozen 0; have g31 := M3.frozen 1; have c20 := M2.cell 0; have c21 := M2.cell 1; have c30 := M3.cell 0; have c31 := M3.cell 1; simp at c20 c21 c30 c31)
        refine post_two rfl rfl rfl ((((M2.set0 0 _).set0 1 _).far _ (by simp)).far _ (by simp)) (((((M3.far _ (by simp)).far _ (by simp)).set0 0 _).set0 1 _)) rfl ?_
        refine ⟨((((HB1.out.trans ((HB.out.trans hb3).mono (by omega))).setCell (by simp) _).setCell (by simp) _).setCell (by simp) _).setCell (by simp) _, none, 0, none, 0, ?_, ?_⟩
        · rw [HTN.out]; rfl
        · rw [HTN.out]; exact Pg.nil _
      | some q' =>
        rw [hlp] at HLN HST
        have HL2 := Lib.hid (show Calls Tryz.prog 15 #[.pointer (some ⟨w1.heap.size, 0, none⟩), .int .i64 k, .string (bs sk)] U fun e w' => e = .returned (.bool true) ∧ Below w1.heap.size U w' ∧ ∃ A c v es', es'.length ≤ es.length + 1 ∧ PgW w' w1.heap.size (w1.heap.size + 1) A c v es' q' from
          HLN.out.mono fun e w' h => by
            obtain ⟨h1, ⟨q2, A2, c2, v2, es2, h2, h3, h4, h5⟩ | ⟨h2, _⟩⟩ := h
            · injection h2 with h2; subst h2
              exact ⟨h3, h1, A2, c2, v2, es2, h4, h5⟩
            · cases h2)
        go_wp2_with (go_at_call 15; refine HL2.out.mono ?_; rintro e w3 ⟨rfl, hb3, A3, c3, v3, es3, hes3, hp3⟩)
        go_roundw
        case rel => exact ⟨k + 1, A3, c3, v3, es3, q', by omega, by go_num, HST.out, by omega, hp3, HB.out.trans hb3, by have := hb3.size; omega⟩
        case measure => simp [intOf]; omega
    · obtain rfl : k = n := by omega
      have hd0 : decide ((k : Int) < (k : Int)) = false := by simp
      have hkl : k < (cutB 10 s).length := by omega
      obtain ⟨ad, e0, hcl⟩ := (HSL.out.below HB.out).at_ hkl
      injection e0 with e0
      subst e0
      have hi1 : (k : Int) < (k : Int) + 1 := by omega
      have hlast : (cutB 10 s).getLastD [] = (cutB 10 s)[k] := by
        rw [List.getLastD_eq_getLast?, List.getLast?_eq_getElem?, show (cutB 10 s).length - 1 = k by omega, List.getElem?_eq_getElem hkl]; rfl
      have HPF := Lib.hid (show parF s = if (cutB 10 s)[k] = [] ∧ mayPB q = true then (q, 0, 0) else (⟨[], []⟩, 2, k) from by
        have := parF_end (s := s) (q := q) (by rw [show (cutB 10 s).length - 1 = k by omega]; exact htp)
        rw [this, hlast, show (cutB 10 s).length - 1 = k by omega])
      obtain ⟨A2, c2, rfl, hPg⟩ := HP.out.read (by omega)
      have HMA := Lib.hid (layout_May A c A2 c2 q U hPg)
      have hq0 : ((bs (cutB 10 s)[k]).toList == []) = decide ((cutB 10 s)[k] = []) := by rw [bs_list]; exact Bool.beq_eq_decide_eq _ _
      have hq2 : (bs (cutB 10 s)[k]).toList.isEmpty = decide ((cutB 10 s)[k] = []) := by rw [bs_list]; cases (cutB 10 s)[k] <;> simp
      unfold strV at hcl
      clear hPg hlast
      generalize (cutB 10 s)[k] = lk at *
      have M2 := HR2.out.next HB.out
      have M3 := HR3.out.next HB.out
      have p0 := HP.out.blk.cell 0
      have p1 := HP.out.blk.cell 1
      have g20 := M2.frozen 0
      have g21 := M2.frozen 1
      have g30 := M3.frozen 0
      have g31 := M3.frozen 1
      have c20 := M2.cell 0
      have c21 := M2.cell 1
      have c30 := M3.cell 0
      have c31 := M3.cell 1
      simp at p0 p1 c20 c21 c30 c31
      by_cases hlk : lk = []
      · have hmt : decide (lk = []) = true := by simpa using hlk
        cases hmay : mayPB q with
        | false =>
          rw [if_neg (by rw [hmay]; simp)] at HPF
          rw [hmay] at HMA
          clear hlk
          go_wp2_with (go_at_call 16; refine HMA.out.mono ?_; rintro e w7 ⟨rfl, hb7⟩; have M2 := M2.next hb7; have M3 := M3.next hb7; have MP7 := (HP.out.next hb7).blk; have p0 := MP7.cell 0; have p1 := MP7.cell 1; have g20 := M2.frozen 0; have g21 := M2.frozen 1; have g30 := M3.frozen 0; have g31 := M3.frozen 1; have c20 := M2.cell 0; have c21 := M2.cell 1; have c30 := M3.cell 0; have c31 := M3.cell 1; simp at p0 p1 c20 c21 c30 c31)
          refine post_two rfl rfl rfl ((((M2.set0 0 _).set0 1 _).far _ (by simp)).far _ (by simp)) (((((M3.far _ (by simp)).far _ (by simp)).set0 0 _).set0 1 _)) rfl ?_
          refine ⟨((((HB1.out.trans ((HB.out.trans (hb7.mono zU)).mono (by omega))).setCell (by simp) _).setCell (by simp) _).setCell (by simp) _).setCell (by simp) _, none, 0, none, 0, ?_, ?_⟩
          · rw [HPF.out]; rfl
          · rw [HPF.out]; exact Pg.nil _
        | true =>
          rw [if_pos ⟨hlk, hmay⟩] at HPF
          rw [hmay] at HMA
          clear hlk
          go_wp2_with (go_at_call 16; refine HMA.out.mono ?_; rintro e w7 ⟨rfl, hb7⟩; have M2 := M2.next hb7; have M3 := M3.next hb7; have MP7 := (HP.out.next hb7).blk; have p0 := MP7.cell 0; have p1 := MP7.cell 1; have g20 := M2.frozen 0; have g21 := M2.frozen 1; have g30 := M3.frozen 0; have g31 := M3.frozen 1; have c20 := M2.cell 0; have c21 := M2.cell 1; have c30 := M3.cell 0; have c31 := M3.cell 1; simp at p0 p1 c20 c21 c30 c31)
          refine post_two rfl rfl rfl ((((M2.set0 0 _).set0 1 _).far _ (by simp)).far _ (by simp)) (((((M3.far _ (by simp)).far _ (by simp)).set0 0 _).set0 1 _)) rfl ?_
          have hPW := (((((HP.out.next hb7).far ⟨w.heap.size, 0, none⟩ (.slice A q.costs.length c) (by simp; omega) (by simp; omega)).far ⟨w.heap.size, 1, none⟩ (.slice A2 q.rows.length c2) (by simp; omega) (by simp; omega)).far ⟨w.heap.size + 1, 0, none⟩ (.int .i64 0) (by simp; omega) (by simp; omega)).far ⟨w.heap.size + 1, 1, none⟩ (.int .i64 0) (by simp; omega) (by simp; omega))
          obtain ⟨A3, c3, e3, hPz⟩ := hPW.read (by omega)
          injection e3 with e3 e4 e5
          subst e3 e5
          refine ⟨((((HB1.out.trans ((HB.out.trans (hb7.mono zU)).mono (by omega))).setCell (by simp) _).setCell (by simp) _).setCell (by simp) _).setCell (by simp) _, A, c, A2, c2, ?_, ?_⟩
          · rw [HPF.out]; rfl
          · rw [HPF.out]; exact hPz
      · have hmt : decide (lk = []) = false := by simpa using hlk
        rw [if_neg (fun h => hlk h.1)] at HPF
        clear hlk
        go_wp2_with fail
        refine post_two rfl rfl rfl ((((M2.set0 0 _).set0 1 _).far _ (by simp)).far _ (by simp)) (((((M3.far _ (by simp)).far _ (by simp)).set0 0 _).set0 1 _)) rfl ?_
        refine ⟨((((HB1.out.trans (HB.out.mono (by omega))).setCell (by simp) _).setCell (by simp) _).setCell (by simp) _).setCell (by simp) _, none, 0, none, 0, ?_, ?_⟩
        · rw [HPF.out]; rfl
        · rw [HPF.out]; exact Pg.nil _
end Go.Proofs.YtjcdkbalhleeeaaGreatDoor

namespace Go.Proofs.YtjcdkbalhleeeaaGreatDoor
open Go.Proofs Go.RowKit
open Go.Lib (itoa join)

/-- A number does not lie in a player's box. -/
theorem int_out {w : World} {g : Nat} {t : TypeId} {X X2 : Option Addr} {n c n2 c2 : Nat} {s : ByteArray} {b : Bool} {a : Addr} {k : IntKind} {i : Int} (h : w.cell? a = some (.int k i)) (hb : Blk w g t #[.slice X n c, .slice X2 n2 c2, .string s, .bool b]) : a.block ≠ g := by
  intro q
  obtain ⟨b', off, sp⟩ := a
  have q : b' = g := q
  subst q
  have hb' : w.heap[b']? = some (.cells #[.slice X n c, .slice X2 n2 c2, .string s, .bool b] t (0, 0)) := hb
  simp only [World.cell?, hb'] at h
  have hs : sp.isSome = false := by
    cases sp with
    | none => rfl
    | some s => simp at h
  simp only [hs] at h
  simp at h
  rcases (show off = 0 ∨ off = 1 ∨ off = 2 ∨ off = 3 ∨ 4 ≤ off by omega) with rfl | rfl | rfl | rfl | ho
  · simp at h
  · simp at h
  · simp at h
  · simp at h
  · rw [List.getElem?_eq_none (by simpa using ho)] at h
    cases h
section
variable {w : World} {g : Nat} {t : TypeId} {X X2 : Option Addr} {n c n2 c2 : Nat} {s : ByteArray} {b : Bool}
theorem Rd.setBox {A : Option Addr} {cA : Nat} {l : List Int} (h : Rd w A cA l) (hb : Blk w g t #[.slice X n c, .slice X2 n2 c2, .string s, .bool b]) (k : Nat) (v : Value) : Rd (w.setCell ⟨g, k, none⟩ v) A cA l := by
  refine ⟨h.le, h.cap, h.small, fun hl => ?_⟩
  obtain ⟨ad, e, hc⟩ := h.cells hl
  refine ⟨ad, e, fun j u hu => ?_⟩
  have h1 := hc j u hu
  obtain ⟨i, rfl⟩ : ∃ i, u = .int .i64 i := by
    obtain ⟨i, _, rfl⟩ := List.mem_map.1 (List.mem_of_getElem? hu)
    exact ⟨i, rfl⟩
  exact (World.cell?_setCell_other w _ _ _ (fun e' => int_out h1 hb (congrArg Addr.block e').symm)).trans h1
theorem Rw.setBox {A : Option Addr} {cA : Nat} {rs : List (List Int × Int)} (h : Rw w A cA rs) (hb : Blk w g t #[.slice X n c, .slice X2 n2 c2, .string s, .bool b]) (k : Nat) (v : Value) : Rw (w.setCell ⟨g, k, none⟩ v) A cA rs := by
  refine ⟨h.le, h.cap, h.small, fun hl => ?_⟩
  obtain ⟨ad, e, hc⟩ := h.cells hl
  refine ⟨ad, e, fun j hj => ?_⟩
  obtain ⟨A', c', h1, h2, h3⟩ := hc j hj
  have hne : (⟨(ad.add (j * 2)).block, (ad.add (j * 2)).off + 1, none⟩ : Addr).block ≠ g := int_out h2 hb
  exact ⟨A', c', (World.cell?_setCell_other w _ _ _ (fun e' => hne (congrArg Addr.block e').symm)).trans h1, (World.cell?_setCell_other w _ _ _ (fun e' => hne (congrArg Addr.block e').symm)).trans h2, h3.setBox hb k v⟩
theorem Pg.setBox {A A2 : Option Addr} {cA cA2 : Nat} {p : PG} (h : Pg w A cA A2 cA2 p) (hb : Blk w g t #[.slice X n c, .slice X2 n2 c2, .string s, .bool b]) (k : Nat) (v : Value) : Pg (w.setCell ⟨g, k, none⟩ v) A cA A2 cA2 p := ⟨h.costs.setBox hb k v, h.rows.setBox hb k v⟩
end
/-- A player's box. -/
structure PlB (w : World) (g : Nat) (st : PlS) : Prop where
  ex : ∃ A c A2 c2, Blk w g 46 #[.slice A st.p.costs.length c, .slice A2 st.p.rows.length c2, .string (bs st.t), .bool st.there] ∧ Pg w A c A2 c2 st.p
  may : st.there = true → mayPB st.p = true
theorem PlB.below {w w' : World} {g : Nat} {st : PlS} (h : PlB w g st) (hb : Below w.heap.size w w') : PlB w' g st := by
  obtain ⟨A, c, A2, c2, h1, h2⟩ := h.ex
  exact ⟨⟨A, c, A2, c2, h1.next hb, h2.below hb⟩, h.may⟩
def RetLi (w : World) (g : Nat) (r : List UInt8 × PlS) (e : Ending) (w' : World) : Prop :=
  e = .returned (.string (bs r.1)) ∧ PlB w' g r.2 ∧ Below g w w'
theorem par_at (s : List UInt8) : (parF s).2.2 ≤ s.length + 1 := by
  have := cut_small (c := 10) (s := s)
  rcases parF_cases s with ⟨q, h, _⟩ | ⟨k, h, hk⟩
  · rw [h]; exact Nat.zero_le _
  · rw [h]; show k ≤ _; omega
set_option maxRecDepth 100000 in
set_option maxHeartbeats 4000000 in
theorem drive_line (g : Nat) (st : PlS) (s : List UInt8) (w : World) (hB : PlB w g st) (hs : s.length ≤ 4194304) (hT : st.t.length ≤ 1000000000) (hk : ∀ W, Below g w W → Tab W ∧ Errs W ∧ MaxL W) :
    Calls Tryz.prog 13 #[.pointer (some ⟨g, 0, none⟩), .string (bs s)] w (RetLi w g (lineS swpS st s)) := by
  obtain ⟨⟨A, c, A2, c2, hb, hp⟩, hmay⟩ := hB
  obtain ⟨p, t, th⟩ := st
  simp only at hb hp hmay hT
  have B := Lib.hid hb
  have HP := Lib.hid hp
  have HK := Lib.hid hk
  have HMY := Lib.hid hmay
  have HCP := Lib.hid (show Calls Tryz.prog 27 #[.string (bs s), .string { data := #[61, 32] }] w fun e w' => e = .returned (.tuple #[.string (bs (if s.take 2 = [61, 32] then s.drop 2 else s)), .bool (decide (s.take 2 = [61, 32]))]) ∧ w' = w from cut_prefix s w)
  have hlt := hb.lt
  have c0 : w.cell? ⟨g, 0, none⟩ = some (.slice A p.costs.length c) := hb.cell 0
  have c1 : w.cell? ⟨g, 1, none⟩ = some (.slice A2 p.rows.length c2) := hb.cell 1
  have k2 : w.cell? ⟨g, 2, none⟩ = some (.string (bs t)) := hb.cell 2
  have k3 : w.cell? ⟨g, 3, none⟩ = some (.bool th) := hb.cell 3
  have f0 := hb.frozen 0
  have f1 := hb.frozen 1
  have f2 := hb.frozen 2
  have f3 := hb.frozen 3
  clear hb hp hk hmay
  by_cases h1 : s.take 2 = [61, 32]
  · obtain ⟨T', hT'⟩ : ∃ T', t ++ (s.drop 2 ++ [10]) = T' := ⟨_, rfl⟩
    have hL : lineS swpS ⟨p, t, th⟩ s = (sayW wOk ((T'.length : Nat) : Int), ⟨p, T', th⟩) := by
      unfold lineS
      rw [if_pos h1, hT']
    have hl2 : (s.drop 2).length ≤ s.length := by rw [List.length_drop]; omega
    have hlT : T'.length ≤ 1004194310 := by rw [← hT', List.length_append, List.length_append]; simp only [List.length_cons, List.length_nil]; omega
    have q1 : ∀ W, (Op.stringOp .add (bs (s.drop 2)) { data := #[10] }).run Tryz.prog W = .ok (.string (bs (s.drop 2 ++ [10]))) W := fun W => run_add _ [10] (by simp only [List.length_cons, List.length_nil]; omega) W
    have q2 : ∀ W, (Op.stringOp .add (bs t) (bs (s.drop 2 ++ [10]))).run Tryz.prog W = .ok (.string (bs T')) W := fun W => by
      rw [← hT']
      exact run_add _ _ (by rw [List.length_append]; simp only [List.length_cons, List.length_nil]; omega) W
    have hsz : (bs T').size = T'.length := bs_size _
    rw [hL]
    rw [if_pos h1, decide_eq_true h1] at HCP
    have HLT := Lib.hid hlT
    clear hL h1 hT' hl2 hlT
    unfold RetLi
    generalize bs (s.drop 2 ++ [10]) = t1 at *
    generalize bs (s.drop 2) = t2 at *
    go_enter Tryz.func13, Tryz.ntmps13
    go_upto_region 4 with (go_at_call 27; refine HCP.out.mono ?_; rintro e w1 ⟨rfl, hw1⟩; rw [hw1]; clear hw1)
    have B1 := Lib.hid (show Blk (w.setCell ⟨g, 2, none⟩ (.string (bs T'))) g 46 #[.slice A p.costs.length c, .slice A2 p.rows.length c2, .string (bs T'), .bool th] from by
      have h := B.out.set0 2 (.string (bs T'))
      simp only [List.setIfInBounds_toArray, List.set_cons_zero, List.set_cons_succ] at h
      exact h)
    have HP1 := Lib.hid (HP.out.setBox B.out 2 (.string (bs T')))
    have HG1 := Lib.hid ((Below.refl g w).setCell (p := ⟨g, 2, none⟩) (Nat.le_refl _) (.string (bs T')))
    have HT1 := Lib.hid (HK.out _ HG1.out).1
    obtain ⟨V, hV⟩ : ∃ V, w.setCell ⟨g, 2, none⟩ (.string (bs T')) = V := ⟨_, rfl⟩
    rw [hV] at B1 HP1 HG1 HT1 ⊢
    clear hV c0 c1 k2 k3 f0 f1 f2 f3
    have k2 : V.cell? ⟨g, 2, none⟩ = some (.string (bs T')) := B1.out.cell 2
    have lV := B1.out.lt
    have HAL := Lib.hid ((Below.refl (V).heap.size V).alloc (Nat.le_refl _) (.cells #[.int .i64 ((T'.length : Nat) : Int)] 3))
    have HSY := Lib.hid (say_ok (V).heap.size ((T'.length : Nat) : Int) ((V).alloc (.cells #[.int .i64 ((T'.length : Nat) : Int)] 3)) (cell_new1 _ _ _) (by have := HLT.out; omega) ((HT1.out).below HAL.out))
    go_wp2_with (go_at_call 28; refine HSY.out.mono ?_; rintro e w9 ⟨rfl, hb9⟩)
    go_ret
    have hb10 : Below (V).heap.size V w9 := HAL.out.trans (hb9.mono HAL.out.size)
    exact ⟨rfl, ⟨⟨A, c, A2, c2, B1.out.next hb10, HP1.out.below hb10⟩, HMY.out⟩, HG1.out.trans (hb10.mono (Nat.le_of_lt lV))⟩
  · have h1d : decide (s.take 2 = [61, 32]) = false := decide_eq_false h1
    rw [if_neg h1, h1d] at HCP
    have hq1 : ((bs s).toList == [102, 114, 101, 115, 104]) = decide (s = wFresh) := by rw [bs_list]; exact Bool.beq_eq_decide_eq _ _
    have hq2 : ((bs s).toList == [116, 97, 107, 101]) = decide (s = wTake) := by rw [bs_list]; exact Bool.beq_eq_decide_eq _ _
    clear h1d
    by_cases h2 : s = wFresh
    · have hL : lineS swpS ⟨p, t, th⟩ s = (wOk, ⟨p, [], th⟩) := by unfold lineS; rw [if_neg h1, if_pos h2]
      have d2 : decide (s = wFresh) = true := by simpa using h2
      rw [hL]
      clear hL h1 h2
      unfold RetLi
      go_enter Tryz.func13, Tryz.ntmps13
      go_wp2_with (go_at_call 27; refine HCP.out.mono ?_; rintro e w1 ⟨rfl, hw1⟩; rw [hw1]; clear hw1)
      go_ret
      refine ⟨rfl, ⟨⟨A, c, A2, c2, ?_, HP.out.setBox B.out 2 _⟩, HMY.out⟩, (Below.refl g w).setCell (p := ⟨g, 2, none⟩) (Nat.le_refl _) _⟩
      have h := B.out.set0 2 (.string (bs []))
      simp only [List.setIfInBounds_toArray, List.set_cons_zero, List.set_cons_succ] at h
      exact h
    · have d2 : decide (s = wFresh) = false := by simpa using h2
      by_cases h3 : s = wTake
      · have d3 : decide (s = wTake) = true := by simpa using h3
        have hL : lineS swpS ⟨p, t, th⟩ s = if (parF t).2.1 = 0 then (sayW wOk ((parF t).1.rows.length : Nat), ⟨(parF t).1, t, true⟩) else (sayW wBad ((parF t).2.2 : Nat), ⟨p, t, th⟩) := by unfold lineS; rw [if_neg h1, if_neg h2, if_pos h3]
        have HPA := Lib.hid (text_Parse t w (by omega) (HK.out w (Below.refl _ _)).1 (HK.out w (Below.refl _ _)).2.1 (HK.out w (Below.refl _ _)).2.2)
        have HAT := Lib.hid (par_at t)
        have HMQ := Lib.hid (fun h => (text_par (s := t) h).1)
        obtain ⟨LS, hLS⟩ : ∃ LS, lineS swpS ⟨p, t, th⟩ s = LS := ⟨_, rfl⟩
        rw [hLS] at hL ⊢
        obtain ⟨⟨q, code, at_⟩, hr⟩ : ∃ r, parF t = r := ⟨_, rfl⟩
        rw [hr] at hL HPA HAT HMQ
        simp only at hL HAT HMQ
        have HL := Lib.hid hL
        clear hLS hL hr h1 h2 h3
        unfold RetPr at HPA
        simp only at HPA
        unfold RetLi
        go_enter Tryz.func13, Tryz.ntmps13
        go_upto_region 11 with (first
          | (go_at_call 27; refine HCP.out.mono ?_; rintro e w1 ⟨rfl, hw1⟩; rw [hw1]; clear hw1)
          | (go_at_call 9; refine HPA.out.mono ?_; rintro e w2 ⟨hb2, A3, c3, A4, c4, rfl, hpg⟩))
        have HB2 := Lib.hid hb2
        have z2 := hb2.size
        have hV2 : Below w2.heap.size w2 ((w2.alloc (.cells #[.slice A3 q.costs.length c3, .slice A4 q.rows.length c4] 28)).alloc (.cells #[.int .i64 code, .int .i64 (at_ : Nat)] 37)) := ((Below.refl _ _).alloc (Nat.le_refl _) _).alloc (by simp) _
        have BQ := Lib.hid (show Blk ((w2.alloc (.cells #[.slice A3 q.costs.length c3, .slice A4 q.rows.length c4] 28)).alloc (.cells #[.int .i64 code, .int .i64 (at_ : Nat)] 37)) w2.heap.size 28 #[.slice A3 q.costs.length c3, .slice A4 q.rows.length c4] from (Blk.mk' _ _ _).alloc _)
        have BF := Lib.hid (Blk.new (w2.alloc (.cells #[.slice A3 q.costs.length c3, .slice A4 q.rows.length c4] 28)) 37 #[.int .i64 code, .int .i64 (at_ : Nat)] (w2.heap.size + 1) (by simp))
        have HPG := Lib.hid (hpg.below hV2)
        have HB := Lib.hid (HB2.out.trans (hV2.mono z2))
        clear c0 c1 k2 k3 f0 f1 f2 f3 hb2 hpg hV2
        obtain ⟨V, hV⟩ : ∃ V, (w2.alloc (.cells #[.slice A3 q.costs.length c3, .slice A4 q.rows.length c4] 28)).alloc (.cells #[.int .i64 code, .int .i64 (at_ : Nat)] 37) = V := ⟨_, rfl⟩
        rw [hV] at BQ BF HPG HB ⊢
        clear hV
        have BV := Lib.hid (B.out.next HB.out)
        have HGV := Lib.hid (HB.out.mono (Nat.le_of_lt hlt))
        have HTV := Lib.hid (HK.out V HGV.out).1
        have zV := HB.out.size
        obtain ⟨bq, hbq⟩ : ∃ bq, w2.heap.size = bq := ⟨_, rfl⟩
        rw [hbq] at BQ BF ⊢
        clear hbq
        have a0 : V.cell? ⟨bq + 1, 0, none⟩ = some (.int .i64 code) := BF.out.cell 0
        have a1 : V.cell? ⟨bq + 1, 1, none⟩ = some (.int .i64 (at_ : Nat)) := BF.out.cell 1
        by_cases h0 : code = 0
        · subst h0
          have b0 : V.cell? ⟨bq, 0, none⟩ = some (.slice A3 q.costs.length c3) := BQ.out.cell 0
          have b1 : V.cell? ⟨bq, 1, none⟩ = some (.slice A4 q.rows.length c4) := BQ.out.cell 1
          have c0 : V.cell? ⟨g, 0, none⟩ = some (.slice A p.costs.length c) := BV.out.cell 0
          have c1 : V.cell? ⟨g, 1, none⟩ = some (.slice A2 p.rows.length c2) := BV.out.cell 1
          have k2 : V.cell? ⟨g, 2, none⟩ = some (.string (bs t)) := BV.out.cell 2
          have k3 : V.cell? ⟨g, 3, none⟩ = some (.bool th) := BV.out.cell 3
          have f0 := BV.out.frozen 0
          have f1 := BV.out.frozen 1
          have f2 := BV.out.frozen 2
          have f3 := BV.out.frozen 3
          have HL0 := Lib.hid (show LS = (sayW wOk ((q.rows.length : Nat) : Int), ⟨q, t, true⟩) by rw [HL.out, if_pos rfl])
          go_upto_region 14 with fail
          have e0 := BV.out.set0 0 (.slice A3 q.costs.length c3)
          simp only [List.setIfInBounds_toArray, List.set_cons_zero, List.set_cons_succ] at e0
          have e1 := e0.set0 1 (.slice A4 q.rows.length c4)
          simp only [List.setIfInBounds_toArray, List.set_cons_zero, List.set_cons_succ] at e1
          have e3 := e1.set0 3 (.bool true)
          simp only [List.setIfInBounds_toArray, List.set_cons_zero, List.set_cons_succ] at e3
          have HP3 := Lib.hid (((HPG.out.setBox BV.out 0 (.slice A3 q.costs.length c3)).setBox e0 1 (.slice A4 q.rows.length c4)).setBox e1 3 (.bool true))
          have HG3 := Lib.hid (((HGV.out.setCell (p := ⟨g, 0, none⟩) (Nat.le_refl _) (.slice A3 q.costs.length c3)).setCell (p := ⟨g, 1, none⟩) (Nat.le_refl _) (.slice A4 q.rows.length c4)).setCell (p := ⟨g, 3, none⟩) (Nat.le_refl _) (.bool true))
          have B3 := Lib.hid e3
          clear e0 e1 e3 a0 a1 b0 b1 c0 c1 k2 k3 f0 f1 f2 f3
          obtain ⟨V3, hV3⟩ : ∃ V3, ((V.setCell ⟨g, 0, none⟩ (.slice A3 q.costs.length c3)).setCell ⟨g, 1, none⟩ (.slice A4 q.rows.length c4)).setCell ⟨g, 3, none⟩ (.bool true) = V3 := ⟨_, rfl⟩
          rw [hV3] at HP3 HG3 B3 ⊢
          clear hV3
          have HT3 := Lib.hid (HK.out V3 HG3.out).1
          have c1 : V3.cell? ⟨g, 1, none⟩ = some (.slice A4 q.rows.length c4) := B3.out.cell 1
          have lV := B3.out.lt
          have hrl : q.rows.length ≤ 17592186044416 := HP3.out.rows.small
          have HAL := Lib.hid ((Below.refl (V3).heap.size V3).alloc (Nat.le_refl _) (.cells #[.int .i64 ((q.rows.length : Nat) : Int)] 3))
          have HSY := Lib.hid (say_ok (V3).heap.size ((q.rows.length : Nat) : Int) ((V3).alloc (.cells #[.int .i64 ((q.rows.length : Nat) : Int)] 3)) (cell_new1 _ _ _) (by omega) ((HT3.out).below HAL.out))
          go_wp2_with (go_at_call 28; refine HSY.out.mono ?_; rintro e w9 ⟨rfl, hb9⟩)
          go_ret
          have hb10 : Below (V3).heap.size V3 w9 := HAL.out.trans (hb9.mono HAL.out.size)
          rw [HL0.out]
          exact ⟨rfl, ⟨⟨A3, c3, A4, c4, B3.out.next hb10, HP3.out.below hb10⟩, fun _ => HMQ.out (by first | rfl | trivial)⟩, HG3.out.trans (hb10.mono (Nat.le_of_lt lV))⟩
        · have HL0 := Lib.hid (show LS = (sayW wBad ((at_ : Nat) : Int), ⟨p, t, th⟩) by rw [HL.out, if_neg h0])
          have hz0 : (code != 0) = true := by simpa using h0
          have lV := BV.out.lt
          have HAL := Lib.hid ((Below.refl (V).heap.size V).alloc (Nat.le_refl _) (.cells #[.int .i64 ((at_ : Nat) : Int)] 3))
          have HSY := Lib.hid (say_bad (V).heap.size ((at_ : Nat) : Int) ((V).alloc (.cells #[.int .i64 ((at_ : Nat) : Int)] 3)) (cell_new1 _ _ _) (by have := HAT.out; omega) ((HTV.out).below HAL.out))
          go_wp2_with (go_at_call 28; refine HSY.out.mono ?_; rintro e w9 ⟨rfl, hb9⟩)
          go_ret
          have hb10 : Below (V).heap.size V w9 := HAL.out.trans (hb9.mono HAL.out.size)
          rw [HL0.out]
          exact ⟨rfl, ⟨⟨A, c, A2, c2, BV.out.next hb10, (HP.out.below HB.out).below hb10⟩, HMY.out⟩, HGV.out.trans (hb10.mono (Nat.le_of_lt lV))⟩
      · have d3 : decide (s = wTake) = false := by simpa using h3
        have HSP := Lib.hid (show Calls Tryz.prog 12 #[.string (bs s), .string { data := #[32] }] w fun e w' => ∃ A cap, e = .returned (.slice A (cutB 32 s).length cap) ∧ Sd w' A cap (cutB 32 s) ∧ Below w.heap.size w w' ∧ ∀ ad, A = some ad → w.heap.size ≤ ad.block from strings_Split s 32 w (by omega) (HK.out w (Below.refl _ _)).2.2)
        have HAS := Lib.hid (fun (W : World) (hW : Below w.heap.size w W) (AW : Option Addr) (cW : Nat) (hS : Sd W AW cW (cutB 32 s)) => drive_asked g AW cW s W hS (by omega) (HK.out W (hW.mono (Nat.le_of_lt hlt))).1 (HK.out W (hW.mono (Nat.le_of_lt hlt))).2.1)
        have HL := Lib.hid (show lineS swpS ⟨p, t, th⟩ s = (match numsR (cutB 32 s).tail with
          | none => ([63], ⟨p, t, th⟩)
          | some l => match askS swpS p s l with
            | none => ([63], ⟨p, t, th⟩)
            | some o => (if th = true then o else wNone, ⟨p, t, th⟩)) by unfold lineS; rw [if_neg h1, if_neg h2, if_neg h3]; rfl)
        obtain ⟨LS, hLS⟩ : ∃ LS, lineS swpS ⟨p, t, th⟩ s = LS := ⟨_, rfl⟩
        rw [hLS] at HL ⊢
        clear hLS h1 h2 h3
        unfold RetLi
        go_enter Tryz.func13, Tryz.ntmps13
        go_upto_region 16 with (first
          | (go_at_call 27; refine HCP.out.mono ?_; rintro e w1 ⟨rfl, hw1⟩; rw [hw1]; clear hw1)
          | (go_at_call 12; refine HSP.out.mono ?_; rintro e w2 ⟨AW, cW, rfl, hS2, hb2, _⟩)
          | (go_at_call 29; refine (HAS.out _ hb2 AW cW hS2).mono ?_; rintro e w3 ⟨fv, ok, rfl, hb3, hor⟩))
        have HB3 := Lib.hid (hb2.trans (hb3.mono hb2.size))
        have B3 := Lib.hid (B.out.next HB3.out)
        have HP3 := Lib.hid (HP.out.below HB3.out)
        have HG3 := Lib.hid (HB3.out.mono (Nat.le_of_lt hlt))
        have HT3 := Lib.hid (HK.out w3 HG3.out).1
        have k3 : w3.cell? ⟨g, 3, none⟩ = some (.bool th) := B3.out.cell 3
        have l3 := B3.out.lt
        clear c0 c1 k2 f0 f1 f2 f3 hS2 hb2 hb3
        rcases hor with ⟨rfl, hno⟩ | ⟨rfl, l, k, hn, hk, hf⟩
        · have HL0 := Lib.hid (show LS = ([63], ⟨p, t, th⟩) by
            rw [HL.out]
            rcases hno with hno | hno
            · rw [hno]
            · cases numsR (cutB 32 s).tail with
              | none => rfl
              | some l => simp only [askS_eq, hno, Option.map_none])
          clear hno
          go_wp2_with fail
          go_ret
          rw [HL0.out]
          exact ⟨rfl, ⟨⟨A, c, A2, c2, B3.out, HP3.out⟩, HMY.out⟩, HG3.out⟩
        · have HL0 := Lib.hid (show LS = (if th = true then ansK p l k else wNone, ⟨p, t, th⟩) by
            rw [HL.out, hn]
            simp only [askS_eq, hk, Option.map_some])
          have HF := Lib.hid hf
          clear hn hk hf
          cases th with
          | false =>
            have HL1 := Lib.hid (show LS = (wNone, ⟨p, t, false⟩) from HL0.out)
            go_wp2_with fail
            go_ret
            rw [HL1.out]
            exact ⟨rfl, ⟨⟨A, c, A2, c2, B3.out, HP3.out⟩, HMY.out⟩, HG3.out⟩
          | true =>
            have HL1 := Lib.hid (show LS = (ansK p l k, ⟨p, t, true⟩) from HL0.out)
            have HM := Lib.hid (HMY.out rfl)
            rcases HF.out with ⟨rfl, rfl⟩ | ⟨rfl, q, rfl, hq⟩ | ⟨q1, q2, C, cc, m, rfl, hq1, hq2, hrd, hkm⟩
            · have HD := Lib.hid (drive_solve g A c A2 c2 p (.string (bs t)) (.bool true) w3 B3.out HP3.out HM.out HT3.out)
              unfold RetS at HD
              go_wp2_with (go_at_call 71; refine HD.out.mono ?_; rintro e w9 ⟨rfl, hb9⟩)
              go_ret
              rw [HL1.out]
              exact ⟨rfl, ⟨⟨A, c, A2, c2, B3.out.next hb9, HP3.out.below hb9⟩, fun _ => HM.out⟩, HG3.out.trans (hb9.mono (Nat.le_of_lt l3))⟩
            · have HD := Lib.hid (drive_show q g A c A2 c2 p (.string (bs t)) (.bool true) w3 hq B3.out HP3.out HM.out HT3.out)
              unfold RetS at HD
              go_wp2_with (go_at_call 72; refine HD.out.mono ?_; rintro e w9 ⟨rfl, hb9⟩)
              go_ret
              rw [HL1.out]
              exact ⟨rfl, ⟨⟨A, c, A2, c2, B3.out.next hb9, HP3.out.below hb9⟩, fun _ => HM.out⟩, HG3.out.trans (hb9.mono (Nat.le_of_lt l3))⟩
            · rcases hkm with ⟨rfl, rfl⟩ | ⟨rfl, rfl⟩ | ⟨rfl, rfl⟩
              · have HD := Lib.hid (do_look g q1 q2 A c A2 c2 p (.string (bs t)) (.bool true) C l cc w3 hq1 hq2 B3.out HP3.out hrd HT3.out)
                unfold RetS at HD
                go_wp2_with (go_at_call 70; refine HD.out.mono ?_; rintro e w9 ⟨rfl, hb9⟩)
                go_ret
                rw [HL1.out]
                exact ⟨rfl, ⟨⟨A, c, A2, c2, B3.out.next hb9, HP3.out.below hb9⟩, fun _ => HM.out⟩, HG3.out.trans (hb9.mono (Nat.le_of_lt l3))⟩
              · have HD := Lib.hid (do_walk g q1 q2 A c A2 c2 p (.string (bs t)) (.bool true) C l cc w3 hq1 hq2 B3.out HP3.out hrd HT3.out)
                unfold RetS at HD
                go_wp2_with (go_at_call 70; refine HD.out.mono ?_; rintro e w9 ⟨rfl, hb9⟩)
                go_ret
                rw [HL1.out]
                exact ⟨rfl, ⟨⟨A, c, A2, c2, B3.out.next hb9, HP3.out.below hb9⟩, fun _ => HM.out⟩, HG3.out.trans (hb9.mono (Nat.le_of_lt l3))⟩
              · have HD := Lib.hid (do_sweep g q1 q2 A c A2 c2 p (.string (bs t)) (.bool true) C l cc w3 hq1 hq2 B3.out HP3.out hrd HT3.out)
                unfold RetS at HD
                go_wp2_with (go_at_call 70; refine HD.out.mono ?_; rintro e w9 ⟨rfl, hb9⟩)
                go_ret
                rw [HL1.out]
                exact ⟨rfl, ⟨⟨A, c, A2, c2, B3.out.next hb9, HP3.out.below hb9⟩, fun _ => HM.out⟩, HG3.out.trans (hb9.mono (Nat.le_of_lt l3))⟩
end Go.Proofs.YtjcdkbalhleeeaaGreatDoor
