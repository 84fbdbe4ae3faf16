/-
  Walks: slices.Min, corner.Has and Cost, proof.empty, above, Rows, Mosts compute what the plain words say.
-/
import Derived.Test.YtjcdkbalhleeeabJLay1
import Derived.Test.YtjcdkbalhleeeabPlainA
namespace Go.Proofs.Ytjcdkbalhleeeab
open Go.RowKit

/-- The least of numbers, from a first one on. -/
def minL (n : Int) (l : List Int) : Int := l.foldl (fun a b => if b < a then b else a) n
theorem minL_take {n : Int} {l : List Int} {k : Nat} (h : k < l.length) : minL n (l.take (k + 1)) = if l[k] < minL n (l.take k) then l[k] else minL n (l.take k) := by
  unfold minL; rw [List.take_succ_eq_append_getElem h, List.foldl_append]; rfl
theorem minL_nonneg {n : Int} {l : List Int} : 0 ≤ minL n l ↔ 0 ≤ n ∧ nonneg l = true := by
  induction l generalizing n with
  | nil => simp [minL, nonneg]
  | cons x l ih =>
    have e : minL n (x :: l) = minL (if x < n then x else n) l := rfl
    rw [e, ih]
    simp only [nonneg, List.all_cons, Bool.and_eq_true, decide_eq_true_eq]
    constructor
    · rintro ⟨h1, h2⟩
      split at h1
      · exact ⟨by omega, by omega, h2⟩
      · exact ⟨by omega, by omega, h2⟩
    · rintro ⟨h1, h2, h3⟩
      exact ⟨by split <;> omega, h3⟩

theorem slices_Min (A : Option Addr) (x : Int) (l : List Int) (c : Nat) (w : World) (hr : Rd w A c (x :: l)) :
    Calls Try.prog 38 #[.slice A (x :: l).length c] w fun e w' => e = .returned (.int .i64 (minL x l)) ∧ w' = w := by
  have HR := Lib.hid hr
  obtain ⟨hl, hc, hsm, _⟩ := hr
  obtain ⟨ad, rfl, hc0⟩ := HR.out.at_ (k := 0) (by simp)
  have hc0' : w.cell? ad = some (.int .i64 x) := by simpa [Addr.add] using hc0
  have hpos : 0 < (x :: l).length := by simp
  have HL := Lib.hid (show (x :: l).length = l.length + 1 by simp)
  generalize hn : (x :: l).length = n at *
  have hnl := HL.out
  clear hc0
  obtain rfl : n = l.length + 1 := hnl
  go_enter Try.func38, Try.ntmps38
  go_wp2_with fail
  go_loop [3, 4] (fun s i => ∃ k : Nat, k ≤ l.length ∧ s = .int .i64 (minL x (l.take k)) ∧ i = .int .i64 ((k : Int) + 1)) (fun _ i => l.length + 1 - (intOf i).toNat)
  case atStart => exact ⟨0, by omega, rfl, rfl⟩
  case round =>
    obtain ⟨k, hk, rfl, rfl⟩ := hrel
    by_cases hlt : k < l.length
    · obtain ⟨ad', he, hc1⟩ := HR.out.at_ (k := k + 1) (by simp; omega)
      cases he
      have hc2 : w.cell? ⟨ad.block, ad.off + (k + 1), none⟩ = some (.int .i64 l[k]) := by simpa [Addr.add] using hc1
      have HT := Lib.hid (minL_take (n := x) hlt)
      clear hc1
      go_wp2_with fail
      all_goals
        go_round
        case rel => exact ⟨k + 1, by omega, by rw [HT.out]; try (congr 1; (try split) <;> omega), by go_num⟩
        case measure => simp [intOf]; omega
    · obtain rfl : k = l.length := by omega
      go_wp2_with fail
      go_ret
      exact ⟨ret_int (by simp), rfl⟩

theorem corner_Has (A : Option Addr) (c : Nat) (A2 : Option Addr) (c2 : Nat) (p : PG) (i j : Nat) (w : World) (hp : Pg w A c A2 c2 p) (hm : mayPB p = true) (hi : i < p.rows.length) (hj : j < 1000000) :
    Calls Try.prog 44 #[.agg #[.slice A p.costs.length c, .slice A2 p.rows.length c2], .int .i64 i, .int .i64 j] w fun e w' => e = .returned (.int .i64 (hasZ p i j)) ∧ Below w.heap.size w w' := by
  have HP := Lib.hid hp
  obtain ⟨⟨hl, hc, hsm, _⟩, ⟨hl2, hc2, hsm2, _⟩⟩ := hp
  have HM := Lib.hid hm
  clear hm
  by_cases h1 : j < p.costs.length
  · obtain ⟨ad, A', c', rfl, hd1, hd2, hr⟩ := HP.out.rows.at_ hi
    obtain ⟨hq1, _, _⟩ := mayPB_row HM.out hi
    have hjl : j < p.rows[i].1.length := by omega
    obtain ⟨ad', rfl, he1⟩ := hr.at_ hjl
    have hadl := World.block_lt_of_cell? _ _ hd1
    have hadl' := World.block_lt_of_cell? _ _ he1
    have hv : hasZ p i j = p.rows[i].1[j] := by
      rw [hasZ_var hi h1]; simp [List.getD, List.getElem?_eq_getElem hjl]
    rw [hv]
    clear hv hr hd2 hq1
    have hi0 : (i : Int) < (p.rows.length : Int) := by omega
    have hi1 : (j : Int) < (p.rows[i].1.length : Int) := by omega
    go_enter Try.func44, Try.ntmps44
    go_wp2_with fail
    go_ret
    exact ⟨rfl, (by (repeat (any_goals (first | exact Below.refl _ _ | refine below_drewN ?_ _ | refine Below.drew ?_ | refine Below.alloc ?_ ?_ _ | refine Below.setCell ?_ ?_ _))); all_goals (first | omega | (simp; done) | (simp; omega)))⟩
  · by_cases h2 : j - p.costs.length = i
    · have hv : hasZ p i j = 1 := by simp [hasZ, h1, h2]
      have hz : (((j : Int) - (p.costs.length : Int)) == (i : Int)) = true := by simp; omega
      rw [hv]
      clear hv h2
      go_enter Try.func44, Try.ntmps44
      go_wp2_with fail
      go_ret
      exact ⟨rfl, (by (repeat (any_goals (first | exact Below.refl _ _ | refine below_drewN ?_ _ | refine Below.drew ?_ | refine Below.alloc ?_ ?_ _ | refine Below.setCell ?_ ?_ _))); all_goals (first | omega | (simp; done) | (simp; omega)))⟩
    · have hv : hasZ p i j = 0 := by simp [hasZ, h1, h2]
      have hz : (((j : Int) - (p.costs.length : Int)) == (i : Int)) = false := by simp; omega
      rw [hv]
      clear hv h2
      go_enter Try.func44, Try.ntmps44
      go_wp2_with fail
      go_ret
      exact ⟨rfl, (by (repeat (any_goals (first | exact Below.refl _ _ | refine below_drewN ?_ _ | refine Below.drew ?_ | refine Below.alloc ?_ ?_ _ | refine Below.setCell ?_ ?_ _))); all_goals (first | omega | (simp; done) | (simp; omega)))⟩

theorem proof_empty (A : Option Addr) (l : List Int) (c : Nat) (d : Int) (w : World) (hr : Rd w A c l) :
    Calls Try.prog 114 #[.agg #[.slice A l.length c, .int .i64 d]] w fun e w' => e = .returned (.bool (emptyB l d)) ∧ Below w.heap.size w w' := by
  obtain ⟨hl, hc, hsm, _⟩ := hr
  have hv : emptyB l d = (((l.length : Int) == 0) && (d == 0)) := by rw [Bool.eq_iff_iff]; simp [emptyB]
  rw [hv]
  clear hv
  by_cases h1 : l.length = 0
  · have hz : ((l.length : Int) == 0) = true := by rw [h1]; rfl
    have HZ := Lib.hid hz
    clear h1
    go_enter Try.func114, Try.ntmps114
    go_wp2_with fail
    go_ret
    exact ⟨ret_bool (by rw [HZ.out]; simp), (by (repeat (any_goals (first | exact Below.refl _ _ | refine below_drewN ?_ _ | refine Below.drew ?_ | refine Below.alloc ?_ ?_ _ | refine Below.setCell ?_ ?_ _))); all_goals (first | omega | (simp; done) | (simp; omega)))⟩
  · have hz : ((l.length : Int) == 0) = false := beq_eq_false_iff_ne.2 (by omega)
    have HZ := Lib.hid hz
    go_enter Try.func114, Try.ntmps114
    go_wp2_with fail
    go_ret
    exact ⟨ret_bool (by rw [HZ.out]; simp), (by (repeat (any_goals (first | exact Below.refl _ _ | refine below_drewN ?_ _ | refine Below.drew ?_ | refine Below.alloc ?_ ?_ _ | refine Below.setCell ?_ ?_ _))); all_goals (first | omega | (simp; done) | (simp; omega)))⟩

theorem proof_above (A : Option Addr) (l : List Int) (c : Nat) (d : Int) (n : Nat) (w : World) (hr : Rd w A c l) (hn : 1 ≤ n) (hn' : n ≤ 100) :
    Calls Try.prog 115 #[.agg #[.slice A l.length c, .int .i64 d], .int .i64 n] w fun e w' => e = .returned (.bool (aboveB l d n)) ∧ Below w.heap.size w w' := by
  have HR := Lib.hid hr
  obtain ⟨hl, hc, hsm, _⟩ := hr
  cases h1 : mayB l d with
  | false =>
    have hv : aboveB l d n = false := by simp [aboveB, h1]
    rw [hv]
    clear hv
    go_enter Try.func115, Try.ntmps115
    go_wp2_with fail
    refine (frac_MayPoint _ _ _ _ _ (by exact HR.out.alloc _)).mono ?_
    rintro e w1 ⟨rfl, hb1⟩
    rw [h1]
    have HB1 := Lib.hid hb1
    clear hb1
    go_wp2_with fail
    go_ret
    exact ⟨rfl, (by (repeat (any_goals (first | exact Below.refl _ _ | exact HB1.out | refine below_drewN ?_ _ | refine Below.drew ?_ | refine Below.alloc ?_ ?_ _ | refine Below.setCell ?_ ?_ _ | refine Below.trans ?_ (Below.mono HB1.out ?_)))); all_goals (first | omega | (simp; done) | (simp; omega) | ((try have z0 := HB1.out.size); (try simp at z0); (try simp); omega)))⟩
  | true =>
    by_cases h2 : l.length = n
    · cases l with
      | nil => simp at h2; omega
      | cons x l =>
        have hv : aboveB (x :: l) d n = decide (0 ≤ minL x l) := by
          rw [Bool.eq_iff_iff, aboveB_iff, decide_eq_true_eq, minL_nonneg]
          simp only [h1, h2, nonneg, List.all_cons, Bool.and_eq_true, decide_eq_true_eq]
          simp
        rw [hv]
        clear hv
        have hz : (((x :: l).length : Int) == (n : Int)) = true := by simp at h2 ⊢; omega
        generalize hN : (x :: l).length = N at *
        have HN := Lib.hid hN
        clear h2 hN
        go_enter Try.func115, Try.ntmps115
        go_wp2_with fail
        rw [← HN.out]
        refine (frac_MayPoint _ _ _ _ _ (by exact HR.out.alloc _)).mono ?_
        rintro e w1 ⟨rfl, hb1⟩
        rw [h1, HN.out]
        have Vx0 := Blk.next (Blk.mk' _ _ _) hb1; (try simp only [World.size_alloc, World.size_drew, World.size_setCell, size_drewN'] at Vx0); have Vx := Lib.hid Vx0; clear Vx0; have lVx := Vx.out.lt; have HR := Lib.hid (HR.out.hop (by (repeat (any_goals (first | exact Below.refl _ _ | refine below_drewN ?_ _ | refine Below.drew ?_ | refine Below.alloc ?_ ?_ _ | refine Below.setCell ?_ ?_ _))); all_goals (first | omega | (simp; done) | (simp; omega))) hb1); have zhb1 := hb1.size; (try simp only [World.size_alloc, World.size_drew, World.size_setCell, size_drewN'] at zhb1); have HB1 := Lib.hid hb1; clear hb1
        have k0 : w1.cell? ⟨w.heap.size, 0, none⟩ = some (.slice A (x :: l).length c) := Vx.out.cell 0
        rw [HN.out] at k0
        go_wp2_with fail
        rw [← HN.out]
        refine (slices_Min _ _ _ _ _ HR.out).mono ?_
        rintro e w2 ⟨rfl, rfl⟩
        go_wp2_with fail
        go_ret
        exact ⟨rfl, (by (repeat (any_goals (first | exact Below.refl _ _ | exact HB1.out | refine below_drewN ?_ _ | refine Below.drew ?_ | refine Below.alloc ?_ ?_ _ | refine Below.setCell ?_ ?_ _ | refine Below.trans ?_ (Below.mono HB1.out ?_)))); all_goals (first | omega | (simp; done) | (simp; omega) | ((try have z0 := HB1.out.size); (try simp at z0); (try simp); omega)))⟩
    · have hv : aboveB l d n = false := by simp [aboveB, h2]
      have hz : ((l.length : Int) == (n : Int)) = false := by simp; omega
      rw [hv]
      clear hv h2
      go_enter Try.func115, Try.ntmps115
      go_wp2_with fail
      refine (frac_MayPoint _ _ _ _ _ (by exact HR.out.alloc _)).mono ?_
      rintro e w1 ⟨rfl, hb1⟩
      rw [h1]
      have Vx0 := Blk.next (Blk.mk' _ _ _) hb1; (try simp only [World.size_alloc, World.size_drew, World.size_setCell, size_drewN'] at Vx0); have Vx := Lib.hid Vx0; clear Vx0; have lVx := Vx.out.lt; have HR := Lib.hid (HR.out.hop (by (repeat (any_goals (first | exact Below.refl _ _ | refine below_drewN ?_ _ | refine Below.drew ?_ | refine Below.alloc ?_ ?_ _ | refine Below.setCell ?_ ?_ _))); all_goals (first | omega | (simp; done) | (simp; omega))) hb1); have zhb1 := hb1.size; (try simp only [World.size_alloc, World.size_drew, World.size_setCell, size_drewN'] at zhb1); have HB1 := Lib.hid hb1; clear hb1
      have k0 : w1.cell? ⟨w.heap.size, 0, none⟩ = some (.slice A l.length c) := Vx.out.cell 0
      go_wp2_with fail
      go_ret
      exact ⟨rfl, (by (repeat (any_goals (first | exact Below.refl _ _ | exact HB1.out | refine below_drewN ?_ _ | refine Below.drew ?_ | refine Below.alloc ?_ ?_ _ | refine Below.setCell ?_ ?_ _ | refine Below.trans ?_ (Below.mono HB1.out ?_)))); all_goals (first | omega | (simp; done) | (simp; omega) | ((try have z0 := HB1.out.size); (try simp at z0); (try simp); omega)))⟩

/-- A list of numbers is handed back, in new memory. -/
def RetSl (w : World) (l : List Int) (e : Ending) (w' : World) : Prop := ∃ A c, e = .returned (.slice A l.length c) ∧ Rd w' A c l ∧ Below w.heap.size w w'

theorem own_out {w : World} {base : Nat} {e : TypeId} {v : Value} {l : List Int} {n : Nat} (h : w.ownsRow base e 1 v n (l.map (Value.int .i64))) (hn : n = l.length) (hs : l.length ≤ 17592186044416) {w0 : World} (hb : Below w0.heap.size w0 w) :
    RetSl w0 l (.returned v) w := by
  obtain ⟨A, c, rfl, hr, _⟩ := Rd.of_ownv h hn hs
  exact ⟨A, c, rfl, hr, hb⟩

theorem proof_Rows (A : Option Addr) (c : Nat) (A2 : Option Addr) (c2 : Nat) (p : PG) (j : Nat) (w : World) (hp : Pg w A c A2 c2 p) (hm : mayPB p = true) (hj : j < 1000000) :
    Calls Try.prog 144 #[.agg #[.slice A p.costs.length c, .slice A2 p.rows.length c2], .int .i64 j] w (RetSl w (colZ p j)) := by
  have HP := Lib.hid hp
  obtain ⟨⟨hl, hc, hsm, _⟩, ⟨hl2, hc2, hsm2, _⟩⟩ := hp
  have HM := Lib.hid hm
  have h4 : p.rows.length ≤ 4 := (mayPB_iff.1 hm).2.2.2.1
  clear hm
  go_enter Try.func144, Try.ntmps144
  go_wp2_with fail
  go_loopw [5, 10] (fun v i wr => ∃ k : Nat, k ≤ p.rows.length ∧ i = .int .i64 k ∧ wr.ownsRow (w.heap.size + 1) 2 1 v k (((colZ p j).take k).map (Value.int .i64)) ∧ Below w.heap.size w wr ∧ Blk wr w.heap.size 25 #[.slice A p.costs.length c, .slice A2 p.rows.length c2])
    (fun _ i _ => p.rows.length - (intOf i).toNat)
  case atStart => exact ⟨0, by omega, rfl, World.ownsRow_nil _ _ _ _, (by (repeat (any_goals (first | exact Below.refl _ _ | refine below_drewN ?_ _ | refine Below.drew ?_ | refine Below.alloc ?_ ?_ _ | refine Below.setCell ?_ ?_ _))); all_goals (first | omega | (simp; done) | (simp; omega))), Blk.new _ _ _ _ rfl⟩
  case round =>
    obtain ⟨k, hk, rfl, hown, hbel, hbox⟩ := hrel
    have HW := Lib.hid hown
    have HL := Lib.hid hbel
    have HB := Lib.hid hbox
    have zL := hbel.size
    have hlb := hbox.lt
    have kb0 : wr.cell? ⟨w.heap.size, 0, none⟩ = some (.slice A p.costs.length c) := hbox.cell 0
    have kb1 : wr.cell? ⟨w.heap.size, 1, none⟩ = some (.slice A2 p.rows.length c2) := hbox.cell 1
    clear hown hbel hbox
    by_cases hlt : k < p.rows.length
    · go_wp2_with fail
      refine (corner_Has _ _ _ _ _ _ _ _ (HP.out.below HL.out) HM.out hlt hj).mono ?_
      rintro e w2 ⟨rfl, hb2⟩
      have HW2 := Lib.hid (own_below HW.out hb2)
      have HB2 := Lib.hid (HB.out.next hb2)
      have z2 := hb2.size
      have HL2 := Lib.hid hb2
      have he : ((colZ p j).take (k + 1)).map (Value.int .i64) = ((colZ p j).take k).map (Value.int .i64) ++ [Value.int .i64 (hasZ p k j)] := by
        have hlt' : k < (colZ p j).length := by rw [length_colZ]; exact hlt
        rw [List.take_succ_eq_append_getElem hlt', List.map_append]; simp [colZ]
      have HE := Lib.hid he
      clear hb2 he kb0 kb1
      go_wp2_with (at_builtin; refine list_app1 rfl (.tmp 13) (.tmp 18) _ _ _ 8 und_i64s inf_i64 rfl rfl _ u5 k _ _ rfl (HW2.out.alloc _) _ 1 rfl (cell_new1 _ _ _) rfl (by unfold maxLen; omega) (by omega) (by simp; omega) ?_; intro g cap w3 hown3 hg3 hat hlt3; have hz3 := hg3.size)
      have HW3 := Lib.hid hown3
      have HG3 := Lib.hid hg3
      clear hown3 hg3
      go_roundw
      case rel =>
        have hne : some w.heap.size ≠ u5.ownBlock := own_ne HW.out (by omega)
        exact ⟨k + 1, by omega, by go_num, by rw [HE.out]; exact HW3.out, ((by (repeat (any_goals (first | exact Below.refl _ _ | exact HL.out | exact HL2.out | refine below_drewN ?_ _ | refine Below.drew ?_ | refine Below.alloc ?_ ?_ _ | refine Below.setCell ?_ ?_ _ | refine Below.trans ?_ (Below.mono HL.out ?_) | refine Below.trans ?_ (Below.mono HL2.out ?_)))); all_goals (first | omega | (simp; done) | (simp; omega) | ((try have z0 := HL.out.size); (try simp at z0); (try have z1 := HL2.out.size); (try simp at z1); (try simp); omega))) : Below w.heap.size w (w2.alloc _)).grown HG3.out (by simp; omega) (own_ge HW.out (by omega)), ((HB2.out.alloc _).grown HG3.out hne)⟩
      case measure => simp [intOf]; omega
    · obtain rfl : k = p.rows.length := by omega
      have ht : (colZ p j).take p.rows.length = colZ p j := List.take_of_length_le (by rw [length_colZ]; omega)
      rw [ht] at HW
      have HO := Lib.hid (own_out HW.out (length_colZ p j).symm (by rw [length_colZ]; omega) HL.out)
      clear ht
      go_wp2_with fail
      go_ret
      exact HO.out

theorem proof_Mosts (A : Option Addr) (c : Nat) (A2 : Option Addr) (c2 : Nat) (p : PG) (w : World) (hp : Pg w A c A2 c2 p) (h4 : p.rows.length ≤ 4) :
    Calls Try.prog 117 #[.agg #[.slice A p.costs.length c, .slice A2 p.rows.length c2]] w (RetSl w (mosts p)) := by
  have HP := Lib.hid hp
  obtain ⟨⟨hl, hc, hsm, _⟩, ⟨hl2, hc2, hsm2, _⟩⟩ := hp
  go_enter Try.func117, Try.ntmps117
  go_wp2_with fail
  go_loopw [3, 9] (fun v i wr => ∃ k : Nat, k ≤ p.rows.length ∧ i = .int .i64 k ∧ wr.ownsRow (w.heap.size + 1) 2 1 v k (((mosts p).take k).map (Value.int .i64)) ∧ Below w.heap.size w wr)
    (fun _ i _ => p.rows.length - (intOf i).toNat)
  case atStart => exact ⟨0, by omega, rfl, World.ownsRow_nil _ _ _ _, (by (repeat (any_goals (first | exact Below.refl _ _ | refine below_drewN ?_ _ | refine Below.drew ?_ | refine Below.alloc ?_ ?_ _ | refine Below.setCell ?_ ?_ _))); all_goals (first | omega | (simp; done) | (simp; omega)))⟩
  case round =>
    obtain ⟨k, hk, rfl, hown, hbel⟩ := hrel
    have HW := Lib.hid hown
    have HL := Lib.hid hbel
    have HPr := Lib.hid (HP.out.below hbel)
    have zL := hbel.size
    clear hown hbel
    by_cases hlt : k < p.rows.length
    · obtain ⟨ad, A', c', rfl, hd1, hd2, hr⟩ := HPr.out.rows.at_ hlt
      have hadl := World.block_lt_of_cell? _ _ hd1
      have he : ((mosts p).take (k + 1)).map (Value.int .i64) = ((mosts p).take k).map (Value.int .i64) ++ [Value.int .i64 p.rows[k].2] := by
        have hlt' : k < (mosts p).length := by rw [length_mosts]; exact hlt
        rw [List.take_succ_eq_append_getElem hlt', List.map_append]; simp [mosts]
      have HE := Lib.hid he
      clear he hr
      go_wp2_with (at_builtin; refine list_app1 rfl (.tmp 13) (.tmp 16) _ _ _ 8 und_i64s inf_i64 rfl rfl _ u3 k _ _ rfl ((HW.out.alloc _).alloc _) _ 1 rfl (cell_new1b _ _ _ _ (by simp)) rfl (by unfold maxLen; omega) (by omega) (by simp; omega) ?_; intro g cap w3 hown3 hg3 hat hlt3; have hz3 := hg3.size)
      have HW3 := Lib.hid hown3
      have HG3 := Lib.hid hg3
      clear hown3 hg3
      go_roundw
      case rel =>
        exact ⟨k + 1, by omega, by go_num, by rw [HE.out]; exact HW3.out, ((by (repeat (any_goals (first | exact Below.refl _ _ | exact HL.out | refine below_drewN ?_ _ | refine Below.drew ?_ | refine Below.alloc ?_ ?_ _ | refine Below.setCell ?_ ?_ _ | refine Below.trans ?_ (Below.mono HL.out ?_)))); all_goals (first | omega | (simp; done) | (simp; omega) | ((try have z0 := HL.out.size); (try simp at z0); (try simp); omega))) : Below w.heap.size w ((wr.alloc _).alloc _)).grown HG3.out (by simp; omega) (own_ge HW.out (by omega))⟩
      case measure => simp [intOf]; omega
    · obtain rfl : k = p.rows.length := by omega
      have ht : (mosts p).take p.rows.length = mosts p := List.take_of_length_le (by rw [length_mosts]; omega)
      rw [ht] at HW
      have HO := Lib.hid (own_out HW.out (length_mosts p).symm (by rw [length_mosts]; omega) HL.out)
      clear ht
      go_wp2_with fail
      go_ret
      exact HO.out
end Go.Proofs.Ytjcdkbalhleeeab
