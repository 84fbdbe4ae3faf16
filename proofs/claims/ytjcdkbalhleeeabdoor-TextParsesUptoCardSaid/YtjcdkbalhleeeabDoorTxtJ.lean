/-
  Walked: text.numbers. Conditions: the library's variables hold what its text lays; the texts are of a machine's size.
-/
import Derived.Test.YtjcdkbalhleeeabDoorTxtI
namespace Go.Proofs.YtjcdkbalhleeeabDoor
open Go.Proofs Go.RowKit
open Go.Lib (itoa join)

theorem parse_ok (s : List UInt8) (w : World) (hs : s.length ≤ 1099511627776) (he : Errs w) {n : Int} (h : Lib.parseIntB 64 s = .ok n) :
    Calls Tryd.prog 42 #[.string (bs s), .int .i64 10, .int .i64 64] w fun e w' => e = .returned (.tuple #[.int .i64 n, .nilIface]) ∧ Below w.heap.size w w' := by
  refine (parse_int s w hs he).mono ?_
  rintro e w' ⟨hb, ⟨m, h1, rfl⟩ | ⟨h1, _⟩⟩
  · rw [h] at h1; injection h1 with h1; subst h1; exact ⟨rfl, hb⟩
  · exact absurd h (h1 n)
theorem parse_bad (s : List UInt8) (w : World) (hs : s.length ≤ 1099511627776) (he : Errs w) (h : ∀ n, Lib.parseIntB 64 s ≠ .ok n) :
    Calls Tryd.prog 42 #[.string (bs s), .int .i64 10, .int .i64 64] w fun e w' => ∃ n t p, e = .returned (.tuple #[.int .i64 n, .iface t p]) ∧ Below w.heap.size w w' := by
  refine (parse_int s w hs he).mono ?_
  rintro e w' ⟨hb, ⟨m, h1, rfl⟩ | ⟨_, n, t, p, rfl⟩⟩
  · exact absurd h1 (h m)
  · exact ⟨n, t, p, rfl, hb⟩

set_option maxRecDepth 100000 in
theorem text_numbers (A : Option Addr) (c : Nat) (l : List (List UInt8)) (w : World) (hr : Sd w A c l) (hn : l.length ≤ 1099511627776) (hx : ∀ x ∈ l, x.length ≤ 1099511627776) (ht : Tab w) (he : Errs w) :
    Calls Tryd.prog 32 #[.slice A l.length c] w (RetNs w l) := by
  have HR := Lib.hid hr
  have HT := Lib.hid ht
  have HE := Lib.hid he
  clear ht he
  obtain ⟨hl, hc, hcell⟩ := hr
  go_enter Tryd.func32, Tryd.ntmps32
  go_wp2_with fail
  go_loopw [4, 11] (fun o i wx => ∃ (k : Nat) (vs : List Int), k ≤ l.length ∧ i = .int .i64 k ∧ numsR (l.take k) = some vs ∧ wx.ownsRow w.heap.size 2 1 o k (vs.map (Value.int .i64)) ∧ Below w.heap.size w wx) (fun _ i _ => l.length - (intOf i).toNat)
  case atStart => exact ⟨0, [], by omega, rfl, rfl, World.ownsRow_nil _ _ _ _, Below.refl _ _⟩
  case round =>
    obtain ⟨k, vs, hk, rfl, hvs, hown, hbel⟩ := hrel
    rename World => U
    have HB := Lib.hid hbel
    have HO := Lib.hid hown
    have zB := hbel.size
    clear hown hbel
    by_cases hlt : k < l.length
    · obtain ⟨ad, e0, hcl⟩ := (HR.out.below HB.out).at_ hlt
      subst e0
      have hi0 : (k : Int) < (l.length : Int) := by omega
      have hlx := hx _ (List.getElem_mem hlt)
      have HTK := Lib.hid (fun (n : Int) (h : numR l[k] = some n) => numsR_take hlt hvs h)
      have HNO := Lib.hid (fun (h : numR l[k] = none) => numsR_none hlt h)
      unfold strV at hcl
      have HTU := Lib.hid (HT.out.below HB.out)
      have HEU := Lib.hid (HE.out.below HB.out)
      have HNP := Lib.hid (numP_eq l[k])
      generalize l[k] = s at *
      by_cases hp : ∃ n, Lib.parseIntB 64 s = .ok n
      · obtain ⟨n, hp⟩ := hp
        have HPI := Lib.hid (parse_ok s U hlx HEU.out hp)
        have HNR := Lib.hid (show numR s = if -999999 ≤ n ∧ n ≤ 999999 ∧ itoa n = s then some n else none by rw [← HNP.out, numP, hp])
        by_cases h1 : n < -999999
        · have hd1 : decide (n < -999999) = true := by simpa using h1
          have HNN := Lib.hid (HNO.out (by rw [HNR.out, if_neg (by omega)]))
          go_wp2_with (go_at_call 42; refine HPI.out.mono ?_; rintro e w1 ⟨rfl, hb1⟩)
          refine bodyPost_ret (v := .tuple #[.slice none 0 0, .bool false]) ?_ ?_ ?_
          · simp [results, Tryd.results32, go_sem]
          · rfl
          · exact ⟨HB.out.trans (hb1.mono zB), Or.inr ⟨HNN.out, rfl⟩⟩
        have hd1 : decide (n < -999999) = false := by simpa using h1
        by_cases h2 : 999999 < n
        · have hd2 : decide (999999 < n) = true := by simpa using h2
          have HNN := Lib.hid (HNO.out (by rw [HNR.out, if_neg (by omega)]))
          go_wp2_with (go_at_call 42; refine HPI.out.mono ?_; rintro e w1 ⟨rfl, hb1⟩)
          refine bodyPost_ret (v := .tuple #[.slice none 0 0, .bool false]) ?_ ?_ ?_
          · simp [results, Tryd.results32, go_sem]
          · rfl
          · exact ⟨HB.out.trans (hb1.mono zB), Or.inr ⟨HNN.out, rfl⟩⟩
        have hd2 : decide (999999 < n) = false := by simpa using h2
        have HFI := Lib.hid (fun (W : World) (hW : Below U.heap.size U W) => format_int n (by omega) (by omega) W (HTU.out.below hW))
        have hq : ((bs (itoa n)).toList == (bs s).toList) = decide (itoa n = s) := by rw [bs_list, bs_list]; exact Bool.beq_eq_decide_eq _ _
        by_cases h3 : itoa n = s
        · have hd3 : decide (itoa n = s) = true := by simpa using h3
          have HTN := Lib.hid (HTK.out n (by rw [HNR.out, if_pos ⟨by omega, by omega, h3⟩]))
          rw [hd3] at hq
          clear h3 hd3 hp
          generalize bs (itoa n) = t1 at *
          generalize bs s = t0 at *
          go_wp2_with (first
            | (go_at_call 42; refine HPI.out.mono ?_; rintro e w1 ⟨rfl, hb1⟩)
            | (go_at_call 18; refine (HFI.out _ hb1).mono ?_; rintro e w2 ⟨rfl, hb2⟩; have hb3 := hb1.trans (hb2.mono hb1.size))
            | (at_builtin; refine list_app1 rfl (.tmp 36) (.tmp 38) 22 2 (.int .i64 0) 8 und_i64s inf_i64 rfl rfl w.heap.size _ k _ (.int .i64 n) rfl (own_below HO.out (hb3.alloc hb3.size _)) _ 1 rfl (cell_new1 _ _ _) rfl (by unfold maxLen; omega) (by omega) (by have := hb3.size; simp; omega) ?_; intro g cap w5 hown5 hg5 hat5 hlt5))
          go_roundw
          case rel => exact ⟨k + 1, vs ++ [n], by omega, by go_num, HTN.out, by rw [List.map_append]; exact hown5, ((HB.out.trans (hb3.mono zB)).alloc (by have := hb3.size; omega) _).grown hg5 (by have := hb3.size; simp; omega) (own_ge HO.out (Nat.le_refl _))⟩
          case measure => simp [intOf]; omega
        · have hd3 : decide (itoa n = s) = false := by simpa using h3
          have HNN := Lib.hid (HNO.out (by rw [HNR.out, if_neg (fun q => h3 q.2.2)]))
          rw [hd3] at hq
          clear h3 hd3 hp
          generalize bs (itoa n) = t1 at *
          generalize bs s = t0 at *
          go_wp2_with (first
            | (go_at_call 42; refine HPI.out.mono ?_; rintro e w2 ⟨rfl, hb2⟩)
            | (go_at_call 18; refine (HFI.out _ hb2).mono ?_; rintro e w1 ⟨rfl, hb4⟩; have hb1 := hb2.trans (hb4.mono hb2.size)))
          refine bodyPost_ret (v := .tuple #[.slice none 0 0, .bool false]) ?_ ?_ ?_
          · simp [results, Tryd.results32, go_sem]
          · rfl
          · exact ⟨HB.out.trans (hb1.mono zB), Or.inr ⟨HNN.out, rfl⟩⟩
      · have HPB := Lib.hid (parse_bad s U hlx HEU.out (fun n e => hp ⟨n, e⟩))
        have HNN := Lib.hid (HNO.out (by
          rw [← HNP.out]; unfold numP
          rcases h : Lib.parseIntB 64 s with n | _ | _
          · exact absurd ⟨n, h⟩ hp
          · rfl
          · rfl))
        generalize bs s = t0 at *
        go_wp2_with (go_at_call 42; refine HPB.out.mono ?_; rintro e w1 ⟨n, t, p, rfl, hb1⟩)
        refine bodyPost_ret (v := .tuple #[.slice none 0 0, .bool false]) ?_ ?_ ?_
        · simp [results, Tryd.results32, go_sem]
        · rfl
        · exact ⟨HB.out.trans (hb1.mono zB), Or.inr ⟨HNN.out, rfl⟩⟩
    · obtain rfl : k = l.length := by omega
      have hi0 : decide ((l.length : Int) < (l.length : Int)) = false := by simp
      rw [List.take_length] at hvs
      have hvl := (numsR_small hvs).2
      obtain ⟨A5, c5, rfl, hrd, _⟩ := Rd.of_ownv HO.out hvl.symm (by omega)
      have hnw : ∀ ad, A5 = some ad → w.heap.size ≤ ad.block ∧ ad.block < U.heap.size := fun ad e => HO.out.lt ad.block (by rw [e]; rfl)
      go_wp2_with fail
      refine bodyPost_ret (v := .tuple #[.slice A5 vs.length c5, .bool true]) ?_ ?_ ?_
      · simp [results, Tryd.results32, go_sem]
      · rfl
      · exact ⟨HB.out, Or.inl ⟨vs, A5, c5, hvs, rfl, hrd, hnw⟩⟩
end Go.Proofs.YtjcdkbalhleeeabDoor
