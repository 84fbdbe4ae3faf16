/-
  Walked: text.words, and the closure that text.Print writes a line with. Condition: the library's table of powers of ten is there.
-/
import Derived.Test.YtjcdkbalhleeeabDoorTxtA
import Derived.Lib.Hide
namespace Go.Proofs.YtjcdkbalhleeeabDoor
open Go.Proofs Go.RowKit
open Go.Lib (itoa join)

theorem und_strs : Tryd.prog.underlying 41 = some (.slice 9) := by kernel_rfl
theorem inf_str : (Tryd.prog.info? 9).map (fun i => (i.zero, i.size, i.bytes)) = some (some (.string ByteArray.empty), 1, 16) := by kernel_rfl

set_option maxRecDepth 100000 in
theorem text_words (A : Option Addr) (l : List Int) (c : Nat) (w : World) (hr : Rd w A c l) (hs : smallB 999999 l = true) (hn : l.length ≤ 1000) (ht : Tab w) :
    Calls Tryd.prog 17 #[.slice A l.length c] w fun e w' => ∃ v, e = .returned v ∧ w'.ownsRow w.heap.size 9 1 v l.length ((l.map itoa).map strV) ∧ Below w.heap.size w w' := by
  have HR := Lib.hid hr
  have HT := Lib.hid ht
  obtain ⟨hl, hc, hsm, hcell⟩ := hr
  go_enter Tryd.func17, Tryd.ntmps17
  go_wp2_with fail
  go_loopw [3, 8] (fun o i wx => ∃ (k : Nat), k ≤ l.length ∧ i = .int .i64 k ∧ wx.ownsRow w.heap.size 9 1 o k (((l.take k).map itoa).map strV) ∧ Below w.heap.size w wx) (fun _ i _ => l.length - (intOf i).toNat)
  case atStart => exact ⟨0, by omega, rfl, by simpa using World.ownsRow_nil _ _ _ _, Below.refl _ _⟩
  case round =>
    obtain ⟨k, hk, rfl, hown, hbel⟩ := hrel
    rename World => U
    have HB := Lib.hid hbel
    have HO := Lib.hid hown
    have zB := hbel.size
    clear hown hbel
    by_cases hlt : k < l.length
    · obtain ⟨ad, e0, hcl⟩ := (HR.out.below HB.out).at_ hlt
      obtain ⟨hx1, hx2⟩ := smallB_at hs hlt
      subst e0
      have hi0 : (k : Int) < (l.length : Int) := by omega
      have HF := Lib.hid (format_int l[k] (by omega) (by omega) U (HT.out.below HB.out))
      have htk : ((l.take (k + 1)).map itoa).map strV = ((l.take k).map itoa).map strV ++ [Value.string (bs (itoa l[k]))] := by rw [List.take_succ_eq_append_getElem hlt, List.map_append, List.map_append]; rfl
      have HTK := Lib.hid htk
      clear htk
      generalize bs (itoa l[k]) = sx at *
      generalize l[k] = x at *
      go_wp2_with (first
        | (go_at_call 18; refine HF.out.mono ?_; rintro e w1 ⟨rfl, hb1⟩)
        | (at_builtin; refine list_app1 rfl (.tmp 12) (.tmp 15) 41 9 (.string ByteArray.empty) 16 und_strs inf_str rfl rfl w.heap.size _ k _ (.string sx) rfl (own_below HO.out (hb1.alloc hb1.size _)) _ 1 rfl (cell_new1 _ _ _) rfl (by unfold maxLen; omega) (by omega) (by have := hb1.size; simp; omega) ?_; intro g cap w5 hown5 hg5 hat5 hlt5))
      go_wp2_with fail
      go_roundw
      case rel => exact ⟨k + 1, by omega, by go_num, by rw [HTK.out]; exact hown5, ((HB.out.trans (hb1.mono zB)).alloc (by have := hb1.size; omega) _).grown hg5 (by have := hb1.size; simp; omega) (own_ge HO.out (Nat.le_refl _))⟩
      case measure => simp [intOf]; omega
    · obtain rfl : k = l.length := by omega
      have hi0 : decide ((l.length : Int) < (l.length : Int)) = false := by simp
      go_wp2_with fail
      go_ret
      have := HO.out
      rw [List.take_length] at this
      exact ⟨_, rfl, this, HB.out⟩
end Go.Proofs.YtjcdkbalhleeeabDoor
