/-
  Walked: the document's numbers and split. Condition: the text is no longer than any machine's.
-/
import Derived.Test.YtjcdkbalhleeeabDoorTxtF
namespace Go.Proofs.YtjcdkbalhleeeabDoor
open Go.Proofs Go.RowKit
open Go.Lib (itoa join)

theorem und_strG : Tryd.prog.underlying 41 = some (.slice 9) := by kernel_rfl
theorem inf_strG : (Tryd.prog.info? 9).map (fun i => (i.zero, i.size, i.bytes)) = some (some (.string ByteArray.empty), 1, 16) := by kernel_rfl
/-- The numbers of words, or none. -/
def RetNs (w : World) (l : List (List UInt8)) (e : Ending) (w' : World) : Prop :=
  Below w.heap.size w w' ∧ ((∃ v A c, numsR l = some v ∧ e = .returned (.tuple #[.slice A v.length c, .bool true]) ∧ Rd w' A c v ∧ ∀ ad, A = some ad → w.heap.size ≤ ad.block ∧ ad.block < w'.heap.size) ∨ (numsR l = none ∧ e = .returned (.tuple #[.slice none 0 0, .bool false])))

set_option maxRecDepth 100000 in
theorem ref9_numbers (A : Option Addr) (c : Nat) (l : List (List UInt8)) (w : World) (hr : Sd w A c l) (hn : l.length ≤ 1099511627776) (hx : ∀ x ∈ l, x.length ≤ 1099511627776) :
    Calls Tryd.prog 24 #[.slice A l.length c] w (RetNs w l) := by
  have HR := Lib.hid hr
  obtain ⟨hl, hc, hcell⟩ := hr
  go_enter Tryd.func24, Tryd.ntmps24
  go_wp2_with fail
  go_loopw [4, 5] (fun o i wx => ∃ (k : Nat) (vs : List Int), k ≤ l.length ∧ i = .int .i64 k ∧ numsR (l.take k) = some vs ∧ wx.ownsRow w.heap.size 2 1 o k (vs.map (Value.int .i64)) ∧ Below w.heap.size w wx) (fun _ i _ => l.length - (intOf i).toNat)
  case atStart => exact ⟨0, [], by omega, rfl, rfl, World.ownsRow_nil _ _ _ _, Below.refl _ _⟩
  case round =>
    obtain ⟨k, vs, hk, rfl, hvs, hown, hbel⟩ := hrel
    rename World => U
    have HB := Lib.hid hbel
    have HO := Lib.hid hown
    have zB := hbel.size
    clear hown hbel
    by_cases hlt : k < l.length
    · obtain ⟨ad, e0, hcl⟩ := (HR.out.below HB.out).at_ hlt
      subst e0
      have hi0 : (k : Int) < (l.length : Int) := by omega
      have HF := Lib.hid (ref9_Number l[k] U (hx _ (List.getElem_mem hlt)))
      have HTK := Lib.hid (fun (n : Int) (h : numR l[k] = some n) => numsR_take hlt hvs h)
      have HNO := Lib.hid (fun (h : numR l[k] = none) => numsR_none hlt h)
      unfold strV at hcl
      generalize bs l[k] = sx at *
      unfold numV at HF
      cases hnr : numR l[k] with
      | none =>
        rw [hnr] at HF
        have HNN := Lib.hid (HNO.out hnr)
        clear HTK HNO hnr
        simp only [Option.getD_none, Option.isSome_none] at HF
        go_wp2_with (go_at_call 25; refine HF.out.mono ?_; rintro e w1 ⟨rfl, hb1⟩)
        refine bodyPost_ret (v := .tuple #[.slice none 0 0, .bool false]) ?_ ?_ ?_
        · simp [results, Tryd.results24, go_sem]
        · rfl
        · exact ⟨HB.out.trans (hb1.mono zB), Or.inr ⟨HNN.out, rfl⟩⟩
      | some n =>
        rw [hnr] at HF
        have HTN := Lib.hid (HTK.out n hnr)
        clear HTK HNO hnr
        simp only [Option.getD_some, Option.isSome_some] at HF
        go_wp2_with (first
          | (go_at_call 25; refine HF.out.mono ?_; rintro e w1 ⟨rfl, hb1⟩)
          | (at_builtin; refine list_app1 rfl (.tmp 24) (.tmp 26) 22 2 (.int .i64 0) 8 und_i64s inf_i64 rfl rfl w.heap.size _ k _ (.int .i64 n) rfl (own_below HO.out (hb1.alloc hb1.size _)) _ 1 rfl (cell_new1 _ _ _) rfl (by unfold maxLen; omega) (by omega) (by have := hb1.size; simp; omega) ?_; intro g cap w5 hown5 hg5 hat5 hlt5))
        go_roundw
        case rel => exact ⟨k + 1, vs ++ [n], by omega, by go_num, HTN.out, by rw [List.map_append]; exact hown5, ((HB.out.trans (hb1.mono zB)).alloc (by have := hb1.size; omega) _).grown hg5 (by have := hb1.size; simp; omega) (own_ge HO.out (Nat.le_refl _))⟩
        case measure => simp [intOf]; omega
    · obtain rfl : k = l.length := by omega
      have hi0 : decide ((l.length : Int) < (l.length : Int)) = false := by simp
      rw [List.take_length] at hvs
      have hvl := (numsR_small hvs).2
      obtain ⟨A5, c5, rfl, hrd, _⟩ := Rd.of_ownv HO.out hvl.symm (by omega)
      have hnw : ∀ ad, A5 = some ad → w.heap.size ≤ ad.block ∧ ad.block < U.heap.size := fun ad e => HO.out.lt ad.block (by rw [e]; rfl)
      go_wp2_with fail
      refine bodyPost_ret (v := .tuple #[.slice A5 vs.length c5, .bool true]) ?_ ?_ ?_
      · simp [results, Tryd.results24, go_sem]
      · rfl
      · exact ⟨HB.out, Or.inl ⟨vs, A5, c5, hvs, rfl, hrd, hnw⟩⟩

set_option maxRecDepth 100000 in
theorem ref9_split (s : List UInt8) (c : UInt8) (w : World) (hs : s.length ≤ 1099511627776) :
    Calls Tryd.prog 23 #[.string (bs s), .int .u8 c.toNat] w fun e w' => ∃ A cap, e = .returned (.slice A (cutB c s).length cap) ∧ Sd w' A cap (cutB c s) ∧ Below w.heap.size w w' := by
  have hz : (bs s).size = s.length := bs_size s
  go_enter Tryd.func23, Tryd.ntmps23
  go_wp2_with fail
  go_loopw [5, 6, 7] (fun o f i wx => ∃ (k : Nat), i = .int .i64 k ∧ Below w.heap.size w wx ∧
      ((k ≤ s.length ∧ ∃ (q : Nat), q ≤ k ∧ f = .int .i64 q ∧ (s.take k).drop q = (cutB c (s.take k)).getLastD [] ∧ wx.ownsRow w.heap.size 9 1 o (cutB c (s.take k)).dropLast.length ((cutB c (s.take k)).dropLast.map strV)) ∨
       (k = s.length + 1 ∧ wx.ownsRow w.heap.size 9 1 o (cutB c s).length ((cutB c s).map strV)))) (fun _ _ i _ => s.length + 1 - (intOf i).toNat)
  case atStart => exact ⟨0, rfl, Below.refl _ _, Or.inl ⟨by omega, 0, by omega, rfl, by simp [cutB], by simpa [cutB] using World.ownsRow_nil _ _ _ _⟩⟩
  case round =>
    obtain ⟨k, rfl, hbel, hcs⟩ := hrel
    rename World => U
    have HB := Lib.hid hbel
    have zB := hbel.size
    clear hbel
    rcases hcs with ⟨hk, q, hq, rfl, hd, hown⟩ | ⟨rfl, hown⟩
    · have HO := Lib.hid hown
      have hcl : (cutB c (s.take k)).dropLast.length ≤ s.length := by
        have := cut_small (c := c) (s := s.take k)
        rw [List.length_dropLast]; rw [List.length_take] at this; omega
      have hext : (bs s).extract q k = bs ((s.take k).drop q) := by rw [bs_ext, List.drop_take]
      have hi0 : (k : Int) ≤ (s.length : Int) := by omega
      have hiq : (q : Int) ≤ (k : Int) := by omega
      clear hown
      by_cases hlt : k < s.length
      · have hne : ((k : Int) == (s.length : Int)) = false := by rw [beq_eq_false_iff_ne]; omega
        have hi1 : (k : Int) < (s.length : Int) := by omega
        have hix := bs_at s hlt
        obtain ⟨h1, h2⟩ := cut_step hlt hq hd
        by_cases hc : s[k] = c
        · obtain ⟨e1, e2⟩ := h1 hc
          rw [hc] at hix
          have HE1 := Lib.hid e1
          have HE2 := Lib.hid e2
          clear h1 h2 e1 e2 hd
          generalize (s.take k).drop q = sx at *
          generalize (cutB c (s.take k)).dropLast = L at *
          go_wp2_with (at_builtin; refine list_app1 rfl (.tmp 25) (.tmp 30) 41 9 (.string ByteArray.empty) 16 und_strG inf_strG rfl rfl w.heap.size _ _ _ (.string (bs sx)) rfl (own_below HO.out ((Below.refl _ _).alloc (Nat.le_refl _) _)) _ 1 rfl (cell_new1 _ _ _) rfl (by unfold maxLen; omega) (by omega) (by simp; omega) ?_; intro g cap w5 hown5 hg5 hat5 hlt5)
          go_roundw
          case rel => exact ⟨k + 1, by go_num, (HB.out.alloc zB _).grown hg5 (by simp; omega) (own_ge HO.out (Nat.le_refl _)), Or.inl ⟨by omega, k + 1, by omega, by go_num, HE2.out, by rw [HE1.out, List.length_append, List.map_append]; exact hown5⟩⟩
          case measure => simp [intOf]; omega
        · obtain ⟨e1, e2⟩ := h2 hc
          have hcc : (((s[k]).toNat : Int) == (c.toNat : Int)) = false := u8_ne hc
          have HE1 := Lib.hid e1
          have HE2 := Lib.hid e2
          clear h1 h2 e1 e2 hd
          generalize s[k] = x at *
          go_wp2_with fail
          go_roundw
          case rel => exact ⟨k + 1, by go_num, HB.out, Or.inl ⟨by omega, q, by omega, rfl, HE2.out, by rw [HE1.out]; exact HO.out⟩⟩
          case measure => simp [intOf]; omega
      · obtain rfl : k = s.length := by omega
        have hne : ((s.length : Int) == (s.length : Int)) = true := by simp
        rw [List.take_length] at hd HO hext hcl
        have HE := Lib.hid (cut_end hd)
        clear hd
        generalize s.drop q = sx at *
        generalize (cutB c s).dropLast = L at *
        go_wp2_with (at_builtin; refine list_app1 rfl (.tmp 25) (.tmp 30) 41 9 (.string ByteArray.empty) 16 und_strG inf_strG rfl rfl w.heap.size _ _ _ (.string (bs sx)) rfl (own_below HO.out ((Below.refl _ _).alloc (Nat.le_refl _) _)) _ 1 rfl (cell_new1 _ _ _) rfl (by unfold maxLen; omega) (by omega) (by simp; omega) ?_; intro g cap w5 hown5 hg5 hat5 hlt5)
        go_roundw
        case rel => exact ⟨s.length + 1, by go_num, (HB.out.alloc zB _).grown hg5 (by simp; omega) (own_ge HO.out (Nat.le_refl _)), Or.inr ⟨rfl, by rw [← HE.out, List.length_append, List.map_append]; exact hown5⟩⟩
        case measure => simp [intOf]
    · have hd0 : ¬ (((s.length + 1 : Nat) : Int) ≤ (s.length : Int)) := by omega
      have hd1 : ¬ ((s.length : Int) + 1 ≤ (s.length : Int)) := by omega
      obtain ⟨A5, c5, rfl, hrd, _⟩ := Sd.of_own hown rfl
      go_wp2_with fail
      go_ret
      exact ⟨A5, c5, rfl, hrd, HB.out⟩
theorem add_add (a : Addr) (i j : Nat) : (a.add i).add j = a.add (i + j) := by
  unfold Addr.add
  by_cases hi : i = 0
  · subst hi; simp
  · by_cases hj : j = 0
    · subst hj; simp [hi]
    · rw [if_neg hj, if_neg hi, if_neg (by omega)]; simp; omega
/-- The words from the i-th on. -/
theorem Sd.from_run {w : World} {aw : Addr} {c m : Nat} {ws : List (List UInt8)} (h : Sd w (some aw) c ws) (hm : ws.length = m) (i : Nat) (hi : i ≤ m) :
    ∃ AT cT, (∀ W, (Instr.slice 41 (.slice (some aw) m c) (some (.int .i64 i)) none none).run Tryd.prog W = .ok (.slice AT (m - i) cT) W) ∧ Sd w AT cT (ws.drop i) := by
  have hel : Tryd.prog.elem 41 = 9 := by kernel_rfl
  have hs : ∀ W, (sizeOf 9).run Tryd.prog W = .ok 1 W := Tryd.sizeOf9
  refine ⟨if c = i then some aw else some (aw.add i), c - i, fun W => ?_, ⟨?_, ?_, ?_⟩⟩
  · rw [run_slice_l W 41 (some aw) m c (by rw [hel]; exact Tryd.underlying41) .i64 i (by omega) (by omega), hel, hs]
    simp only [Result.andThen, sliced, Int.toNat_natCast, Nat.mul_one, Option.map]
  · have := h.le; rw [List.length_drop]; omega
  · have := h.cap; omega
  · intro h0
    simp only [List.length_map, List.length_drop] at h0
    obtain ⟨ad, e, hc⟩ := h.cells (by simp; omega)
    injection e with e
    subst e
    have hne : c ≠ i := by have := h.le; omega
    rw [if_neg hne]
    refine ⟨_, rfl, fun j u hu => ?_⟩
    rw [add_add]
    refine hc (i + j) u ?_
    rwa [List.map_drop, List.getElem?_drop] at hu
/-- The first words. -/
theorem Sd.to_run {w : World} {aw : Addr} {c m : Nat} {ws : List (List UInt8)} (h : Sd w (some aw) c ws) (hm : ws.length = m) (i : Nat) (hi : i ≤ m) :
    (∀ W, (Instr.slice 41 (.slice (some aw) m c) none (some (.int .i64 i)) none).run Tryd.prog W = .ok (.slice (some aw) i c) W) ∧ Sd w (some aw) c (ws.take i) := by
  have hel : Tryd.prog.elem 41 = 9 := by kernel_rfl
  have hs : ∀ W, (sizeOf 9).run Tryd.prog W = .ok 1 W := Tryd.sizeOf9
  have hle := h.le
  refine ⟨fun W => ?_, ⟨?_, h.cap, ?_⟩⟩
  · rw [run_slice_h W 41 (some aw) m c (by rw [hel]; exact Tryd.underlying41) .i64 i (by omega) (by omega), hel, hs]
    simp [Result.andThen, sliced, Addr.add]
  · rw [List.length_take]; omega
  · intro h0
    simp only [List.length_map, List.length_take] at h0
    obtain ⟨ad, e, hc⟩ := h.cells (by simp; omega)
    refine ⟨ad, e, fun j u hu => hc j u ?_⟩
    rw [List.map_take, List.getElem?_take] at hu
    split at hu
    · exact hu
    · simp at hu
theorem RetNs.some_ {w w' : World} {l : List (List UInt8)} {e : Ending} {v : List Int} (h : RetNs w l e w') (hv : numsR l = some v) : Below w.heap.size w w' ∧ ∃ A c, e = .returned (.tuple #[.slice A v.length c, .bool true]) ∧ Rd w' A c v ∧ ∀ ad, A = some ad → w.heap.size ≤ ad.block ∧ ad.block < w'.heap.size := by
  obtain ⟨h1, ⟨u, A, c, e1, e2, e3, e4⟩ | ⟨e1, _⟩⟩ := h
  · rw [hv] at e1; injection e1 with e1; subst e1
    exact ⟨h1, A, c, e2, e3, e4⟩
  · rw [hv] at e1; cases e1
theorem RetNs.none_ {w w' : World} {l : List (List UInt8)} {e : Ending} (h : RetNs w l e w') (hv : numsR l = none) : Below w.heap.size w w' ∧ e = .returned (.tuple #[.slice none 0 0, .bool false]) := by
  obtain ⟨h1, ⟨u, A, c, e1, _⟩ | ⟨_, e2⟩⟩ := h
  · rw [hv] at e1; cases e1
  · exact ⟨h1, e2⟩
end Go.Proofs.YtjcdkbalhleeeabDoor
