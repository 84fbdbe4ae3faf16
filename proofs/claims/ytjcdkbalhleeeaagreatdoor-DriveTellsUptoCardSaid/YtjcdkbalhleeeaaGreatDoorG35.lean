/-
  Contracts of functions and plain laws that later parts of the proof use. The conditions stand in each theorem.
-/
import Derived.Test.YtjcdkbalhleeeaaGreatDoorG06
import Derived.Test.YtjcdkbalhleeeaaGreatDoorG07
import Derived.Test.YtjcdkbalhleeeaaGreatDoorG29
import Derived.Test.YtjcdkbalhleeeaaGreatDoorG28
import Derived.BigQuiet
import Derived.Deep.DeepCutAuto
import Derived.BigRegion
import Derived.RegionTactic
set_option maxRecDepth 100000
namespace Go.Proofs.YtjcdkbalhleeeaaGreatDoor
open Go.Proofs Go.RowKit
open Go.Lib (itoa join)
theorem inf_intD : (Tryz.prog.info? 3).map (fun i => (i.zero, i.size, i.bytes)) = some (some (.int .i64 0), 1, 8) := by kernel_rfl
theorem und_intsD : Tryz.prog.underlying 51 = some (.slice 3) := by kernel_rfl
theorem drive_say (g : Nat) (wd : List UInt8) (n : Int) (w : World) (hc : w.cell? ⟨g, 0, none⟩ = some (.int .i64 n)) (h0 : -9223372036854775808 ≤ n) (h1 : n ≤ 9223372036854775807) (hw : wd.length ≤ 1000) (ht : Tab w) :
    Calls Tryz.prog 28 #[.string (bs wd), .slice (some ⟨g, 0, none⟩) 1 1] w fun e w' => e = .returned (.string (bs (sayW wd n))) ∧ Below w.heap.size w w' := by
 have hl := itoa_len h0 h1
 have HI := h_ (itoa_call n h0 h1 w ht)
 have ha : ∀ W, (Op.stringOp .add { data := #[32] } (bs (itoa n))).run Tryz.prog W = .ok (.string (bs (32 :: itoa n))) W := fun W => run_add [32] (itoa n) (by simp; omega) W
 have hb : ∀ W, (Op.stringOp .add (bs wd) (bs (32 :: itoa n))).run Tryz.prog W = .ok (.string (bs (sayW wd n))) W := fun W => run_add wd (32 :: itoa n) (by simp; omega) W
 have hlt := lc_ hc
 generalize bs (32 :: itoa n) = t1 at *
 generalize bs (itoa n) = t2 at *
 generalize bs (sayW wd n) = t3 at *
 generalize bs wd = t4 at *
 clear hl hw
 go_enter Tryz.func28, Tryz.ntmps28
 go_wp2_with fail
 go_loopw [0, 9] (fun s0 s9 wx => (s9 = .int .i64 0 ∧ s0 = .string t4 ∧ wx = w) ∨ (s9 = .int .i64 1 ∧ s0 = .string t3 ∧ Below w.heap.size w wx)) (fun _ s9 _ => 1 - (intOf s9).toNat)
 case atStart => exact .inl ⟨rfl, rfl, rfl⟩
 case round =>
  rcases hrel with ⟨rfl, rfl, rfl⟩ | ⟨rfl, rfl, hb1⟩
  ·go_wp2_with (go_at_call 67; refine HI.out.mono ?_; rintro e w1 ⟨rfl, hb1⟩)
   go_roundw
   case rel => exact .inr ⟨by go_num, rfl, hb1⟩
   case measure => simp [intOf]
  ·go_wp2_with fail
   go_ret
   exact ⟨rfl, hb1⟩
theorem keep_said (wd : List UInt8) (n : Int) (w : World) (h0 : -9223372036854775807 ≤ n) (h1 : n ≤ 9223372036854775807) (hw : wd.length ≤ 1000) :
    Calls Tryz.prog 8 #[.string (bs wd), .int .i64 n] w fun e w' => e = .returned (.string (bs (sayW wd n))) ∧ Below w.heap.size w w' := by
 have hl := itoa_len (n := n) (by omega) h1
 have HI := h_ (ref9_Digits _ n w (Nat.le_refl _) h0 h1)
 have ha : ∀ W, (Op.stringOp .add (bs wd) { data := #[32] }).run Tryz.prog W = .ok (.string (bs (wd ++ [32]))) W := fun W => run_add wd [32] (by simp; omega) W
 have hb : ∀ W, (Op.stringOp .add (bs (wd ++ [32])) (bs (itoa n))).run Tryz.prog W = .ok (.string (bs (sayW wd n))) W := fun W => by
  rw [show sayW wd n = (wd ++ [32]) ++ itoa n by simp [sayW]]
  exact run_add (wd ++ [32]) (itoa n) (by simp; omega) W
 generalize bs (wd ++ [32]) = t1 at *
 generalize bs (itoa n) = t2 at *
 generalize bs (sayW wd n) = t3 at *
 generalize bs wd = t4 at *
 clear hl hw
 go_enter Tryz.func8, Tryz.ntmps8
 go_wp2_with (go_at_call 14; refine HI.out.mono ?_; rintro e w1 ⟨rfl, hb1⟩)
 go_ret
 exact ⟨rfl, hb1⟩
theorem drive_fraction (n d : Int) (w : World) (hn : -9223372036854775807 ≤ n ∧ n ≤ 9223372036854775807) (hd : -9223372036854775807 ≤ d ∧ d ≤ 9223372036854775807) (ht : Tab w) :
    Calls Tryz.prog 109 #[.agg #[.int .i64 n, .int .i64 d]] w fun e w' => e = .returned (.string (bs (frcW n d))) ∧ Below w.heap.size w w' := by
 have HN := h_ (fun (W : World) (hW : Below w.heap.size w W) => format_int n (by omega) hn.2 W (ht.below hW))
 have HD := h_ (fun (W : World) (hW : Below w.heap.size w W) => format_int d (by omega) hd.2 W (ht.below hW))
 have hl := itoa_len (n := n) (by omega) hn.2
 have hl2 := itoa_len (n := d) (by omega) hd.2
 have ha : ∀ W, (Op.stringOp .add (bs (itoa n)) { data := #[47] }).run Tryz.prog W = .ok (.string (bs (itoa n ++ [47]))) W := fun W => run_add (itoa n) [47] (by simp; omega) W
 have hb : ∀ W, (Op.stringOp .add (bs (itoa n ++ [47])) (bs (itoa d))).run Tryz.prog W = .ok (.string (bs (frcW n d))) W := fun W => by
  rw [show frcW n d = (itoa n ++ [47]) ++ itoa d by simp [frcW]]
  exact run_add (itoa n ++ [47]) (itoa d) (by simp; omega) W
 generalize bs (itoa n ++ [47]) = t1 at *
 generalize bs (itoa n) = t2 at *
 generalize bs (itoa d) = t5 at *
 generalize bs (frcW n d) = t3 at *
 clear hl hl2 hn hd
 go_enter Tryz.func109, Tryz.ntmps109
 go_upto_region 1 with fail
 have HV := h_ ((Below.refl w.heap.size w).alloc (Nat.le_refl _) (.cells #[.int .i64 n, .int .i64 d] 55))
 have BV := h_ (Blk.mk' w 55 #[.int .i64 n, .int .i64 d])
 generalize (w.alloc (.cells #[.int .i64 n, .int .i64 d] 55)) = V at *
 have zV := HV.out.size
 have c0 : ∀ u : Wk V, u.1.cell? ⟨w.heap.size, 0, none⟩ = some (.int .i64 n) := fun u => (BV.out.next u.2).cell 0
 have c1 : ∀ u : Wk V, u.1.cell? ⟨w.heap.size, 1, none⟩ = some (.int .i64 d) := fun u => (BV.out.next u.2).cell 1
 have H1 := h_ (fun u : Wk V => HN.out u.1 (HV.out.trans (u.2.mono zV)))
 have H2 := h_ (fun u : Wk V => HD.out u.1 (HV.out.trans (u.2.mono zV)))
 refine wk_region (by kernel_rfl) (by kernel_rfl) ?_
 repeat (go_big_quiet_step (first | (go_at_call 44; with_reducible exact wk_call (H1.out _)) | (go_at_call 44; with_reducible exact wk_call (H2.out _))))
 refine wpQuiet_nil ?_
 rintro w7 ⟨u7, rfl⟩
 go_wp2_with fail
 go_ret
 exact ⟨rfl, HV.out.trans (u7.2.mono zV)⟩
theorem keep_fraction (n d : Int) (w : World) (hn : -9223372036854775807 ≤ n ∧ n ≤ 9223372036854775807) (hd : -9223372036854775807 ≤ d ∧ d ≤ 9223372036854775807) :
    Calls Tryz.prog 18 #[.agg #[.int .i64 n, .int .i64 d]] w fun e w' => e = .returned (.string (bs (frcW n d))) ∧ Below w.heap.size w w' := by
 have HN := h_ (fun (W : World) (_ : Below w.heap.size w W) => ref9_Digits _ n W (Nat.le_refl _) hn.1 hn.2)
 have HD := h_ (fun (W : World) (_ : Below w.heap.size w W) => ref9_Digits _ d W (Nat.le_refl _) hd.1 hd.2)
 have hl := itoa_len (n := n) (by omega) hn.2
 have hl2 := itoa_len (n := d) (by omega) hd.2
 have ha : ∀ W, (Op.stringOp .add (bs (itoa n)) { data := #[47] }).run Tryz.prog W = .ok (.string (bs (itoa n ++ [47]))) W := fun W => run_add (itoa n) [47] (by simp; omega) W
 have hb : ∀ W, (Op.stringOp .add (bs (itoa n ++ [47])) (bs (itoa d))).run Tryz.prog W = .ok (.string (bs (frcW n d))) W := fun W => by
  rw [show frcW n d = (itoa n ++ [47]) ++ itoa d by simp [frcW]]
  exact run_add (itoa n ++ [47]) (itoa d) (by simp; omega) W
 generalize bs (itoa n ++ [47]) = t1 at *
 generalize bs (itoa n) = t2 at *
 generalize bs (itoa d) = t5 at *
 generalize bs (frcW n d) = t3 at *
 clear hl hl2 hn hd
 go_enter Tryz.func18, Tryz.ntmps18
 go_upto_region 1 with fail
 have HV := h_ ((Below.refl w.heap.size w).alloc (Nat.le_refl _) (.cells #[.int .i64 n, .int .i64 d] 55))
 have BV := h_ (Blk.mk' w 55 #[.int .i64 n, .int .i64 d])
 generalize (w.alloc (.cells #[.int .i64 n, .int .i64 d] 55)) = V at *
 have zV := HV.out.size
 have c0 : ∀ u : Wk V, u.1.cell? ⟨w.heap.size, 0, none⟩ = some (.int .i64 n) := fun u => (BV.out.next u.2).cell 0
 have c1 : ∀ u : Wk V, u.1.cell? ⟨w.heap.size, 1, none⟩ = some (.int .i64 d) := fun u => (BV.out.next u.2).cell 1
 have H1 := h_ (fun u : Wk V => HN.out u.1 (HV.out.trans (u.2.mono zV)))
 have H2 := h_ (fun u : Wk V => HD.out u.1 (HV.out.trans (u.2.mono zV)))
 refine wk_region (by kernel_rfl) (by kernel_rfl) ?_
 repeat (go_big_quiet_step (first | (go_at_call 14; with_reducible exact wk_call (H1.out _)) | (go_at_call 14; with_reducible exact wk_call (H2.out _))))
 refine wpQuiet_nil ?_
 rintro w7 ⟨u7, rfl⟩
 go_wp2_with fail
 go_ret
 exact ⟨rfl, HV.out.trans (u7.2.mono zV)⟩
def RetCl (w : World) (l : List Int) (e : Ending) (w' : World) : Prop := ∃ A c, e = .returned (.slice A l.length c) ∧ Rd w' A c l ∧ Below w.heap.size w w'
theorem drive_columns (A : Option Addr) (c : Nat) (l : List Int) (w : World) (hr : Rd w A c l) :
    Calls Tryz.prog 110 #[.slice A l.length c] w (RetCl w l) := by
 have HR := h_ hr
 obtain ⟨hl, hc, hs, _⟩ := hr
 go_enter Tryz.func110, Tryz.ntmps110
 go_wp2_with fail
 go_loopw [3, 8] (fun o i wx => ∃ k : Nat, k ≤ l.length ∧ i = .int .i64 k ∧ wx.ownsRow w.heap.size 3 1 o k ((l.take k).map (Value.int .i64)) ∧ Below w.heap.size w wx) (fun _ i _ => l.length - (intOf i).toNat)
 case atStart => exact ⟨0, by omega, rfl, World.ownsRow_nil _ _ _ _, Below.refl _ _⟩
 case round =>
  obtain ⟨k, hk, rfl, hown, hbel⟩ := hrel
  rename World => U
  have HB := h_ hbel
  have HO := h_ hown
  have zB := hbel.size
  clear hown hbel
  by_cases hlt : k < l.length
  ·obtain ⟨ad, rfl, hcl⟩ := (HR.out.below HB.out).at_ hlt
   have hi0 : (k : Int) < (l.length : Int) := by omega
   have HTK := h_ (show (l.take (k + 1)).map (Value.int .i64) = (l.take k).map (Value.int .i64) ++ [.int .i64 l[k]] by rw [List.take_succ_eq_append_getElem hlt, List.map_append]; rfl)
   generalize l[k] = n at *
   go_wp2_with (at_builtin; refine list_app1 rfl (.tmp 12) (.tmp 14) 51 3 (.int .i64 0) 8 und_intsD inf_intD rfl rfl w.heap.size _ k _ (.int .i64 n) rfl (own_below HO.out ((Below.refl _ _).alloc (Nat.le_refl _) _)) _ 1 rfl (cell_new1 _ _ _) rfl (by unfold maxLen; omega) (by omega) (by simp; omega) ?_; intro g cap w5 hown5 hg5 hat5 hlt5)
   go_roundw
   case rel => exact ⟨k + 1, by omega, by go_num, by rw [HTK.out]; exact hown5, (HB.out.alloc zB _).grown hg5 (by simp; omega) (own_ge HO.out (Nat.le_refl _))⟩
   case measure => simp [intOf]; omega
  ·obtain rfl : k = l.length := by omega
   have hi0 : decide ((l.length : Int) < (l.length : Int)) = false := by simp
   rw [List.take_length] at HO
   obtain ⟨A5, c5, rfl, hrd, _⟩ := Rd.of_ownv HO.out rfl (by omega)
   go_wp2_with fail
   go_ret
   exact ⟨A5, c5, rfl, hrd, HB.out⟩
end Go.Proofs.YtjcdkbalhleeeaaGreatDoor
