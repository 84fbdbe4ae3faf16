/-
  Contracts of functions and plain laws that later parts of the proof use. The conditions stand in each theorem.
-/
import Derived.Test.YtjcdkbalhleeeaaGreatDoorG06
import Derived.Test.YtjcdkbalhleeeaaGreatDoorG27
import Derived.Laws.IdiomStrings
set_option maxRecDepth 100000
namespace Go.Proofs.YtjcdkbalhleeeaaGreatDoor
open Go.Proofs Go.RowKit
open Go.Lib (itoa join decDigits)
theorem text_put (bk o c : Nat) (xs : List (List UInt8)) (b : Nat) (lb : List UInt8) (w : World) (hr : Sd w (some ⟨bk, o, none⟩) c xs) (hn : xs ≠ []) (hB : Bld b lb w) (hlen : lb.length + ((join xs [32]).length + 1) ≤ 140737488355328) (hN : xs.length ≤ 1000) :
    Calls Tryz.prog 40 #[.slice (some ⟨bk, o, none⟩) xs.length c, .pointer (some ⟨b, 0, none⟩)] w fun e w' => e = .returned (.tuple #[]) ∧ Bld b (lb ++ (join xs [32] ++ [10])) w' ∧ Below b w w' := by
 have HJ := h_ (strings_Join bk o c xs [32] w hr hn (by omega) (by omega))
 have HA := h_ (fun W => run_add (join xs [32]) [10] (by simp; omega) W)
 have hb := hB.lt
 have HBW := h_ (fun (W : World) (hW : Below w.heap.size w W) => builder_write b lb (join xs [32] ++ [10]) W (hB.below hW) (by simp; omega))
 have ha : ∀ W, (Op.stringOp .add (bs (join xs [32])) { data := #[10] }).run Tryz.prog W = .ok (.string (bs (join xs [32] ++ [10]))) W := HA.out
 generalize join xs [32] ++ [10] = J10 at *
 generalize join xs [32] = J at *
 go_enter Tryz.func40, Tryz.ntmps40
 go_wp2_with (first
  | (go_at_call 42; refine HJ.out.mono ?_; rintro e w1 ⟨rfl, hb1⟩)
  | (go_at_call 41; refine (HBW.out _ hb1).mono ?_; rintro e w2 ⟨rfl, hb2, hb3⟩))
 go_end0
 exact ⟨rfl, hb2, (hb1.mono (Nat.le_of_lt hb)).trans hb3⟩
theorem ref9_Digits : ∀ (m : Nat) (n : Int) (w : World), n.natAbs * 2 + (if n < 0 then 1 else 0) ≤ m → -9223372036854775807 ≤ n → n ≤ 9223372036854775807 →
    Calls Tryz.prog 14 #[.int .i64 n] w fun e w' => e = .returned (.string (bs (itoa n))) ∧ Below w.heap.size w w' := by
 intro m
 induction m using Nat.strongRecOn with
 | ind m ih =>
  intro n w hm h1 h2
  by_cases hneg : n < 0
  ·have hd : decide (n < 0) = true := by simpa using hneg
   rw [if_pos hneg] at hm
   have hz : (0 : Int) - n = -n := by omega
   have hw : IntKind.i64.wrap (-n) = -n := IntWalk.i64_in _ (by omega)
   have HI := h_ (fun W => ih ((-n).natAbs * 2) (by omega) (-n) W (by rw [if_neg (by omega)]; omega) (by omega) (by omega))
   have e1 : itoa n = [45] ++ itoa (-n) := by rw [itoa_neg hneg, itoa_pos (by omega), show n.natAbs = (-n).toNat by omega]; rfl
   have hl : (itoa (-n)).length ≤ 21 := itoa_len (by omega) (by omega)
   have HA := h_ (fun W => run_add [45] (itoa (-n)) (by show 1 + _ ≤ _; omega) W)
   have ha : ∀ W, (Op.stringOp .add { data := #[45] } (bs (itoa (-n)))).run Tryz.prog W = .ok (.string (bs (itoa n))) W := by rw [e1]; exact HA.out
   clear e1 hl HA
   generalize bs (itoa (-n)) = t1 at *
   generalize bs (itoa n) = t2 at *
   clear hm ih
   go_enter Tryz.func14, Tryz.ntmps14
   go_wp2_with (go_at_call 14; refine (HI.out _).mono ?_; rintro e w1 ⟨rfl, hb1⟩)
   go_ret
   exact ⟨rfl, hb1⟩
  ·obtain ⟨u, rfl⟩ : ∃ u : Nat, n = (u : Int) := ⟨n.toNat, (Int.toNat_of_nonneg (Int.not_lt.1 hneg)).symm⟩
   rw [if_neg hneg, Int.natAbs_natCast] at hm
   have hd : decide ((u : Int) < 0) = false := by simp
   have hr : (u : Int).tmod 10 = ((u % 10 : Nat) : Int) := (Int.ofNat_tmod u 10).symm
   have hq : (u : Int).tdiv 10 = ((u / 10 : Nat) : Int) := (Int.ofNat_tdiv u 10).symm
   have hw : IntKind.u8.wrap (48 + ((u % 10 : Nat) : Int)) = 48 + ((u % 10 : Nat) : Int) := IntWalk.u8_in _ ⟨by omega, by omega⟩
   have hw2 : IntKind.i64.wrap (48 + ((u % 10 : Nat) : Int)) = 48 + ((u % 10 : Nat) : Int) := IntWalk.i64_in _ (by omega)
   have hc : (convert 87 9 (.slice (some ⟨w.heap.size, 0, none⟩) 1 1)).run Tryz.prog (w.alloc (.cells #[.int .u8 (48 + (u : Int) % 10)] 5)) = .ok (.string (bs [UInt8.ofNat (48 + u % 10)])) (w.alloc (.cells #[.int .u8 (48 + (u : Int) % 10)] 5)) := by
    refine run_convert_bytes_back (P := Tryz.prog) (w.alloc (.cells #[.int .u8 (48 + (u : Int) % 10)] 5)) 87 9 5 ⟨w.heap.size, 0, none⟩ 1 [UInt8.ofNat (48 + u % 10)] Tryz.underlying87 Tryz.underlying5 Tryz.underlying9 ?_
    intro j hj
    obtain rfl : j = 0 := by simpa using hj
    have e : (48 + (u : Int) % 10) = (((UInt8.ofNat (48 + u % 10)).toNat : Nat) : Int) := by simp; omega
    rw [e]
    exact cell_new1 _ _ _
   by_cases h10 : u < 10
   ·have hd2 : decide ((u : Int) < 10) = true := by simp; omega
    have e1 : itoa (u : Int) = [UInt8.ofNat (48 + u % 10)] := by rw [itoa_pos (by omega), Int.toNat_natCast, Lib.decDigits_one h10, Nat.mod_eq_of_lt h10]
    rw [e1]
    generalize bs [UInt8.ofNat (48 + u % 10)] = t1 at *
    clear ih hm e1
    go_enter Tryz.func14, Tryz.ntmps14
    go_wp2_with fail
    go_ret
    exact ⟨rfl, (Below.refl _ _).alloc (Nat.le_refl _) _⟩
   ·have hd2 : decide ((u : Int) < 10) = false := by simp; omega
    have HI := h_ (fun W => ih (u / 10 * 2) (by omega) (((u / 10 : Nat) : Int)) W (by rw [if_neg (by omega)]; omega) (by omega) (by omega))
    have e1 : itoa (u : Int) = itoa (((u / 10 : Nat) : Int)) ++ [UInt8.ofNat (48 + u % 10)] := by rw [itoa_pos (by omega), itoa_pos (by omega), Int.toNat_natCast, Int.toNat_natCast, decDigits, dif_neg h10]
    have hl : (itoa (((u / 10 : Nat) : Int))).length ≤ 21 := itoa_len (by omega) (by omega)
    have ha : ∀ W, (Op.stringOp .add (bs (itoa ((u / 10 : Nat) : Int))) (bs [UInt8.ofNat (48 + u % 10)])).run Tryz.prog W = .ok (.string (bs (itoa (u : Int)))) W := by
     rw [e1]; exact fun W => run_add _ _ (by show _ + 1 ≤ _; omega) W
    generalize bs [UInt8.ofNat (48 + u % 10)] = t1 at *
    generalize bs (itoa (u : Int)) = t2 at *
    generalize bs (itoa ((u / 10 : Nat) : Int)) = t3 at *
    clear ih hm e1 hl
    go_enter Tryz.func14, Tryz.ntmps14
    go_wp2_with (go_at_call 14; refine (HI.out _).mono ?_; rintro e w1 ⟨rfl, hb1⟩)
    go_ret
    exact ⟨rfl, ((Below.refl _ _).alloc (Nat.le_refl _) _).trans (hb1.mono (by simp))⟩
end Go.Proofs.YtjcdkbalhleeeaaGreatDoor
