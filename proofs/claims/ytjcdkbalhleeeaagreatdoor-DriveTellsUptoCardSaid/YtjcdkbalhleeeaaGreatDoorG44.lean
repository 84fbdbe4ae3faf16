/-
  Contracts of functions and plain laws that later parts of the proof use. The conditions stand in each theorem.
-/
import Derived.Test.YtjcdkbalhleeeaaGreatDoorG06
import Derived.Test.YtjcdkbalhleeeaaGreatDoorG43
import Derived.Test.YtjcdkbalhleeeaaGreatDoorG32
import Derived.Test.YtjcdkbalhleeeaaGreatDoorG34
import Derived.Test.YtjcdkbalhleeeaaGreatDoorG12
import Derived.Test.YtjcdkbalhleeeaaGreatDoorG24
set_option maxRecDepth 100000
namespace Go.Proofs.YtjcdkbalhleeeaaGreatDoor
open Go.Proofs Go.RowKit
open Go.Lib (itoa join)
def askK (s : List UInt8) : Option Nat :=
 if s = wSolve then some 0 else if s = wShow then some 1 else if (cutB 32 s).headD [] = wLook then some 2 else if (cutB 32 s).headD [] = wWalk then some 3 else if (cutB 32 s).headD [] = wSweep then some 4 else none
def ansK (p : PG) (l : List Int) : Nat → List UInt8
 | 0 => solS p
 | 1 => shoS p
 | 2 => lokS p l
 | 3 => wlkS p l
 | _ => swpS p l
theorem askS_eq (p : PG) (s : List UInt8) (l : List Int) : askS swpS p s l = (askK s).map (ansK p l) := by
 unfold askS askK
 split
 ·rfl
 ·split
  ·rfl
  ·split
   ·rfl
   ·split
    ·rfl
    ·split <;> rfl
def AskF (w : World) (g k : Nat) (l : List Int) (fv : Value) : Prop :=
 (k = 0 ∧ fv = .func (.func 71) #[.pointer (some ⟨g, 0, none⟩)] #[]) ∨
 (k = 1 ∧ ∃ q, fv = .func (.func 72) #[] #[.pointer (some ⟨q, 0, none⟩)] ∧ w.cell? ⟨q, 0, none⟩ = some (.pointer (some ⟨g, 0, none⟩))) ∨
 (∃ q1 q2 B cb m, fv = .func (.func 70) #[] #[.pointer (some ⟨q1, 0, none⟩), .pointer (some ⟨q2, 0, none⟩)] ∧ w.cell? ⟨q1, 0, none⟩ = some (.func (.func m) #[.pointer (some ⟨g, 0, none⟩)] #[]) ∧
  w.cell? ⟨q2, 0, none⟩ = some (.slice B l.length cb) ∧ Rd w B cb l ∧ ((k = 2 ∧ m = 73) ∨ (k = 3 ∧ m = 74) ∨ (k = 4 ∧ m = 75)))
def RetAs (w : World) (g : Nat) (s : List UInt8) (e : Ending) (w' : World) : Prop :=
 ∃ fv ok, e = .returned (.tuple #[fv, .bool ok]) ∧ Below w.heap.size w w' ∧
  ((ok = false ∧ (numsR (cutB 32 s).tail = none ∨ askK s = none)) ∨ (ok = true ∧ ∃ l k, numsR (cutB 32 s).tail = some l ∧ askK s = some k ∧ AskF w' g k l fv))
theorem drive_of (fv : Value) (ql : Nat) (w : World) (hz : fv.oneCell' = true) :
    Calls Tryz.prog 69 #[fv, .pointer (some ⟨ql, 0, none⟩)] w fun e w' => e = .returned (.func (.func 70) #[] #[.pointer (some ⟨w.heap.size, 0, none⟩), .pointer (some ⟨ql, 0, none⟩)]) ∧ w' = w.alloc (.cells #[fv] 143) := by
 go_enter Tryz.func69, Tryz.ntmps69
 go_wp2_with fail
 go_ret
 exact ⟨rfl, rfl⟩
theorem do_look (g q1 q2 : Nat) (A : Option Addr) (c : Nat) (A2 : Option Addr) (c2 : Nat) (p : PG) (t3 t4 : Value) (B : Option Addr) (l : List Int) (cb : Nat) (w : World) (h1 : w.cell? ⟨q1, 0, none⟩ = some (.func (.func 73) #[.pointer (some ⟨g, 0, none⟩)] #[])) (h2 : w.cell? ⟨q2, 0, none⟩ = some (.slice B l.length cb))
    (hbk : Blk w g 46 #[.slice A p.costs.length c, .slice A2 p.rows.length c2, t3, t4]) (hp : Pg w A c A2 c2 p) (hr : Rd w B cb l) (ht : Tab w) :
    Calls Tryz.prog 70 #[.pointer (some ⟨q1, 0, none⟩), .pointer (some ⟨q2, 0, none⟩)] w (RetS w (lokS p l)) := by
 have HL := h_ (drive_look g A c A2 c2 p t3 t4 B l cb w hbk hp hr ht)
 obtain ⟨S, hS⟩ : ∃ S, lokS p l = S := ⟨_, rfl⟩
 rw [hS] at HL ⊢
 unfold RetS
 clear hS hbk hp hr ht
 go_enter Tryz.func70, Tryz.ntmps70
 go_wp2_with (go_at_call 73; refine HL.out.mono ?_; rintro e w1 ⟨rfl, hb1⟩)
 go_ret
 exact ⟨rfl, hb1⟩
theorem do_walk (g q1 q2 : Nat) (A : Option Addr) (c : Nat) (A2 : Option Addr) (c2 : Nat) (p : PG) (t3 t4 : Value) (B : Option Addr) (l : List Int) (cb : Nat) (w : World) (h1 : w.cell? ⟨q1, 0, none⟩ = some (.func (.func 74) #[.pointer (some ⟨g, 0, none⟩)] #[])) (h2 : w.cell? ⟨q2, 0, none⟩ = some (.slice B l.length cb))
    (hbk : Blk w g 46 #[.slice A p.costs.length c, .slice A2 p.rows.length c2, t3, t4]) (hp : Pg w A c A2 c2 p) (hr : Rd w B cb l) (ht : Tab w) :
    Calls Tryz.prog 70 #[.pointer (some ⟨q1, 0, none⟩), .pointer (some ⟨q2, 0, none⟩)] w (RetS w (wlkS p l)) := by
 have HL := h_ (drive_walk g A c A2 c2 p t3 t4 B l cb w hbk hp hr ht)
 obtain ⟨S, hS⟩ : ∃ S, wlkS p l = S := ⟨_, rfl⟩
 rw [hS] at HL ⊢
 unfold RetS
 clear hS hbk hp hr ht
 go_enter Tryz.func70, Tryz.ntmps70
 go_wp2_with (go_at_call 74; refine HL.out.mono ?_; rintro e w1 ⟨rfl, hb1⟩)
 go_ret
 exact ⟨rfl, hb1⟩
theorem do_sweep (g q1 q2 : Nat) (A : Option Addr) (c : Nat) (A2 : Option Addr) (c2 : Nat) (p : PG) (t3 t4 : Value) (B : Option Addr) (l : List Int) (cb : Nat) (w : World) (h1 : w.cell? ⟨q1, 0, none⟩ = some (.func (.func 75) #[.pointer (some ⟨g, 0, none⟩)] #[])) (h2 : w.cell? ⟨q2, 0, none⟩ = some (.slice B l.length cb))
    (hbk : Blk w g 46 #[.slice A p.costs.length c, .slice A2 p.rows.length c2, t3, t4]) (hp : Pg w A c A2 c2 p) (hr : Rd w B cb l) (ht : Tab w) :
    Calls Tryz.prog 70 #[.pointer (some ⟨q1, 0, none⟩), .pointer (some ⟨q2, 0, none⟩)] w (RetS w (swpS p l)) := by
 have HL := h_ (drive_sweep g A c A2 c2 p t3 t4 B l cb w hbk hp hr ht)
 obtain ⟨S, hS⟩ : ∃ S, swpS p l = S := ⟨_, rfl⟩
 rw [hS] at HL ⊢
 unfold RetS
 clear hS hbk hp hr ht
 go_enter Tryz.func70, Tryz.ntmps70
 go_wp2_with (go_at_call 75; refine HL.out.mono ?_; rintro e w1 ⟨rfl, hb1⟩)
 go_ret
 exact ⟨rfl, hb1⟩
set_option maxHeartbeats 2000000 in
theorem drive_asked (g : Nat) (AW : Option Addr) (cW : Nat) (s : List UInt8) (w : World) (hS : Sd w AW cW (cutB 32 s)) (hs : s.length ≤ 1073741824) (ht : Tab w) (he : Errs w) :
    Calls Tryz.prog 29 #[.pointer (some ⟨g, 0, none⟩), .string (bs s), .slice AW (cutB 32 s).length cW] w (RetAs w g s) := by
 have HS := h_ hS
 have HT := h_ ht
 have HE := h_ he
 clear hS ht he
 obtain ⟨m, hm⟩ : ∃ m, (cutB 32 s).length = m + 1 := ⟨(cutB 32 s).length - 1, by have := List.length_pos_iff.2 (cutB_ne 32 s); omega⟩
 have hcw := cut_small (c := 32) (s := s)
 have HPW := h_ (fun (x : List UInt8) (hx : x ∈ cutB 32 s) => cut_parts x hx)
 rw [hm]
 unfold RetAs
 go_enter Tryz.func29, Tryz.ntmps29
 go_upto_region 1 with fail
 have BW := h_ (Blk.mk' w 44 #[.pointer (some ⟨g, 0, none⟩)])
 have HW := h_ ((Below.refl w.heap.size w).alloc (Nat.le_refl _) (.cells #[.pointer (some ⟨g, 0, none⟩)] 44))
 obtain ⟨W, hWe⟩ : ∃ W, w.alloc (.cells #[.pointer (some ⟨g, 0, none⟩)] 44) = W := ⟨_, rfl⟩
 rw [hWe] at BW HW ⊢
 clear hWe
 have zW := HW.out.size
 have HSW := h_ (HS.out.below HW.out)
 obtain ⟨aw, e1, hw0⟩ := HSW.out.at_ (k := 0) (by omega)
 subst e1
 obtain ⟨hSle, hScap, _⟩ := HSW.out
 rw [hm] at hSle
 obtain ⟨AT, cT, hrun, hST⟩ := HSW.out.from_run hm 1 (by omega)
 have hrun1 : ∀ W, (Instr.slice 22 (.slice (some aw) (m + 1) cW) (some (.int .i64 1)) none none).run Tryz.prog W = .ok (.slice AT m cT) W := hrun
 have hdl : ((cutB 32 s).drop 1).length = m := by rw [List.length_drop, hm]; rfl
 have HNB := h_ (drive_numbers AT cT ((cutB 32 s).drop 1) W hST (by omega) (fun x hx => by have := HPW.out x (List.mem_of_mem_drop hx); omega) (HT.out.below HW.out) (HE.out.below HW.out))
 rw [hdl] at HNB
 have hhd : (cutB 32 s).headD [] = (cutB 32 s)[0]'(by omega) := by
  obtain ⟨x, y, hc⟩ := List.exists_cons_of_ne_nil (cutB_ne 32 s)
  simp only [hc]; rfl
 have hK : askK s = if s = wSolve then some 0 else if s = wShow then some 1 else if (cutB 32 s)[0]'(by omega) = wLook then some 2 else if (cutB 32 s)[0]'(by omega) = wWalk then some 3 else if (cutB 32 s)[0]'(by omega) = wSweep then some 4 else none := by
  unfold askK; rw [hhd]
 have hw0' : W.cell? aw = some (.string (bs ((cutB 32 s)[0]'(by omega)))) := hw0
 have s1 : ((bs s).toList == [115, 111, 108, 118, 101]) = decide (s = wSolve) := by rw [bs_list]; exact Bool.beq_eq_decide_eq _ _
 have s2 : ((bs s).toList == [115, 104, 111, 119]) = decide (s = wShow) := by rw [bs_list]; exact Bool.beq_eq_decide_eq _ _
 obtain ⟨hd0, hh0⟩ : ∃ h, (cutB 32 s)[0]'(by omega) = h := ⟨_, rfl⟩
 rw [hh0] at hK hw0'
 have s3 : ((bs hd0).toList == [108, 111, 111, 107]) = decide (hd0 = wLook) := by rw [bs_list]; exact Bool.beq_eq_decide_eq _ _
 have s4 : ((bs hd0).toList == [119, 97, 108, 107]) = decide (hd0 = wWalk) := by rw [bs_list]; exact Bool.beq_eq_decide_eq _ _
 have s5 : ((bs hd0).toList == [115, 119, 101, 101, 112]) = decide (hd0 = wSweep) := by rw [bs_list]; exact Bool.beq_eq_decide_eq _ _
 have HK := h_ hK
 clear hrun hw0 hST hdl hhd hK hh0
 have q0 : W.cell? ⟨w.heap.size, 0, none⟩ = some (.pointer (some ⟨g, 0, none⟩)) := BW.out.cell 0
 cases hnv : numsR ((cutB 32 s).drop 1) with
 | none =>
  have HNV := h_ hnv
  clear hnv
  go_wp2_with (go_at_call 68; refine HNB.out.mono ?_; intro e w3 hret; obtain ⟨hb3, rfl⟩ := hret.none_ HNV.out; have HB3 := h_ hb3; clear hb3 hret)
  refine bodyPost_ret (v := .tuple #[.nilFunc, .bool false]) ?_ ?_ ?_
  ·simp [results, Tryz.results29, go_sem]
  ·rfl
  exact ⟨_, _, rfl, (HW.out.trans (HB3.out.mono zW)).alloc (by have := HB3.out.size; omega) _, .inl ⟨rfl, .inl (by rw [← List.drop_one]; exact HNV.out)⟩⟩
 | some l =>
  have HNV := h_ hnv
  clear hnv
  go_upto_region 2 with (go_at_call 68; refine HNB.out.mono ?_; intro e w3 hret; obtain ⟨hb3, A3, c3, rfl, hr3, _⟩ := hret.some_ HNV.out; have HB3 := h_ hb3; have HR3 := h_ hr3; clear hb3 hr3 hret)
  have z3 := HB3.out.size
  have BV := h_ (Blk.mk' w3 25 #[.slice A3 l.length c3])
  have HA3 := h_ ((Below.refl w3.heap.size w3).alloc (Nat.le_refl _) (.cells #[.slice A3 l.length c3] 25))
  obtain ⟨V, hVe⟩ : ∃ V, w3.alloc (.cells #[.slice A3 l.length c3] 25) = V := ⟨_, rfl⟩
  obtain ⟨ql, hql⟩ : ∃ ql, w3.heap.size = ql := ⟨_, rfl⟩
  rw [hVe] at BV HA3 ⊢
  have HWV := h_ (HB3.out.trans (HA3.out.mono z3))
  have HRV := h_ (HR3.out.below HA3.out)
  rw [hql] at BV ⊢
  clear hVe hql HR3
  have HV := h_ (HW.out.trans (HWV.out.mono zW))
  have q1 : V.cell? ⟨ql, 0, none⟩ = some (.slice A3 l.length c3) := BV.out.cell 0
  have q2 : V.cell? ⟨w.heap.size, 0, none⟩ = some (.pointer (some ⟨g, 0, none⟩)) := (BW.out.next HWV.out).cell 0
  have q3 : V.cell? aw = some (.string (bs hd0)) := (HWV.out.cell (lc_ hw0')).trans hw0'
  clear q0 hw0'
  by_cases h1 : s = wSolve
  ·have HK1 := h_ (show askK s = some 0 by rw [HK.out, if_pos h1])
   have d1 : decide (s = wSolve) = true := by simpa using h1
   clear h1 HK
   go_wp2_with fail
   refine bodyPost_ret (v := .tuple #[.func (.func 71) #[.pointer (some ⟨g, 0, none⟩)] #[], .bool true]) ?_ ?_ ?_
   ·simp [results, Tryz.results29, go_sem]
   ·rfl
   exact ⟨_, _, rfl, HV.out, .inr ⟨rfl, l, 0, by rw [← List.drop_one]; exact HNV.out, HK1.out, .inl ⟨rfl, rfl⟩⟩⟩
  ·have d1 : decide (s = wSolve) = false := by simpa using h1
   rw [if_neg h1] at HK
   clear h1
   by_cases h2 : s = wShow
   ·have HK1 := h_ (show askK s = some 1 by rw [HK.out, if_pos h2])
    have d2 : decide (s = wShow) = true := by simpa using h2
    clear h2 HK
    go_wp2_with fail
    refine bodyPost_ret (v := .tuple #[.func (.func 72) #[] #[.pointer (some ⟨w.heap.size, 0, none⟩)], .bool true]) ?_ ?_ ?_
    ·simp [results, Tryz.results29, go_sem]
    ·rfl
    exact ⟨_, _, rfl, HV.out, .inr ⟨rfl, l, 1, by rw [← List.drop_one]; exact HNV.out, HK1.out, .inr (.inl ⟨rfl, _, rfl, q2⟩)⟩⟩
   ·have d2 : decide (s = wShow) = false := by simpa using h2
    rw [if_neg h2] at HK
    clear h2
    by_cases h3 : hd0 = wLook
    ·have HK1 := h_ (show askK s = some 2 by rw [HK.out, if_pos h3])
     have d3 : decide (hd0 = wLook) = true := by simpa using h3
     clear h3 HK
     have HOF := h_ (drive_of (.func (.func 73) #[.pointer (some ⟨g, 0, none⟩)] #[]) ql V rfl)
     have HCN := h_ ((Below.refl V.heap.size V).alloc (Nat.le_refl _) (.cells #[.func (.func 73) #[.pointer (some ⟨g, 0, none⟩)] #[]] 143))
     go_wp2_with (go_at_call 69; refine HOF.out.mono ?_; rintro e w4 ⟨rfl, rfl⟩)
     refine bodyPost_ret (v := .tuple #[.func (.func 70) #[] #[.pointer (some ⟨V.heap.size, 0, none⟩), .pointer (some ⟨ql, 0, none⟩)], .bool true]) ?_ ?_ ?_
     ·simp [results, Tryz.results29, go_sem]
     ·rfl
     refine ⟨_, _, rfl, HV.out.trans (HCN.out.mono HV.out.size), .inr ⟨rfl, l, 2, by rw [← List.drop_one]; exact HNV.out, HK1.out, .inr (.inr ⟨V.heap.size, ql, A3, c3, 73, rfl, cell_new1 _ _ _, (HCN.out.cell (lc_ q1)).trans q1, HRV.out.below HCN.out, by simp⟩)⟩⟩
    ·have d3 : decide (hd0 = wLook) = false := by simpa using h3
     rw [if_neg h3] at HK
     clear h3
     by_cases h4 : hd0 = wWalk
     ·have HK1 := h_ (show askK s = some 3 by rw [HK.out, if_pos h4])
      have d4 : decide (hd0 = wWalk) = true := by simpa using h4
      clear h4 HK
      have HOF := h_ (drive_of (.func (.func 74) #[.pointer (some ⟨g, 0, none⟩)] #[]) ql V rfl)
      have HCN := h_ ((Below.refl V.heap.size V).alloc (Nat.le_refl _) (.cells #[.func (.func 74) #[.pointer (some ⟨g, 0, none⟩)] #[]] 143))
      go_wp2_with (go_at_call 69; refine HOF.out.mono ?_; rintro e w4 ⟨rfl, rfl⟩)
      refine bodyPost_ret (v := .tuple #[.func (.func 70) #[] #[.pointer (some ⟨V.heap.size, 0, none⟩), .pointer (some ⟨ql, 0, none⟩)], .bool true]) ?_ ?_ ?_
      ·simp [results, Tryz.results29, go_sem]
      ·rfl
      refine ⟨_, _, rfl, HV.out.trans (HCN.out.mono HV.out.size), .inr ⟨rfl, l, 3, by rw [← List.drop_one]; exact HNV.out, HK1.out, .inr (.inr ⟨V.heap.size, ql, A3, c3, 74, rfl, cell_new1 _ _ _, (HCN.out.cell (lc_ q1)).trans q1, HRV.out.below HCN.out, by simp⟩)⟩⟩
     ·have d4 : decide (hd0 = wWalk) = false := by simpa using h4
      rw [if_neg h4] at HK
      clear h4
      by_cases h5 : hd0 = wSweep
      ·have HK1 := h_ (show askK s = some 4 by rw [HK.out, if_pos h5])
       have d5 : decide (hd0 = wSweep) = true := by simpa using h5
       clear h5 HK
       have HOF := h_ (drive_of (.func (.func 75) #[.pointer (some ⟨g, 0, none⟩)] #[]) ql V rfl)
       have HCN := h_ ((Below.refl V.heap.size V).alloc (Nat.le_refl _) (.cells #[.func (.func 75) #[.pointer (some ⟨g, 0, none⟩)] #[]] 143))
       go_wp2_with (go_at_call 69; refine HOF.out.mono ?_; rintro e w4 ⟨rfl, rfl⟩)
       refine bodyPost_ret (v := .tuple #[.func (.func 70) #[] #[.pointer (some ⟨V.heap.size, 0, none⟩), .pointer (some ⟨ql, 0, none⟩)], .bool true]) ?_ ?_ ?_
       ·simp [results, Tryz.results29, go_sem]
       ·rfl
       refine ⟨_, _, rfl, HV.out.trans (HCN.out.mono HV.out.size), .inr ⟨rfl, l, 4, by rw [← List.drop_one]; exact HNV.out, HK1.out, .inr (.inr ⟨V.heap.size, ql, A3, c3, 75, rfl, cell_new1 _ _ _, (HCN.out.cell (lc_ q1)).trans q1, HRV.out.below HCN.out, by simp⟩)⟩⟩
      ·have HK1 := h_ (show askK s = none by rw [HK.out, if_neg h5])
       have d5 : decide (hd0 = wSweep) = false := by simpa using h5
       clear h5 HK
       go_wp2_with fail
       refine bodyPost_ret (v := .tuple #[.nilFunc, .bool false]) ?_ ?_ ?_
       ·simp [results, Tryz.results29, go_sem]
       ·rfl
       exact ⟨_, _, rfl, HV.out, .inl ⟨rfl, .inr HK1.out⟩⟩
end Go.Proofs.YtjcdkbalhleeeaaGreatDoor

namespace Go.Proofs.YtjcdkbalhleeeaaGreatDoor
open Go.Proofs Go.RowKit
open Go.Lib (itoa join)
theorem int_out {w : World} {g : Nat} {t : TypeId} {X X2 : Option Addr} {n c n2 c2 : Nat} {s : ByteArray} {b : Bool} {a : Addr} {k : IntKind} {i : Int} (h : w.cell? a = some (.int k i)) (hb : Blk w g t #[.slice X n c, .slice X2 n2 c2, .string s, .bool b]) : a.block ≠ g := by
 intro q
 obtain ⟨b', off, sp⟩ := a
 have q : b' = g := q
 subst q
 have hb' : w.heap[b']? = some (.cells #[.slice X n c, .slice X2 n2 c2, .string s, .bool b] t (0, 0)) := hb
 simp only [World.cell?, hb'] at h
 have hs : sp.isSome = false := by
  cases sp with
  | none => rfl
  | some s => simp at h
 simp only [hs] at h
 simp at h
 rcases (show off = 0 ∨ off = 1 ∨ off = 2 ∨ off = 3 ∨ 4 ≤ off by omega) with rfl | rfl | rfl | rfl | ho
 ·simp at h
 ·simp at h
 ·simp at h
 ·simp at h
 ·rw [List.getElem?_eq_none (by simpa using ho)] at h
  cases h
section
variable {w : World} {g : Nat} {t : TypeId} {X X2 : Option Addr} {n c n2 c2 : Nat} {s : ByteArray} {b : Bool}
theorem Rd.setBox {A : Option Addr} {cA : Nat} {l : List Int} (h : Rd w A cA l) (hb : Blk w g t #[.slice X n c, .slice X2 n2 c2, .string s, .bool b]) (k : Nat) (v : Value) : Rd (w.setCell ⟨g, k, none⟩ v) A cA l := by
 refine ⟨h.le, h.cap, h.small, fun hl => ?_⟩
 obtain ⟨ad, e, hc⟩ := h.cells hl
 refine ⟨ad, e, fun j u hu => ?_⟩
 have h1 := hc j u hu
 obtain ⟨i, rfl⟩ : ∃ i, u = .int .i64 i := by
  obtain ⟨i, _, rfl⟩ := List.mem_map.1 (List.mem_of_getElem? hu)
  exact ⟨i, rfl⟩
 exact (World.cell?_setCell_other w _ _ _ (fun e' => int_out h1 hb (congrArg Addr.block e').symm)).trans h1
theorem Rw.setBox {A : Option Addr} {cA : Nat} {rs : List (List Int × Int)} (h : Rw w A cA rs) (hb : Blk w g t #[.slice X n c, .slice X2 n2 c2, .string s, .bool b]) (k : Nat) (v : Value) : Rw (w.setCell ⟨g, k, none⟩ v) A cA rs := by
 refine ⟨h.le, h.cap, h.small, fun hl => ?_⟩
 obtain ⟨ad, e, hc⟩ := h.cells hl
 refine ⟨ad, e, fun j hj => ?_⟩
 obtain ⟨A', c', h1, h2, h3⟩ := hc j hj
 have hne : (⟨(ad.add (j * 2)).block, (ad.add (j * 2)).off + 1, none⟩ : Addr).block ≠ g := int_out h2 hb
 exact ⟨A', c', (World.cell?_setCell_other w _ _ _ (fun e' => hne (congrArg Addr.block e').symm)).trans h1, (World.cell?_setCell_other w _ _ _ (fun e' => hne (congrArg Addr.block e').symm)).trans h2, h3.setBox hb k v⟩
theorem Pg.setBox {A A2 : Option Addr} {cA cA2 : Nat} {p : PG} (h : Pg w A cA A2 cA2 p) (hb : Blk w g t #[.slice X n c, .slice X2 n2 c2, .string s, .bool b]) (k : Nat) (v : Value) : Pg (w.setCell ⟨g, k, none⟩ v) A cA A2 cA2 p := ⟨h.costs.setBox hb k v, h.rows.setBox hb k v⟩
end
structure PlB (w : World) (g : Nat) (st : PlS) : Prop where
 ex : ∃ A c A2 c2, Blk w g 46 #[.slice A st.p.costs.length c, .slice A2 st.p.rows.length c2, .string (bs st.t), .bool st.there] ∧ Pg w A c A2 c2 st.p
 may : st.there = true → mayPB st.p = true
def RetLi (w : World) (g : Nat) (r : List UInt8 × PlS) (e : Ending) (w' : World) : Prop :=
 e = .returned (.string (bs r.1)) ∧ PlB w' g r.2 ∧ Below g w w'
theorem par_at (s : List UInt8) : (parF s).2.2 ≤ s.length + 1 := by
 have := cut_small (c := 10) (s := s)
 rcases parF_cases s with ⟨q, h, _⟩ | ⟨k, h, hk⟩
 ·rw [h]; exact Nat.zero_le _
 ·rw [h]; show k ≤ _; omega
set_option maxRecDepth 100000 in
set_option maxHeartbeats 4000000 in
theorem drive_line (g : Nat) (st : PlS) (s : List UInt8) (w : World) (hB : PlB w g st) (hs : s.length ≤ 4194304) (hT : st.t.length ≤ 1000000000) (hk : ∀ W, Below g w W → Tab W ∧ Errs W ∧ MaxL W) :
    Calls Tryz.prog 13 #[.pointer (some ⟨g, 0, none⟩), .string (bs s)] w (RetLi w g (lineS swpS st s)) := by
 obtain ⟨⟨A, c, A2, c2, hb, hp⟩, hmay⟩ := hB
 obtain ⟨p, t, th⟩ := st
 simp only at hb hp hmay hT
 have B := h_ hb
 have HP := h_ hp
 have HK := h_ hk
 have HMY := h_ hmay
 have HCP := h_ (show Calls Tryz.prog 27 #[.string (bs s), .string { data := #[61, 32] }] w fun e w' => e = .returned (.tuple #[.string (bs (if s.take 2 = [61, 32] then s.drop 2 else s)), .bool (decide (s.take 2 = [61, 32]))]) ∧ w' = w from cut_prefix s w)
 have hlt := hb.lt
 have c0 : w.cell? ⟨g, 0, none⟩ = some (.slice A p.costs.length c) := hb.cell 0
 have c1 : w.cell? ⟨g, 1, none⟩ = some (.slice A2 p.rows.length c2) := hb.cell 1
 have k2 : w.cell? ⟨g, 2, none⟩ = some (.string (bs t)) := hb.cell 2
 have k3 : w.cell? ⟨g, 3, none⟩ = some (.bool th) := hb.cell 3
 have f0 := hb.frozen 0
 have f1 := hb.frozen 1
 have f2 := hb.frozen 2
 have f3 := hb.frozen 3
 clear hb hp hk hmay
 by_cases h1 : s.take 2 = [61, 32]
 ·obtain ⟨T', hT'⟩ : ∃ T', t ++ (s.drop 2 ++ [10]) = T' := ⟨_, rfl⟩
  have hL : lineS swpS ⟨p, t, th⟩ s = (sayW wOk ((T'.length : Nat) : Int), ⟨p, T', th⟩) := by
   unfold lineS
   rw [if_pos h1, hT']
  have hl2 : (s.drop 2).length ≤ s.length := by rw [List.length_drop]; omega
  have hlT : T'.length ≤ 1004194310 := by rw [← hT', List.length_append, List.length_append]; simp only [List.length_cons, List.length_nil]; omega
  have q1 : ∀ W, (Op.stringOp .add (bs (s.drop 2)) { data := #[10] }).run Tryz.prog W = .ok (.string (bs (s.drop 2 ++ [10]))) W := fun W => run_add _ [10] (by simp only [List.length_cons, List.length_nil]; omega) W
  have q2 : ∀ W, (Op.stringOp .add (bs t) (bs (s.drop 2 ++ [10]))).run Tryz.prog W = .ok (.string (bs T')) W := fun W => by
   rw [← hT']
   exact run_add _ _ (by rw [List.length_append]; simp only [List.length_cons, List.length_nil]; omega) W
  have hsz : (bs T').size = T'.length := bs_size _
  rw [hL]
  rw [if_pos h1, decide_eq_true h1] at HCP
  have HLT := h_ hlT
  clear hL h1 hT' hl2 hlT
  unfold RetLi
  generalize bs (s.drop 2 ++ [10]) = t1 at *
  generalize bs (s.drop 2) = t2 at *
  go_enter Tryz.func13, Tryz.ntmps13
  go_upto_region 4 with (go_at_call 27; refine HCP.out.mono ?_; rintro e w1 ⟨rfl, hw1⟩; rw [hw1]; clear hw1)
  have B1 := h_ (show Blk (w.setCell ⟨g, 2, none⟩ (.string (bs T'))) g 46 #[.slice A p.costs.length c, .slice A2 p.rows.length c2, .string (bs T'), .bool th] from by
   have h := B.out.set0 2 (.string (bs T'))
   simp only [List.setIfInBounds_toArray, List.set_cons_zero, List.set_cons_succ] at h
   exact h)
  have HP1 := h_ (HP.out.setBox B.out 2 (.string (bs T')))
  have HG1 := h_ ((Below.refl g w).setCell (p := ⟨g, 2, none⟩) (Nat.le_refl _) (.string (bs T')))
  have HT1 := h_ (HK.out _ HG1.out).1
  obtain ⟨V, hV⟩ : ∃ V, w.setCell ⟨g, 2, none⟩ (.string (bs T')) = V := ⟨_, rfl⟩
  rw [hV] at B1 HP1 HG1 HT1 ⊢
  clear hV c0 c1 k2 k3 f0 f1 f2 f3
  have k2 : V.cell? ⟨g, 2, none⟩ = some (.string (bs T')) := B1.out.cell 2
  have lV := B1.out.lt
  have HAL := h_ ((Below.refl (V).heap.size V).alloc (Nat.le_refl _) (.cells #[.int .i64 ((T'.length : Nat) : Int)] 3))
  have HSY := h_ (say_ok (V).heap.size ((T'.length : Nat) : Int) ((V).alloc (.cells #[.int .i64 ((T'.length : Nat) : Int)] 3)) (cell_new1 _ _ _) (by have := HLT.out; omega) ((HT1.out).below HAL.out))
  go_wp2_with (go_at_call 28; refine HSY.out.mono ?_; rintro e w9 ⟨rfl, hb9⟩)
  go_ret
  have hb10 : Below (V).heap.size V w9 := HAL.out.trans (hb9.mono HAL.out.size)
  exact ⟨rfl, ⟨⟨A, c, A2, c2, B1.out.next hb10, HP1.out.below hb10⟩, HMY.out⟩, HG1.out.trans (hb10.mono (Nat.le_of_lt lV))⟩
 ·have h1d : decide (s.take 2 = [61, 32]) = false := decide_eq_false h1
  rw [if_neg h1, h1d] at HCP
  have hq1 : ((bs s).toList == [102, 114, 101, 115, 104]) = decide (s = wFresh) := by rw [bs_list]; exact Bool.beq_eq_decide_eq _ _
  have hq2 : ((bs s).toList == [116, 97, 107, 101]) = decide (s = wTake) := by rw [bs_list]; exact Bool.beq_eq_decide_eq _ _
  clear h1d
  by_cases h2 : s = wFresh
  ·have hL : lineS swpS ⟨p, t, th⟩ s = (wOk, ⟨p, [], th⟩) := by unfold lineS; rw [if_neg h1, if_pos h2]
   have d2 : decide (s = wFresh) = true := by simpa using h2
   rw [hL]
   clear hL h1 h2
   unfold RetLi
   go_enter Tryz.func13, Tryz.ntmps13
   go_wp2_with (go_at_call 27; refine HCP.out.mono ?_; rintro e w1 ⟨rfl, hw1⟩; rw [hw1]; clear hw1)
   go_ret
   refine ⟨rfl, ⟨⟨A, c, A2, c2, ?_, HP.out.setBox B.out 2 _⟩, HMY.out⟩, (Below.refl g w).setCell (p := ⟨g, 2, none⟩) (Nat.le_refl _) _⟩
   have h := B.out.set0 2 (.string (bs []))
   simp only [List.setIfInBounds_toArray, List.set_cons_zero, List.set_cons_succ] at h
   exact h
  ·have d2 : decide (s = wFresh) = false := by simpa using h2
   by_cases h3 : s = wTake
   ·have d3 : decide (s = wTake) = true := by simpa using h3
    have hL : lineS swpS ⟨p, t, th⟩ s = if (parF t).2.1 = 0 then (sayW wOk ((parF t).1.rows.length : Nat), ⟨(parF t).1, t, true⟩) else (sayW wBad ((parF t).2.2 : Nat), ⟨p, t, th⟩) := by unfold lineS; rw [if_neg h1, if_neg h2, if_pos h3]
    have HPA := h_ (text_Parse t w (by omega) (HK.out w (Below.refl _ _)).1 (HK.out w (Below.refl _ _)).2.1 (HK.out w (Below.refl _ _)).2.2)
    have HAT := h_ (par_at t)
    have HMQ := h_ (fun h => (text_par (s := t) h).1)
    obtain ⟨LS, hLS⟩ : ∃ LS, lineS swpS ⟨p, t, th⟩ s = LS := ⟨_, rfl⟩
    rw [hLS] at hL ⊢
    obtain ⟨⟨q, code, at_⟩, hr⟩ : ∃ r, parF t = r := ⟨_, rfl⟩
    rw [hr] at hL HPA HAT HMQ
    simp only at hL HAT HMQ
    have HL := h_ hL
    clear hLS hL hr h1 h2 h3
    unfold RetPr at HPA
    simp only at HPA
    unfold RetLi
    go_enter Tryz.func13, Tryz.ntmps13
    go_upto_region 11 with (first
     | (go_at_call 27; refine HCP.out.mono ?_; rintro e w1 ⟨rfl, hw1⟩; rw [hw1]; clear hw1)
     | (go_at_call 9; refine HPA.out.mono ?_; rintro e w2 ⟨hb2, A3, c3, A4, c4, rfl, hpg⟩))
    have HB2 := h_ hb2
    have z2 := hb2.size
    have hV2 : Below w2.heap.size w2 ((w2.alloc (.cells #[.slice A3 q.costs.length c3, .slice A4 q.rows.length c4] 28)).alloc (.cells #[.int .i64 code, .int .i64 (at_ : Nat)] 37)) := ((Below.refl _ _).alloc (Nat.le_refl _) _).alloc (by simp) _
    have BQ := h_ (show Blk ((w2.alloc (.cells #[.slice A3 q.costs.length c3, .slice A4 q.rows.length c4] 28)).alloc (.cells #[.int .i64 code, .int .i64 (at_ : Nat)] 37)) w2.heap.size 28 #[.slice A3 q.costs.length c3, .slice A4 q.rows.length c4] from (Blk.mk' _ _ _).alloc _)
    have BF := h_ (Blk.new (w2.alloc (.cells #[.slice A3 q.costs.length c3, .slice A4 q.rows.length c4] 28)) 37 #[.int .i64 code, .int .i64 (at_ : Nat)] (w2.heap.size + 1) (by simp))
    have HPG := h_ (hpg.below hV2)
    have HB := h_ (HB2.out.trans (hV2.mono z2))
    clear c0 c1 k2 k3 f0 f1 f2 f3 hb2 hpg hV2
    obtain ⟨V, hV⟩ : ∃ V, (w2.alloc (.cells #[.slice A3 q.costs.length c3, .slice A4 q.rows.length c4] 28)).alloc (.cells #[.int .i64 code, .int .i64 (at_ : Nat)] 37) = V := ⟨_, rfl⟩
    rw [hV] at BQ BF HPG HB ⊢
    clear hV
    have BV := h_ (B.out.next HB.out)
    have HGV := h_ (HB.out.mono (Nat.le_of_lt hlt))
    have HTV := h_ (HK.out V HGV.out).1
    have zV := HB.out.size
    obtain ⟨bq, hbq⟩ : ∃ bq, w2.heap.size = bq := ⟨_, rfl⟩
    rw [hbq] at BQ BF ⊢
    clear hbq
    have a0 : V.cell? ⟨bq + 1, 0, none⟩ = some (.int .i64 code) := BF.out.cell 0
    have a1 : V.cell? ⟨bq + 1, 1, none⟩ = some (.int .i64 (at_ : Nat)) := BF.out.cell 1
    by_cases h0 : code = 0
    ·subst h0
     have b0 : V.cell? ⟨bq, 0, none⟩ = some (.slice A3 q.costs.length c3) := BQ.out.cell 0
     have b1 : V.cell? ⟨bq, 1, none⟩ = some (.slice A4 q.rows.length c4) := BQ.out.cell 1
     have c0 : V.cell? ⟨g, 0, none⟩ = some (.slice A p.costs.length c) := BV.out.cell 0
     have c1 : V.cell? ⟨g, 1, none⟩ = some (.slice A2 p.rows.length c2) := BV.out.cell 1
     have k2 : V.cell? ⟨g, 2, none⟩ = some (.string (bs t)) := BV.out.cell 2
     have k3 : V.cell? ⟨g, 3, none⟩ = some (.bool th) := BV.out.cell 3
     have f0 := BV.out.frozen 0
     have f1 := BV.out.frozen 1
     have f2 := BV.out.frozen 2
     have f3 := BV.out.frozen 3
     have HL0 := h_ (show LS = (sayW wOk ((q.rows.length : Nat) : Int), ⟨q, t, true⟩) by rw [HL.out, if_pos rfl])
     go_upto_region 14 with fail
     have e0 := BV.out.set0 0 (.slice A3 q.costs.length c3)
     simp only [List.setIfInBounds_toArray, List.set_cons_zero, List.set_cons_succ] at e0
     have e1 := e0.set0 1 (.slice A4 q.rows.length c4)
     simp only [List.setIfInBounds_toArray, List.set_cons_zero, List.set_cons_succ] at e1
     have e3 := e1.set0 3 (.bool true)
     simp only [List.setIfInBounds_toArray, List.set_cons_zero, List.set_cons_succ] at e3
     have HP3 := h_ (((HPG.out.setBox BV.out 0 (.slice A3 q.costs.length c3)).setBox e0 1 (.slice A4 q.rows.length c4)).setBox e1 3 (.bool true))
     have HG3 := h_ (((HGV.out.setCell (p := ⟨g, 0, none⟩) (Nat.le_refl _) (.slice A3 q.costs.length c3)).setCell (p := ⟨g, 1, none⟩) (Nat.le_refl _) (.slice A4 q.rows.length c4)).setCell (p := ⟨g, 3, none⟩) (Nat.le_refl _) (.bool true))
     have B3 := h_ e3
     clear e0 e1 e3 a0 a1 b0 b1 c0 c1 k2 k3 f0 f1 f2 f3
     obtain ⟨V3, hV3⟩ : ∃ V3, ((V.setCell ⟨g, 0, none⟩ (.slice A3 q.costs.length c3)).setCell ⟨g, 1, none⟩ (.slice A4 q.rows.length c4)).setCell ⟨g, 3, none⟩ (.bool true) = V3 := ⟨_, rfl⟩
     rw [hV3] at HP3 HG3 B3 ⊢
     clear hV3
     have HT3 := h_ (HK.out V3 HG3.out).1
     have c1 : V3.cell? ⟨g, 1, none⟩ = some (.slice A4 q.rows.length c4) := B3.out.cell 1
     have lV := B3.out.lt
     have hrl : q.rows.length ≤ 17592186044416 := HP3.out.rows.small
     have HAL := h_ ((Below.refl (V3).heap.size V3).alloc (Nat.le_refl _) (.cells #[.int .i64 ((q.rows.length : Nat) : Int)] 3))
     have HSY := h_ (say_ok (V3).heap.size ((q.rows.length : Nat) : Int) ((V3).alloc (.cells #[.int .i64 ((q.rows.length : Nat) : Int)] 3)) (cell_new1 _ _ _) (by omega) ((HT3.out).below HAL.out))
     go_wp2_with (go_at_call 28; refine HSY.out.mono ?_; rintro e w9 ⟨rfl, hb9⟩)
     go_ret
     have hb10 : Below (V3).heap.size V3 w9 := HAL.out.trans (hb9.mono HAL.out.size)
     rw [HL0.out]
     exact ⟨rfl, ⟨⟨A3, c3, A4, c4, B3.out.next hb10, HP3.out.below hb10⟩, fun _ => HMQ.out (by first | rfl | trivial)⟩, HG3.out.trans (hb10.mono (Nat.le_of_lt lV))⟩
    ·have HL0 := h_ (show LS = (sayW wBad ((at_ : Nat) : Int), ⟨p, t, th⟩) by rw [HL.out, if_neg h0])
     have hz0 : (code != 0) = true := by simpa using h0
     have lV := BV.out.lt
     have HAL := h_ ((Below.refl (V).heap.size V).alloc (Nat.le_refl _) (.cells #[.int .i64 ((at_ : Nat) : Int)] 3))
     have HSY := h_ (say_bad (V).heap.size ((at_ : Nat) : Int) ((V).alloc (.cells #[.int .i64 ((at_ : Nat) : Int)] 3)) (cell_new1 _ _ _) (by have := HAT.out; omega) ((HTV.out).below HAL.out))
     go_wp2_with (go_at_call 28; refine HSY.out.mono ?_; rintro e w9 ⟨rfl, hb9⟩)
     go_ret
     have hb10 : Below (V).heap.size V w9 := HAL.out.trans (hb9.mono HAL.out.size)
     rw [HL0.out]
     exact ⟨rfl, ⟨⟨A, c, A2, c2, BV.out.next hb10, (HP.out.below HB.out).below hb10⟩, HMY.out⟩, HGV.out.trans (hb10.mono (Nat.le_of_lt lV))⟩
   ·have d3 : decide (s = wTake) = false := by simpa using h3
    have HSP := h_ (show Calls Tryz.prog 12 #[.string (bs s), .string { data := #[32] }] w fun e w' => ∃ A cap, e = .returned (.slice A (cutB 32 s).length cap) ∧ Sd w' A cap (cutB 32 s) ∧ Below w.heap.size w w' ∧ ∀ ad, A = some ad → w.heap.size ≤ ad.block from strings_Split s 32 w (by omega) (HK.out w (Below.refl _ _)).2.2)
    have HAS := h_ (fun (W : World) (hW : Below w.heap.size w W) (AW : Option Addr) (cW : Nat) (hS : Sd W AW cW (cutB 32 s)) => drive_asked g AW cW s W hS (by omega) (HK.out W (hW.mono (Nat.le_of_lt hlt))).1 (HK.out W (hW.mono (Nat.le_of_lt hlt))).2.1)
    have HL := h_ (show lineS swpS ⟨p, t, th⟩ s = (match numsR (cutB 32 s).tail with
     | none => ([63], ⟨p, t, th⟩)
     | some l => match askS swpS p s l with
      | none => ([63], ⟨p, t, th⟩)
      | some o => (if th = true then o else wNone, ⟨p, t, th⟩)) by unfold lineS; rw [if_neg h1, if_neg h2, if_neg h3]; rfl)
    obtain ⟨LS, hLS⟩ : ∃ LS, lineS swpS ⟨p, t, th⟩ s = LS := ⟨_, rfl⟩
    rw [hLS] at HL ⊢
    clear hLS h1 h2 h3
    unfold RetLi
    go_enter Tryz.func13, Tryz.ntmps13
    go_upto_region 16 with (first
     | (go_at_call 27; refine HCP.out.mono ?_; rintro e w1 ⟨rfl, hw1⟩; rw [hw1]; clear hw1)
     | (go_at_call 12; refine HSP.out.mono ?_; rintro e w2 ⟨AW, cW, rfl, hS2, hb2, _⟩)
     | (go_at_call 29; refine (HAS.out _ hb2 AW cW hS2).mono ?_; rintro e w3 ⟨fv, ok, rfl, hb3, hor⟩))
    have HB3 := h_ (hb2.trans (hb3.mono hb2.size))
    have B3 := h_ (B.out.next HB3.out)
    have HP3 := h_ (HP.out.below HB3.out)
    have HG3 := h_ (HB3.out.mono (Nat.le_of_lt hlt))
    have HT3 := h_ (HK.out w3 HG3.out).1
    have k3 : w3.cell? ⟨g, 3, none⟩ = some (.bool th) := B3.out.cell 3
    have l3 := B3.out.lt
    clear c0 c1 k2 f0 f1 f2 f3 hS2 hb2 hb3
    rcases hor with ⟨rfl, hno⟩ | ⟨rfl, l, k, hn, hk, hf⟩
    ·have HL0 := h_ (show LS = ([63], ⟨p, t, th⟩) by
       rw [HL.out]
       rcases hno with hno | hno
       ·rw [hno]
       ·cases numsR (cutB 32 s).tail with
        | none => rfl
        | some l => simp only [askS_eq, hno, Option.map_none])
     clear hno
     go_wp2_with fail
     go_ret
     rw [HL0.out]
     exact ⟨rfl, ⟨⟨A, c, A2, c2, B3.out, HP3.out⟩, HMY.out⟩, HG3.out⟩
    ·have HL0 := h_ (show LS = (if th = true then ansK p l k else wNone, ⟨p, t, th⟩) by
       rw [HL.out, hn]
       simp only [askS_eq, hk, Option.map_some])
     have HF := h_ hf
     clear hn hk hf
     cases th with
     | false =>
      have HL1 := h_ (show LS = (wNone, ⟨p, t, false⟩) from HL0.out)
      go_wp2_with fail
      go_ret
      rw [HL1.out]
      exact ⟨rfl, ⟨⟨A, c, A2, c2, B3.out, HP3.out⟩, HMY.out⟩, HG3.out⟩
     | true =>
      have HL1 := h_ (show LS = (ansK p l k, ⟨p, t, true⟩) from HL0.out)
      have HM := h_ (HMY.out rfl)
      rcases HF.out with ⟨rfl, rfl⟩ | ⟨rfl, q, rfl, hq⟩ | ⟨q1, q2, C, cc, m, rfl, hq1, hq2, hrd, hkm⟩
      ·have HD := h_ (drive_solve g A c A2 c2 p (.string (bs t)) (.bool true) w3 B3.out HP3.out HM.out HT3.out)
       unfold RetS at HD
       go_wp2_with (go_at_call 71; refine HD.out.mono ?_; rintro e w9 ⟨rfl, hb9⟩)
       go_ret
       rw [HL1.out]
       exact ⟨rfl, ⟨⟨A, c, A2, c2, B3.out.next hb9, HP3.out.below hb9⟩, fun _ => HM.out⟩, HG3.out.trans (hb9.mono (Nat.le_of_lt l3))⟩
      ·have HD := h_ (drive_show q g A c A2 c2 p (.string (bs t)) (.bool true) w3 hq B3.out HP3.out HM.out HT3.out)
       unfold RetS at HD
       go_wp2_with (go_at_call 72; refine HD.out.mono ?_; rintro e w9 ⟨rfl, hb9⟩)
       go_ret
       rw [HL1.out]
       exact ⟨rfl, ⟨⟨A, c, A2, c2, B3.out.next hb9, HP3.out.below hb9⟩, fun _ => HM.out⟩, HG3.out.trans (hb9.mono (Nat.le_of_lt l3))⟩
      ·rcases hkm with ⟨rfl, rfl⟩ | ⟨rfl, rfl⟩ | ⟨rfl, rfl⟩
       ·have HD := h_ (do_look g q1 q2 A c A2 c2 p (.string (bs t)) (.bool true) C l cc w3 hq1 hq2 B3.out HP3.out hrd HT3.out)
        unfold RetS at HD
        go_wp2_with (go_at_call 70; refine HD.out.mono ?_; rintro e w9 ⟨rfl, hb9⟩)
        go_ret
        rw [HL1.out]
        exact ⟨rfl, ⟨⟨A, c, A2, c2, B3.out.next hb9, HP3.out.below hb9⟩, fun _ => HM.out⟩, HG3.out.trans (hb9.mono (Nat.le_of_lt l3))⟩
       ·have HD := h_ (do_walk g q1 q2 A c A2 c2 p (.string (bs t)) (.bool true) C l cc w3 hq1 hq2 B3.out HP3.out hrd HT3.out)
        unfold RetS at HD
        go_wp2_with (go_at_call 70; refine HD.out.mono ?_; rintro e w9 ⟨rfl, hb9⟩)
        go_ret
        rw [HL1.out]
        exact ⟨rfl, ⟨⟨A, c, A2, c2, B3.out.next hb9, HP3.out.below hb9⟩, fun _ => HM.out⟩, HG3.out.trans (hb9.mono (Nat.le_of_lt l3))⟩
       ·have HD := h_ (do_sweep g q1 q2 A c A2 c2 p (.string (bs t)) (.bool true) C l cc w3 hq1 hq2 B3.out HP3.out hrd HT3.out)
        unfold RetS at HD
        go_wp2_with (go_at_call 70; refine HD.out.mono ?_; rintro e w9 ⟨rfl, hb9⟩)
        go_ret
        rw [HL1.out]
        exact ⟨rfl, ⟨⟨A, c, A2, c2, B3.out.next hb9, HP3.out.below hb9⟩, fun _ => HM.out⟩, HG3.out.trans (hb9.mono (Nat.le_of_lt l3))⟩
end Go.Proofs.YtjcdkbalhleeeaaGreatDoor

namespace Go.Proofs.YtjcdkbalhleeeaaGreatDoor
open Go.Proofs Go.RowKit
open Go.Lib (itoa join)
theorem say_len (w : List UInt8) (n : Int) (hw : w.length ≤ 20) (h : -9223372036854775808 ≤ n ∧ n ≤ 9223372036854775807) : (sayW w n).length ≤ 50 := by
 have := itoa_len h.1 h.2
 unfold sayW
 simp only [List.length_append, List.length_cons]
 omega
theorem swpS_len (p : PG) (b : List Int) : (swpS p b).length ≤ 24000 := by
 unfold swpS
 split
 ·rename_i h
  have h1 := swpK_len (swp_len p b) (swp_small h) (swpL p b).length (Nat.le_refl _)
  have h2 := swp_len p b
  unfold swpK at h1
  rw [List.take_length] at h1
  unfold pieS at h1
  omega
 ·have := say_len wBad (swpE p b) (by decide) (by have := swpE_small p b; omega)
  omega
theorem ansK_len {p : PG} (hm : mayPB p = true) (l : List Int) (k : Nat) : (ansK p l k).length ≤ 24000 := by
 rcases k with _ | _ | _ | _ | k
 ·show (solS p).length ≤ _
  unfold solS
  split
  ·rename_i h
   obtain ⟨h1, h2⟩ := sol_bound h
   have e1 := itoa_len (n := (solZ p).wn) (by omega) h1.2
   have e2 := itoa_len (n := (solZ p).wd) (by omega) h2.2
   simp only [List.length_append, List.length_cons, frcW, wBest, List.length_nil]
   omega
  ·split
   ·decide
   ·decide
 ·show (shoS p).length ≤ _
  have htl : (textF p).length ≤ 1000000 := by
   have := rowsT_len hm p.rows.length (Nat.le_refl _)
   have h4 := mayPB_iff.1 hm
   have := costT_len h4.2.2.2.2.1 h4.2.1
   unfold textF
   rw [List.take_length] at *
   rw [List.length_append]
   omega
  have := itoa_len (n := ((textF p).length : Nat)) (by omega) (by omega)
  unfold shoS
  omega
 ·show (lokS p l).length ≤ _
  unfold lokS
  split
  ·have := (wth_small p l).2.2
   split <;> (simp only [List.length_append, List.length_cons, wGoes, wNot, List.length_nil]; omega)
  ·have := say_len wBad (lookE p l) (by decide) (by have := lookE_small p l; omega)
   omega
 ·show (wlkS p l).length ≤ _
  rw [wlkS_eq]
  have hn := wlkN_small p l
  split
  ·split
   ·have := say_len wBest ((wlkN p l : Nat) : Int) (by decide) (by omega); omega
   ·have := say_len wEndless ((wlkN p l : Nat) : Int) (by decide) (by omega); omega
  ·have := say_len wBad (nextE p l) (by decide) (by have := nextE_small p l; omega)
   omega
 ·exact swpS_len p l
theorem line_len {st : PlS} {s : List UInt8} (hmay : st.there = true → mayPB st.p = true) (hs : s.length ≤ 4194304) (hT : st.t.length ≤ 1000000000) :
    (lineS swpS st s).1.length ≤ 24000 ∧ (lineS swpS st s).2.t.length ≤ st.t.length + (s.length + 1) := by
 unfold lineS
 split
 ·have hl : (st.t ++ (s.drop 2 ++ [10])).length ≤ st.t.length + (s.length + 1) := by
    simp only [List.length_append, List.length_drop, List.length_cons, List.length_nil]; omega
  refine ⟨?_, hl⟩
  have := say_len wOk ((st.t ++ (s.drop 2 ++ [10])).length : Nat) (by decide) (by omega)
  show (sayW wOk _).length ≤ _
  omega
 ·split
  ·exact ⟨by show wOk.length ≤ _; decide, by simp⟩
  ·split
   ·have hat := par_at st.t
    split
    ·rename_i h
     have hr := mayPB_iff.1 (text_par (s := st.t) h).1
     refine ⟨?_, by simp⟩
     have := say_len wOk ((parF st.t).1.rows.length : Nat) (by decide) (by omega)
     show (sayW wOk _).length ≤ _
     omega
    ·refine ⟨?_, by simp⟩
     have := say_len wBad ((parF st.t).2.2 : Nat) (by decide) (by omega)
     show (sayW wBad _).length ≤ _
     omega
   ·split
    ·exact ⟨by show ([63] : List UInt8).length ≤ _; decide, by simp⟩
    ·rename_i l _
     rw [askS_eq]
     cases askK s with
     | none => exact ⟨by show ([63] : List UInt8).length ≤ _; decide, by simp⟩
     | some k =>
      refine ⟨?_, by simp⟩
      show (if st.there = true then ansK st.p l k else wNone).length ≤ _
      split
      ·rename_i h
       exact ansK_len (hmay h) l k
      ·decide
def foldK (L : List (List UInt8)) (k : Nat) : List UInt8 × PlS := (L.take k).foldl (stepS swpS) begS
theorem foldK_succ {L : List (List UInt8)} {k : Nat} (hk : k < L.length) : foldK L (k + 1) = ((foldK L k).1 ++ ((lineS swpS (foldK L k).2 L[k]).1 ++ [10]), (lineS swpS (foldK L k).2 L[k]).2) := by
 unfold foldK
 rw [List.take_succ_eq_append_getElem hk, List.foldl_append]
 rfl
theorem last_at {l : List (List UInt8)} {m : Nat} (h : l.length = m + 1) : l.getLastD [] = l[m]'(by omega) := by
 rw [List.getLastD_eq_getLast?, List.getLast?_eq_getElem?]
 simp only [show l.length - 1 = m by omega, List.getElem?_eq_getElem (show m < l.length by omega)]
 rfl
theorem take_min {l : List (List UInt8)} {n1 n2 : Nat} (h : l.length = n1) (h2 : min n1 60 = n2) : l.take 60 = l.take n2 := by
 by_cases h6 : n1 ≤ 60
 ·rw [List.take_of_length_le (by omega), List.take_of_length_le (by omega)]
 ·rw [show n2 = 60 by omega]
set_option maxRecDepth 100000 in
set_option maxHeartbeats 4000000 in
theorem drive_Play (s : List UInt8) (w : World) (hs : s.length ≤ 4194304) (ht : Tab w) (he : Errs w) (hm : MaxL w) :
    Calls Tryz.prog 7 #[.string (bs s)] w (RetS w (playS swpS s)) := by
 have HSP := h_ (show Calls Tryz.prog 12 #[.string (bs s), .string { data := #[10] }] w fun e w' => ∃ A cap, e = .returned (.slice A (cutB 10 s).length cap) ∧ Sd w' A cap (cutB 10 s) ∧ Below w.heap.size w w' ∧ ∀ ad, A = some ad → w.heap.size ≤ ad.block from strings_Split s 10 w (by omega) hm)
 have HK := h_ (fun (W : World) (hW : Below w.heap.size w W) => (⟨ht.below hW, he.below hW, hm.below hW⟩ : Tab W ∧ Errs W ∧ MaxL W))
 have HPW := h_ (fun (x : List UInt8) (hx : x ∈ cutB 10 s) => cut_parts x hx)
 obtain ⟨m, hmm⟩ : ∃ m, (cutB 10 s).length = m + 1 := ⟨(cutB 10 s).length - 1, by have := List.length_pos_iff.2 (cutB_ne 10 s); omega⟩
 have hcw := cut_small (c := 10) (s := s)
 rw [hmm] at HSP hcw
 obtain ⟨S, hSd⟩ : ∃ S, playS swpS s = S := ⟨_, rfl⟩
 have HSS := h_ (show S = (foldK (linesS s) (linesS s).length).1 by rw [← hSd]; unfold playS foldK; rw [List.take_length])
 rw [hSd]
 unfold RetS
 clear hSd ht he hm
 go_enter Tryz.func7, Tryz.ntmps7
 go_upto_region 2 with (go_at_call 12; refine HSP.out.mono ?_; rintro e X ⟨AW, cW, rfl, hSX, hbX, _⟩)
 have HSX := h_ hSX
 have HX := h_ hbX
 have zX := hbX.size
 obtain ⟨aw, e1, hw0⟩ := HSX.out.at_ (k := m) (by omega)
 subst e1
 obtain ⟨hSle, hScap, _⟩ := HSX.out
 rw [hmm] at hSle
 have hw0' : X.cell? (aw.add m) = some (.string (bs ((cutB 10 s)[m]'(by omega)))) := hw0
 have hq0 : ((bs ((cutB 10 s)[m]'(by omega))).toList == []) = decide ((cutB 10 s)[m]'(by omega) = []) := by rw [bs_list]; exact Bool.beq_eq_decide_eq _ _
 have hgl : (cutB 10 s).getLastD [] = (cutB 10 s)[m]'(by omega) := last_at hmm
 clear hSX hbX hw0
 by_cases hlast : (cutB 10 s)[m]'(by omega) = []
 ·rw [decide_eq_true hlast] at hq0
  obtain ⟨hrun, hS1⟩ := HSX.out.to_run hmm m (by omega)
  obtain ⟨L1, hL⟩ : ∃ L1, (cutB 10 s).take m = L1 := ⟨_, rfl⟩
  have HLI := h_ (show linesS s = L1.take 60 by unfold linesS; rw [hgl, if_pos hlast, List.dropLast_eq_take, hmm, ← hL]; rfl)
  have HLP := h_ (show ∀ x ∈ L1, x.length ≤ s.length from fun x hx => HPW.out x (by rw [← hL] at hx; exact List.mem_of_mem_take hx))
  have hL1 : L1.length = m := by rw [← hL, List.length_take]; omega
  rw [hL] at hS1
  have HS1 := h_ hS1
  clear hS1 hL hlast hgl HSX
  generalize (cutB 10 s)[m]'(by omega) = lst at *
  go_upto_region 4 with fail
  clear hw0' hq0
  have hn1c : m ≤ cW := by omega
  have HLS := h_ (take_min hL1 (rfl : min (m) 60 = min (m) 60))
  obtain ⟨n2, hn2⟩ : ∃ n2, min (m) 60 = n2 := ⟨_, rfl⟩
  rw [hn2] at HLS
  have hmn : (if (60 : Int) < (m : Int) then (60 : Int) else (m : Int)) = (n2 : Int) := by split <;> omega
  have hmx : min (m : Int) 60 = (n2 : Int) := by omega
  have hn60 : n2 ≤ 60 := by omega
  have hn2c : n2 ≤ cW := by omega
  obtain ⟨hrun2, hS2⟩ := HS1.out.to_run hL1 n2 (by omega)
  have HS2 := h_ hS2
  have hll : (L1.take n2).length = n2 := by rw [List.length_take]; omega
  obtain ⟨LL, hLL⟩ : ∃ LL, L1.take n2 = LL := ⟨_, rfl⟩
  rw [hLL] at HS2 HLS hll
  have HLL := h_ hll
  have HLX := h_ (show ∀ x ∈ LL, x.length ≤ s.length from fun x hx => HLP.out x (by rw [← hLL] at hx; exact List.mem_of_mem_take hx))
  rw [HLI.out, HLS.out, hll] at HSS
  clear hn2 hS2 hll hLL HLS
  go_upto_region 7 with fail
  clear hmn hmx hrun2
  try clear hrun
  have BX := h_ (Blk.mk' X 46 #[.slice none 0 0, .slice none 0 0, .string { data := #[] }, .bool false])
  have HV := h_ ((Below.refl X.heap.size X).alloc (Nat.le_refl _) (.cells #[.slice none 0 0, .slice none 0 0, .string { data := #[] }, .bool false] 46))
  obtain ⟨V, hV⟩ : ∃ V, X.alloc (.cells #[.slice none 0 0, .slice none 0 0, .string { data := #[] }, .bool false] 46) = V := ⟨_, rfl⟩
  rw [hV] at BX HV ⊢
  clear hV
  obtain ⟨g, hg⟩ : ∃ g, X.heap.size = g := ⟨_, rfl⟩
  have HG := h_ hg
  rw [hg] at BX ⊢
  have hwg : w.heap.size ≤ g := by omega
  clear hg
  have HP0 := h_ (show PlB V g begS.2 from ⟨⟨none, 0, none, 0, BX.out, Pg.nil V⟩, fun h => by cases h⟩)
  go_loopw [5, 30] (fun s5 s30 wx => ∃ k : Nat, k ≤ n2 ∧ s30 = .int .i64 k ∧ s5 = .string (bs (foldK LL k).1) ∧ PlB wx g (foldK LL k).2 ∧ (foldK LL k).1.length ≤ k * 24001 ∧ (foldK LL k).2.t.length ≤ k * (s.length + 1) ∧ Below X.heap.size X wx) (fun _ s30 _ => n2 - (intOf s30).toNat)
  case atStart => exact ⟨0, by omega, rfl, rfl, HP0.out, by simp [foldK, begS], by simp [foldK, begS], HV.out⟩
  case round =>
   obtain ⟨k, hk, rfl, rfl, hpl, hl1, hl2, hbe⟩ := hrel
   rename World => Y
   have HPL := h_ hpl
   have HY := h_ hbe
   have HWY := h_ (HX.out.trans (hbe.mono zX))
   have HSY := h_ (HS2.out.below hbe)
   clear hpl hbe
   by_cases hlt : k < n2
   ·have hkL : k < LL.length := by rw [HLL.out]; exact hlt
    obtain ⟨ad, e1, hcl⟩ := HSY.out.at_ hkL
    injection e1 with e1
    subst e1
    have hlx := HLX.out _ (List.getElem_mem hkL)
    have HFS := h_ (foldK_succ hkL)
    have hcl' : Y.cell? (aw.add k) = some (.string (bs LL[k])) := hcl
    clear hcl
    obtain ⟨x, hx⟩ : ∃ x, LL[k] = x := ⟨_, rfl⟩
    rw [hx] at hlx HFS hcl'
    clear hx hkL
    obtain ⟨st, hst⟩ : ∃ st, (foldK LL k).2 = st := ⟨_, rfl⟩
    rw [hst] at HFS HPL hl2
    obtain ⟨O, hO⟩ : ∃ O, (foldK LL k).1 = O := ⟨_, rfl⟩
    rw [hO] at HFS hl1 ⊢
    clear hst hO
    have hk60 : k * (s.length + 1) ≤ 60 * (s.length + 1) := Nat.mul_le_mul_right _ (by omega)
    have hst9 : st.t.length ≤ 1000000000 := by omega
    have hLN := line_len (s := x) HPL.out.may (by omega) hst9
    have HLI2 := h_ (drive_line g st x Y HPL.out (by omega) hst9 (fun W hW => HK.out W (HWY.out.trans (hW.mono hwg))))
    obtain ⟨⟨a1, st1⟩, hr⟩ : ∃ r, lineS swpS st x = r := ⟨_, rfl⟩
    rw [hr] at hLN HLI2 HFS
    simp only at hLN HFS
    have HFS2 := h_ (show (foldK LL (k + 1)).1 = O ++ (a1 ++ [10]) ∧ (foldK LL (k + 1)).2 = st1 by rw [HFS.out]; exact ⟨rfl, rfl⟩)
    have q1 : ∀ W, (Op.stringOp .add (bs a1) { data := #[10] }).run Tryz.prog W = .ok (.string (bs (a1 ++ [10]))) W := fun W => run_add _ [10] (by simp only [List.length_cons, List.length_nil]; omega) W
    have q2 : ∀ W, (Op.stringOp .add (bs O) (bs (a1 ++ [10]))).run Tryz.prog W = .ok (.string (bs (O ++ (a1 ++ [10])))) W := fun W => run_add _ _ (by rw [List.length_append]; simp only [List.length_cons, List.length_nil]; omega) W
    have hi0 : (k : Int) < (n2 : Int) := by omega
    have hk1 : (k + 1) * (s.length + 1) = k * (s.length + 1) + (s.length + 1) := Nat.succ_mul _ _
    obtain ⟨hLN1, hLN2⟩ := hLN
    unfold RetLi at HLI2
    simp only at HLI2
    clear hr HFS hk60
    go_wp2_with (go_at_call 13; refine HLI2.out.mono ?_; rintro e Y2 ⟨rfl, hp2, hb2⟩)
    have HB2 := h_ hb2
    have HP2 := h_ hp2
    clear hb2 hp2
    go_roundw
    case rel =>
     refine ⟨k + 1, by omega, by go_num, by rw [HFS2.out.1], by rw [HFS2.out.2]; exact HP2.out, ?_, ?_, HY.out.trans (HB2.out.mono (Nat.le_of_eq HG.out))⟩
     ·rw [HFS2.out.1]; simp only [List.length_append, List.length_cons, List.length_nil]; omega
     ·rw [HFS2.out.2]; omega
    case measure => simp [intOf]; omega
   ·have hkn : k = n2 := by omega
    subst hkn
    go_wp2_with fail
    go_ret
    exact ⟨by rw [HSS.out]; rfl, HWY.out⟩
 ·rw [decide_eq_false hlast] at hq0
  obtain ⟨L1, hL⟩ : ∃ L1, cutB 10 s = L1 := ⟨_, rfl⟩
  have HLI := h_ (show linesS s = L1.take 60 by unfold linesS; rw [hgl, if_neg hlast, hL])
  have HLP := h_ (show ∀ x ∈ L1, x.length ≤ s.length from fun x hx => HPW.out x (by rw [hL]; exact hx))
  have hL1 : L1.length = m + 1 := by rw [← hL]; exact hmm
  have HS1 := h_ (show Sd X (some aw) cW L1 by rw [← hL]; exact HSX.out)
  clear hlast hgl HSX
  generalize (cutB 10 s)[m]'(by omega) = lst at *
  clear hL
  go_upto_region 4 with fail
  clear hw0' hq0
  have hn1c : m + 1 ≤ cW := by omega
  have HLS := h_ (take_min hL1 (rfl : min (m + 1) 60 = min (m + 1) 60))
  obtain ⟨n2, hn2⟩ : ∃ n2, min (m + 1) 60 = n2 := ⟨_, rfl⟩
  rw [hn2] at HLS
  have hmn : (if (60 : Int) < ((m : Int) + 1) then (60 : Int) else ((m : Int) + 1)) = (n2 : Int) := by split <;> omega
  have hmx : min ((m : Int) + 1) 60 = (n2 : Int) := by omega
  have hn60 : n2 ≤ 60 := by omega
  have hn2c : n2 ≤ cW := by omega
  obtain ⟨hrun2, hS2⟩ := HS1.out.to_run hL1 n2 (by omega)
  have HS2 := h_ hS2
  have hll : (L1.take n2).length = n2 := by rw [List.length_take]; omega
  obtain ⟨LL, hLL⟩ : ∃ LL, L1.take n2 = LL := ⟨_, rfl⟩
  rw [hLL] at HS2 HLS hll
  have HLL := h_ hll
  have HLX := h_ (show ∀ x ∈ LL, x.length ≤ s.length from fun x hx => HLP.out x (by rw [← hLL] at hx; exact List.mem_of_mem_take hx))
  rw [HLI.out, HLS.out, hll] at HSS
  clear hn2 hS2 hll hLL HLS
  go_upto_region 7 with fail
  clear hmn hmx hrun2
  try clear hrun
  have BX := h_ (Blk.mk' X 46 #[.slice none 0 0, .slice none 0 0, .string { data := #[] }, .bool false])
  have HV := h_ ((Below.refl X.heap.size X).alloc (Nat.le_refl _) (.cells #[.slice none 0 0, .slice none 0 0, .string { data := #[] }, .bool false] 46))
  obtain ⟨V, hV⟩ : ∃ V, X.alloc (.cells #[.slice none 0 0, .slice none 0 0, .string { data := #[] }, .bool false] 46) = V := ⟨_, rfl⟩
  rw [hV] at BX HV ⊢
  clear hV
  obtain ⟨g, hg⟩ : ∃ g, X.heap.size = g := ⟨_, rfl⟩
  have HG := h_ hg
  rw [hg] at BX ⊢
  have hwg : w.heap.size ≤ g := by omega
  clear hg
  have HP0 := h_ (show PlB V g begS.2 from ⟨⟨none, 0, none, 0, BX.out, Pg.nil V⟩, fun h => by cases h⟩)
  go_loopw [5, 30] (fun s5 s30 wx => ∃ k : Nat, k ≤ n2 ∧ s30 = .int .i64 k ∧ s5 = .string (bs (foldK LL k).1) ∧ PlB wx g (foldK LL k).2 ∧ (foldK LL k).1.length ≤ k * 24001 ∧ (foldK LL k).2.t.length ≤ k * (s.length + 1) ∧ Below X.heap.size X wx) (fun _ s30 _ => n2 - (intOf s30).toNat)
  case atStart => exact ⟨0, by omega, rfl, rfl, HP0.out, by simp [foldK, begS], by simp [foldK, begS], HV.out⟩
  case round =>
   obtain ⟨k, hk, rfl, rfl, hpl, hl1, hl2, hbe⟩ := hrel
   rename World => Y
   have HPL := h_ hpl
   have HY := h_ hbe
   have HWY := h_ (HX.out.trans (hbe.mono zX))
   have HSY := h_ (HS2.out.below hbe)
   clear hpl hbe
   by_cases hlt : k < n2
   ·have hkL : k < LL.length := by rw [HLL.out]; exact hlt
    obtain ⟨ad, e1, hcl⟩ := HSY.out.at_ hkL
    injection e1 with e1
    subst e1
    have hlx := HLX.out _ (List.getElem_mem hkL)
    have HFS := h_ (foldK_succ hkL)
    have hcl' : Y.cell? (aw.add k) = some (.string (bs LL[k])) := hcl
    clear hcl
    obtain ⟨x, hx⟩ : ∃ x, LL[k] = x := ⟨_, rfl⟩
    rw [hx] at hlx HFS hcl'
    clear hx hkL
    obtain ⟨st, hst⟩ : ∃ st, (foldK LL k).2 = st := ⟨_, rfl⟩
    rw [hst] at HFS HPL hl2
    obtain ⟨O, hO⟩ : ∃ O, (foldK LL k).1 = O := ⟨_, rfl⟩
    rw [hO] at HFS hl1 ⊢
    clear hst hO
    have hk60 : k * (s.length + 1) ≤ 60 * (s.length + 1) := Nat.mul_le_mul_right _ (by omega)
    have hst9 : st.t.length ≤ 1000000000 := by omega
    have hLN := line_len (s := x) HPL.out.may (by omega) hst9
    have HLI2 := h_ (drive_line g st x Y HPL.out (by omega) hst9 (fun W hW => HK.out W (HWY.out.trans (hW.mono hwg))))
    obtain ⟨⟨a1, st1⟩, hr⟩ : ∃ r, lineS swpS st x = r := ⟨_, rfl⟩
    rw [hr] at hLN HLI2 HFS
    simp only at hLN HFS
    have HFS2 := h_ (show (foldK LL (k + 1)).1 = O ++ (a1 ++ [10]) ∧ (foldK LL (k + 1)).2 = st1 by rw [HFS.out]; exact ⟨rfl, rfl⟩)
    have q1 : ∀ W, (Op.stringOp .add (bs a1) { data := #[10] }).run Tryz.prog W = .ok (.string (bs (a1 ++ [10]))) W := fun W => run_add _ [10] (by simp only [List.length_cons, List.length_nil]; omega) W
    have q2 : ∀ W, (Op.stringOp .add (bs O) (bs (a1 ++ [10]))).run Tryz.prog W = .ok (.string (bs (O ++ (a1 ++ [10])))) W := fun W => run_add _ _ (by rw [List.length_append]; simp only [List.length_cons, List.length_nil]; omega) W
    have hi0 : (k : Int) < (n2 : Int) := by omega
    have hk1 : (k + 1) * (s.length + 1) = k * (s.length + 1) + (s.length + 1) := Nat.succ_mul _ _
    obtain ⟨hLN1, hLN2⟩ := hLN
    unfold RetLi at HLI2
    simp only at HLI2
    clear hr HFS hk60
    go_wp2_with (go_at_call 13; refine HLI2.out.mono ?_; rintro e Y2 ⟨rfl, hp2, hb2⟩)
    have HB2 := h_ hb2
    have HP2 := h_ hp2
    clear hb2 hp2
    go_roundw
    case rel =>
     refine ⟨k + 1, by omega, by go_num, by rw [HFS2.out.1], by rw [HFS2.out.2]; exact HP2.out, ?_, ?_, HY.out.trans (HB2.out.mono (Nat.le_of_eq HG.out))⟩
     ·rw [HFS2.out.1]; simp only [List.length_append, List.length_cons, List.length_nil]; omega
     ·rw [HFS2.out.2]; omega
    case measure => simp [intOf]; omega
   ·have hkn : k = n2 := by omega
    subst hkn
    go_wp2_with fail
    go_ret
    exact ⟨by rw [HSS.out]; rfl, HWY.out⟩
end Go.Proofs.YtjcdkbalhleeeaaGreatDoor

namespace Go.Proofs.YtjcdkbalhleeeaaGreatDoor
open Go.Proofs Go.RowKit
open Go.Lib (itoa join)
def wdK (wd : List UInt8) : Nat := if wd = wSolve then 0 else if wd = wShow then 1 else if wd = wLook then 2 else if wd = wWalk then 3 else 4
theorem said_bad (n : Int) (w : World) (h : -9223372036854775807 ≤ n ∧ n ≤ 9223372036854775807) : Calls Tryz.prog 8 #[.string { data := #[98, 97, 100] }, .int .i64 n] w (RetS w (sayW wBad n)) := keep_said wBad n w h.1 h.2 (by decide)
theorem said_best (n : Int) (w : World) (h : -9223372036854775807 ≤ n ∧ n ≤ 9223372036854775807) : Calls Tryz.prog 8 #[.string { data := #[98, 101, 115, 116] }, .int .i64 n] w (RetS w (sayW wBest n)) := keep_said wBest n w h.1 h.2 (by decide)
theorem said_endless (n : Int) (w : World) (h : -9223372036854775807 ≤ n ∧ n ≤ 9223372036854775807) : Calls Tryz.prog 8 #[.string { data := #[101, 110, 100, 108, 101, 115, 115] }, .int .i64 n] w (RetS w (sayW wEndless n)) := keep_said wEndless n w h.1 h.2 (by decide)
theorem said_ok (n : Int) (w : World) (h : -9223372036854775807 ≤ n ∧ n ≤ 9223372036854775807) : Calls Tryz.prog 8 #[.string { data := #[111, 107] }, .int .i64 n] w (RetS w (sayW wOk n)) := keep_said wOk n w h.1 h.2 (by decide)
set_option maxRecDepth 100000 in
set_option maxHeartbeats 8000000 in
theorem keep_asked (g : Nat) (A : Option Addr) (c : Nat) (A2 : Option Addr) (c2 : Nat) (p : PG) (t3 t4 : Value) (wd : List UInt8) (B : Option Addr) (l : List Int) (cb : Nat) (w : World) (hbk : Blk w g 30 #[.slice A p.costs.length c, .slice A2 p.rows.length c2, t3, t4]) (hp : Pg w A c A2 c2 p) (hm : mayPB p = true) (hr : Rd w B cb l) (ht : Tab w) :
    Calls Tryz.prog 11 #[.pointer (some ⟨g, 0, none⟩), .string (bs wd), .slice B l.length cb] w (RetS w (ansK p l (wdK wd))) := by
 have HBK := h_ hbk
 have HP := h_ hp
 have HM := h_ hm
 have HR := h_ hr
 have HT := h_ ht
 obtain ⟨hl, hc, hs, _⟩ := hr
 have s1 : ((bs wd).toList == [115, 111, 108, 118, 101]) = decide (wd = wSolve) := by rw [bs_list]; exact Bool.beq_eq_decide_eq _ _
 have s2 : ((bs wd).toList == [115, 104, 111, 119]) = decide (wd = wShow) := by rw [bs_list]; exact Bool.beq_eq_decide_eq _ _
 have s3 : ((bs wd).toList == [108, 111, 111, 107]) = decide (wd = wLook) := by rw [bs_list]; exact Bool.beq_eq_decide_eq _ _
 have s4 : ((bs wd).toList == [119, 97, 108, 107]) = decide (wd = wWalk) := by rw [bs_list]; exact Bool.beq_eq_decide_eq _ _
 have HKW := h_ (show wdK wd = if wd = wSolve then 0 else if wd = wShow then 1 else if wd = wLook then 2 else if wd = wWalk then 3 else 4 from rfl)
 obtain ⟨S, hSd⟩ : ∃ S, ansK p l (wdK wd) = S := ⟨_, rfl⟩
 have HS := h_ hSd
 rw [hSd]
 unfold RetS
 have hlt := hbk.lt
 clear hSd hbk hp hm ht
 go_enter Tryz.func11, Tryz.ntmps11
 go_wp2_with fail
 go_loopw [7, 8] (fun o i wx => ∃ k : Nat, k ≤ l.length ∧ i = .int .i64 k ∧ wx.ownsRow w.heap.size 3 1 o k ((l.take k).map (Value.int .i64)) ∧ Below w.heap.size w wx) (fun _ i _ => l.length - (intOf i).toNat)
 case atStart => exact ⟨0, by omega, rfl, World.ownsRow_nil _ _ _ _, Below.refl _ _⟩
 case round =>
  obtain ⟨k, hk, rfl, hown, hbel⟩ := hrel
  rename World => U
  have HB := h_ hbel
  have HO := h_ hown
  have zB := hbel.size
  clear hown hbel
  by_cases hlt : k < l.length
  ·obtain ⟨ad, rfl, hcl⟩ := (HR.out.below HB.out).at_ hlt
   have hi0 : (k : Int) < (l.length : Int) := by omega
   have HTK := h_ (show (l.take (k + 1)).map (Value.int .i64) = (l.take k).map (Value.int .i64) ++ [.int .i64 l[k]] by rw [List.take_succ_eq_append_getElem hlt, List.map_append]; rfl)
   generalize l[k] = n at *
   go_wp2_with (at_builtin; refine list_app1 rfl (.tmp 29) (.tmp 34) 51 3 (.int .i64 0) 8 und_intsD inf_intD rfl rfl w.heap.size _ k _ (.int .i64 n) rfl (own_below HO.out ((Below.refl _ _).alloc (Nat.le_refl _) _)) _ 1 rfl (cell_new1 _ _ _) rfl (by unfold maxLen; omega) (by omega) (by simp; omega) ?_; intro g' cap w5 hown5 hg5 hat5 hlt5)
   go_roundw
   case rel => exact ⟨k + 1, by omega, by go_num, by rw [HTK.out]; exact hown5, (HB.out.alloc zB _).grown hg5 (by simp; omega) (own_ge HO.out (Nat.le_refl _))⟩
   case measure => simp [intOf]; omega
  ·obtain rfl : k = l.length := by omega
   have hi0 : decide ((l.length : Int) < (l.length : Int)) = false := by simp
   rw [List.take_length] at HO
   obtain ⟨A5, c5, rfl, hrd, _⟩ := Rd.of_ownv HO.out rfl (by omega)
   have HRD := h_ hrd
   have BU := h_ (HBK.out.next HB.out)
   have HPU := h_ (HP.out.below HB.out)
   have HTU := h_ (HT.out.below HB.out)
   have HRU := h_ (HR.out.below HB.out)
   have p0 : U.cell? ⟨g, 0, none⟩ = some (.slice A p.costs.length c) := BU.out.cell 0
   have p1 : U.cell? ⟨g, 1, none⟩ = some (.slice A2 p.rows.length c2) := BU.out.cell 1
   have lU := BU.out.lt
   clear hrd HO
   by_cases h1 : wd = wSolve
   ·have d1 : decide (wd = wSolve) = true := by simpa using h1
    have HS1 := h_ (show S = solS p by rw [← HS.out, HKW.out, if_pos h1]; rfl)
    clear h1 HKW HS
    have hse : solEr p = 0 := by unfold solEr; rw [if_pos HM.out]
    have hsa : solA p = solZ p := by unfold solA; rw [if_pos HM.out]
    have HK := h_ (sol_all HM.out).2.2
    have HBD := h_ (sol_bound (p := p))
    have HSS := h_ (show S = if (solZ p).kind = 1 then wBest ++ 32 :: frcW (solZ p).wn (solZ p).wd else if (solZ p).kind = 2 then wEndless else wNothing from HS1.out)
    go_wp2_with fail
    refine (solve_Solve A c A2 c2 p U HPU.out).mono ?_
    rintro e w1 ⟨hb1, X, cx, Y, cy, R, cr, rfl, _⟩
    rw [hse, hsa]
    obtain ⟨an, han⟩ : ∃ an, solZ p = an := ⟨_, rfl⟩
    rw [han] at HK HSS HBD ⊢
    clear han hse hsa HS1
    obtain ⟨kd, xs, xd, ys, yd, rs, rd, wn, wd'⟩ := an
    have hk := HK.out
    simp only at hk HSS HBD ⊢
    have HK := h_ hk
    have HB1 := h_ (HB.out.trans (hb1.mono HB.out.size))
    have z1 := HB1.out.size
    have HT1 := h_ (HT.out.below HB1.out)
    unfold anV
    clear hb1 p0 p1 hk
    go_upto_region 9 with fail
    have BA := h_ (Blk.mk' w1 57 #[.int .i64 kd, .slice X xs.length cx, .int .i64 xd, .slice Y ys.length cy, .int .i64 yd, .slice R rs.length cr, .int .i64 rd, .int .i64 wn, .int .i64 wd'])
    have HV := h_ (HB1.out.alloc z1 (.cells #[.int .i64 kd, .slice X xs.length cx, .int .i64 xd, .slice Y ys.length cy, .int .i64 yd, .slice R rs.length cr, .int .i64 rd, .int .i64 wn, .int .i64 wd'] 57))
    generalize w1.heap.size = b1 at *
    generalize (w1.alloc (.cells #[.int .i64 kd, .slice X xs.length cx, .int .i64 xd, .slice Y ys.length cy, .int .i64 yd, .slice R rs.length cr, .int .i64 rd, .int .i64 wn, .int .i64 wd'] 57)) = V at *
    have a0 : V.cell? ⟨b1, 0, none⟩ = some (.int .i64 kd) := BA.out.cell 0
    have a7 : V.cell? ⟨b1, 7, none⟩ = some (.int .i64 wn) := BA.out.cell 7
    have a8 : V.cell? ⟨b1, 8, none⟩ = some (.int .i64 wd') := BA.out.cell 8
    rcases HK.out with rfl | rfl | rfl
    ·have hS1 : S = wBest ++ 32 :: frcW wn wd' := HSS.out
     have HFR := h_ (keep_fraction wn wd' V (HBD.out rfl).1 (HBD.out rfl).2)
     have hl1 := itoa_len (n := wn) (by have := (HBD.out rfl).1; omega) (HBD.out rfl).1.2
     have hl2 := itoa_len (n := wd') (by have := (HBD.out rfl).2; omega) (HBD.out rfl).2.2
     have ha : ∀ W, (Op.stringOp .add { data := #[98, 101, 115, 116, 32] } (bs (frcW wn wd'))).run Tryz.prog W = .ok (.string (bs S)) W := fun W => by
      rw [hS1, show wBest ++ 32 :: frcW wn wd' = [98, 101, 115, 116, 32] ++ frcW wn wd' from rfl]
      exact run_add _ _ (by simp [frcW]; omega) W
     clear hS1 hl1 hl2
     generalize bs (frcW wn wd') = t1 at *
     go_wp2_with (go_at_call 18; refine HFR.out.mono ?_; rintro e w2 ⟨rfl, hb2⟩)
     go_ret
     exact ⟨rfl, HV.out.trans (hb2.mono HV.out.size)⟩
    ·have HS2 := h_ (show S = wEndless from HSS.out)
     go_wp2_with fail
     go_ret
     exact ⟨by rw [HS2.out]; rfl, HV.out⟩
    ·have HS2 := h_ (show S = wNothing from HSS.out)
     go_wp2_with fail
     go_ret
     exact ⟨by rw [HS2.out]; rfl, HV.out⟩
   have d1 : decide (wd = wSolve) = false := by simpa using h1
   rw [if_neg h1] at HKW
   clear h1
   by_cases h2 : wd = wShow
   ·have d2 : decide (wd = wShow) = true := by simpa using h2
    have HS1 := h_ (show S = shoS p by rw [← HS.out, HKW.out, if_pos h2]; rfl)
    clear h2 HKW HS
    have hPV : prtV p = .tuple #[.string (bs (textF p)), .int .i64 0] := by unfold prtV strV; rw [if_pos HM.out, if_pos HM.out]
    have HPR := h_ (text_Print A c A2 c2 p U HPU.out HTU.out)
    rw [hPV] at HPR
    have htl : (textF p).length ≤ 1000000 := by
     have := rowsT_len HM.out p.rows.length (Nat.le_refl _)
     have h4 := mayPB_iff.1 HM.out
     have := costT_len h4.2.2.2.2.1 h4.2.1
     unfold textF
     rw [List.take_length] at *
     rw [List.length_append]
     omega
    have HIT := h_ (fun (W : World) => ref9_Digits _ ((textF p).length : Nat) W (Nat.le_refl _) (by omega) (by omega))
    have hsz : (bs (textF p)).size = (textF p).length := bs_size _
    have HS2 := h_ (show S = itoa ((textF p).length : Nat) from HS1.out)
    clear hPV htl HS1
    generalize hT : bs (textF p) = TT at *
    generalize (textF p).length = n at *
    go_wp2_with (first
     | (go_at_call 19; refine HPR.out.mono ?_; rintro e w1 ⟨rfl, hb1⟩)
     | (go_at_call 14; refine (HIT.out _).mono ?_; rintro e w2 ⟨rfl, hb2⟩))
    go_ret
    exact ⟨by rw [HS2.out]; rfl, HB.out.trans ((hb1.trans (hb2.mono hb1.size)).mono HB.out.size)⟩
   have d2 : decide (wd = wShow) = false := by simpa using h2
   rw [if_neg h2] at HKW
   clear h2
   by_cases h3 : wd = wLook
   ·have d3 : decide (wd = wLook) = true := by simpa using h3
    have HS1 := h_ (show S = lokS p l by rw [← HS.out, HKW.out, if_pos h3]; rfl)
    clear h3 HKW HS
    have hes := lookE_small p l
    have hS : S = if lookE p l = 0 then (if nonneg (lookC p l).xs = true then wGoes else wNot) ++ 32 :: frcW (wthN p l) (wthD p l) else sayW wBad (lookE p l) := HS1.out
    have HLK := h_ (corner_Look A c A2 c2 p A5 l c5 U HPU.out HRD.out)
    unfold RetCo at HLK
    obtain ⟨er, her⟩ : ∃ er, lookE p l = er := ⟨_, rfl⟩
    obtain ⟨cc, hcc⟩ : ∃ cc, lookC p l = cc := ⟨_, rfl⟩
    have HWS := h_ (wth_small p l)
    have HWN := h_ (show wthN p l = frN (dot p.costs (cc.xs.take p.costs.length)) cc.xd by rw [← hcc]; rfl)
    have HWD := h_ (show wthD p l = ptD [dot p.costs (cc.xs.take p.costs.length)] cc.xd by rw [← hcc]; rfl)
    have HCC := h_ (show er = 0 → cc.xs.length = p.costs.length + p.rows.length ∧ smallB 497664 (cc.xs.take p.costs.length) = true from fun e => by
     rw [← her] at e
     obtain ⟨_, _, _, hcd⟩ := look_corn e
     have hsv := var_small hcd
     unfold varL at hsv
     rw [hcc] at hcd hsv
     exact ⟨hcd.lx, hsv⟩)
    rw [her, hcc] at hS
    rw [her] at hes
    simp only [her, hcc] at HLK
    have HS := h_ hS
    clear hS her hcc HS1
    obtain ⟨hes1, hes2⟩ := hes
    go_upto_region 19 with (go_at_call 20; refine HLK.out.mono ?_; rintro e w1 ⟨X5, cx5, Y5, cy5, G5, cg5, rfl, hX5, _, hG5, hb1⟩)
    have hal : Below w1.heap.size w1 (w1.alloc (.cells #[.slice X5 cc.xs.length cx5, .int .i64 cc.xd, .slice Y5 cc.ys.length cy5, .int .i64 cc.yd, .slice G5 cc.gs.length cg5, .int .i64 cc.gd] 64)) := (Below.refl _ _).alloc (Nat.le_refl _) _
    have HBQ := h_ (Blk.mk' w1 64 #[.slice X5 cc.xs.length cx5, .int .i64 cc.xd, .slice Y5 cc.ys.length cy5, .int .i64 cc.yd, .slice G5 cc.gs.length cg5, .int .i64 cc.gd])
    have HXQ := h_ (hX5.below hal)
    have HV := h_ (HB.out.trans ((hb1.trans (hal.mono hb1.size)).mono HB.out.size))
    clear hX5 hG5 hb1 hal p0 p1 HRU HTU
    obtain ⟨V, hVe⟩ : ∃ V, w1.alloc (.cells #[.slice X5 cc.xs.length cx5, .int .i64 cc.xd, .slice Y5 cc.ys.length cy5, .int .i64 cc.yd, .slice G5 cc.gs.length cg5, .int .i64 cc.gd] 64) = V := ⟨_, rfl⟩
    rw [hVe] at HBQ HXQ HV ⊢
    clear hVe
    obtain ⟨bq, hbq⟩ : ∃ bq, w1.heap.size = bq := ⟨_, rfl⟩
    rw [hbq] at HBQ ⊢
    clear hbq
    by_cases h0 : er = 0
    ·subst h0
     obtain ⟨hlx, hsv⟩ := HCC.out rfl
     have HLX := h_ hlx
     have hxc : p.costs.length ≤ cx5 := by have := HXQ.out.le; omega
     have hxcap := HXQ.out.cap
     have BV := h_ (HBK.out.next HV.out)
     have HPV := h_ (HP.out.below HV.out)
     have HS1 := h_ (show S = (if nonneg cc.xs = true then wGoes else wNot) ++ 32 :: frcW (wthN p l) (wthD p l) by rw [HS.out, if_pos rfl])
     obtain ⟨nn, hnn⟩ : ∃ nn, wthN p l = nn := ⟨_, rfl⟩
     obtain ⟨dd, hdd⟩ : ∃ dd, wthD p l = dd := ⟨_, rfl⟩
     rw [hnn, hdd] at HWS HS1
     rw [hnn] at HWN
     rw [hdd] at HWD
     obtain ⟨m1, m2, m3, m4, m5, _⟩ := mayPB_iff.1 HM.out
     have hlt7 : (cc.xs.take p.costs.length).length = p.costs.length := by rw [List.length_take]; omega
     obtain ⟨dt, hdt⟩ : ∃ dt, dot p.costs (cc.xs.take p.costs.length) = dt := ⟨_, rfl⟩
     have HDT := h_ (fun (W : World) (hW : Below V.heap.size V W) => show Calls Tryz.prog 22 #[.slice A p.costs.length c, .slice X5 p.costs.length cx5] W (fun e w' => e = .returned (.int .i64 dt) ∧ Below W.heap.size W w') from by
      have := ref2_Dot A p.costs c X5 (cc.xs.take p.costs.length) cx5 400 497664 W (HPV.out.below hW).costs ((rd_take HXQ.out (show p.costs.length ≤ cc.xs.length by omega)).below hW) (by rw [hlt7]; exact Nat.le_refl _) (by omega) (by omega) m5 hsv (by omega)
      rw [hlt7, hdt] at this
      exact this.mono fun e w' ⟨h, n, hn⟩ => ⟨h, by rw [hn]; exact below_drewN (Below.refl _ _) n⟩)
     rw [hdt] at HWN HWD
     have HOF := h_ (fun (W : World) => show Calls Tryz.prog 21 #[.int .i64 dt, .int .i64 cc.xd] W (fun e w' => e = .returned (.agg #[.int .i64 nn, .int .i64 dd]) ∧ Below W.heap.size W w') from by
      have := ref1_Of dt cc.xd W
      rwa [← HWN.out, ← HWD.out] at this)
     clear hnn hdd hdt hlx hsv hlt7 m1 m2 m3 m4 m5
     have v0 : ∀ u : Wk V, u.1.cell? ⟨bq, 0, none⟩ = some (.slice X5 cc.xs.length cx5) := fun u => (HBQ.out.next u.2).cell 0
     have v1 : ∀ u : Wk V, u.1.cell? ⟨bq, 1, none⟩ = some (.int .i64 cc.xd) := fun u => (HBQ.out.next u.2).cell 1
     have q0 : ∀ u : Wk V, u.1.cell? ⟨g, 0, none⟩ = some (.slice A p.costs.length c) := fun u => (BV.out.next u.2).cell 0
     have HD1 := h_ (fun u : Wk V => HDT.out u.1 u.2)
     have HO1 := h_ (fun u : Wk V => HOF.out u.1)
     have b0 : V.cell? ⟨bq, 0, none⟩ = some (.slice X5 cc.xs.length cx5) := HBQ.out.cell 0
     have b1 : V.cell? ⟨bq, 1, none⟩ = some (.int .i64 cc.xd) := HBQ.out.cell 1
     go_upto_region 21 with fail
     refine wk_allocN 20 21 _ _ 15 (.cells #[.int .i64 0, .int .i64 0] 55) (.cells #[.int .i64 (nn), .int .i64 (dd)] 55) undef (.agg #[.int .i64 (nn), .int .i64 (dd)]) (.tmp 104) (by kernel_rfl) (by kernel_rfl) (by decide) (by kernel_rfl) rfl rfl rfl rfl rfl rfl (by kernel_rfl) (by intro o ho x hx; cases ho; cases hx; decide) (by intro h; cases h) (by kernel_rfl) (by simp) ?_ ?_ ?_
     ·intro ρ u
      go_simp
      done
     ·intro ρ u g h1 h2 h3
      have hB : Blk u g 55 #[.int .i64 0, .int .i64 0] := h3
      have c0 := hB.cell 0
      have c1 := hB.cell 1
      have g0 := hB.frozen 0
      have g1 := hB.frozen 1
      simp at c0 c1
      refine ⟨(u.setCell ⟨g, 0, none⟩ (.int .i64 (nn))).setCell ⟨g, 1, none⟩ (.int .i64 (dd)), .inl ?_, ?_, ?_⟩
      ·clear h3 hB
       simp [execOp, go_sem, h1, h2, c0, c1, g0, g1]
       done
      ·exact ((hB.set0 0 _).set0 1 _)
      ·exact World.grownBy.trans (gb_cell _ _ _ _) (gb_cell _ _ _ _)
     refine wpS_val (.pointer (some ⟨g, 0, none⟩)) (by decide) (by decide) rfl (fun u => ?_) ?_
     ·go_simp
      done
     simp only [Act.put, Nat.reduceAdd, List.setIfInBounds_toArray, List.set_cons_zero, List.set_cons_succ]
     refine wpS_val (.pointer (some ⟨g, 0, none⟩)) (by decide) (by decide) rfl (fun u => ?_) ?_
     ·go_simp
      done
     simp only [Act.put, Nat.reduceAdd, List.setIfInBounds_toArray, List.set_cons_zero, List.set_cons_succ]
     refine wpS_val (.pointer (some ⟨g, 0, none⟩)) (by decide) (by decide) rfl (fun u => ?_) ?_
     ·go_simp
      done
     simp only [Act.put, Nat.reduceAdd, List.setIfInBounds_toArray, List.set_cons_zero, List.set_cons_succ]
     refine wpS_val (.pointer (some ⟨g, 0, none⟩)) (by decide) (by decide) rfl (fun u => ?_) ?_
     ·go_simp
      done
     simp only [Act.put, Nat.reduceAdd, List.setIfInBounds_toArray, List.set_cons_zero, List.set_cons_succ]
     refine wpS_val (.slice A p.costs.length c) (by decide) (by decide) rfl (fun u => ?_) ?_
     ·go_simp
      done
     simp only [Act.put, Nat.reduceAdd, List.setIfInBounds_toArray, List.set_cons_zero, List.set_cons_succ]
     refine wpS_val (.pointer (some ⟨bq, 0, none⟩)) (by decide) (by decide) rfl (fun u => ?_) ?_
     ·go_simp
      done
     simp only [Act.put, Nat.reduceAdd, List.setIfInBounds_toArray, List.set_cons_zero, List.set_cons_succ]
     refine wpS_val (.pointer (some ⟨bq, 0, none⟩)) (by decide) (by decide) rfl (fun u => ?_) ?_
     ·go_simp
      done
     simp only [Act.put, Nat.reduceAdd, List.setIfInBounds_toArray, List.set_cons_zero, List.set_cons_succ]
     refine wpS_val (.slice X5 cc.xs.length cx5) (by decide) (by decide) rfl (fun u => ?_) ?_
     ·go_simp
      done
     simp only [Act.put, Nat.reduceAdd, List.setIfInBounds_toArray, List.set_cons_zero, List.set_cons_succ]
     refine wpS_val (.pointer (some ⟨g, 0, none⟩)) (by decide) (by decide) rfl (fun u => ?_) ?_
     ·go_simp
      done
     simp only [Act.put, Nat.reduceAdd, List.setIfInBounds_toArray, List.set_cons_zero, List.set_cons_succ]
     refine wpS_val (.pointer (some ⟨g, 0, none⟩)) (by decide) (by decide) rfl (fun u => ?_) ?_
     ·go_simp
      done
     simp only [Act.put, Nat.reduceAdd, List.setIfInBounds_toArray, List.set_cons_zero, List.set_cons_succ]
     refine wpS_val (.pointer (some ⟨g, 0, none⟩)) (by decide) (by decide) rfl (fun u => ?_) ?_
     ·go_simp
      done
     simp only [Act.put, Nat.reduceAdd, List.setIfInBounds_toArray, List.set_cons_zero, List.set_cons_succ]
     refine wpS_val (.pointer (some ⟨g, 0, none⟩)) (by decide) (by decide) rfl (fun u => ?_) ?_
     ·go_simp
      done
     simp only [Act.put, Nat.reduceAdd, List.setIfInBounds_toArray, List.set_cons_zero, List.set_cons_succ]
     refine wpS_val (.slice A p.costs.length c) (by decide) (by decide) rfl (fun u => ?_) ?_
     ·go_simp
      done
     simp only [Act.put, Nat.reduceAdd, List.setIfInBounds_toArray, List.set_cons_zero, List.set_cons_succ]
     refine wpS_val (.int .i64 (p.costs.length : Nat)) (by decide) (by decide) rfl (fun u => ?_) ?_
     ·go_simp
      done
     simp only [Act.put, Nat.reduceAdd, List.setIfInBounds_toArray, List.set_cons_zero, List.set_cons_succ]
     refine wpS_val (.slice X5 p.costs.length cx5) (by decide) (by decide) rfl (fun u => ?_) ?_
     ·go_simp
      done
     simp only [Act.put, Nat.reduceAdd, List.setIfInBounds_toArray, List.set_cons_zero, List.set_cons_succ]
     refine wpS_call (.int .i64 dt) (22) (#[.slice A p.costs.length c, .slice X5 p.costs.length cx5]) (by decide) (by decide) rfl (fun u => ?_) (fun u => HD1.out u) ?_
     ·go_simp
      done
     simp only [Act.put, Nat.reduceAdd, List.setIfInBounds_toArray, List.set_cons_zero, List.set_cons_succ]
     refine wpS_val (.pointer (some ⟨bq, 0, none⟩)) (by decide) (by decide) rfl (fun u => ?_) ?_
     ·go_simp
      done
     simp only [Act.put, Nat.reduceAdd, List.setIfInBounds_toArray, List.set_cons_zero, List.set_cons_succ]
     refine wpS_val (.pointer (some ⟨bq, 1, none⟩)) (by decide) (by decide) rfl (fun u => ?_) ?_
     ·go_simp
      done
     simp only [Act.put, Nat.reduceAdd, List.setIfInBounds_toArray, List.set_cons_zero, List.set_cons_succ]
     refine wpS_val (.int .i64 cc.xd) (by decide) (by decide) rfl (fun u => ?_) ?_
     ·go_simp
      done
     simp only [Act.put, Nat.reduceAdd, List.setIfInBounds_toArray, List.set_cons_zero, List.set_cons_succ]
     refine wpS_call (.agg #[.int .i64 nn, .int .i64 dd]) (21) (#[.int .i64 dt, .int .i64 cc.xd]) (by decide) (by decide) rfl (fun u => ?_) (fun u => HO1.out u) ?_
     ·go_simp
      done
     simp only [Act.put, Nat.reduceAdd, List.setIfInBounds_toArray, List.set_cons_zero, List.set_cons_succ]
     refine wpS_make rfl ?_
     simp only [Act.put, Nat.reduceAdd, List.setIfInBounds_toArray, List.set_cons_zero, List.set_cons_succ]
     refine wpS_fill (by decide) rfl rfl ?_
     simp only [Act.put, Nat.reduceAdd, List.setIfInBounds_toArray, List.set_cons_zero, List.set_cons_succ]
     unfold wpS
     intro bf V2 hbf hbel2 hblk2
     simp only [Act.put, Nat.reduceAdd, List.setIfInBounds_toArray, List.set_cons_zero, List.set_cons_succ]
     have HBF := h_ (show Blk V2 bf 55 #[.int .i64 nn, .int .i64 dd] from hblk2)
     have HB2 := h_ (HV.out.trans (hbel2.mono HV.out.size))
     have BQ2 := HBQ.out.next hbel2
     have HXQ2 := h_ (HXQ.out.below hbel2)
     clear hbel2 hblk2 v0 v1 q0 b0 b1 HDT HOF HD1 HO1
     have v0 : V2.cell? ⟨bq, 0, none⟩ = some (.slice X5 cc.xs.length cx5) := BQ2.cell 0
     have v1 : V2.cell? ⟨bq, 1, none⟩ = some (.int .i64 cc.xd) := BQ2.cell 1
     clear BQ2
     go_wp2_with fail
     refine (ref3_Above _ _ _ _ _ HXQ2.out).mono ?_
     rintro e w8 ⟨rfl, hb8⟩
     have BF8 := HBF.out.next hb8
     have HB8 := h_ (HB2.out.trans (hb8.mono HB2.out.size))
     clear hb8 v0 v1
     have u0 : w8.cell? ⟨bf, 0, none⟩ = some (.int .i64 nn) := BF8.cell 0
     have u1 : w8.cell? ⟨bf, 1, none⟩ = some (.int .i64 dd) := BF8.cell 1
     clear BF8
     obtain ⟨hw1, hw2, hw3⟩ := HWS.out
     have HFR := h_ (keep_fraction nn dd w8 hw1 hw2)
     cases hng : nonneg cc.xs with
     | true =>
      have HS2 := h_ (show S = [103, 111, 101, 115, 32] ++ frcW nn dd by rw [HS1.out, hng]; rfl)
      have ha : ∀ W, (Op.stringOp .add { data := #[103, 111, 101, 115, 32] } (bs (frcW nn dd))).run Tryz.prog W = .ok (.string (bs S)) W := fun W => by
       rw [HS2.out]
       exact run_add _ _ (by simp; omega) W
      clear hw1 hw2 hw3 hng
      generalize bs (frcW nn dd) = t1 at *
      go_wp2_with (go_at_call 18; refine HFR.out.mono ?_; rintro e w9 ⟨rfl, hb9⟩)
      go_ret
      exact ⟨rfl, HB8.out.trans (hb9.mono HB8.out.size)⟩
     | false =>
      have HS2 := h_ (show S = [110, 111, 116, 32] ++ frcW nn dd by rw [HS1.out, hng]; rfl)
      have ha : ∀ W, (Op.stringOp .add { data := #[110, 111, 116, 32] } (bs (frcW nn dd))).run Tryz.prog W = .ok (.string (bs S)) W := fun W => by
       rw [HS2.out]
       exact run_add _ _ (by simp; omega) W
      clear hw1 hw2 hw3 hng
      generalize bs (frcW nn dd) = t1 at *
      go_wp2_with (go_at_call 18; refine HFR.out.mono ?_; rintro e w9 ⟨rfl, hb9⟩)
      go_ret
      exact ⟨rfl, HB8.out.trans (hb9.mono HB8.out.size)⟩
    ·have HS2 := h_ (show S = sayW wBad er by rw [HS.out, if_neg h0])
     have hz0 : (er != 0) = true := by simpa using h0
     have HSY := h_ (said_bad er V (by omega))
     go_wp2_with (go_at_call 8; refine HSY.out.mono ?_; rintro e w9 ⟨rfl, hb9⟩)
     go_ret
     exact ⟨by rw [HS2.out]; rfl, (HV.out).trans (hb9.mono (HV.out).size)⟩
   have d3 : decide (wd = wLook) = false := by simpa using h3
   rw [if_neg h3] at HKW
   clear h3
   by_cases h4 : wd = wWalk
   ·have d4 : decide (wd = wWalk) = true := by simpa using h4
    have HS1 := h_ (show S = wlkS p l by rw [← HS.out, HKW.out, if_pos h4]; rfl)
    clear h4 HKW HS
    have hS := wlkS_eq p l
    have hn257 := wlkN_small p l
    have hes := nextE_small p l
    have HWK := h_ (walk_n A c A2 c2 p A5 l c5 U HPU.out HRD.out)
    unfold RetWn at HWK
    rw [← HS1.out] at hS
    obtain ⟨er, her⟩ : ∃ er, nextE p l = er := ⟨_, rfl⟩
    obtain ⟨kd, hkd⟩ : ∃ kd, wlkK p l = kd := ⟨_, rfl⟩
    obtain ⟨n, hn⟩ : ∃ n, wlkN p l = n := ⟨_, rfl⟩
    rw [her, hkd, hn] at hS
    rw [hn] at hn257
    rw [her] at hes
    simp only [her, hkd, hn] at HWK
    have HS := h_ hS
    clear hS her hkd hn HS1
    obtain ⟨hes1, hes2⟩ := hes
    go_upto_region 27 with (go_at_call 24; refine HWK.out.mono ?_; rintro e w6 ⟨A6, c6, rfl, hb6⟩)
    have HV := h_ (HB.out.trans (hb6.mono HB.out.size))
    clear hb6 p0 p1
    by_cases h0 : er = 0
    ·subst h0
     by_cases h1 : kd = 1
     ·subst h1
      have HS2 := h_ (show S = sayW wBest ((n : Nat) : Int) from HS.out)
      have HSY := h_ (said_best (n : Int) w6 (by omega))
      go_wp2_with (go_at_call 8; refine HSY.out.mono ?_; rintro e w9 ⟨rfl, hb9⟩)
      go_ret
      exact ⟨by rw [HS2.out]; rfl, (HV.out).trans (hb9.mono (HV.out).size)⟩
     ·have HS2 := h_ (show S = sayW wEndless ((n : Nat) : Int) by rw [HS.out, if_pos rfl, if_neg h1])
      have hk1 : (kd == 1) = false := by simpa using h1
      have HSY := h_ (said_endless (n : Int) w6 (by omega))
      go_wp2_with (go_at_call 8; refine HSY.out.mono ?_; rintro e w9 ⟨rfl, hb9⟩)
      go_ret
      exact ⟨by rw [HS2.out]; rfl, (HV.out).trans (hb9.mono (HV.out).size)⟩
    ·have HS2 := h_ (show S = sayW wBad er by rw [HS.out, if_neg h0])
     have hz0 : (er != 0) = true := by simpa using h0
     have HSY := h_ (said_bad er w6 (by omega))
     go_wp2_with (go_at_call 8; refine HSY.out.mono ?_; rintro e w9 ⟨rfl, hb9⟩)
     go_ret
     exact ⟨by rw [HS2.out]; rfl, (HV.out).trans (hb9.mono (HV.out).size)⟩
   have d4 : decide (wd = wWalk) = false := by simpa using h4
   have HS1 := h_ (show S = swpS p l by rw [← HS.out, HKW.out, if_neg h4]; rfl)
   clear h4 HKW HS
   have HSW := h_ (sweep_Sweep A c A2 c2 p B l cb U HPU.out HRU.out)
   have HES := h_ (swpE_small p l)
   have HLN := h_ (swp_len p l)
   have HSM := h_ (swp_small (p := p) (b := l))
   have hS : S = if swpE p l = 0 then itoa ((swpL p l).length : Nat) ++ ((swpL p l).map pieS).flatten else sayW wBad (swpE p l) := HS1.out
   obtain ⟨er, her⟩ : ∃ er, swpE p l = er := ⟨_, rfl⟩
   obtain ⟨L, hL⟩ : ∃ L, swpL p l = L := ⟨_, rfl⟩
   rw [her, hL] at hS
   rw [her] at HES HSM HSW
   rw [hL] at HLN HSM HSW
   have HS := h_ hS
   clear hS her hL HS1
   go_wp2_with fail
   refine HSW.out.mono ?_
   rintro e w1 ⟨v, rfl, hpc, hb1⟩
   have HB1 := h_ (HB.out.trans (hb1.mono HB.out.size))
   have z1 := HB1.out.size
   have HPC := h_ hpc
   obtain ⟨n, hn⟩ : ∃ n, L.length = n := ⟨_, rfl⟩
   have HN := h_ hn
   have hvs : ∃ Av cv, v = .slice Av n cv := by
    rcases hpc with ⟨h, A', c', e⟩ | ⟨_, g, cap, e, _⟩
    ·exact ⟨A', c', by rw [← hn, h]; exact e⟩
    ·exact ⟨_, _, by rw [← hn]; exact e⟩
   obtain ⟨Av, cv, rfl⟩ := hvs
   clear hpc hn p0 p1 hb1
   by_cases h0 : er = 0
   ·subst h0
    have HS0 := h_ (show S = swpK L n by rw [HS.out, if_pos rfl, ← HN.out]; unfold swpK; rw [List.take_length])
    have HSM0 := h_ (HSM.out rfl)
    have hn257 : n ≤ 257 := by rw [← HN.out]; exact HLN.out
    have HKL := h_ (swpK_len HLN.out HSM0.out)
    have HK0 := h_ (show swpK L 0 = itoa (n : Int) by unfold swpK; rw [HN.out]; simp)
    have HIT := h_ (ref9_Digits _ (n : Int) w1 (Nat.le_refl _) (by omega) (by omega))
    rw [← HK0.out] at HIT
    clear HS HSM HES
    go_wp2_with (go_at_call 14; refine HIT.out.mono ?_; rintro e w2 ⟨rfl, hb2⟩; have HB2 := h_ hb2; clear hb2)
    have HPC2 := h_ (HPC.out.below HB2.out)
    have HW2 := h_ (HB1.out.trans (HB2.out.mono z1))
    go_loopw [21, 22] (fun s7 s29 wx => ∃ k : Nat, k ≤ n ∧ s29 = .int .i64 k ∧ s7 = .string (bs (swpK L k)) ∧ Below w2.heap.size w2 wx) (fun _ s29 _ => n - (intOf s29).toNat)
    case atStart => exact ⟨0, by omega, rfl, rfl, Below.refl _ _⟩
    case round =>
     obtain ⟨k, hk, rfl, rfl, hbe⟩ := hrel
     rename World => Z
     have HZ := h_ hbe
     have HPZ := h_ (HPC2.out.below hbe)
     have zZ := hbe.size
     clear hbe
     by_cases hkl : k < n
     ·have hkL : k < L.length := by rw [HN.out]; exact hkl
      rcases HPZ.out with ⟨e, _⟩ | ⟨_, g', cap, e, hge, hgl, hcp, hcp2, hat⟩
      ·rw [e] at hkL; exact absurd hkL (Nat.not_lt_zero _)
      ·injection e with e1 e2 e3
       subst e1 e3
       have hat := hat k hkL
       have HX := h_ (HSM0.out L[k] (List.getElem_mem hkL))
       have HSU := h_ (swpK_succ hkL)
       obtain ⟨x, hx⟩ : ∃ x, L[k] = x := ⟨_, rfl⟩
       rw [hx] at hat HX HSU
       have HAT := h_ (fun u : Wk Z => hat.below u.2)
       have hk0 : (k : Int) < (n : Int) := by omega
       have hcp' : n ≤ cv := by have := HN.out; omega
       clear hat hx e2 hkL
       have b6 : ∀ u : Wk Z, u.1.cell? ⟨g', k * 10 + 6, none⟩ = some (.int .i64 x.bn) := fun u => (HAT.out u).c6
       have b7 : ∀ u : Wk Z, u.1.cell? ⟨g', k * 10 + 7, none⟩ = some (.int .i64 x.bd) := fun u => (HAT.out u).c7
       have b8 : ∀ u : Wk Z, u.1.cell? ⟨g', k * 10 + 8, none⟩ = some (.int .i64 x.sn) := fun u => (HAT.out u).c8
       have b9 : ∀ u : Wk Z, u.1.cell? ⟨g', k * 10 + 9, none⟩ = some (.int .i64 x.sd) := fun u => (HAT.out u).c9
       obtain ⟨⟨x1, x2, x3⟩, x4, x5, x6⟩ := HX.out
       have hf1 := frc_len x.bn x.bd x3 (by omega)
       have hf2 := frc_len x.sn x.sd x6 (by omega)
       have hkl2 := HKL.out k (by have := HN.out; omega)
       have HF1 := h_ (fun u : Wk Z => keep_fraction x.bn x.bd u.1 (by omega) (by omega))
       have HF2 := h_ (fun u : Wk Z => keep_fraction x.sn x.sd u.1 (by omega) (by omega))
       have q1 : ∀ W, (Op.stringOp .add (bs (swpK L k)) { data := #[32] }).run Tryz.prog W = .ok (.string (bs (swpK L k ++ [32]))) W := fun W => run_add _ [32] (by simp; omega) W
       have q2 : ∀ W, (Op.stringOp .add (bs (swpK L k ++ [32])) (bs (frcW x.bn x.bd))).run Tryz.prog W = .ok (.string (bs (swpK L k ++ [32] ++ frcW x.bn x.bd))) W := fun W => run_add _ _ (by simp; omega) W
       have q3 : ∀ W, (Op.stringOp .add (bs (swpK L k ++ [32] ++ frcW x.bn x.bd)) { data := #[32] }).run Tryz.prog W = .ok (.string (bs (swpK L k ++ [32] ++ frcW x.bn x.bd ++ [32]))) W := fun W => run_add _ [32] (by simp; omega) W
       have q4 : ∀ W, (Op.stringOp .add (bs (swpK L k ++ [32] ++ frcW x.bn x.bd ++ [32])) (bs (frcW x.sn x.sd))).run Tryz.prog W = .ok (.string (bs (swpK L (k + 1)))) W := fun W => by
        rw [HSU.out, show swpK L k ++ pieS x = (swpK L k ++ [32] ++ frcW x.bn x.bd ++ [32]) ++ frcW x.sn x.sd by simp [pieS]]
        exact run_add _ _ (by simp; omega) W
       clear hf1 hf2 hkl2 x1 x2 x3 x4 x5 x6 HX
       generalize bs (frcW x.bn x.bd) = t1 at *
       generalize bs (swpK L k ++ [32] ++ frcW x.bn x.bd ++ [32]) = t2 at *
       generalize bs (swpK L k ++ [32] ++ frcW x.bn x.bd) = t5 at *
       generalize bs (swpK L k ++ [32]) = t6 at *
       generalize bs (frcW x.sn x.sd) = t7 at *
       generalize bs (swpK L k) = t8 at *
       go_wp2_with fail
       refine wk_region (by kernel_rfl) (by kernel_rfl) ?_
       repeat (go_big_quiet_step (first | (go_at_call 18; with_reducible exact wk_call (HF1.out _)) | (go_at_call 18; with_reducible exact wk_call (HF2.out _))))
       refine wpQuiet_nil ?_
       rintro w7 ⟨u7, rfl⟩
       go_wp2_with fail
       go_roundw
       case rel => exact ⟨k + 1, by omega, by go_num, rfl, HZ.out.trans (u7.2.mono zZ)⟩
       case measure => simp [intOf]; omega
     ·have hkn : k = n := by omega
      subst hkn
      go_wp2_with fail
      go_ret
      exact ⟨by rw [HS0.out]; rfl, HW2.out.trans (HZ.out.mono HW2.out.size)⟩
   ·have HS2 := h_ (show S = sayW wBad er by rw [HS.out, if_neg h0])
    have hz0 : (er != 0) = true := by simpa using h0
    have hes := HES.out
    have HSY := h_ (said_bad er w1 (by omega))
    go_wp2_with (go_at_call 8; refine HSY.out.mono ?_; rintro e w9 ⟨rfl, hb9⟩)
    go_ret
    exact ⟨by rw [HS2.out]; rfl, (HB1.out).trans (hb9.mono (HB1.out).size)⟩
end Go.Proofs.YtjcdkbalhleeeaaGreatDoor
