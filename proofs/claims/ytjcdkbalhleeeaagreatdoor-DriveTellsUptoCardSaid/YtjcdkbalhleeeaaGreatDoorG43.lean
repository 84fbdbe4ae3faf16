/-
  Contracts of functions and plain laws that later parts of the proof use. The conditions stand in each theorem.
-/
import Derived.Test.YtjcdkbalhleeeaaGreatDoorG06
import Derived.Test.YtjcdkbalhleeeaaGreatDoorG35
import Derived.Test.YtjcdkbalhleeeaaGreatDoorG38
import Derived.Test.YtjcdkbalhleeeaaGreatDoorG42
import Derived.Test.YtjcdkbalhleeeaaGreatDoorG31
import Derived.Test.YtjcdkbalhleeeaaGreatDoorG04
import Derived.Test.YtjcdkbalhleeeaaGreatDoorG33
import Derived.Test.YtjcdkbalhleeeaaGreatDoorG17
import Derived.Test.YtjcdkbalhleeeaaGreatDoorG37
import Derived.Test.YtjcdkbalhleeeaaGreatDoorG13
import Derived.Deep.DeepCutAuto
import Derived.Test.YtjcdkbalhleeeaaGreatDoorG02
set_option maxRecDepth 100000
namespace Go.Proofs.YtjcdkbalhleeeaaGreatDoor
open Go.Proofs Go.RowKit
open Go.Lib (itoa join)
def swpS (p : PG) (b : List Int) : List UInt8 := if swpE p b = 0 then itoa ((swpL p b).length : Nat) ++ ((swpL p b).map fun x => 32 :: frcW x.bn x.bd ++ 32 :: frcW x.sn x.sd).flatten else sayW wBad (swpE p b)
def RetS (w : World) (s : List UInt8) (e : Ending) (w' : World) : Prop := e = .returned (.string (bs s)) ∧ Below w.heap.size w w'
theorem sol_bound {p : PG} (h : (solZ p).kind = 1) : (-9223372036854775807 ≤ (solZ p).wn ∧ (solZ p).wn ≤ 9223372036854775807) ∧ (-9223372036854775807 ≤ (solZ p).wd ∧ (solZ p).wd ≤ 9223372036854775807) := by
 obtain ⟨l, hl, e⟩ := sol_best h
 obtain ⟨m1, _⟩ := bestA_worth hl.1
 rw [← e] at m1
 simp [mayB, rightB, smallB] at m1
 omega
set_option maxHeartbeats 1000000 in
theorem drive_solve (g : Nat) (A : Option Addr) (c : Nat) (A2 : Option Addr) (c2 : Nat) (p : PG) (t3 t4 : Value) (w : World) (hb : Blk w g 46 #[.slice A p.costs.length c, .slice A2 p.rows.length c2, t3, t4]) (hp : Pg w A c A2 c2 p) (hm : mayPB p = true) (ht : Tab w) :
    Calls Tryz.prog 71 #[.pointer (some ⟨g, 0, none⟩)] w (RetS w (solS p)) := by
 have B := h_ hb
 have HT := h_ ht
 have p0 : w.cell? ⟨g, 0, none⟩ = some (.slice A p.costs.length c) := hb.cell 0
 have p1 : w.cell? ⟨g, 1, none⟩ = some (.slice A2 p.rows.length c2) := hb.cell 1
 have hlt := hb.lt
 have hse : solEr p = 0 := by unfold solEr; rw [if_pos hm]
 have hsa : solA p = solZ p := by unfold solA; rw [if_pos hm]
 have hk := (sol_all hm).2.2
 have hbd := sol_bound (p := p)
 have hS : solS p = if (solZ p).kind = 1 then wBest ++ 32 :: frcW (solZ p).wn (solZ p).wd else if (solZ p).kind = 2 then wEndless else wNothing := rfl
 have HSO := h_ (solve_Solve A c A2 c2 p w hp)
 obtain ⟨S, hSd⟩ : ∃ S, solS p = S := ⟨_, rfl⟩
 rw [hSd] at hS ⊢
 have HSS := h_ hS
 have HBD := h_ hbd
 have HK := h_ hk
 unfold RetS
 clear hSd hb hm ht hp hS hbd hk
 go_enter Tryz.func71, Tryz.ntmps71
 go_wp2_with fail
 refine HSO.out.mono ?_
 rintro e w1 ⟨hb1, X, cx, Y, cy, R, cr, rfl, _⟩
 rw [hse, hsa]
 obtain ⟨an, han⟩ : ∃ an, solZ p = an := ⟨_, rfl⟩
 rw [han] at HK HSS HBD ⊢
 clear han hse hsa HSO
 obtain ⟨kd, xs, xd, ys, yd, rs, rd, wn, wd⟩ := an
 have hk := HK.out
 simp only at hk HSS HBD ⊢
 have HK := h_ hk
 have HB1 := h_ hb1
 have z1 := hb1.size
 unfold anV
 clear hb1 p0 p1 hk
 go_upto_region 2 with fail
 have BA := h_ (Blk.mk' w1 57 #[.int .i64 kd, .slice X xs.length cx, .int .i64 xd, .slice Y ys.length cy, .int .i64 yd, .slice R rs.length cr, .int .i64 rd, .int .i64 wn, .int .i64 wd])
 have HV := h_ (HB1.out.alloc z1 (.cells #[.int .i64 kd, .slice X xs.length cx, .int .i64 xd, .slice Y ys.length cy, .int .i64 yd, .slice R rs.length cr, .int .i64 rd, .int .i64 wn, .int .i64 wd] 57))
 generalize w1.heap.size = b1 at *
 generalize (w1.alloc (.cells #[.int .i64 kd, .slice X xs.length cx, .int .i64 xd, .slice Y ys.length cy, .int .i64 yd, .slice R rs.length cr, .int .i64 rd, .int .i64 wn, .int .i64 wd] 57)) = V at *
 have a0 : V.cell? ⟨b1, 0, none⟩ = some (.int .i64 kd) := BA.out.cell 0
 have a7 : V.cell? ⟨b1, 7, none⟩ = some (.int .i64 wn) := BA.out.cell 7
 have a8 : V.cell? ⟨b1, 8, none⟩ = some (.int .i64 wd) := BA.out.cell 8
 rcases HK.out with rfl | rfl | rfl
 ·have hS1 : S = wBest ++ 32 :: frcW wn wd := HSS.out
  have HFR := h_ (drive_fraction wn wd V (HBD.out rfl).1 (HBD.out rfl).2 (HT.out.below HV.out))
  have hl1 := itoa_len (n := wn) (by have := (HBD.out rfl).1; omega) (HBD.out rfl).1.2
  have hl2 := itoa_len (n := wd) (by have := (HBD.out rfl).2; omega) (HBD.out rfl).2.2
  have ha : ∀ W, (Op.stringOp .add { data := #[98, 101, 115, 116, 32] } (bs (frcW wn wd))).run Tryz.prog W = .ok (.string (bs S)) W := fun W => by
   rw [hS1, show wBest ++ 32 :: frcW wn wd = [98, 101, 115, 116, 32] ++ frcW wn wd from rfl]
   exact run_add _ _ (by simp [frcW]; omega) W
  clear hS1 hl1 hl2
  generalize bs (frcW wn wd) = t1 at *
  go_wp2_with (go_at_call 109; refine HFR.out.mono ?_; rintro e w2 ⟨rfl, hb2⟩)
  go_ret
  exact ⟨rfl, HV.out.trans (hb2.mono HV.out.size)⟩
 ·have hS1 : S = wEndless := HSS.out
  subst hS1
  go_wp2_with fail
  go_ret
  exact ⟨rfl, HV.out⟩
 ·have hS1 : S = wNothing := HSS.out
  subst hS1
  go_wp2_with fail
  go_ret
  exact ⟨rfl, HV.out⟩
theorem drive_show (q g : Nat) (A : Option Addr) (c : Nat) (A2 : Option Addr) (c2 : Nat) (p : PG) (t3 t4 : Value) (w : World) (hq : w.cell? ⟨q, 0, none⟩ = some (.pointer (some ⟨g, 0, none⟩))) (hb : Blk w g 46 #[.slice A p.costs.length c, .slice A2 p.rows.length c2, t3, t4]) (hp : Pg w A c A2 c2 p) (hm : mayPB p = true) (ht : Tab w) :
    Calls Tryz.prog 72 #[.pointer (some ⟨q, 0, none⟩)] w (RetS w (shoS p)) := by
 have p0 : w.cell? ⟨g, 0, none⟩ = some (.slice A p.costs.length c) := hb.cell 0
 have p1 : w.cell? ⟨g, 1, none⟩ = some (.slice A2 p.rows.length c2) := hb.cell 1
 have hlt := hb.lt
 have hltq := lc_ hq
 have hPV : prtV p = .tuple #[.string (bs (textF p)), .int .i64 0] := by unfold prtV strV; rw [if_pos hm, if_pos hm]
 have HPR := h_ (text_Print A c A2 c2 p w hp ht)
 rw [hPV] at HPR
 have htl : (textF p).length ≤ 1000000 := by
  have := rowsT_len hm p.rows.length (Nat.le_refl _)
  have h4 := mayPB_iff.1 hm
  have := costT_len h4.2.2.2.2.1 h4.2.1
  unfold textF
  rw [List.take_length] at *
  rw [List.length_append]
  omega
 have HIT := h_ (fun (W : World) (hW : Below w.heap.size w W) => itoa_call ((textF p).length : Nat) (by omega) (by omega) W (ht.below hW))
 have hsz : (bs (textF p)).size = (textF p).length := bs_size _
 have hR : shoS p = itoa ((textF p).length : Nat) := rfl
 rw [hR]
 unfold RetS
 clear hPV hb hp hm ht hR htl
 generalize hT : bs (textF p) = T at *
 generalize (textF p).length = n at *
 generalize bs (itoa (n : Int)) = t2 at *
 go_enter Tryz.func72, Tryz.ntmps72
 go_wp2_with (first
  | (go_at_call 19; refine HPR.out.mono ?_; rintro e w1 ⟨rfl, hb1⟩)
  | (go_at_call 67; refine (HIT.out _ hb1).mono ?_; rintro e w2 ⟨rfl, hb2⟩))
 go_ret
 exact ⟨rfl, hb1.trans (hb2.mono hb1.size)⟩
end Go.Proofs.YtjcdkbalhleeeaaGreatDoor

namespace Go.Proofs.YtjcdkbalhleeeaaGreatDoor
open Go.Proofs Go.RowKit
open Go.Lib (itoa join)
def pieS (x : PC) : List UInt8 := 32 :: frcW x.bn x.bd ++ 32 :: frcW x.sn x.sd
theorem say_bad (g : Nat) (n : Int) (w : World) (hc : w.cell? ⟨g, 0, none⟩ = some (.int .i64 n)) (h : -9223372036854775808 ≤ n ∧ n ≤ 9223372036854775807) (ht : Tab w) :
    Calls Tryz.prog 28 #[.string { data := #[98, 97, 100] }, .slice (some ⟨g, 0, none⟩) 1 1] w (RetS w (sayW wBad n)) := drive_say g wBad n w hc h.1 h.2 (by decide) ht
theorem say_best (g : Nat) (n : Int) (w : World) (hc : w.cell? ⟨g, 0, none⟩ = some (.int .i64 n)) (h : -9223372036854775808 ≤ n ∧ n ≤ 9223372036854775807) (ht : Tab w) :
    Calls Tryz.prog 28 #[.string { data := #[98, 101, 115, 116] }, .slice (some ⟨g, 0, none⟩) 1 1] w (RetS w (sayW wBest n)) := drive_say g wBest n w hc h.1 h.2 (by decide) ht
theorem say_endless (g : Nat) (n : Int) (w : World) (hc : w.cell? ⟨g, 0, none⟩ = some (.int .i64 n)) (h : -9223372036854775808 ≤ n ∧ n ≤ 9223372036854775807) (ht : Tab w) :
    Calls Tryz.prog 28 #[.string { data := #[101, 110, 100, 108, 101, 115, 115] }, .slice (some ⟨g, 0, none⟩) 1 1] w (RetS w (sayW wEndless n)) := drive_say g wEndless n w hc h.1 h.2 (by decide) ht
theorem say_ok (g : Nat) (n : Int) (w : World) (hc : w.cell? ⟨g, 0, none⟩ = some (.int .i64 n)) (h : -9223372036854775808 ≤ n ∧ n ≤ 9223372036854775807) (ht : Tab w) :
    Calls Tryz.prog 28 #[.string { data := #[111, 107] }, .slice (some ⟨g, 0, none⟩) 1 1] w (RetS w (sayW wOk n)) := drive_say g wOk n w hc h.1 h.2 (by decide) ht
theorem swpE_small (p : PG) (b : List Int) : 0 ≤ swpE p b ∧ swpE p b ≤ 4 := by unfold swpE; split <;> (try split) <;> (try split) <;> omega
theorem swp_len (p : PG) (b : List Int) : (swpL p b).length ≤ 257 := by
 unfold swpL
 split
 ·rename_i h
  have hm : mayPB p = true := by
   unfold swpE at h
   cases h1 : mayPB p
   ·rw [h1] at h; simp at h
   ·rfl
  have hc : (cornersZ p).length ≤ 256 := by
   unfold cornersZ
   refine Nat.le_trans (List.length_filter_le _ _) ?_
   rw [List.length_map, List.length_range]
   have h8 : p.costs.length + p.rows.length ≤ 8 := by have := mayPB_iff.1 hm; omega
   exact Nat.le_trans (Nat.pow_le_pow_right (by omega) h8) (by decide)
  have hg := grpF_len (lo := undP) (hi := ovrP) (p := p) (b := b) (cornersZ p)
  generalize grpF undP ovrP p b (cornersZ p) = P at *
  unfold ansP
  split
  ·cases P with
   | nil => simp [bestP]
   | cons x P => simp [bestP]
  ·rw [(sortP_perm _).length_eq]
   have := List.length_filter_le (fun x => !pointB x) P
   omega
 ·simp
theorem swp_small {p : PG} {b : List Int} (h : swpE p b = 0) : ∀ x ∈ swpL p b, (1 ≤ x.bd ∧ x.bd ≤ 1073741824 ∧ (-1073741824 ≤ x.bn ∧ x.bn ≤ 1073741824)) ∧ (1 ≤ x.sd ∧ x.sd ≤ 1073741824 ∧ (-1073741824 ≤ x.sn ∧ x.sn ≤ 1073741824)) := by
 have hm : manyB b p.costs.length 400 = true := by
  unfold swpE at h
  cases h1 : mayPB p <;> cases h2 : manyB b p.costs.length 400 <;> simp [h1, h2] at h ⊢
 have hb : By p b := ⟨(manyB_iff.1 hm).2, (manyB_iff.1 hm).1⟩
 intro x hx
 unfold swpL at hx
 rw [if_pos h] at hx
 obtain ⟨b1, b2⟩ := pc_pos hb (grp_prog hb) (mem_ans hb (grp_prog hb) hx)
 simp [mayB, rightB, smallB] at b1 b2
 omega
theorem frc_len (n d : Int) (hn : -1073741824 ≤ n ∧ n ≤ 1073741824) (hd : -1073741824 ≤ d ∧ d ≤ 1073741824) : (frcW n d).length ≤ 43 := by
 have h1 := itoa_len (n := n) (by omega) (by omega)
 have h2 := itoa_len (n := d) (by omega) (by omega)
 unfold frcW
 simp only [List.length_append, List.length_cons]
 omega
def swpK (L : List PC) (k : Nat) : List UInt8 := itoa (L.length : Nat) ++ ((L.take k).map pieS).flatten
theorem swpK_succ {L : List PC} {k : Nat} (hk : k < L.length) : swpK L (k + 1) = swpK L k ++ pieS L[k] := by
 unfold swpK
 rw [List.take_succ_eq_append_getElem hk, List.map_append, List.flatten_append]
 simp
theorem swpK_len {L : List PC} (hL : L.length ≤ 257) (hs : ∀ x ∈ L, (1 ≤ x.bd ∧ x.bd ≤ 1073741824 ∧ (-1073741824 ≤ x.bn ∧ x.bn ≤ 1073741824)) ∧ (1 ≤ x.sd ∧ x.sd ≤ 1073741824 ∧ (-1073741824 ≤ x.sn ∧ x.sn ≤ 1073741824))) :
    ∀ k, k ≤ L.length → (swpK L k).length ≤ 21 + 90 * k
 | 0, _ => by
  have := itoa_len (n := (L.length : Nat)) (by omega) (by omega)
  simpa [swpK] using this
 | k + 1, hk => by
  rw [swpK_succ (by omega), List.length_append]
  have ih := swpK_len hL hs k (by omega)
  obtain ⟨⟨a1, a2, a3⟩, b1, b2, b3⟩ := hs L[k] (List.getElem_mem (by omega))
  have h1 := frc_len _ L[k].bd a3 (by omega)
  have h2 := frc_len _ L[k].sd b3 (by omega)
  unfold pieS
  simp only [List.length_append, List.length_cons]
  omega
set_option maxRecDepth 100000 in
set_option maxHeartbeats 2000000 in
theorem drive_sweep (g : Nat) (A : Option Addr) (c : Nat) (A2 : Option Addr) (c2 : Nat) (p : PG) (t3 t4 : Value) (B : Option Addr) (b : List Int) (cb : Nat) (w : World) (hbk : Blk w g 46 #[.slice A p.costs.length c, .slice A2 p.rows.length c2, t3, t4]) (hp : Pg w A c A2 c2 p) (hr : Rd w B cb b) (ht : Tab w) :
    Calls Tryz.prog 75 #[.pointer (some ⟨g, 0, none⟩), .slice B b.length cb] w (RetS w (swpS p b)) := by
 have p0 : w.cell? ⟨g, 0, none⟩ = some (.slice A p.costs.length c) := hbk.cell 0
 have p1 : w.cell? ⟨g, 1, none⟩ = some (.slice A2 p.rows.length c2) := hbk.cell 1
 have hlt := hbk.lt
 have HT := h_ ht
 have HSW := h_ (sweep_Sweep A c A2 c2 p B b cb w hp hr)
 have HES := h_ (swpE_small p b)
 have HLN := h_ (swp_len p b)
 have HSM := h_ (swp_small (p := p) (b := b))
 have hS : swpS p b = if swpE p b = 0 then itoa ((swpL p b).length : Nat) ++ ((swpL p b).map pieS).flatten else sayW wBad (swpE p b) := rfl
 obtain ⟨er, her⟩ : ∃ er, swpE p b = er := ⟨_, rfl⟩
 obtain ⟨L, hL⟩ : ∃ L, swpL p b = L := ⟨_, rfl⟩
 obtain ⟨S, hSd⟩ : ∃ S, swpS p b = S := ⟨_, rfl⟩
 rw [hSd, her, hL] at hS
 rw [hSd]
 rw [her] at HES HSM HSW
 rw [hL] at HLN HSM HSW
 have HS := h_ hS
 clear hS her hL hSd hbk hp hr ht
 unfold RetS
 go_enter Tryz.func75, Tryz.ntmps75
 go_wp2_with fail
 refine HSW.out.mono ?_
 rintro e w1 ⟨v, rfl, hpc, hb1⟩
 have HB1 := h_ hb1
 have z1 := hb1.size
 have HT1 := h_ (HT.out.below hb1)
 have HPC := h_ hpc
 obtain ⟨n, hn⟩ : ∃ n, L.length = n := ⟨_, rfl⟩
 have HN := h_ hn
 have hvs : ∃ Av cv, v = .slice Av n cv := by
  rcases hpc with ⟨h, A', c', e⟩ | ⟨_, g, cap, e, _⟩
  ·exact ⟨A', c', by rw [← hn, h]; exact e⟩
  ·exact ⟨_, _, by rw [← hn]; exact e⟩
 obtain ⟨Av, cv, rfl⟩ := hvs
 clear hpc hn p0 p1 hb1
 by_cases h0 : er = 0
 ·subst h0
  have HS0 := h_ (show S = swpK L n by rw [HS.out, if_pos rfl, ← HN.out]; unfold swpK; rw [List.take_length])
  have HSM0 := h_ (HSM.out rfl)
  have hn257 : n ≤ 257 := by rw [← HN.out]; exact HLN.out
  have HKL := h_ (swpK_len HLN.out HSM0.out)
  have HK0 := h_ (show swpK L 0 = itoa (n : Int) by unfold swpK; rw [HN.out]; simp)
  have HIT := h_ (itoa_call (n : Int) (by omega) (by omega) w1 HT1.out)
  rw [← HK0.out] at HIT
  clear HS HSM HES
  go_wp2_with (go_at_call 67; refine HIT.out.mono ?_; rintro e w2 ⟨rfl, hb2⟩; have HB2 := h_ hb2; clear hb2)
  have z2 := HB2.out.size
  have HPC2 := h_ (HPC.out.below HB2.out)
  have HT2 := h_ (HT1.out.below HB2.out)
  have HW2 := h_ (HB1.out.trans (HB2.out.mono z1))
  go_loopw [7, 29] (fun s7 s29 wx => ∃ k : Nat, k ≤ n ∧ s29 = .int .i64 k ∧ s7 = .string (bs (swpK L k)) ∧ Below w2.heap.size w2 wx) (fun _ s29 _ => n - (intOf s29).toNat)
  case atStart => exact ⟨0, by omega, rfl, rfl, Below.refl _ _⟩
  case round =>
   obtain ⟨k, hk, rfl, rfl, hbe⟩ := hrel
   rename World => Z
   have HZ := h_ hbe
   have HPZ := h_ (HPC2.out.below hbe)
   have HTZ := h_ (HT2.out.below hbe)
   have zZ := hbe.size
   clear hbe
   by_cases hkl : k < n
   ·have hkL : k < L.length := by rw [HN.out]; exact hkl
    rcases HPZ.out with ⟨e, _⟩ | ⟨_, g', cap, e, hge, hgl, hcp, hcp2, hat⟩
    ·rw [e] at hkL; exact absurd hkL (Nat.not_lt_zero _)
    ·injection e with e1 e2 e3
     subst e1 e3
     have hat := hat k hkL
     have HX := h_ (HSM0.out L[k] (List.getElem_mem hkL))
     have HSU := h_ (swpK_succ hkL)
     obtain ⟨x, hx⟩ : ∃ x, L[k] = x := ⟨_, rfl⟩
     rw [hx] at hat HX HSU
     have d0 : Z.cell? ⟨g', k * 10, none⟩ = some (.bool x.fr.op) := hat.c0
     have d1 : Z.cell? ⟨g', k * 10 + 1, none⟩ = some (.int .i64 x.fr.n) := hat.c1
     have d2 : Z.cell? ⟨g', k * 10 + 2, none⟩ = some (.int .i64 x.fr.d) := hat.c2
     have d3 : Z.cell? ⟨g', k * 10 + 3, none⟩ = some (.bool x.to.op) := hat.c3
     have d4 : Z.cell? ⟨g', k * 10 + 4, none⟩ = some (.int .i64 x.to.n) := hat.c4
     have d5 : Z.cell? ⟨g', k * 10 + 5, none⟩ = some (.int .i64 x.to.d) := hat.c5
     have d6 : Z.cell? ⟨g', k * 10 + 6, none⟩ = some (.int .i64 x.bn) := hat.c6
     have d7 : Z.cell? ⟨g', k * 10 + 7, none⟩ = some (.int .i64 x.bd) := hat.c7
     have d8 : Z.cell? ⟨g', k * 10 + 8, none⟩ = some (.int .i64 x.sn) := hat.c8
     have d9 : Z.cell? ⟨g', k * 10 + 9, none⟩ = some (.int .i64 x.sd) := hat.c9
     have hk0 : (k : Int) < (n : Int) := by omega
     have hcp' : n ≤ cv := by have := HN.out; omega
     clear hat hx e2 hkL
     go_upto_region 8 with fail
     have BX := h_ (Blk.mk' Z 79 #[.bool x.fr.op, .int .i64 x.fr.n, .int .i64 x.fr.d, .bool x.to.op, .int .i64 x.to.n, .int .i64 x.to.d, .int .i64 x.bn, .int .i64 x.bd, .int .i64 x.sn, .int .i64 x.sd])
     have HV := h_ ((Below.refl Z.heap.size Z).alloc (Nat.le_refl _) (.cells #[.bool x.fr.op, .int .i64 x.fr.n, .int .i64 x.fr.d, .bool x.to.op, .int .i64 x.to.n, .int .i64 x.to.d, .int .i64 x.bn, .int .i64 x.bd, .int .i64 x.sn, .int .i64 x.sd] 79))
     clear d0 d1 d2 d3 d4 d5 d6 d7 d8 d9
     generalize (Z.alloc (.cells #[.bool x.fr.op, .int .i64 x.fr.n, .int .i64 x.fr.d, .bool x.to.op, .int .i64 x.to.n, .int .i64 x.to.d, .int .i64 x.bn, .int .i64 x.bd, .int .i64 x.sn, .int .i64 x.sd] 79)) = V at *
     have zV := HV.out.size
     have HTV := h_ (fun u : Wk V => (HTZ.out.below HV.out).below u.2)
     obtain ⟨gx, hgx⟩ : ∃ gx, Z.heap.size = gx := ⟨_, rfl⟩
     rw [hgx] at BX ⊢
     clear hgx
     have b6 : ∀ u : Wk V, u.1.cell? ⟨gx, 6, none⟩ = some (.int .i64 x.bn) := fun u => (BX.out.next u.2).cell 6
     have b7 : ∀ u : Wk V, u.1.cell? ⟨gx, 7, none⟩ = some (.int .i64 x.bd) := fun u => (BX.out.next u.2).cell 7
     have b8 : ∀ u : Wk V, u.1.cell? ⟨gx, 8, none⟩ = some (.int .i64 x.sn) := fun u => (BX.out.next u.2).cell 8
     have b9 : ∀ u : Wk V, u.1.cell? ⟨gx, 9, none⟩ = some (.int .i64 x.sd) := fun u => (BX.out.next u.2).cell 9
     obtain ⟨⟨x1, x2, x3⟩, x4, x5, x6⟩ := HX.out
     have hf1 := frc_len x.bn x.bd x3 (by omega)
     have hf2 := frc_len x.sn x.sd x6 (by omega)
     have hkl2 := HKL.out k (by have := HN.out; omega)
     have HF1 := h_ (fun u : Wk V => drive_fraction x.bn x.bd u.1 (by omega) (by omega) (HTV.out u))
     have HF2 := h_ (fun u : Wk V => drive_fraction x.sn x.sd u.1 (by omega) (by omega) (HTV.out u))
     have q1 : ∀ W, (Op.stringOp .add { data := #[32] } (bs (frcW x.bn x.bd))).run Tryz.prog W = .ok (.string (bs (32 :: frcW x.bn x.bd))) W := fun W => run_add [32] _ (by simp; omega) W
     have q2 : ∀ W, (Op.stringOp .add (bs (32 :: frcW x.bn x.bd)) { data := #[32] }).run Tryz.prog W = .ok (.string (bs (32 :: frcW x.bn x.bd ++ [32]))) W := fun W => run_add _ [32] (by simp; omega) W
     have q3 : ∀ W, (Op.stringOp .add (bs (32 :: frcW x.bn x.bd ++ [32])) (bs (frcW x.sn x.sd))).run Tryz.prog W = .ok (.string (bs (pieS x))) W := fun W => by
      rw [show pieS x = (32 :: frcW x.bn x.bd ++ [32]) ++ frcW x.sn x.sd by simp [pieS]]
      exact run_add _ _ (by simp; omega) W
     have hp1 : (pieS x).length ≤ 88 := by unfold pieS; simp only [List.length_append, List.length_cons]; omega
     have q4 : ∀ W, (Op.stringOp .add (bs (swpK L k)) (bs (pieS x))).run Tryz.prog W = .ok (.string (bs (swpK L (k + 1)))) W := fun W => by
      rw [HSU.out]
      exact run_add _ _ (by omega) W
     clear hf1 hf2 hkl2 hp1 x1 x2 x3 x4 x5 x6 HX
     generalize bs (frcW x.bn x.bd) = t1 at *
     generalize bs (32 :: frcW x.bn x.bd) = t2 at *
     generalize bs (32 :: frcW x.bn x.bd ++ [32]) = t5 at *
     generalize bs (frcW x.sn x.sd) = t6 at *
     generalize bs (pieS x) = t7 at *
     generalize bs (swpK L k) = t8 at *
     refine wk_region (by kernel_rfl) (by kernel_rfl) ?_
     repeat (go_big_quiet_step (first | (go_at_call 109; with_reducible exact wk_call (HF1.out _)) | (go_at_call 109; with_reducible exact wk_call (HF2.out _))))
     refine wpQuiet_nil ?_
     rintro w7 ⟨u7, rfl⟩
     go_wp2_with fail
     go_roundw
     case rel => exact ⟨k + 1, by omega, by go_num, rfl, HZ.out.trans ((HV.out.trans (u7.2.mono zV)).mono zZ)⟩
     case measure => simp [intOf]; omega
   ·have hkn : k = n := by omega
    subst hkn
    go_wp2_with fail
    go_ret
    exact ⟨by rw [HS0.out]; rfl, HW2.out.trans (HZ.out.mono HW2.out.size)⟩
 ·have HS1 := h_ (show S = sayW wBad er by rw [HS.out, if_neg h0])
  have hz0 : (er != 0) = true := by simpa using h0
  have HAL := h_ ((Below.refl w1.heap.size w1).alloc (Nat.le_refl _) (.cells #[.int .i64 er] 3))
  have HSY := h_ (say_bad w1.heap.size er (w1.alloc (.cells #[.int .i64 er] 3)) (cell_new1 _ _ _) (by have := HES.out; omega) (HT1.out.below HAL.out))
  go_wp2_with (go_at_call 28; refine HSY.out.mono ?_; rintro e w2 ⟨rfl, hb2⟩)
  go_ret
  exact ⟨by rw [HS1.out]; rfl, HB1.out.trans ((HAL.out.trans (hb2.mono HAL.out.size)).mono z1)⟩
end Go.Proofs.YtjcdkbalhleeeaaGreatDoor

namespace Go.Proofs.YtjcdkbalhleeeaaGreatDoor
open Go.Proofs Go.RowKit
open Go.Lib (itoa join)
theorem step_callE {P : Program} {ops : Array Oper} {K : Act → World → Prop} {E' : Prop} {o : Oper} {a : Act} {w : World} {Q : Exit → Act → World → Prop} {R : Ending → World → Prop} (hg : o.guard = none) {f : FuncId} {args : Array Value}
    (hrun : (execOp a.eval o).run P w = .ok (.enter f args) w) (hc : Calls P f args w R)
    (hK : ∀ e w', R e w' → ∃ v, e = .returned v ∧ K (a.put o.dst v) w') :
    if Region.wanted o (yielded ops a.tmps) = true then Oper.wp P o a w K Q else E' := by
 rw [if_pos (by simp [Region.wanted, hg])]
 unfold Oper.wp
 rw [hrun, Oper.upon_enter]
 refine hc.mono fun e w' h => ?_
 obtain ⟨v, rfl, hk⟩ := hK e w' h
 exact hk
def wlkN (p : PG) (l : List Int) : Nat := if nextE p l = 0 then wlkE p (nats l) + 1 else 0
def wlkK (p : PG) (l : List Int) : Int := if nextE p l = 0 then kindZ p ((wk p (nats l) (wlkE p (nats l))).getD []) else 0
def RetWn (w : World) (p : PG) (l : List Int) (e : Ending) (w' : World) : Prop :=
 ∃ A c, e = .returned (.tuple #[.slice A (wlkN p l) c, .int .i64 (wlkK p l), .int .i64 (nextE p l)]) ∧ Below w.heap.size w w'
theorem walk_n (A : Option Addr) (c : Nat) (A2 : Option Addr) (c2 : Nat) (p : PG) (L : Option Addr) (l : List Int) (cl : Nat) (w : World) (hp : Pg w A c A2 c2 p) (hr : Rd w L cl l) :
    Calls Tryz.prog 24 #[.agg #[.slice A p.costs.length c, .slice A2 p.rows.length c2], .slice L l.length cl] w (RetWn w p l) := by
 refine (walk_Walk A c A2 c2 p L l cl w hp hr).mono fun e w' h => ?_
 obtain ⟨A5, n, c5, kd, er, rfl, hb, rfl, h0, h1⟩ := h.any
 by_cases he : nextE p l = 0
 ·obtain ⟨k, lk, rfl, hend, rfl, _⟩ := h1 he
  have hk := wlk_end (nextE_ok he) hend
  refine ⟨A5, c5, ?_, hb⟩
  unfold wlkN wlkK
  rw [if_pos he, if_pos he, hk, hend.at_]
  rfl
 ·obtain ⟨rfl, rfl⟩ := h0 he
  refine ⟨A5, c5, ?_, hb⟩
  unfold wlkN wlkK
  rw [if_neg he, if_neg he]
theorem wlkS_eq (p : PG) (l : List Int) : wlkS p l = if nextE p l = 0 then sayW (if wlkK p l = 1 then wBest else wEndless) ((wlkN p l : Nat) : Int) else sayW wBad (nextE p l) := by
 unfold wlkS wlkK wlkN
 by_cases h : nextE p l = 0
 ·rw [if_pos h, if_pos h, if_pos h, if_pos h]
 ·rw [if_neg h, if_neg h]
theorem wlkN_small (p : PG) (l : List Int) : wlkN p l ≤ 257 := by
 unfold wlkN wlkE
 split
 ·cases hf : (List.range 256).find? (fun k => match wk p (nats l) k with
    | some lk => (nxtZ p lk).isNone
    | none => false) with
  | none => simp
  | some j =>
   have := List.mem_range.1 (List.mem_of_find?_eq_some hf)
   simp only [Option.getD_some]
   omega
 ·omega
theorem lookE_small (p : PG) (l : List Int) : 0 ≤ lookE p l ∧ lookE p l ≤ 4 := by unfold lookE; split <;> (try split) <;> (try split) <;> omega
theorem nextE_small (p : PG) (l : List Int) : 0 ≤ nextE p l ∧ nextE p l ≤ 4 := by
 have := lookE_small p l
 unfold nextE; split <;> (try split) <;> omega
set_option maxRecDepth 100000 in
set_option maxHeartbeats 2000000 in
theorem drive_walk (g : Nat) (A : Option Addr) (c : Nat) (A2 : Option Addr) (c2 : Nat) (p : PG) (t3 t4 : Value) (B : Option Addr) (l : List Int) (cb : Nat) (w : World) (hbk : Blk w g 46 #[.slice A p.costs.length c, .slice A2 p.rows.length c2, t3, t4]) (hp : Pg w A c A2 c2 p) (hr : Rd w B cb l) (ht : Tab w) :
    Calls Tryz.prog 74 #[.pointer (some ⟨g, 0, none⟩), .slice B l.length cb] w (RetS w (wlkS p l)) := by
 have p0 : w.cell? ⟨g, 0, none⟩ = some (.slice A p.costs.length c) := hbk.cell 0
 have p1 : w.cell? ⟨g, 1, none⟩ = some (.slice A2 p.rows.length c2) := hbk.cell 1
 have hlt := hbk.lt
 have HT := h_ ht
 have HBK := h_ hbk
 have HC := h_ (fun (W : World) (hW : Below w.heap.size w W) => drive_columns B cb l W (hr.below hW))
 have HW := h_ (fun (W : World) (hW : Below w.heap.size w W) (A5 : Option Addr) (c5 : Nat) (h5 : Rd W A5 c5 l) => walk_n A c A2 c2 p A5 l c5 W (hp.below hW) h5)
 have hS := wlkS_eq p l
 have hn257 := wlkN_small p l
 have hes := nextE_small p l
 unfold RetWn at HW
 obtain ⟨S, hSd⟩ : ∃ S, wlkS p l = S := ⟨_, rfl⟩
 obtain ⟨er, her⟩ : ∃ er, nextE p l = er := ⟨_, rfl⟩
 obtain ⟨kd, hkd⟩ : ∃ kd, wlkK p l = kd := ⟨_, rfl⟩
 obtain ⟨n, hn⟩ : ∃ n, wlkN p l = n := ⟨_, rfl⟩
 rw [hSd, her, hkd, hn] at hS
 rw [hSd]
 rw [hn] at hn257
 rw [her] at hes
 simp only [her, hkd, hn] at HW
 have HS := h_ hS
 clear hS hSd her hkd hn hbk hp hr ht
 obtain ⟨hes1, hes2⟩ := hes
 unfold RetS
 go_enter Tryz.func74, Tryz.ntmps74
 go_upto_region 1 with fail
 go_cut [5, 6, 7] (fun s5 s6 s7 wx => ∃ A6 c6, s5 = .slice A6 n c6 ∧ s6 = .int .i64 kd ∧ s7 = .int .i64 er ∧ Below w.heap.size w wx)
 case first =>
  clear HS HT
  go_region_law (first
   | (refine step_callE (f := 110) rfl (by go_simp; done) (HC.out _ (by first | exact qR _ _ | exact (Below.refl _ _).drew)) ?_; rintro e w5 ⟨A5, c5, rfl, h5, hb5⟩; refine ⟨_, rfl, ?_⟩; have hw5 : Below w.heap.size w w5 := Below.trans (B := w.heap.size) (by first | exact qR _ _ | exact (Below.refl _ _).drew) (hb5.mono (by simp)); have B5 := HBK.out.next hw5; have p0' : w5.cell? ⟨g, 0, none⟩ = some (.slice A p.costs.length c) := B5.cell 0; have p1' : w5.cell? ⟨g, 1, none⟩ = some (.slice A2 p.rows.length c2) := B5.cell 1; have HW5 := h_ hw5; have H5 := h_ h5; clear hb5 hw5 h5 B5)
   | (refine step_callE (f := 24) rfl (by go_simp; done) (HW.out _ HW5.out A5 c5 H5.out) ?_; rintro e w6 ⟨A6, c6, rfl, hb6⟩; refine ⟨_, rfl, ?_⟩; have HW6 := h_ (HW5.out.trans (hb6.mono HW5.out.size)); clear hb6))
  all_goals go_wp2_with fail
  all_goals go_meet
  all_goals exact ⟨A6, c6, rfl, rfl, rfl, HW6.out⟩
 case rest =>
  obtain ⟨A6, c6, rfl, rfl, rfl, hbel⟩ := hcut
  rename World => V
  have HV := h_ hbel
  have HTV := h_ (HT.out.below hbel)
  have zV := hbel.size
  clear hbel p0 p1
  by_cases h0 : er = 0
  ·subst h0
   by_cases h1 : kd = 1
   ·subst h1
    have HS1 := h_ (show S = sayW wBest ((n : Nat) : Int) from HS.out)
    have HAL := h_ ((Below.refl (V).heap.size V).alloc (Nat.le_refl _) (.cells #[.int .i64 (n : Int)] 3))
    have HSY := h_ (say_best (V).heap.size (n : Int) ((V).alloc (.cells #[.int .i64 (n : Int)] 3)) (cell_new1 _ _ _) (by omega) ((HTV.out).below HAL.out))
    go_wp2_with (go_at_call 28; refine HSY.out.mono ?_; rintro e w9 ⟨rfl, hb9⟩)
    go_ret
    exact ⟨by rw [HS1.out]; rfl, (HV.out).trans ((HAL.out.trans (hb9.mono HAL.out.size)).mono (HV.out).size)⟩
   ·have HS1 := h_ (show S = sayW wEndless ((n : Nat) : Int) by rw [HS.out, if_pos rfl, if_neg h1])
    have hk1 : (kd == 1) = false := by simpa using h1
    have HAL := h_ ((Below.refl (V).heap.size V).alloc (Nat.le_refl _) (.cells #[.int .i64 (n : Int)] 3))
    have HSY := h_ (say_endless (V).heap.size (n : Int) ((V).alloc (.cells #[.int .i64 (n : Int)] 3)) (cell_new1 _ _ _) (by omega) ((HTV.out).below HAL.out))
    go_wp2_with (go_at_call 28; refine HSY.out.mono ?_; rintro e w9 ⟨rfl, hb9⟩)
    go_ret
    exact ⟨by rw [HS1.out]; rfl, (HV.out).trans ((HAL.out.trans (hb9.mono HAL.out.size)).mono (HV.out).size)⟩
  ·have HS1 := h_ (show S = sayW wBad er by rw [HS.out, if_neg h0])
   have hz0 : (er != 0) = true := by simpa using h0
   have HAL := h_ ((Below.refl (V).heap.size V).alloc (Nat.le_refl _) (.cells #[.int .i64 er] 3))
   have HSY := h_ (say_bad (V).heap.size er ((V).alloc (.cells #[.int .i64 er] 3)) (cell_new1 _ _ _) (by omega) ((HTV.out).below HAL.out))
   go_wp2_with (go_at_call 28; refine HSY.out.mono ?_; rintro e w9 ⟨rfl, hb9⟩)
   go_ret
   exact ⟨by rw [HS1.out]; rfl, (HV.out).trans ((HAL.out.trans (hb9.mono HAL.out.size)).mono (HV.out).size)⟩
end Go.Proofs.YtjcdkbalhleeeaaGreatDoor

namespace Go.Proofs.YtjcdkbalhleeeaaGreatDoor
open Go.Proofs Go.RowKit
open Go.Lib (itoa join)
def CutKd (W : World) (c : CO) (v2 : Value) (s t : Value) (wx : World) : Prop :=
 ∃ b X cx Y cy G cg, s = .pointer (some ⟨b, 0, none⟩) ∧ t = v2 ∧ W.heap.size ≤ b ∧
  Blk wx b 64 #[.slice X c.xs.length cx, .int .i64 c.xd, .slice Y c.ys.length cy, .int .i64 c.yd, .slice G c.gs.length cg, .int .i64 c.gd] ∧ Rd wx X cx c.xs ∧ Rd wx G cg c.gs ∧ Below W.heap.size W wx
theorem cutKd {W w5 : World} {b : Nat} {c : CO} {v2 : Value} {X Y G : Option Addr} {cx cy cg : Nat} {z0 z1 z2 z3 z4 z5 : Value} (hb : W.heap.size ≤ b) (hblk : Blk w5 b 64 #[z0, z1, z2, z3, z4, z5])
    (hX : Rd w5 X cx c.xs) (hne : ∀ ad, X = some ad → ad.block ≠ b) (hG : Rd w5 G cg c.gs) (hne' : ∀ ad, G = some ad → ad.block ≠ b) (hbel : Below W.heap.size W w5) :
    CutKd W c v2 (.pointer (some ⟨b, 0, none⟩)) v2 ((((((w5.setCell ⟨b, 0, none⟩ (.slice X c.xs.length cx)).setCell ⟨b, 1, none⟩ (.int .i64 c.xd)).setCell ⟨b, 2, none⟩ (.slice Y c.ys.length cy)).setCell ⟨b, 3, none⟩ (.int .i64 c.yd)).setCell ⟨b, 4, none⟩ (.slice G c.gs.length cg)).setCell ⟨b, 5, none⟩ (.int .i64 c.gd)) :=
 ⟨b, X, cx, Y, cy, G, cg, rfl, rfl, hb, (((((hblk.set0 0 _).set0 1 _).set0 2 _).set0 3 _).set0 4 _).set0 5 _,
  (((((hX.setCell_out _ _ (fun ad e => hne ad e)).setCell_out _ _ (fun ad e => hne ad e)).setCell_out _ _ (fun ad e => hne ad e)).setCell_out _ _ (fun ad e => hne ad e)).setCell_out _ _ (fun ad e => hne ad e)).setCell_out _ _ (fun ad e => hne ad e),
  (((((hG.setCell_out _ _ (fun ad e => hne' ad e)).setCell_out _ _ (fun ad e => hne' ad e)).setCell_out _ _ (fun ad e => hne' ad e)).setCell_out _ _ (fun ad e => hne' ad e)).setCell_out _ _ (fun ad e => hne' ad e)).setCell_out _ _ (fun ad e => hne' ad e),
  (((((hbel.setCell hb _).setCell hb _).setCell hb _).setCell hb _).setCell hb _).setCell hb _⟩
theorem cutKd_after {W w5 : World} {c : CO} {v2 : Value} {X Y G : Option Addr} {cx cy cg : Nat} (hX : Rd w5 X cx c.xs) (hG : Rd w5 G cg c.gs) (hbel : Below W.heap.size W w5) :
    CutKd W c v2 (.pointer (some ⟨w5.heap.size, 0, none⟩)) v2 (w5.alloc (.cells #[.slice X c.xs.length cx, .int .i64 c.xd, .slice Y c.ys.length cy, .int .i64 c.yd, .slice G c.gs.length cg, .int .i64 c.gd] 64)) :=
 ⟨w5.heap.size, X, cx, Y, cy, G, cg, rfl, rfl, hbel.size, Blk.mk' _ _ _, hX.alloc _, hG.alloc _, hbel.alloc hbel.size _⟩
def CutFr (W : World) (n d : Int) (a : Value) (wx : World) : Prop :=
 ∃ b, a = .pointer (some ⟨b, 0, none⟩) ∧ W.heap.size ≤ b ∧ Blk wx b 55 #[.int .i64 n, .int .i64 d] ∧ Below W.heap.size W wx
theorem cutFr {W w5 : World} {b : Nat} {n d : Int} {z0 z1 : Value} (hb : W.heap.size ≤ b) (hblk : Blk w5 b 55 #[z0, z1]) (hbel : Below W.heap.size W w5) :
    CutFr W n d (.pointer (some ⟨b, 0, none⟩)) ((w5.setCell ⟨b, 0, none⟩ (.int .i64 n)).setCell ⟨b, 1, none⟩ (.int .i64 d)) :=
 ⟨b, rfl, hb, by
  have h := (hblk.set0 0 (.int .i64 n)).set0 1 (.int .i64 d)
  simp only [List.setIfInBounds_toArray, List.set_cons_zero, List.set_cons_succ] at h
  exact h, (hbel.setCell (p := ⟨b, 0, none⟩) hb (.int .i64 n)).setCell (p := ⟨b, 1, none⟩) hb (.int .i64 d)⟩
theorem cutFr_after {W w5 : World} {n d : Int} (hbel : Below W.heap.size W w5) : CutFr W n d (.pointer (some ⟨w5.heap.size, 0, none⟩)) (w5.alloc (.cells #[.int .i64 n, .int .i64 d] 55)) :=
 ⟨w5.heap.size, rfl, hbel.size, Blk.mk' _ _ _, hbel.alloc hbel.size _⟩
theorem wth_small (p : PG) (l : List Int) : (-9223372036854775807 ≤ wthN p l ∧ wthN p l ≤ 9223372036854775807) ∧ (-9223372036854775807 ≤ wthD p l ∧ wthD p l ≤ 9223372036854775807) ∧ (frcW (wthN p l) (wthD p l)).length ≤ 43 := by
 have key : (-1073741824 ≤ wthN p l ∧ wthN p l ≤ 1073741824) ∧ (-1073741824 ≤ wthD p l ∧ wthD p l ≤ 1073741824) := by
  unfold wthN wthD
  generalize dot p.costs ((lookC p l).xs.take p.costs.length) = n
  generalize (lookC p l).xd = d
  by_cases he : ptE [n] d = 0
  ·have h0 : d ≠ 0 := by
     intro e
     unfold ptE at he
     rw [if_pos (.inl e)] at he
     cases he
   obtain ⟨_, h2, _, h3, h4, h5⟩ := frac_good h0 he
   omega
  ·unfold frN ptN ptD
   rw [if_neg he, if_neg he]
   simp
 exact ⟨by omega, by omega, frc_len _ _ key.1 key.2⟩
set_option maxRecDepth 100000 in
set_option maxHeartbeats 4000000 in
theorem drive_look (g : Nat) (A : Option Addr) (c : Nat) (A2 : Option Addr) (c2 : Nat) (p : PG) (t3 t4 : Value) (B : Option Addr) (l : List Int) (cb : Nat) (w : World) (hbk : Blk w g 46 #[.slice A p.costs.length c, .slice A2 p.rows.length c2, t3, t4]) (hp : Pg w A c A2 c2 p) (hr : Rd w B cb l) (ht : Tab w) :
    Calls Tryz.prog 73 #[.pointer (some ⟨g, 0, none⟩), .slice B l.length cb] w (RetS w (lokS p l)) := by
 have p0 : w.cell? ⟨g, 0, none⟩ = some (.slice A p.costs.length c) := hbk.cell 0
 have p1 : w.cell? ⟨g, 1, none⟩ = some (.slice A2 p.rows.length c2) := hbk.cell 1
 have a00 : ∀ o, (w.alloc o).cell? ⟨g, 0, none⟩ = some (.slice A p.costs.length c) := fun o => (((Below.refl w.heap.size w).alloc (Nat.le_refl _) o).cell (lc_ p0)).trans p0
 have a01 : ∀ o, (w.alloc o).cell? ⟨g, 1, none⟩ = some (.slice A2 p.rows.length c2) := fun o => (((Below.refl w.heap.size w).alloc (Nat.le_refl _) o).cell (lc_ p1)).trans p1
 have hlt := hbk.lt
 have HT := h_ ht
 have HBK := h_ hbk
 have HP := h_ hp
 have HC := h_ (fun (W : World) (hW : Below w.heap.size w W) => drive_columns B cb l W (hr.below hW))
 have HW := h_ (fun (W : World) (hW : Below w.heap.size w W) (A5 : Option Addr) (c5 : Nat) (h5 : Rd W A5 c5 l) => corner_Look A c A2 c2 p A5 l c5 W (hp.below hW) h5)
 have hes := lookE_small p l
 have hS : lokS p l = if lookE p l = 0 then (if nonneg (lookC p l).xs = true then wGoes else wNot) ++ 32 :: frcW (wthN p l) (wthD p l) else sayW wBad (lookE p l) := rfl
 obtain ⟨S, hSd⟩ : ∃ S, lokS p l = S := ⟨_, rfl⟩
 obtain ⟨er, her⟩ : ∃ er, lookE p l = er := ⟨_, rfl⟩
 obtain ⟨cc, hcc⟩ : ∃ cc, lookC p l = cc := ⟨_, rfl⟩
 have HWS := h_ (wth_small p l)
 have HWN := h_ (show wthN p l = frN (dot p.costs (cc.xs.take p.costs.length)) cc.xd by rw [← hcc]; rfl)
 have HWD := h_ (show wthD p l = ptD [dot p.costs (cc.xs.take p.costs.length)] cc.xd by rw [← hcc]; rfl)
 have HCC := h_ (show er = 0 → mayPB p = true ∧ 0 < p.costs.length ∧ cc.xs.length = p.costs.length + p.rows.length ∧ 2 ≤ cc.xs.length ∧ 2 ≤ cc.gs.length ∧ smallB 497664 (cc.xs.take p.costs.length) = true from fun e => by
  rw [← her] at e
  obtain ⟨hm, _, _⟩ := look_parts e
  obtain ⟨_, _, _, hcd⟩ := look_corn e
  have hsv := var_small hcd
  unfold varL at hsv
  rw [hcc] at hcd hsv
  have hq := mayPB_iff.1 hm
  exact ⟨hm, by omega, hcd.lx, by rw [hcd.lx]; omega, by rw [hcd.lg]; omega, hsv⟩)
 rw [hSd, her, hcc] at hS
 rw [hSd]
 rw [her] at hes
 simp only [her, hcc] at HW
 have HS := h_ hS
 clear hS hSd her hcc hbk hp hr ht
 obtain ⟨hes1, hes2⟩ := hes
 unfold RetS
 go_enter Tryz.func73, Tryz.ntmps73
 by_cases h0 : er = 0
 ·subst h0
  obtain ⟨hm, hn0, hlx, hx2, hg2, hsv⟩ := HCC.out rfl
  have HX2 := h_ hx2
  have HG2 := h_ hg2
  have HM := h_ hm
  have HLX := h_ hlx
  have HSV := h_ hsv
  clear hm hlx hx2 hg2 hsv HCC
  go_upto_region 1 with fail
  go_cut [5, 6] (fun s5 s6 wx => CutKd w cc (.int .i64 0) s5 s6 wx)
  case first =>
   clear HS HT HWS HWN HWD HM HLX HSV HP
   go_region_law (first
    | (refine step_callE (f := 110) rfl (by go_simp; done) (HC.out _ (by first | exact qR _ _ | exact (Below.refl _ _).drew | exact (Below.refl _ _).drew.alloc (Nat.le_refl _) _ | exact ((Below.refl _ _).alloc (Nat.le_refl _) _).drew)) ?_; rintro e w5 ⟨A5, c5, rfl, h5, hb5⟩; refine ⟨_, rfl, ?_⟩; have hw5 : Below w.heap.size w w5 := Below.trans (B := w.heap.size) (by first | exact qR _ _ | exact (Below.refl _ _).drew | exact (Below.refl _ _).drew.alloc (Nat.le_refl _) _ | exact ((Below.refl _ _).alloc (Nat.le_refl _) _).drew) (hb5.mono (by simp)); have B5 := HBK.out.next hw5; have p0' : w5.cell? ⟨g, 0, none⟩ = some (.slice A p.costs.length c) := B5.cell 0; have p1' : w5.cell? ⟨g, 1, none⟩ = some (.slice A2 p.rows.length c2) := B5.cell 1; have b00 : ∀ o, (w5.alloc o).cell? ⟨g, 0, none⟩ = some (.slice A p.costs.length c) := fun o => (((Below.refl w5.heap.size w5).alloc (Nat.le_refl _) o).cell (lc_ p0')).trans p0'; have b01 : ∀ o, (w5.alloc o).cell? ⟨g, 1, none⟩ = some (.slice A2 p.rows.length c2) := fun o => (((Below.refl w5.heap.size w5).alloc (Nat.le_refl _) o).cell (lc_ p1')).trans p1'; have hl5 := B5.lt; have HW5 := h_ hw5; have H5 := h_ h5; clear hw5 h5 B5)
    | (refine step_callE (f := 20) rfl (by go_simp; done) (HW.out _ (by first | exact HW5.out | exact HW5.out.alloc HW5.out.size _) A5 c5 (by first | exact H5.out | exact H5.out.alloc _)) ?_; rintro e w6 ⟨X5, cx5, Y5, cy5, G5, cg5, rfl, hX5, _, hG5, hb6⟩; refine ⟨_, rfl, ?_⟩; (try (have hb56 := hb5.trans (hb6.mono hb5.size))); (try (have Bq : Blk w6 (w).heap.size 64 #[.slice none 0 0, .int .i64 0, .slice none 0 0, .int .i64 0, .slice none 0 0, .int .i64 0] := (by first | exact Blk.next (Blk.mk' _ _ _) hb56 | exact Blk.next ((Blk.mk' _ _ _).drew) hb56); have e0 : (w6).cell? ⟨(w).heap.size, 0, none⟩ = some (Value.slice none 0 0) := Bq.cell 0; have f0 : (w6).frozen? ⟨(w).heap.size, 0, none⟩ = false := Bq.frozen 0; have e1 : (w6).cell? ⟨(w).heap.size, 1, none⟩ = some (Value.int .i64 0) := Bq.cell 1; have f1 : (w6).frozen? ⟨(w).heap.size, 1, none⟩ = false := Bq.frozen 1; have e2 : (w6).cell? ⟨(w).heap.size, 2, none⟩ = some (Value.slice none 0 0) := Bq.cell 2; have f2 : (w6).frozen? ⟨(w).heap.size, 2, none⟩ = false := Bq.frozen 2; have e3 : (w6).cell? ⟨(w).heap.size, 3, none⟩ = some (Value.int .i64 0) := Bq.cell 3; have f3 : (w6).frozen? ⟨(w).heap.size, 3, none⟩ = false := Bq.frozen 3; have e4 : (w6).cell? ⟨(w).heap.size, 4, none⟩ = some (Value.slice none 0 0) := Bq.cell 4; have f4 : (w6).frozen? ⟨(w).heap.size, 4, none⟩ = false := Bq.frozen 4; have e5 : (w6).cell? ⟨(w).heap.size, 5, none⟩ = some (Value.int .i64 0) := Bq.cell 5; have f5 : (w6).frozen? ⟨(w).heap.size, 5, none⟩ = false := Bq.frozen 5)); (try (have Bq : Blk w6 (w5).heap.size 64 #[.slice none 0 0, .int .i64 0, .slice none 0 0, .int .i64 0, .slice none 0 0, .int .i64 0] := (by first | exact Blk.next (Blk.mk' _ _ _) hb6 | exact Blk.next ((Blk.mk' _ _ _).drew) hb6); have e0 : (w6).cell? ⟨(w5).heap.size, 0, none⟩ = some (Value.slice none 0 0) := Bq.cell 0; have f0 : (w6).frozen? ⟨(w5).heap.size, 0, none⟩ = false := Bq.frozen 0; have e1 : (w6).cell? ⟨(w5).heap.size, 1, none⟩ = some (Value.int .i64 0) := Bq.cell 1; have f1 : (w6).frozen? ⟨(w5).heap.size, 1, none⟩ = false := Bq.frozen 1; have e2 : (w6).cell? ⟨(w5).heap.size, 2, none⟩ = some (Value.slice none 0 0) := Bq.cell 2; have f2 : (w6).frozen? ⟨(w5).heap.size, 2, none⟩ = false := Bq.frozen 2; have e3 : (w6).cell? ⟨(w5).heap.size, 3, none⟩ = some (Value.int .i64 0) := Bq.cell 3; have f3 : (w6).frozen? ⟨(w5).heap.size, 3, none⟩ = false := Bq.frozen 3; have e4 : (w6).cell? ⟨(w5).heap.size, 4, none⟩ = some (Value.slice none 0 0) := Bq.cell 4; have f4 : (w6).frozen? ⟨(w5).heap.size, 4, none⟩ = false := Bq.frozen 4; have e5 : (w6).cell? ⟨(w5).heap.size, 5, none⟩ = some (Value.int .i64 0) := Bq.cell 5; have f5 : (w6).frozen? ⟨(w5).heap.size, 5, none⟩ = false := Bq.frozen 5))))
   all_goals go_wp2_with fail
   all_goals go_meet
   all_goals first
    | (have hq := Bq
       have h6 : Below w.heap.size w w6 := HW5.out.trans (hb6.mono HW5.out.size)
       exact cutKd (Nat.le_refl _) hq hX5 (hX5.not_box HX2.out Bq) hG5 (hG5.not_box HG2.out Bq) h6)
    | (have hq := Bq
       have h6 : Below w.heap.size w w6 := (HW5.out.alloc HW5.out.size _).trans (hb6.mono (HW5.out.alloc HW5.out.size _).size)
       exact cutKd HW5.out.size hq hX5 (hX5.not_box HX2.out Bq) hG5 (hG5.not_box HG2.out Bq) h6)
    | exact cutKd_after hX5 hG5 (HW5.out.trans (hb6.mono HW5.out.size))
  case rest =>
   obtain ⟨bq, X5, cx5, Y5, cy5, G5, cg5, rfl, rfl, hbq, hBq, hXq, hGq, hbel⟩ := hcut
   rename World => V
   have HV := h_ hbel
   have HBQ := h_ hBq
   have HXQ := h_ hXq
   have HTV := h_ (HT.out.below hbel)
   have BV := h_ (HBK.out.next hbel)
   have zV := hbel.size
   clear p0 p1 a00 a01 hbel hBq hXq hGq HW HC
   have HS1 := h_ (show S = (if nonneg cc.xs = true then wGoes else wNot) ++ 32 :: frcW (wthN p l) (wthD p l) by rw [HS.out, if_pos rfl])
   obtain ⟨nn, hnn⟩ : ∃ nn, wthN p l = nn := ⟨_, rfl⟩
   obtain ⟨dd, hdd⟩ : ∃ dd, wthD p l = dd := ⟨_, rfl⟩
   rw [hnn, hdd] at HWS HS1
   rw [hnn] at HWN
   rw [hdd] at HWD
   have HVA := h_ (fun (W : World) (hW : Below V.heap.size V W) => walk_Value A c A2 c2 p X5 Y5 G5 cx5 cc.ys.length cy5 cc.gs.length cg5 cc.xs cc.xd cc.yd cc.gd W ((HP.out.below HV.out).below hW) HM.out (HXQ.out.below hW) (by have := HX2.out; omega) (by have := HLX.out; omega) HSV.out)
   obtain ⟨dt, hdt⟩ : ∃ dt, dot p.costs (cc.xs.take p.costs.length) = dt := ⟨_, rfl⟩
   rw [hdt] at HVA HWN HWD
   have HMK := h_ (fun (W : World) => show Calls Tryz.prog 83 #[.int .i64 dt, .int .i64 cc.xd] W (RetFr W nn dd (ptE [dt] cc.xd)) from by
    have := frac_Make dt cc.xd W
    rwa [← HWN.out, ← HWD.out] at this)
   clear hnn hdd hdt
   have v0 : V.cell? ⟨bq, 0, none⟩ = some (.slice X5 cc.xs.length cx5) := HBQ.out.cell 0
   have v1 : V.cell? ⟨bq, 1, none⟩ = some (.int .i64 cc.xd) := HBQ.out.cell 1
   have v2 : V.cell? ⟨bq, 2, none⟩ = some (.slice Y5 cc.ys.length cy5) := HBQ.out.cell 2
   have v3 : V.cell? ⟨bq, 3, none⟩ = some (.int .i64 cc.yd) := HBQ.out.cell 3
   have v4 : V.cell? ⟨bq, 4, none⟩ = some (.slice G5 cc.gs.length cg5) := HBQ.out.cell 4
   have v5 : V.cell? ⟨bq, 5, none⟩ = some (.int .i64 cc.gd) := HBQ.out.cell 5
   have q0 : V.cell? ⟨g, 0, none⟩ = some (.slice A p.costs.length c) := BV.out.cell 0
   have q1 : V.cell? ⟨g, 1, none⟩ = some (.slice A2 p.rows.length c2) := BV.out.cell 1
   have w0 : ∀ o, (V.alloc o).cell? ⟨bq, 0, none⟩ = some (.slice X5 cc.xs.length cx5) := fun o => (HBQ.out.alloc o).cell 0
   have w1 : ∀ o, (V.alloc o).cell? ⟨bq, 1, none⟩ = some (.int .i64 cc.xd) := fun o => (HBQ.out.alloc o).cell 1
   have w2 : ∀ o, (V.alloc o).cell? ⟨bq, 2, none⟩ = some (.slice Y5 cc.ys.length cy5) := fun o => (HBQ.out.alloc o).cell 2
   have w3 : ∀ o, (V.alloc o).cell? ⟨bq, 3, none⟩ = some (.int .i64 cc.yd) := fun o => (HBQ.out.alloc o).cell 3
   have w4 : ∀ o, (V.alloc o).cell? ⟨bq, 4, none⟩ = some (.slice G5 cc.gs.length cg5) := fun o => (HBQ.out.alloc o).cell 4
   have w5 : ∀ o, (V.alloc o).cell? ⟨bq, 5, none⟩ = some (.int .i64 cc.gd) := fun o => (HBQ.out.alloc o).cell 5
   have r0 : ∀ o, (V.alloc o).cell? ⟨g, 0, none⟩ = some (.slice A p.costs.length c) := fun o => (BV.out.alloc o).cell 0
   have r1 : ∀ o, (V.alloc o).cell? ⟨g, 1, none⟩ = some (.slice A2 p.rows.length c2) := fun o => (BV.out.alloc o).cell 1
   have lV := BV.out.lt
   have lQ := HBQ.out.lt
   go_upto_region 4 with fail
   go_cut [7] (fun s7 wx => CutFr V nn dd s7 wx)
   case first =>
    clear HS HT HWS HWN HWD HM HLX HSV HP HS1 HX2 HG2 HXQ HTV HBK BV HV
    unfold RetFr at HMK
    go_region_law (first
     | (refine step_callE (f := 97) rfl (by go_simp; done) (HVA.out _ (by first | exact qR _ _ | exact (Below.refl _ _).drew | exact (Below.refl _ _).drew.alloc (Nat.le_refl _) _ | exact ((Below.refl _ _).alloc (Nat.le_refl _) _).drew)) ?_; rintro e y5 ⟨rfl, hb5⟩; refine ⟨_, rfl, ?_⟩; have hy5 : Below V.heap.size V y5 := Below.trans (B := V.heap.size) (by first | exact qR _ _ | exact (Below.refl _ _).drew | exact (Below.refl _ _).drew.alloc (Nat.le_refl _) _ | exact ((Below.refl _ _).alloc (Nat.le_refl _) _).drew) (hb5.mono (by simp)); have B5 := HBQ.out.next hy5; have x1' : y5.cell? ⟨bq, 1, none⟩ = some (.int .i64 cc.xd) := B5.cell 1; have x1'' : ∀ o, (y5.alloc o).cell? ⟨bq, 1, none⟩ = some (.int .i64 cc.xd) := fun o => (B5.alloc o).cell 1; have hl5 := B5.lt; have HY5 := h_ hy5; clear hy5 B5)
     | (refine step_callE (f := 83) rfl (by go_simp; done) (HMK.out _) ?_; rintro e y6 ⟨rfl, hb6⟩; refine ⟨_, rfl, ?_⟩; (try (have hb56 := hb5.trans (hb6.mono hb5.size))); (try
         (have Bq : Blk y6 (V).heap.size 55 #[.int .i64 0, .int .i64 0] := (by first | exact Blk.next (Blk.mk' _ _ _) hb56 | exact Blk.next ((Blk.mk' _ _ _).drew) hb56); have e0 : (y6).cell? ⟨(V).heap.size, 0, none⟩ = some (.int .i64 0) := Bq.cell 0; have e1 : (y6).cell? ⟨(V).heap.size, 1, none⟩ = some (.int .i64 0) := Bq.cell 1; have f0 := Bq.frozen 0; have f1 := Bq.frozen 1)
         ); (try
         (have Bq : Blk y6 (y5).heap.size 55 #[.int .i64 0, .int .i64 0] := (by first | exact Blk.next (Blk.mk' _ _ _) hb6 | exact Blk.next ((Blk.mk' _ _ _).drew) hb6); have e0 : (y6).cell? ⟨(y5).heap.size, 0, none⟩ = some (.int .i64 0) := Bq.cell 0; have e1 : (y6).cell? ⟨(y5).heap.size, 1, none⟩ = some (.int .i64 0) := Bq.cell 1; have f0 := Bq.frozen 0; have f1 := Bq.frozen 1)
         )))
    all_goals go_wp2_with fail
    all_goals go_meet
    all_goals first
     | (have hq := Bq
        have h6 : Below V.heap.size V y6 := HY5.out.trans (hb6.mono HY5.out.size)
        exact cutFr (Nat.le_refl _) hq h6)
     | (have hq := Bq
        have h6 : Below V.heap.size V y6 := (HY5.out.alloc HY5.out.size _).trans (hb6.mono (HY5.out.alloc HY5.out.size _).size)
        exact cutFr HY5.out.size hq h6)
     | exact cutFr_after (HY5.out.trans (hb6.mono HY5.out.size))
   case rest =>
    obtain ⟨bf, rfl, hbf, hBf, hbel2⟩ := hcut
    rename World => V2
    have HV2 := h_ hbel2
    have HBF := h_ hBf
    have HT2 := h_ (HTV.out.below hbel2)
    have HB2 := h_ (HV.out.trans (hbel2.mono zV))
    have BQ2 := HBQ.out.next hbel2
    have HXQ2 := h_ (HXQ.out.below hbel2)
    clear hbel2 hBf v0 v1 v2 v3 v4 v5 q0 q1 w0 w1 w2 w3 w4 w5 r0 r1 HVA HMK
    have v0 : V2.cell? ⟨bq, 0, none⟩ = some (.slice X5 cc.xs.length cx5) := BQ2.cell 0
    have v1 : V2.cell? ⟨bq, 1, none⟩ = some (.int .i64 cc.xd) := BQ2.cell 1
    have v2 : V2.cell? ⟨bq, 2, none⟩ = some (.slice Y5 cc.ys.length cy5) := BQ2.cell 2
    have v3 : V2.cell? ⟨bq, 3, none⟩ = some (.int .i64 cc.yd) := BQ2.cell 3
    have v4 : V2.cell? ⟨bq, 4, none⟩ = some (.slice G5 cc.gs.length cg5) := BQ2.cell 4
    have v5 : V2.cell? ⟨bq, 5, none⟩ = some (.int .i64 cc.gd) := BQ2.cell 5
    clear BQ2
    go_wp2_with fail
    refine (solve_Goes X5 Y5 G5 cx5 _ _ _ _ cc.xs _ _ _ V2 HXQ2.out).mono ?_
    rintro e w8 ⟨rfl, hb8⟩
    have BF8 := HBF.out.next hb8
    have HT8 := h_ (HT2.out.below hb8)
    have HB8 := h_ (HB2.out.trans (hb8.mono HB2.out.size))
    clear hb8 v0 v1 v2 v3 v4 v5
    have u0 : w8.cell? ⟨bf, 0, none⟩ = some (.int .i64 nn) := BF8.cell 0
    have u1 : w8.cell? ⟨bf, 1, none⟩ = some (.int .i64 dd) := BF8.cell 1
    clear BF8
    obtain ⟨hw1, hw2, hw3⟩ := HWS.out
    have HFR := h_ (drive_fraction nn dd w8 hw1 hw2 HT8.out)
    cases hng : nonneg cc.xs with
    | true =>
     have HS2 := h_ (show S = [103, 111, 101, 115, 32] ++ frcW nn dd by rw [HS1.out, hng]; rfl)
     have ha : ∀ W, (Op.stringOp .add { data := #[103, 111, 101, 115, 32] } (bs (frcW nn dd))).run Tryz.prog W = .ok (.string (bs S)) W := fun W => by
      rw [HS2.out]
      exact run_add _ _ (by simp; omega) W
     clear hw1 hw2 hw3 hng
     generalize bs (frcW nn dd) = t1 at *
     go_wp2_with (go_at_call 109; refine HFR.out.mono ?_; rintro e w9 ⟨rfl, hb9⟩)
     go_ret
     exact ⟨rfl, HB8.out.trans (hb9.mono HB8.out.size)⟩
    | false =>
     have HS2 := h_ (show S = [110, 111, 116, 32] ++ frcW nn dd by rw [HS1.out, hng]; rfl)
     have ha : ∀ W, (Op.stringOp .add { data := #[110, 111, 116, 32] } (bs (frcW nn dd))).run Tryz.prog W = .ok (.string (bs S)) W := fun W => by
      rw [HS2.out]
      exact run_add _ _ (by simp; omega) W
     clear hw1 hw2 hw3 hng
     generalize bs (frcW nn dd) = t1 at *
     go_wp2_with (go_at_call 109; refine HFR.out.mono ?_; rintro e w9 ⟨rfl, hb9⟩)
     go_ret
     exact ⟨rfl, HB8.out.trans (hb9.mono HB8.out.size)⟩
 ·have HS1 := h_ (show S = sayW wBad er by rw [HS.out, if_neg h0])
  have hz0 : (er != 0) = true := by simpa using h0
  go_upto_region 1 with fail
  go_cut [6] (fun s6 wx => s6 = .int .i64 er ∧ Below w.heap.size w wx)
  case first =>
   clear HS HT HWS HWN HWD HP HS1 HCC
   go_region_law (first
    | (refine step_callE (f := 110) rfl (by go_simp; done) (HC.out _ (by first | exact qR _ _ | exact (Below.refl _ _).drew | exact (Below.refl _ _).drew.alloc (Nat.le_refl _) _ | exact ((Below.refl _ _).alloc (Nat.le_refl _) _).drew)) ?_; rintro e w5 ⟨A5, c5, rfl, h5, hb5⟩; refine ⟨_, rfl, ?_⟩; have hw5 : Below w.heap.size w w5 := Below.trans (B := w.heap.size) (by first | exact qR _ _ | exact (Below.refl _ _).drew | exact (Below.refl _ _).drew.alloc (Nat.le_refl _) _ | exact ((Below.refl _ _).alloc (Nat.le_refl _) _).drew) (hb5.mono (by simp)); have B5 := HBK.out.next hw5; have p0' : w5.cell? ⟨g, 0, none⟩ = some (.slice A p.costs.length c) := B5.cell 0; have p1' : w5.cell? ⟨g, 1, none⟩ = some (.slice A2 p.rows.length c2) := B5.cell 1; have b00 : ∀ o, (w5.alloc o).cell? ⟨g, 0, none⟩ = some (.slice A p.costs.length c) := fun o => (((Below.refl w5.heap.size w5).alloc (Nat.le_refl _) o).cell (lc_ p0')).trans p0'; have b01 : ∀ o, (w5.alloc o).cell? ⟨g, 1, none⟩ = some (.slice A2 p.rows.length c2) := fun o => (((Below.refl w5.heap.size w5).alloc (Nat.le_refl _) o).cell (lc_ p1')).trans p1'; have hl5 := B5.lt; have HW5 := h_ hw5; have H5 := h_ h5; clear hw5 h5 B5)
    | (refine step_callE (f := 20) rfl (by go_simp; done) (HW.out _ (by first | exact HW5.out | exact HW5.out.alloc HW5.out.size _) A5 c5 (by first | exact H5.out | exact H5.out.alloc _)) ?_; rintro e w6 ⟨X5, cx5, Y5, cy5, G5, cg5, rfl, hX5, _, hG5, hb6⟩; refine ⟨_, rfl, ?_⟩; (try (have hb56 := hb5.trans (hb6.mono hb5.size))); (try (have Bq : Blk w6 (w).heap.size 64 #[.slice none 0 0, .int .i64 0, .slice none 0 0, .int .i64 0, .slice none 0 0, .int .i64 0] := (by first | exact Blk.next (Blk.mk' _ _ _) hb56 | exact Blk.next ((Blk.mk' _ _ _).drew) hb56); have e0 : (w6).cell? ⟨(w).heap.size, 0, none⟩ = some (Value.slice none 0 0) := Bq.cell 0; have f0 : (w6).frozen? ⟨(w).heap.size, 0, none⟩ = false := Bq.frozen 0; have e1 : (w6).cell? ⟨(w).heap.size, 1, none⟩ = some (Value.int .i64 0) := Bq.cell 1; have f1 : (w6).frozen? ⟨(w).heap.size, 1, none⟩ = false := Bq.frozen 1; have e2 : (w6).cell? ⟨(w).heap.size, 2, none⟩ = some (Value.slice none 0 0) := Bq.cell 2; have f2 : (w6).frozen? ⟨(w).heap.size, 2, none⟩ = false := Bq.frozen 2; have e3 : (w6).cell? ⟨(w).heap.size, 3, none⟩ = some (Value.int .i64 0) := Bq.cell 3; have f3 : (w6).frozen? ⟨(w).heap.size, 3, none⟩ = false := Bq.frozen 3; have e4 : (w6).cell? ⟨(w).heap.size, 4, none⟩ = some (Value.slice none 0 0) := Bq.cell 4; have f4 : (w6).frozen? ⟨(w).heap.size, 4, none⟩ = false := Bq.frozen 4; have e5 : (w6).cell? ⟨(w).heap.size, 5, none⟩ = some (Value.int .i64 0) := Bq.cell 5; have f5 : (w6).frozen? ⟨(w).heap.size, 5, none⟩ = false := Bq.frozen 5)); (try (have Bq : Blk w6 (w5).heap.size 64 #[.slice none 0 0, .int .i64 0, .slice none 0 0, .int .i64 0, .slice none 0 0, .int .i64 0] := (by first | exact Blk.next (Blk.mk' _ _ _) hb6 | exact Blk.next ((Blk.mk' _ _ _).drew) hb6); have e0 : (w6).cell? ⟨(w5).heap.size, 0, none⟩ = some (Value.slice none 0 0) := Bq.cell 0; have f0 : (w6).frozen? ⟨(w5).heap.size, 0, none⟩ = false := Bq.frozen 0; have e1 : (w6).cell? ⟨(w5).heap.size, 1, none⟩ = some (Value.int .i64 0) := Bq.cell 1; have f1 : (w6).frozen? ⟨(w5).heap.size, 1, none⟩ = false := Bq.frozen 1; have e2 : (w6).cell? ⟨(w5).heap.size, 2, none⟩ = some (Value.slice none 0 0) := Bq.cell 2; have f2 : (w6).frozen? ⟨(w5).heap.size, 2, none⟩ = false := Bq.frozen 2; have e3 : (w6).cell? ⟨(w5).heap.size, 3, none⟩ = some (Value.int .i64 0) := Bq.cell 3; have f3 : (w6).frozen? ⟨(w5).heap.size, 3, none⟩ = false := Bq.frozen 3; have e4 : (w6).cell? ⟨(w5).heap.size, 4, none⟩ = some (Value.slice none 0 0) := Bq.cell 4; have f4 : (w6).frozen? ⟨(w5).heap.size, 4, none⟩ = false := Bq.frozen 4; have e5 : (w6).cell? ⟨(w5).heap.size, 5, none⟩ = some (Value.int .i64 0) := Bq.cell 5; have f5 : (w6).frozen? ⟨(w5).heap.size, 5, none⟩ = false := Bq.frozen 5))))
   all_goals go_wp2_with fail
   all_goals go_meet
   all_goals first
    | (have hq := Bq
       have h6 : Below w.heap.size w w6 := HW5.out.trans (hb6.mono HW5.out.size)
       exact ⟨rfl, (((((h6.setCell (Nat.le_refl _) _).setCell (Nat.le_refl _) _).setCell (Nat.le_refl _) _).setCell (Nat.le_refl _) _).setCell (Nat.le_refl _) _).setCell (Nat.le_refl _) _⟩)
    | (have hq := Bq
       have h6 : Below w.heap.size w w6 := (HW5.out.alloc HW5.out.size _).trans (hb6.mono (HW5.out.alloc HW5.out.size _).size)
       exact ⟨rfl, (((((h6.setCell HW5.out.size _).setCell HW5.out.size _).setCell HW5.out.size _).setCell HW5.out.size _).setCell HW5.out.size _).setCell HW5.out.size _⟩)
    | (have h6 : Below w.heap.size w w6 := HW5.out.trans (hb6.mono HW5.out.size)
       exact ⟨rfl, h6.alloc h6.size _⟩)
  case rest =>
   obtain ⟨rfl, hbel⟩ := hcut
   rename World => V
   have HV := h_ hbel
   have HTV := h_ (HT.out.below hbel)
   have zV := hbel.size
   clear hbel p0 p1 a00 a01
   have HAL := h_ ((Below.refl (V).heap.size V).alloc (Nat.le_refl _) (.cells #[.int .i64 er] 3))
   have HSY := h_ (say_bad (V).heap.size er ((V).alloc (.cells #[.int .i64 er] 3)) (cell_new1 _ _ _) (by omega) ((HTV.out).below HAL.out))
   go_wp2_with (go_at_call 28; refine HSY.out.mono ?_; rintro e w9 ⟨rfl, hb9⟩)
   go_ret
   exact ⟨by rw [HS1.out]; rfl, (HV.out).trans ((HAL.out.trans (hb9.mono HAL.out.size)).mono (HV.out).size)⟩
end Go.Proofs.YtjcdkbalhleeeaaGreatDoor
