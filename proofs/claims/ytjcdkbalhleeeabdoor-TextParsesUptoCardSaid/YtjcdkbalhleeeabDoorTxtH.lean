/-
  Walked: the document's Parse. Condition: the text is of a machine's size.
-/
import Derived.Test.YtjcdkbalhleeeabDoorTxtO
import Derived.Test.YtjcdkbalhleeeabDoorTxtG
import Derived.Test.YtjcdkbalhleeeabDoorRwB
import Derived.Test.YtjcdkbalhleeeabDoorR2m
import Derived.RegionTactic
import Derived.Deep.DeepCutAuto
namespace Go.Proofs.YtjcdkbalhleeeabDoor
open Go.Proofs Go.RowKit
open Go.Lib (itoa join)


set_option maxRecDepth 100000 in
set_option maxHeartbeats 2000000 in
theorem ref9_Parse (s : List UInt8) (w : World) (hs : s.length ≤ 1073741824) :
    Calls Tryd.prog 11 #[.string (bs s)] w (RetPr w (parF s)) := by
  obtain ⟨n, hn⟩ : ∃ n, (cutB 10 s).length = n + 1 := ⟨(cutB 10 s).length - 1, by have := List.length_pos_iff.2 (cutB_ne 10 s); omega⟩
  have hcs := cut_small (c := 10) (s := s)
  have HPT := Lib.hid (fun (x : List UInt8) (hx : x ∈ cutB 10 s) => cut_parts x hx)
  have HNL := Lib.hid hn
  go_enter Tryd.func11, Tryd.ntmps11
  go_wp2_with (go_at_call 23; refine (ref9_split s 10 _ (by omega)).mono ?_; rintro e w1 ⟨AL, cL, rfl, hSL, hb1⟩; rw [hn])
  have HSL := Lib.hid hSL
  have z1 := hb1.size
  simp only [World.size_alloc] at z1
  have R2 : Blk w1 w.heap.size 25 #[.slice none 0 0, .slice none 0 0] := ((Blk.mk' w _ _).alloc _).next hb1
  have R3 : Blk w1 (w.heap.size + 1) 32 #[.int .i64 0, .int .i64 0] := (Blk.new _ _ _ _ (by simp)).next hb1
  have HR2 := Lib.hid R2
  have HR3 := Lib.hid R3
  have HB1 := Lib.hid ((((Below.refl w.heap.size w).alloc (Nat.le_refl _) _).alloc (by simp) _).trans (hb1.mono (by simp; omega)) : Below w.heap.size w w1)
  clear R2 R3 hb1 hSL
  have HP0 := Lib.hid (PgW.start (w := (w1.alloc (.cells #[.slice none 0 0, .slice none 0 0] 25)).alloc (.cells #[.slice none 0 0, .slice none 0 0] 25)) (b := w1.heap.size) (base := w1.heap.size + 2) ((Blk.mk' w1 _ _).alloc _) (by omega))
  have HN0 := Lib.hid (Blk.new (w1.alloc (.cells #[.slice none 0 0, .slice none 0 0] 25)) 25 #[.slice none 0 0, .slice none 0 0] (w1.heap.size + 1) (by simp))
  have HV0 := Lib.hid (((Below.refl w1.heap.size w1).alloc (Nat.le_refl _) (.cells #[.slice none 0 0, .slice none 0 0] 25)).alloc (by simp) (.cells #[.slice none 0 0, .slice none 0 0] 25))
  have HZ0 : ((w1.alloc (.cells #[.slice none 0 0, .slice none 0 0] 25)).alloc (.cells #[.slice none 0 0, .slice none 0 0] 25)).heap.size = w1.heap.size + 2 := by simp
  generalize ((w1.alloc (.cells #[.slice none 0 0, .slice none 0 0] 25)).alloc (.cells #[.slice none 0 0, .slice none 0 0] 25)) = V at *
  go_loopw [8] (fun i wx => ∃ (k : Nat) (A : Option Addr) (c : Nat) (v : Value) (es : List RE) (q : PG), k ≤ n ∧ i = .int .i64 k ∧ takeP ((cutB 10 s).take k) = some q ∧ es.length ≤ k ∧ PgW wx w1.heap.size (w1.heap.size + 2) A c v es q ∧
      Blk wx (w1.heap.size + 1) 25 #[.slice none 0 0, .slice none 0 0] ∧ Below w1.heap.size w1 wx ∧ w1.heap.size + 2 ≤ wx.heap.size) (fun i _ => n - (intOf i).toNat)
  case atStart => exact ⟨0, none, 0, _, [], ⟨[], []⟩, by omega, rfl, rfl, by simp, HP0.out, HN0.out, HV0.out, by omega⟩
  case round =>
    obtain ⟨k, A, c, v, es, q, hk, rfl, htp, hes, hpg, hno, hbel, hz2⟩ := hrel
    rename World => U
    have HP := Lib.hid hpg
    have HNO := Lib.hid hno
    have HB := Lib.hid hbel
    have zU := hbel.size
    clear hpg hno hbel HP0 HN0 HV0 HZ0
    by_cases hlt : k < n
    · have hi0 : (k : Int) < (n : Int) := by omega
      have hkl : k < (cutB 10 s).length := by omega
      obtain ⟨ad, e0, hcl⟩ := (HSL.out.below HB.out).at_ hkl
      subst e0
      have hi1 : (k : Int) < (n : Int) + 1 := by omega
      have hsk := HPT.out _ (List.getElem_mem hkl)
      have HBAD := Lib.hid (fun (h : takeP ((cutB 10 s).take (k + 1)) = none) => parF_bad (by omega) htp h)
      have HST := Lib.hid (fun (h : 0 < k) => takeP_step hkl htp h)
      have HFI := Lib.hid (fun (h : k = 0) => (show takeP ((cutB 10 s).take (k + 1)) = (lineC (cutB 10 s)[k]).map fun cs => ⟨cs, []⟩ from by subst h; exact takeP_first hkl))
      unfold strV at hcl
      generalize (cutB 10 s)[k] = sk at *
      obtain ⟨m, hm⟩ : ∃ m, (cutB 32 sk).length = m + 1 := ⟨(cutB 32 sk).length - 1, by have := List.length_pos_iff.2 (cutB_ne 32 sk); omega⟩
      have hcw := cut_small (c := 32) (s := sk)
      have HPW := Lib.hid (fun (x : List UInt8) (hx : x ∈ cutB 32 sk) => cut_parts x hx)
      go_upto_region 10 with (go_at_call 23; refine (ref9_split sk 32 _ (by omega)).mono ?_; rintro e w2 ⟨AW, cW, rfl, hSW, hb2⟩; rw [hm])
      have z2 := hb2.size
      have HPX := Lib.hid ((HP.out.next hb2).next ((Below.refl w2.heap.size w2).alloc (Nat.le_refl _) (.cells #[.int .i64 2, .int .i64 k] 32)))
      have HNX := Lib.hid ((HNO.out.next hb2).alloc (.cells #[.int .i64 2, .int .i64 k] 32))
      have HWX := Lib.hid (Blk.mk' w2 32 #[.int .i64 2, .int .i64 k])
      have HBX := Lib.hid ((HB.out.trans (hb2.mono zU)).alloc (by omega) (.cells #[.int .i64 2, .int .i64 k] 32))
      have HSX := Lib.hid (hSW.below ((Below.refl w2.heap.size w2).alloc (Nat.le_refl _) (.cells #[.int .i64 2, .int .i64 k] 32)))
      have HZX : (w2.alloc (.cells #[.int .i64 2, .int .i64 k] 32)).heap.size = w2.heap.size + 1 := by simp
      clear hb2 hSW hcl
      obtain ⟨bw, hbw⟩ : ∃ bw, w2.heap.size = bw := ⟨_, rfl⟩
      rw [hbw] at HWX HZX z2 ⊢
      generalize (w2.alloc (.cells #[.int .i64 2, .int .i64 k] 32)) = X at *
      obtain ⟨aw, e1, hw0⟩ := HSX.out.at_ (k := 0) (by omega)
      subst e1
      obtain ⟨hSle, hScap, _⟩ := HSX.out
      rw [hm] at hSle
      by_cases hk0 : k = 0
      · subst hk0
        have HLC := Lib.hid (HFI.out rfl)
        obtain ⟨AT, cT, hrun, hST⟩ := HSX.out.from_run hm 1 (by omega)
        have hrun1 : ∀ W, (Instr.slice 41 (.slice (some aw) (m + 1) cW) (some (.int .i64 1)) none none).run Tryd.prog W = .ok (.slice AT m cT) W := hrun
        have hdl : ((cutB 32 sk).drop 1).length = m := by rw [List.length_drop, hm]; rfl
        have HNB := Lib.hid (ref9_numbers AT cT ((cutB 32 sk).drop 1) X hST (by omega) (fun x hx => by have := HPW.out x (List.mem_of_mem_drop hx); omega))
        rw [hdl] at HNB
        have hlc : lineC sk = if (cutB 32 sk)[0]'(by omega) = mostW then numsR ((cutB 32 sk).drop 1) else none := by
          unfold lineC
          obtain ⟨x, y, hc⟩ := List.exists_cons_of_ne_nil (cutB_ne 32 sk)
          simp only [hc]; rfl
        have hq0 : ((bs ((cutB 32 sk)[0]'(by omega))).toList == [109, 111, 115, 116]) = decide ((cutB 32 sk)[0]'(by omega) = mostW) := by rw [bs_list]; exact Bool.beq_eq_decide_eq _ _
        have hq1 : ((bs ((cutB 32 sk)[0]'(by omega))).toList == ({ data := #[109, 111, 115, 116] } : ByteArray).toList) = decide ((cutB 32 sk)[0]'(by omega) = mostW) := by rw [bs_list]; rw [show ({ data := #[109, 111, 115, 116] } : ByteArray).toList = mostW from bs_list mostW]; exact Bool.beq_eq_decide_eq _ _
        rw [hlc] at HLC
        have HHD := Lib.hid hlc
        clear hrun hlc
        have hw0' : X.cell? aw = some (.string (bs ((cutB 32 sk)[0]'(by omega)))) := hw0
        clear hw0
        generalize (cutB 32 sk)[0]'(by omega) = hd0 at *
        by_cases hmo : hd0 = mostW
        · rw [if_pos hmo] at HLC
          have hmt : decide (hd0 = mostW) = true := by simpa using hmo
          clear hmo
          cases hnv : numsR ((cutB 32 sk).drop 1) with
          | none =>
            rw [hnv] at HLC
            have HTN := HLC
            go_wp2_with (go_at_call 24; refine HNB.out.mono ?_; intro e w3 hret; obtain ⟨hb3, rfl⟩ := hret.none_ hnv; have hw3 : w3.cell? aw = some (.string (bs hd0)) := (hb3.cell (World.block_lt_of_cell? _ _ hw0')).trans hw0'; have M2 := (HR2.out.next HBX.out).next hb3; have M3 := (HR3.out.next HBX.out).next hb3; have MN := HNX.out.next hb3; have MW := HWX.out.next hb3; have n0 := MN.cell 0; have n1 := MN.cell 1; have x0 := MW.cell 0; have x1 := MW.cell 1; have g20 := M2.frozen 0; have g21 := M2.frozen 1; have g30 := M3.frozen 0; have g31 := M3.frozen 1; have c20 := M2.cell 0; have c21 := M2.cell 1; have c30 := M3.cell 0; have c31 := M3.cell 1; simp at n0 n1 x0 x1 c20 c21 c30 c31)
            go_region
            go_wp2_with fail
            refine post_two rfl rfl rfl ((((M2.set0 0 _).set0 1 _).far _ (by simp)).far _ (by simp)) (((((M3.far _ (by simp)).far _ (by simp)).set0 0 _).set0 1 _)) rfl ?_
            have hpf := HBAD.out HTN.out
            refine ⟨(((((HB1.out.trans ((HBX.out.trans (hb3.mono (by omega))).mono (by omega))).setCell (by simp) _).setCell (by simp) _).setCell (by simp) _).setCell (by simp) _).drew, none, 0, none, 0, ?_, ?_⟩
            · rw [hpf]; rfl
            · rw [hpf]; exact Pg.nil _
          | some cs =>
            rw [hnv] at HLC
            go_wp2_with (go_at_call 24; refine HNB.out.mono ?_; intro e w3 hret; obtain ⟨hb3, A3, c3, rfl, hr3, hnw3⟩ := hret.some_ hnv; have hw3 : w3.cell? aw = some (.string (bs hd0)) := (hb3.cell (World.block_lt_of_cell? _ _ hw0')).trans hw0'; have M2 := (HR2.out.next HBX.out).next hb3; have M3 := (HR3.out.next HBX.out).next hb3; have MN := HNX.out.next hb3; have MW := HWX.out.next hb3; have n0 := MN.cell 0; have n1 := MN.cell 1; have x0 := MW.cell 0; have x1 := MW.cell 1; have g20 := M2.frozen 0; have g21 := M2.frozen 1; have g30 := M3.frozen 0; have g31 := M3.frozen 1; have c20 := M2.cell 0; have c21 := M2.cell 1; have c30 := M3.cell 0; have c31 := M3.cell 1; simp at n0 n1 x0 x1 c20 c21 c30 c31; have MP := (HPX.out.next hb3).blk; have p0 := MP.cell 0; have p1 := MP.cell 1; have fp0 := MP.frozen 0; have fp1 := MP.frozen 1; simp at p0 p1)
            obtain rfl : q = ⟨[], []⟩ := by simp [takeP] at htp; exact htp.symm
            have hpn := HPX.out.costs hb3 (by omega) hr3 hnw3
            have hz3 := hb3.size
            go_roundw
            case rel => exact ⟨1, A3, c3, v, es, _, by omega, by go_num, HLC.out, by omega, hpn, MN.far _ (by simp), (HBX.out.trans (hb3.mono (by omega))).setCell (Nat.le_refl _) _, by simp; omega⟩
            case measure => simp [intOf]; omega
        · rw [if_neg hmo] at HLC
          have hmt : decide (hd0 = mostW) = false := by simpa using hmo
          have HTN := HLC
          cases hnv : numsR ((cutB 32 sk).drop 1) with
          | none =>
            go_wp2_with (go_at_call 24; refine HNB.out.mono ?_; intro e w3 hret; obtain ⟨hb3, rfl⟩ := hret.none_ hnv; have hw3 : w3.cell? aw = some (.string (bs hd0)) := (hb3.cell (World.block_lt_of_cell? _ _ hw0')).trans hw0'; have M2 := (HR2.out.next HBX.out).next hb3; have M3 := (HR3.out.next HBX.out).next hb3; have MN := HNX.out.next hb3; have MW := HWX.out.next hb3; have n0 := MN.cell 0; have n1 := MN.cell 1; have x0 := MW.cell 0; have x1 := MW.cell 1; have g20 := M2.frozen 0; have g21 := M2.frozen 1; have g30 := M3.frozen 0; have g31 := M3.frozen 1; have c20 := M2.cell 0; have c21 := M2.cell 1; have c30 := M3.cell 0; have c31 := M3.cell 1; simp at n0 n1 x0 x1 c20 c21 c30 c31)
            go_region
            go_wp2_with fail
            refine post_two rfl rfl rfl ((((M2.set0 0 _).set0 1 _).far _ (by simp)).far _ (by simp)) (((((M3.far _ (by simp)).far _ (by simp)).set0 0 _).set0 1 _)) rfl ?_
            have hpf := HBAD.out HTN.out
            refine ⟨(((((HB1.out.trans ((HBX.out.trans (hb3.mono (by omega))).mono (by omega))).setCell (by simp) _).setCell (by simp) _).setCell (by simp) _).setCell (by simp) _).drew, none, 0, none, 0, ?_, ?_⟩
            · rw [hpf]; rfl
            · rw [hpf]; exact Pg.nil _
          | some cs =>
            go_wp2_with (go_at_call 24; refine HNB.out.mono ?_; intro e w3 hret; obtain ⟨hb3, A3, c3, rfl, hr3, hnw3⟩ := hret.some_ hnv; have hw3 : w3.cell? aw = some (.string (bs hd0)) := (hb3.cell (World.block_lt_of_cell? _ _ hw0')).trans hw0'; have M2 := (HR2.out.next HBX.out).next hb3; have M3 := (HR3.out.next HBX.out).next hb3; have MN := HNX.out.next hb3; have MW := HWX.out.next hb3; have n0 := MN.cell 0; have n1 := MN.cell 1; have x0 := MW.cell 0; have x1 := MW.cell 1; have g20 := M2.frozen 0; have g21 := M2.frozen 1; have g30 := M3.frozen 0; have g31 := M3.frozen 1; have c20 := M2.cell 0; have c21 := M2.cell 1; have c30 := M3.cell 0; have c31 := M3.cell 1; simp at n0 n1 x0 x1 c20 c21 c30 c31)
            go_region
            go_wp2_with fail
            refine post_two rfl rfl rfl ((((M2.set0 0 _).set0 1 _).far _ (by simp)).far _ (by simp)) (((((M3.far _ (by simp)).far _ (by simp)).set0 0 _).set0 1 _)) rfl ?_
            have hpf := HBAD.out HTN.out
            refine ⟨(((((HB1.out.trans ((HBX.out.trans (hb3.mono (by omega))).mono (by omega))).setCell (by simp) _).setCell (by simp) _).setCell (by simp) _).setCell (by simp) _).drew, none, 0, none, 0, ?_, ?_⟩
            · rw [hpf]; rfl
            · rw [hpf]; exact Pg.nil _
      · have hkz : ((k : Int) == 0) = false := by rw [beq_eq_false_iff_ne]; omega
        have HLR := Lib.hid (HST.out (by omega))
        rcases Nat.eq_zero_or_pos m with hm0 | hm0
        · subst hm0
          rw [lineR_short (by omega)] at HLR
          have HTN := HLR
          obtain ⟨w3, hX3⟩ : ∃ w3, w3 = X := ⟨_, rfl⟩
          have hb3 : Below X.heap.size X w3 := hX3 ▸ Below.refl _ _
          rw [← hX3]
          have M2 := (HR2.out.next HBX.out).next hb3; have M3 := (HR3.out.next HBX.out).next hb3; have MN := HNX.out.next hb3; have MW := HWX.out.next hb3; have n0 := MN.cell 0; have n1 := MN.cell 1; have x0 := MW.cell 0; have x1 := MW.cell 1; have g20 := M2.frozen 0; have g21 := M2.frozen 1; have g30 := M3.frozen 0; have g31 := M3.frozen 1; have c20 := M2.cell 0; have c21 := M2.cell 1; have c30 := M3.cell 0; have c31 := M3.cell 1; simp at n0 n1 x0 x1 c20 c21 c30 c31
          clear hX3
          go_wp2_with fail
          go_region
          go_wp2_with fail
          refine post_two rfl rfl rfl ((((M2.set0 0 _).set0 1 _).far _ (by simp)).far _ (by simp)) (((((M3.far _ (by simp)).far _ (by simp)).set0 0 _).set0 1 _)) rfl ?_
          have hpf := HBAD.out HTN.out
          refine ⟨(((((HB1.out.trans ((HBX.out.trans (hb3.mono (by omega))).mono (by omega))).setCell (by simp) _).setCell (by simp) _).setCell (by simp) _).setCell (by simp) _).drew, none, 0, none, 0, ?_, ?_⟩
          · rw [hpf]; rfl
          · rw [hpf]; exact Pg.nil _
        · obtain ⟨m', rfl⟩ : ∃ m', m = m' + 1 := ⟨m - 1, by omega⟩
          rw [lineR_long hm] at HLR
          obtain ⟨aw', e1, hwm⟩ := HSX.out.at_ (k := m') (by omega)
          injection e1 with e1; subst e1
          obtain ⟨aw', e1, hwl⟩ := HSX.out.at_ (k := m' + 1) (by omega)
          injection e1 with e1; subst e1
          obtain ⟨hrun, hST⟩ := HSX.out.to_run hm m' (by omega)
          have hdl : ((cutB 32 sk).take m').length = m' := by rw [List.length_take]; omega
          have HNB := Lib.hid (ref9_numbers (some aw) cW ((cutB 32 sk).take m') X hST (by omega) (fun x hx => by have := HPW.out x (List.mem_of_mem_take hx); omega))
          rw [hdl] at HNB
          have hll := HPW.out _ (List.getElem_mem (show m' + 1 < (cutB 32 sk).length by omega))
          have HNU := Lib.hid (fun W => ref9_Number ((cutB 32 sk)[m' + 1]'(by omega)) W (by omega))
          have hq1 : ((bs ((cutB 32 sk)[m']'(by omega))).toList == ({ data := #[60, 61] } : ByteArray).toList) = decide ((cutB 32 sk)[m']'(by omega) = leW) := by rw [bs_list]; rw [show ({ data := #[60, 61] } : ByteArray).toList = leW from bs_list leW]; exact Bool.beq_eq_decide_eq _ _
          have hq0 : ((bs ((cutB 32 sk)[m']'(by omega))).toList == [60, 61]) = decide ((cutB 32 sk)[m']'(by omega) = leW) := by rw [bs_list]; exact Bool.beq_eq_decide_eq _ _
          clear hw0 hll
          unfold strV at hwm hwl
          generalize (cutB 32 sk)[m']'(by omega) = wl at *
          generalize (cutB 32 sk)[m' + 1]'(by omega) = wn at *
          have hj0 : (m' : Int) + 1 + 1 - 2 = (m' : Int) := by omega
          have hj1 : (m' : Int) + 1 + 1 - 1 = (m' : Int) + 1 := by omega
          have hj2 : ¬ ((m' : Int) + 1 + 1 < 2) := by omega
          have hj3 : (m' : Int) < (m' : Int) + 1 + 1 := by omega
          have hj4 : (m' : Int) + 1 < (m' : Int) + 1 + 1 := by omega
          have hj5 : ((m' : Int) + 1).toNat = m' + 1 := by omega
          by_cases hle : wl = leW
          · have hmt : decide (wl = leW) = true := by simpa using hle
            rw [if_pos hle] at HLR
            clear hle
            have hnum : ∀ W, Calls Tryd.prog 25 #[.string (bs wn)] W fun e w' => e = .returned (.tuple #[.int .i64 ((numR wn).getD 0), .bool (numR wn).isSome]) ∧ Below W.heap.size W w' := HNU.out
            have HNM := Lib.hid hnum
            clear hnum HNU
            cases hnv : numsR ((cutB 32 sk).take m') with
            | none =>
              rw [hnv] at HLR
              have HTN := HLR
              generalize (numR wn).getD 0 = nv at *
              generalize (numR wn).isSome = nb at *
              go_wp2_with (first
                | (go_at_call 24; refine HNB.out.mono ?_; intro e w5 hret; obtain ⟨hb5, rfl⟩ := hret.none_ hnv; have hwl5 : w5.cell? ⟨aw.block, aw.off + (m' + 1), none⟩ = some (.string (bs wn)) := (hb5.cell (World.block_lt_of_cell? _ _ hwl)).trans hwl; have hwm5 := (hb5.cell (World.block_lt_of_cell? _ _ hwm)).trans hwm)
                | (go_at_call 25; refine (HNM.out _).mono ?_; rintro e w3 ⟨rfl, hb4⟩; have hb3 := hb5.trans (hb4.mono hb5.size); have M2 := (HR2.out.next HBX.out).next hb3; have M3 := (HR3.out.next HBX.out).next hb3; have MN := HNX.out.next hb3; have MW := HWX.out.next hb3; have n0 := MN.cell 0; have n1 := MN.cell 1; have x0 := MW.cell 0; have x1 := MW.cell 1; have g20 := M2.frozen 0; have g21 := M2.frozen 1; have g30 := M3.frozen 0; have g31 := M3.frozen 1; have c20 := M2.cell 0; have c21 := M2.cell 1; have c30 := M3.cell 0; have c31 := M3.cell 1; simp at n0 n1 x0 x1 c20 c21 c30 c31))
              go_region
              go_wp2_with fail
              refine post_two rfl rfl rfl ((((M2.set0 0 _).set0 1 _).far _ (by simp)).far _ (by simp)) (((((M3.far _ (by simp)).far _ (by simp)).set0 0 _).set0 1 _)) rfl ?_
              have hpf := HBAD.out HTN.out
              refine ⟨(((((HB1.out.trans ((HBX.out.trans (hb3.mono (by omega))).mono (by omega))).setCell (by simp) _).setCell (by simp) _).setCell (by simp) _).setCell (by simp) _).drew, none, 0, none, 0, ?_, ?_⟩
              · rw [hpf]; rfl
              · rw [hpf]; exact Pg.nil _
            | some cs =>
              rw [hnv] at HLR
              cases hnw : numR wn with
              | none =>
                rw [hnw] at HLR HNM
                have HTN := HLR
                simp only [Option.getD_none, Option.isSome_none] at HNM
                go_wp2_with (first
                  | (go_at_call 24; refine HNB.out.mono ?_; intro e w5 hret; obtain ⟨hb5, A3, c3, rfl, hr3, hnw3⟩ := hret.some_ hnv; have hwl5 : w5.cell? ⟨aw.block, aw.off + (m' + 1), none⟩ = some (.string (bs wn)) := (hb5.cell (World.block_lt_of_cell? _ _ hwl)).trans hwl)
                  | (go_at_call 25; refine (HNM.out _).mono ?_; rintro e w3 ⟨rfl, hb4⟩; have hb3 := hb5.trans (hb4.mono hb5.size); have M2 := (HR2.out.next HBX.out).next hb3; have M3 := (HR3.out.next HBX.out).next hb3; have MN := HNX.out.next hb3; have MW := HWX.out.next hb3; have n0 := MN.cell 0; have n1 := MN.cell 1; have x0 := MW.cell 0; have x1 := MW.cell 1; have g20 := M2.frozen 0; have g21 := M2.frozen 1; have g30 := M3.frozen 0; have g31 := M3.frozen 1; have c20 := M2.cell 0; have c21 := M2.cell 1; have c30 := M3.cell 0; have c31 := M3.cell 1; simp at n0 n1 x0 x1 c20 c21 c30 c31))
                go_region
                go_wp2_with fail
                refine post_two rfl rfl rfl ((((M2.set0 0 _).set0 1 _).far _ (by simp)).far _ (by simp)) (((((M3.far _ (by simp)).far _ (by simp)).set0 0 _).set0 1 _)) rfl ?_
                have hpf := HBAD.out HTN.out
                refine ⟨(((((HB1.out.trans ((HBX.out.trans (hb3.mono (by omega))).mono (by omega))).setCell (by simp) _).setCell (by simp) _).setCell (by simp) _).setCell (by simp) _).drew, none, 0, none, 0, ?_, ?_⟩
                · rw [hpf]; rfl
                · rw [hpf]; exact Pg.nil _
              | some nn =>
                rw [hnw] at HLR HNM
                simp only [Option.getD_some, Option.isSome_some] at HNM
                go_wp2_with (first
                  | (go_at_call 24; refine HNB.out.mono ?_; intro e w5 hret; obtain ⟨hb5, A3, c3, rfl, hr3, hnw3⟩ := hret.some_ hnv; have hwl5 : w5.cell? ⟨aw.block, aw.off + (m' + 1), none⟩ = some (.string (bs wn)) := (hb5.cell (World.block_lt_of_cell? _ _ hwl)).trans hwl)
                  | (go_at_call 25; refine (HNM.out _).mono ?_; rintro e w3 ⟨rfl, hb4⟩; have hb3 := hb5.trans (hb4.mono hb5.size); have hz5 := hb5.size; have hz3 := hb4.size; have MP := (HPX.out.next hb3).blk; have p1 := MP.cell 1; have fp1 := MP.frozen 1; have p1' : (w3.alloc (.cells #[.slice A3 cs.length c3, .int .i64 nn] 50)).cell? ⟨w1.heap.size, 1, none⟩ = some v := (MP.alloc _).cell 1; simp at p1)
                  | (at_builtin; refine list_appW rfl (.tmp 97) (.tmp 101) rfl (w1.heap.size + 2) v es.length (reCells es) (.slice A3 cs.length c3) (.int .i64 nn) rfl (own_below (HPX.out.next hb3).rows.own ((Below.refl _ _).alloc (Nat.le_refl _) _)) _ 1 rfl (Blk.mk' _ _ _) rfl rfl (by omega) (by simp; omega) ?_; intro g6 cap6 w6 hown6 hg6 hat6 hlt6; have MP6 : Blk w6 w1.heap.size 25 #[.slice A q.costs.length c, v] := (MP.alloc _).grown hg6 (fun e => by have := (HPX.out.rows.own.lt _ e.symm).1; omega); have fp6 := MP6.frozen 1; have pp6 := MP6.cell 1; simp at pp6))
                have hz6 := hg6.size
                have hpr := HPX.out.row (w := w3.alloc (.cells #[.slice A3 cs.length c3, .int .i64 nn] 50)) (hb3.alloc (by omega) _) (by omega) ((hr3.below hb4).alloc _) (fun ad e => by have := hnw3 ad e; simp; omega) hown6 hg6 hat6
                have hn6 : Blk w6 (w1.heap.size + 1) 25 #[.slice none 0 0, .slice none 0 0] := (((HNX.out.next hb3)).alloc _).grown hg6 (fun e => by have := (HPX.out.rows.own.lt _ e.symm).1; omega)
                have hb6 : Below w1.heap.size w1 w6 := ((HBX.out.trans (hb3.mono (by omega))).alloc (by omega) _).grown hg6 (by simp; omega) (own_ge HPX.out.rows.own (by omega))
                go_roundw
                case rel => exact ⟨k + 1, A, c, _, es ++ [(A3, c3, (cs, nn))], _, by omega, by go_num, HLR.out, by simp; omega, hpr, hn6.far _ (by simp), hb6.setCell (Nat.le_refl _) _, by simp at hz6 ⊢; omega⟩
                case measure => simp [intOf]; omega
          · have hmt : decide (wl = leW) = false := by simpa using hle
            rw [if_neg hle] at HLR
            have HTN := HLR
            obtain ⟨w3, hX3⟩ : ∃ w3, w3 = X := ⟨_, rfl⟩
            have hb3 : Below X.heap.size X w3 := hX3 ▸ Below.refl _ _
            rw [← hX3] at hwm ⊢
            have M2 := (HR2.out.next HBX.out).next hb3; have M3 := (HR3.out.next HBX.out).next hb3; have MN := HNX.out.next hb3; have MW := HWX.out.next hb3; have n0 := MN.cell 0; have n1 := MN.cell 1; have x0 := MW.cell 0; have x1 := MW.cell 1; have g20 := M2.frozen 0; have g21 := M2.frozen 1; have g30 := M3.frozen 0; have g31 := M3.frozen 1; have c20 := M2.cell 0; have c21 := M2.cell 1; have c30 := M3.cell 0; have c31 := M3.cell 1; simp at n0 n1 x0 x1 c20 c21 c30 c31
            clear hX3
            go_wp2_with fail
            go_region
            go_wp2_with fail
            refine post_two rfl rfl rfl ((((M2.set0 0 _).set0 1 _).far _ (by simp)).far _ (by simp)) (((((M3.far _ (by simp)).far _ (by simp)).set0 0 _).set0 1 _)) rfl ?_
            have hpf := HBAD.out HTN.out
            refine ⟨(((((HB1.out.trans ((HBX.out.trans (hb3.mono (by omega))).mono (by omega))).setCell (by simp) _).setCell (by simp) _).setCell (by simp) _).setCell (by simp) _).drew, none, 0, none, 0, ?_, ?_⟩
            · rw [hpf]; rfl
            · rw [hpf]; exact Pg.nil _
    · obtain rfl : k = n := by omega
      have hd0 : decide ((k : Int) < (k : Int)) = false := by simp
      have hkl : k < (cutB 10 s).length := by omega
      obtain ⟨ad, e0, hcl⟩ := (HSL.out.below HB.out).at_ hkl
      subst e0
      have hi1 : (k : Int) < (k : Int) + 1 := by omega
      have hlast : (cutB 10 s).getLastD [] = (cutB 10 s)[k] := by
        rw [List.getLastD_eq_getLast?, List.getLast?_eq_getElem?, show (cutB 10 s).length - 1 = k by omega, List.getElem?_eq_getElem hkl]; rfl
      have HPF := Lib.hid (show parF s = if (cutB 10 s)[k] = [] ∧ mayPB q = true then (q, 0, 0) else (⟨[], []⟩, 2, k) from by
        have := parF_end (s := s) (q := q) (by rw [show (cutB 10 s).length - 1 = k by omega]; exact htp)
        rw [this, hlast, show (cutB 10 s).length - 1 = k by omega])
      obtain ⟨A2, c2, rfl, hPg⟩ := HP.out.read (by omega)
      have HPg := Lib.hid hPg
      have HMA := Lib.hid (ref2_MayD A c A2 c2 q U hPg)
      have hq1 : ((bs (cutB 10 s)[k]).toList == ({ data := #[] } : ByteArray).toList) = decide ((cutB 10 s)[k] = []) := by rw [bs_list]; rw [show ({ data := #[] } : ByteArray).toList = [] from bs_list []]; exact Bool.beq_eq_decide_eq _ _
      have hq0 : ((bs (cutB 10 s)[k]).toList == []) = decide ((cutB 10 s)[k] = []) := by rw [bs_list]; exact Bool.beq_eq_decide_eq _ _
      have hq2 : (bs (cutB 10 s)[k]).toList.isEmpty = decide ((cutB 10 s)[k] = []) := by rw [bs_list]; cases (cutB 10 s)[k] <;> simp
      unfold strV at hcl
      clear hPg hlast
      generalize (cutB 10 s)[k] = lk at *
      have M2 := HR2.out.next HB.out
      have M3 := HR3.out.next HB.out
      have p0 := HP.out.blk.cell 0
      have p1 := HP.out.blk.cell 1
      have n0 := HNO.out.cell 0
      have n1 := HNO.out.cell 1
      have g20 := M2.frozen 0
      have g21 := M2.frozen 1
      have g30 := M3.frozen 0
      have g31 := M3.frozen 1
      have c20 := M2.cell 0
      have c21 := M2.cell 1
      have c30 := M3.cell 0
      have c31 := M3.cell 1
      simp at p0 p1 n0 n1 c20 c21 c30 c31
      by_cases hlk : lk = []
      · have hmt : decide (lk = []) = true := by simpa using hlk
        cases hmay : mayPB q with
        | false =>
          rw [if_neg (by rw [hmay]; simp)] at HPF
          rw [hmay] at HMA
          clear hlk
          go_wp2_with (go_at_call 8; refine HMA.out.mono ?_; rintro e w7 ⟨rfl, hb7⟩; have M2 := M2.next hb7; have M3 := M3.next hb7; have MP7 := (HP.out.next hb7).blk; have MN7 := HNO.out.next hb7; have p0 := MP7.cell 0; have p1 := MP7.cell 1; have n0 := MN7.cell 0; have n1 := MN7.cell 1; have g20 := M2.frozen 0; have g21 := M2.frozen 1; have g30 := M3.frozen 0; have g31 := M3.frozen 1; have c20 := M2.cell 0; have c21 := M2.cell 1; have c30 := M3.cell 0; have c31 := M3.cell 1; simp at p0 p1 n0 n1 c20 c21 c30 c31)
          refine post_two rfl rfl rfl ((((M2.set0 0 _).set0 1 _).far _ (by simp)).far _ (by simp)) (((((M3.far _ (by simp)).far _ (by simp)).set0 0 _).set0 1 _)) rfl ?_
          refine ⟨((((HB1.out.trans ((HB.out.trans (hb7.mono zU)).mono (by omega))).setCell (by simp) _).setCell (by simp) _).setCell (by simp) _).setCell (by simp) _, none, 0, none, 0, ?_, ?_⟩
          · rw [HPF.out]; rfl
          · rw [HPF.out]; exact Pg.nil _
        | true =>
          rw [if_pos ⟨hlk, hmay⟩] at HPF
          rw [hmay] at HMA
          clear hlk
          go_wp2_with (go_at_call 8; refine HMA.out.mono ?_; rintro e w7 ⟨rfl, hb7⟩; have M2 := M2.next hb7; have M3 := M3.next hb7; have MP7 := (HP.out.next hb7).blk; have MN7 := HNO.out.next hb7; have p0 := MP7.cell 0; have p1 := MP7.cell 1; have n0 := MN7.cell 0; have n1 := MN7.cell 1; have g20 := M2.frozen 0; have g21 := M2.frozen 1; have g30 := M3.frozen 0; have g31 := M3.frozen 1; have c20 := M2.cell 0; have c21 := M2.cell 1; have c30 := M3.cell 0; have c31 := M3.cell 1; simp at p0 p1 n0 n1 c20 c21 c30 c31)
          refine post_two rfl rfl rfl ((((M2.set0 0 _).set0 1 _).far _ (by simp)).far _ (by simp)) (((((M3.far _ (by simp)).far _ (by simp)).set0 0 _).set0 1 _)) rfl ?_
          have hPW := (((((HP.out.next hb7).far ⟨w.heap.size, 0, none⟩ (.slice A q.costs.length c) (by simp; omega) (by simp; omega)).far ⟨w.heap.size, 1, none⟩ (.slice A2 q.rows.length c2) (by simp; omega) (by simp; omega)).far ⟨w.heap.size + 1, 0, none⟩ (.int .i64 0) (by simp; omega) (by simp; omega)).far ⟨w.heap.size + 1, 1, none⟩ (.int .i64 0) (by simp; omega) (by simp; omega))
          obtain ⟨A3, c3, e3, hPz⟩ := hPW.read (by omega)
          injection e3 with e3 e4 e5
          subst e3 e5
          refine ⟨((((HB1.out.trans ((HB.out.trans (hb7.mono zU)).mono (by omega))).setCell (by simp) _).setCell (by simp) _).setCell (by simp) _).setCell (by simp) _, A, c, A2, c2, ?_, ?_⟩
          · rw [HPF.out]; rfl
          · rw [HPF.out]; exact hPz
      · have hmt : decide (lk = []) = false := by simpa using hlk
        rw [if_neg (fun h => hlk h.1)] at HPF
        clear hlk
        go_wp2_with fail
        refine post_two rfl rfl rfl ((((M2.set0 0 _).set0 1 _).far _ (by simp)).far _ (by simp)) (((((M3.far _ (by simp)).far _ (by simp)).set0 0 _).set0 1 _)) rfl ?_
        refine ⟨((((HB1.out.trans (HB.out.mono (by omega))).setCell (by simp) _).setCell (by simp) _).setCell (by simp) _).setCell (by simp) _, none, 0, none, 0, ?_, ?_⟩
        · rw [HPF.out]; rfl
        · rw [HPF.out]; exact Pg.nil _
end Go.Proofs.YtjcdkbalhleeeabDoor
