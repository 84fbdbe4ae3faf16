/-
  Kind: the document's next computes what the plain words say.
-/
import Derived.Test.YtjcdkbalhleeeabPlainB
import Derived.Test.YtjcdkbalhleeeabJAppN
import Derived.Test.YtjcdkbalhleeeabNxt2
import Derived.Test.YtjcdkbalhleeeabDet3
import Derived.Test.YtjcdkbalhleeeabPlainA
import Derived.Test.YtjcdkbalhleeeabLsA
import Derived.Test.YtjcdkbalhleeeabWlk1
import Derived.Test.YtjcdkbalhleeeabJSol2
import Derived.WalkSpells
namespace Go.Proofs.Ytjcdkbalhleeeab
open Go.RowKit

/-- The next columns, made up to the place i. -/
def nxT (l : List Nat) (n i : Nat) : List Nat := (List.range l.length).map fun j => if n ≤ j ∧ j < i then l.getD n 0 + 1 + (j - n) else l.getD j 0
theorem nxT_len (l : List Nat) (n i : Nat) : (nxT l n i).length = l.length := by simp [nxT]
theorem nxT_at {l : List Nat} {n i j : Nat} (hj : j < l.length) : (nxT l n i).getD j 0 = if n ≤ j ∧ j < i then l.getD n 0 + 1 + (j - n) else l.getD j 0 := by
  unfold nxT; simp [List.getD, hj]
theorem ext_getD {a b : List Nat} (h : a.length = b.length) (he : ∀ j, j < a.length → a.getD j 0 = b.getD j 0) : a = b := by
  apply List.ext_getElem h
  intro j h1 h2
  have := he j h1
  simpa [List.getD, List.getElem?_eq_getElem h1, List.getElem?_eq_getElem h2] using this
theorem getD_setN (a : List Nat) (i j x : Nat) : (a.set i x).getD j 0 = if i = j ∧ j < a.length then x else a.getD j 0 := by
  simp only [List.getD, List.getElem?_set]
  by_cases h : i = j
  · subst h
    by_cases h2 : i < a.length
    · simp [h2]
    · simp [h2]
  · simp [h]
theorem nxT_one {l : List Nat} {n : Nat} (hn : n < l.length) : nxT l n (n + 1) = l.set n (l.getD n 0 + 1) := by
  refine ext_getD (by simp [nxT]) fun j hj => ?_
  rw [nxT_len] at hj
  rw [nxT_at hj, getD_setN]
  by_cases h : n = j
  · subst h; rw [if_pos ⟨Nat.le_refl _, by omega⟩, if_pos ⟨rfl, hn⟩]; omega
  · rw [if_neg (by omega), if_neg (by omega)]
theorem nxT_succ {l : List Nat} {n i : Nat} (hi : i < l.length) (hn : n < i) : nxT l n (i + 1) = (nxT l n i).set i ((nxT l n i).getD (i - 1) 0 + 1) := by
  refine ext_getD (by simp [nxT]) fun j hj => ?_
  rw [nxT_len] at hj
  rw [nxT_at hj, getD_setN, nxT_len]
  by_cases h : i = j
  · subst h
    rw [if_pos ⟨by omega, by omega⟩, if_pos ⟨rfl, hi⟩, nxT_at (by omega), if_pos ⟨by omega, by omega⟩]; omega
  · rw [if_neg (show ¬ (i = j ∧ j < l.length) by omega), nxT_at hj]
    by_cases h2 : n ≤ j ∧ j < i
    · rw [if_pos (by omega), if_pos h2]
    · rw [if_neg (by omega), if_neg h2]
theorem nxT_end {l : List Nat} {n : Nat} (hn : n < l.length) : nxT l n l.length = l.take n ++ (List.range (l.length - n)).map fun i => l.getD n 0 + 1 + i := by
  refine ext_getD (by simp [nxT]; omega) fun j hj => ?_
  rw [nxT_len] at hj
  rw [nxT_at hj]
  by_cases h : n ≤ j
  · rw [if_pos ⟨h, hj⟩]
    have e : (l.take n ++ (List.range (l.length - n)).map fun i => l.getD n 0 + 1 + i)[j]? = some (l.getD n 0 + 1 + (j - n)) := by
      rw [List.getElem?_append_right (by rw [List.length_take]; omega), show j - (l.take n).length = j - n by rw [List.length_take]; omega, List.getElem?_map, List.getElem?_range (by omega)]
      rfl
    generalize l.getD n 0 + 1 + (j - n) = v at *
    rw [List.getD, e]; rfl
  · rw [if_neg (by omega)]
    have e : (l.take n ++ (List.range (l.length - n)).map fun i => l.getD n 0 + 1 + i)[j]? = l[j]? := by
      rw [List.getElem?_append_left (by rw [List.length_take]; omega), List.getElem?_take, if_pos (by omega)]
    rw [List.getD, List.getD, e]
theorem ints_set (l : List Nat) (i x : Nat) : ints (l.set i x) = (ints l).set i (x : Int) := by unfold ints; rw [List.map_set]; rfl
theorem ints_at {l : List Nat} {i : Nat} (h : i < l.length) : ((ints l).map (Value.int .i64))[i]? = some (.int .i64 (l.getD i 0 : Nat)) := by
  simp [ints, List.getD, List.getElem?_eq_getElem h]
/-- What next hands back. -/
def RetNn (w : World) (N : Nat) (l : List Nat) (e : Ending) (w' : World) : Prop :=
  Below w.heap.size w w' ∧ (nxA N l l.length = none → e = .returned (.slice none 0 0)) ∧ ∀ l', nxA N l l.length = some l' → ∃ g cap, e = .returned (.slice (some ⟨g, 0, none⟩) l'.length cap) ∧ Rd w' (some ⟨g, 0, none⟩) cap (ints l') ∧ w.heap.size ≤ g ∧ g < w'.heap.size
set_option maxRecDepth 100000 in
set_option maxHeartbeats 2000000 in
theorem ref3_next (L : Option Addr) (l : List Nat) (cl N : Nat) (w : World) (hr : Rd w L cl (ints l)) (h1 : 0 < l.length) (h4 : l.length ≤ 4) (hb : ∀ j, l.getD j 0 < 1000) (hN : N ≤ 1000) :
    Calls Try.prog 104 #[.slice L l.length cl, .int .i64 N] w (RetNn w N l) := by
  have HR := Lib.hid hr
  have hil : (ints l).length = l.length := intsN_len _
  obtain ⟨al, rfl, _⟩ := hr.at_ (k := 0) (by rw [hil]; exact h1)
  clear hr
  go_enter Try.func104, Try.ntmps104
  go_wp2_with (at_builtin; refine list_appM rfl (.tmp 8) (.tmp 9) _ _ _ 8 und_intS1 inf_intS1 rfl rfl w.heap.size (.slice (some ⟨w.heap.size, 0, none⟩) 0 0) 0 [] rfl (own_empty _ _ _ _ rfl (Nat.le_refl _)) (fun e => by cases e) (some al) l.length _ ((ints l).map (Value.int .i64)) rfl (by rw [List.length_map, hil]) (fun e => by cases e) (HR.out.alloc _).cells (one_ints _) (by unfold maxLen; omega) (by omega) (by simp) ?_; intro g cap w1 hown1 hg1 hat1 hlt1; simp only [Nat.zero_add, List.nil_append] at hown1; have HB1 := Lib.hid (((Below.refl w.heap.size w).alloc (Nat.le_refl _) _).grown hg1 (by simp) (fun j e => by cases e; exact Nat.le_refl _)); have HO := Lib.hid hown1; clear hown1 hg1 hat1)
  have hgw := HO.out.lt g rfl
  obtain ⟨hc1, hc2⟩ := own_caps HO.out
  go_loopw [6] (fun s6 wx => ∃ n : Nat, n ≤ l.length ∧ s6 = .int .i64 ((n : Int) - 1) ∧ Hid (nxA N l l.length = nxA N l n) ∧ wx = w1) (fun s6 _ => (intOf s6 + 1).toNat)
  case atStart => exact ⟨l.length, Nat.le_refl _, rfl, Lib.hid rfl, rfl⟩
  case round =>
    obtain ⟨n, hn, rfl, hnx, rfl⟩ := hrel
    rename World => w1
    rcases n with _ | n
    · have HNX := Lib.hid (show nxA N l l.length = none by rw [hnx.out]; rfl)
      clear hnx
      rw [show ((0 : Nat) : Int) - 1 = -1 by rfl]
      go_wp2_with fail
      go_ret
      exact ⟨HB1.out, fun _ => rfl, fun l' q => by rw [HNX.out] at q; cases q⟩
    · rw [show ((n + 1 : Nat) : Int) - 1 = (n : Int) by omega]
      have hnl : n < l.length := by omega
      have hi0 : (n : Int) < (l.length : Int) := by omega
      have c0 := own_cell' HO.out n _ (ints_at hnl)
      have f0 := own_free' HO.out n
      have hbn := hb n
      have HONE := Lib.hid (nxT_one hnl)
      have hnx' : nxA N l (n + 1) = if l.getD n 0 + (l.length - n) < N then some (l.take n ++ (List.range (l.length - n)).map fun i => l.getD n 0 + 1 + i) else nxA N l n := rfl
      obtain ⟨jn, hjn⟩ : ∃ jn, l.getD n 0 = jn := ⟨_, rfl⟩
      by_cases hlt : l.getD n 0 + (l.length - n) < N
      · rw [if_pos hlt, ← nxT_end hnl] at hnx'
        have HNX := Lib.hid (hnx.out.trans hnx')
        rw [hjn] at c0 hbn HONE hlt
        have hcmp : (jn : Int) < (N : Int) - ((l.length : Int) - (n : Int)) := by omega
        clear hnx hnx' hjn
        go_wp2_with fail
        go_loopw [7] (fun s7 wx => ∃ i : Nat, n < i ∧ i ≤ l.length ∧ s7 = .int .i64 i ∧ wx.ownsRow w.heap.size 3 1 (.slice (some ⟨g, 0, none⟩) l.length cap) l.length ((ints (nxT l n i)).map (Value.int .i64)) ∧ Below w.heap.size w wx) (fun s7 _ => l.length - (intOf s7).toNat)
        case atStart => exact ⟨n + 1, by omega, by omega, by go_num, by rw [HONE.out, ints_set, ← map_set_int]; exact own_put HO.out n _, HB1.out.setCell hgw.1 _⟩
        case round =>
          obtain ⟨i, hni, hil', rfl, hown, hbel⟩ := hrel
          rename World => U
          have HU := Lib.hid hown
          have HBU := Lib.hid hbel
          clear hown hbel c0 f0
          by_cases hil2 : i < l.length
          · obtain ⟨q, rfl⟩ : ∃ q, i = q + 1 := ⟨i - 1, by omega⟩
            have hi1 : ((q + 1 : Nat) : Int) < (l.length : Int) := by omega
            have hi2 : (q : Int) + 1 < (l.length : Int) := by omega
            have hi3 : (q : Int) < (l.length : Int) := by omega
            have hq1 : ((q + 1 : Nat) : Int) - 1 = (q : Int) := by omega
            have hq2 : (q : Int) + 1 - 1 = (q : Int) := by omega
            have c1 := own_cell' HU.out q _ (ints_at (by rw [nxT_len]; omega))
            have c2 := own_cell' HU.out (q + 1) _ (ints_at (by rw [nxT_len]; omega))
            have f2 := own_free' HU.out (q + 1)
            have HS := Lib.hid (nxT_succ hil2 hni)
            have hsm : (nxT l n (q + 1)).getD q 0 < 1100 := by
              rw [nxT_at (by omega)]
              have h1 := hb n
              have h2 := hb q
              split <;> omega
            rw [Nat.add_sub_cancel] at HS
            obtain ⟨v1, hv1⟩ : ∃ v, (nxT l n (q + 1)).getD q 0 = v := ⟨_, rfl⟩
            obtain ⟨v2, hv2⟩ : ∃ v, (nxT l n (q + 1)).getD (q + 1) 0 = v := ⟨_, rfl⟩
            rw [hv1] at c1 HS hsm
            rw [hv2] at c2
            clear hv1 hv2
            go_wp2_with fail
            go_roundw
            case rel => exact ⟨q + 2, by omega, by omega, by go_num, by rw [HS.out, ints_set, ← map_set_int]; exact own_put HU.out (q + 1) _, HBU.out.setCell hgw.1 _⟩
            case measure => simp [intOf]; omega
          · obtain rfl : i = l.length := by omega
            have hnl2 : (nxT l n l.length).length = l.length := nxT_len _ _ _
            have hnil : (ints (nxT l n l.length)).length = l.length := by rw [intsN_len, hnl2]
            have HRD := Lib.hid (show Rd U (some ⟨g, 0, none⟩) cap (ints (nxT l n l.length)) from Rd.of_own (base := w.heap.size) (e := 3) (by rw [hnil]; exact HU.out) (by rw [hnil]; omega))
            have hlg := HU.out.lt g rfl
            go_wp2_with fail
            go_ret
            refine ⟨HBU.out, fun q => (by rw [HNX.out] at q; cases q), fun l' q => ?_⟩
            rw [HNX.out] at q
            injection q with q
            subst q
            exact ⟨g, cap, by rw [hnl2]; rfl, HRD.out, hlg.1, hlg.2⟩
      · rw [if_neg hlt] at hnx'
        have HNX := Lib.hid (hnx.out.trans hnx')
        rw [hjn] at c0 hbn HONE hlt
        have hcmp : ¬ (jn : Int) < (N : Int) - ((l.length : Int) - (n : Int)) := by omega
        clear hnx hnx' hjn
        go_wp2_with fail
        go_roundw
        case rel => exact ⟨n, by omega, by go_num, HNX, trivial⟩
        case measure => simp [intOf]
end Go.Proofs.Ytjcdkbalhleeeab

/-
  Kind: the document's All computes what the plain words say.
-/
namespace Go.Proofs.Ytjcdkbalhleeeab
open Go.RowKit Go.Sort

/-- All columns that are right are handed back. -/
def RetAl (w : World) (p : PG) (e : Ending) (w' : World) : Prop :=
  Below w.heap.size w w' ∧ ∃ A c, e = .returned (.slice A (allA p).length c) ∧ Ls w' A c ((List.range (allA p).length).map fun i => ints ((allA p).getD i []))
theorem range_ints_succ (i : Nat) : (ints (List.range (i + 1))).map (Value.int .i64) = (ints (List.range i)).map (Value.int .i64) ++ [.int .i64 (i : Int)] := by
  rw [List.range_succ]; simp [ints]
set_option maxRecDepth 100000 in
set_option maxHeartbeats 4000000 in
theorem ref3_All (A : Option Addr) (c : Nat) (A2 : Option Addr) (c2 : Nat) (p : PG) (w : World) (hp : Pg w A c A2 c2 p) (hm : mayPB p = true) :
    Calls Try.prog 59 #[.agg #[.slice A p.costs.length c, .slice A2 p.rows.length c2]] w (RetAl w p) := by
  have HP := Lib.hid hp
  have HM := Lib.hid hm
  obtain ⟨m1, m2, m3, m4, _⟩ := mayPB_iff.1 hm
  obtain ⟨hal, _, _⟩ := all_parts hm
  have hap := all_pos' hm
  obtain ⟨⟨hl, hc, hsm, _⟩, ⟨hl2, hc2, hsm2, _⟩⟩ := hp
  clear hm
  go_enter Try.func59, Try.ntmps59
  go_upto_region 3 with fail
  have BP := Lib.hid (Blk.mk' w 25 #[.slice A p.costs.length c, .slice A2 p.rows.length c2])
  have HW := Lib.hid ((Below.refl w.heap.size w).alloc (Nat.le_refl _) (.cells #[.slice A p.costs.length c, .slice A2 p.rows.length c2] 25))
  generalize (w.alloc (.cells #[.slice A p.costs.length c, .slice A2 p.rows.length c2] 25)) = W at *
  have zW := HW.out.size
  have lP := BP.out.lt
  go_wp2_with fail
  go_loopw [4, 5] (fun s4 s5 wx => ∃ i : Nat, i ≤ p.rows.length ∧ s5 = .int .i64 i ∧ wx.ownsRow W.heap.size 3 1 s4 i ((ints (List.range i)).map (Value.int .i64)) ∧ Below W.heap.size W wx) (fun _ s5 _ => p.rows.length - (intOf s5).toNat)
  case atStart => exact ⟨0, by omega, rfl, World.ownsRow_nil _ _ _ _, Below.refl _ _⟩
  case round =>
    obtain ⟨i, hi, rfl, hown, hbel⟩ := hrel
    rename World => U
    have HO := Lib.hid hown
    have HU := Lib.hid hbel
    have zU := hbel.size
    have q1 : U.cell? ⟨w.heap.size, 1, none⟩ = some (.slice A2 p.rows.length c2) := (BP.out.next hbel).cell 1
    clear hown hbel
    by_cases hlt : i < p.rows.length
    · have hi0 : (i : Int) < (p.rows.length : Int) := by omega
      have HRS := Lib.hid (range_ints_succ i)
      go_wp2_with (at_builtin; refine list_app1 rfl (.tmp 13) (.tmp 15) _ _ _ 8 und_intS1 inf_intS1 rfl rfl W.heap.size u4 i _ _ rfl (HO.out.alloc _) _ 1 rfl (cell_new1 _ _ _) rfl (by unfold maxLen; omega) (by omega) (by simp; omega) ?_; intro g cap w5 hown5 hg5 hat5 hlt5; have HO5 := Lib.hid hown5; have H5 := Lib.hid ((HU.out.alloc zU _).grown hg5 (by simp; omega) (own_ge HO.out (Nat.le_refl _))); clear hown5 hg5 hat5)
      go_roundw
      case rel => exact ⟨i + 1, by omega, by go_num, by rw [HRS.out]; exact HO5.out, H5.out⟩
      case measure => simp [intOf]; omega
    · obtain rfl : i = p.rows.length := by omega
      have hrl : (ints (List.range p.rows.length)).length = p.rows.length := by simp [ints]
      obtain ⟨O, co, rfl, hR, hOL⟩ := Rd.of_ownv (l := ints (List.range p.rows.length)) HO.out hrl.symm (by rw [hrl]; omega)
      rw [hrl]
      have HR := Lib.hid hR
      have HOB := Lib.hid (fun ad (e : O = some ad) => (show ad.block < U.heap.size from hR.blk_lt (by rw [hrl]; omega) ad e))
      clear hR hOL
      go_wp2_with fail
      go_loopw [3, 4] (fun s3 s4 wx => ∃ (k : Nat) (lk : List Nat) (O' : Option Addr) (co' : Nat) (As : Nat → Option Addr) (cs : Nat → Nat), k ≤ (allA p).length ∧ s4 = .slice O' lk.length co' ∧ Hid (k < (allA p).length → lk = (allA p).getD k []) ∧ Hid (k = (allA p).length → lk = []) ∧ Rd wx O' co' (ints lk) ∧
          LsB wx U.heap.size s3 k As cs (fun i => ints ((allA p).getD i [])) ∧ (∀ ad, O' = some ad → s3.ownBlock ≠ some ad.block ∧ ad.block < wx.heap.size) ∧ (∀ i, i < k → ∀ ad, As i = some ad → ad.block < wx.heap.size) ∧ Below U.heap.size U wx) (fun s3 _ _ => (allA p).length - lenV s3)
      case atStart =>
        exact ⟨0, List.range p.rows.length, O, co, fun _ => none, fun _ => 0, by omega, by simp, Lib.hid fun _ => all_zero.symm, Lib.hid fun h => by omega, HR.out, LsB.nil _ _ _ _ _, fun ad e => ⟨by simp [Value.ownBlock], HOB.out ad e⟩, fun i hi => by omega, Below.refl _ _⟩
      case round =>
        obtain ⟨k, lk, O', co', As, cs, hk, rfl, hk1, hk2, hO', hLs, hap', hAs, hbel⟩ := hrel
        rename World => V
        have HRO := Lib.hid hO'
        have HLs := Lib.hid hLs
        have HAP := Lib.hid hap'
        have HAS := Lib.hid hAs
        have HV := Lib.hid hbel
        have zV := hbel.size
        have hlen := LsB.len hLs
        have HB := Lib.hid (HW.out.trans ((HU.out.trans (hbel.mono zU)).mono zW))
        by_cases hkl : k < (allA p).length
        · obtain rfl := hk1.out hkl
          have hrt := all_right HM.out hkl
          have hll := hrt.len
          have HRT := Lib.hid hrt
          have HNX := Lib.hid (all_next HM.out hkl)
          obtain ⟨lk, hlk⟩ : ∃ lk, (allA p).getD k [] = lk := ⟨_, rfl⟩
          have HLK := Lib.hid hlk
          rw [hlk] at HRO HRT HNX hll ⊢
          have hl1 : 1 ≤ lk.length := by omega
          have hl4 : lk.length ≤ 4 := by omega
          clear hll
          have p0 : V.cell? ⟨w.heap.size, 0, none⟩ = some (.slice A p.costs.length c) := (BP.out.next (HU.out.trans (HV.out.mono zU))).cell 0
          have p1 : V.cell? ⟨w.heap.size, 1, none⟩ = some (.slice A2 p.rows.length c2) := (BP.out.next (HU.out.trans (HV.out.mono zU))).cell 1
          have h0 : (0 : Int) < (lk.length : Int) := by omega
          have HPU := Lib.hid (fun (o : Obj) (g cap : Nat) (w5 : World) (hown : w5.ownsRow U.heap.size 26 1 (.slice (some ⟨g, 0, none⟩) (k + 1) cap) (k + 1) (((List.range k).map fun i => Value.slice (As i) (ints ((allA p).getD i [])).length (cs i)) ++ [.slice O' lk.length co']))
              (hg : (V.alloc o).grownBy w5 u3.ownBlock) (hat : u3.ownBlock = some g ∨ g = (V.alloc o).heap.size) =>
            (HLs.out.below ((Below.refl _ _).alloc (Nat.le_refl _) o)).push (A := O') (c := co') (o := g) (cap := cap) (by show Rd _ O' co' (ints ((allA p).getD k [])); rw [HLK.out]; exact HRO.out.alloc o) (fun ad e => (HAP.out ad e).1)
              (fun ad e => by have := (HAP.out ad e).2; simp; omega) (fun i hi ad e => by have := HAS.out i hi ad e; simp; omega)
              (by show World.ownsRow _ _ _ _ _ _ (_ ++ [.slice O' (ints ((allA p).getD k [])).length co']); rw [HLK.out, show (ints lk).length = lk.length by simp [ints]]; exact hown) hg hat)
          clear hk1 hk2 hO' hLs hap' hAs hbel hlk hrt
          go_wp2_with (at_builtin; refine list_appS rfl (.tmp 20) (.tmp 22) rfl U.heap.size u3 k _ (.slice O' lk.length co') rfl (own_below HLs.out.own ((Below.refl _ _).alloc (Nat.le_refl _) _)) _ 1 rfl (cell_new1 _ _ _) rfl (by omega) (by simp; omega) ?_; intro g cap w5 hown5 hg5 hat5 hlt5; refine Hid.out ?_)
          refine Lib.hid ?_
          have HLP := Lib.hid (HPU.out _ g cap w5 hown5 hg5 hat5)
          have HB5 := Lib.hid ((HV.out.alloc zV _).grown hg5 (by simp; omega) (fun j e => (HLs.out.own.lt j e).1))
          have HR5 := Lib.hid ((HRO.out.alloc _).grown' hg5 (fun ad e => (HAP.out ad e).1))
          have HG := Lib.hid (show g < w5.heap.size ∧ (∀ ad, O' = some ad → ad.block < w5.heap.size) ∧ ∀ i, i < k → ∀ ad, As i = some ad → ad.block < w5.heap.size from by
            have z5 := hg5.size
            simp only [World.size_alloc] at z5 hat5
            exact ⟨hlt5, fun ad e => by have := (HAP.out ad e).2; omega, fun i hi ad e => by have := HAS.out i hi ad e; omega⟩)
          have q0 : w5.cell? ⟨w.heap.size, 0, none⟩ = some (.slice A p.costs.length c) := (BP.out.next (HU.out.trans (HB5.out.mono zU))).cell 0
          have q1' : w5.cell? ⟨w.heap.size, 1, none⟩ = some (.slice A2 p.rows.length c2) := (BP.out.next (HU.out.trans (HB5.out.mono zU))).cell 1
          clear hown5 hg5 hat5 p0 p1 q1
          obtain ⟨N, hN⟩ : ∃ N, p.costs.length + p.rows.length = N := ⟨_, rfl⟩
          have HNX2 := Lib.hid (show Calls Try.prog 104 #[.slice O' lk.length co', .int .i64 N] w5 (RetNn w5 N lk) from
            ref3_next O' lk co' N w5 HR5.out hl1 hl4 (fun j => by
              by_cases hj : j < lk.length
              · have := HRT.out.lt _ (mem_getD.2 ⟨j, hj, rfl⟩); omega
              · rw [List.getD, List.getElem?_eq_none (by omega)]; simp) (by omega))
          have hsum : (p.costs.length : Int) + (p.rows.length : Int) = N := by omega
          rw [hN] at HNX
          clear hN
          go_wp2_with fail
          refine HNX2.out.mono ?_
          rintro e w6 ⟨hb6, hn1, hn2⟩
          have H6 := Lib.hid hb6
          have z56 := hb6.size
          have HLP6 := Lib.hid (HLP.out.below hb6)
          have HB6 := Lib.hid (HB5.out.trans (hb6.mono HB5.out.size))
          clear hb6 q0 q1'
          by_cases hk1 : k + 1 < (allA p).length
          · have hx := HNX.out
            rw [if_pos hk1] at hx
            obtain ⟨ln, hln⟩ : ∃ ln, (allA p).getD (k + 1) [] = ln := ⟨_, rfl⟩
            have HLN := Lib.hid hln
            rw [hln] at hx
            clear hln
            obtain ⟨g6, cap6, rfl, hR6, hg6, hlt6⟩ := hn2 _ hx
            have HR6 := Lib.hid hR6
            clear hn1 hn2 hx hR6
            go_wp2_with fail
            go_roundw
            case rel =>
              refine ⟨k + 1, ln, _, _, _, _, by omega, rfl, Lib.hid fun _ => HLN.out.symm, Lib.hid fun h => by omega, HR6.out, HLP6.out, fun ad e => ?_, fun i hi ad e => ?_, HB6.out⟩
              · cases e
                exact ⟨fun q => by have h2 := HG.out.1; injection q with q; simp only at q; omega, hlt6⟩
              · by_cases hik : i = k
                · subst hik; simp only [if_true] at e; have := HG.out.2.1 ad e; omega
                · simp only [hik, if_false] at e; have := HG.out.2.2 i (by omega) ad e; omega
            case measure => rw [hlen]; simp [lenV]; omega
          · have hx := HNX.out
            rw [if_neg hk1] at hx
            obtain rfl := hn1 hx
            clear hn1 hn2 hx
            go_wp2_with fail
            go_roundw
            case rel =>
              refine ⟨k + 1, [], none, 0, _, _, by omega, rfl, Lib.hid fun h => by omega, Lib.hid fun _ => rfl, Rd.nil _, HLP6.out, fun ad e => (by cases e), fun i hi ad e => ?_, HB6.out⟩
              · by_cases hik : i = k
                · subst hik; simp only [if_true] at e; have := HG.out.2.1 ad e; omega
                · simp only [hik, if_false] at e; have := HG.out.2.2 i (by omega) ad e; omega
            case measure => rw [hlen]; simp [lenV]; omega
        · have hkk : k = (allA p).length := by omega
          have HKK := Lib.hid hkk
          obtain rfl := hk2.out hkk
          obtain ⟨g, cap, rfl⟩ := own_some HLs.out.own (by omega)
          have HRD := Lib.hid (HLs.out.read (by omega))
          subst hkk
          clear hk1 hk2 hO' hLs hap' hAs hbel
          go_wp2_with fail
          go_ret
          exact ⟨HB.out, _, _, rfl, HRD.out⟩
end Go.Proofs.Ytjcdkbalhleeeab
