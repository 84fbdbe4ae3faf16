/-
  Contracts of functions and plain laws that later parts of the proof use. The conditions stand in each theorem.
-/
import Derived.Test.YtjcdkbalhleeeaaGreatDoorG20
import Derived.Test.YtjcdkbalhleeeaaGreatDoorG10
import Derived.Test.YtjcdkbalhleeeaaGreatDoorG23
import Derived.Deep.DeepCutAuto
import Derived.Maps.Range
import Derived.BigQuiet
import Derived.Sort.AssemblyPlain
import Derived.Shelf.SlSortCmp.InsertionK
import Derived.Shelf.SlSortCmp.HeapSortK
import Derived.Shelf.SlSortCmp.PivotK
import Derived.Shelf.SlSortCmp.ReverseRangeK
import Derived.Shelf.SlSortCmp.PartialInsertionK
import Derived.Shelf.SlSortCmp.BreakPatternsK
import Derived.Shelf.SlSortCmp.PartitionK
import Derived.Deep.LoopGhost
import Derived.Lib.Hide
import Derived.Shelf.SlSortCmp.QuietGrown
import Derived.Shelf.Small.Bits
namespace Go.Proofs.YtjcdkbalhleeeaaGreatDoor
open Go.RowKit

theorem MapL.rangeE {w : World} {b : Nat} {L : List PC} (h : MapL w b L) : ∃ o, (Instr.range 129 (.map (some b))).run Tryz.prog w = .ok (.pointer (some ⟨w.heap.size, 0, none⟩)) (w.alloc o) ∧ MapR (w.alloc o) b w.heap.size L L := ⟨_, h.range⟩
theorem MapR.left_eq {w : World} {b r : Nat} {L left : List PC} (h : MapR w b r L left) : w.rangeLeft b r = left.length := by
  obtain ⟨es, cl, since, seen, c0, hb, hr, _, _, _, _, _, hl⟩ := h
  simp only [World.rangeLeft, hb, hr]
  have := congrArg List.length hl
  simpa using this
/-- One more line. -/
theorem best_snoc (l : List PC) (x : PC) : bestP (l ++ [x]) = match bestP l with
  | [] => [x]
  | a :: _ => [if slpB x a = true then x else a] := by
  cases l with
  | nil => rfl
  | cons y l => simp [bestP, List.foldl_append]
theorem less_slp {x y : PC} (hx : mayB [x.sn] x.sd = true) (hy : mayB [y.sn] y.sd = true) : lessB x.sn x.sd y.sn y.sd = slpB x y := by
  unfold lessB slpB cmpZ
  rw [hx, hy, Bool.true_and, Bool.true_and, decide_eq_decide]
  omega
theorem best_mem {l : List PC} {a : PC} {t : List PC} (h : bestP l = a :: t) : a ∈ l ∧ t = [] := by
  cases l with
  | nil => simp [bestP] at h
  | cons y l =>
    simp only [bestP, List.cons.injEq] at h
    refine ⟨?_, h.2.symm⟩
    rw [← h.1]
    clear h
    induction l generalizing y with
    | nil => simp
    | cons z l ih =>
      simp only [List.foldl_cons]
      have := ih (if slpB z y = true then z else y)
      split at this <;> (simp only [List.mem_cons] at this ⊢; grind)
theorem PcAt.below {w w' : World} {g i : Nat} {x : PC} (h : PcAt w g i x) (hb : Below w.heap.size w w') : PcAt w' g i x := by
  have k : ∀ {q v}, w.cell? ⟨g, q, none⟩ = some v → w'.cell? ⟨g, q, none⟩ = some v := fun hq => (hb.cell (World.block_lt_of_cell? _ _ hq)).trans hq
  exact ⟨k h.c0, k h.c1, k h.c2, k h.c3, k h.c4, k h.c5, k h.c6, k h.c7, k h.c8, k h.c9⟩
/-- A slice of pieces of the call's own is handed back. -/
def RetP (w : World) (L : List PC) (e : Ending) (w' : World) : Prop := ∃ v, e = .returned v ∧ PcOwn w' w.heap.size v L ∧ Below w.heap.size w w'
def RetP' (w : World) (Q : List PC → Prop) (e : Ending) (w' : World) : Prop := ∃ L, Q L ∧ RetP w L e w'
theorem pc_one {w : World} {base g : Nat} {x : PC} (h : Blk w g 79 (pcC x).toArray) (hb : base ≤ g) : PcOwn w base (.slice (some ⟨g, 0, none⟩) 1 1) [x] := by
  refine ⟨by simp [pcsC, pcC], .inr ⟨g, 1, (pcC x).toArray, rfl, hb, h, by simp, by decide, by simp [pcC], by simp [pcC, pcsC]⟩⟩
set_option maxRecDepth 100000 in
set_option maxHeartbeats 2000000 in
theorem sweep_only (M : Nat) (L : List PC) (w : World) (hm : MapL w M L) (hv : ∀ x ∈ L, mayB [x.sn] x.sd = true) :
    Calls Tryz.prog 59 #[.map (some M)] w (RetP' w fun l => ∃ L', L'.Perm L ∧ l = bestP L') := by
  have HM := Lib.hid hm
  have HV := Lib.hid hv
  have hMlt := hm.lt
  obtain ⟨o, hr1, hr2⟩ := hm.rangeE
  clear hm hv
  go_enter Tryz.func59, Tryz.ntmps59
  go_wp2_with fail
  have HR := Lib.hid hr2
  have HB := Lib.hid ((Below.refl w.heap.size w).alloc (Nat.le_refl _) o)
  have zW : (w.alloc o).heap.size = w.heap.size + 1 := by simp
  clear hr1 hr2
  generalize w.alloc o = W at *
  go_loopw [3] (fun s3 wx => ∃ dn left : List PC, Hid ((dn ++ left).Perm L) ∧ MapR wx M w.heap.size L left ∧ PcOwn wx (w.heap.size + 1) s3 (bestP dn) ∧ Below w.heap.size w wx ∧ w.heap.size + 1 ≤ wx.heap.size) (fun _ wx => wx.rangeLeft M w.heap.size)
  case atStart => exact ⟨[], L, Lib.hid (by simp), HR.out, PcOwn.nil _ _, HB.out, by omega⟩
  case round =>
    obtain ⟨dn, left, hpm, hmr, hpo, hbl, hsz⟩ := hrel
    rename World => U
    have HMR := Lib.hid hmr
    have HPO := Lib.hid hpo
    have HBL := Lib.hid hbl
    have hle := hmr.left_eq
    have HLE := Lib.hid hle
    clear hbl hle
    rcases hmr.next 0 with ⟨rfl, hnx⟩ | ⟨l1, x, l2, U1, rfl, hnx, hmr1, hg1, hs1, hent⟩
    · clear hmr hpo
      go_wp2_with fail
      go_ret
      exact ⟨bestP dn, ⟨dn, by simpa using hpm.out, rfl⟩, u3, rfl, PcOwn.mono (b' := w.heap.size) HPO.out (by omega), HBL.out⟩
    · have HPM := Lib.hid (show (dn ++ [x] ++ (l1 ++ l2)).Perm L from by
        refine List.Perm.trans ?_ hpm.out
        rw [List.append_assoc]
        exact List.Perm.append_left dn (List.perm_middle (l₁ := l1) (l₂ := l2)).symm)
      have HMX := Lib.hid (show x ∈ L from hpm.out.mem_iff.1 (by simp))
      have HMD := Lib.hid (show ∀ z ∈ dn, z ∈ L from fun z hz => hpm.out.mem_iff.1 (by simp [hz]))
      have hlt := HMR.out.lt
      have hmv := HLE.out
      simp only [List.length_append, List.length_cons] at hmv
      clear hmr hpm HLE
      have HPO1 := Lib.hid (HPO.out.kept hg1 (by
        rcases hb : u3.ownBlock with _ | k
        · exact .inl rfl
        · right
          have := (World.ownsRow.lt HPO.out k hb).1
          intro e
          injection e with e
          omega))
      have HBL1 := Lib.hid (HBL.out.grown hg1 (by omega) (fun k hk => by cases hk; omega))
      have HMR1 := Lib.hid hmr1
      have hs2 : U.heap.size ≤ U1.heap.size := Nat.le_of_eq hs1.symm
      clear hmr1 hg1 hpo HPO HBL HMR hs1
      unfold lnV wdV at hnx hent
      go_wp2_with fail
      have BL := Lib.hid (show Blk ((U1.alloc (.cells #[.int .i64 x.bn, .int .i64 x.bd, .int .i64 x.sn, .int .i64 x.sd] 132)).alloc (.cells #[.bool x.fr.op, .int .i64 x.fr.n, .int .i64 x.fr.d, .bool x.to.op, .int .i64 x.to.n, .int .i64 x.to.d] 134)) U1.heap.size 132 #[.int .i64 x.bn, .int .i64 x.bd, .int .i64 x.sn, .int .i64 x.sd] from (Blk.mk' _ _ _).alloc _)
      have BW := Lib.hid (show Blk ((U1.alloc (.cells #[.int .i64 x.bn, .int .i64 x.bd, .int .i64 x.sn, .int .i64 x.sd] 132)).alloc (.cells #[.bool x.fr.op, .int .i64 x.fr.n, .int .i64 x.fr.d, .bool x.to.op, .int .i64 x.to.n, .int .i64 x.to.d] 134)) (U1.heap.size + 1) 134 #[.bool x.fr.op, .int .i64 x.fr.n, .int .i64 x.fr.d, .bool x.to.op, .int .i64 x.to.n, .int .i64 x.to.d] from Blk.new (U1.alloc (.cells #[.int .i64 x.bn, .int .i64 x.bd, .int .i64 x.sn, .int .i64 x.sd] 132)) 134 _ _ (by simp))
      have HV1 := Lib.hid ((by (repeat (any_goals (first | exact Below.refl _ _ | refine below_drewN ?_ _ | refine Below.drew ?_ | refine Below.alloc ?_ ?_ _ | refine Below.setCell ?_ ?_ _))); all_goals (first | omega | (simp; done) | (simp; omega))) : Below U1.heap.size U1 ((U1.alloc (.cells #[.int .i64 x.bn, .int .i64 x.bd, .int .i64 x.sn, .int .i64 x.sd] 132)).alloc (.cells #[.bool x.fr.op, .int .i64 x.fr.n, .int .i64 x.fr.d, .bool x.to.op, .int .i64 x.to.n, .int .i64 x.to.d] 134)))
      clear hnx hent
      generalize ((U1.alloc (.cells #[.int .i64 x.bn, .int .i64 x.bd, .int .i64 x.sn, .int .i64 x.sd] 132)).alloc (.cells #[.bool x.fr.op, .int .i64 x.fr.n, .int .i64 x.fr.d, .bool x.to.op, .int .i64 x.to.n, .int .i64 x.to.d] 134)) = V at *
      generalize hgl : U1.heap.size = gl at *
      have zV := HV1.out.size
      have lBW := BW.out.lt
      have HPO2 := Lib.hid (HPO1.out.below (by rw [hgl]; exact HV1.out))
      have HMR2 := Lib.hid (HMR1.out.below (by rw [hgl]; exact HV1.out))
      have HBL2 := Lib.hid (HBL1.out.trans (HV1.out.mono (by omega)))
      clear HPO1 HMR1 HBL1
      have k0 : ∀ u : Wk V, u.1.cell? ⟨gl, 0, none⟩ = some (.int .i64 x.bn) := fun u => (BL.out.next u.2).cell 0
      have k1 : ∀ u : Wk V, u.1.cell? ⟨gl, 1, none⟩ = some (.int .i64 x.bd) := fun u => (BL.out.next u.2).cell 1
      have k2 : ∀ u : Wk V, u.1.cell? ⟨gl, 2, none⟩ = some (.int .i64 x.sn) := fun u => (BL.out.next u.2).cell 2
      have k3 : ∀ u : Wk V, u.1.cell? ⟨gl, 3, none⟩ = some (.int .i64 x.sd) := fun u => (BL.out.next u.2).cell 3
      have v0 : ∀ u : Wk V, u.1.cell? ⟨gl + 1, 0, none⟩ = some (.bool x.fr.op) := fun u => (BW.out.next u.2).cell 0
      have v1 : ∀ u : Wk V, u.1.cell? ⟨gl + 1, 1, none⟩ = some (.int .i64 x.fr.n) := fun u => (BW.out.next u.2).cell 1
      have v2 : ∀ u : Wk V, u.1.cell? ⟨gl + 1, 2, none⟩ = some (.int .i64 x.fr.d) := fun u => (BW.out.next u.2).cell 2
      have v3 : ∀ u : Wk V, u.1.cell? ⟨gl + 1, 3, none⟩ = some (.bool x.to.op) := fun u => (BW.out.next u.2).cell 3
      have v4 : ∀ u : Wk V, u.1.cell? ⟨gl + 1, 4, none⟩ = some (.int .i64 x.to.n) := fun u => (BW.out.next u.2).cell 4
      have v5 : ∀ u : Wk V, u.1.cell? ⟨gl + 1, 5, none⟩ = some (.int .i64 x.to.d) := fun u => (BW.out.next u.2).cell 5
      have HB := Lib.hid (best_snoc dn x)
      cases hbd : bestP dn with
      | nil =>
        rw [hbd] at HB HPO2
        have HE := Lib.hid hbd
        clear hbd
        have hs3 : ∃ A c, u3 = .slice A 0 c := by
          rcases HPO2.out.2 with ⟨e, _⟩ | ⟨g, cap, _, e, _⟩
          · exact ⟨_, _, e⟩
          · exact ⟨_, _, e⟩
        obtain ⟨A, c, rfl⟩ := hs3
        refine wk_region (by kernel_rfl) (by kernel_rfl) ?_
        repeat (go_big_quiet_step (fail))
        refine wpQuiet_nil ?_
        rintro w7 ⟨u7, rfl⟩
        go_wp2_with fail
        have z7 := u7.2.size
        have HU7 := Lib.hid u7.2
        have HMF := Lib.hid ((HMR2.out.below HU7.out).below ((Below.refl _ u7.1).alloc (Nat.le_refl _) (.cells #[.bool x.fr.op, .int .i64 x.fr.n, .int .i64 x.fr.d, .bool x.to.op, .int .i64 x.to.n, .int .i64 x.to.d, .int .i64 x.bn, .int .i64 x.bd, .int .i64 x.sn, .int .i64 x.sd] 79)))
        go_roundw
        case measure =>
          have := HMF.out.left_eq
          rw [this, hmv, List.length_append]
          omega
        case rel =>
          refine ⟨dn ++ [x], l1 ++ l2, HPM, HMF.out, ?_, (HBL2.out.trans (HU7.out.mono (by have := HBL2.out.size; omega))).alloc (by have := HBL2.out.size; omega) _, by simp; omega⟩
          rw [HB.out]
          skip
          exact pc_one (Blk.mk' _ _ _) (by omega)
      | cons a t =>
        obtain ⟨hma, rfl⟩ := best_mem hbd
        rw [hbd] at HB HPO2
        have HMA := Lib.hid (HMD.out a hma)
        clear hbd hma
        obtain ⟨g, cap, rfl, hg1, hg2, hcap, hcap2, hat⟩ := HPO2.out.at_ (i := 0) (by simp)
        have HAT := Lib.hid (fun u : Wk V => hat.below u.2)
        have hcap3 : 1 ≤ cap := by simpa using hcap
        have j8 : ∀ u : Wk V, u.1.cell? ⟨g, 8, none⟩ = some (.int .i64 a.sn) := fun u => (HAT.out u).c8
        have j9 : ∀ u : Wk V, u.1.cell? ⟨g, 9, none⟩ = some (.int .i64 a.sd) := fun u => (HAT.out u).c9
        have hlg : g < V.heap.size := hg2
        obtain ⟨q, hq⟩ : ∃ q, slpB x a = q := ⟨_, rfl⟩
        have HLS := Lib.hid (fun u : Wk V => show Calls Tryz.prog 62 #[.agg #[.int .i64 x.sn, .int .i64 x.sd], .agg #[.int .i64 a.sn, .int .i64 a.sd]] u.1 (fun e w' => e = .returned (.bool q) ∧ Below u.1.heap.size u.1 w') from by
          have := frac_Less x.sn x.sd a.sn a.sd u.1
          rw [less_slp (HV.out x HMX.out) (HV.out a HMA.out), hq] at this
          exact this)
        have HB3 := Lib.hid (show bestP (dn ++ [x]) = [if q = true then x else a] from by rw [HB.out]; simp only; rw [hq])
        clear hq hat hcap HB
        refine wk_region (by kernel_rfl) (by kernel_rfl) ?_
        repeat (go_big_quiet_step ((go_at_call 62; with_reducible exact wk_call (HLS.out _))))
        refine wpQuiet_nil ?_
        rintro w7 ⟨u7, rfl⟩
        cases q
        · go_wp2_with fail
          have z7 := u7.2.size
          have HU7 := Lib.hid u7.2
          have HMF := Lib.hid (HMR2.out.below HU7.out)
          go_roundw
          case measure =>
            have := HMF.out.left_eq
            rw [this, hmv, List.length_append]
            omega
          case rel =>
            refine ⟨dn ++ [x], l1 ++ l2, HPM, HMF.out, ?_, HBL2.out.trans (HU7.out.mono (by have := HBL2.out.size; omega)), by omega⟩
            rw [HB3.out]
            exact HPO2.out.below HU7.out
        · go_wp2_with fail
          have z7 := u7.2.size
          have HU7 := Lib.hid u7.2
          have HMF := Lib.hid ((HMR2.out.below HU7.out).below ((Below.refl _ u7.1).alloc (Nat.le_refl _) (.cells #[.bool x.fr.op, .int .i64 x.fr.n, .int .i64 x.fr.d, .bool x.to.op, .int .i64 x.to.n, .int .i64 x.to.d, .int .i64 x.bn, .int .i64 x.bd, .int .i64 x.sn, .int .i64 x.sd] 79)))
          go_roundw
          case measure =>
            have := HMF.out.left_eq
            rw [this, hmv, List.length_append]
            omega
          case rel =>
            refine ⟨dn ++ [x], l1 ++ l2, HPM, HMF.out, ?_, (HBL2.out.trans (HU7.out.mono (by have := HBL2.out.size; omega))).alloc (by have := HBL2.out.size; omega) _, by simp; omega⟩
            rw [HB3.out]
            simp only [if_true]
            exact pc_one (Blk.mk' _ _ _) (by omega)
end Go.Proofs.YtjcdkbalhleeeaaGreatDoor

namespace Go.Proofs.YtjcdkbalhleeeaaGreatDoor
open Go.Sort
variable {α : Type} [Inhabited α]

/-- No two places hold the same. -/
def NoTwo (d : Array α) : Prop := ∀ i j, i < d.size → j < d.size → i ≠ j → d[i]! ≠ d[j]!

theorem NoTwo.nodup {d : Array α} (h : NoTwo d) : d.toList.Nodup := by
  rw [List.Nodup, List.pairwise_iff_getElem]
  intro i j hi hj hij
  have := h i j (by simpa using hi) (by simpa using hj) (by omega)
  rw [getElem!_pos d i (by simpa using hi), getElem!_pos d j (by simpa using hj)] at this
  simpa using this
theorem NoTwo.of {d : Array α} (h : d.toList.Nodup) : NoTwo d := by
  intro i j hi hj hij
  rw [List.Nodup, List.pairwise_iff_getElem] at h
  rw [getElem!_pos d i hi, getElem!_pos d j hj]
  rcases Nat.lt_or_gt_of_ne hij with q | q
  · have := h i j (by simpa using hi) (by simpa using hj) q
    simpa using this
  · have := h j i (by simpa using hj) (by simpa using hi) q
    intro e
    exact this (by simpa using e.symm)
theorem perm_all {a b : Nat} {d d' : Array α} (h : PermIn a b d d') (hab : a ≤ b) (hb : b ≤ d.size) : d'.toList.Perm d.toList := by
  have h2 := permIn_mono d d' a b 0 d.size (Nat.zero_le _) hb (Nat.le_refl _) h
  have := h2.2.2
  rw [Array.extract_size] at this
  rw [show d'.extract 0 d.size = d' by rw [← h2.1]; exact Array.extract_size] at this
  exact this
theorem NoTwo.perm {a b : Nat} {d d' : Array α} (h : NoTwo d) (hp : PermIn a b d d') (hab : a ≤ b) (hb : b ≤ d.size) : NoTwo d' :=
  NoTwo.of ((perm_all hp hab hb).nodup_iff.2 h.nodup)
theorem NoTwo.swp {d : Array α} (h : NoTwo d) {i j : Nat} (hi : i < d.size) (hj : j < d.size) : NoTwo (swp d i j) :=
  h.perm (swp_permIn d 0 d.size i j (Nat.zero_le _) hi (Nat.zero_le _) hj (Nat.le_refl _)) (Nat.zero_le _) (Nat.le_refl _)

/-- Two orders that say the same of any two elements that are not one. -/
def Alike (lt lt' : α → α → Bool) : Prop := ∀ x y, x ≠ y → lt x y = lt' x y
variable {lt lt' : α → α → Bool}
theorem NoTwo.les {d : Array α} (h : NoTwo d) (E : Alike lt lt') {i j : Nat} (hi : i < d.size) (hj : j < d.size) (hij : i ≠ j) : lt d[i]! d[j]! = lt' d[i]! d[j]! := E _ _ (h i j hi hj hij)

theorem ins_in (E : Alike lt lt') (a : Nat) : ∀ (j : Nat) (d : Array α), NoTwo d → (j < d.size ∨ j = 0) → insInner lt a j d = insInner lt' a j d ∧ NoTwo (insInner lt a j d) ∧ (insInner lt a j d).size = d.size
  | 0, d, h, _ => ⟨by simp [insInner], by simpa [insInner] using h, by simp [insInner]⟩
  | j + 1, d, h, hj => by
    have hj' : j + 1 < d.size := by omega
    have e := h.les E hj' (show j < d.size by omega) (by omega)
    have hs := h.swp hj' (show j < d.size by omega)
    have ih := ins_in E a j (swp d (j + 1) j) hs (Or.inl (by rw [size_swp]; omega))
    unfold insInner
    rw [e]
    split
    · exact ⟨ih.1, ih.2.1, by rw [ih.2.2, size_swp]⟩
    · exact ⟨rfl, h, rfl⟩
theorem ins_out (E : Alike lt lt') (a b : Nat) : ∀ (n i : Nat) (d : Array α), b - i = n → NoTwo d → b ≤ d.size → insOuter lt a b i d = insOuter lt' a b i d
  | n, i, d, hn, h, hb => by
    rw [insOuter, insOuter.eq_1 lt']
    split
    · next hi =>
      have q := ins_in E a i d h (Or.inl (by omega))
      rw [← q.1]
      cases n with
      | zero => omega
      | succ n => exact ins_out E a b n (i + 1) _ (by omega) q.2.1 (by rw [q.2.2]; exact hb)
    · rfl
theorem insertionSort_alike (E : Alike lt lt') {d : Array α} (h : NoTwo d) {a b : Nat} (hb : b ≤ d.size) : insertionSort lt d a b = insertionSort lt' d a b :=
  ins_out E a b _ _ _ rfl h hb

theorem sift_alike (E : Alike lt lt') (hi first : Nat) : ∀ (n root : Nat) (d : Array α), hi - root ≤ n → NoTwo d → first + hi ≤ d.size →
    siftDown lt hi first root d = siftDown lt' hi first root d ∧ NoTwo (siftDown lt hi first root d) ∧ (siftDown lt hi first root d).size = d.size
  | n, root, d, hn, h, hb => by
    rw [siftDown, siftDown.eq_1 lt']
    by_cases h1 : 2 * root + 1 ≥ hi
    · rw [dif_pos h1, dif_pos h1]; exact ⟨rfl, h, rfl⟩
    · rw [dif_neg h1, dif_neg h1]
      have hL : first + (2 * root + 1) < d.size := by omega
      have hR : first + root < d.size := by omega
      have e2 := h.les E hR hL (by omega)
      cases n with
      | zero => omega
      | succ n =>
        by_cases h2 : 2 * root + 1 + 1 < hi
        · have hQ : first + (2 * root + 1) + 1 < d.size := by omega
          have e1 := h.les E hL hQ (by omega)
          have e3 := h.les E hR (show first + (2 * root + 2) < d.size by omega) (by omega)
          have g1 := sift_alike E hi first n (2 * root + 2) (swp d (first + root) (first + (2 * root + 2))) (by omega) (h.swp hR (by omega)) (by rw [size_swp]; exact hb)
          have g2 := sift_alike E hi first n (2 * root + 1) (swp d (first + root) (first + (2 * root + 1))) (by omega) (h.swp hR hL) (by rw [size_swp]; exact hb)
          rw [size_swp] at g1 g2
          rw [e1, e2, e3]
          repeat' split
          all_goals first | exact ⟨rfl, h, rfl⟩ | exact g1 | exact g2
        · have g2 := sift_alike E hi first n (2 * root + 1) (swp d (first + root) (first + (2 * root + 1))) (by omega) (h.swp hR hL) (by rw [size_swp]; exact hb)
          rw [size_swp] at g2
          have hz : decide (2 * root + 1 + 1 < hi) = false := decide_eq_false h2
          simp only [hz, Bool.false_and, Bool.false_eq_true, if_false]
          rw [e2]
          split
          · exact ⟨rfl, h, rfl⟩
          · exact g2
theorem build_alike (E : Alike lt lt') (hi first : Nat) : ∀ (k : Nat) (d : Array α), NoTwo d → first + hi ≤ d.size →
    heapBuild lt hi first k d = heapBuild lt' hi first k d ∧ NoTwo (heapBuild lt hi first k d) ∧ (heapBuild lt hi first k d).size = d.size
  | 0, d, h, _ => ⟨rfl, h, rfl⟩
  | k + 1, d, h, hb => by
    have g := sift_alike E hi first _ k d (Nat.le_refl _) h hb
    have q := build_alike E hi first k _ g.2.1 (by rw [g.2.2]; exact hb)
    simp only [heapBuild]
    rw [← g.1]
    exact ⟨q.1, q.2.1, q.2.2.trans g.2.2⟩
theorem pop_alike (E : Alike lt lt') (first : Nat) : ∀ (k : Nat) (d : Array α), NoTwo d → first + k ≤ d.size → heapPop lt first k d = heapPop lt' first k d
  | 0, d, h, _ => rfl
  | k + 1, d, h, hb => by
    have g := sift_alike E k first _ 0 (swp d first (first + k)) (Nat.le_refl _) (h.swp (by omega) (by omega)) (by rw [size_swp]; omega)
    simp only [heapPop]
    rw [← g.1]
    exact pop_alike E first k _ g.2.1 (by rw [g.2.2, size_swp]; omega)
theorem heapSort_alike (E : Alike lt lt') {d : Array α} (h : NoTwo d) {a b : Nat} (hab : a ≤ b) (hb : b ≤ d.size) : heapSort lt d a b = heapSort lt' d a b := by
  unfold heapSort
  have g := build_alike E (b - a) a ((b - a - 1) / 2 + 1) d h (by omega)
  rw [← g.1]
  exact pop_alike E a (b - a) _ g.2.1 (by rw [g.2.2]; omega)

theorem scanUp_alike {p q : α → Bool} {d : Array α} {j : Nat} : ∀ (n i : Nat), j + 1 - i = n → (∀ k, i ≤ k → k ≤ j → p d[k]! = q d[k]!) → scanUp p d j i = scanUp q d j i ∧ i ≤ scanUp p d j i
  | n, i, hn, h => by
    rw [scanUp, scanUp.eq_1 q]
    by_cases hi : i ≤ j
    · rw [h i (Nat.le_refl _) hi]
      cases n with
      | zero => omega
      | succ n =>
        have ih := scanUp_alike n (i + 1) (by omega) (fun k hk => h k (by omega))
        split
        · exact ⟨ih.1, by omega⟩
        · exact ⟨rfl, Nat.le_refl _⟩
    · simp [hi]
theorem scanDown_alike {p q : α → Bool} {d : Array α} {i : Nat} : ∀ (j : Nat), (∀ k, i ≤ k → k ≤ j → p d[k]! = q d[k]!) → scanDown p d i j = scanDown q d i j ∧ scanDown p d i j ≤ j
  | 0, h => ⟨rfl, Nat.le_refl _⟩
  | j + 1, h => by
    rw [scanDown, scanDown]
    have ih := scanDown_alike j (fun k a b => h k a (by omega))
    by_cases hi : i ≤ j + 1
    · rw [h (j + 1) hi (Nat.le_refl _)]
      split
      · exact ⟨ih.1, by omega⟩
      · exact ⟨rfl, Nat.le_refl _⟩
    · simp [hi]
theorem part_alike (E : Alike lt lt') (a : Nat) : ∀ (n i j : Nat) (d : Array α), j + 1 - i ≤ n → NoTwo d → a < i → j < d.size → a < d.size → partLoop lt a i j d = partLoop lt' a i j d
  | n, i, j, d, hn, h, hi, hj, ha => by
    rw [partLoop, partLoop.eq_1 lt']
    have s1 := scanUp_alike (p := fun x => lt x d[a]!) (q := fun x => lt' x d[a]!) (d := d) (j := j) _ i rfl (fun k h1 h2 => h.les E (by omega) ha (by omega))
    rw [← s1.1]
    generalize scanUp (fun x => lt x d[a]!) d j i = i2 at s1 ⊢
    have s2 := scanDown_alike (p := fun x => !lt x d[a]!) (q := fun x => !lt' x d[a]!) (d := d) (i := i2) j (fun k h1 h2 => by rw [h.les E (show k < d.size by omega) ha (by omega)])
    show (match scanDown (fun x => !lt x d[a]!) d i2 j with | j2 => _) = (match scanDown (fun x => !lt' x d[a]!) d i2 j with | j2 => _)
    rw [← s2.1]
    generalize scanDown (fun x => !lt x d[a]!) d i2 j = j2 at s2 ⊢
    dsimp only
    split
    · rfl
    · split
      · next h3 h4 =>
        cases n with
        | zero => omega
        | succ n => exact part_alike E a n (i2 + 1) (j2 - 1) _ (by omega) (h.swp (by omega) (by omega)) (by omega) (by rw [size_swp]; omega) (by rw [size_swp]; omega)
      · rfl
theorem partition_alike (E : Alike lt lt') {d : Array α} (h : NoTwo d) {a b pivot : Nat} (h1 : a ≤ pivot) (h2 : pivot < b) (hb : b ≤ d.size) : partition lt d a b pivot = partition lt' d a b pivot := by
  unfold partition
  have h' := h.swp (show a < d.size by omega) (show pivot < d.size by omega)
  have hz : (swp d a pivot).size = d.size := size_swp _ _ _
  generalize swp d a pivot = d1 at h' hz ⊢
  dsimp only
  have s1 := scanUp_alike (p := fun x => lt x d1[a]!) (q := fun x => lt' x d1[a]!) (d := d1) (j := b - 1) _ (a + 1) rfl (fun k g1 g2 => h'.les E (by omega) (by omega) (by omega))
  rw [← s1.1]
  generalize scanUp (fun x => lt x d1[a]!) d1 (b - 1) (a + 1) = i2 at s1 ⊢
  have s2 := scanDown_alike (p := fun x => !lt x d1[a]!) (q := fun x => !lt' x d1[a]!) (d := d1) (i := i2) (b - 1) (fun k g1 g2 => by rw [h'.les E (show k < d1.size by omega) (show a < d1.size by omega) (by omega)])
  rw [← s2.1]
  generalize scanDown (fun x => !lt x d1[a]!) d1 i2 (b - 1) = j2 at s2 ⊢
  split
  · rfl
  · next h3 =>
    rw [part_alike E a _ (i2 + 1) (j2 - 1) _ (Nat.le_refl _) (h'.swp (show i2 < d1.size by omega) (show j2 < d1.size by omega)) (by omega) (by rw [size_swp]; omega) (by rw [size_swp]; omega)]

theorem scanS_alike (E : Alike lt lt') {d : Array α} (h : NoTwo d) {b : Nat} (hb : b ≤ d.size) : ∀ (n i : Nat), b - i = n → 0 < i → scanSorted lt d b i = scanSorted lt' d b i ∧ i ≤ scanSorted lt d b i ∧ (scanSorted lt d b i ≤ b ∨ scanSorted lt d b i = i)
  | n, i, hn, h0 => by
    rw [scanSorted, scanSorted.eq_1 lt']
    by_cases hi : i < b
    · rw [h.les E (show i < d.size by omega) (show i - 1 < d.size by omega) (by omega)]
      cases n with
      | zero => omega
      | succ n =>
        have ih := scanS_alike E h hb n (i + 1) (by omega) (by omega)
        split
        · exact ⟨ih.1, by omega, by omega⟩
        · exact ⟨rfl, Nat.le_refl _, Or.inr rfl⟩
    · simp [hi]
theorem shD_alike (E : Alike lt lt') : ∀ (j : Nat) (d : Array α), NoTwo d → j < d.size → shiftDown lt j d = shiftDown lt' j d ∧ NoTwo (shiftDown lt j d) ∧ (shiftDown lt j d).size = d.size
  | 0, d, h, _ => ⟨rfl, h, rfl⟩
  | j + 1, d, h, hj => by
    have ih := shD_alike E j (swp d (j + 1) j) (h.swp hj (by omega)) (by rw [size_swp]; omega)
    rw [size_swp] at ih
    rw [shiftDown, shiftDown]
    rw [h.les E hj (show j < d.size by omega) (by omega)]
    split
    · exact ⟨rfl, h, rfl⟩
    · exact ih
theorem shU_alike (E : Alike lt lt') (b : Nat) : ∀ (n j : Nat) (d : Array α), b - j = n → 0 < j → b ≤ d.size → NoTwo d → shiftUp lt b j d = shiftUp lt' b j d ∧ NoTwo (shiftUp lt b j d) ∧ (shiftUp lt b j d).size = d.size
  | n, j, d, hn, h0, hb, h => by
    rw [shiftUp, shiftUp.eq_1 lt']
    by_cases hj : j < b
    · rw [if_pos hj, if_pos hj]
      rw [h.les E (show j < d.size by omega) (show j - 1 < d.size by omega) (by omega)]
      cases n with
      | zero => omega
      | succ n =>
        have ih := shU_alike E b n (j + 1) (swp d j (j - 1)) (by omega) (by omega) (by rw [size_swp]; omega) (h.swp (by omega) (by omega))
        rw [size_swp] at ih
        split
        · exact ⟨rfl, h, rfl⟩
        · exact ih
    · rw [if_neg hj, if_neg hj]; exact ⟨rfl, h, rfl⟩
theorem pins_alike (E : Alike lt lt') (a b : Nat) (hab : a < b) : ∀ (s i : Nat) (d : Array α), a < i → i ≤ b → b ≤ d.size → NoTwo d → partialIns lt a b s i d = partialIns lt' a b s i d
  | 0, _, _, _, _, _, _ => rfl
  | s + 1, i, d, hi, hib, hb, h => by
    rw [partialIns, partialIns]
    have s1 := scanS_alike E h hb _ i rfl (by omega)
    rw [← s1.1]
    generalize scanSorted lt d b i = i2 at s1 ⊢
    dsimp only
    by_cases q : i2 = b
    · rw [if_pos q, if_pos q]
    rw [if_neg q, if_neg q]
    split
    · rfl
    have h1 := h.swp (show i2 < d.size by omega) (show i2 - 1 < d.size by omega)
    have z1 : (swp d i2 (i2 - 1)).size = d.size := size_swp _ _ _
    generalize swp d i2 (i2 - 1) = d1 at h1 z1 ⊢
    have g1 := shD_alike E (i2 - 1) d1 h1 (by omega)
    rw [← g1.1]
    have h2 : NoTwo (if i2 - a ≥ 2 then shiftDown lt (i2 - 1) d1 else d1) ∧ (if i2 - a ≥ 2 then shiftDown lt (i2 - 1) d1 else d1).size = d.size := by
      split
      · exact ⟨g1.2.1, g1.2.2.trans z1⟩
      · exact ⟨h1, z1⟩
    generalize (if i2 - a ≥ 2 then shiftDown lt (i2 - 1) d1 else d1) = d2 at h2 ⊢
    have g2 := shU_alike E b _ (i2 + 1) d2 rfl (by omega) (by omega) h2.1
    rw [← g2.1]
    have h3 : NoTwo (if b - i2 ≥ 2 then shiftUp lt b (i2 + 1) d2 else d2) ∧ (if b - i2 ≥ 2 then shiftUp lt b (i2 + 1) d2 else d2).size = d.size := by
      split
      · exact ⟨g2.2.1, g2.2.2.trans h2.2⟩
      · exact h2
    generalize (if b - i2 ≥ 2 then shiftUp lt b (i2 + 1) d2 else d2) = d3 at h3 ⊢
    exact pins_alike E a b hab s i2 d3 (by omega) (by omega) (by omega) h3.1
theorem partialInsertionSort_alike (E : Alike lt lt') {d : Array α} (h : NoTwo d) {a b : Nat} (hab : a < b) (hb : b ≤ d.size) : partialInsertionSort lt d a b = partialInsertionSort lt' d a b :=
  pins_alike E a b hab 5 (a + 1) d (by omega) (by omega) hb h
end Go.Proofs.YtjcdkbalhleeeaaGreatDoor

namespace Go.Proofs.YtjcdkbalhleeeaaGreatDoor
open Go.Shelf Go.RowKit Go.Lib Go.Sort
variable {P : Program} {ρ : Ren} {α : Type} [Inhabited α]

/-- No two elements are one, and of any two one is ahead. -/
def Fine (lt : α → α → Bool) (d : Array α) : Prop := d.toList.Pairwise fun x y => x ≠ y ∧ (lt x y = true ∨ lt y x = true)
variable {lt : α → α → Bool}
theorem Fine.perm {a b : Nat} {d d' : Array α} (h : Fine lt d) (p : PermIn a b d d') (hab : a ≤ b) (hb : b ≤ d.size) : Fine lt d' :=
  ((perm_all p hab hb).pairwise_iff (fun h => ⟨h.1.symm, h.2.symm⟩)).2 h
theorem Fine.no {d : Array α} (h : Fine lt d) : NoTwo d := NoTwo.of (h.imp And.left)
theorem Fine.tot {d : Array α} (h : Fine lt d) {i j : Nat} (hi : i < d.size) (hj : j < d.size) (hij : i ≠ j) : lt d[i]! d[j]! = true ∨ lt d[j]! d[i]! = true := by
  rw [Fine, List.pairwise_iff_getElem] at h
  rw [getElem!_pos d i hi, getElem!_pos d j hj]
  rcases Nat.lt_or_gt_of_ne hij with q | q
  · have := (h i j (by simpa using hi) (by simpa using hj) q).2
    simpa using this
  · have := (h j i (by simpa using hj) (by simpa using hi) q).2.symm
    simpa using this

/-- What stands for the whole sort: the element's type, the comparison and its contract, the row. -/
structure Cx (P : Program) (ρ : Ren) (enc : α → List Value) (k : Nat) (cf : α → α → Int) (g : Nat) (cb : Array Value) (blk off n : Nat) (d0 : Array α) (w0 : World) : Prop where
  aE : ∀ w, (isAgg (ρ.t 24)).run P w = .ok true w
  zE : ∀ w, (Go.sizeOf (ρ.t 24)).run P w = .ok k w
  eg : ∀ args w, (callFunc g args).run P w = .ok (.enter g args) w
  hcmp : CmpLays P g cb enc k cf blk off d0.size w0
  R : RowK enc k w0 blk off d0
  hn : d0.size = n
  hsz : n < 4611686018427387904

section
variable {enc : α → List Value} {k : Nat} {cf : α → α → Int} {g : Nat} {cb : Array Value} {blk off n : Nat} {d0 : Array α} {w0 : World}

theorem srt_ins (L : SlLaysF0.n20 P ρ) (C : Cx P ρ enc k cf g cb blk off n d0 w0) (hO : SWO lt) (hE : Alike (ltOf cf) lt) (cap : Nat) {a b : Nat} {d : Array α} {w : World} (hF : Fine lt d) (hs : d.size = n) (S : SWK enc k w0 blk off d w) (hab : a ≤ b) (hb : b ≤ n) :
    Calls P (ρ.f 20) #[.slice (some ⟨blk, off, none⟩) n cap, .int .i64 a, .int .i64 b, .func (.func g) #[] cb] w fun e w' => e = .returned (.tuple #[]) ∧ ∃ d', SWK enc k w0 blk off d' w' ∧ PermIn a b d d' ∧ SortedIn lt a b d' := by
  subst hs
  have e := insertionSort_alike hE hF.no (a := a) (b := b) hb
  have q := insertionSort_holds hO d a b hab hb
  have hC : CmpLays P g cb enc k cf blk off d.size w := fun m os dk hdk x y => by
    obtain ⟨m0, os0, rfl⟩ := S
    rw [sortWorldK_on enc k w0 blk off m0 m d dk os0 os C.R.hblk hdk]
    exact C.hcmp _ _ dk (hdk.trans C.hn.symm) x y
  refine (AnyQ.insertionSortCmpFunc L k C.aE C.zE enc C.R.hk C.R.h1 cf g cb blk off cap a b d w C.eg hC (S.holds C.R.hblk C.R.hH C.hn.symm) (S.lt C.R.hblk) hab hb C.hsz).mono ?_
  rintro _ _ ⟨rfl, m, os, rfl⟩
  rw [e]
  exact ⟨rfl, _, S.on C.R.hblk m _ os q.1.1, q.1, q.2⟩

theorem srt_heap (L : SlLaysF0.n21 P ρ) (C : Cx P ρ enc k cf g cb blk off n d0 w0) (hO : SWO lt) (hE : Alike (ltOf cf) lt) (cap : Nat) {a b : Nat} {d : Array α} {w : World} (hF : Fine lt d) (hs : d.size = n) (S : SWK enc k w0 blk off d w) (hab : a ≤ b) (hb : b ≤ n) :
    Calls P (ρ.f 21) #[.slice (some ⟨blk, off, none⟩) n cap, .int .i64 a, .int .i64 b, .func (.func g) #[] cb] w fun e w' => e = .returned (.tuple #[]) ∧ ∃ d', SWK enc k w0 blk off d' w' ∧ PermIn a b d d' ∧ SortedIn lt a b d' := by
  subst hs
  have e := heapSort_alike hE hF.no hab hb
  have q := heapSort_holds hO d a b hab hb
  refine (AnyQ.heapSortCmpFunc L k C.aE C.zE enc cf g cb blk off cap a b d0 d w0 w C.eg C.hcmp C.R C.hn S hab hb C.hsz).mono ?_
  rintro _ _ ⟨rfl, h⟩
  rw [e] at h
  exact ⟨rfl, _, h, q.1, q.2⟩

theorem srt_break (L : SlLaysF0.n22 P ρ) (C : Cx P ρ enc k cf g cb blk off n d0 w0) (cap : Nat) {a b : Nat} {d : Array α} {w : World} (hs : d.size = n) (S : SWK enc k w0 blk off d w) (hab : a ≤ b) (hb : b ≤ n) :
    Calls P (ρ.f 22) #[.slice (some ⟨blk, off, none⟩) n cap, .int .i64 a, .int .i64 b, .func (.func g) #[] cb] w fun e w' => e = .returned (.tuple #[]) ∧ ∃ d', SWK enc k w0 blk off d' w' ∧ PermIn a b d d' := by
  subst hs
  refine (AnyQ.breakPatternsCmpFunc L k C.aE C.zE enc g cb blk off cap a b d0 d w0 w C.R C.hn S hab hb C.hsz).mono ?_
  rintro _ _ ⟨rfl, h⟩
  exact ⟨rfl, _, h, breakPatterns_holds d a b hab hb⟩

theorem srt_pivot (L : SlLaysF0.n23 P ρ) (C : Cx P ρ enc k cf g cb blk off n d0 w0) (cap : Nat) {a b : Nat} {d : Array α} {w : World} (hs : d.size = n) (S : SWK enc k w0 blk off d w) (hab : a < b) (hb : b ≤ n) :
    Calls P (ρ.f 23) #[.slice (some ⟨blk, off, none⟩) n cap, .int .i64 a, .int .i64 b, .func (.func g) #[] cb] w fun e w' => ∃ (p : Nat) (t : Hint), e = .returned (.tuple #[.int .i64 p, .int .i64 (hintCode t)]) ∧ a ≤ p ∧ p < b ∧ SWK enc k w0 blk off d w' := by
  subst hs
  have q := choosePivot_holds (ltOf cf) d a b hab
  refine (AnyQ.choosePivotCmpFunc L k C.aE C.zE enc cf g cb blk off cap a b d0 d w0 w C.eg C.hcmp C.R C.hn S hab hb C.hsz).mono ?_
  rintro _ _ ⟨rfl, h⟩
  exact ⟨_, _, rfl, q.1, q.2, h⟩

theorem srt_turn (L : SlLaysF0.n24 P ρ) (C : Cx P ρ enc k cf g cb blk off n d0 w0) (cap : Nat) {a b : Nat} {d : Array α} {w : World} (hs : d.size = n) (S : SWK enc k w0 blk off d w) (hab : a ≤ b) (hb : b ≤ n) :
    Calls P (ρ.f 24) #[.slice (some ⟨blk, off, none⟩) n cap, .int .i64 a, .int .i64 b, .func (.func g) #[] cb] w fun e w' => e = .returned (.tuple #[]) ∧ ∃ d', SWK enc k w0 blk off d' w' ∧ PermIn a b d d' := by
  subst hs
  refine (AnyQ.reverseRangeCmpFunc L k C.aE C.zE enc g cb blk off cap a b d0 d w0 w C.R C.hn S hab hb C.hsz).mono ?_
  rintro _ _ ⟨rfl, h⟩
  exact ⟨rfl, _, h, reverseRange_holds d a b hab hb⟩

theorem srt_some (L : SlLaysF0.n25 P ρ) (C : Cx P ρ enc k cf g cb blk off n d0 w0) (hO : SWO lt) (hE : Alike (ltOf cf) lt) (cap : Nat) {a b : Nat} {d : Array α} {w : World} (hF : Fine lt d) (hs : d.size = n) (S : SWK enc k w0 blk off d w) (hab : a < b) (hb : b ≤ n) (hB : Below lt a b d) :
    Calls P (ρ.f 25) #[.slice (some ⟨blk, off, none⟩) n cap, .int .i64 a, .int .i64 b, .func (.func g) #[] cb] w fun e w' => ∃ (q : Bool) (d' : Array α), e = .returned (.bool q) ∧ SWK enc k w0 blk off d' w' ∧ PermIn a b d d' ∧ (q = true → SortedIn lt a b d') := by
  subst hs
  have e := partialInsertionSort_alike hE hF.no hab hb
  have q := partialInsertionSort_holds hO d a b hab hb hB
  refine (AnyQ.partialInsertionSortCmpFunc L k C.aE C.zE enc cf g cb blk off cap a b d0 d w0 w C.eg C.hcmp C.R C.hn S hab hb C.hsz).mono ?_
  rintro _ _ ⟨rfl, h⟩
  rw [e] at h ⊢
  exact ⟨_, _, rfl, h, q.1, q.2⟩

/-- What a parting leaves: each half is to be sorted, then all is. -/
def Parted (lt : α → α → Bool) (a b mid : Nat) (d d4 : Array α) : Prop :=
  a ≤ mid ∧ mid < b ∧ PermIn a b d d4 ∧ Below lt a mid d4 ∧ Below lt (mid + 1) b d4 ∧
    (∀ L, PermIn a mid d4 L → SortedIn lt a mid L → Below lt (mid + 1) b L ∧ ∀ R, PermIn (mid + 1) b L R → SortedIn lt (mid + 1) b R → PermIn a b d R ∧ SortedIn lt a b R) ∧
    (∀ L, PermIn (mid + 1) b d4 L → SortedIn lt (mid + 1) b L → Below lt a mid L ∧ ∀ R, PermIn a mid L R → SortedIn lt a mid R → PermIn a b d R ∧ SortedIn lt a b R)
theorem srt_part (L : SlLaysF0.n27 P ρ) (C : Cx P ρ enc k cf g cb blk off n d0 w0) (hO : SWO lt) (hE : Alike (ltOf cf) lt) (cap : Nat) {a b p : Nat} {d : Array α} {w : World} (hF : Fine lt d) (hs : d.size = n) (S : SWK enc k w0 blk off d w) (h1 : a ≤ p) (h2 : p < b) (hb : b ≤ n) (hB : Below lt a b d) :
    Calls P (ρ.f 27) #[.slice (some ⟨blk, off, none⟩) n cap, .int .i64 a, .int .i64 b, .int .i64 p, .func (.func g) #[] cb] w fun e w' => ∃ (mid : Nat) (q : Bool) (d' : Array α), e = .returned (.tuple #[.int .i64 mid, .bool q]) ∧ SWK enc k w0 blk off d' w' ∧ Parted lt a b mid d d' := by
  subst hs
  have e := partition_alike hE hF.no h1 h2 hb
  obtain ⟨mid, ap, d4, hx⟩ : ∃ mid ap d4, Sort.partition lt d a b p = (mid, ap, d4) := ⟨_, _, _, rfl⟩
  obtain ⟨r1, r2, r3, r4, r5, r6, r7⟩ := round_part hO (partition_holds lt) h1 h2 hb hB hx
  have q := (partition_holds lt hO d a b p h1 h2 hb).2.2.1
  refine (AnyQ.partitionCmpFunc L k C.aE C.zE enc cf g cb blk off cap a b p d0 d w0 w C.eg C.hcmp C.R C.hn S h1 h2 hb C.hsz).mono ?_
  rintro _ _ ⟨rfl, h⟩
  rw [e, hx] at h ⊢
  rw [hx] at q
  exact ⟨mid, ap, d4, rfl, h, r1, r2, q, r4, r5, r6, r7⟩
end
end Go.Proofs.YtjcdkbalhleeeaaGreatDoor

namespace Go.Proofs.YtjcdkbalhleeeaaGreatDoor
open Go.Shelf Go.RowKit Go.Lib Go.Sort
variable {P : Program} {ρ : Ren} {α : Type} [Inhabited α] {lt : α → α → Bool}
variable {enc : α → List Value} {k : Nat} {cf : α → α → Int} {g : Nat} {cb : Array Value} {blk off n : Nat} {d0 : Array α} {w0 : World}

/-- What a round begins with: of the part that is not sorted yet. -/
structure Rnd (lt : α → α → Bool) (enc : α → List Value) (k : Nat) (w0 : World) (blk off n a b limit : Nat) (d : Array α) (x a' b' lim : Nat) (dk : Array α) (wr : World) : Prop where
  ab : a' ≤ b'
  bn : b' ≤ n
  bx : b' - a' ≤ x
  xa : x ≤ b - a
  li : lim ≤ limit
  sz : dk.size = n
  fi : Fine lt dk
  be : Below lt a' b' dk
  sw : SWK enc k w0 blk off dk wr
  en : ∀ d', PermIn a' b' dk d' → SortedIn lt a' b' d' → PermIn a b d d' ∧ SortedIn lt a b d'
theorem Rnd.give {a b limit : Nat} {d : Array α} {x a' b' lim : Nat} {dk : Array α} {wr : World} {s1 s2 s3 s8 s9 : Value} (h : Rnd lt enc k w0 blk off n a b limit d x a' b' lim dk wr) (wb wp : Bool)
    (h1 : s1 = .int .i64 a') (h2 : s2 = .int .i64 b') (h3 : s3 = .int .i64 lim) (h8 : s8 = .bool wb) (h9 : s9 = .bool wp) :
    ∃ (a' b' lim : Nat) (wb wp : Bool) (dk : Array α), s1 = .int .i64 a' ∧ s2 = .int .i64 b' ∧ s3 = .int .i64 lim ∧ s8 = .bool wb ∧ s9 = .bool wp ∧ Rnd lt enc k w0 blk off n a b limit d x a' b' lim dk wr :=
  ⟨a', b', lim, wb, wp, dk, h1, h2, h3, h8, h9, h⟩
/-- The same part, otherwise ordered. -/
structure Turn (lt : α → α → Bool) (enc : α → List Value) (k : Nat) (w0 : World) (blk off n a' b' : Nat) (dk d1 : Array α) (w : World) : Prop where
  sw : SWK enc k w0 blk off d1 w
  pe : PermIn a' b' dk d1
  sz : d1.size = n
  fi : Fine lt d1
  be : Below lt a' b' d1
theorem Turn.mk' {a' b' : Nat} {dk d1 : Array α} {w : World} (ab : a' ≤ b') (bn : b' ≤ n) (sz : dk.size = n) (fi : Fine lt dk) (be : Below lt a' b' dk) (sw : SWK enc k w0 blk off d1 w) (pe : PermIn a' b' dk d1) : Turn lt enc k w0 blk off n a' b' dk d1 w :=
  ⟨sw, pe, pe.1.trans sz, fi.perm pe ab (by rw [sz]; exact bn), be.perm (by rw [sz]; exact bn) pe⟩

set_option linter.unusedVariables false in
theorem less_cf (hE : Alike (ltOf cf) lt) {d : Array α} (hF : Fine lt d) {a b p : Nat} (h0 : 0 < a) (h1 : a ≤ p) (h2 : p < b) (hb : b ≤ d.size) (hO : SWO lt) (hB : Below lt a b d) : cf d[a - 1]! d[p]! < 0 := by
  have q : lt d[p]! d[a - 1]! = false := by
    rcases hB with h | h
    · omega
    · exact h p h1 h2
  have t : lt d[a - 1]! d[p]! = true := by
    rcases hF.tot (i := a - 1) (j := p) (by omega) (by omega) (by omega) with h | h
    · exact h
    · rw [q] at h; cases h
  have := hF.no.les hE (i := a - 1) (j := p) (by omega) (by omega) (by omega)
  rw [t] at this
  exact of_decide_eq_true this

set_option maxHeartbeats 25600000 in
set_option maxRecDepth 1000000 in
theorem srt_pdq (L : SlLaysF0.n14 P ρ) (C : Cx P ρ enc k cf g cb blk off n d0 w0) (hO : SWO lt) (hE : Alike (ltOf cf) lt) (cap : Nat) :
    ∀ (N a b limit : Nat) (d : Array α) (w : World), b - a < N → d.size = n → Fine lt d → SWK enc k w0 blk off d w → a ≤ b → b ≤ n → limit < 4611686018427387904 → Below lt a b d →
    Calls P (ρ.f 14) #[.slice (some ⟨blk, off, none⟩) n cap, .int .i64 a, .int .i64 b, .int .i64 limit, .func (.func g) #[] cb] w fun e w' => e = .returned (.tuple #[]) ∧ ∃ d', SWK enc k w0 blk off d' w' ∧ PermIn a b d d' ∧ SortedIn lt a b d' := by
  have mixed := L.mixed; have t0 := L.t0; have a0 := L.a0; have z0 := L.z0; have v0 := L.v0; have t3 := L.t3; have a3 := L.a3; have z3 := L.z3; have v3 := L.v3; have t4 := L.t4; have a4 := L.a4; have z4 := L.z4; have v4 := L.v4; have t22 := L.t22; have a22 := L.a22; have z22 := L.z22; have v22 := L.v22; have t25 := L.t25; have a25 := L.a25; have z25 := L.z25; have v25 := L.v25
  obtain ⟨_, _, FG⟩ := L.f14
  have e14 : ∀ args w, (callFunc (ρ.f 14) args).run P w = .ok (.enter (ρ.f 14) args) w := L.f14.enters rfl
  have e20 : ∀ args w, (callFunc (ρ.f 20) args).run P w = .ok (.enter (ρ.f 20) args) w := L.f20.enters rfl
  have e21 : ∀ args w, (callFunc (ρ.f 21) args).run P w = .ok (.enter (ρ.f 21) args) w := L.f21.enters rfl
  have e22 : ∀ args w, (callFunc (ρ.f 22) args).run P w = .ok (.enter (ρ.f 22) args) w := L.f22.enters rfl
  have e23 : ∀ args w, (callFunc (ρ.f 23) args).run P w = .ok (.enter (ρ.f 23) args) w := L.f23.enters rfl
  have e24 : ∀ args w, (callFunc (ρ.f 24) args).run P w = .ok (.enter (ρ.f 24) args) w := L.f24.enters rfl
  have e25 : ∀ args w, (callFunc (ρ.f 25) args).run P w = .ok (.enter (ρ.f 25) args) w := L.f25.enters rfl
  have e26 : ∀ args w, (callFunc (ρ.f 26) args).run P w = .ok (.enter (ρ.f 26) args) w := L.f26.enters rfl
  have e27 : ∀ args w, (callFunc (ρ.f 27) args).run P w = .ok (.enter (ρ.f 27) args) w := L.f27.enters rfl
  have eg := C.eg
  have aE := C.aE
  have zE := C.zE
  have hsz := C.hsz
  have HC := Lib.hid C.hcmp
  have HR := Lib.hid C.R
  have HE := Lib.hid hE
  intro N
  induction N with
  | zero => intro _ _ _ _ _ h; exact absurd h (Nat.not_lt_zero _)
  | succ N ih =>
    intro a b limit d w hN hs hF S hab hb hlimit hB0
    have IH := Lib.hid ih
    have ST : Hid (Rnd lt enc k w0 blk off n a b limit d (b - a) a b limit d w) := Lib.hid ⟨hab, hb, Nat.le_refl _, Nat.le_refl _, Nat.le_refl _, hs, hF, hB0, S, fun d' h1 h2 => ⟨h1, h2⟩⟩
    clear ih hs hF S hB0
    go_enter FG, SlBodyF.n14_ntmps ρ
    go_wp2
    go_loopg [1, 2, 3, 10, 11] (b - a) (fun x s1 s2 s3 s8 s9 wr => ∃ (a' b' lim : Nat) (wb wp : Bool) (dk : Array α), s1 = .int .i64 a' ∧ s2 = .int .i64 b' ∧ s3 = .int .i64 lim ∧ s8 = .bool wb ∧ s9 = .bool wp ∧
      Rnd lt enc k w0 blk off n a b limit d x a' b' lim dk wr)
    case atStart => exact ⟨a, b, limit, true, true, d, rfl, rfl, rfl, rfl, rfl, ST.out⟩
    case round =>
      obtain ⟨a', b', lim, wb, wp, dk, rfl, rfl, rfl, rfl, rfl, hI⟩ := hrel
      have HI := Lib.hid hI
      have hab' := hI.ab
      have hbn' := hI.bn
      have hli := hI.li
      have hbx := hI.bx
      have hxa := hI.xa
      clear hI ST
      by_cases h12 : b' - a' ≤ 12
      · have h12z : (b' : Int) - (a' : Int) ≤ 12 := by omega
        go_wp2_with (go_at_fn (ρ.f 20); refine (srt_ins { L with } C hO HE.out cap HI.out.fi HI.out.sz HI.out.sw hab' hbn').mono ?_; rintro e w1 ⟨rfl, d1, h1, h2, h3⟩; have H1 := Lib.hid h1; have H2 := Lib.hid h2; have H3 := Lib.hid h3; clear h1 h2 h3)
        (try simp only [Exit.inBlock, Exit.then]); refine bodyPost_ret (results_none rfl _ _ _) rfl ?_
        exact ⟨rfl, d1, H1.out, HI.out.en d1 H2.out H3.out⟩
      · have h12z : ¬ ((b' : Int) - (a' : Int) ≤ 12) := by omega
        by_cases hl0 : lim = 0
        · subst hl0
          go_wp2_with (go_at_fn (ρ.f 21); refine (srt_heap { L with } C hO HE.out cap HI.out.fi HI.out.sz HI.out.sw hab' hbn').mono ?_; rintro e w1 ⟨rfl, d1, h1, h2, h3⟩; have H1 := Lib.hid h1; have H2 := Lib.hid h2; have H3 := Lib.hid h3; clear h1 h2 h3)
          (try simp only [Exit.inBlock, Exit.then]); refine bodyPost_ret (results_none rfl _ _ _) rfl ?_
          exact ⟨rfl, d1, H1.out, HI.out.en d1 H2.out H3.out⟩
        · have hl0z : ¬ ((lim : Int) = 0) := by omega
          go_upto_if 39 with fail
          go_cut [3] from 21 (fun s3 wc => ∃ (l1 : Nat) (d1 : Array α), s3 = .int .i64 l1 ∧ l1 ≤ limit ∧ Turn lt enc k w0 blk off n a' b' dk d1 wc)
          case first =>
            cases wb
            · go_wp2_with (go_at_fn (ρ.f 22); refine (srt_break { L with } C cap HI.out.sz HI.out.sw hab' hbn').mono ?_; rintro e w1 ⟨rfl, d1, h1, h2⟩; have H1 := Lib.hid h1; have H2 := Lib.hid h2; clear h1 h2)
              go_meet
              case rel =>
                refine ⟨lim - 1, d1, ?_, by omega, Turn.mk' hab' hbn' HI.out.sz HI.out.fi HI.out.be H1.out H2.out⟩
                show Value.int .i64 ((lim : Int) - 1) = Value.int .i64 ((lim - 1 : Nat) : Int)
                congr 1
                omega
            · go_wp2_with fail
              go_meet
              case rel => exact ⟨lim, dk, rfl, hli, Turn.mk' hab' hbn' HI.out.sz HI.out.fi HI.out.be HI.out.sw (permIn_refl _ _ _)⟩
          case rest =>
            obtain ⟨l1, d1, rfl, hl1, hT⟩ := hcut
            have HT := Lib.hid hT
            clear hT
            go_upto_if 56 with (go_at_fn (ρ.f 23); refine (srt_pivot { L with } C cap HT.out.sz HT.out.sw (by omega) hbn').mono ?_; rintro e w2 ⟨p, t, rfl, hp1, hp2, h2⟩; have H2 := Lib.hid h2; clear h2)
            go_cut [13, 14] from 21 (fun s11 s12 wc => ∃ (p : Nat) (t : Hint) (d2 : Array α), s11 = .int .i64 p ∧ s12 = .int .i64 (hintCode t) ∧ a' ≤ p ∧ p < b' ∧ Turn lt enc k w0 blk off n a' b' dk d2 wc)
            case first =>
              by_cases hh : hintCode t = 2
              · go_wp2_with (go_at_fn (ρ.f 24); refine (srt_turn { L with } C cap HT.out.sz H2.out hab' hbn').mono ?_; rintro e w3 ⟨rfl, d3, h3, h4⟩; have H3 := Lib.hid h3; have H4 := Lib.hid h4; clear h3 h4)
                go_meet
                case rel =>
                  refine ⟨(b' - 1) - (p - a'), .increasing, d3, ?_, rfl, by omega, by omega, Turn.mk' hab' hbn' HI.out.sz HI.out.fi HI.out.be H3.out (permIn_trans _ _ _ _ _ HT.out.pe H4.out)⟩
                  congr 1
                  omega
              · go_wp2_with fail
                go_meet
                case rel => exact ⟨p, t, d1, rfl, rfl, hp1, hp2, Turn.mk' hab' hbn' HI.out.sz HI.out.fi HI.out.be H2.out HT.out.pe⟩
            case rest =>
              clear HT H2 hp1 hp2
              obtain ⟨p2, t2, d2, rfl, rfl, hp1, hp2, hT⟩ := hcut
              have HT := Lib.hid hT
              clear hT
              go_upto_region 15 with fail
              go_cut [14, 75] from 21 (fun s12 s68 wx => ∃ q : Bool, s12 = .int .i64 (hintCode t2) ∧ s68 = .bool q ∧ Turn lt enc k w0 blk off n a' b' dk d2 wx)
              case first =>
                cases wb <;> cases wp <;> cases t2 <;>
                  (simp only [hintCode]
                   go_wp2_with fail
                   go_meet
                   exact ⟨_, rfl, rfl, HT.out⟩)
              case rest =>
                clear HT
                obtain ⟨q, rfl, rfl, hT⟩ := hcut
                have HT := Lib.hid hT
                clear hT
                go_upto_if 75 with fail
                go_cut [] from 21 (fun wx => ∃ d3, Turn lt enc k w0 blk off n a' b' dk d3 wx)
                case first =>
                  cases q
                  · go_wp2_with fail
                    go_meet
                    case rel => exact ⟨d2, HT.out⟩
                  · go_wp2_with (go_at_fn (ρ.f 25); refine (srt_some { L with } C hO HE.out cap HT.out.fi HT.out.sz HT.out.sw (by omega) hbn' HT.out.be).mono ?_; rintro e w4 ⟨q4, d4, rfl, h4, h5, h6⟩; have H4 := Lib.hid h4; have H5 := Lib.hid h5; have H6 := Lib.hid h6; clear h4 h5 h6)
                    all_goals first
                      | (have hq : q4 = false := by assumption
                         go_meet
                         exact ⟨d4, Turn.mk' hab' hbn' HI.out.sz HI.out.fi HI.out.be H4.out (permIn_trans _ _ _ _ _ HT.out.pe H5.out)⟩)
                      | (have hq : q4 = true := by assumption
                         (try simp only [Exit.inBlock, Exit.then]); refine bodyPost_ret (results_none rfl _ _ _) rfl ?_
                         exact ⟨rfl, d4, H4.out, HI.out.en d4 (permIn_trans _ _ _ _ _ HT.out.pe H5.out) (H6.out hq)⟩)
                case rest =>
                  clear HT
                  obtain ⟨d3, hT⟩ := hcut
                  have HT := Lib.hid hT
                  have hd3 : d3.size = n := hT.sz
                  clear hT
                  have hlp : ∀ i, i < 0 → False := fun i h => by omega
                  clear hlp
                  rcases Nat.eq_zero_or_pos a' with ha0 | ha0
                  · have hz1 : decide ((a' : Int) > 0) = false := decide_eq_false (by omega)
                    have hz2 : ¬ (0 < a') := by omega
                    have hz3 : decide (0 < a') = false := decide_eq_false hz2
                    have hz4 : decide ((0 : Int) < (a' : Int)) = false := decide_eq_false (by omega)
                    clear ha0
                    go_wp2_with fail
                    go_big_region_o
                    have H6 := Lib.hid (HT.out.sw.drew)
                    generalize wc.drew = w6 at H6 ⊢
                    go_upto_if 125 with (go_at_fn (ρ.f 27); refine (srt_part { L with } C hO HE.out cap HT.out.fi HT.out.sz H6.out hp1 hp2 hbn' HT.out.be).mono ?_; rintro e w7 ⟨mid, q7, d7, rfl, h7, g7⟩; have H7 := Lib.hid h7; have hm1 := g7.1; have hm2 := g7.2.1; have G7 := Lib.hid g7; clear h7 g7)
                    have hs7 : d7.size = n := G7.out.2.2.1.1.trans hd3
                    have F7 := Lib.hid (HT.out.fi.perm G7.out.2.2.1 hab' (by omega))
                    by_cases h4 : mid - a' < b' - mid
                    · have h4z : (mid : Int) - (a' : Int) < (b' : Int) - (mid : Int) := by omega
                      have HI2 := Lib.hid (IH.out a' mid l1 d7 w7 (by omega) hs7 F7.out H7.out (by omega) (by omega) (by omega) G7.out.2.2.2.1)
                      go_wp2_with (go_at_fn (ρ.f 14); refine HI2.out.mono ?_; rintro e w8 ⟨rfl, d8, h8, p8, s8⟩; have H8 := Lib.hid h8; have P8 := Lib.hid p8; have S8 := Lib.hid s8; clear h8 p8 s8)
                      have HRN := Lib.hid (show Rnd lt enc k w0 blk off n a b limit d (b' - (mid + 1)) (mid + 1) b' l1 d8 w8 from by
                        have q := G7.out.2.2.2.2.2.1 d8 P8.out S8.out
                        refine ⟨by omega, hbn', Nat.le_refl _, by omega, hl1, P8.out.1.trans hs7, F7.out.perm P8.out (by omega) (by omega), q.1, H8.out, fun d' h1 h2 => ?_⟩
                        have r := q.2 d' h1 h2
                        exact HI.out.en d' (permIn_trans _ _ _ _ _ HT.out.pe r.1) r.2)
                      go_roundg (b' - (mid + 1))
                      case measure => omega
                      case rel => exact Rnd.give HRN.out _ _ (congrArg (Value.int .i64) (Int.natCast_succ mid).symm) rfl rfl rfl rfl
                    · have h4z : ¬ ((mid : Int) - (a' : Int) < (b' : Int) - (mid : Int)) := by omega
                      have hi2 := IH.out (mid + 1) b' l1 d7 w7 (by omega) hs7 F7.out H7.out (by omega) (by omega) (by omega) G7.out.2.2.2.2.1
                      rw [Int.natCast_succ mid] at hi2
                      have HI2 := Lib.hid hi2
                      clear hi2
                      go_wp2_with (go_at_fn (ρ.f 14); refine HI2.out.mono ?_; rintro e w8 ⟨rfl, d8, h8, p8, s8⟩; have H8 := Lib.hid h8; have P8 := Lib.hid p8; have S8 := Lib.hid s8; clear h8 p8 s8)
                      have HRN := Lib.hid (show Rnd lt enc k w0 blk off n a b limit d (mid - a') a' mid l1 d8 w8 from by
                        have q := G7.out.2.2.2.2.2.2 d8 P8.out S8.out
                        refine ⟨by omega, by omega, Nat.le_refl _, by omega, hl1, P8.out.1.trans hs7, F7.out.perm P8.out (by omega) (by omega), q.1, H8.out, fun d' h1 h2 => ?_⟩
                        have r := q.2 d' h1 h2
                        exact HI.out.en d' (permIn_trans _ _ _ _ _ HT.out.pe r.1) r.2)
                      go_roundg (mid - a')
                      case measure => omega
                      case rel => exact Rnd.give HRN.out _ _ rfl rfl rfl rfl rfl
                  · obtain ⟨ap, hap⟩ : ∃ q, q + 1 = a' := ⟨a' - 1, by omega⟩
                    have zap : (a' : Int) = (ap : Int) + 1 := by omega
                    have hz1 : decide ((ap : Int) + 1 > 0) = true := decide_eq_true (by omega)
                    have eA : ((ap : Int)).toNat = a' - 1 := by omega
                    have pA : (0 : Int) ≤ (ap : Int) := by omega
                    have bA : (ap : Int) < (n : Int) := by omega
                    have rA : IntKind.i64.wrap ((ap : Int)) = (ap : Int) := by rw [IntKind.wrap_i64]; omega
                    have eP : ((p2 : Int)).toNat = p2 := by omega
                    have pP : (0 : Int) ≤ (p2 : Int) := by omega
                    have bP : (p2 : Int) < (n : Int) := by omega
                    have rP : IntKind.i64.wrap ((p2 : Int)) = (p2 : Int) := by rw [IntKind.wrap_i64]; omega
                    have hv := less_cf HE.out HT.out.fi ha0 hp1 hp2 (by omega) hO HT.out.be
                    have lA := HT.out.sw.ld HR.out (hd3.trans C.hn.symm) P (a' - 1) (by omega)
                    have lP := HT.out.sw.ld HR.out (hd3.trans C.hn.symm) P p2 (by omega)
                    obtain ⟨x, hx⟩ : ∃ x, d3[a' - 1]! = x := ⟨_, rfl⟩
                    obtain ⟨y, hy⟩ : ∃ y, d3[p2]! = y := ⟨_, rfl⟩
                    rw [hx] at lA hv
                    rw [hy] at lP hv
                    have hcc := HT.out.sw.cmp HC.out (hd3.trans C.hn.symm) x y
                    have hd : decide (cf x y < 0) = true := decide_eq_true hv
                    clear hx hy
                    go_wp2_with fail
                    go_quiet_grown (first | (go_at_fn g; refine Calls.grown_of (hcc _ _)))
                    have H6 := Lib.hid (HT.out.sw.grown nq osq)
                    clear lA lP hcc
                    generalize grow (wc.drewN nq) osq = w6 at H6 ⊢
                    clear nq osq
                    simp only [← zap]
                    clear zap hap hz1 hd hv eA pA bA rA
                    go_upto_if 125 with (go_at_fn (ρ.f 27); refine (srt_part { L with } C hO HE.out cap HT.out.fi HT.out.sz H6.out hp1 hp2 hbn' HT.out.be).mono ?_; rintro e w7 ⟨mid, q7, d7, rfl, h7, g7⟩; have H7 := Lib.hid h7; have hm1 := g7.1; have hm2 := g7.2.1; have G7 := Lib.hid g7; clear h7 g7)
                    have hs7 : d7.size = n := G7.out.2.2.1.1.trans hd3
                    have F7 := Lib.hid (HT.out.fi.perm G7.out.2.2.1 hab' (by omega))
                    by_cases h4 : mid - a' < b' - mid
                    · have h4z : (mid : Int) - (a' : Int) < (b' : Int) - (mid : Int) := by omega
                      have HI2 := Lib.hid (IH.out a' mid l1 d7 w7 (by omega) hs7 F7.out H7.out (by omega) (by omega) (by omega) G7.out.2.2.2.1)
                      go_wp2_with (go_at_fn (ρ.f 14); refine HI2.out.mono ?_; rintro e w8 ⟨rfl, d8, h8, p8, s8⟩; have H8 := Lib.hid h8; have P8 := Lib.hid p8; have S8 := Lib.hid s8; clear h8 p8 s8)
                      have HRN := Lib.hid (show Rnd lt enc k w0 blk off n a b limit d (b' - (mid + 1)) (mid + 1) b' l1 d8 w8 from by
                        have q := G7.out.2.2.2.2.2.1 d8 P8.out S8.out
                        refine ⟨by omega, hbn', Nat.le_refl _, by omega, hl1, P8.out.1.trans hs7, F7.out.perm P8.out (by omega) (by omega), q.1, H8.out, fun d' h1 h2 => ?_⟩
                        have r := q.2 d' h1 h2
                        exact HI.out.en d' (permIn_trans _ _ _ _ _ HT.out.pe r.1) r.2)
                      go_roundg (b' - (mid + 1))
                      case measure => omega
                      case rel => exact Rnd.give HRN.out _ _ (congrArg (Value.int .i64) (Int.natCast_succ mid).symm) rfl rfl rfl rfl
                    · have h4z : ¬ ((mid : Int) - (a' : Int) < (b' : Int) - (mid : Int)) := by omega
                      have hi2 := IH.out (mid + 1) b' l1 d7 w7 (by omega) hs7 F7.out H7.out (by omega) (by omega) (by omega) G7.out.2.2.2.2.1
                      rw [Int.natCast_succ mid] at hi2
                      have HI2 := Lib.hid hi2
                      clear hi2
                      go_wp2_with (go_at_fn (ρ.f 14); refine HI2.out.mono ?_; rintro e w8 ⟨rfl, d8, h8, p8, s8⟩; have H8 := Lib.hid h8; have P8 := Lib.hid p8; have S8 := Lib.hid s8; clear h8 p8 s8)
                      have HRN := Lib.hid (show Rnd lt enc k w0 blk off n a b limit d (mid - a') a' mid l1 d8 w8 from by
                        have q := G7.out.2.2.2.2.2.2 d8 P8.out S8.out
                        refine ⟨by omega, by omega, Nat.le_refl _, by omega, hl1, P8.out.1.trans hs7, F7.out.perm P8.out (by omega) (by omega), q.1, H8.out, fun d' h1 h2 => ?_⟩
                        have r := q.2 d' h1 h2
                        exact HI.out.en d' (permIn_trans _ _ _ _ _ HT.out.pe r.1) r.2)
                      go_roundg (mid - a')
                      case measure => omega
                      case rel => exact Rnd.give HRN.out _ _ rfl rfl rfl rfl rfl
end Go.Proofs.YtjcdkbalhleeeaaGreatDoor
