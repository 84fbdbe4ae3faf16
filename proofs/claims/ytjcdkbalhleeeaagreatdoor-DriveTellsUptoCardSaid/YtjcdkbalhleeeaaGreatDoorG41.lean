/-
  Contracts of functions and plain laws that later parts of the proof use. The conditions stand in each theorem.
-/
import Derived.Test.YtjcdkbalhleeeaaGreatDoorG06
import Derived.Test.YtjcdkbalhleeeaaGreatDoorG20
import Derived.Test.YtjcdkbalhleeeaaGreatDoorG11
import Derived.Test.YtjcdkbalhleeeaaGreatDoorG40
import Derived.Deep.DeepCutAuto
import Derived.Maps.Range
import Derived.BigQuiet
namespace Go.Proofs.YtjcdkbalhleeeaaGreatDoor
open Go.RowKit
theorem MapL.rangeE {w : World} {b : Nat} {L : List PC} (h : MapL w b L) : ∃ o, (Instr.range 129 (.map (some b))).run Tryz.prog w = .ok (.pointer (some ⟨w.heap.size, 0, none⟩)) (w.alloc o) ∧ MapR (w.alloc o) b w.heap.size L L := ⟨_, h.range⟩
theorem MapR.left_eq {w : World} {b r : Nat} {L left : List PC} (h : MapR w b r L left) : w.rangeLeft b r = left.length := by
 obtain ⟨es, cl, since, seen, c0, hb, hr, _, _, _, _, _, hl⟩ := h
 simp only [World.rangeLeft, hb, hr]
 have := congrArg List.length hl
 simpa using this
theorem best_snoc (l : List PC) (x : PC) : bestP (l ++ [x]) = match bestP l with
 | [] => [x]
 | a :: _ => [if slpB x a = true then x else a] := by
 cases l with
 | nil => rfl
 | cons y l => simp [bestP, List.foldl_append]
theorem less_slp {x y : PC} (hx : mayB [x.sn] x.sd = true) (hy : mayB [y.sn] y.sd = true) : lessB x.sn x.sd y.sn y.sd = slpB x y := by
 unfold lessB slpB cmpZ
 rw [hx, hy, Bool.true_and, Bool.true_and, decide_eq_decide]
 omega
theorem best_mem {l : List PC} {a : PC} {t : List PC} (h : bestP l = a :: t) : a ∈ l ∧ t = [] := by
 cases l with
 | nil => simp [bestP] at h
 | cons y l =>
  simp only [bestP, List.cons.injEq] at h
  refine ⟨?_, h.2.symm⟩
  rw [← h.1]
  clear h
  induction l generalizing y with
  | nil => simp
  | cons z l ih =>
   simp only [List.foldl_cons]
   have := ih (if slpB z y = true then z else y)
   split at this <;> (simp only [List.mem_cons] at this ⊢; grind)
theorem PcAt.below {w w' : World} {g i : Nat} {x : PC} (h : PcAt w g i x) (hb : Below w.heap.size w w') : PcAt w' g i x := by
 have k : ∀ {q v}, w.cell? ⟨g, q, none⟩ = some v → w'.cell? ⟨g, q, none⟩ = some v := fun hq => (hb.cell (lc_ hq)).trans hq
 exact ⟨k h.c0, k h.c1, k h.c2, k h.c3, k h.c4, k h.c5, k h.c6, k h.c7, k h.c8, k h.c9⟩
def RetP (w : World) (L : List PC) (e : Ending) (w' : World) : Prop := ∃ v, e = .returned v ∧ PcOwn w' w.heap.size v L ∧ Below w.heap.size w w'
def RetP' (w : World) (Q : List PC → Prop) (e : Ending) (w' : World) : Prop := ∃ L, Q L ∧ RetP w L e w'
theorem pc_one {w : World} {base g : Nat} {x : PC} (h : Blk w g 79 (pcC x).toArray) (hb : base ≤ g) : PcOwn w base (.slice (some ⟨g, 0, none⟩) 1 1) [x] := by
 refine ⟨by simp [pcsC, pcC], .inr ⟨g, 1, (pcC x).toArray, rfl, hb, h, by simp, by decide, by simp [pcC], by simp [pcC, pcsC]⟩⟩
set_option maxRecDepth 100000 in
set_option maxHeartbeats 2000000 in
theorem sweep_only (M : Nat) (L : List PC) (w : World) (hm : MapL w M L) (hv : ∀ x ∈ L, mayB [x.sn] x.sd = true) :
    Calls Tryz.prog 59 #[.map (some M)] w (RetP' w fun l => ∃ L', L'.Perm L ∧ l = bestP L') := by
 have HM := h_ hm
 have HV := h_ hv
 have hMlt := hm.lt
 obtain ⟨o, hr1, hr2⟩ := hm.rangeE
 clear hm hv
 go_enter Tryz.func59, Tryz.ntmps59
 go_wp2_with fail
 have HR := h_ hr2
 have HB := h_ ((Below.refl w.heap.size w).alloc (Nat.le_refl _) o)
 have zW : (w.alloc o).heap.size = w.heap.size + 1 := by simp
 clear hr1 hr2
 generalize w.alloc o = W at *
 go_loopw [3] (fun s3 wx => ∃ dn left : List PC, Hid ((dn ++ left).Perm L) ∧ MapR wx M w.heap.size L left ∧ PcOwn wx (w.heap.size + 1) s3 (bestP dn) ∧ Below w.heap.size w wx ∧ w.heap.size + 1 ≤ wx.heap.size) (fun _ wx => wx.rangeLeft M w.heap.size)
 case atStart => exact ⟨[], L, h_ (by simp), HR.out, PcOwn.nil _ _, HB.out, by omega⟩
 case round =>
  obtain ⟨dn, left, hpm, hmr, hpo, hbl, hsz⟩ := hrel
  rename World => U
  have HMR := h_ hmr
  have HPO := h_ hpo
  have HBL := h_ hbl
  have hle := hmr.left_eq
  have HLE := h_ hle
  clear hbl hle
  rcases hmr.next 0 with ⟨rfl, hnx⟩ | ⟨l1, x, l2, U1, rfl, hnx, hmr1, hg1, hs1, hent⟩
  ·clear hmr hpo
   go_wp2_with fail
   go_ret
   exact ⟨bestP dn, ⟨dn, by simpa using hpm.out, rfl⟩, u3, rfl, PcOwn.mono (b' := w.heap.size) HPO.out (by omega), HBL.out⟩
  ·have HPM := h_ (show (dn ++ [x] ++ (l1 ++ l2)).Perm L from by
     refine List.Perm.trans ?_ hpm.out
     rw [List.append_assoc]
     exact List.Perm.append_left dn (List.perm_middle (l₁ := l1) (l₂ := l2)).symm)
   have HMX := h_ (show x ∈ L from hpm.out.mem_iff.1 (by simp))
   have HMD := h_ (show ∀ z ∈ dn, z ∈ L from fun z hz => hpm.out.mem_iff.1 (by simp [hz]))
   have hlt := HMR.out.lt
   have hmv := HLE.out
   simp only [List.length_append, List.length_cons] at hmv
   clear hmr hpm HLE
   have HPO1 := h_ (HPO.out.kept hg1 (by
    rcases hb : u3.ownBlock with _ | k
    ·exact .inl rfl
    ·right
     have := (World.ownsRow.lt HPO.out k hb).1
     intro e
     injection e with e
     omega))
   have HBL1 := h_ (HBL.out.grown hg1 (by omega) (fun k hk => by cases hk; omega))
   have HMR1 := h_ hmr1
   have hs2 : U.heap.size ≤ U1.heap.size := Nat.le_of_eq hs1.symm
   clear hmr1 hg1 hpo HPO HBL HMR hs1
   unfold lnV wdV at hnx hent
   go_wp2_with fail
   have BL := h_ (show Blk ((U1.alloc (.cells #[.int .i64 x.bn, .int .i64 x.bd, .int .i64 x.sn, .int .i64 x.sd] 132)).alloc (.cells #[.bool x.fr.op, .int .i64 x.fr.n, .int .i64 x.fr.d, .bool x.to.op, .int .i64 x.to.n, .int .i64 x.to.d] 134)) U1.heap.size 132 #[.int .i64 x.bn, .int .i64 x.bd, .int .i64 x.sn, .int .i64 x.sd] from (Blk.mk' _ _ _).alloc _)
   have BW := h_ (show Blk ((U1.alloc (.cells #[.int .i64 x.bn, .int .i64 x.bd, .int .i64 x.sn, .int .i64 x.sd] 132)).alloc (.cells #[.bool x.fr.op, .int .i64 x.fr.n, .int .i64 x.fr.d, .bool x.to.op, .int .i64 x.to.n, .int .i64 x.to.d] 134)) (U1.heap.size + 1) 134 #[.bool x.fr.op, .int .i64 x.fr.n, .int .i64 x.fr.d, .bool x.to.op, .int .i64 x.to.n, .int .i64 x.to.d] from Blk.new (U1.alloc (.cells #[.int .i64 x.bn, .int .i64 x.bd, .int .i64 x.sn, .int .i64 x.sd] 132)) 134 _ _ (by simp))
   have HV1 := h_ ((by (repeat (any_goals (first | exact qR _ _ | refine below_drewN ?_ _ | refine qD ?_ | refine qA ?_ ?_ _ | refine qS ?_ ?_ _))); all_goals (first | omega | (simp; done) | (simp; omega))) : Below U1.heap.size U1 ((U1.alloc (.cells #[.int .i64 x.bn, .int .i64 x.bd, .int .i64 x.sn, .int .i64 x.sd] 132)).alloc (.cells #[.bool x.fr.op, .int .i64 x.fr.n, .int .i64 x.fr.d, .bool x.to.op, .int .i64 x.to.n, .int .i64 x.to.d] 134)))
   clear hnx hent
   generalize ((U1.alloc (.cells #[.int .i64 x.bn, .int .i64 x.bd, .int .i64 x.sn, .int .i64 x.sd] 132)).alloc (.cells #[.bool x.fr.op, .int .i64 x.fr.n, .int .i64 x.fr.d, .bool x.to.op, .int .i64 x.to.n, .int .i64 x.to.d] 134)) = V at *
   generalize hgl : U1.heap.size = gl at *
   have zV := HV1.out.size
   have lBW := BW.out.lt
   have HPO2 := h_ (HPO1.out.below (by rw [hgl]; exact HV1.out))
   have HMR2 := h_ (HMR1.out.below (by rw [hgl]; exact HV1.out))
   have HBL2 := h_ (HBL1.out.trans (HV1.out.mono (by omega)))
   clear HPO1 HMR1 HBL1
   have k0 : ∀ u : Wk V, u.1.cell? ⟨gl, 0, none⟩ = some (.int .i64 x.bn) := fun u => (BL.out.next u.2).cell 0
   have k1 : ∀ u : Wk V, u.1.cell? ⟨gl, 1, none⟩ = some (.int .i64 x.bd) := fun u => (BL.out.next u.2).cell 1
   have k2 : ∀ u : Wk V, u.1.cell? ⟨gl, 2, none⟩ = some (.int .i64 x.sn) := fun u => (BL.out.next u.2).cell 2
   have k3 : ∀ u : Wk V, u.1.cell? ⟨gl, 3, none⟩ = some (.int .i64 x.sd) := fun u => (BL.out.next u.2).cell 3
   have v0 : ∀ u : Wk V, u.1.cell? ⟨gl + 1, 0, none⟩ = some (.bool x.fr.op) := fun u => (BW.out.next u.2).cell 0
   have v1 : ∀ u : Wk V, u.1.cell? ⟨gl + 1, 1, none⟩ = some (.int .i64 x.fr.n) := fun u => (BW.out.next u.2).cell 1
   have v2 : ∀ u : Wk V, u.1.cell? ⟨gl + 1, 2, none⟩ = some (.int .i64 x.fr.d) := fun u => (BW.out.next u.2).cell 2
   have v3 : ∀ u : Wk V, u.1.cell? ⟨gl + 1, 3, none⟩ = some (.bool x.to.op) := fun u => (BW.out.next u.2).cell 3
   have v4 : ∀ u : Wk V, u.1.cell? ⟨gl + 1, 4, none⟩ = some (.int .i64 x.to.n) := fun u => (BW.out.next u.2).cell 4
   have v5 : ∀ u : Wk V, u.1.cell? ⟨gl + 1, 5, none⟩ = some (.int .i64 x.to.d) := fun u => (BW.out.next u.2).cell 5
   have HB := h_ (best_snoc dn x)
   cases hbd : bestP dn with
   | nil =>
    rw [hbd] at HB HPO2
    have HE := h_ hbd
    clear hbd
    have hs3 : ∃ A c, u3 = .slice A 0 c := by
     rcases HPO2.out.2 with ⟨e, _⟩ | ⟨g, cap, _, e, _⟩
     ·exact ⟨_, _, e⟩
     ·exact ⟨_, _, e⟩
    obtain ⟨A, c, rfl⟩ := hs3
    refine wk_region (by kernel_rfl) (by kernel_rfl) ?_
    repeat (go_big_quiet_step (fail))
    refine wpQuiet_nil ?_
    rintro w7 ⟨u7, rfl⟩
    go_wp2_with fail
    have z7 := u7.2.size
    have HU7 := h_ u7.2
    have HMF := h_ ((HMR2.out.below HU7.out).below ((Below.refl _ u7.1).alloc (Nat.le_refl _) (.cells #[.bool x.fr.op, .int .i64 x.fr.n, .int .i64 x.fr.d, .bool x.to.op, .int .i64 x.to.n, .int .i64 x.to.d, .int .i64 x.bn, .int .i64 x.bd, .int .i64 x.sn, .int .i64 x.sd] 79)))
    go_roundw
    case measure =>
     have := HMF.out.left_eq
     rw [this, hmv, List.length_append]
     omega
    case rel =>
     refine ⟨dn ++ [x], l1 ++ l2, HPM, HMF.out, ?_, (HBL2.out.trans (HU7.out.mono (by have := HBL2.out.size; omega))).alloc (by have := HBL2.out.size; omega) _, by simp; omega⟩
     rw [HB.out]
     skip
     exact pc_one (Blk.mk' _ _ _) (by omega)
   | cons a t =>
    obtain ⟨hma, rfl⟩ := best_mem hbd
    rw [hbd] at HB HPO2
    have HMA := h_ (HMD.out a hma)
    clear hbd hma
    obtain ⟨g, cap, rfl, hg1, hg2, hcap, hcap2, hat⟩ := HPO2.out.at_ (i := 0) (by simp)
    have HAT := h_ (fun u : Wk V => hat.below u.2)
    have hcap3 : 1 ≤ cap := by simpa using hcap
    have j8 : ∀ u : Wk V, u.1.cell? ⟨g, 8, none⟩ = some (.int .i64 a.sn) := fun u => (HAT.out u).c8
    have j9 : ∀ u : Wk V, u.1.cell? ⟨g, 9, none⟩ = some (.int .i64 a.sd) := fun u => (HAT.out u).c9
    have hlg : g < V.heap.size := hg2
    obtain ⟨q, hq⟩ : ∃ q, slpB x a = q := ⟨_, rfl⟩
    have HLS := h_ (fun u : Wk V => show Calls Tryz.prog 62 #[.agg #[.int .i64 x.sn, .int .i64 x.sd], .agg #[.int .i64 a.sn, .int .i64 a.sd]] u.1 (fun e w' => e = .returned (.bool q) ∧ Below u.1.heap.size u.1 w') from by
     have := frac_Less x.sn x.sd a.sn a.sd u.1
     rw [less_slp (HV.out x HMX.out) (HV.out a HMA.out), hq] at this
     exact this)
    have HB3 := h_ (show bestP (dn ++ [x]) = [if q = true then x else a] from by rw [HB.out]; simp only; rw [hq])
    clear hq hat hcap HB
    refine wk_region (by kernel_rfl) (by kernel_rfl) ?_
    repeat (go_big_quiet_step ((go_at_call 62; with_reducible exact wk_call (HLS.out _))))
    refine wpQuiet_nil ?_
    rintro w7 ⟨u7, rfl⟩
    cases q
    ·go_wp2_with fail
     have z7 := u7.2.size
     have HU7 := h_ u7.2
     have HMF := h_ (HMR2.out.below HU7.out)
     go_roundw
     case measure =>
      have := HMF.out.left_eq
      rw [this, hmv, List.length_append]
      omega
     case rel =>
      refine ⟨dn ++ [x], l1 ++ l2, HPM, HMF.out, ?_, HBL2.out.trans (HU7.out.mono (by have := HBL2.out.size; omega)), by omega⟩
      rw [HB3.out]
      exact HPO2.out.below HU7.out
    ·go_wp2_with fail
     have z7 := u7.2.size
     have HU7 := h_ u7.2
     have HMF := h_ ((HMR2.out.below HU7.out).below ((Below.refl _ u7.1).alloc (Nat.le_refl _) (.cells #[.bool x.fr.op, .int .i64 x.fr.n, .int .i64 x.fr.d, .bool x.to.op, .int .i64 x.to.n, .int .i64 x.to.d, .int .i64 x.bn, .int .i64 x.bd, .int .i64 x.sn, .int .i64 x.sd] 79)))
     go_roundw
     case measure =>
      have := HMF.out.left_eq
      rw [this, hmv, List.length_append]
      omega
     case rel =>
      refine ⟨dn ++ [x], l1 ++ l2, HPM, HMF.out, ?_, (HBL2.out.trans (HU7.out.mono (by have := HBL2.out.size; omega))).alloc (by have := HBL2.out.size; omega) _, by simp; omega⟩
      rw [HB3.out]
      simp only [if_true]
      exact pc_one (Blk.mk' _ _ _) (by omega)
end Go.Proofs.YtjcdkbalhleeeaaGreatDoor
