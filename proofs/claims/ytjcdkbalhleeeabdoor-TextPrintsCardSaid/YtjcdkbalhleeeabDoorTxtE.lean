/-
  Walked: the document's text of a program. No condition.
-/
import Derived.Test.YtjcdkbalhleeeabDoorTxtC
import Derived.Test.YtjcdkbalhleeeabDoorMemP
namespace Go.Proofs.YtjcdkbalhleeeabDoor
open Go.Proofs Go.RowKit
open Go.Lib (itoa join)

/-- What the numbers of a row come to, k of them. -/
def ofF (l : List Int) (k : Nat) : List UInt8 := ((l.take k).map fun n => itoa n ++ [32]).flatten
def cosF (l : List Int) (k : Nat) : List UInt8 := mostW ++ ((l.take k).map fun n => 32 :: itoa n).flatten
def rwsF (p : PG) (k : Nat) : List UInt8 := costT p.costs ++ ((p.rows.take k).map rowT).flatten
theorem ofF_len {l : List Int} {m : Int} (hm : m ≤ 999999) (h : smallB m l = true) (k : Nat) (hk : k ≤ l.length) : (ofF l k).length ≤ 22 * k := by
  induction k with
  | zero => simp [ofF]
  | succ k ih =>
    have := ih (by omega)
    have hx := smallB_at h (k := k) (by omega)
    have := itoa_len (n := l[k]) (by omega) (by omega)
    unfold ofF at *
    rw [ofs_take (by omega), List.length_append, List.length_append, List.length_singleton]; omega
theorem cosF_len {l : List Int} {m : Int} (hm : m ≤ 999999) (h : smallB m l = true) (k : Nat) (hk : k ≤ l.length) : (cosF l k).length ≤ 4 + 22 * k := by
  induction k with
  | zero => simp [cosF, mostW]
  | succ k ih =>
    have := ih (by omega)
    have hx := smallB_at h (k := k) (by omega)
    have := itoa_len (n := l[k]) (by omega) (by omega)
    unfold cosF at *
    rw [costs_take (by omega)]
    simp only [List.length_append, List.length_singleton] at *; omega
theorem cosF_succ {l : List Int} {k : Nat} (hk : k < l.length) : cosF l (k + 1) = cosF l k ++ [32] ++ itoa l[k] := by
  unfold cosF; rw [costs_take hk]; simp
theorem cosF_all (l : List Int) : cosF l l.length ++ [10] = costT l := by unfold cosF costT; rw [List.take_length]
theorem ofF_succ {l : List Int} {k : Nat} (hk : k < l.length) : ofF l (k + 1) = ofF l k ++ itoa l[k] ++ [32] := by
  unfold ofF; rw [ofs_take hk]
theorem rwsF_succ {p : PG} {k : Nat} (hk : k < p.rows.length) : rwsF p (k + 1) = rwsF p k ++ ofF (p.rows[k]).1 (p.rows[k]).1.length ++ [60, 61, 32] ++ itoa (p.rows[k]).2 ++ [10] := by
  unfold rwsF ofF; rw [rowT_take hk, List.take_length]; simp
theorem rwsF_all (p : PG) : rwsF p p.rows.length = textF p := by unfold rwsF textF; rw [List.take_length]
theorem rwsF_len {p : PG} (h : mayPB p = true) (k : Nat) (hk : k ≤ p.rows.length) : (rwsF p k).length ≤ 121 + 151 * k := by
  have h4 := mayPB_iff.1 h
  have := rowsT_len h k hk
  have := costT_len h4.2.2.2.2.1 h4.2.1
  unfold rwsF; rw [List.length_append]; omega

set_option maxRecDepth 100000 in
set_option maxHeartbeats 2000000 in
theorem ref9_Text (A : Option Addr) (c : Nat) (A2 : Option Addr) (c2 : Nat) (p : PG) (w : World) (hp : Pg w A c A2 c2 p) (hm : mayPB p = true) :
    Calls Tryd.prog 9 #[.agg #[.slice A p.costs.length c, .slice A2 p.rows.length c2]] w fun e w' => e = .returned (.string (bs (textF p))) ∧ Below w.heap.size w w' := by
  have HP := Lib.hid hp
  obtain ⟨⟨hl, hc, hsm, _⟩, ⟨hl2, hc2, hsm2, _⟩⟩ := hp
  have hp4 := mayPB_iff.1 hm
  go_enter Tryd.func9, Tryd.ntmps9
  go_wp2_with fail
  have BP := Lib.hid (Blk.mk' w 25 #[.slice A p.costs.length c, .slice A2 p.rows.length c2])
  have HBU := Lib.hid ((Below.refl w.heap.size w).alloc (Nat.le_refl _) (.cells #[.slice A p.costs.length c, .slice A2 p.rows.length c2] 25))
  generalize (w.alloc (.cells #[.slice A p.costs.length c, .slice A2 p.rows.length c2] 25)) = U at *
  have zU := HBU.out.size
  have lU := BP.out.lt
  have HPU := Lib.hid (HP.out.below HBU.out)
  have e0 : Value.string { data := #[109, 111, 115, 116] } = .string (bs (cosF p.costs 0)) := rfl
  rw [e0]
  clear e0
  go_loopw [3, 4] (fun s i wx => ∃ (k : Nat), k ≤ p.costs.length ∧ i = .int .i64 k ∧ s = .string (bs (cosF p.costs k)) ∧ Below U.heap.size U wx) (fun _ i _ => p.costs.length - (intOf i).toNat)
  case atStart => exact ⟨0, by omega, rfl, rfl, Below.refl _ _⟩
  case round =>
    obtain ⟨k, hk, rfl, rfl, hbel⟩ := hrel
    rename World => W
    have HB := Lib.hid hbel
    have zW := hbel.size
    clear hbel
    have p0 : W.cell? ⟨w.heap.size, 0, none⟩ = some (.slice A p.costs.length c) := (BP.out.next HB.out).cell 0
    have p1 : W.cell? ⟨w.heap.size, 1, none⟩ = some (.slice A2 p.rows.length c2) := (BP.out.next HB.out).cell 1
    by_cases hlt : k < p.costs.length
    · obtain ⟨ad, e0, hcl⟩ := (HPU.out.costs.below HB.out).at_ hlt
      subst e0
      have hx := smallB_at hp4.2.2.2.2.1 hlt
      have hi0 : (k : Int) < (p.costs.length : Int) := by omega
      have hlen := cosF_len (by decide) hp4.2.2.2.2.1 k hk
      have hli := itoa_len (n := p.costs[k]) (by omega) (by omega)
      have ha1 : ∀ X, (Op.stringOp .add (bs (cosF p.costs k)) { data := #[32] }).run Tryd.prog X = .ok (.string (bs (cosF p.costs k ++ [32]))) X := fun X => run_add _ [32] (by show _ + 1 ≤ _; omega) X
      have ha2 : ∀ X, (Op.stringOp .add (bs (cosF p.costs k ++ [32])) (bs (itoa p.costs[k]))).run Tryd.prog X = .ok (.string (bs (cosF p.costs (k + 1)))) X := fun X => by
        rw [cosF_succ hlt]; exact run_add _ _ (by rw [List.length_append, List.length_singleton]; omega) X
      have HD := Lib.hid (fun X => ref9_Digits _ p.costs[k] X (Nat.le_refl _) (by omega) (by omega))
      clear hlen hli
      generalize bs (cosF p.costs k ++ [32]) = t1 at *
      generalize bs (cosF p.costs k) = t0 at *
      generalize bs (itoa p.costs[k]) = t2 at *
      have hq := Eq.refl (bs (cosF p.costs (k + 1)))
      revert hq
      generalize hq0 : bs (cosF p.costs (k + 1)) = t3 at ha2 ⊢
      intro _
      have HQ := Lib.hid hq0
      clear hq0
      generalize p.costs[k] = x at *
      go_wp2_with (go_at_call 20; refine (HD.out _).mono ?_; rintro e w1 ⟨rfl, hb1⟩)
      go_roundw
      case rel => exact ⟨k + 1, by omega, by go_num, by rw [HQ.out], HB.out.trans (hb1.mono zW)⟩
      case measure => simp [intOf]; omega
    · obtain rfl : k = p.costs.length := by omega
      have hd0 : decide ((p.costs.length : Int) < (p.costs.length : Int)) = false := by simp
      have hlen := cosF_len (by decide) hp4.2.2.2.2.1 p.costs.length hk
      have e1 : cosF p.costs p.costs.length ++ [10] = rwsF p 0 := by rw [cosF_all]; simp [rwsF]
      have ha1 : ∀ X, (Op.stringOp .add (bs (cosF p.costs p.costs.length)) { data := #[10] }).run Tryd.prog X = .ok (.string (bs (rwsF p 0))) X := fun X => by rw [← e1]; exact run_add _ [10] (by show _ + 1 ≤ _; omega) X
      clear e1 hlen
      generalize bs (cosF p.costs p.costs.length) = t1 at *
      have hq := Eq.refl (bs (rwsF p 0))
      revert hq
      generalize hq0 : bs (rwsF p 0) = t0 at ha1 ⊢
      intro _
      have HQ := Lib.hid hq0
      clear hq0
      go_wp2_with fail
      go_loopw [3, 5] (fun s i wx => ∃ (k : Nat), k ≤ p.rows.length ∧ i = .int .i64 k ∧ s = .string (bs (rwsF p k)) ∧ Below U.heap.size U wx) (fun _ i _ => p.rows.length - (intOf i).toNat)
      case atStart => exact ⟨0, by omega, rfl, by rw [HQ.out], HB.out⟩
      case round =>
        obtain ⟨k, hk, rfl, rfl, hbel⟩ := hrel
        rename World => W1
        have HB1 := Lib.hid hbel
        have zW1 := hbel.size
        clear hbel p0 p1 HQ ha1
        have p0 : W1.cell? ⟨w.heap.size, 0, none⟩ = some (.slice A p.costs.length c) := (BP.out.next HB1.out).cell 0
        have p1 : W1.cell? ⟨w.heap.size, 1, none⟩ = some (.slice A2 p.rows.length c2) := (BP.out.next HB1.out).cell 1
        by_cases hlt : k < p.rows.length
        · have hi0 : (k : Int) < (p.rows.length : Int) := by omega
          have hlen := rwsF_len hm k hk
          have hrow := mayPB_row hm hlt
          obtain ⟨hr1, hr2, hr3⟩ := hrow
          have e0 : Value.string (bs (rwsF p k)) = .string (bs (rwsF p k ++ ofF (p.rows[k]).1 0)) := by simp [ofF]
          rw [e0]
          clear e0
          have HRS := Lib.hid (rwsF_succ hlt)
          have HROW := Lib.hid (show ∀ X, Below U.heap.size U X → ∃ ad A' c', A2 = some ad ∧ X.cell? (ad.add (k * 2)) = some (.slice A' p.costs.length c') ∧ X.cell? ⟨(ad.add (k * 2)).block, (ad.add (k * 2)).off + 1, none⟩ = some (.int .i64 (p.rows[k]).2) ∧ Rd X A' c' (p.rows[k]).1 from fun X hX => by
            obtain ⟨ad, A', c', e, h1, h2, h3⟩ := (HPU.out.rows.below hX).at_ hlt
            rw [hr1] at h1
            exact ⟨ad, A', c', e, h1, h2, h3⟩)
          generalize (p.rows[k]).1 = ro at *
          generalize (p.rows[k]).2 = rm at *
          obtain ⟨RN, hRN⟩ : ∃ RN, rwsF p (k + 1) = RN := ⟨_, rfl⟩
          rw [hRN] at HRS
          have HRN := Lib.hid hRN
          clear hRN
          generalize rwsF p k = R0 at *
          go_wp2_with fail
          go_loopw [3, 6] (fun s i wx => ∃ (q : Nat), q ≤ p.costs.length ∧ i = .int .i64 q ∧ s = .string (bs (R0 ++ ofF ro q)) ∧ Below U.heap.size U wx) (fun _ i _ => p.costs.length - (intOf i).toNat)
          case atStart => exact ⟨0, by omega, rfl, rfl, HB1.out⟩
          case round =>
            obtain ⟨q, hq, rfl, rfl, hbel⟩ := hrel
            rename World => W2
            have HB2 := Lib.hid hbel
            have zW2 := hbel.size
            clear hbel p0 p1
            have p0 : W2.cell? ⟨w.heap.size, 0, none⟩ = some (.slice A p.costs.length c) := (BP.out.next HB2.out).cell 0
            have p1 : W2.cell? ⟨w.heap.size, 1, none⟩ = some (.slice A2 p.rows.length c2) := (BP.out.next HB2.out).cell 1
            obtain ⟨ad2, A5, c5, e2, q1, q2, q3⟩ := HROW.out W2 HB2.out
            subst e2
            have hol := ofF_len (by decide) hr3 q (by omega)
            by_cases hqt : q < p.costs.length
            · have hqr : q < ro.length := by omega
              obtain ⟨ad, e0, hcl⟩ := q3.at_ hqr
              subst e0
              have hx := smallB_at hr3 hqr
              have hi1 : (q : Int) < (p.costs.length : Int) := by omega
              have hli := itoa_len (n := ro[q]) (by omega) (by omega)
              have HOS := Lib.hid (ofF_succ hqr)
              have ha1 : ∀ X, (Op.stringOp .add (bs (R0 ++ ofF ro q)) (bs (itoa ro[q]))).run Tryd.prog X = .ok (.string (bs (R0 ++ ofF ro q ++ itoa ro[q]))) X := fun X => run_add _ _ (by rw [List.length_append]; omega) X
              have ha2 : ∀ X, (Op.stringOp .add (bs (R0 ++ ofF ro q ++ itoa ro[q])) { data := #[32] }).run Tryd.prog X = .ok (.string (bs (R0 ++ ofF ro (q + 1)))) X := fun X => by
                rw [HOS.out, ← List.append_assoc, ← List.append_assoc]; exact run_add _ [32] (by rw [List.length_append, List.length_append]; show _ + 1 ≤ _; omega) X
              have HD := Lib.hid (fun X => ref9_Digits _ ro[q] X (Nat.le_refl _) (by omega) (by omega))
              clear hol hli
              generalize bs (R0 ++ ofF ro q ++ itoa ro[q]) = t1 at *
              generalize bs (R0 ++ ofF ro q) = t0 at *
              generalize bs (itoa ro[q]) = t2 at *
              have hq9 := Eq.refl (bs (R0 ++ ofF ro (q + 1)))
              revert hq9
              generalize hq0 : bs (R0 ++ ofF ro (q + 1)) = t3 at ha2 ⊢
              intro _
              have HQ := Lib.hid hq0
              clear hq0
              generalize ro[q] = x at *
              go_wp2_with (go_at_call 20; refine (HD.out _).mono ?_; rintro e w1 ⟨rfl, hb1⟩)
              go_roundw
              case rel => exact ⟨q + 1, by omega, by go_num, by rw [HQ.out], HB2.out.trans (hb1.mono zW2)⟩
              case measure => simp [intOf]; omega
            · obtain rfl : q = p.costs.length := by omega
              have hd1 : decide ((p.costs.length : Int) < (p.costs.length : Int)) = false := by simp
              have hli := itoa_len (n := rm) (by omega) (by omega)
              rw [hr1] at HRS
              have ha1 : ∀ X, (Op.stringOp .add (bs (R0 ++ ofF ro p.costs.length)) { data := #[60, 61, 32] }).run Tryd.prog X = .ok (.string (bs (R0 ++ ofF ro p.costs.length ++ [60, 61, 32]))) X := fun X => run_add _ [60, 61, 32] (by rw [List.length_append]; show _ + 3 ≤ _; omega) X
              have ha2 : ∀ X, (Op.stringOp .add (bs (R0 ++ ofF ro p.costs.length ++ [60, 61, 32])) (bs (itoa rm))).run Tryd.prog X = .ok (.string (bs (R0 ++ ofF ro p.costs.length ++ [60, 61, 32] ++ itoa rm))) X := fun X => run_add _ _ (by rw [List.length_append, List.length_append]; show _ + 3 + _ ≤ _; omega) X
              have ha3 : ∀ X, (Op.stringOp .add (bs (R0 ++ ofF ro p.costs.length ++ [60, 61, 32] ++ itoa rm)) { data := #[10] }).run Tryd.prog X = .ok (.string (bs RN)) X := fun X => by
                rw [HRS.out]; exact run_add _ [10] (by rw [List.length_append, List.length_append, List.length_append]; show _ + 3 + _ + 1 ≤ _; omega) X
              have HD := Lib.hid (fun X => ref9_Digits _ rm X (Nat.le_refl _) (by omega) (by omega))
              clear hol hli
              generalize bs (R0 ++ ofF ro p.costs.length ++ [60, 61, 32] ++ itoa rm) = t3 at *
              generalize bs (R0 ++ ofF ro p.costs.length ++ [60, 61, 32]) = t1 at *
              generalize bs (R0 ++ ofF ro p.costs.length) = t0 at *
              generalize bs (itoa rm) = t2 at *
              go_wp2_with (go_at_call 20; refine (HD.out _).mono ?_; rintro e w1 ⟨rfl, hb1⟩)
              go_roundw
              case rel => exact ⟨k + 1, by omega, by go_num, by rw [HRN.out], HB2.out.trans (hb1.mono zW2)⟩
              case measure => simp [intOf]; omega
        · obtain rfl : k = p.rows.length := by omega
          have hd1 : decide ((p.rows.length : Int) < (p.rows.length : Int)) = false := by simp
          rw [rwsF_all]
          go_wp2_with fail
          go_ret
          exact ⟨rfl, HBU.out.trans (HB1.out.mono zU)⟩
end Go.Proofs.YtjcdkbalhleeeabDoor
