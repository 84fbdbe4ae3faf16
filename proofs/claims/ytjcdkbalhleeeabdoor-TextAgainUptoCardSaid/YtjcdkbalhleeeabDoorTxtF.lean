/-
  Walked: the document's Number. Condition: the text is no longer than any machine's.
-/
import Derived.Test.YtjcdkbalhleeeabDoorTxtA
import Derived.Lib.Hide
namespace Go.Proofs.YtjcdkbalhleeeabDoor
open Go.Proofs Go.RowKit
open Go.Lib (itoa join)

/-- What Number hands back. -/
def numV (o : Option Int) : Value := .tuple #[.int .i64 (o.getD 0), .bool o.isSome]
theorem bs_at (l : List UInt8) {k : Nat} (hk : k < l.length) : ∀ h : k < (bs l).size, (bs l)[k]'h = l[k]'hk := fun h => by
  have : (bs l)[k]'h = (bs l).data[k]'h := rfl
  rw [this]
  simp [bs]
theorem bs_ext (l : List UInt8) (a b : Nat) : (bs l).extract a b = bs ((l.drop a).take (b - a)) := by unfold bs; rw [ByteArray.extract_mk]
theorem u8_ne {c d : UInt8} (h : c ≠ d) : ((c.toNat : Int) == (d.toNat : Int)) = false := by
  rw [beq_eq_false_iff_ne]
  intro e
  exact h (UInt8.toNat_inj.1 (by omega))

set_option maxRecDepth 100000 in
theorem ref9_Number (s : List UInt8) (w : World) (hs : s.length ≤ 1099511627776) :
    Calls Tryd.prog 25 #[.string (bs s)] w fun e w' => e = .returned (numV (numR s)) ∧ Below w.heap.size w w' := by
  by_cases hne : s = []
  · subst hne
    have hz : (bs []).size = 0 := bs_size []
    have HNR := Lib.hid (show numR [] = none from rfl)
    go_enter Tryd.func25, Tryd.ntmps25
    go_wp2_with fail
    refine bodyPost_ret (v := .tuple #[.int .i64 0, .bool false]) ?_ ?_ ?_
    · simp [results, Tryd.results25, go_sem]
    · rfl
    · exact ⟨by rw [HNR.out]; rfl, Below.refl _ _⟩
  · obtain ⟨c, r, rfl⟩ := List.exists_cons_of_ne_nil hne
    have hz : (bs (c :: r)).size = r.length + 1 := bs_size _
    have hi : ∀ h, (bs (c :: r))[0]'h = c := bs_at (c :: r) (k := 0) (by simp)
    by_cases hc : c = 45
    · subst hc
      have hext : (bs (45 :: r)).extract 1 (r.length + 1) = bs r := by rw [bs_ext]; simp
      have hzr : (bs r).size = r.length := bs_size r
      have hbare : bare (45 :: r) = r := by simp [bare]
      by_cases h1 : r.length < 1
      · have HNR := Lib.hid (show numR (45 :: r) = none by rw [numR, if_pos (by simp only [odd, hbare, decide_eq_true_eq]; exact Or.inl h1)])
        have hd1 : decide ((r.length : Int) < 1) = true := by simp; omega
        go_enter Tryd.func25, Tryd.ntmps25
        go_wp2_with fail
        refine bodyPost_ret (v := .tuple #[.int .i64 0, .bool false]) ?_ ?_ ?_
        · simp [results, Tryd.results25, go_sem]
        · rfl
        · exact ⟨by rw [HNR.out]; rfl, Below.refl _ _⟩
      have hd1 : decide ((r.length : Int) < 1) = false := by simp; omega
      by_cases h2 : 6 < r.length
      · have HNR := Lib.hid (show numR (45 :: r) = none by rw [numR, if_pos (by simp only [odd, hbare, decide_eq_true_eq]; exact Or.inr (Or.inl h2))])
        have hd2 : decide ((6 : Int) < (r.length : Int)) = true := by simp; omega
        go_enter Tryd.func25, Tryd.ntmps25
        go_wp2_with fail
        refine bodyPost_ret (v := .tuple #[.int .i64 0, .bool false]) ?_ ?_ ?_
        · simp [results, Tryd.results25, go_sem]
        · rfl
        · exact ⟨by rw [HNR.out]; rfl, Below.refl _ _⟩
      have hd2 : decide ((6 : Int) < (r.length : Int)) = false := by simp; omega
      have hir := bs_at r (k := 0) (by omega)
      have hrh : r.head? = some (r[0]'(by omega)) := by rw [List.head?_eq_getElem?, List.getElem?_eq_getElem]
      by_cases h3 : r[0]'(by omega) = 48
      · have HNR := Lib.hid (show numR (45 :: r) = none by rw [numR, if_pos (by simp only [odd, hbare, decide_eq_true_eq]; exact Or.inr (Or.inr ⟨by rw [hrh, h3], Or.inr rfl⟩))])
        rw [h3] at hir
        have hpos : (0 : Int) < (r.length : Int) := by omega
        go_enter Tryd.func25, Tryd.ntmps25
        go_wp2_with fail
        all_goals
          refine bodyPost_ret (v := .tuple #[.int .i64 0, .bool false]) ?_ ?_ ?_
          · simp [results, Tryd.results25, go_sem]
          · rfl
          · exact ⟨by rw [HNR.out]; rfl, Below.refl _ _⟩
      have HNR := Lib.hid (show numR (45 :: r) = Option.map (fun (m : Nat) => -(m : Int)) (digs 0 r) by
        rw [numR, if_neg, hbare]
        · simp
        · simp only [odd, hbare, decide_eq_true_eq]
          rintro (q | q | ⟨q, _⟩)
          · exact h1 q
          · exact h2 q
          · rw [hrh] at q; exact h3 (by simpa using q))
      have hne48 := u8_ne h3
      generalize r[0]'(by omega) = d at *
      have hne48' : ((d.toNat : Int) == 48) = false := hne48
      have hpos : (0 : Int) < (r.length : Int) := by omega
      have hposn : 0 < r.length := by omega
      clear hne48
      generalize r = t at *
      go_enter Tryd.func25, Tryd.ntmps25
      go_wp2_with fail
      go_loopw [6, 7] (fun v i wx => ∃ (k m : Nat), k ≤ t.length ∧ i = .int .i64 k ∧ v = .int .i64 m ∧ digs 0 (t.take k) = some m ∧ Below w.heap.size w wx) (fun _ i _ => t.length - (intOf i).toNat)
      case atStart => exact ⟨0, 0, by omega, rfl, rfl, rfl, Below.refl _ _⟩
      case round =>
        obtain ⟨k, m, hk, rfl, rfl, hm, hbel⟩ := hrel
        rename World => W
        have HB := Lib.hid hbel
        clear hbel
        have hml := digs_small hm (by rw [List.length_take]; omega)
        by_cases hlt : k < t.length
        · have hi0 : (k : Int) < (t.length : Int) := by omega
          have hik := bs_at t hlt
          have HTK := Lib.hid (fun (hc : 48 ≤ (t[k]).toNat ∧ (t[k]).toNat ≤ 57) => digs_take hlt hm hc)
          have HBD := Lib.hid (fun (hc : ¬ (48 ≤ (t[k]).toNat ∧ (t[k]).toNat ≤ 57)) => digs_bad 0 hlt hc)
          have h255 : (t[k]).toNat < 256 := UInt8.toNat_lt _
          generalize t[k] = x at *
          by_cases hlo : x.toNat < 48
          · have hd1 : decide ((x.toNat : Int) < 48) = true := by simp; omega
            go_wp2_with fail
            refine bodyPost_ret (v := .tuple #[.int .i64 0, .bool false]) ?_ ?_ ?_
            · simp [results, Tryd.results25, go_sem]
            · rfl
            · exact ⟨by rw [HNR.out, HBD.out (by omega)]; rfl, HB.out⟩
          · by_cases hhi : 57 < x.toNat
            · have hd1 : decide ((x.toNat : Int) < 48) = false := by simp; omega
              have hd2 : decide ((57 : Int) < (x.toNat : Int)) = true := by simp; omega
              go_wp2_with fail
              refine bodyPost_ret (v := .tuple #[.int .i64 0, .bool false]) ?_ ?_ ?_
              · simp [results, Tryd.results25, go_sem]
              · rfl
              · exact ⟨by rw [HNR.out, HBD.out (by omega)]; rfl, HB.out⟩
            · have hd1 : decide ((x.toNat : Int) < 48) = false := by simp; omega
              have hd2 : decide ((57 : Int) < (x.toNat : Int)) = false := by simp; omega
              have hw1 : IntKind.i64.wrap (10 * (m : Int)) = 10 * (m : Int) := IntWalk.i64_in _ (by omega)
              have hw2 : IntKind.u8.wrap ((x.toNat : Int) - 48) = (x.toNat : Int) - 48 := IntWalk.u8_in _ (by omega)
              have hw3 : IntKind.i64.wrap ((x.toNat : Int) - 48) = (x.toNat : Int) - 48 := IntWalk.i64_in _ (by omega)
              have hw4 : IntKind.i64.wrap (10 * (m : Int) + ((x.toNat : Int) - 48)) = 10 * (m : Int) + ((x.toNat : Int) - 48) := IntWalk.i64_in _ (by omega)
              go_wp2_with fail
              go_roundw
              case rel => exact ⟨k + 1, 10 * m + (x.toNat - 48), by omega, by go_num, by congr 1; omega, HTK.out (by omega), HB.out⟩
              case measure => simp [intOf]; omega
        · obtain rfl : k = t.length := by omega
          have hd0 : decide ((t.length : Int) < (t.length : Int)) = false := by simp
          rw [List.take_length] at hm
          have hw1 : IntKind.i64.wrap (-(m : Int)) = -(m : Int) := IntWalk.i64_in _ (by omega)
          go_wp2_with fail
          refine bodyPost_ret (v := .tuple #[.int .i64 (-(m : Int)), .bool true]) ?_ ?_ ?_
          · simp [results, Tryd.results25, go_sem]
          · rfl
          · exact ⟨by rw [HNR.out, hm]; rfl, HB.out⟩
    · have hc45 : ((c.toNat : Int) == 45) = false := u8_ne hc
      have hbare : bare (c :: r) = c :: r := by simp [bare, hc]
      have hlen : (c :: r).length = r.length + 1 := rfl
      rw [← hlen] at hz
      have hpos : (0 : Int) < ((c :: r).length : Int) := by simp
      have hposn : 0 < (c :: r).length := by simp
      have hhead : (c :: r).head? = some c := rfl
      generalize c :: r = t at *
      clear hlen
      have hd1 : decide ((t.length : Int) < 1) = false := by simp; omega
      by_cases h2 : 6 < t.length
      · have HNR := Lib.hid (show numR t = none by rw [numR, if_pos (by simp only [odd, hbare, decide_eq_true_eq]; exact Or.inr (Or.inl h2))])
        have hd2 : decide ((6 : Int) < (t.length : Int)) = true := by simp; omega
        go_enter Tryd.func25, Tryd.ntmps25
        go_wp2_with fail
        refine bodyPost_ret (v := .tuple #[.int .i64 0, .bool false]) ?_ ?_ ?_
        · simp [results, Tryd.results25, go_sem]
        · rfl
        · exact ⟨by rw [HNR.out]; rfl, Below.refl _ _⟩
      have hd2 : decide ((6 : Int) < (t.length : Int)) = false := by simp; omega
      have h45 : t.head? ≠ some 45 := by rw [hhead]; intro e; exact hc (by simpa using e)
      by_cases h3 : c = 48
      · subst h3
        by_cases h4 : 1 < t.length
        · have HNR := Lib.hid (show numR t = none by rw [numR, if_pos (by simp only [odd, hbare, decide_eq_true_eq]; exact Or.inr (Or.inr ⟨hhead, Or.inl h4⟩))])
          have hd4 : decide ((1 : Int) < (t.length : Int)) = true := by simp; omega
          go_enter Tryd.func25, Tryd.ntmps25
          go_wp2_with fail
          refine bodyPost_ret (v := .tuple #[.int .i64 0, .bool false]) ?_ ?_ ?_
          · simp [results, Tryd.results25, go_sem]
          · rfl
          · exact ⟨by rw [HNR.out]; rfl, Below.refl _ _⟩
        · have hd4 : decide ((1 : Int) < (t.length : Int)) = false := by simp; omega
          have HNR := Lib.hid (show numR t = Option.map (fun (m : Nat) => (m : Int)) (digs 0 t) by
            rw [numR, if_neg, hbare]
            · simp [h45]
            · simp only [odd, hbare, decide_eq_true_eq]
              rintro (q | q | ⟨_, q | q⟩)
              · omega
              · omega
              · exact h4 q
              · exact h45 q)
          go_enter Tryd.func25, Tryd.ntmps25
          go_wp2_with fail
          go_loopw [6, 7] (fun v i wx => ∃ (k m : Nat), k ≤ t.length ∧ i = .int .i64 k ∧ v = .int .i64 m ∧ digs 0 (t.take k) = some m ∧ Below w.heap.size w wx) (fun _ i _ => t.length - (intOf i).toNat)
          case atStart => exact ⟨0, 0, by omega, rfl, rfl, rfl, Below.refl _ _⟩
          case round =>
            obtain ⟨k, m, hk, rfl, rfl, hm, hbel⟩ := hrel
            rename World => W
            have HB := Lib.hid hbel
            clear hbel
            have hml := digs_small hm (by rw [List.length_take]; omega)
            by_cases hlt : k < t.length
            · have hi0 : (k : Int) < (t.length : Int) := by omega
              have hik := bs_at t hlt
              have HTK := Lib.hid (fun (hc : 48 ≤ (t[k]).toNat ∧ (t[k]).toNat ≤ 57) => digs_take hlt hm hc)
              have HBD := Lib.hid (fun (hc : ¬ (48 ≤ (t[k]).toNat ∧ (t[k]).toNat ≤ 57)) => digs_bad 0 hlt hc)
              have h255 : (t[k]).toNat < 256 := UInt8.toNat_lt _
              generalize t[k] = x at *
              by_cases hlo : x.toNat < 48
              · have hd1 : decide ((x.toNat : Int) < 48) = true := by simp; omega
                go_wp2_with fail
                refine bodyPost_ret (v := .tuple #[.int .i64 0, .bool false]) ?_ ?_ ?_
                · simp [results, Tryd.results25, go_sem]
                · rfl
                · exact ⟨by rw [HNR.out, HBD.out (by omega)]; rfl, HB.out⟩
              · by_cases hhi : 57 < x.toNat
                · have hd1 : decide ((x.toNat : Int) < 48) = false := by simp; omega
                  have hd2 : decide ((57 : Int) < (x.toNat : Int)) = true := by simp; omega
                  go_wp2_with fail
                  refine bodyPost_ret (v := .tuple #[.int .i64 0, .bool false]) ?_ ?_ ?_
                  · simp [results, Tryd.results25, go_sem]
                  · rfl
                  · exact ⟨by rw [HNR.out, HBD.out (by omega)]; rfl, HB.out⟩
                · have hd1 : decide ((x.toNat : Int) < 48) = false := by simp; omega
                  have hd2 : decide ((57 : Int) < (x.toNat : Int)) = false := by simp; omega
                  have hw1 : IntKind.i64.wrap (10 * (m : Int)) = 10 * (m : Int) := IntWalk.i64_in _ (by omega)
                  have hw2 : IntKind.u8.wrap ((x.toNat : Int) - 48) = (x.toNat : Int) - 48 := IntWalk.u8_in _ (by omega)
                  have hw3 : IntKind.i64.wrap ((x.toNat : Int) - 48) = (x.toNat : Int) - 48 := IntWalk.i64_in _ (by omega)
                  have hw4 : IntKind.i64.wrap (10 * (m : Int) + ((x.toNat : Int) - 48)) = 10 * (m : Int) + ((x.toNat : Int) - 48) := IntWalk.i64_in _ (by omega)
                  go_wp2_with fail
                  go_roundw
                  case rel => exact ⟨k + 1, 10 * m + (x.toNat - 48), by omega, by go_num, by congr 1; omega, HTK.out (by omega), HB.out⟩
                  case measure => simp [intOf]; omega
            · obtain rfl : k = t.length := by omega
              have hd0 : decide ((t.length : Int) < (t.length : Int)) = false := by simp
              rw [List.take_length] at hm
              have hw1 : IntKind.i64.wrap (-(m : Int)) = -(m : Int) := IntWalk.i64_in _ (by omega)
              go_wp2_with fail
              refine bodyPost_ret (v := .tuple #[.int .i64 ((m : Int)), .bool true]) ?_ ?_ ?_
              · simp [results, Tryd.results25, go_sem]
              · rfl
              · exact ⟨by rw [HNR.out, hm]; rfl, HB.out⟩
      · have hne48 : ((c.toNat : Int) == 48) = false := u8_ne h3
        have HNR := Lib.hid (show numR t = Option.map (fun (m : Nat) => (m : Int)) (digs 0 t) by
          rw [numR, if_neg, hbare]
          · simp [h45]
          · simp only [odd, hbare, decide_eq_true_eq]
            rintro (q | q | ⟨q, _⟩)
            · omega
            · omega
            · rw [hhead] at q; exact h3 (by simpa using q))
        go_enter Tryd.func25, Tryd.ntmps25
        go_wp2_with fail
        go_loopw [6, 7] (fun v i wx => ∃ (k m : Nat), k ≤ t.length ∧ i = .int .i64 k ∧ v = .int .i64 m ∧ digs 0 (t.take k) = some m ∧ Below w.heap.size w wx) (fun _ i _ => t.length - (intOf i).toNat)
        case atStart => exact ⟨0, 0, by omega, rfl, rfl, rfl, Below.refl _ _⟩
        case round =>
          obtain ⟨k, m, hk, rfl, rfl, hm, hbel⟩ := hrel
          rename World => W
          have HB := Lib.hid hbel
          clear hbel
          have hml := digs_small hm (by rw [List.length_take]; omega)
          by_cases hlt : k < t.length
          · have hi0 : (k : Int) < (t.length : Int) := by omega
            have hik := bs_at t hlt
            have HTK := Lib.hid (fun (hc : 48 ≤ (t[k]).toNat ∧ (t[k]).toNat ≤ 57) => digs_take hlt hm hc)
            have HBD := Lib.hid (fun (hc : ¬ (48 ≤ (t[k]).toNat ∧ (t[k]).toNat ≤ 57)) => digs_bad 0 hlt hc)
            have h255 : (t[k]).toNat < 256 := UInt8.toNat_lt _
            generalize t[k] = x at *
            by_cases hlo : x.toNat < 48
            · have hd1 : decide ((x.toNat : Int) < 48) = true := by simp; omega
              go_wp2_with fail
              refine bodyPost_ret (v := .tuple #[.int .i64 0, .bool false]) ?_ ?_ ?_
              · simp [results, Tryd.results25, go_sem]
              · rfl
              · exact ⟨by rw [HNR.out, HBD.out (by omega)]; rfl, HB.out⟩
            · by_cases hhi : 57 < x.toNat
              · have hd1 : decide ((x.toNat : Int) < 48) = false := by simp; omega
                have hd2 : decide ((57 : Int) < (x.toNat : Int)) = true := by simp; omega
                go_wp2_with fail
                refine bodyPost_ret (v := .tuple #[.int .i64 0, .bool false]) ?_ ?_ ?_
                · simp [results, Tryd.results25, go_sem]
                · rfl
                · exact ⟨by rw [HNR.out, HBD.out (by omega)]; rfl, HB.out⟩
              · have hd1 : decide ((x.toNat : Int) < 48) = false := by simp; omega
                have hd2 : decide ((57 : Int) < (x.toNat : Int)) = false := by simp; omega
                have hw1 : IntKind.i64.wrap (10 * (m : Int)) = 10 * (m : Int) := IntWalk.i64_in _ (by omega)
                have hw2 : IntKind.u8.wrap ((x.toNat : Int) - 48) = (x.toNat : Int) - 48 := IntWalk.u8_in _ (by omega)
                have hw3 : IntKind.i64.wrap ((x.toNat : Int) - 48) = (x.toNat : Int) - 48 := IntWalk.i64_in _ (by omega)
                have hw4 : IntKind.i64.wrap (10 * (m : Int) + ((x.toNat : Int) - 48)) = 10 * (m : Int) + ((x.toNat : Int) - 48) := IntWalk.i64_in _ (by omega)
                go_wp2_with fail
                go_roundw
                case rel => exact ⟨k + 1, 10 * m + (x.toNat - 48), by omega, by go_num, by congr 1; omega, HTK.out (by omega), HB.out⟩
                case measure => simp [intOf]; omega
          · obtain rfl : k = t.length := by omega
            have hd0 : decide ((t.length : Int) < (t.length : Int)) = false := by simp
            rw [List.take_length] at hm
            have hw1 : IntKind.i64.wrap (-(m : Int)) = -(m : Int) := IntWalk.i64_in _ (by omega)
            go_wp2_with fail
            refine bodyPost_ret (v := .tuple #[.int .i64 ((m : Int)), .bool true]) ?_ ?_ ?_
            · simp [results, Tryd.results25, go_sem]
            · rfl
            · exact ⟨by rw [HNR.out, hm]; rfl, HB.out⟩
end Go.Proofs.YtjcdkbalhleeeabDoor
