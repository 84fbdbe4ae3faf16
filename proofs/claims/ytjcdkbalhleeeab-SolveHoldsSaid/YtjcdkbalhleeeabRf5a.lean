/-
  Walk: the document's Swap, Ints and column compute what the plain words say.
-/
import Derived.Test.YtjcdkbalhleeeabNxt2
import Derived.Test.YtjcdkbalhleeeabPlainB
import Derived.Test.YtjcdkbalhleeeabJRefA
namespace Go.Proofs.Ytjcdkbalhleeeab
open Go.RowKit Go.Sort

theorem swapF_len (out inn : Nat) : ∀ (l : List Nat) (b : Bool), (swapF out inn l b).length ≤ 2 * l.length + 1
  | [], b => by cases b <;> simp [swapF]
  | a :: l, b => by
    rw [swapF]
    have := swapF_len out inn l (b || decide (inn < a))
    simp only [List.length_append, List.length_cons]
    split <;> split <;> simp <;> omega
theorem ints_app (a b : List Nat) : ints (a ++ b) = ints a ++ ints b := by simp [ints]
theorem ints_len (a : List Nat) : (ints a).length = a.length := by simp [ints]
theorem drop_at {l : List Nat} {k : Nat} (h : k < l.length) : l.drop k = l.getD k 0 :: l.drop (k + 1) := by
  rw [List.drop_eq_getElem_cons h]; simp [List.getD, List.getElem?_eq_getElem h]
/-- New columns are handed back. -/
def RetCl (w : World) (q : List Nat) (e : Ending) (w' : World) : Prop :=
  ∃ O co, e = .returned (.slice O q.length co) ∧ Rd w' O co (ints q) ∧ (∀ ad, O = some ad → w.heap.size ≤ ad.block ∧ ad.block < w'.heap.size) ∧ Below w.heap.size w w'

set_option maxRecDepth 100000 in
set_option maxHeartbeats 2000000 in
theorem ref5_Swap (L : Option Addr) (l : List Int) (cl : Nat) (out inn : Nat) (w : World) (hr : Rd w L cl l) (he : l = (nats l).map Int.ofNat) (hs : l.length ≤ 100) (ho : out < 1000000) (hi : inn < 1000000) :
    Calls Try.prog 88 #[.slice L l.length cl, .int .i64 out, .int .i64 inn] w (RetCl w (swapF out inn (nats l) false)) := by
  have HL := Lib.hid hr
  have HE := Lib.hid he
  have hln : (nats l).length = l.length := by simp [nats]
  have HLN := Lib.hid hln
  obtain ⟨hll, hlc, hls, _⟩ := hr
  clear he hln
  go_enter Try.func88, Try.ntmps88
  go_wp2_with fail
  go_loopw [7, 8, 9] (fun s7 s8 s9 wx => ∃ (k : Nat) (dn : List Nat) (b : Bool), k ≤ l.length ∧ s9 = .int .i64 k ∧ s8 = .bool b ∧ dn.length ≤ 2 * k ∧ Hid (dn ++ swapF out inn ((nats l).drop k) b = swapF out inn (nats l) false) ∧
      wx.ownsRow w.heap.size 3 1 s7 dn.length ((ints dn).map (Value.int .i64)) ∧ Below w.heap.size w wx) (fun _ _ i _ => l.length - (intOf i).toNat)
  case atStart => exact ⟨0, [], false, by omega, rfl, rfl, by simp, Lib.hid (by simp), World.ownsRow_nil _ _ _ _, Below.refl _ _⟩
  case round =>
    obtain ⟨k, dn, b, hk, rfl, rfl, hdn, hsw, hown, hbel⟩ := hrel
    rename World => U
    have HO := Lib.hid hown
    have HB := Lib.hid hbel
    have zB := hbel.size
    clear hown hbel
    by_cases hlt : k < l.length
    · obtain ⟨al, rfl, hclw⟩ := HL.out.natAt HE.out hlt
      have hal := World.block_lt_of_cell? _ _ hclw
      have hcl := (HB.out.cell hal).trans hclw
      have hal' := World.block_lt_of_cell? _ _ hcl
      have HCW := Lib.hid hclw
      clear hclw
      have HD := Lib.hid (drop_at (l := nats l) (k := k) (by rw [HLN.out]; exact hlt))
      have hi0 : (k : Int) < (l.length : Int) := by omega
      generalize (nats l).getD k 0 = a at *
      have HSW := Lib.hid (show dn ++ ((if inn < a ∧ b = false then [inn] else []) ++ ((if a ≠ out then [a] else []) ++ swapF out inn ((nats l).drop (k + 1)) (b || decide (inn < a)))) = swapF out inn (nats l) false by
        have := hsw.out
        rw [HD.out, swapF] at this
        exact this)
      clear hsw
      by_cases h1 : inn < a
      · have e1 : decide (inn < a) = true := by simpa using h1
        cases b with
        | true =>
          by_cases h2 : a = out
          · have HSK := Lib.hid (show dn ++ swapF out inn ((nats l).drop (k + 1)) true = swapF out inn (nats l) false by have := HSW.out; rw [if_neg (by simp), if_neg (by simp [h2]), Bool.true_or] at this; exact this)
            have e2 : (a != out) = false := by simp [h2]
            clear h1 h2
            go_wp2_with fail
            go_roundw
            case rel => exact ⟨k + 1, dn, true, by omega, by go_num, rfl, by omega, HSK, HO.out, HB.out⟩
            case measure => simp [intOf]; omega
          · have HSK := Lib.hid (show (dn ++ [a]) ++ swapF out inn ((nats l).drop (k + 1)) true = swapF out inn (nats l) false by have := HSW.out; rw [if_neg (by simp), if_pos h2, Bool.true_or] at this; simpa using this)
            have e2 : (a != out) = true := by simpa using h2
            clear h1 h2
            go_wp2_with
              (first
                | (at_builtin; refine list_app1 rfl (.tmp 26) (.tmp 28) _ _ _ 8 und_intS1 inf_intS1 rfl rfl w.heap.size _ _ _ _ rfl (HO.out.alloc _) _ 1 rfl (cell_new1 _ _ _) rfl (by unfold maxLen; omega) (by omega) (by simp; omega) ?_; intro g1 cap1 w1 hown1 hg1 hat1 hlt1; have HB1 := Lib.hid ((HB.out.alloc zB _).grown hg1 (by simp; omega) (fun j e => (HO.out.lt j e).1)); have z1 := HB1.out.size; have HO1 := Lib.hid hown1; have hcl1 := (HB1.out.cell hal).trans HCW.out; clear hown1 hg1 hat1)
                | (at_builtin; refine list_app1 rfl (.tmp 36) (.tmp 41) _ _ _ 8 und_intS1 inf_intS1 rfl rfl w.heap.size _ _ _ _ rfl (HO1.out.alloc _) _ 1 rfl (cell_new1 _ _ _) rfl (by unfold maxLen; omega) (by omega) (by simp; omega) ?_; intro g2 cap2 w2 hown2 hg2 hat2 hlt2; have HB2 := Lib.hid ((HB1.out.alloc z1 _).grown hg2 (by simp; omega) (fun j e => (HO1.out.lt j e).1)); have z2 := HB2.out.size; have HO2 := Lib.hid hown2; clear hown2 hg2 hat2)
                | (at_builtin; refine list_app1 rfl (.tmp 36) (.tmp 41) _ _ _ 8 und_intS1 inf_intS1 rfl rfl w.heap.size _ _ _ _ rfl (HO.out.alloc _) _ 1 rfl (cell_new1 _ _ _) rfl (by unfold maxLen; omega) (by omega) (by simp; omega) ?_; intro g2 cap2 w2 hown2 hg2 hat2 hlt2; have HB2 := Lib.hid ((HB.out.alloc zB _).grown hg2 (by simp; omega) (fun j e => (HO.out.lt j e).1)); have z2 := HB2.out.size; have HO2 := Lib.hid hown2; clear hown2 hg2 hat2))
            go_roundw
            case rel => exact ⟨k + 1, dn ++ [a], true, by omega, by go_num, rfl, by simp; omega, HSK, by rw [ints_app, List.map_append, List.length_append]; exact HO2.out, HB2.out⟩
            case measure => simp [intOf]; omega
        | false =>
          by_cases h2 : a = out
          · have HSK := Lib.hid (show (dn ++ [inn]) ++ swapF out inn ((nats l).drop (k + 1)) true = swapF out inn (nats l) false by have := HSW.out; rw [if_pos ⟨h1, rfl⟩, if_neg (by simp [h2]), Bool.false_or, show decide (inn < a) = true by simpa using h1] at this; simpa using this)
            have e2 : (a != out) = false := by simp [h2]
            clear h1 h2
            go_wp2_with
              (first
                | (at_builtin; refine list_app1 rfl (.tmp 26) (.tmp 28) _ _ _ 8 und_intS1 inf_intS1 rfl rfl w.heap.size _ _ _ _ rfl (HO.out.alloc _) _ 1 rfl (cell_new1 _ _ _) rfl (by unfold maxLen; omega) (by omega) (by simp; omega) ?_; intro g1 cap1 w1 hown1 hg1 hat1 hlt1; have HB1 := Lib.hid ((HB.out.alloc zB _).grown hg1 (by simp; omega) (fun j e => (HO.out.lt j e).1)); have z1 := HB1.out.size; have HO1 := Lib.hid hown1; have hcl1 := (HB1.out.cell hal).trans HCW.out; clear hown1 hg1 hat1)
                | (at_builtin; refine list_app1 rfl (.tmp 36) (.tmp 41) _ _ _ 8 und_intS1 inf_intS1 rfl rfl w.heap.size _ _ _ _ rfl (HO1.out.alloc _) _ 1 rfl (cell_new1 _ _ _) rfl (by unfold maxLen; omega) (by omega) (by simp; omega) ?_; intro g2 cap2 w2 hown2 hg2 hat2 hlt2; have HB2 := Lib.hid ((HB1.out.alloc z1 _).grown hg2 (by simp; omega) (fun j e => (HO1.out.lt j e).1)); have z2 := HB2.out.size; have HO2 := Lib.hid hown2; clear hown2 hg2 hat2)
                | (at_builtin; refine list_app1 rfl (.tmp 36) (.tmp 41) _ _ _ 8 und_intS1 inf_intS1 rfl rfl w.heap.size _ _ _ _ rfl (HO.out.alloc _) _ 1 rfl (cell_new1 _ _ _) rfl (by unfold maxLen; omega) (by omega) (by simp; omega) ?_; intro g2 cap2 w2 hown2 hg2 hat2 hlt2; have HB2 := Lib.hid ((HB.out.alloc zB _).grown hg2 (by simp; omega) (fun j e => (HO.out.lt j e).1)); have z2 := HB2.out.size; have HO2 := Lib.hid hown2; clear hown2 hg2 hat2))
            go_roundw
            case rel => exact ⟨k + 1, dn ++ [inn], true, by omega, by go_num, rfl, by simp; omega, HSK, by rw [ints_app, List.map_append, List.length_append]; exact HO1.out, HB1.out⟩
            case measure => simp [intOf]; omega
          · have HSK := Lib.hid (show ((dn ++ [inn]) ++ [a]) ++ swapF out inn ((nats l).drop (k + 1)) true = swapF out inn (nats l) false by have := HSW.out; rw [if_pos ⟨h1, rfl⟩, if_pos h2, Bool.false_or, show decide (inn < a) = true by simpa using h1] at this; simpa using this)
            have e2 : (a != out) = true := by simpa using h2
            clear h1 h2
            go_wp2_with
              (first
                | (at_builtin; refine list_app1 rfl (.tmp 26) (.tmp 28) _ _ _ 8 und_intS1 inf_intS1 rfl rfl w.heap.size _ _ _ _ rfl (HO.out.alloc _) _ 1 rfl (cell_new1 _ _ _) rfl (by unfold maxLen; omega) (by omega) (by simp; omega) ?_; intro g1 cap1 w1 hown1 hg1 hat1 hlt1; have HB1 := Lib.hid ((HB.out.alloc zB _).grown hg1 (by simp; omega) (fun j e => (HO.out.lt j e).1)); have z1 := HB1.out.size; have HO1 := Lib.hid hown1; have hcl1 := (HB1.out.cell hal).trans HCW.out; clear hown1 hg1 hat1)
                | (at_builtin; refine list_app1 rfl (.tmp 36) (.tmp 41) _ _ _ 8 und_intS1 inf_intS1 rfl rfl w.heap.size _ _ _ _ rfl (HO1.out.alloc _) _ 1 rfl (cell_new1 _ _ _) rfl (by unfold maxLen; omega) (by omega) (by simp; omega) ?_; intro g2 cap2 w2 hown2 hg2 hat2 hlt2; have HB2 := Lib.hid ((HB1.out.alloc z1 _).grown hg2 (by simp; omega) (fun j e => (HO1.out.lt j e).1)); have z2 := HB2.out.size; have HO2 := Lib.hid hown2; clear hown2 hg2 hat2)
                | (at_builtin; refine list_app1 rfl (.tmp 36) (.tmp 41) _ _ _ 8 und_intS1 inf_intS1 rfl rfl w.heap.size _ _ _ _ rfl (HO.out.alloc _) _ 1 rfl (cell_new1 _ _ _) rfl (by unfold maxLen; omega) (by omega) (by simp; omega) ?_; intro g2 cap2 w2 hown2 hg2 hat2 hlt2; have HB2 := Lib.hid ((HB.out.alloc zB _).grown hg2 (by simp; omega) (fun j e => (HO.out.lt j e).1)); have z2 := HB2.out.size; have HO2 := Lib.hid hown2; clear hown2 hg2 hat2))
            go_roundw
            case rel => exact ⟨k + 1, (dn ++ [inn]) ++ [a], true, by omega, by go_num, rfl, by simp; omega, HSK, by rw [ints_app, List.map_append, ints_app, List.map_append, List.length_append, List.length_append]; exact HO2.out, HB2.out⟩
            case measure => simp [intOf]; omega
      · have e1 : decide (inn < a) = false := by simpa using h1
        have e3 : a ≤ inn := by omega
        by_cases h2 : a = out
        · have HSK := Lib.hid (show dn ++ swapF out inn ((nats l).drop (k + 1)) b = swapF out inn (nats l) false by have := HSW.out; rw [if_neg (fun q => h1 q.1), if_neg (by simp [h2]), show decide (inn < a) = false by simpa using h1, Bool.or_false] at this; exact this)
          have e2 : (a != out) = false := by simp [h2]
          clear h1 h2
          go_wp2_with fail
          go_roundw
          case rel => exact ⟨k + 1, dn, b, by omega, by go_num, rfl, by omega, HSK, HO.out, HB.out⟩
          case measure => simp [intOf]; omega
        · have HSK := Lib.hid (show (dn ++ [a]) ++ swapF out inn ((nats l).drop (k + 1)) b = swapF out inn (nats l) false by have := HSW.out; rw [if_neg (fun q => h1 q.1), if_pos h2, show decide (inn < a) = false by simpa using h1, Bool.or_false] at this; simpa using this)
          have e2 : (a != out) = true := by simpa using h2
          clear h1 h2
          go_wp2_with
            (first
              | (at_builtin; refine list_app1 rfl (.tmp 26) (.tmp 28) _ _ _ 8 und_intS1 inf_intS1 rfl rfl w.heap.size _ _ _ _ rfl (HO.out.alloc _) _ 1 rfl (cell_new1 _ _ _) rfl (by unfold maxLen; omega) (by omega) (by simp; omega) ?_; intro g1 cap1 w1 hown1 hg1 hat1 hlt1; have HB1 := Lib.hid ((HB.out.alloc zB _).grown hg1 (by simp; omega) (fun j e => (HO.out.lt j e).1)); have z1 := HB1.out.size; have HO1 := Lib.hid hown1; have hcl1 := (HB1.out.cell hal).trans HCW.out; clear hown1 hg1 hat1)
              | (at_builtin; refine list_app1 rfl (.tmp 36) (.tmp 41) _ _ _ 8 und_intS1 inf_intS1 rfl rfl w.heap.size _ _ _ _ rfl (HO1.out.alloc _) _ 1 rfl (cell_new1 _ _ _) rfl (by unfold maxLen; omega) (by omega) (by simp; omega) ?_; intro g2 cap2 w2 hown2 hg2 hat2 hlt2; have HB2 := Lib.hid ((HB1.out.alloc z1 _).grown hg2 (by simp; omega) (fun j e => (HO1.out.lt j e).1)); have z2 := HB2.out.size; have HO2 := Lib.hid hown2; clear hown2 hg2 hat2)
              | (at_builtin; refine list_app1 rfl (.tmp 36) (.tmp 41) _ _ _ 8 und_intS1 inf_intS1 rfl rfl w.heap.size _ _ _ _ rfl (HO.out.alloc _) _ 1 rfl (cell_new1 _ _ _) rfl (by unfold maxLen; omega) (by omega) (by simp; omega) ?_; intro g2 cap2 w2 hown2 hg2 hat2 hlt2; have HB2 := Lib.hid ((HB.out.alloc zB _).grown hg2 (by simp; omega) (fun j e => (HO.out.lt j e).1)); have z2 := HB2.out.size; have HO2 := Lib.hid hown2; clear hown2 hg2 hat2))
          go_roundw
          case rel => exact ⟨k + 1, dn ++ [a], b, by omega, by go_num, rfl, by simp; omega, HSK, by rw [ints_app, List.map_append, List.length_append]; exact HO2.out, HB2.out⟩
          case measure => simp [intOf]; omega
    · obtain rfl : k = l.length := by omega
      have hsw' : dn ++ (if b then [] else [inn]) = swapF out inn (nats l) false := by
        have := hsw.out
        rw [List.drop_of_length_le (by rw [HLN.out]; exact Nat.le_refl _), swapF] at this
        exact this
      have HSE := Lib.hid hsw'
      clear hsw hsw'
      cases b with
      | true =>
        have HSF := Lib.hid (show swapF out inn (nats l) false = dn by rw [← HSE.out]; simp)
        have hdl : (ints dn).length = dn.length := ints_len dn
        obtain ⟨O, co, rfl, hR, hOl⟩ := Rd.of_ownv (l := ints dn) HO.out hdl.symm (by rw [hdl]; omega)
        have HR := Lib.hid hR
        have HOL := Lib.hid (fun ad (e : O = some ad) => (show w.heap.size ≤ ad.block ∧ ad.block < U.heap.size from ⟨hOl ad e, by
          have := HO.out
          rw [hdl] at this
          subst e
          rcases this.2 with ⟨q, _⟩ | ⟨g, cap, cur, q, _, hg, _⟩
          · cases q
          · cases q; exact (Array.getElem?_eq_some_iff.1 hg).1⟩))
        rw [hdl]
        clear hR hOl hdl HO
        go_wp2_with fail
        refine bodyPost_ret (v := .slice O dn.length co) ?_ ?_ ?_
        · simp [results, Try.results88, go_sem]
        · rfl
        exact ⟨O, co, by rw [HSF.out], by rw [HSF.out]; exact HR.out, HOL.out, HB.out⟩
      | false =>
        have HSF := Lib.hid (show swapF out inn (nats l) false = dn ++ [inn] by rw [← HSE.out]; simp)
        go_wp2_with (at_builtin; refine list_app1 rfl (.tmp 45) (.tmp 47) _ _ _ 8 und_intS1 inf_intS1 rfl rfl w.heap.size _ _ _ _ rfl (HO.out.alloc _) _ 1 rfl (cell_new1 _ _ _) rfl (by unfold maxLen; omega) (by omega) (by simp; omega) ?_; intro g1 cap1 w1 hown1 hg1 hat1 hlt1)
        have HB1 := Lib.hid ((HB.out.alloc zB _).grown hg1 (by simp; omega) (fun j e => (HO.out.lt j e).1))
        have hl1 : (ints (dn ++ [inn])).length = dn.length + 1 := by rw [ints_len, List.length_append]; rfl
        have hown1' : w1.ownsRow w.heap.size 3 1 (.slice (some ⟨g1, 0, none⟩) (ints (dn ++ [inn])).length cap1) (ints (dn ++ [inn])).length ((ints (dn ++ [inn])).map (Value.int .i64)) := by rw [hl1, ints_app, List.map_append]; exact hown1
        have HR := Lib.hid (Rd.of_own hown1' (by rw [hl1]; omega))
        have HOL := Lib.hid (hown1.lt g1 rfl)
        clear hown1 hown1' hg1 hat1 hl1
        go_wp2_with fail
        go_ret
        exact ⟨some ⟨g1, 0, none⟩, cap1, by rw [HSF.out, List.length_append]; rfl, by rw [HSF.out]; exact HR.out, fun ad e => by cases e; exact HOL.out, HB1.out⟩
end Go.Proofs.Ytjcdkbalhleeeab
