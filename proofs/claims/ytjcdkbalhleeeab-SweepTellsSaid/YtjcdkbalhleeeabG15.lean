/-
  Contracts of functions and plain laws that later parts of the proof use. The conditions stand in each theorem.
-/
import Derived.Test.YtjcdkbalhleeeabG11
import Derived.Deep.DeepCutAuto
import Derived.Test.YtjcdkbalhleeeabG02
namespace Go.Proofs.Ytjcdkbalhleeeab
open Go.RowKit

theorem own_empty (w : World) (t : TypeId) (base g : Nat) (hg : g = w.heap.size) (hb : base ≤ g) : (w.alloc (.cells #[] t)).ownsRow base t 1 (.slice (some ⟨g, 0, none⟩) 0 0) 0 [] := by
  subst hg
  exact ⟨rfl, Or.inr ⟨_, 0, #[], rfl, hb, heap_alloc_new w _, by omega, by omega, rfl, rfl⟩⟩
theorem Rd.take {w : World} {A : Option Addr} {c : Nat} {l : List Int} (h : Rd w A c l) (k : Nat) : Rd w A c (l.take k) := by
  refine ⟨by have := h.le; rw [List.length_take]; omega, h.cap, by have := h.small; rw [List.length_take]; omega, fun hl => ?_⟩
  simp only [List.length_map, List.length_take] at hl
  obtain ⟨ad, e, hc⟩ := h.cells (by simp; omega)
  refine ⟨ad, e, fun j u hu => hc j u ?_⟩
  rw [List.map_take, List.getElem?_take] at hu
  split at hu
  · exact hu
  · simp at hu
theorem Rd.dropCells {w : World} {ad : Addr} {c : Nat} {l : List Int} (h : Rd w (some ad) c l) (k : Nat) : Cells w (some ⟨ad.block, ad.off + (k + 1), none⟩) ((l.drop (k + 1)).map (Value.int .i64)) := fun hl => by
  simp only [List.length_map, List.length_drop] at hl
  obtain ⟨ad', e, hc⟩ := h.cells (by simp; omega)
  cases e
  refine ⟨_, rfl, fun j u hu => ?_⟩
  have h2 := hc (k + 1 + j) u (by rw [← hu, List.map_drop, List.getElem?_drop])
  have e1 : ad.add (k + 1 + j) = ⟨ad.block, ad.off + (k + 1 + j), none⟩ := by unfold Addr.add; rw [if_neg (by omega)]
  have e2 : (⟨ad.block, ad.off + (k + 1), none⟩ : Addr).add j = ⟨ad.block, ad.off + (k + 1 + j), none⟩ := by
    unfold Addr.add
    split
    · rename_i e; subst e; simp
    · simp only [Addr.mk.injEq, and_true, true_and]; omega
  rw [e2, ← e1]; exact h2
theorem one_ints (l : List Int) : ∀ u ∈ l.map (Value.int .i64), u.oneCell' = true := by
  intro u hu
  simp only [List.mem_map] at hu
  obtain ⟨x, _, rfl⟩ := hu
  rfl
theorem sg_one (k : Nat) : sg k = 1 ∨ sg k = -1 := by
  induction k with
  | zero => exact Or.inl rfl
  | succ k ih => rcases ih with h | h <;> simp [sg, h]
def FB : Nat → Int
  | 0 => 1
  | n + 1 => (n + 1 : Nat) * (400 * FB n)
theorem FB_pos (n : Nat) : 0 ≤ FB n := by
  induction n with
  | zero => simp [FB]
  | succ n ih => unfold FB; exact Int.mul_nonneg (by omega) (by omega)
def SmallR (l : List (List Int)) : Prop := ∀ r ∈ l, smallB 400 r = true
theorem SmallR.at_ {l : List (List Int)} (h : SmallR l) (i j : Nat) : -400 ≤ (l.getD i []).getD j 0 ∧ (l.getD i []).getD j 0 ≤ 400 := by
  by_cases hi : i < l.length
  · have := h l[i] (List.getElem_mem hi)
    rw [show l.getD i [] = l[i] by simp [List.getD, List.getElem?_eq_getElem hi]]
    by_cases hj : j < l[i].length
    · have := smallB_at this hj; simpa [List.getD, List.getElem?_eq_getElem hj] using this
    · simp [List.getD, List.getElem?_eq_none (Nat.le_of_not_lt hj)]
  · simp [List.getD, List.getElem?_eq_none (Nat.le_of_not_lt hi)]
theorem SmallR.mino {l : List (List Int)} (h : SmallR l) (k : Nat) : SmallR (mino l k) := by
  intro r hr
  simp only [Go.Proofs.Ytjcdkbalhleeeab.mino, List.mem_map] at hr
  obtain ⟨x, hx, rfl⟩ := hr
  have := h x (List.mem_of_mem_drop hx)
  rw [smallB_iff] at this ⊢
  intro n hn
  rcases List.mem_append.1 hn with q | q
  · exact this n (List.mem_of_mem_take q)
  · exact this n (List.mem_of_mem_drop q)
theorem detF_bound : ∀ (n : Nat) (l : List (List Int)), SmallR l → -(FB n) ≤ detF n l ∧ detF n l ≤ FB n
  | 0, l, _ => by simp [detF, FB]
  | n + 1, l, h => by
    have key : ∀ k : Nat, -((k : Int) * (400 * FB n)) ≤ sumN (fun k => sg k * (l.getD 0 []).getD k 0 * detF n (mino l k)) k ∧ sumN (fun k => sg k * (l.getD 0 []).getD k 0 * detF n (mino l k)) k ≤ (k : Int) * (400 * FB n) := by
      intro k
      induction k with
      | zero => simp [sumN]
      | succ k ih =>
        have h1 := h.at_ 0 k
        have h2 := detF_bound n (mino l k) (h.mino k)
        have h3 : -400 ≤ sg k * (l.getD 0 []).getD k 0 ∧ sg k * (l.getD 0 []).getD k 0 ≤ 400 := by rcases sg_one k with e | e <;> rw [e] <;> omega
        have h4 := mul_bound _ _ 400 (FB n) h3.1 h3.2 h2.1 h2.2
        rw [sumN]
        rw [show ((k + 1 : Nat) : Int) * (400 * FB n) = (k : Int) * (400 * FB n) + 400 * FB n by push_cast; rw [Int.add_mul]; omega]
        omega
    exact key (n + 1)
theorem detF_part (n : Nat) (l : List (List Int)) (h : SmallR l) (k : Nat) : -((k : Int) * (400 * FB n)) ≤ sumN (fun k => sg k * (l.getD 0 []).getD k 0 * detF n (mino l k)) k ∧ sumN (fun k => sg k * (l.getD 0 []).getD k 0 * detF n (mino l k)) k ≤ (k : Int) * (400 * FB n) := by
  induction k with
  | zero => simp [sumN]
  | succ k ih =>
    have h1 := h.at_ 0 k
    have h2 := detF_bound n (mino l k) (h.mino k)
    have h3 : -400 ≤ sg k * (l.getD 0 []).getD k 0 ∧ sg k * (l.getD 0 []).getD k 0 ≤ 400 := by rcases sg_one k with e | e <;> rw [e] <;> omega
    have h4 := mul_bound _ _ 400 (FB n) h3.1 h3.2 h2.1 h2.2
    rw [sumN]
    rw [show ((k + 1 : Nat) : Int) * (400 * FB n) = (k : Int) * (400 * FB n) + 400 * FB n by push_cast; rw [Int.add_mul]; omega]
    omega

set_option maxRecDepth 100000 in
set_option maxHeartbeats 2000000 in
theorem ref3_det (n : Nat) : ∀ (l : List (List Int)) (A : Option Addr) (c : Nat) (w : World), n ≤ 4 → l.length = n → (∀ r ∈ l, r.length = n) → SmallR l → Rm w A c l →
    Calls Try.prog 85 #[.slice A n c] w fun e w' => e = .returned (.int .i64 (detF n l)) ∧ Below w.heap.size w w' := by
  induction n with
  | zero =>
    intro l A c w _ hl _ _ hr
    have hc := hr.cap
    go_enter Try.func85, Try.ntmps85
    go_wp2_with fail
    go_ret
    exact ⟨rfl, Below.refl _ _⟩
  | succ n ih =>
    intro l A c w h4 hl hrl hs hr
    have HI := Lib.hid ih
    have HR := Lib.hid hr
    have HS := Lib.hid hs
    have HRL := Lib.hid hrl
    have hll := hr.le
    have hlc := hr.cap
    have HLn := Lib.hid hl
    have hle : n + 1 ≤ c := by omega
    have hnz : (((n + 1 : Nat) : Int) == 0) = false := by simp; omega
    have hnz2 : (((n : Int) + 1) == 0) = false := by simp; omega
    clear ih hr hs hrl hl hll
    go_enter Try.func85, Try.ntmps85
    go_wp2_with fail
    go_loopw [3, 4, 5] (fun s t i wx => ∃ k : Nat, k ≤ n + 1 ∧ i = .int .i64 k ∧ s = .int .i64 (sumN (fun k => sg k * (l.getD 0 []).getD k 0 * detF n (mino l k)) k) ∧ t = .int .i64 (sg k) ∧ Below w.heap.size w wx) (fun _ _ i _ => n + 1 - (intOf i).toNat)
    case atStart => exact ⟨0, by omega, rfl, rfl, rfl, Below.refl _ _⟩
    case round =>
      obtain ⟨k, hk, rfl, rfl, rfl, hbel⟩ := hrel
      have HL := Lib.hid hbel
      have HRv := Lib.hid (HR.out.below hbel)
      have zL := hbel.size
      clear hbel
      rename World => V
      by_cases hlt : k < n + 1
      · have hkd : decide ((k : Int) < (n : Int) + 1) = true := by simp; omega
        obtain ⟨S0, hs0⟩ : ∃ S0, S0 = sumN (fun k => sg k * (l.getD 0 []).getD k 0 * detF n (mino l k)) k := ⟨_, rfl⟩
        rw [← hs0]
        have HS0 := Lib.hid hs0
        clear hs0
        go_wp2_with fail
        go_loopw [6, 7] (fun v i wx => ∃ q : Nat, 1 ≤ q ∧ q ≤ n + 1 ∧ i = .int .i64 q ∧ RowsOwn wx V.heap.size v (q - 1) (((l.drop 1).take (q - 1)).map fun r => r.take k ++ r.drop (k + 1)) ∧ Below V.heap.size V wx) (fun _ i _ => n + 1 - (intOf i).toNat)
        case atStart => exact ⟨1, by omega, by omega, rfl, RowsOwn.nil _ _, Below.refl _ _⟩
        case round =>
          obtain ⟨q, hq1, hq, rfl, hown, hbel⟩ := hrel
          have HO := Lib.hid hown
          have HB := Lib.hid hbel
          have zB := hbel.size
          have HRx := Lib.hid (HRv.out.below hbel)
          clear hown hbel
          rename World => U
          by_cases hqn : q < n + 1
          · have hql : q < l.length := by have := HLn.out; omega
            obtain ⟨ad, A', c', rfl, hc1, hrd⟩ := HRx.out.at_ hql
            have hlq : l[q]'hql ∈ l := List.getElem_mem hql
            have hrow := HRL.out _ hlq
            have hadl := World.block_lt_of_cell? _ _ hc1
            generalize hrq : l[q]'hql = row at *
            have hrc := hrd.le
            have hrc2 := hrd.cap
            obtain ⟨ad', rfl, hx0⟩ := hrd.at_ (k := 0) (by omega)
            have HRD := Lib.hid hrd
            have hi0 : (q : Int) < ((n : Int) + 1) := by omega
            rw [hrow] at hc1
            have HROW := Lib.hid hrow
            have hkc : k + 1 ≤ c' := by omega
            have hnc : n + 1 ≤ c' := by omega
            have hkc0 : k ≤ c' := by omega
            have hadl' := World.block_lt_of_cell? _ _ hx0
            clear hrd hrow hlq hx0
            by_cases hck : c' = k + 1
            · have hnk : n ≤ k := by omega
              obtain ⟨hO1, vs, hO2, hO3, hO4⟩ := HO.out
              have HO3 := Lib.hid hO3
              have HO4 := Lib.hid hO4
              have HO1 := Lib.hid hO1
              have HO2 := Lib.hid hO2
              have hq12 : q - 1 ≤ 3 := by omega
              clear hO1 hO2 hO3 hO4
              go_wp2_with (first
                | (at_builtin; refine list_appM rfl (.tmp 24) (.tmp 30) _ _ _ 8 und_i64s inf_i64 rfl rfl U.heap.size (.slice (some ⟨U.heap.size, 0, none⟩) 0 0) 0 [] rfl (own_empty _ _ _ _ rfl (Nat.le_refl _)) (fun e => by cases e) (some ad') k _ ((row.take k).map (Value.int .i64)) rfl (by have := HROW.out; rw [List.length_map, List.length_take]; omega) (fun e => by cases e) ((HRD.out.alloc _).take k).cells (one_ints _) (by unfold maxLen; omega) (by omega) (by simp) ?_; intro g3 cap3 w3 hown3 hg3 hat3 hlt3; simp only [Nat.zero_add, List.nil_append] at hown3; have z3 := hg3.size; have hb3 : Below U.heap.size U w3 := ((Below.refl _ U).alloc (Nat.le_refl _) _).grown hg3 (by simp) (fun j e => by cases e; exact Nat.le_refl _); have hc3 : w3.cell? (ad.add q) = some (.slice (some ad') (n + 1) c') := (hb3.cell hadl).trans hc1; have G3 := (hown3.lt g3 rfl).1; have HW3 := Lib.hid hown3; have HB3 := Lib.hid hb3; clear hown3 hg3 hb3)
                | (at_builtin; refine list_appM rfl (.tmp 33) (.tmp 40) _ _ _ 8 und_i64s inf_i64 rfl rfl U.heap.size (.slice (some ⟨g3, 0, none⟩) k cap3) k ((row.take k).map (Value.int .i64)) rfl HW3.out (fun e => by cases e) (some ad') _ _ ((row.drop (k + 1)).map (Value.int .i64)) rfl (by have := HROW.out; rw [List.length_map, List.length_drop]; first | omega | (simp; omega)) (fun e => by cases e) (show Cells _ _ _ from fun hl => by exfalso; have := HROW.out; simp at hl; omega) (one_ints _) (by unfold maxLen; omega) (by omega) (by have := HB3.out.size; omega) ?_; intro g4 cap4 w4 hown4 hg4 hat4 hlt4; have z4 := hg4.size; have hb4 : Below U.heap.size U w4 := HB3.out.grown hg4 HB3.out.size (fun j e => by cases e; exact G3); have G4 := (hown4.lt g4 rfl).1; have HW4 := Lib.hid hown4; have HB4 := Lib.hid hb4; clear hown4 hg4 hb4)
                | (at_builtin; refine list_app1 rfl (.tmp 32) (.tmp 42) _ _ _ 24 und_rows inf_ints rfl rfl V.heap.size u6 (q - 1) vs _ rfl (own_below (own_below HO3.out HB4.out) (by exact (Below.refl _ _).alloc (Nat.le_refl _) _)) _ 1 rfl (cell_new1 _ _ _) rfl (by unfold maxLen; omega) (by omega) (by have := HB4.out.size; simp; omega) ?_; intro g5 cap5 w5 hown5 hg5 hat5 hlt5; have z5 := hg5.size; have HW5 := Lib.hid hown5; have HG5 := Lib.hid hg5; clear hown5 hg5))
              go_roundw
              case rel =>
                have hb5 : Below U.heap.size U (w4.alloc (.cells #[.slice (some ⟨g4, 0, none⟩) (k + 0) cap4] 22)) := HB4.out.alloc HB4.out.size _
                have hlen : (row.take k ++ row.drop (k + 1)).length = k + 0 := by have := HROW.out; rw [List.length_append, List.length_take, List.length_drop]; omega
                have hr4 : Rd w4 (some ⟨g4, 0, none⟩) cap4 (row.take k ++ row.drop (k + 1)) := Rd.of_own (base := U.heap.size) (e := 2) (by rw [hlen, List.map_append]; exact HW4.out) (by omega)
                have hg5b : V.heap.size ≤ (w4.alloc (.cells #[.slice (some ⟨g4, 0, none⟩) (k + 0) cap4] 22)).heap.size := by have := hb5.size; omega
                have hp := RowsOwn.push (rs := ((l.drop 1).take (q - 1)).map fun r => r.take k ++ r.drop (k + 1)) HO1.out HO2.out
                  (fun j hj => by
                    obtain ⟨a1, a2, a3, a4, a5⟩ := HO4.out j hj
                    exact ⟨a1, a2, a3, a4.below hb5, a5⟩) (hr4.below ((Below.refl _ _).alloc (Nat.le_refl _) _)) (fun _ ad e => by
                    cases e
                    intro he
                    have := (HO3.out.lt g4 he.symm).2
                    omega) (by rw [hlen]; exact HW5.out) HG5.out hat5
                have hq2 : q - 1 < (l.drop 1).length := by have := HLn.out; rw [List.length_drop]; omega
                have hel : (((l.drop 1).take (q - 1)).map fun r => r.take k ++ r.drop (k + 1)) ++ [row.take k ++ row.drop (k + 1)] = ((l.drop 1).take (q + 1 - 1)).map fun r => r.take k ++ r.drop (k + 1) := by
                  rw [show q + 1 - 1 = q - 1 + 1 by omega, List.take_succ_eq_append_getElem hq2, List.map_append]
                  congr 1
                  simp only [List.map_cons, List.map_nil, List.getElem_drop]
                  have e2 : ∀ i (hi : i < l.length), i = q → l[i] = row := by intro i hi e; subst e; exact hrq
                  rw [e2 _ _ (by omega)]
                rw [hel] at hp
                refine ⟨q + 1, by omega, by omega, by go_num, ?_, ?_⟩
                · have e3 : q + 1 - 1 = q - 1 + 1 := by omega
                  rw [e3] at hp ⊢
                  have e4 : (Value.slice (some ⟨g5, 0, none⟩) (q - 1 + 1) cap5) = .slice (some ⟨g5, 0, none⟩) q cap5 := by rw [show q - 1 + 1 = q by omega]
                  rw [e4] at hp
                  exact hp
                · exact (HB.out.trans (hb5.mono zB)).grown HG5.out hg5b (own_ge HO3.out (Nat.le_refl _))
              case measure => simp [intOf]; omega
            have hck1 : ¬ c' - (k + 1) = 0 := by omega
            obtain ⟨hO1, vs, hO2, hO3, hO4⟩ := HO.out
            have HO3 := Lib.hid hO3
            have HO4 := Lib.hid hO4
            have HO1 := Lib.hid hO1
            have HO2 := Lib.hid hO2
            have hq12 : q - 1 ≤ 3 := by omega
            clear hO1 hO2 hO3 hO4
            go_wp2_with (first
              | (at_builtin; refine list_appM rfl (.tmp 24) (.tmp 30) _ _ _ 8 und_i64s inf_i64 rfl rfl U.heap.size (.slice (some ⟨U.heap.size, 0, none⟩) 0 0) 0 [] rfl (own_empty _ _ _ _ rfl (Nat.le_refl _)) (fun e => by cases e) (some ad') k _ ((row.take k).map (Value.int .i64)) rfl (by have := HROW.out; rw [List.length_map, List.length_take]; omega) (fun e => by cases e) ((HRD.out.alloc _).take k).cells (one_ints _) (by unfold maxLen; omega) (by omega) (by simp) ?_; intro g3 cap3 w3 hown3 hg3 hat3 hlt3; simp only [Nat.zero_add, List.nil_append] at hown3; have z3 := hg3.size; have hb3 : Below U.heap.size U w3 := ((Below.refl _ U).alloc (Nat.le_refl _) _).grown hg3 (by simp) (fun j e => by cases e; exact Nat.le_refl _); have hc3 : w3.cell? (ad.add q) = some (.slice (some ad') (n + 1) c') := (hb3.cell hadl).trans hc1; have G3 := (hown3.lt g3 rfl).1; have HW3 := Lib.hid hown3; have HB3 := Lib.hid hb3; clear hown3 hg3 hb3)
              | (at_builtin; refine list_appM rfl (.tmp 33) (.tmp 40) _ _ _ 8 und_i64s inf_i64 rfl rfl U.heap.size (.slice (some ⟨g3, 0, none⟩) k cap3) k ((row.take k).map (Value.int .i64)) rfl HW3.out (fun e => by cases e) (some ⟨ad'.block, ad'.off + (k + 1), none⟩) _ _ ((row.drop (k + 1)).map (Value.int .i64)) rfl (by have := HROW.out; rw [List.length_map, List.length_drop]; first | omega | (simp; omega)) (fun e => by cases e) ((HRD.out.below HB3.out).dropCells k) (one_ints _) (by unfold maxLen; omega) (by omega) (by have := HB3.out.size; omega) ?_; intro g4 cap4 w4 hown4 hg4 hat4 hlt4; have z4 := hg4.size; have hb4 : Below U.heap.size U w4 := HB3.out.grown hg4 HB3.out.size (fun j e => by cases e; exact G3); have G4 := (hown4.lt g4 rfl).1; have HW4 := Lib.hid hown4; have HB4 := Lib.hid hb4; clear hown4 hg4 hb4)
              | (at_builtin; refine list_app1 rfl (.tmp 32) (.tmp 42) _ _ _ 24 und_rows inf_ints rfl rfl V.heap.size u6 (q - 1) vs _ rfl (own_below (own_below HO3.out HB4.out) (by exact (Below.refl _ _).alloc (Nat.le_refl _) _)) _ 1 rfl (cell_new1 _ _ _) rfl (by unfold maxLen; omega) (by omega) (by have := HB4.out.size; simp; omega) ?_; intro g5 cap5 w5 hown5 hg5 hat5 hlt5; have z5 := hg5.size; have HW5 := Lib.hid hown5; have HG5 := Lib.hid hg5; clear hown5 hg5))
            go_roundw
            case rel =>
              have hb5 : Below U.heap.size U (w4.alloc (.cells #[.slice (some ⟨g4, 0, none⟩) (k + (n - k)) cap4] 22)) := HB4.out.alloc HB4.out.size _
              have hlen : (row.take k ++ row.drop (k + 1)).length = k + (n - k) := by have := HROW.out; rw [List.length_append, List.length_take, List.length_drop]; omega
              have hr4 : Rd w4 (some ⟨g4, 0, none⟩) cap4 (row.take k ++ row.drop (k + 1)) := Rd.of_own (base := U.heap.size) (e := 2) (by rw [hlen, List.map_append]; exact HW4.out) (by omega)
              have hg5b : V.heap.size ≤ (w4.alloc (.cells #[.slice (some ⟨g4, 0, none⟩) (k + (n - k)) cap4] 22)).heap.size := by have := hb5.size; omega
              have hp := RowsOwn.push (rs := ((l.drop 1).take (q - 1)).map fun r => r.take k ++ r.drop (k + 1)) HO1.out HO2.out
                (fun j hj => by
                  obtain ⟨a1, a2, a3, a4, a5⟩ := HO4.out j hj
                  exact ⟨a1, a2, a3, a4.below hb5, a5⟩) (hr4.below ((Below.refl _ _).alloc (Nat.le_refl _) _)) (fun _ ad e => by
                  cases e
                  intro he
                  have := (HO3.out.lt g4 he.symm).2
                  omega) (by rw [hlen]; exact HW5.out) HG5.out hat5
              have hq2 : q - 1 < (l.drop 1).length := by have := HLn.out; rw [List.length_drop]; omega
              have hel : (((l.drop 1).take (q - 1)).map fun r => r.take k ++ r.drop (k + 1)) ++ [row.take k ++ row.drop (k + 1)] = ((l.drop 1).take (q + 1 - 1)).map fun r => r.take k ++ r.drop (k + 1) := by
                rw [show q + 1 - 1 = q - 1 + 1 by omega, List.take_succ_eq_append_getElem hq2, List.map_append]
                congr 1
                simp only [List.map_cons, List.map_nil, List.getElem_drop]
                have e2 : ∀ i (hi : i < l.length), i = q → l[i] = row := by intro i hi e; subst e; exact hrq
                rw [e2 _ _ (by omega)]
              rw [hel] at hp
              refine ⟨q + 1, by omega, by omega, by go_num, ?_, ?_⟩
              · have e3 : q + 1 - 1 = q - 1 + 1 := by omega
                rw [e3] at hp ⊢
                have e4 : (Value.slice (some ⟨g5, 0, none⟩) (q - 1 + 1) cap5) = .slice (some ⟨g5, 0, none⟩) q cap5 := by rw [show q - 1 + 1 = q by omega]
                rw [e4] at hp
                exact hp
              · exact (HB.out.trans (hb5.mono zB)).grown HG5.out hg5b (own_ge HO3.out (Nat.le_refl _))
            case measure => simp [intOf]; omega
          · obtain rfl : q = n + 1 := by omega
            have hml : ((l.drop 1).take (n + 1 - 1)).map (fun r => r.take k ++ r.drop (k + 1)) = mino l k := by
              unfold mino; rw [List.take_of_length_le (by have := HLn.out; rw [List.length_drop]; omega)]
            have hO := HO.out
            rw [hml] at hO
            obtain ⟨A6, c6, hv6, hR6⟩ := hO.reads (by omega)
            have e6 : n + 1 - 1 = n := by omega
            rw [e6] at hv6
            subst hv6
            have hm1 : (mino l k).length = n := by unfold mino; have := HLn.out; simp; omega
            have hm2 : ∀ r ∈ mino l k, r.length = n := by
              intro r hr
              simp only [mino, List.mem_map] at hr
              obtain ⟨x, hx, rfl⟩ := hr
              have := HRL.out x (List.mem_of_mem_drop hx)
              rw [List.length_append, List.length_take, List.length_drop]; omega
            have HD := Lib.hid (show ∀ v : Wk U, Calls Try.prog 85 #[.slice A6 n c6] v.1 fun e w' => e = .returned (.int .i64 (detF n (mino l k))) ∧ Below v.1.heap.size v.1 w' from
              fun v => HI.out (mino l k) A6 c6 v.1 (by omega) hm1 hm2 (HS.out.mino k) (hR6.below v.2))
            have hl0' : 0 < l.length := by have := HLn.out; omega
            obtain ⟨ad, A', c', rfl, hc1, hrd⟩ := HRx.out.at_ hl0'
            have hadl := World.block_lt_of_cell? _ _ hc1
            have hl0 : l[0].length = n + 1 := HRL.out _ (List.getElem_mem hl0')
            have hk0 : k < l[0].length := by omega
            obtain ⟨ad', rfl, hx0⟩ := hrd.at_ hk0
            have hadl' := World.block_lt_of_cell? _ _ hx0
            have e0 : l.getD 0 [] = l[0] := by simp [List.getD, List.getElem?_eq_getElem hl0']
            have e1 : (l.getD 0 []).getD k 0 = l[0][k] := by rw [e0]; simp [List.getD, List.getElem?_eq_getElem hk0]
            rw [← e1] at hx0
            rw [hl0] at hc1
            have s0 : ∀ v : Wk U, v.1.cell? (ad.add 0) = some (.slice (some ad') (n + 1) c') := fun v => (v.2.cell hadl).trans hc1
            have s00 : ∀ v : Wk U, v.1.cell? ad = some (.slice (some ad') (n + 1) c') := fun v => s0 v
            have s1 : ∀ v : Wk U, v.1.cell? (ad'.add k) = some (.int .i64 ((l.getD 0 []).getD k 0)) := fun v => (v.2.cell hadl').trans hx0
            have hp1 := detF_part n l HS.out k
            have hp2 := detF_part n l HS.out (k + 1)
            have hb1 := HS.out.at_ 0 k
            have hb2 := detF_bound n (mino l k) (HS.out.mino k)
            have hfb : FB n ≤ 384000000 := by
              rcases (show n = 0 ∨ n = 1 ∨ n = 2 ∨ n = 3 by omega) with rfl | rfl | rfl | rfl <;> simp [FB]
            have hfp := FB_pos n
            have HSU := Lib.hid (show sumN (fun k => sg k * (l.getD 0 []).getD k 0 * detF n (mino l k)) (k + 1) = sumN (fun k => sg k * (l.getD 0 []).getD k 0 * detF n (mino l k)) k + sg k * (l.getD 0 []).getD k 0 * detF n (mino l k) from rfl)
            have hsg := sg_one k
            have HSG := Lib.hid (show sg (k + 1) = 0 - sg k from rfl)
            have hi0 : (k : Int) < ((n : Int) + 1) := by omega
            generalize (l.getD 0 []).getD k 0 = x at *
            generalize detF n (mino l k) = d at *
            rw [← HS0.out] at hp1 HSU
            generalize sg k = g at *
            have hgx : -400 ≤ g * x ∧ g * x ≤ 400 := by rcases hsg with e | e <;> rw [e] <;> omega
            have hgd := mul_bound (g * x) d 400 384000000 hgx.1 hgx.2 (by omega) (by omega)
            have hk4 : -(4 * (400 * FB n)) ≤ S0 ∧ S0 ≤ 4 * (400 * FB n) := by
              have h0 : (k : Int) * (400 * FB n) ≤ 4 * (400 * FB n) := Int.mul_le_mul_of_nonneg_right (by omega) (by omega)
              omega
            have hw1 : IntKind.i64.wrap (g * x) = g * x := IntWalk.i64_in _ (by omega)
            have hw2 : IntKind.i64.wrap (g * x * d) = g * x * d := IntWalk.i64_in _ (by omega)
            have hw3 : IntKind.i64.wrap (S0 + g * x * d) = S0 + g * x * d := IntWalk.i64_in _ (by omega)
            have hg1 : -1 ≤ g ∧ g ≤ 1 := by omega
            obtain ⟨hg1, hg2⟩ := hg1
            clear hp1 hp2 hb1 hb2 hfb hfp hgx hgd hk4 hsg hO hR6 hm1 hm2 hc1 hx0 hrd hl0 e0 e1 hml
            go_wp2_with fail
            refine wk_region (by kernel_rfl) (by kernel_rfl) ?_
            repeat (go_big_quiet_step ((go_at_call 85; with_reducible exact wk_call (HD.out _))))
            refine wpQuiet_nil ?_
            rintro w5 ⟨u5, rfl⟩
            clear hw1 hw2 hw3
            have z5 := u5.2.size
            go_wp2_with fail
            go_roundw
            case rel => exact ⟨k + 1, by omega, by go_num, by rw [HSU.out], by rw [HSG.out, Int.zero_sub], (HL.out.trans ((HB.out.trans (u5.2.mono zB)).mono zL))⟩
            case measure => simp [intOf]; omega
      · obtain rfl : k = n + 1 := by omega
        go_wp2_with fail
        go_ret
        exact ⟨rfl, (by (repeat (any_goals (first | exact Below.refl _ _ | exact HL.out | refine below_drewN ?_ _ | refine Below.drew ?_ | refine Below.alloc ?_ ?_ _ | refine Below.setCell ?_ ?_ _ | refine Below.trans ?_ (Below.mono HL.out ?_)))); all_goals (first | omega | (simp; done) | (simp; omega) | ((try have z0 := HL.out.size); (try simp at z0); (try simp); omega)))⟩
end Go.Proofs.Ytjcdkbalhleeeab

namespace Go.Proofs.Ytjcdkbalhleeeab
open Go.RowKit

/-- Rows with one number of each in the place of another one. -/
def putF (l : List (List Int)) (k : Nat) (col : List Int) : List (List Int) := (List.range l.length).map fun i => (l.getD i []).set k (col.getD i 0)
/-- Rows are handed back, in new memory. -/
def RetRm (w : World) (rs : List (List Int)) (e : Ending) (w' : World) : Prop := ∃ A c, e = .returned (.slice A rs.length c) ∧ Rm w' A c rs ∧ Below w.heap.size w w'
theorem own_cell {w : World} {base g n cap : Nat} {e : TypeId} {xs : List Value} (h : w.ownsRow base e 1 (.slice (some ⟨g, 0, none⟩) n cap) n xs) (j : Nat) (u : Value) (hu : xs[j]? = some u) : w.cell? ⟨g, j, none⟩ = some u := by
  have := h.cells (g := g) rfl j u hu
  rwa [addz] at this
theorem own_free {w : World} {base g n cap : Nat} {e : TypeId} {xs : List Value} (h : w.ownsRow base e 1 (.slice (some ⟨g, 0, none⟩) n cap) n xs) (j : Nat) : w.frozen? ⟨g, j, none⟩ = false := by
  rcases h.2 with ⟨e, _⟩ | ⟨g', cap', cur, e, hb, hg, _⟩
  · injection e with e1; cases e1
  · injection e with e1
    injection e1 with e1; injection e1 with e1
    subst e1
    exact Blk.frozen (w := w) hg j
theorem own_set {w : World} {base g n cap : Nat} {l : List Int} (h : w.ownsRow base 2 1 (.slice (some ⟨g, 0, none⟩) n cap) n (l.map (Value.int .i64))) (k : Nat) (z : Int) :
    (w.setCell ⟨g, k, none⟩ (.int .i64 z)).ownsRow base 2 1 (.slice (some ⟨g, 0, none⟩) n cap) n ((l.set k z).map (Value.int .i64)) := by
  obtain ⟨hx, hr⟩ := h
  refine ⟨by simpa using hx, Or.inr ?_⟩
  rcases hr with ⟨e, _⟩ | ⟨g', cap', cur, e, hb, hg, hnc, hcm, hcs, htake⟩
  · injection e with e1; cases e1
  · injection e with e1 e2 e3
    injection e1 with e1; injection e1 with e1
    subst e1 e3
    refine ⟨g, cap, cur.setIfInBounds k (.int .i64 z), rfl, hb, ?_, hnc, hcm, by simpa using hcs, ?_⟩
    · exact Blk.set0 (w := w) (t := 2) hg k _
    · simp only [List.length_map] at hx
      rw [Array.toList_setIfInBounds, List.take_set, htake, List.map_set]

set_option maxRecDepth 100000 in
set_option maxHeartbeats 2000000 in
theorem ref3_put (l : List (List Int)) (A : Option Addr) (c k : Nat) (C : Option Addr) (cc : Nat) (col : List Int) (m : Nat) (w : World) (h1 : 1 ≤ m) (h4 : m ≤ 4) (hl : l.length = m) (hrl : ∀ r ∈ l, r.length = m) (hk : k < m) (hcl : m ≤ col.length) (hr : Rm w A c l) (hc : Rd w C cc col) :
    Calls Try.prog 86 #[.slice A m c, .int .i64 k, .slice C col.length cc] w (RetRm w (putF l k col)) := by
  have HR := Lib.hid hr
  have HC := Lib.hid hc
  have HRL := Lib.hid hrl
  have HL := Lib.hid hl
  have hlc := hr.cap
  have hll : m ≤ c := by have := hr.le; omega
  obtain ⟨hc1, hc2, hc3, _⟩ := hc
  clear hr hrl hl
  go_enter Try.func86, Try.ntmps86
  go_wp2_with fail
  go_loopw [7, 8] (fun v i wx => ∃ q : Nat, q ≤ m ∧ i = .int .i64 q ∧ RowsOwn wx w.heap.size v q (((List.range q).map fun i => (l.getD i []).set k (col.getD i 0))) ∧ Below w.heap.size w wx) (fun _ i _ => m - (intOf i).toNat)
  case atStart => exact ⟨0, by omega, rfl, RowsOwn.nil _ _, Below.refl _ _⟩
  case round =>
    obtain ⟨q, hq, rfl, hown, hbel⟩ := hrel
    have HO := Lib.hid hown
    have HB := Lib.hid hbel
    have zB := hbel.size
    have HRx := Lib.hid (HR.out.below hbel)
    have HCx := Lib.hid (HC.out.below hbel)
    clear hown hbel
    rename World => U
    by_cases hqn : q < m
    · have hql : q < l.length := by have := HL.out; omega
      obtain ⟨ad, A', c', rfl, hd1, hrd⟩ := HRx.out.at_ hql
      have hlq : l[q]'hql ∈ l := List.getElem_mem hql
      have hrow := HRL.out _ hlq
      have hadl := World.block_lt_of_cell? _ _ hd1
      have hqe : l.getD q [] = l[q]'hql := by simp [List.getD, List.getElem?_eq_getElem hql]
      generalize hrq : l[q]'hql = row at *
      have hrc2 := hrd.cap
      have hnc : m ≤ c' := by have := hrd.le; omega
      obtain ⟨ad', rfl, hx0⟩ := hrd.at_ (k := 0) (by omega)
      obtain ⟨ac, rfl, hcc⟩ := HCx.out.at_ (k := q) (by omega)
      have hacl := World.block_lt_of_cell? _ _ hcc
      have hcq : col.getD q 0 = col[q]'(by omega) := by simp [List.getD, List.getElem?_eq_getElem (show q < col.length by omega)]
      rw [← hcq] at hcc
      have HRD := Lib.hid hrd
      have hi0 : (q : Int) < (m : Int) := by omega
      have hi1 : (q : Int) < (col.length : Int) := by omega
      have hi2 : (k : Int) < (m : Int) := by omega
      rw [hrow] at hd1
      have HROW := Lib.hid hrow
      have HQE := Lib.hid hqe
      obtain ⟨hO1, vs, hO2, hO3, hO4⟩ := HO.out
      have HO3 := Lib.hid hO3
      have HO4 := Lib.hid hO4
      have HO1 := Lib.hid hO1
      have HO2 := Lib.hid hO2
      generalize hzz : col.getD q 0 = z at *
      have HZ := Lib.hid hzz
      clear hzz
      clear hrd hrow hlq hx0 hqe hcq hO1 hO2 hO3 hO4
      go_wp2_with (first
        | (at_builtin; refine list_appM rfl (.tmp 16) (.tmp 20) _ _ _ 8 und_i64s inf_i64 rfl rfl U.heap.size (.slice (some ⟨U.heap.size, 0, none⟩) 0 0) 0 [] rfl (own_empty _ _ _ _ rfl (Nat.le_refl _)) (fun e => by cases e) (some ad') m _ (row.map (Value.int .i64)) rfl (by have := HROW.out; rw [List.length_map]; omega) (fun e => by cases e) (HRD.out.alloc _).cells (one_ints _) (by unfold maxLen; omega) (by omega) (by simp) ?_; intro g3 cap3 w3 hown3 hg3 hat3 hlt3; simp only [Nat.zero_add, List.nil_append] at hown3; have z3 := hg3.size; have hb3 : Below U.heap.size U w3 := ((Below.refl _ U).alloc (Nat.le_refl _) _).grown hg3 (by simp) (fun j e => by cases e; exact Nat.le_refl _); have hc3 : w3.cell? (ac.add q) = some (.int .i64 z) := (hb3.cell hacl).trans hcc; have G3 := (hown3.lt g3 rfl).1; have hkr : k < row.length := (by have := HROW.out; omega); have f3 : w3.frozen? ⟨g3, k, none⟩ = false := own_free hown3 k; have d3 : w3.cell? ⟨g3, k, none⟩ = some (.int .i64 (row[k]'hkr)) := own_cell hown3 k _ (by simp [List.getElem?_eq_getElem hkr]); have HW3 := Lib.hid hown3; have HB3 := Lib.hid hb3; clear hown3 hg3 hb3)
        | (at_builtin; refine list_app1 rfl (.tmp 29) (.tmp 31) _ _ _ 24 und_rows inf_ints rfl rfl w.heap.size u7 q vs _ rfl (own_below (own_below HO3.out (HB3.out.setCell (p := ⟨g3, k, none⟩) G3 _)) (by exact (Below.refl _ _).alloc (Nat.le_refl _) _)) _ 1 rfl (cell_new1b _ _ _ _ (by simp)) rfl (by unfold maxLen; omega) (by omega) (by have := HB3.out.size; simp; omega) ?_; intro g5 cap5 w5 hown5 hg5 hat5 hlt5; have z5 := hg5.size; have HW5 := Lib.hid hown5; have HG5 := Lib.hid hg5; clear hown5 hg5))
      go_roundw
      case rel =>
        have hb4 : Below U.heap.size U ((w3.setCell ⟨g3, k, none⟩ (.int .i64 z)).alloc (.cells #[.slice (some ⟨g3, 0, none⟩) m cap3] 22)) := (HB3.out.setCell (p := ⟨g3, k, none⟩) G3 _).alloc (by have := HB3.out.size; simp; omega) _
        have hlen : (row.set k z).length = m := by rw [List.length_set]; exact HROW.out
        have hr4 : Rd (w3.setCell ⟨g3, k, none⟩ (.int .i64 z)) (some ⟨g3, 0, none⟩) cap3 (row.set k z) := Rd.of_own (base := U.heap.size) (e := 2) (by rw [hlen]; exact own_set HW3.out k z) (by omega)
        have hp := RowsOwn.push (rs := (List.range q).map fun i => (l.getD i []).set k (col.getD i 0)) HO1.out HO2.out
          (fun j hj => by
            obtain ⟨a1, a2, a3, a4, a5⟩ := HO4.out j hj
            exact ⟨a1, a2, a3, a4.below hb4, a5⟩) (hr4.below ((Below.refl _ _).alloc (Nat.le_refl _) _)) (fun _ ad e => by
            cases e
            intro he
            have := (HO3.out.lt g3 he.symm).2
            omega) (by rw [hlen]; exact HW5.out) HG5.out (by simpa using hat5)
        have hel : ((List.range q).map fun i => (l.getD i []).set k (col.getD i 0)) ++ [row.set k z] = (List.range (q + 1)).map fun i => (l.getD i []).set k (col.getD i 0) := by
          rw [List.range_succ, List.map_append, ← HQE.out, ← HZ.out]; rfl
        rw [hel] at hp
        exact ⟨q + 1, by omega, by go_num, hp, (HB.out.trans (hb4.mono zB)).grown HG5.out (by have := hb4.size; omega) (own_ge HO3.out (Nat.le_refl _))⟩
      case measure => simp [intOf]; omega
    · obtain rfl : q = m := by omega
      have hO := HO.out
      obtain ⟨A6, c6, hv6, hR6⟩ := hO.reads (by omega)
      subst hv6
      have HR6 := Lib.hid hR6
      have hpl : (putF l k col).length = q := by unfold putF; have := HL.out; simpa using this
      have hpe : ((List.range q).map fun i => (l.getD i []).set k (col.getD i 0)) = putF l k col := by unfold putF; rw [HL.out]
      have HPL := Lib.hid hpl
      have HPE := Lib.hid hpe
      clear hO hR6 hpl hpe
      go_wp2_with fail
      go_ret
      exact ⟨A6, c6, by rw [HPL.out]; rfl, by rw [← HPE.out]; exact HR6.out, (by (repeat (any_goals (first | exact Below.refl _ _ | exact HB.out | refine below_drewN ?_ _ | refine Below.drew ?_ | refine Below.alloc ?_ ?_ _ | refine Below.setCell ?_ ?_ _ | refine Below.trans ?_ (Below.mono HB.out ?_)))); all_goals (first | omega | (simp; done) | (simp; omega) | ((try have z0 := HB.out.size); (try simp at z0); (try simp); omega)))⟩
end Go.Proofs.Ytjcdkbalhleeeab

namespace Go.Proofs.Ytjcdkbalhleeeab

theorem dtGo_sum {f : Nat → Int} {R : List Nat → Int} : ∀ (cs pre : List Nat) (s : Int), dtGo f R pre s cs = sumN (fun k => s * sg k * f (cs.getD k 0) * R (pre ++ (cs.take k ++ cs.drop (k + 1)))) cs.length
  | [], _, _ => rfl
  | c :: cs, pre, s => by
    rw [dtGo, dtGo_sum cs, List.length_cons, Nat.add_comm, sumN_split]
    have e1 : sumN (fun k => s * sg k * f ((c :: cs).getD k 0) * R (pre ++ ((c :: cs).take k ++ (c :: cs).drop (k + 1)))) 1 = s * f c * R (pre ++ cs) := by
      simp [sumN, sg]
    rw [e1]
    congr 1
    refine sumN_congr fun i _ => ?_
    rw [Nat.add_comm 1 i]
    simp only [sg, List.getD_cons_succ, List.take_succ_cons, List.drop_succ_cons, List.cons_append]
    rw [show pre ++ c :: (cs.take i ++ cs.drop (i + 1)) = pre ++ [c] ++ (cs.take i ++ cs.drop (i + 1)) by simp]
    grind
theorem detF_dt (A : Nat → Nat → Int) : ∀ (n : Nat) (rs cs : List Nat), rs.length = n → cs.length = n → detF n (rs.map fun r => cs.map fun c => A r c) = dt A rs cs
  | 0, rs, cs, h, _ => by
    obtain rfl : rs = [] := List.eq_nil_of_length_eq_zero h
    rfl
  | n + 1, [], cs, h, _ => by simp at h
  | n + 1, r :: rs, cs, h1, h2 => by
    rw [dt, dtGo_sum, detF, h2]
    refine sumN_congr fun k hk => ?_
    have hkc : k < cs.length := by omega
    have e1 : ((((r :: rs).map fun r => cs.map fun c => A r c).getD 0 []).getD k 0) = A r (cs.getD k 0) := by
      simp [List.getD, List.getElem?_eq_getElem hkc]
    have e2 : mino ((r :: rs).map fun r => cs.map fun c => A r c) k = rs.map fun r => (cs.take k ++ cs.drop (k + 1)).map fun c => A r c := by
      unfold mino
      simp only [List.map_cons, List.drop_succ_cons, List.drop_zero, List.map_map]
      apply List.map_congr_left
      intro x _
      simp [List.map_take, List.map_drop]
    rw [e1, e2, detF_dt A n rs _ (by simpa using h1) (by rw [List.length_append, List.length_take, List.length_drop]; omega)]
    simp [Int.one_mul]
/-- A square of numbers as rows. -/
def sq (A : Nat → Nat → Int) (m : Nat) : List (List Int) := (List.range m).map fun i => (List.range m).map fun j => A i j
theorem detF_sq (A : Nat → Nat → Int) (m : Nat) : detF m (sq A m) = dtm A m := by
  unfold sq dtm
  exact detF_dt A m _ _ (by simp) (by simp)
theorem putF_sq (A : Nat → Nat → Int) {m k : Nat} (col : List Int) (hc : ∀ i, i < m → col.getD i 0 = A i m) : detF m (putF (sq A m) k col) = dtp A m k m := by
  have e : putF (sq A m) k col = (List.range m).map fun i => ((List.range m).set k m).map fun j => A i j := by
    unfold putF
    rw [show (sq A m).length = m by simp [sq]]
    apply List.map_congr_left
    intro i hi
    have hi' : i < m := by simpa using hi
    rw [hc i hi', List.map_set]
    congr 1
    simp [sq, List.getD, hi']
  rw [e]
  unfold dtp
  exact detF_dt A m _ _ (by simp) (by simp)
theorem sq_small {A : Nat → Nat → Int} {m : Nat} (h : Small A m) : SmallR (sq A m) := by
  intro r hr
  simp only [sq, List.mem_map] at hr
  obtain ⟨i, _, rfl⟩ := hr
  rw [smallB_iff]
  intro n hn
  simp only [List.mem_map] at hn
  obtain ⟨j, _, rfl⟩ := hn
  exact (h i j).1
theorem putF_small {l : List (List Int)} {k : Nat} {col : List Int} (h : SmallR l) (hc : smallB 400 col = true) : SmallR (putF l k col) := by
  intro r hr
  simp only [putF, List.mem_map] at hr
  obtain ⟨i, hi, rfl⟩ := hr
  rw [smallB_iff]
  intro n hn
  rcases List.mem_or_eq_of_mem_set hn with q | q
  · by_cases hil : i < l.length
    · have e : l.getD i [] = l[i] := by simp [List.getD, List.getElem?_eq_getElem hil]
      rw [e] at q
      exact smallB_mem (h _ (List.getElem_mem hil)) q
    · simp at hi; omega
  · rw [q]
    by_cases hj : i < col.length
    · have := smallB_at hc hj; simpa [List.getD, List.getElem?_eq_getElem hj] using this
    · simp [List.getD, List.getElem?_eq_none (Nat.le_of_not_lt hj)]
end Go.Proofs.Ytjcdkbalhleeeab
