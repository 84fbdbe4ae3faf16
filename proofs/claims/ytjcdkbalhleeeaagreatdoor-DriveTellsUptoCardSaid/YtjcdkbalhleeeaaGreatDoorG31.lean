/-
  Contracts of functions and plain laws that later parts of the proof use. The conditions stand in each theorem.
-/
import Derived.Test.YtjcdkbalhleeeaaGreatDoorG06
import Derived.Test.YtjcdkbalhleeeaaGreatDoorG28
import Derived.Test.YtjcdkbalhleeeaaGreatDoorG11
import Derived.Deep.RegionLaw
import Derived.Deep.DeepCutAuto
import Derived.RegionTactic
namespace Go.Proofs.YtjcdkbalhleeeaaGreatDoor
open Go.Proofs Go.RowKit
open Go.Lib (itoa join)
theorem step_callR {P : Program} {ops : Array Oper} {K : Act → World → Prop} {E' : Prop} {o : Oper} {a : Act} {w : World} {Q : Exit → Act → World → Prop} (hg : o.guard = none) {f : FuncId} {args : Array Value} {R : Value → World → Prop}
    (hrun : (execOp a.eval o).run P w = .ok (.enter f args) w) (hc : Calls P f args w fun e w' => ∃ v, e = .returned v ∧ R v w') (hK : ∀ v w', R v w' → K (a.put o.dst v) w') :
    if Region.wanted o (yielded ops a.tmps) = true then Oper.wp P o a w K Q else E' := by
 rw [if_pos (by simp [Region.wanted, hg])]
 unfold Oper.wp
 rw [hrun, Oper.upon_enter]
 exact hc.mono (by rintro _ _ ⟨v, rfl, h⟩; exact hK v _ h)
theorem step_appS {ops : Array Oper} {K : Act → World → Prop} {E' : Prop} {o : Oper} {a : Act} {w : World} {Q : Exit → Act → World → Prop} (hgd : o.guard = none) (s x : Operand)
    (ho : o.op = .call { callee := .builtin .append, args := #[s, x], argTypes := #[22, 22] })
    (base : Nat) (v : Value) (n : Nat) (xs : List Value) (u1 u2 : ByteArray) (hs : a.eval s = v) (hown : w.ownsRow base 9 1 v n xs)
    (b c : Nat) (hx : a.eval x = .slice (some ⟨b, 0, none⟩) 2 c) (hb : Blk w b 9 #[.string u1, .string u2])
    (hn : n ≤ 1000) (hbase : base ≤ w.heap.size)
    (h : ∀ g cap w', w'.ownsRow base 9 1 (.slice (some ⟨g, 0, none⟩) (n + 2) cap) (n + 2) (xs ++ [.string u1, .string u2]) → w.grownBy w' v.ownBlock → (v.ownBlock = some g ∨ g = w.heap.size) → g < w'.heap.size → K (a.put o.dst (.slice (some ⟨g, 0, none⟩) (n + 2) cap)) w') :
    if Region.wanted o (yielded ops a.tmps) = true then Oper.wp Tryz.prog o a w K Q else E' := by
 obtain ⟨i, hi, hz0, hz1, hz2⟩ := info_parts inf_str
 refine step_append_lies w hgd s x 22 ho base 9 i _ 1 16 und_strs hi hz0 hz1 hz2 rfl (by omega) v n xs hs hown ⟨b, 0, none⟩ 2 c [.string u1, .string u2] hx rfl ?_ (by simp; exact ⟨rfl, rfl⟩) (by omega) (by unfold maxLen; omega) (by omega) hbase _ rfl h
 intro j u hu
 rw [addzG, hb.cell]
 simpa using hu
theorem own_lit (w : World) (base : Nat) (e : TypeId) (u : Value) (g : Nat) (hg : g = w.heap.size) (hb : base ≤ g) : (w.alloc (.cells #[u] e)).ownsRow base e 1 (.slice (some ⟨g, 0, none⟩) 1 1) 1 [u] := by
 subst hg
 exact ⟨by simp, Or.inr ⟨_, 1, _, rfl, hb, heap_alloc_new w _, Nat.le_refl _, by unfold maxLen; omega, by simp, by simp⟩⟩
def prtV (p : PG) : Value := .tuple #[strV (if mayPB p = true then textF p else []), .int .i64 (if mayPB p = true then 0 else 2)]
set_option maxRecDepth 100000 in
set_option maxHeartbeats 2000000 in
theorem text_Print (A : Option Addr) (c : Nat) (A2 : Option Addr) (c2 : Nat) (p : PG) (w : World) (hp : Pg w A c A2 c2 p) (ht : Tab w) :
    Calls Tryz.prog 19 #[.agg #[.slice A p.costs.length c, .slice A2 p.rows.length c2]] w fun e w' => e = .returned (prtV p) ∧ Below w.heap.size w w' := by
 have HP := h_ hp
 have HT := h_ ht
 obtain ⟨⟨hl, hc, hsm, _⟩, ⟨hl2, hc2, hsm2, _⟩⟩ := hp
 clear ht
 go_enter Tryz.func19, Tryz.ntmps19
 go_wp2_with fail
 have BP := h_ (Blk.mk' w 28 #[.slice A p.costs.length c, .slice A2 p.rows.length c2])
 have HBU := h_ ((Below.refl w.heap.size w).alloc (Nat.le_refl _) (.cells #[.slice A p.costs.length c, .slice A2 p.rows.length c2] 28))
 generalize (w.alloc (.cells #[.slice A p.costs.length c, .slice A2 p.rows.length c2] 28)) = U at *
 have zU := HBU.out.size
 have lU := BP.out.lt
 refine (layout_May _ _ _ _ p _ (HP.out.below HBU.out)).mono ?_
 rintro e w1 ⟨rfl, hb1⟩
 have H1 := h_ (HBU.out.trans (hb1.mono zU))
 have B1 := h_ (BP.out.next hb1)
 clear hb1
 cases hm : mayPB p with
 | false =>
  go_wp2_with fail
  refine bodyPost_ret (v := .tuple #[.string (bs []), .int .i64 2]) ?_ ?_ ?_
  ·simp [results, Tryz.results19, go_sem]; rfl
  ·rfl
  ·exact ⟨by rw [prtV, if_neg (by simp [hm]), if_neg (by simp [hm])], H1.out⟩
 | true =>
  have HM := h_ hm
  have hp4 := mayPB_iff.1 hm
  have z01 := H1.out.size
  have z11 := B1.out.lt
  go_upto_region 5 with fail
  have HBl : Bld w1.heap.size [] (w1.alloc (.cells #[.pointer none, .slice none 0 0] 105)) := Lib.fresh_isBuilder _ _ w1
  have HBl := h_ HBl
  have HV := h_ ((Below.refl w1.heap.size w1).alloc (Nat.le_refl _) (.cells #[.pointer none, .slice none 0 0] 105))
  generalize (w1.alloc (.cells #[.pointer none, .slice none 0 0] 105)) = V at *
  have zV := HV.out.size
  have lV := HBl.out.lt
  have HLV := h_ ((Below.refl V.heap.size V).alloc (Nat.le_refl _) (.cells #[.string { data := #[109, 111, 115, 116] }] 9))
  have HOW := h_ (own_lit V V.heap.size 9 (.string { data := #[109, 111, 115, 116] }) V.heap.size rfl (Nat.le_refl _))
  have HWV := h_ (H1.out.trans (HV.out.mono z01))
  have b0 : (V.alloc (.cells #[.string { data := #[109, 111, 115, 116] }] 9)).cell? ⟨w.heap.size, 0, none⟩ = some (.slice A p.costs.length c) := ((B1.out.next HV.out).alloc _).cell 0
  have b1 : ∀ u, Below V.heap.size V u → u.cell? ⟨w.heap.size, 1, none⟩ = some (.slice A2 p.rows.length c2) := fun u hu => ((B1.out.next HV.out).next hu).cell 1
  have hs400 : smallB 999999 p.costs = true := small_more hp4.2.2.2.2.1 (by decide)
  go_wp2_with (first
   | (go_at_call 43; refine (text_words A p.costs c _ ((HP.out.costs.below HWV.out).alloc _) hs400 (by omega) ((HT.out.below HWV.out).below HLV.out)).mono ?_; rintro e w2 ⟨v, rfl, hown, hb2⟩; obtain ⟨A3, c3, rfl, hSd, had, hnone⟩ := Sd.of_own hown (by simp); rw [List.length_map] at hnone)
   | (at_builtin; refine list_appG rfl (.tmp 13) (.tmp 16) 22 9 (.string ByteArray.empty) 16 und_strs inf_str rfl rfl V.heap.size (.slice (some ⟨V.heap.size, 0, none⟩) 1 1) 1 _ rfl (own_below HOW.out hb2) (by simp) A3 p.costs.length c3 ((p.costs.map itoa).map strV) rfl (by simp) hnone hSd.cells strs_one (by unfold maxLen; omega) (by omega) (by have := hb2.size; simp at this; omega) ?_; intro g cap w5 hown5 hg5 hat5 hlt5))
  have z2 := hb2.size
  have HV5 := h_ (show Below V.heap.size V w5 from (HLV.out.trans (hb2.mono (by simp))).grown hg5 (by simp at z2; omega) (by intro k hk; simp [Value.ownBlock] at hk; omega))
  have HS5 := h_ (Sd.of_own' (l := mostW :: p.costs.map itoa) hown5 (by simp; omega))
  have HB5 := h_ (HBl.out.below HV5.out)
  have hcl := costL_len hp4.2.2.2.2.1 hp4.2.1
  have := text_put g 0 cap (mostW :: p.costs.map itoa) w1.heap.size [] w5 HS5.out (by simp) HB5.out (by show 0 + ((costL p.costs).length + 1) ≤ _; omega) (by simp; omega)
  rw [show (mostW :: p.costs.map itoa).length = 1 + p.costs.length by simp; omega, show join (mostW :: p.costs.map itoa) [32] ++ [10] = costT p.costs from (costT_eq _).symm, List.nil_append] at this
  refine this.mono ?_
  rintro e w6 ⟨rfl, hbl6, hb6⟩
  have b1' : w6.cell? ⟨w.heap.size, 1, none⟩ = some (.slice A2 p.rows.length c2) := (hb6.cell (by exact z11)).trans (b1 _ HV5.out)
  have HW6 := h_ (HWV.out.trans ((HV5.out.mono (by omega)).trans (hb6.mono (by omega))) : Hid (Below w.heap.size w w6))
  have HL6 := h_ hbl6
  clear this hbl6 hb6 hown5 hg5 hat5 hlt5 hown hSd had hnone hb2 b0 b1
  go_wp2_with fail
  go_loopw [22] (fun i wx => ∃ (k : Nat), k ≤ p.rows.length ∧ i = .int .i64 k ∧ Bld w1.heap.size (costT p.costs ++ ((p.rows.take k).map rowT).flatten) wx ∧ Below w.heap.size w wx) (fun i _ => p.rows.length - (intOf i).toNat)
  case atStart => exact ⟨0, by omega, rfl, by simpa using HL6.out, HW6.out⟩
  case round =>
   obtain ⟨k, hk, rfl, hbl, hbel⟩ := hrel
   rename World => U1
   have HB1 := h_ hbl
   have HU1 := h_ hbel
   have zU1 := hbel.size
   clear hbl hbel b1'
   by_cases hlt : k < p.rows.length
   ·obtain ⟨ad, A', c', e0, q1, q2, q3⟩ := (HP.out.rows.below HU1.out).at_ hlt
    subst e0
    have hrow := mayPB_row hm hlt
    have hi0 : (k : Int) < (p.rows.length : Int) := by omega
    have HRT := h_ (rowsT_take hlt)
    have hlen := rowsT_len hm k hk
    have hcln := costT_len hp4.2.2.2.2.1 hp4.2.1
    have hrl := rowL_len hrow.2.2 hrow.2.1 (by omega)
    have HRL := h_ (show rowL p.rows[k] = join ((p.rows[k]).1.map itoa ++ [leW, itoa (p.rows[k]).2]) [32] from rfl)
    obtain ⟨hr1, hr2, hr3⟩ := hrow
    rw [hr1] at q1
    have HR3 := h_ q3
    have hs12 : smallB 999999 (p.rows[k]).1 = true := small_more hr3 (by decide)
    have HS12 := h_ hs12
    have HLN := h_ hr1
    clear hr3 hs12 q3 hr1
    generalize (p.rows[k]).1 = ro at *
    generalize (p.rows[k]).2 = rm at *
    generalize rowL p.rows[k] = RL at *
    go_upto_region 9 with fail
    have BR := h_ (Blk.mk' U1 91 #[.slice A' p.costs.length c', .int .i64 rm])
    have HU2 := h_ ((Below.refl U1.heap.size U1).alloc (Nat.le_refl _) (.cells #[.slice A' p.costs.length c', .int .i64 rm] 91))
    generalize (U1.alloc (.cells #[.slice A' p.costs.length c', .int .i64 rm] 91)) = U2 at *
    have zU2 := HU2.out.size
    have lU2 := BR.out.lt
    have HWU2 := h_ (HU1.out.trans (HU2.out.mono zU1))
    have HWD := h_ (show Calls Tryz.prog 43 #[.slice A' p.costs.length c'] U2.drew (fun e w' => ∃ v, e = .returned v ∧ w'.ownsRow U2.heap.size 9 1 v p.costs.length ((ro.map itoa).map strV) ∧ Below U2.heap.size U2 w') from by
     have := text_words A' ro c' U2.drew ((HR3.out.below HU2.out).drew) HS12.out (by rw [HLN.out]; omega) ((HT.out.below HWU2.out).below (Below.refl _ _).drew)
     rw [HLN.out] at this
     exact this.mono fun e w' ⟨v, h1, h2, h3⟩ => ⟨v, h1, h2, ((Below.refl _ _).drew).trans h3⟩)
    have HFI := h_ (show ∀ u, Below U2.heap.size U2 u → Calls Tryz.prog 44 #[.int .i64 rm, .int .i64 10] u (fun e w' => ∃ v, e = .returned v ∧ v = .string (bs (itoa rm)) ∧ Below u.heap.size u w') from fun u hu =>
     (format_int rm (by omega) (by omega) u ((HT.out.below HWU2.out).below hu)).mono fun e w' ⟨h1, h2⟩ => ⟨_, h1, rfl, h2⟩)
    have HPUT := h_ (show ∀ g cap u, u.ownsRow U2.heap.size 9 1 (.slice (some ⟨g, 0, none⟩) (p.costs.length + 2) cap) (p.costs.length + 2) ((ro.map itoa).map strV ++ [.string { data := #[60, 61] }, .string (bs (itoa rm))]) → Below U2.heap.size U2 u →
        Calls Tryz.prog 40 #[.slice (some ⟨g, 0, none⟩) (p.costs.length + 2) cap, .pointer (some ⟨w1.heap.size, 0, none⟩)] u (fun e w' => ∃ v, e = .returned v ∧ v = .tuple #[] ∧ Bld w1.heap.size (costT p.costs ++ ((p.rows.take k).map rowT).flatten ++ (RL ++ [10])) w' ∧ Below w1.heap.size u w') from fun g cap u ho hu => by
     have hS := Sd.of_own' (l := ro.map itoa ++ [leW, itoa rm]) (by rw [List.map_append]; exact ho) (by simp [HLN.out])
     have := text_put g 0 cap (ro.map itoa ++ [leW, itoa rm]) w1.heap.size _ u hS (by simp) ((HB1.out.below HU2.out).below hu) (by rw [← HRL.out, List.length_append]; omega) (by simp [HLN.out]; omega)
     rw [← HRL.out, show (ro.map itoa ++ [leW, itoa rm]).length = p.costs.length + 2 by simp [HLN.out]] at this
     exact this.mono fun e w' ⟨h1, h2, h3⟩ => ⟨_, h1, rfl, h2, h3⟩)
    have d0 := BR.out.cell 0
    have d1 := BR.out.cell 1
    have D1 := h_ (show ∀ u, Below U2.heap.size U2 u → u.cell? ⟨U1.heap.size, 1, none⟩ = some (.int .i64 rm) from fun u hu => (BR.out.next hu).cell 1)
    simp at d0 d1
    go_region_law (first
     | (refine step_callR (f := 43) (R := fun v w' => w'.ownsRow U2.heap.size 9 1 v p.costs.length ((ro.map itoa).map strV) ∧ Below U2.heap.size U2 w') rfl (by go_simp; done) HWD.out ?_; rintro v w2 ⟨hown2, hb2⟩; have d2 := D1.out _ hb2)
     | (refine step_callR (f := 44) (R := fun v w' => v = .string (bs (itoa rm)) ∧ Below w2.heap.size w2 w') rfl (by go_simp; done) (HFI.out _ hb2) ?_; rintro v3 w3 ⟨rfl, hb3⟩)
     | (refine step_appS rfl (.tmp 29) (.tmp 33) rfl U2.heap.size v p.costs.length _ _ _ (by simp [Act.eval]) (own_below hown2 (hb3.alloc hb3.size _)) _ 2 (by simp [Act.eval]) (Blk.mk' _ _ _) (by omega) (by have := hb2.size; have := hb3.size; simp; omega) ?_; intro g cap w5 hown5 hg5 hat5 hlt5; have hb5 : Below U2.heap.size U2 w5 := ((hb2.trans (hb3.mono hb2.size)).alloc (by have := hb2.size; have := hb3.size; omega) _).grown hg5 (by have := hb2.size; have := hb3.size; simp; omega) (own_ge hown2 (Nat.le_refl _)))
     | (refine step_callR (f := 40) (R := fun v w' => v = .tuple #[] ∧ Bld w1.heap.size (costT p.costs ++ ((p.rows.take k).map rowT).flatten ++ (RL ++ [10])) w' ∧ Below w1.heap.size w5 w') rfl (by go_simp; done) (HPUT.out _ _ _ hown5 hb5) ?_; rintro v6 w6 ⟨rfl, hbl6, hb6⟩))
    all_goals
     have HB5 := h_ hb5
     have HB6 := h_ hbl6
     have HBB6 := h_ hb6
     clear hb5 hbl6 hb6
     go_wp2_with fail
     go_roundw
     case rel => exact ⟨k + 1, by omega, by go_num, by rw [HRT.out, ← List.append_assoc]; exact HB6.out, HWU2.out.trans ((HB5.out.mono (by omega)).trans (HBB6.out.mono (by omega)))⟩
     case measure => simp [intOf]; omega
   ·obtain rfl : k = p.rows.length := by omega
    have hd : decide ((p.rows.length : Int) < (p.rows.length : Int)) = false := by simp
    have HST := h_ (builder_string _ _ _ HB1.out)
    go_wp2_with (go_at_call 45; refine HST.out.mono ?_; rintro e w7 ⟨rfl, hb7⟩)
    refine bodyPost_ret (v := prtV p) ?_ ?_ ?_
    ·simp [results, Tryz.results19, go_sem, prtV, hm, textF]
    ·rfl
    ·exact ⟨rfl, HU1.out.trans (hb7.mono (by omega))⟩
end Go.Proofs.YtjcdkbalhleeeaaGreatDoor
