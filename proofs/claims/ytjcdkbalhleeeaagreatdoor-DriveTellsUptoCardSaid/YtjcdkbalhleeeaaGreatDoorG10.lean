/-
  Contracts of functions and plain laws that later parts of the proof use. The conditions stand in each theorem.
-/
import Derived.Test.YtjcdkbalhleeeaaGreatDoorG06
import Derived.Test.YtjcdkbalhleeeaaGreatDoorG09
import Derived.Shelf.SlSortCmp.QuietGrown
import Derived.Shelf.Small.Bits
import Derived.Deep.DeepCutAuto
namespace Go.Proofs.YtjcdkbalhleeeaaGreatDoor
open Go.Shelf Go.RowKit Go.Lib Go.Sort
variable {P : Program} {ρ : Ren} {α : Type} [Inhabited α] {lt : α → α → Bool}
variable {enc : α → List Value} {k : Nat} {cf : α → α → Int} {g : Nat} {cb : Array Value} {blk off n : Nat} {d0 : Array α} {w0 : World}
structure Rnd (lt : α → α → Bool) (enc : α → List Value) (k : Nat) (w0 : World) (blk off n a b limit : Nat) (d : Array α) (x a' b' lim : Nat) (dk : Array α) (wr : World) : Prop where
 ab : a' ≤ b'
 bn : b' ≤ n
 bx : b' - a' ≤ x
 xa : x ≤ b - a
 li : lim ≤ limit
 sz : dk.size = n
 fi : Fine lt dk
 be : Below lt a' b' dk
 sw : SWK enc k w0 blk off dk wr
 en : ∀ d', PermIn a' b' dk d' → SortedIn lt a' b' d' → PermIn a b d d' ∧ SortedIn lt a b d'
theorem Rnd.give {a b limit : Nat} {d : Array α} {x a' b' lim : Nat} {dk : Array α} {wr : World} {s1 s2 s3 s8 s9 : Value} (h : Rnd lt enc k w0 blk off n a b limit d x a' b' lim dk wr) (wb wp : Bool)
    (h1 : s1 = .int .i64 a') (h2 : s2 = .int .i64 b') (h3 : s3 = .int .i64 lim) (h8 : s8 = .bool wb) (h9 : s9 = .bool wp) :
    ∃ (a' b' lim : Nat) (wb wp : Bool) (dk : Array α), s1 = .int .i64 a' ∧ s2 = .int .i64 b' ∧ s3 = .int .i64 lim ∧ s8 = .bool wb ∧ s9 = .bool wp ∧ Rnd lt enc k w0 blk off n a b limit d x a' b' lim dk wr :=
 ⟨a', b', lim, wb, wp, dk, h1, h2, h3, h8, h9, h⟩
structure Turn (lt : α → α → Bool) (enc : α → List Value) (k : Nat) (w0 : World) (blk off n a' b' : Nat) (dk d1 : Array α) (w : World) : Prop where
 sw : SWK enc k w0 blk off d1 w
 pe : PermIn a' b' dk d1
 sz : d1.size = n
 fi : Fine lt d1
 be : Below lt a' b' d1
theorem Turn.mk' {a' b' : Nat} {dk d1 : Array α} {w : World} (ab : a' ≤ b') (bn : b' ≤ n) (sz : dk.size = n) (fi : Fine lt dk) (be : Below lt a' b' dk) (sw : SWK enc k w0 blk off d1 w) (pe : PermIn a' b' dk d1) : Turn lt enc k w0 blk off n a' b' dk d1 w :=
 ⟨sw, pe, pe.1.trans sz, fi.perm pe ab (by rw [sz]; exact bn), be.perm (by rw [sz]; exact bn) pe⟩
set_option linter.unusedVariables false in
theorem less_cf (hE : Alike (ltOf cf) lt) {d : Array α} (hF : Fine lt d) {a b p : Nat} (h0 : 0 < a) (h1 : a ≤ p) (h2 : p < b) (hb : b ≤ d.size) (hO : SWO lt) (hB : Below lt a b d) : cf d[a - 1]! d[p]! < 0 := by
 have q : lt d[p]! d[a - 1]! = false := by
  rcases hB with h | h
  ·omega
  ·exact h p h1 h2
 have t : lt d[a - 1]! d[p]! = true := by
  rcases hF.tot (i := a - 1) (j := p) (by omega) (by omega) (by omega) with h | h
  ·exact h
  ·rw [q] at h; cases h
 have := hF.no.les hE (i := a - 1) (j := p) (by omega) (by omega) (by omega)
 rw [t] at this
 exact of_decide_eq_true this
set_option maxHeartbeats 25600000 in
set_option maxRecDepth 1000000 in
theorem srt_pdq (L : SlLaysF0.n14 P ρ) (C : Cx P ρ enc k cf g cb blk off n d0 w0) (hO : SWO lt) (hE : Alike (ltOf cf) lt) (cap : Nat) :
    ∀ (N a b limit : Nat) (d : Array α) (w : World), b - a < N → d.size = n → Fine lt d → SWK enc k w0 blk off d w → a ≤ b → b ≤ n → limit < 4611686018427387904 → Below lt a b d →
    Calls P (ρ.f 14) #[.slice (some ⟨blk, off, none⟩) n cap, .int .i64 a, .int .i64 b, .int .i64 limit, .func (.func g) #[] cb] w fun e w' => e = .returned (.tuple #[]) ∧ ∃ d', SWK enc k w0 blk off d' w' ∧ PermIn a b d d' ∧ SortedIn lt a b d' := by
 have mixed := L.mixed; have t0 := L.t0; have a0 := L.a0; have z0 := L.z0; have v0 := L.v0; have t3 := L.t3; have a3 := L.a3; have z3 := L.z3; have v3 := L.v3; have t4 := L.t4; have a4 := L.a4; have z4 := L.z4; have v4 := L.v4; have t22 := L.t22; have a22 := L.a22; have z22 := L.z22; have v22 := L.v22; have t25 := L.t25; have a25 := L.a25; have z25 := L.z25; have v25 := L.v25
 obtain ⟨_, _, FG⟩ := L.f14
 have e14 : ∀ args w, (callFunc (ρ.f 14) args).run P w = .ok (.enter (ρ.f 14) args) w := L.f14.enters rfl
 have e20 : ∀ args w, (callFunc (ρ.f 20) args).run P w = .ok (.enter (ρ.f 20) args) w := L.f20.enters rfl
 have e21 : ∀ args w, (callFunc (ρ.f 21) args).run P w = .ok (.enter (ρ.f 21) args) w := L.f21.enters rfl
 have e22 : ∀ args w, (callFunc (ρ.f 22) args).run P w = .ok (.enter (ρ.f 22) args) w := L.f22.enters rfl
 have e23 : ∀ args w, (callFunc (ρ.f 23) args).run P w = .ok (.enter (ρ.f 23) args) w := L.f23.enters rfl
 have e24 : ∀ args w, (callFunc (ρ.f 24) args).run P w = .ok (.enter (ρ.f 24) args) w := L.f24.enters rfl
 have e25 : ∀ args w, (callFunc (ρ.f 25) args).run P w = .ok (.enter (ρ.f 25) args) w := L.f25.enters rfl
 have e26 : ∀ args w, (callFunc (ρ.f 26) args).run P w = .ok (.enter (ρ.f 26) args) w := L.f26.enters rfl
 have e27 : ∀ args w, (callFunc (ρ.f 27) args).run P w = .ok (.enter (ρ.f 27) args) w := L.f27.enters rfl
 have eg := C.eg
 have aE := C.aE
 have zE := C.zE
 have hsz := C.hsz
 have HC := h_ C.hcmp
 have HR := h_ C.R
 have HE := h_ hE
 intro N
 induction N with
 | zero => intro _ _ _ _ _ h; exact absurd h (Nat.not_lt_zero _)
 | succ N ih =>
  intro a b limit d w hN hs hF S hab hb hlimit hB0
  have IH := h_ ih
  have ST : Hid (Rnd lt enc k w0 blk off n a b limit d (b - a) a b limit d w) := h_ ⟨hab, hb, Nat.le_refl _, Nat.le_refl _, Nat.le_refl _, hs, hF, hB0, S, fun d' h1 h2 => ⟨h1, h2⟩⟩
  clear ih hs hF S hB0
  go_enter FG, SlBodyF.n14_ntmps ρ
  go_wp2
  go_loopg [1, 2, 3, 10, 11] (b - a) (fun x s1 s2 s3 s8 s9 wr => ∃ (a' b' lim : Nat) (wb wp : Bool) (dk : Array α), s1 = .int .i64 a' ∧ s2 = .int .i64 b' ∧ s3 = .int .i64 lim ∧ s8 = .bool wb ∧ s9 = .bool wp ∧
   Rnd lt enc k w0 blk off n a b limit d x a' b' lim dk wr)
  case atStart => exact ⟨a, b, limit, true, true, d, rfl, rfl, rfl, rfl, rfl, ST.out⟩
  case round =>
   obtain ⟨a', b', lim, wb, wp, dk, rfl, rfl, rfl, rfl, rfl, hI⟩ := hrel
   have HI := h_ hI
   have hab' := hI.ab
   have hbn' := hI.bn
   have hli := hI.li
   have hbx := hI.bx
   have hxa := hI.xa
   clear hI ST
   by_cases h12 : b' - a' ≤ 12
   ·have h12z : (b' : Int) - (a' : Int) ≤ 12 := by omega
    go_wp2_with (go_at_fn (ρ.f 20); refine (srt_ins { L with } C hO HE.out cap HI.out.fi HI.out.sz HI.out.sw hab' hbn').mono ?_; rintro e w1 ⟨rfl, d1, h1, h2, h3⟩; have H1 := h_ h1; have H2 := h_ h2; have H3 := h_ h3; clear h1 h2 h3)
    (try simp only [Exit.inBlock, Exit.then]); refine bodyPost_ret (results_none rfl _ _ _) rfl ?_
    exact ⟨rfl, d1, H1.out, HI.out.en d1 H2.out H3.out⟩
   ·have h12z : ¬ ((b' : Int) - (a' : Int) ≤ 12) := by omega
    by_cases hl0 : lim = 0
    ·subst hl0
     go_wp2_with (go_at_fn (ρ.f 21); refine (srt_heap { L with } C hO HE.out cap HI.out.fi HI.out.sz HI.out.sw hab' hbn').mono ?_; rintro e w1 ⟨rfl, d1, h1, h2, h3⟩; have H1 := h_ h1; have H2 := h_ h2; have H3 := h_ h3; clear h1 h2 h3)
     (try simp only [Exit.inBlock, Exit.then]); refine bodyPost_ret (results_none rfl _ _ _) rfl ?_
     exact ⟨rfl, d1, H1.out, HI.out.en d1 H2.out H3.out⟩
    ·have hl0z : ¬ ((lim : Int) = 0) := by omega
     go_upto_if 39 with fail
     go_cut [3] from 21 (fun s3 wc => ∃ (l1 : Nat) (d1 : Array α), s3 = .int .i64 l1 ∧ l1 ≤ limit ∧ Turn lt enc k w0 blk off n a' b' dk d1 wc)
     case first =>
      cases wb
      ·go_wp2_with (go_at_fn (ρ.f 22); refine (srt_break { L with } C cap HI.out.sz HI.out.sw hab' hbn').mono ?_; rintro e w1 ⟨rfl, d1, h1, h2⟩; have H1 := h_ h1; have H2 := h_ h2; clear h1 h2)
       go_meet
       case rel =>
        refine ⟨lim - 1, d1, ?_, by omega, Turn.mk' hab' hbn' HI.out.sz HI.out.fi HI.out.be H1.out H2.out⟩
        show Value.int .i64 ((lim : Int) - 1) = Value.int .i64 ((lim - 1 : Nat) : Int)
        congr 1
        omega
      ·go_wp2_with fail
       go_meet
       case rel => exact ⟨lim, dk, rfl, hli, Turn.mk' hab' hbn' HI.out.sz HI.out.fi HI.out.be HI.out.sw (permIn_refl _ _ _)⟩
     case rest =>
      obtain ⟨l1, d1, rfl, hl1, hT⟩ := hcut
      have HT := h_ hT
      clear hT
      go_upto_if 56 with (go_at_fn (ρ.f 23); refine (srt_pivot { L with } C cap HT.out.sz HT.out.sw (by omega) hbn').mono ?_; rintro e w2 ⟨p, t, rfl, hp1, hp2, h2⟩; have H2 := h_ h2; clear h2)
      go_cut [13, 14] from 21 (fun s11 s12 wc => ∃ (p : Nat) (t : Hint) (d2 : Array α), s11 = .int .i64 p ∧ s12 = .int .i64 (hintCode t) ∧ a' ≤ p ∧ p < b' ∧ Turn lt enc k w0 blk off n a' b' dk d2 wc)
      case first =>
       by_cases hh : hintCode t = 2
       ·go_wp2_with (go_at_fn (ρ.f 24); refine (srt_turn { L with } C cap HT.out.sz H2.out hab' hbn').mono ?_; rintro e w3 ⟨rfl, d3, h3, h4⟩; have H3 := h_ h3; have H4 := h_ h4; clear h3 h4)
        go_meet
        case rel =>
         refine ⟨(b' - 1) - (p - a'), .increasing, d3, ?_, rfl, by omega, by omega, Turn.mk' hab' hbn' HI.out.sz HI.out.fi HI.out.be H3.out (permIn_trans _ _ _ _ _ HT.out.pe H4.out)⟩
         congr 1
         omega
       ·go_wp2_with fail
        go_meet
        case rel => exact ⟨p, t, d1, rfl, rfl, hp1, hp2, Turn.mk' hab' hbn' HI.out.sz HI.out.fi HI.out.be H2.out HT.out.pe⟩
      case rest =>
       clear HT H2 hp1 hp2
       obtain ⟨p2, t2, d2, rfl, rfl, hp1, hp2, hT⟩ := hcut
       have HT := h_ hT
       clear hT
       go_upto_region 15 with fail
       go_cut [14, 75] from 21 (fun s12 s68 wx => ∃ q : Bool, s12 = .int .i64 (hintCode t2) ∧ s68 = .bool q ∧ Turn lt enc k w0 blk off n a' b' dk d2 wx)
       case first =>
        cases wb <;> cases wp <;> cases t2 <;>
         (simp only [hintCode]
          go_wp2_with fail
          go_meet
          exact ⟨_, rfl, rfl, HT.out⟩)
       case rest =>
        clear HT
        obtain ⟨q, rfl, rfl, hT⟩ := hcut
        have HT := h_ hT
        clear hT
        go_upto_if 75 with fail
        go_cut [] from 21 (fun wx => ∃ d3, Turn lt enc k w0 blk off n a' b' dk d3 wx)
        case first =>
         cases q
         ·go_wp2_with fail
          go_meet
          case rel => exact ⟨d2, HT.out⟩
         ·go_wp2_with (go_at_fn (ρ.f 25); refine (srt_some { L with } C hO HE.out cap HT.out.fi HT.out.sz HT.out.sw (by omega) hbn' HT.out.be).mono ?_; rintro e w4 ⟨q4, d4, rfl, h4, h5, h6⟩; have H4 := h_ h4; have H5 := h_ h5; have H6 := h_ h6; clear h4 h5 h6)
          all_goals first
           | (have hq : q4 = false := by assumption
              go_meet
              exact ⟨d4, Turn.mk' hab' hbn' HI.out.sz HI.out.fi HI.out.be H4.out (permIn_trans _ _ _ _ _ HT.out.pe H5.out)⟩)
           | (have hq : q4 = true := by assumption
              (try simp only [Exit.inBlock, Exit.then]); refine bodyPost_ret (results_none rfl _ _ _) rfl ?_
              exact ⟨rfl, d4, H4.out, HI.out.en d4 (permIn_trans _ _ _ _ _ HT.out.pe H5.out) (H6.out hq)⟩)
        case rest =>
         clear HT
         obtain ⟨d3, hT⟩ := hcut
         have HT := h_ hT
         have hd3 : d3.size = n := hT.sz
         clear hT
         have hlp : ∀ i, i < 0 → False := fun i h => by omega
         clear hlp
         rcases Nat.eq_zero_or_pos a' with ha0 | ha0
         ·have hz1 : decide ((a' : Int) > 0) = false := decide_eq_false (by omega)
          have hz2 : ¬ (0 < a') := by omega
          have hz3 : decide (0 < a') = false := decide_eq_false hz2
          have hz4 : decide ((0 : Int) < (a' : Int)) = false := decide_eq_false (by omega)
          clear ha0
          go_wp2_with fail
          go_big_region_o
          have H6 := h_ (HT.out.sw.drew)
          generalize wc.drew = w6 at H6 ⊢
          go_upto_if 125 with (go_at_fn (ρ.f 27); refine (srt_part { L with } C hO HE.out cap HT.out.fi HT.out.sz H6.out hp1 hp2 hbn' HT.out.be).mono ?_; rintro e w7 ⟨mid, q7, d7, rfl, h7, g7⟩; have H7 := h_ h7; have hm1 := g7.1; have hm2 := g7.2.1; have G7 := h_ g7; clear h7 g7)
          have hs7 : d7.size = n := G7.out.2.2.1.1.trans hd3
          have F7 := h_ (HT.out.fi.perm G7.out.2.2.1 hab' (by omega))
          by_cases h4 : mid - a' < b' - mid
          ·have h4z : (mid : Int) - (a' : Int) < (b' : Int) - (mid : Int) := by omega
           have HI2 := h_ (IH.out a' mid l1 d7 w7 (by omega) hs7 F7.out H7.out (by omega) (by omega) (by omega) G7.out.2.2.2.1)
           go_wp2_with (go_at_fn (ρ.f 14); refine HI2.out.mono ?_; rintro e w8 ⟨rfl, d8, h8, p8, s8⟩; have H8 := h_ h8; have P8 := h_ p8; have S8 := h_ s8; clear h8 p8 s8)
           have HRN := h_ (show Rnd lt enc k w0 blk off n a b limit d (b' - (mid + 1)) (mid + 1) b' l1 d8 w8 from by
            have q := G7.out.2.2.2.2.2.1 d8 P8.out S8.out
            refine ⟨by omega, hbn', Nat.le_refl _, by omega, hl1, P8.out.1.trans hs7, F7.out.perm P8.out (by omega) (by omega), q.1, H8.out, fun d' h1 h2 => ?_⟩
            have r := q.2 d' h1 h2
            exact HI.out.en d' (permIn_trans _ _ _ _ _ HT.out.pe r.1) r.2)
           go_roundg (b' - (mid + 1))
           case measure => omega
           case rel => exact Rnd.give HRN.out _ _ (congrArg (Value.int .i64) (Int.natCast_succ mid).symm) rfl rfl rfl rfl
          ·have h4z : ¬ ((mid : Int) - (a' : Int) < (b' : Int) - (mid : Int)) := by omega
           have hi2 := IH.out (mid + 1) b' l1 d7 w7 (by omega) hs7 F7.out H7.out (by omega) (by omega) (by omega) G7.out.2.2.2.2.1
           rw [Int.natCast_succ mid] at hi2
           have HI2 := h_ hi2
           clear hi2
           go_wp2_with (go_at_fn (ρ.f 14); refine HI2.out.mono ?_; rintro e w8 ⟨rfl, d8, h8, p8, s8⟩; have H8 := h_ h8; have P8 := h_ p8; have S8 := h_ s8; clear h8 p8 s8)
           have HRN := h_ (show Rnd lt enc k w0 blk off n a b limit d (mid - a') a' mid l1 d8 w8 from by
            have q := G7.out.2.2.2.2.2.2 d8 P8.out S8.out
            refine ⟨by omega, by omega, Nat.le_refl _, by omega, hl1, P8.out.1.trans hs7, F7.out.perm P8.out (by omega) (by omega), q.1, H8.out, fun d' h1 h2 => ?_⟩
            have r := q.2 d' h1 h2
            exact HI.out.en d' (permIn_trans _ _ _ _ _ HT.out.pe r.1) r.2)
           go_roundg (mid - a')
           case measure => omega
           case rel => exact Rnd.give HRN.out _ _ rfl rfl rfl rfl rfl
         ·obtain ⟨ap, hap⟩ : ∃ q, q + 1 = a' := ⟨a' - 1, by omega⟩
          have zap : (a' : Int) = (ap : Int) + 1 := by omega
          have hz1 : decide ((ap : Int) + 1 > 0) = true := decide_eq_true (by omega)
          have eA : ((ap : Int)).toNat = a' - 1 := by omega
          have pA : (0 : Int) ≤ (ap : Int) := by omega
          have bA : (ap : Int) < (n : Int) := by omega
          have rA : IntKind.i64.wrap ((ap : Int)) = (ap : Int) := by rw [IntKind.wrap_i64]; omega
          have eP : ((p2 : Int)).toNat = p2 := by omega
          have pP : (0 : Int) ≤ (p2 : Int) := by omega
          have bP : (p2 : Int) < (n : Int) := by omega
          have rP : IntKind.i64.wrap ((p2 : Int)) = (p2 : Int) := by rw [IntKind.wrap_i64]; omega
          have hv := less_cf HE.out HT.out.fi ha0 hp1 hp2 (by omega) hO HT.out.be
          have lA := HT.out.sw.ld HR.out (hd3.trans C.hn.symm) P (a' - 1) (by omega)
          have lP := HT.out.sw.ld HR.out (hd3.trans C.hn.symm) P p2 (by omega)
          obtain ⟨x, hx⟩ : ∃ x, d3[a' - 1]! = x := ⟨_, rfl⟩
          obtain ⟨y, hy⟩ : ∃ y, d3[p2]! = y := ⟨_, rfl⟩
          rw [hx] at lA hv
          rw [hy] at lP hv
          have hcc := HT.out.sw.cmp HC.out (hd3.trans C.hn.symm) x y
          have hd : decide (cf x y < 0) = true := decide_eq_true hv
          clear hx hy
          go_wp2_with fail
          go_quiet_grown (first | (go_at_fn g; refine Calls.grown_of (hcc _ _)))
          have H6 := h_ (HT.out.sw.grown nq osq)
          clear lA lP hcc
          generalize grow (wc.drewN nq) osq = w6 at H6 ⊢
          clear nq osq
          simp only [← zap]
          clear zap hap hz1 hd hv eA pA bA rA
          go_upto_if 125 with (go_at_fn (ρ.f 27); refine (srt_part { L with } C hO HE.out cap HT.out.fi HT.out.sz H6.out hp1 hp2 hbn' HT.out.be).mono ?_; rintro e w7 ⟨mid, q7, d7, rfl, h7, g7⟩; have H7 := h_ h7; have hm1 := g7.1; have hm2 := g7.2.1; have G7 := h_ g7; clear h7 g7)
          have hs7 : d7.size = n := G7.out.2.2.1.1.trans hd3
          have F7 := h_ (HT.out.fi.perm G7.out.2.2.1 hab' (by omega))
          by_cases h4 : mid - a' < b' - mid
          ·have h4z : (mid : Int) - (a' : Int) < (b' : Int) - (mid : Int) := by omega
           have HI2 := h_ (IH.out a' mid l1 d7 w7 (by omega) hs7 F7.out H7.out (by omega) (by omega) (by omega) G7.out.2.2.2.1)
           go_wp2_with (go_at_fn (ρ.f 14); refine HI2.out.mono ?_; rintro e w8 ⟨rfl, d8, h8, p8, s8⟩; have H8 := h_ h8; have P8 := h_ p8; have S8 := h_ s8; clear h8 p8 s8)
           have HRN := h_ (show Rnd lt enc k w0 blk off n a b limit d (b' - (mid + 1)) (mid + 1) b' l1 d8 w8 from by
            have q := G7.out.2.2.2.2.2.1 d8 P8.out S8.out
            refine ⟨by omega, hbn', Nat.le_refl _, by omega, hl1, P8.out.1.trans hs7, F7.out.perm P8.out (by omega) (by omega), q.1, H8.out, fun d' h1 h2 => ?_⟩
            have r := q.2 d' h1 h2
            exact HI.out.en d' (permIn_trans _ _ _ _ _ HT.out.pe r.1) r.2)
           go_roundg (b' - (mid + 1))
           case measure => omega
           case rel => exact Rnd.give HRN.out _ _ (congrArg (Value.int .i64) (Int.natCast_succ mid).symm) rfl rfl rfl rfl
          ·have h4z : ¬ ((mid : Int) - (a' : Int) < (b' : Int) - (mid : Int)) := by omega
           have hi2 := IH.out (mid + 1) b' l1 d7 w7 (by omega) hs7 F7.out H7.out (by omega) (by omega) (by omega) G7.out.2.2.2.2.1
           rw [Int.natCast_succ mid] at hi2
           have HI2 := h_ hi2
           clear hi2
           go_wp2_with (go_at_fn (ρ.f 14); refine HI2.out.mono ?_; rintro e w8 ⟨rfl, d8, h8, p8, s8⟩; have H8 := h_ h8; have P8 := h_ p8; have S8 := h_ s8; clear h8 p8 s8)
           have HRN := h_ (show Rnd lt enc k w0 blk off n a b limit d (mid - a') a' mid l1 d8 w8 from by
            have q := G7.out.2.2.2.2.2.2 d8 P8.out S8.out
            refine ⟨by omega, by omega, Nat.le_refl _, by omega, hl1, P8.out.1.trans hs7, F7.out.perm P8.out (by omega) (by omega), q.1, H8.out, fun d' h1 h2 => ?_⟩
            have r := q.2 d' h1 h2
            exact HI.out.en d' (permIn_trans _ _ _ _ _ HT.out.pe r.1) r.2)
           go_roundg (mid - a')
           case measure => omega
           case rel => exact Rnd.give HRN.out _ _ rfl rfl rfl rfl rfl
end Go.Proofs.YtjcdkbalhleeeaaGreatDoor

namespace Go.Proofs.YtjcdkbalhleeeaaGreatDoor
open Go.Shelf Go.RowKit Go.Lib Go.Sort
variable {P : Program} {ρ : Ren} {α : Type} [Inhabited α] {lt : α → α → Bool}
variable {enc : α → List Value} {k : Nat} {cf : α → α → Int} {g : Nat} {cb : Array Value} {blk off n : Nat} {d0 : Array α} {w0 : World}
theorem srt_sort (L : SlLaysF0.n6 P ρ) (C : Cx P ρ enc k cf g cb blk off n d0 w0) (hO : SWO lt) (hE : Alike (ltOf cf) lt) (cap : Nat) (hF : Fine lt d0) :
    Calls P (ρ.f 6) #[.slice (some ⟨blk, off, none⟩) n cap, .func (.func g) #[] cb] w0 fun e w' => e = .returned (.tuple #[]) ∧ ∃ d', SWK enc k w0 blk off d' w' ∧ PermIn 0 n d0 d' ∧ SortedIn lt 0 n d' := by
 have mixed := L.mixed; have t0 := L.t0; have a0 := L.a0; have z0 := L.z0; have v0 := L.v0; have t3 := L.t3; have a3 := L.a3; have z3 := L.z3; have v3 := L.v3; have t4 := L.t4; have a4 := L.a4; have z4 := L.z4; have v4 := L.v4; have t5 := L.t5; have a5 := L.a5; have z5 := L.z5; have v5 := L.v5; have t9 := L.t9; have a9 := L.a9; have z9 := L.z9; have v9 := L.v9; have t39 := L.t39; have a39 := L.a39; have z39 := L.z39; have v39 := L.v39; have t45 := L.t45; have a45 := L.a45; have z45 := L.z45; have v45 := L.v45; have t46 := L.t46; have a46 := L.a46; have z46 := L.z46; have v46 := L.v46; have t50 := L.t50; have a50 := L.a50; have z50 := L.z50; have v50 := L.v50; have t53 := L.t53; have a53 := L.a53; have z53 := L.z53; have v53 := L.v53; have t55 := L.t55; have a55 := L.a55; have z55 := L.z55; have v55 := L.v55; have t66 := L.t66; have a66 := L.a66; have z66 := L.z66; have v66 := L.v66; have t70 := L.t70; have a70 := L.a70; have z70 := L.z70; have v70 := L.v70; have t76 := L.t76; have a76 := L.a76; have z76 := L.z76; have v76 := L.v76; have t77 := L.t77; have a77 := L.a77; have z77 := L.z77; have v77 := L.v77; have t22 := L.t22; have a22 := L.a22; have z22 := L.z22; have v22 := L.v22; have t25 := L.t25; have a25 := L.a25; have z25 := L.z25; have v25 := L.v25
 have e14 : ∀ args w, (callFunc (ρ.f 14) args).run P w = .ok (.enter (ρ.f 14) args) w := L.f14.enters rfl
 have e15 : ∀ args w, (callFunc (ρ.f 15) args).run P w = .ok (.enter (ρ.f 15) args) w := enters_of L.f15 (by kernel_rfl) rfl
 have hsz := C.hsz
 have hlim : Lib.bitLen n < 4611686018427387904 := Nat.lt_of_le_of_lt (Lib.bitLen_le n 62 (by omega) (by omega)) (by omega)
 have hp := srt_pdq (P := P) (ρ := ρ) { L with } C hO hE cap (n + 1) 0 n (Lib.bitLen n) d0 w0 (by omega) C.hn hF (SWK.start C.R.hH) (Nat.zero_le _) (Nat.le_refl _) hlim (Or.inl rfl)
 have hl : Calls P (ρ.f 15) #[.int .u64 (n : Int)] w0 fun e w' => e = .returned (.int .i64 (Lib.bitLen n : Nat)) ∧ w' = w0 := by
  have h := Any.bits_Len (SlLaysF0.n15.bits (P := P) (ρ := ρ) { L with }) (n : Int) w0 (by omega) (by omega)
  rwa [Int.toNat_natCast] at h
 have wr : IntKind.u64.wrap (n : Int) = n := by simp [IntKind.wrap, IntKind.bits, IntKind.signed]; omega
 have HP := h_ hp
 clear hp C hF
 obtain ⟨_, _, FG⟩ := L.f6
 go_enter FG, SlBodyF.n6_ntmps ρ
 go_wp2_with (first | (go_at_fn (ρ.f 15); refine hl.mono ?_; rintro e w' ⟨rfl, rfl⟩) | (go_at_fn (ρ.f 14); refine HP.out.mono ?_; rintro e w' ⟨rfl, d', h1, h2, h3⟩; have H1 := h_ h1; have H2 := h_ h2; have H3 := h_ h3; clear h1 h2 h3))
 go_end0
 exact ⟨rfl, d', H1.out, H2.out, H3.out⟩
end Go.Proofs.YtjcdkbalhleeeaaGreatDoor
