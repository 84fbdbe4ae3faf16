/-
  Contracts of functions and plain laws that later parts of the proof use. The conditions stand in each theorem.
-/
import Derived.Test.YtjcdkbalhleeeaaGreatDoorG06
import Derived.Test.YtjcdkbalhleeeaaGreatDoorG11
import Derived.Test.YtjcdkbalhleeeaaGreatDoorG13
import Derived.Test.YtjcdkbalhleeeaaGreatDoorG01
import Derived.Shelf.SlicesE.IndexFunc
import Derived.Ground.SlgfProg
import Derived.Lib.SliceRun
namespace Go.Proofs
open Go.Shelf
def Tryz.idx6_ren : Go.Shelf.Ren := ⟨fun | 6 => 86 | n => n, fun | 22 => 25 | 23 => 2 | 25 => 125 | 3 => 3 | 0 => 0 | 4 => 4 | n => n, fun | n => n⟩
theorem Tryz.idx6 : SlLaysH.n6 Tryz.prog Tryz.idx6_ren := {
 mixed := by kernel_rfl
 f6 := ⟨Tryz.f86.name, by decide, Tryz.func86.trans (congrArg some (by kernel_rfl))⟩
 t0 := Tryz.underlying0
 a0 := Tryz.isAgg0
 z0 := Tryz.sizeOf0
 v0 := Tryz.zeroValue0
 t3 := Tryz.underlying3
 a3 := Tryz.isAgg3
 z3 := Tryz.sizeOf3
 v3 := Tryz.zeroValue3
 t4 := Tryz.underlying4
 a4 := Tryz.isAgg4
 z4 := Tryz.sizeOf4
 v4 := Tryz.zeroValue4
 t22 := Tryz.underlying25
 a22 := Tryz.isAgg25
 z22 := Tryz.sizeOf25
 v22 := Tryz.zeroValue25
 a23 := Tryz.isAgg2
 z23 := Tryz.sizeOf2
 t25 := Tryz.underlying125
 a25 := Tryz.isAgg125
 z25 := Tryz.sizeOf125
 v25 := Tryz.zeroValue125
 }
end Go.Proofs
namespace Go.Proofs.YtjcdkbalhleeeaaGreatDoor
open Go.Proofs Go.Shelf Go.RowKit Go.Lib
structure CnN (w : World) (X : Option Addr) (cx : Nat) (Y : Option Addr) (cy : Nat) (G : Option Addr) (cg : Nat) (c : CO) : Prop where
 x : Rd w X cx c.xs
 y : Rd w Y cy c.ys
 g : Rd w G cg c.gs
theorem CnN.below {w w' : World} {X : Option Addr} {cx : Nat} {Y : Option Addr} {cy : Nat} {G : Option Addr} {cg : Nat} {c : CO} (h : CnN w X cx Y cy G cg c) (hb : Below w.heap.size w w') : CnN w' X cx Y cy G cg c := ⟨h.x.below hb, h.y.below hb, h.g.below hb⟩
theorem Rd.plain {w : World} {A : Option Addr} {c : Nat} {l : List Int} (h : Rd w A c l) (h0 : 0 < l.length) : ∃ b off, A = some ⟨b, off, none⟩ ∧ ∀ j, j < l.length → w.cell? ⟨b, off + j, none⟩ = some (.int .i64 (l.getD j 0)) := by
 obtain ⟨ad, e, hc⟩ := h.cells (by simpa using h0)
 obtain ⟨b, off, sp⟩ := ad
 have h1 := hc 0 (.int .i64 (l.getD 0 0)) (by simp [List.getD, List.getElem?_eq_getElem h0])
 have hs : sp = none := by
  cases sp with
  | none => rfl
  | some s =>
   simp only [Addr.add, if_true, World.cell?] at h1
   split at h1 <;> simp at h1
 subst hs
 refine ⟨b, off, e, fun j hj => ?_⟩
 have h2 := hc j (.int .i64 (l.getD j 0)) (by simp [List.getD, List.getElem?_eq_getElem hj])
 have e2 : (⟨b, off, none⟩ : Addr).add j = ⟨b, off + j, none⟩ := by unfold Addr.add; split <;> simp_all
 rwa [e2] at h2
def inI (gs : List Int) : Int := match inZ gs with
 | some r => r
 | none => -1
theorem idxBy_find (gs : List Int) : ∀ i, Lib.idxByFrom (fun (_ : Int) y => decide (0 < y)) default gs i = match inZ gs with
 | some r => ((i + r : Nat) : Int)
 | none => -1 := by
 induction gs with
 | nil => intro i; simp [Lib.idxByFrom, inZ]
 | cons y gs ih =>
  intro i
  rw [Lib.idxByFrom]
  unfold inZ
  rw [List.findIdx?_cons]
  by_cases h : decide (0 < y) = true
  ·rw [if_pos h, if_pos h]; simp
  ·rw [if_neg h, if_neg h, ih]
   unfold inZ
   cases hh : List.findIdx? (fun n => decide (0 < n)) gs with
   | none => simp
   | some r =>
    simp only [Option.map_some]
    show ((i + 1 + r : Nat) : Int) = ((i + (r + 1) : Nat) : Int)
    congr 1; omega
theorem idx_in (gs : List Int) : Lib.idxBy (fun (_ : Int) y => decide (0 < y)) gs default = inI gs := by
 unfold Lib.idxBy inI
 rw [idxBy_find]
 cases inZ gs with
 | none => rfl
 | some r => simp
theorem in_pred (w : World) : PredAt Tryz.prog 87 #[] (Value.int .i64) (fun x => decide (0 < x)) w := fun W x hb => by
 show Calls Tryz.prog 87 #[.int .i64 x] W _
 go_enter Tryz.func87, Tryz.ntmps87
 go_wp2
 all_goals (go_ret; exact ⟨by simp_all, 0, rfl⟩)
theorem idx_plain (b off n c : Nat) (gs : List Int) (w : World) (hn : n = gs.length) (hs : gs.length ≤ 17592186044416) (hc : ∀ j, j < gs.length → w.cell? ⟨b, off + j, none⟩ = some (.int .i64 (gs.getD j 0))) :
    Calls Tryz.prog 86 #[.slice (some ⟨b, off, none⟩) n c, .func (.func 87) #[] #[]] w fun e w' => e = .returned (.int .i64 (inI gs)) ∧ ∃ q, w' = w.drewN q := by
 subst hn
 have eg : ∀ args w, (callFunc 87 args).run Tryz.prog w = .ok (.enter 87 args) w := enters_of Tryz.func87 (by kernel_rfl) rfl
 have := AnyE.slices_IndexFunc Tryz.idx6 (Value.int .i64) (fun x => decide (0 < x)) 87 #[] eg b off gs.length c gs w (in_pred w) (Nat.le_refl _) (by omega) (fun j hj => by rw [hc j hj]; simp [List.getD, List.getElem?_eq_getElem hj])
 rw [List.take_length, idx_in] at this
 exact this
set_option maxRecDepth 100000 in
theorem walk_In (X Y G : Option Addr) (cx cy cg nx ny : Nat) (xd yd gd : Int) (gs : List Int) (w : World) (hG : Rd w G cg gs) (h0 : 0 < gs.length) :
    Calls Tryz.prog 39 #[.agg #[.slice X nx cx, .int .i64 xd, .slice Y ny cy, .int .i64 yd, .slice G gs.length cg, .int .i64 gd]] w fun e w' => e = .returned (.int .i64 (inI gs)) ∧ Below w.heap.size w w' := by
 have HG := h_ hG
 have hs := hG.small
 obtain ⟨b, off, rfl, hc⟩ := hG.plain h0
 have HI := h_ (fun (u : World) (hu : Below w.heap.size w u) => idx_plain b off gs.length cg gs u rfl hs (fun j hj => by
  have := hc j hj
  exact (hu.cell (lc_ this)).trans this))
 have HN := h_ (show inI gs = inI gs from rfl)
 obtain ⟨hl, hcap, _, _⟩ := hG
 clear hc hs
 generalize inI gs = r at *
 generalize gs.length = n at *
 go_enter Tryz.func39, Tryz.ntmps39
 go_wp2_with fail
 refine (HI.out _ (by (repeat (any_goals (first | exact qR _ _ | refine below_drewN ?_ _ | refine qD ?_ | refine qA ?_ ?_ _ | refine qS ?_ ?_ _))); all_goals (first | omega | (simp; done) | (simp; omega)))).mono ?_
 rintro e w2 ⟨rfl, q, rfl⟩
 go_wp2_with fail
 go_ret
 exact ⟨rfl, (by (repeat (any_goals (first | exact qR _ _ | refine below_drewN ?_ _ | refine qD ?_ | refine qA ?_ ?_ _ | refine qS ?_ ?_ _))); all_goals (first | omega | (simp; done) | (simp; omega)))⟩
end Go.Proofs.YtjcdkbalhleeeaaGreatDoor
