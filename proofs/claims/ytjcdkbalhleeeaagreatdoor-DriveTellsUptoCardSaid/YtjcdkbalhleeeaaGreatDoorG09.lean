/-
  Contracts of functions and plain laws that later parts of the proof use. The conditions stand in each theorem.
-/
import Derived.Test.YtjcdkbalhleeeaaGreatDoorG05
import Derived.Shelf.SlSortCmp.InsertionK
import Derived.Shelf.SlSortCmp.HeapSortK
import Derived.Shelf.SlSortCmp.PivotK
import Derived.Shelf.SlSortCmp.ReverseRangeK
import Derived.Shelf.SlSortCmp.PartialInsertionK
import Derived.Shelf.SlSortCmp.BreakPatternsK
import Derived.Shelf.SlSortCmp.PartitionK
import Derived.Deep.LoopGhost
import Derived.Lib.Hide
namespace Go.Proofs.YtjcdkbalhleeeaaGreatDoor
open Go.Shelf Go.RowKit Go.Lib Go.Sort
variable {P : Program} {ρ : Ren} {α : Type} [Inhabited α]
def Fine (lt : α → α → Bool) (d : Array α) : Prop := d.toList.Pairwise fun x y => x ≠ y ∧ (lt x y = true ∨ lt y x = true)
variable {lt : α → α → Bool}
theorem Fine.perm {a b : Nat} {d d' : Array α} (h : Fine lt d) (p : PermIn a b d d') (hab : a ≤ b) (hb : b ≤ d.size) : Fine lt d' :=
 ((perm_all p hab hb).pairwise_iff (fun h => ⟨h.1.symm, h.2.symm⟩)).2 h
theorem Fine.no {d : Array α} (h : Fine lt d) : NoTwo d := NoTwo.of (h.imp And.left)
theorem Fine.tot {d : Array α} (h : Fine lt d) {i j : Nat} (hi : i < d.size) (hj : j < d.size) (hij : i ≠ j) : lt d[i]! d[j]! = true ∨ lt d[j]! d[i]! = true := by
 rw [Fine, List.pairwise_iff_getElem] at h
 rw [getElem!_pos d i hi, getElem!_pos d j hj]
 rcases Nat.lt_or_gt_of_ne hij with q | q
 ·have := (h i j (by simpa using hi) (by simpa using hj) q).2
  simpa using this
 ·have := (h j i (by simpa using hj) (by simpa using hi) q).2.symm
  simpa using this
structure Cx (P : Program) (ρ : Ren) (enc : α → List Value) (k : Nat) (cf : α → α → Int) (g : Nat) (cb : Array Value) (blk off n : Nat) (d0 : Array α) (w0 : World) : Prop where
 aE : ∀ w, (isAgg (ρ.t 24)).run P w = .ok true w
 zE : ∀ w, (Go.sizeOf (ρ.t 24)).run P w = .ok k w
 eg : ∀ args w, (callFunc g args).run P w = .ok (.enter g args) w
 hcmp : CmpLays P g cb enc k cf blk off d0.size w0
 R : RowK enc k w0 blk off d0
 hn : d0.size = n
 hsz : n < 4611686018427387904
section
variable {enc : α → List Value} {k : Nat} {cf : α → α → Int} {g : Nat} {cb : Array Value} {blk off n : Nat} {d0 : Array α} {w0 : World}
theorem srt_ins (L : SlLaysF0.n20 P ρ) (C : Cx P ρ enc k cf g cb blk off n d0 w0) (hO : SWO lt) (hE : Alike (ltOf cf) lt) (cap : Nat) {a b : Nat} {d : Array α} {w : World} (hF : Fine lt d) (hs : d.size = n) (S : SWK enc k w0 blk off d w) (hab : a ≤ b) (hb : b ≤ n) :
    Calls P (ρ.f 20) #[.slice (some ⟨blk, off, none⟩) n cap, .int .i64 a, .int .i64 b, .func (.func g) #[] cb] w fun e w' => e = .returned (.tuple #[]) ∧ ∃ d', SWK enc k w0 blk off d' w' ∧ PermIn a b d d' ∧ SortedIn lt a b d' := by
 subst hs
 have e := insertionSort_alike hE hF.no (a := a) (b := b) hb
 have q := insertionSort_holds hO d a b hab hb
 have hC : CmpLays P g cb enc k cf blk off d.size w := fun m os dk hdk x y => by
  obtain ⟨m0, os0, rfl⟩ := S
  rw [sortWorldK_on enc k w0 blk off m0 m d dk os0 os C.R.hblk hdk]
  exact C.hcmp _ _ dk (hdk.trans C.hn.symm) x y
 refine (AnyQ.insertionSortCmpFunc L k C.aE C.zE enc C.R.hk C.R.h1 cf g cb blk off cap a b d w C.eg hC (S.holds C.R.hblk C.R.hH C.hn.symm) (S.lt C.R.hblk) hab hb C.hsz).mono ?_
 rintro _ _ ⟨rfl, m, os, rfl⟩
 rw [e]
 exact ⟨rfl, _, S.on C.R.hblk m _ os q.1.1, q.1, q.2⟩
theorem srt_heap (L : SlLaysF0.n21 P ρ) (C : Cx P ρ enc k cf g cb blk off n d0 w0) (hO : SWO lt) (hE : Alike (ltOf cf) lt) (cap : Nat) {a b : Nat} {d : Array α} {w : World} (hF : Fine lt d) (hs : d.size = n) (S : SWK enc k w0 blk off d w) (hab : a ≤ b) (hb : b ≤ n) :
    Calls P (ρ.f 21) #[.slice (some ⟨blk, off, none⟩) n cap, .int .i64 a, .int .i64 b, .func (.func g) #[] cb] w fun e w' => e = .returned (.tuple #[]) ∧ ∃ d', SWK enc k w0 blk off d' w' ∧ PermIn a b d d' ∧ SortedIn lt a b d' := by
 subst hs
 have e := heapSort_alike hE hF.no hab hb
 have q := heapSort_holds hO d a b hab hb
 refine (AnyQ.heapSortCmpFunc L k C.aE C.zE enc cf g cb blk off cap a b d0 d w0 w C.eg C.hcmp C.R C.hn S hab hb C.hsz).mono ?_
 rintro _ _ ⟨rfl, h⟩
 rw [e] at h
 exact ⟨rfl, _, h, q.1, q.2⟩
theorem srt_break (L : SlLaysF0.n22 P ρ) (C : Cx P ρ enc k cf g cb blk off n d0 w0) (cap : Nat) {a b : Nat} {d : Array α} {w : World} (hs : d.size = n) (S : SWK enc k w0 blk off d w) (hab : a ≤ b) (hb : b ≤ n) :
    Calls P (ρ.f 22) #[.slice (some ⟨blk, off, none⟩) n cap, .int .i64 a, .int .i64 b, .func (.func g) #[] cb] w fun e w' => e = .returned (.tuple #[]) ∧ ∃ d', SWK enc k w0 blk off d' w' ∧ PermIn a b d d' := by
 subst hs
 refine (AnyQ.breakPatternsCmpFunc L k C.aE C.zE enc g cb blk off cap a b d0 d w0 w C.R C.hn S hab hb C.hsz).mono ?_
 rintro _ _ ⟨rfl, h⟩
 exact ⟨rfl, _, h, breakPatterns_holds d a b hab hb⟩
theorem srt_pivot (L : SlLaysF0.n23 P ρ) (C : Cx P ρ enc k cf g cb blk off n d0 w0) (cap : Nat) {a b : Nat} {d : Array α} {w : World} (hs : d.size = n) (S : SWK enc k w0 blk off d w) (hab : a < b) (hb : b ≤ n) :
    Calls P (ρ.f 23) #[.slice (some ⟨blk, off, none⟩) n cap, .int .i64 a, .int .i64 b, .func (.func g) #[] cb] w fun e w' => ∃ (p : Nat) (t : Hint), e = .returned (.tuple #[.int .i64 p, .int .i64 (hintCode t)]) ∧ a ≤ p ∧ p < b ∧ SWK enc k w0 blk off d w' := by
 subst hs
 have q := choosePivot_holds (ltOf cf) d a b hab
 refine (AnyQ.choosePivotCmpFunc L k C.aE C.zE enc cf g cb blk off cap a b d0 d w0 w C.eg C.hcmp C.R C.hn S hab hb C.hsz).mono ?_
 rintro _ _ ⟨rfl, h⟩
 exact ⟨_, _, rfl, q.1, q.2, h⟩
theorem srt_turn (L : SlLaysF0.n24 P ρ) (C : Cx P ρ enc k cf g cb blk off n d0 w0) (cap : Nat) {a b : Nat} {d : Array α} {w : World} (hs : d.size = n) (S : SWK enc k w0 blk off d w) (hab : a ≤ b) (hb : b ≤ n) :
    Calls P (ρ.f 24) #[.slice (some ⟨blk, off, none⟩) n cap, .int .i64 a, .int .i64 b, .func (.func g) #[] cb] w fun e w' => e = .returned (.tuple #[]) ∧ ∃ d', SWK enc k w0 blk off d' w' ∧ PermIn a b d d' := by
 subst hs
 refine (AnyQ.reverseRangeCmpFunc L k C.aE C.zE enc g cb blk off cap a b d0 d w0 w C.R C.hn S hab hb C.hsz).mono ?_
 rintro _ _ ⟨rfl, h⟩
 exact ⟨rfl, _, h, reverseRange_holds d a b hab hb⟩
theorem srt_some (L : SlLaysF0.n25 P ρ) (C : Cx P ρ enc k cf g cb blk off n d0 w0) (hO : SWO lt) (hE : Alike (ltOf cf) lt) (cap : Nat) {a b : Nat} {d : Array α} {w : World} (hF : Fine lt d) (hs : d.size = n) (S : SWK enc k w0 blk off d w) (hab : a < b) (hb : b ≤ n) (hB : Below lt a b d) :
    Calls P (ρ.f 25) #[.slice (some ⟨blk, off, none⟩) n cap, .int .i64 a, .int .i64 b, .func (.func g) #[] cb] w fun e w' => ∃ (q : Bool) (d' : Array α), e = .returned (.bool q) ∧ SWK enc k w0 blk off d' w' ∧ PermIn a b d d' ∧ (q = true → SortedIn lt a b d') := by
 subst hs
 have e := partialInsertionSort_alike hE hF.no hab hb
 have q := partialInsertionSort_holds hO d a b hab hb hB
 refine (AnyQ.partialInsertionSortCmpFunc L k C.aE C.zE enc cf g cb blk off cap a b d0 d w0 w C.eg C.hcmp C.R C.hn S hab hb C.hsz).mono ?_
 rintro _ _ ⟨rfl, h⟩
 rw [e] at h ⊢
 exact ⟨_, _, rfl, h, q.1, q.2⟩
def Parted (lt : α → α → Bool) (a b mid : Nat) (d d4 : Array α) : Prop :=
 a ≤ mid ∧ mid < b ∧ PermIn a b d d4 ∧ Below lt a mid d4 ∧ Below lt (mid + 1) b d4 ∧
  (∀ L, PermIn a mid d4 L → SortedIn lt a mid L → Below lt (mid + 1) b L ∧ ∀ R, PermIn (mid + 1) b L R → SortedIn lt (mid + 1) b R → PermIn a b d R ∧ SortedIn lt a b R) ∧
  (∀ L, PermIn (mid + 1) b d4 L → SortedIn lt (mid + 1) b L → Below lt a mid L ∧ ∀ R, PermIn a mid L R → SortedIn lt a mid R → PermIn a b d R ∧ SortedIn lt a b R)
theorem srt_part (L : SlLaysF0.n27 P ρ) (C : Cx P ρ enc k cf g cb blk off n d0 w0) (hO : SWO lt) (hE : Alike (ltOf cf) lt) (cap : Nat) {a b p : Nat} {d : Array α} {w : World} (hF : Fine lt d) (hs : d.size = n) (S : SWK enc k w0 blk off d w) (h1 : a ≤ p) (h2 : p < b) (hb : b ≤ n) (hB : Below lt a b d) :
    Calls P (ρ.f 27) #[.slice (some ⟨blk, off, none⟩) n cap, .int .i64 a, .int .i64 b, .int .i64 p, .func (.func g) #[] cb] w fun e w' => ∃ (mid : Nat) (q : Bool) (d' : Array α), e = .returned (.tuple #[.int .i64 mid, .bool q]) ∧ SWK enc k w0 blk off d' w' ∧ Parted lt a b mid d d' := by
 subst hs
 have e := partition_alike hE hF.no h1 h2 hb
 obtain ⟨mid, ap, d4, hx⟩ : ∃ mid ap d4, Sort.partition lt d a b p = (mid, ap, d4) := ⟨_, _, _, rfl⟩
 obtain ⟨r1, r2, r3, r4, r5, r6, r7⟩ := round_part hO (partition_holds lt) h1 h2 hb hB hx
 have q := (partition_holds lt hO d a b p h1 h2 hb).2.2.1
 refine (AnyQ.partitionCmpFunc L k C.aE C.zE enc cf g cb blk off cap a b p d0 d w0 w C.eg C.hcmp C.R C.hn S h1 h2 hb C.hsz).mono ?_
 rintro _ _ ⟨rfl, h⟩
 rw [e, hx] at h ⊢
 rw [hx] at q
 exact ⟨mid, ap, d4, rfl, h, r1, r2, q, r4, r5, r6, r7⟩
end
end Go.Proofs.YtjcdkbalhleeeaaGreatDoor
