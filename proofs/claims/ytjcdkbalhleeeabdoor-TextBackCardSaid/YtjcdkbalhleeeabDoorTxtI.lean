/-
  The library's Split and ParseInt, laid at this program, and text.numbers walked. Conditions: the library's variables hold what its text lays; the texts are of a machine's size.
-/
import Derived.Test.YtjcdkbalhleeeabDoorTxtG
import Derived.Shelf.Strings.SplitShaped
import Derived.Shelf.Strconv.ErrVarParseInt
namespace Go.Proofs
open Go.Shelf
shelf_lay LaysM.n146 Nm 146 at Tryd as Tryd.lays146
shelf_lay LaysC.n174 Nm 174 at Tryd as Tryd.lays174
end Go.Proofs
namespace Go.Proofs.YtjcdkbalhleeeabDoor
open Go.Proofs Go.RowKit
open Go.Lib (itoa join)

/-- The library's two errors stand in their variables. -/
def Errs (w : World) : Prop := ∃ t1 p1 t2 p2, ∀ w', Below w.heap.size w w' → w'.var? Tryd.prog "strconv.ErrSyntax" = some #[.iface t1 p1] ∧ w'.var? Tryd.prog "strconv.ErrRange" = some #[.iface t2 p2]
theorem Errs.below {w w' : World} (h : Errs w) (hb : Below w.heap.size w w') : Errs w' := by
  obtain ⟨t1, p1, t2, p2, h⟩ := h
  exact ⟨t1, p1, t2, p2, fun w'' h' => h w'' (hb.trans (h'.mono hb.size))⟩
theorem below_bytes (w : World) (t : TypeId) (s : ByteArray) : Below w.heap.size w (Lib.bytesWorld w t s) :=
  ⟨rfl, rfl, rfl, by rw [Lib.bytesWorld_size]; omega, fun j hj => Lib.bytesWorld_at_old w t s j hj⟩
theorem parse_int (s : List UInt8) (w : World) (hs : s.length ≤ 1099511627776) (he : Errs w) :
    Calls Tryd.prog 42 #[.string (bs s), .int .i64 10, .int .i64 64] w fun e w' => Below w.heap.size w w' ∧
      ((∃ n, Lib.parseIntB 64 s = .ok n ∧ e = .returned (.tuple #[.int .i64 n, .nilIface])) ∨ ((∀ n, Lib.parseIntB 64 s ≠ .ok n) ∧ ∃ n t p, e = .returned (.tuple #[.int .i64 n, .iface t p]))) := by
  obtain ⟨t1, p1, t2, p2, he⟩ := he
  obtain ⟨he1, he2⟩ := he w (Below.refl _ _)
  have hd : (bs s).data.toList = s := bs_data s
  have hz : (bs s).size = s.length := bs_size s
  cases h : Lib.parseIntB 64 s with
  | ok n =>
    refine (Any.strconv_ParseInt_10_at64_ok Tryd.lays174 (bs s) (by omega) n (by rw [hd]; exact h) w).mono ?_
    rintro e w' ⟨rfl, rfl | ⟨t, rfl⟩⟩
    · exact ⟨Below.refl _ _, Or.inl ⟨n, rfl, rfl⟩⟩
    · exact ⟨below_bytes _ _ _, Or.inl ⟨n, rfl, rfl⟩⟩
  | «syntax» =>
    refine (Any.strconv_ParseInt_10_at64_syntax_var Tryd.lays174 (bs s) (by omega) (by rw [hd]; exact h) t1 p1 w he1).mono ?_
    rintro e w' ⟨N, rfl, _, _, hb⟩
    exact ⟨hb, Or.inr ⟨by simp, _, _, _, rfl⟩⟩
  | range =>
    refine (Any.strconv_ParseInt_10_at64_range_var Tryd.lays174 (bs s) (by omega) (by rw [hd]; exact h) t2 p2 w he2).mono ?_
    rintro e w' ⟨N, rfl, _, _, hb⟩
    exact ⟨hb, Or.inr ⟨by simp, _, _, _, rfl⟩⟩
/-- The library's bound stands in its variable. -/
def MaxL (w : World) : Prop := ∃ m, ∀ w', Below w.heap.size w w' → w'.cell? ⟨1, 0, none⟩ = some (.int .i64 m)
theorem MaxL.below {w w' : World} (h : MaxL w) (hb : Below w.heap.size w w') : MaxL w' := by
  obtain ⟨m, h⟩ := h
  exact ⟨m, fun w'' h' => h w'' (hb.trans (h'.mono hb.size))⟩
theorem split_cut (s : List UInt8) (c : UInt8) : Lib.splitB (bs [c]) 0 (Lib.countB (bs s) (bs [c])) (bs s) = (cutB c s).map bs ∧ Lib.countB (bs s) (bs [c]) + 1 = (cutB c s).length := by
  have hc : Lib.countB (bs s) (bs [c]) = s.count c := by
    show Lib.count (bs s).data.toList (bs [c]).data.toList = _
    rw [bs_data, bs_data, Lib.count_one]
  have h1 := Lib.splitB_data (bs [c]) 0 (Lib.countB (bs s) (bs [c])) (bs s)
  rw [bs_data, bs_data, hc, splitK_cut c s.length s (Nat.le_refl _)] at h1
  refine ⟨?_, by rw [hc, cutB_length]⟩
  rw [hc, ← h1, List.map_map]
  conv => lhs; rw [← List.map_id (Lib.splitB (bs [c]) 0 (s.count c) (bs s))]
  exact List.map_congr_left fun x _ => (bs_of x).symm
theorem strings_Split (s : List UInt8) (c : UInt8) (w : World) (hs : s.length ≤ 1073741824) (hw : MaxL w) :
    Calls Tryd.prog 21 #[.string (bs s), .string (bs [c])] w fun e w' => ∃ A cap, e = .returned (.slice A (cutB c s).length cap) ∧ Sd w' A cap (cutB c s) ∧ Below w.heap.size w w' ∧ ∀ ad, A = some ad → w.heap.size ≤ ad.block := by
  obtain ⟨m, hm⟩ := hw
  obtain ⟨h1, h2⟩ := split_cut s c
  refine (Any.strings_Split { Tryd.lays146 with } Tryd.lays146.i9 (bs s) (bs [c]) m w (by rw [bs_size]; omega) (hm w (Below.refl _ _)) (by rw [bs_size]; simp)).mono ?_
  rintro e w' ⟨rfl, rfl⟩
  rw [h1, h2]
  refine ⟨_, _, rfl, ⟨Nat.le_refl _, ?_, fun h0 => ⟨_, rfl, fun j u hu => ?_⟩⟩, (Below.refl _ _).alloc (Nat.le_refl _) _, fun ad e => by cases e; exact Nat.le_refl _⟩
  · have := cut_small (c := c) (s := s); omega
  · rw [addzG, cell_of_row _ w.heap.size j _ _ (0, 0) (heap_alloc_new w _), List.map_map]
    simpa using hu
end Go.Proofs.YtjcdkbalhleeeabDoor
